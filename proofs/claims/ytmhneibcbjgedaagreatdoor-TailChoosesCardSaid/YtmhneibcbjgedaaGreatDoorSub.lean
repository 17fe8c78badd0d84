/- The contracts of Whole.Add (all ways), Whole.Sub and Whole.Cmp. -/
import Derived.Test.YtmhneibcbjgedaaGreatDoorAdd
import Derived.Outline
import Derived.Deep.DeepCutAuto
import Derived.Deep.LoopGhost
set_option linter.unusedSimpArgs false
set_option linter.unusedVariables false
namespace Go.Proofs.YtmhneibcbjgedaaGreatDoor
open Go.RowKit

/-- An integer that has not more limbs than any machine's memory could hold twice. -/
def Fit (n : Int) : Prop := (limbs n.natAbs).length ≤ 1073741824

theorem Fit.neg {n : Int} (h : Fit n) : Fit (-n) := by unfold Fit at *; rwa [Int.natAbs_neg]

theorem Wh.parts {w : World} {v : Value} {n : Int} (h : Wh w v n) : ∃ b a, ∃ k p : Nat, v = .agg #[.bool b, .slice a k p] := by
  obtain ⟨a, c, rfl, _⟩ := h.form
  exact ⟨_, _, _, _, rfl⟩

theorem Wh.drew {w : World} {v : Value} {n : Int} (h : Wh w v n) : Wh w.drew v n := by
  obtain ⟨sv, h1, h2⟩ := h
  exact ⟨sv, h1, h2⟩
theorem Wh.drawn {w w' : World} {v : Value} {n : Int} (h : Wh w v n) (hd : Drawn w w') : Wh w' v n := by
  obtain ⟨sv, h1, h2⟩ := h
  exact ⟨sv, h1, h2.drawn hd⟩

/-- One step more behind a world. -/
theorem next_below {a b c : World} (h : Below a.heap.size a b) (hb : Below b.heap.size b c) : Below a.heap.size a c := h.trans (hb.mono h.size)
theorem keepc {W w' : World} {b o : Nat} {v : Value} (h : Below W.heap.size W w') (x : W.cell? ⟨b, o, none⟩ = some v) (hb : b < W.heap.size) : w'.cell? ⟨b, o, none⟩ = some v := (h.cell (p := ⟨b, o, none⟩) hb).trans x

set_option maxHeartbeats 1000000 in
theorem add_any {w : World} {v1 v2 : Value} {m n : Int} (h1 : Wh w v1 m) (h2 : Wh w v2 n) (s1 : Fit m) (s2 : Fit n) :
    Calls Tryz.prog 53 #[v1, v2] w (RetW w (m + n)) := by
  obtain ⟨a1, p1, rfl, g1⟩ := h1.form
  obtain ⟨a2, p2, rfl, g2⟩ := h2.form
  have o1 := limbs_ok m.natAbs
  have o2 := limbs_ok n.natAbs
  have k1 := limbs_last m.natAbs
  have k2 := limbs_last n.natAbs
  by_cases hbc : decide (m < 0) = decide (n < 0)
  · have h := add_same (decide (m < 0)) (decide (n < 0)) (by simp [hbc]) g1 g2 o1 o2 k1 k2 s1 s2
    rw [val_limbs, val_limbs] at h
    have e : sg (decide (m < 0)) (m.natAbs + n.natAbs) = m + n := by
      have := decide_eq_decide.1 hbc
      by_cases hm : m < 0 <;> simp [sg, hm] <;> omega
    rwa [e] at h
  · have hbc' : (decide (m < 0) == decide (n < 0)) = false := by simpa using hbc
    have hne : ¬ ((m < 0) ↔ (n < 0)) := fun e => hbc (decide_eq_decide.2 e)
    rcases Nat.lt_or_ge m.natAbs n.natAbs with hlt | hge
    · have h := add_less (decide (m < 0)) (decide (n < 0)) hbc' g1 g2 o1 o2 k1 k2 s1 s2 (by rw [val_limbs, val_limbs]; exact sgn_lt hlt) (limbs_len_mono (by omega)) (by rw [val_limbs, val_limbs]; omega)
      rw [val_limbs, val_limbs] at h
      have e : sg (decide (n < 0)) (n.natAbs - m.natAbs) = m + n := by
        by_cases hm : n < 0 <;> simp [sg, hm] <;> omega
      rwa [e] at h
    · have hs : 0 ≤ sgn m.natAbs n.natAbs ∧ sgn m.natAbs n.natAbs ≤ 1 := by unfold sgn; split; omega; split <;> omega
      have h := add_more (decide (m < 0)) (decide (n < 0)) hbc' g1 g2 o1 o2 k1 k2 s1 s2 _ hs.1 hs.2 (by rw [val_limbs, val_limbs]) (limbs_len_mono hge) (by rw [val_limbs, val_limbs]; exact hge)
      rw [val_limbs, val_limbs] at h
      have e : sg (decide (m < 0)) (m.natAbs - n.natAbs) = m + n := by
        by_cases hm : m < 0 <;> simp [sg, hm] <;> omega
      rwa [e] at h

set_option maxHeartbeats 1000000 in
set_option maxRecDepth 100000 in
theorem sub_any {w : World} {v1 v2 : Value} {m n : Int} (h1 : Wh w v1 m) (h2 : Wh w v2 n) (s1 : Fit m) (s2 : Fit n) :
    Calls Tryz.prog 131 #[v1, v2] w (RetW w (m - n)) := by
  obtain ⟨b, a1, k1, p1, rfl⟩ := h1.parts
  obtain ⟨c, a2, k2, p2, rfl⟩ := h2.parts
  obtain ⟨W, hW, hB, hsz, j1, j2, j3⟩ := ent3 w 65 #[.bool b, .slice a1 k1 p1] #[.bool c, .slice a2 k2 p2] #[.bool false, .slice none 0 0]
  have HW := Lib.hid hW
  clear hW
  have m1 := h1.below hB
  have m2 := h2.below hB
  have x0 := j1.cell0
  have x1 := j1.cell1
  have y0 := j2.cell0
  have y1 := j2.cell1
  have hlt : w.heap.size < W.heap.size := by omega
  go_enter Tryz.func131, Tryz.ntmps131
  go_wp2
  rw [← HW.out]
  go_region_held3 (fun w' => w'.cell? ⟨w.heap.size, 0, none⟩ = some (.bool b) ∧ w'.cell? ⟨w.heap.size, 1, none⟩ = some (.slice a1 k1 p1) ∧ w'.cell? ⟨w.heap.size + 1, 0, none⟩ = some (.bool c) ∧ w'.cell? ⟨w.heap.size + 1, 1, none⟩ = some (.slice a2 k2 p2)) (first | (refine ⟨?_, ?_, ?_, ?_⟩ <;> first | assumption | (rw [two_far] <;> first | assumption | omega)) | go_keep)
    (first | (go_at_call 135; refine (neg_any m2.drew).mono ?_; rintro e w1 ⟨r, rfl, hr, hb⟩; obtain ⟨b3, a3, k3, p3, rfl⟩ := hr.parts; have n1 := m1.drew.below hb; have q1 := j1.drew.below hb j1.lt; have q2 := j2.drew.below hb j2.lt; have q3 := j3.drew.below hb j3.lt; have e0 := q1.cell0; have e1 := q1.cell1; have e2 := q2.cell0; have e3 := q2.cell1)
           | (go_at_call 53; refine (add_any n1 hr s1 s2.neg).mono ?_; rintro e w2 ⟨r2, rfl, hr2, hb2⟩; obtain ⟨b4, a4, k4, p4, rfl⟩ := hr2.parts; have r1 := q1.below hb2 q1.lt; have r2 := q2.below hb2 q2.lt; have r3 := q3.below hb2 q3.lt; have t0 := r1.cell0; have t1 := r1.cell1; have t2 := r2.cell0; have t3 := r2.cell1; have t4 := r3.cell0; have t5 := r3.cell1; have t6 := r3.frozen 0; have t7 := r3.frozen 1))
  go_wp2
  have hB4 := r3.two (.bool b4) (.slice a4 k4 p4)
  have d0 := hB4.cell0
  have d1 := hB4.cell1
  refine bodyPost_ret (v := .agg #[.bool b4, .slice a4 k4 p4]) (by simp [results, Tryz.results131, go_sem, d0, d1]) rfl ⟨_, rfl, ?_, ?_⟩
  · rw [Int.sub_eq_add_neg]; exact hr2.two r3 (by decide) _ _
  · exact below_two (((hB.drew).trans (hb.mono hB.size)).trans (hb2.mono (by have h1 := hB.size; have h2 := hb.size; simp at h2; omega))) (by omega) _ _

theorem compareZ (a b : Int) (w : World) : Calls Tryz.prog 136 #[.int .i64 a, .int .i64 b] w fun e w' => e = .returned (.int .i64 (a - b).sign) ∧ w = w' := by
  rcases Int.lt_trichotomy a b with h | h | h
  · rw [Int.sign_eq_neg_one_of_neg (show a - b < 0 by omega)]
    go_enter Tryz.func136, Tryz.ntmps136
    go_wp2_with (go_at_call 154; refine (isNaNint _ _).mono ?_; rintro e w' ⟨rfl, rfl⟩)
    go_ret
    exact ⟨rfl, rfl⟩
  · subst h
    rw [Int.sub_self, show (0 : Int).sign = 0 from rfl]
    go_enter Tryz.func136, Tryz.ntmps136
    go_wp2_with (go_at_call 154; refine (isNaNint _ _).mono ?_; rintro e w' ⟨rfl, rfl⟩)
    go_ret
    exact ⟨rfl, rfl⟩
  · rw [Int.sign_eq_one_of_pos (show 0 < a - b by omega)]
    go_enter Tryz.func136, Tryz.ntmps136
    go_wp2_with (go_at_call 154; refine (isNaNint _ _).mono ?_; rintro e w' ⟨rfl, rfl⟩)
    go_ret
    exact ⟨rfl, rfl⟩

theorem limbs_len_zero {n : Int} : (limbs n.natAbs).length = 0 ↔ n = 0 := by
  constructor
  · intro h
    have := limbs_eq_nil.1 (List.length_eq_zero_iff.1 h)
    omega
  · rintro rfl; rfl

theorem sgn_far {m n : Int} (h : m.sign ≠ n.sign) : (m.sign - n.sign).sign = (m - n).sign := by
  rcases Int.lt_trichotomy m 0 with hm | hm | hm <;> rcases Int.lt_trichotomy n 0 with hn | hn | hn
  · exact absurd ((Int.sign_eq_neg_one_of_neg hm).trans (Int.sign_eq_neg_one_of_neg hn).symm) h
  · subst hn; simp [Int.sign_eq_neg_one_of_neg hm]
  · rw [Int.sign_eq_neg_one_of_neg hm, Int.sign_eq_one_of_pos hn, Int.sign_eq_neg_one_of_neg (show m - n < 0 by omega)]; rfl
  · subst hm; rw [Int.sign_eq_neg_one_of_neg hn, Int.sign_eq_one_of_pos (show 0 < 0 - n by omega)]; rfl
  · subst hm; subst hn; exact absurd rfl h
  · subst hm; rw [Int.sign_eq_one_of_pos hn, Int.sign_eq_neg_one_of_neg (show 0 - n < 0 by omega)]; rfl
  · rw [Int.sign_eq_neg_one_of_neg hn, Int.sign_eq_one_of_pos hm, Int.sign_eq_one_of_pos (show 0 < m - n by omega)]; rfl
  · subst hn; simp [Int.sign_eq_one_of_pos hm]
  · exact absurd ((Int.sign_eq_one_of_pos hm).trans (Int.sign_eq_one_of_pos hn).symm) h
theorem sgn_fwd {m n : Int} (hm : 0 < m) (hn : 0 < n) : sgn m.natAbs n.natAbs = (m - n).sign := by
  rcases Int.lt_trichotomy m n with h | h | h
  · rw [Int.sign_eq_neg_one_of_neg (show m - n < 0 by omega)]; exact sgn_lt (by omega)
  · subst h; rw [Int.sub_self]; exact sgn_self _
  · rw [Int.sign_eq_one_of_pos (show 0 < m - n by omega)]; exact sgn_gt (by omega)
theorem sgn_rev {m n : Int} (hm : m < 0) (hn : n < 0) : sgn n.natAbs m.natAbs = (m - n).sign := by
  rcases Int.lt_trichotomy m n with h | h | h
  · rw [Int.sign_eq_neg_one_of_neg (show m - n < 0 by omega)]; exact sgn_lt (by omega)
  · subst h; rw [Int.sub_self]; exact sgn_self _
  · rw [Int.sign_eq_one_of_pos (show 0 < m - n by omega)]; exact sgn_gt (by omega)

set_option maxHeartbeats 1000000 in
set_option maxRecDepth 100000 in
theorem cmp_any {w : World} {v1 v2 : Value} {m n : Int} (h1 : Wh w v1 m) (h2 : Wh w v2 n) :
    Calls Tryz.prog 101 #[v1, v2] w (RetV w (.int .i64 (m - n).sign)) := by
  obtain ⟨a1, p1, rfl, g1⟩ := h1.form
  obtain ⟨a2, p2, rfl, g2⟩ := h2.form
  have hz : (((limbs m.natAbs).length : Int) == 0) = decide (m = 0) := by
    have h0 := @limbs_len_zero m
    by_cases h : m = 0
    · simp [h, limbs]; rfl
    · have h1 : (limbs m.natAbs).length ≠ 0 := fun e => h (h0.1 e)
      simp [h]; intro e; rw [e] at h1; simp at h1
  have c1 := fun (W : World) h h' => compare_any (w := W) (g1.below (w' := W) h) (g2.below (w' := W) h') (limbs_ok _) (limbs_ok _) (limbs_last _) (limbs_last _)
  have c2 := fun (W : World) h h' => compare_any (w := W) (g2.below (w' := W) h) (g1.below (w' := W) h') (limbs_ok _) (limbs_ok _) (limbs_last _) (limbs_last _)
  rw [val_limbs, val_limbs] at c1 c2
  generalize (limbs m.natAbs).length = k1 at *
  generalize (limbs n.natAbs).length = k2 at *
  have C1 := Lib.hid c1
  have C2 := Lib.hid c2
  clear g1 g2 c1 c2
  obtain ⟨W, hW, hB, hsz, j1, j2⟩ := ent2 w 65 #[.bool (decide (m < 0)), .slice a1 k1 p1] #[.bool (decide (n < 0)), .slice a2 k2 p2]
  have HW := Lib.hid hW
  clear hW
  generalize hb1 : decide (m < 0) = b at *
  generalize hb2 : decide (n < 0) = c at *
  have HB1 := Lib.hid hb1
  have HB2 := Lib.hid hb2
  clear hb1 hb2
  have m1 := h1.below hB
  have m2 := h2.below hB
  have x0 := j1.cell0
  have x1 := j1.cell1
  have y0 := j2.cell0
  have y1 := j2.cell1
  have hlt : w.heap.size < W.heap.size := by omega
  clear h1 h2
  go_enter Tryz.func101, Tryz.ntmps101
  go_upto_region 1 with fail
  rw [← HW.out]
  go_cut [5] (fun cc wc => cc = .int .i64 (m.sign - n.sign).sign ∧ Below w.heap.size w wc ∧ Blk wc w.heap.size 65 #[.bool b, .slice a1 k1 p1] ∧ Blk wc (w.heap.size + 1) 65 #[.bool c, .slice a2 k2 p2])
  case first =>
    have hk0 : Below W.heap.size W W.drew := (Below.refl _ _).drew
    have b0 : w.heap.size < W.heap.size := by omega
    have b1 : w.heap.size + 1 < W.heap.size := by omega
    go_region_held3 (fun w' => w'.cell? ⟨w.heap.size, 0, none⟩ = some (.bool b) ∧ w'.cell? ⟨w.heap.size, 1, none⟩ = some (.slice a1 k1 p1) ∧ w'.cell? ⟨w.heap.size + 1, 0, none⟩ = some (.bool c) ∧ w'.cell? ⟨w.heap.size + 1, 1, none⟩ = some (.slice a2 k2 p2)) (first | (refine ⟨?_, ?_, ?_, ?_⟩ <;> first | assumption | exact keepc (by assumption) (by assumption) (by assumption)) | go_keep)
      (first
        | (go_at_call_of 126 (Value.agg #[Value.bool b, Value.slice a1 k1 p1]); refine (sign_any (m1.below (by assumption))).mono ?_; rintro e w1 ⟨rfl, hb⟩; have hk1 : Below W.heap.size W w1 := next_below (by assumption) hb)
        | (go_at_call_of 126 (Value.agg #[Value.bool c, Value.slice a2 k2 p2]); refine (sign_any (m2.below (by assumption))).mono ?_; rintro e w1 ⟨rfl, hb⟩; have hk1 : Below W.heap.size W w1 := next_below (by assumption) hb)
        | (go_at_call 136; refine (compareZ _ _ _).mono ?_; rintro e w' ⟨rfl, rfl⟩))
    all_goals go_wp2_with fail
    all_goals go_meet
    all_goals exact ⟨rfl, hB.trans (Below.mono (by assumption : Below W.heap.size W _) hB.size), j1.below (by assumption) j1.lt, j2.below (by assumption) j2.lt⟩
  case rest =>
    obtain ⟨rfl, hBc, i1, i2⟩ := hcut
    have x0 := i1.cell0
    have x1 := i1.cell1
    have y0 := i2.cell0
    have y1 := i2.cell1
    have HZ := Lib.hid hz
    clear hz
    by_cases hs : m.sign = n.sign
    · have e0 : (m.sign - n.sign).sign = 0 := by rw [hs, Int.sub_self]; rfl
      rw [e0]
      rcases Int.lt_trichotomy m 0 with hm | hm | hm
      · have hn : n < 0 := by rw [Int.sign_eq_neg_one_of_neg hm] at hs; exact Int.sign_eq_neg_one_iff_neg.1 hs.symm
        have eb : b = true := by have := HB1.out; simpa [hm] using this.symm
        subst eb
        have hz' : ((k1 : Int) == 0) = false := by rw [HZ.out]; simp; omega
        have er : sgn n.natAbs m.natAbs = (m - n).sign := sgn_rev hm hn
        clear hs e0 hm hn
        go_wp2_with (go_at_call 106; refine (C2.out _ (by first | assumption | exact hBc.drew) (by first | assumption | exact hBc.drew)).mono ?_; rintro e w1 ⟨rfl, hd⟩)
        go_ret
        exact ⟨rfl, (by first | assumption | exact hBc.drew : Below w.heap.size w _).trans (hd.below _)⟩
      · subst hm
        have hn : n = 0 := by simpa using hs.symm
        subst hn
        have hz' : ((k1 : Int) == 0) = true := by rw [HZ.out]; rfl
        clear hs e0
        go_wp2
        go_ret
        exact ⟨rfl, by first | assumption | exact hBc.drew⟩
      · have hn : 0 < n := by rw [Int.sign_eq_one_of_pos hm] at hs; exact Int.sign_eq_one_iff_pos.1 hs.symm
        have eb : b = false := by have := HB1.out; rw [← this]; simp; omega
        subst eb
        have hz' : ((k1 : Int) == 0) = false := by rw [HZ.out]; simp; omega
        have er : sgn m.natAbs n.natAbs = (m - n).sign := sgn_fwd hm hn
        clear hs e0 hm hn
        go_wp2_with (go_at_call 106; refine (C1.out _ (by first | assumption | exact hBc.drew) (by first | assumption | exact hBc.drew)).mono ?_; rintro e w1 ⟨rfl, hd⟩)
        go_ret
        exact ⟨rfl, (by first | assumption | exact hBc.drew : Below w.heap.size w _).trans (hd.below _)⟩
    · have e0 : (m.sign - n.sign).sign = (m - n).sign := sgn_far hs
      rw [e0]
      have e1 : ((m - n).sign != 0) = true := by simp; intro e; apply hs; rw [show m = n by omega]
      generalize (m - n).sign = s at *
      clear hs e0
      go_wp2
      go_ret
      exact ⟨rfl, by first | assumption | exact hBc.drew⟩

end Go.Proofs.YtmhneibcbjgedaaGreatDoor
