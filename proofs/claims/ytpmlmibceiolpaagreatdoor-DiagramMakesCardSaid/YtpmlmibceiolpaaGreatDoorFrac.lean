/- The contracts of Whole.Add (all ways), Whole.Sub and Whole.Cmp. -/
import Derived.Test.YtpmlmibceiolpaaGreatDoorAdd
import Derived.Outline
import Derived.Deep.DeepCutAuto
import Derived.Deep.LoopGhost
import Derived.Test.YtpmlmibceiolpaaGreatDoorWhole
set_option linter.unusedSimpArgs false
set_option linter.unusedVariables false
namespace Go.Proofs.YtpmlmibceiolpaaGreatDoor
open Go.RowKit

/-- An integer that has not more limbs than any machine's memory could hold twice. -/
def Fit (n : Int) : Prop := (limbs n.natAbs).length ≤ 1073741824

theorem Fit.neg {n : Int} (h : Fit n) : Fit (-n) := by unfold Fit at *; rwa [Int.natAbs_neg]

theorem Wh.parts {w : World} {v : Value} {n : Int} (h : Wh w v n) : ∃ b a, ∃ k p : Nat, v = .agg #[.bool b, .slice a k p] := by
  obtain ⟨a, c, rfl, _⟩ := h.form
  exact ⟨_, _, _, _, rfl⟩

theorem Wh.drew {w : World} {v : Value} {n : Int} (h : Wh w v n) : Wh w.drew v n := by
  obtain ⟨sv, h1, h2⟩ := h
  exact ⟨sv, h1, h2⟩
theorem Wh.drawn {w w' : World} {v : Value} {n : Int} (h : Wh w v n) (hd : Drawn w w') : Wh w' v n := by
  obtain ⟨sv, h1, h2⟩ := h
  exact ⟨sv, h1, h2.drawn hd⟩

/-- One step more behind a world. -/
theorem next_below {a b c : World} (h : Below a.heap.size a b) (hb : Below b.heap.size b c) : Below a.heap.size a c := h.trans (hb.mono h.size)
theorem keepc {W w' : World} {b o : Nat} {v : Value} (h : Below W.heap.size W w') (x : W.cell? ⟨b, o, none⟩ = some v) (hb : b < W.heap.size) : w'.cell? ⟨b, o, none⟩ = some v := (h.cell (p := ⟨b, o, none⟩) hb).trans x

set_option maxHeartbeats 1000000 in
theorem add_any {w : World} {v1 v2 : Value} {m n : Int} (h1 : Wh w v1 m) (h2 : Wh w v2 n) (s1 : Fit m) (s2 : Fit n) :
    Calls Tryz.prog 79 #[v1, v2] w (RetW w (m + n)) := by
  obtain ⟨a1, p1, rfl, g1⟩ := h1.form
  obtain ⟨a2, p2, rfl, g2⟩ := h2.form
  have o1 := limbs_ok m.natAbs
  have o2 := limbs_ok n.natAbs
  have k1 := limbs_last m.natAbs
  have k2 := limbs_last n.natAbs
  by_cases hbc : decide (m < 0) = decide (n < 0)
  · have h := add_same (decide (m < 0)) (decide (n < 0)) (by simp [hbc]) g1 g2 o1 o2 k1 k2 s1 s2
    rw [val_limbs, val_limbs] at h
    have e : sg (decide (m < 0)) (m.natAbs + n.natAbs) = m + n := by
      have := decide_eq_decide.1 hbc
      by_cases hm : m < 0 <;> simp [sg, hm] <;> omega
    rwa [e] at h
  · have hbc' : (decide (m < 0) == decide (n < 0)) = false := by simpa using hbc
    have hne : ¬ ((m < 0) ↔ (n < 0)) := fun e => hbc (decide_eq_decide.2 e)
    rcases Nat.lt_or_ge m.natAbs n.natAbs with hlt | hge
    · have h := add_less (decide (m < 0)) (decide (n < 0)) hbc' g1 g2 o1 o2 k1 k2 s1 s2 (by rw [val_limbs, val_limbs]; exact sgn_lt hlt) (limbs_len_mono (by omega)) (by rw [val_limbs, val_limbs]; omega)
      rw [val_limbs, val_limbs] at h
      have e : sg (decide (n < 0)) (n.natAbs - m.natAbs) = m + n := by
        by_cases hm : n < 0 <;> simp [sg, hm] <;> omega
      rwa [e] at h
    · have hs : 0 ≤ sgn m.natAbs n.natAbs ∧ sgn m.natAbs n.natAbs ≤ 1 := by unfold sgn; split; omega; split <;> omega
      have h := add_more (decide (m < 0)) (decide (n < 0)) hbc' g1 g2 o1 o2 k1 k2 s1 s2 _ hs.1 hs.2 (by rw [val_limbs, val_limbs]) (limbs_len_mono hge) (by rw [val_limbs, val_limbs]; exact hge)
      rw [val_limbs, val_limbs] at h
      have e : sg (decide (m < 0)) (m.natAbs - n.natAbs) = m + n := by
        by_cases hm : m < 0 <;> simp [sg, hm] <;> omega
      rwa [e] at h

set_option maxHeartbeats 1000000 in
set_option maxRecDepth 100000 in
theorem sub_any {w : World} {v1 v2 : Value} {m n : Int} (h1 : Wh w v1 m) (h2 : Wh w v2 n) (s1 : Fit m) (s2 : Fit n) :
    Calls Tryz.prog 141 #[v1, v2] w (RetW w (m - n)) := by
  obtain ⟨b, a1, k1, p1, rfl⟩ := h1.parts
  obtain ⟨c, a2, k2, p2, rfl⟩ := h2.parts
  obtain ⟨W, hW, hB, hsz, j1, j2, j3⟩ := ent3 w 86 #[.bool b, .slice a1 k1 p1] #[.bool c, .slice a2 k2 p2] #[.bool false, .slice none 0 0]
  have HW := Lib.hid hW
  clear hW
  have m1 := h1.below hB
  have m2 := h2.below hB
  have x0 := j1.cell0
  have x1 := j1.cell1
  have y0 := j2.cell0
  have y1 := j2.cell1
  have hlt : w.heap.size < W.heap.size := by omega
  go_enter Tryz.func141, Tryz.ntmps141
  go_wp2
  rw [← HW.out]
  go_region_held3 (fun w' => w'.cell? ⟨w.heap.size, 0, none⟩ = some (.bool b) ∧ w'.cell? ⟨w.heap.size, 1, none⟩ = some (.slice a1 k1 p1) ∧ w'.cell? ⟨w.heap.size + 1, 0, none⟩ = some (.bool c) ∧ w'.cell? ⟨w.heap.size + 1, 1, none⟩ = some (.slice a2 k2 p2)) (first | (refine ⟨?_, ?_, ?_, ?_⟩ <;> first | assumption | (rw [two_far] <;> first | assumption | omega)) | go_keep)
    (first | (go_at_call 116; refine (neg_any m2.drew).mono ?_; rintro e w1 ⟨r, rfl, hr, hb⟩; obtain ⟨b3, a3, k3, p3, rfl⟩ := hr.parts; have n1 := m1.drew.below hb; have q1 := j1.drew.below hb j1.lt; have q2 := j2.drew.below hb j2.lt; have q3 := j3.drew.below hb j3.lt; have e0 := q1.cell0; have e1 := q1.cell1; have e2 := q2.cell0; have e3 := q2.cell1)
           | (go_at_call 79; refine (add_any n1 hr s1 s2.neg).mono ?_; rintro e w2 ⟨r2, rfl, hr2, hb2⟩; obtain ⟨b4, a4, k4, p4, rfl⟩ := hr2.parts; have r1 := q1.below hb2 q1.lt; have r2 := q2.below hb2 q2.lt; have r3 := q3.below hb2 q3.lt; have t0 := r1.cell0; have t1 := r1.cell1; have t2 := r2.cell0; have t3 := r2.cell1; have t4 := r3.cell0; have t5 := r3.cell1; have t6 := r3.frozen 0; have t7 := r3.frozen 1))
  go_wp2
  have hB4 := r3.two (.bool b4) (.slice a4 k4 p4)
  have d0 := hB4.cell0
  have d1 := hB4.cell1
  refine bodyPost_ret (v := .agg #[.bool b4, .slice a4 k4 p4]) (by simp [results, Tryz.results141, go_sem, d0, d1]) rfl ⟨_, rfl, ?_, ?_⟩
  · rw [Int.sub_eq_add_neg]; exact hr2.two r3 (by decide) _ _
  · exact below_two (((hB.drew).trans (hb.mono hB.size)).trans (hb2.mono (by have h1 := hB.size; have h2 := hb.size; simp at h2; omega))) (by omega) _ _

theorem compareZ (a b : Int) (w : World) : Calls Tryz.prog 142 #[.int .i64 a, .int .i64 b] w fun e w' => e = .returned (.int .i64 (a - b).sign) ∧ w = w' := by
  rcases Int.lt_trichotomy a b with h | h | h
  · rw [Int.sign_eq_neg_one_of_neg (show a - b < 0 by omega)]
    go_enter Tryz.func142, Tryz.ntmps142
    go_wp2_with (go_at_call 161; refine (isNaNint _ _).mono ?_; rintro e w' ⟨rfl, rfl⟩)
    go_ret
    exact ⟨rfl, rfl⟩
  · subst h
    rw [Int.sub_self, show (0 : Int).sign = 0 from rfl]
    go_enter Tryz.func142, Tryz.ntmps142
    go_wp2_with (go_at_call 161; refine (isNaNint _ _).mono ?_; rintro e w' ⟨rfl, rfl⟩)
    go_ret
    exact ⟨rfl, rfl⟩
  · rw [Int.sign_eq_one_of_pos (show 0 < a - b by omega)]
    go_enter Tryz.func142, Tryz.ntmps142
    go_wp2_with (go_at_call 161; refine (isNaNint _ _).mono ?_; rintro e w' ⟨rfl, rfl⟩)
    go_ret
    exact ⟨rfl, rfl⟩

theorem limbs_len_zero {n : Int} : (limbs n.natAbs).length = 0 ↔ n = 0 := by
  constructor
  · intro h
    have := limbs_eq_nil.1 (List.length_eq_zero_iff.1 h)
    omega
  · rintro rfl; rfl

theorem sgn_far {m n : Int} (h : m.sign ≠ n.sign) : (m.sign - n.sign).sign = (m - n).sign := by
  rcases Int.lt_trichotomy m 0 with hm | hm | hm <;> rcases Int.lt_trichotomy n 0 with hn | hn | hn
  · exact absurd ((Int.sign_eq_neg_one_of_neg hm).trans (Int.sign_eq_neg_one_of_neg hn).symm) h
  · subst hn; simp [Int.sign_eq_neg_one_of_neg hm]
  · rw [Int.sign_eq_neg_one_of_neg hm, Int.sign_eq_one_of_pos hn, Int.sign_eq_neg_one_of_neg (show m - n < 0 by omega)]; rfl
  · subst hm; rw [Int.sign_eq_neg_one_of_neg hn, Int.sign_eq_one_of_pos (show 0 < 0 - n by omega)]; rfl
  · subst hm; subst hn; exact absurd rfl h
  · subst hm; rw [Int.sign_eq_one_of_pos hn, Int.sign_eq_neg_one_of_neg (show 0 - n < 0 by omega)]; rfl
  · rw [Int.sign_eq_neg_one_of_neg hn, Int.sign_eq_one_of_pos hm, Int.sign_eq_one_of_pos (show 0 < m - n by omega)]; rfl
  · subst hn; simp [Int.sign_eq_one_of_pos hm]
  · exact absurd ((Int.sign_eq_one_of_pos hm).trans (Int.sign_eq_one_of_pos hn).symm) h
theorem sgn_fwd {m n : Int} (hm : 0 < m) (hn : 0 < n) : sgn m.natAbs n.natAbs = (m - n).sign := by
  rcases Int.lt_trichotomy m n with h | h | h
  · rw [Int.sign_eq_neg_one_of_neg (show m - n < 0 by omega)]; exact sgn_lt (by omega)
  · subst h; rw [Int.sub_self]; exact sgn_self _
  · rw [Int.sign_eq_one_of_pos (show 0 < m - n by omega)]; exact sgn_gt (by omega)
theorem sgn_rev {m n : Int} (hm : m < 0) (hn : n < 0) : sgn n.natAbs m.natAbs = (m - n).sign := by
  rcases Int.lt_trichotomy m n with h | h | h
  · rw [Int.sign_eq_neg_one_of_neg (show m - n < 0 by omega)]; exact sgn_lt (by omega)
  · subst h; rw [Int.sub_self]; exact sgn_self _
  · rw [Int.sign_eq_one_of_pos (show 0 < m - n by omega)]; exact sgn_gt (by omega)

set_option maxHeartbeats 1000000 in
set_option maxRecDepth 100000 in
theorem cmp_any {w : World} {v1 v2 : Value} {m n : Int} (h1 : Wh w v1 m) (h2 : Wh w v2 n) :
    Calls Tryz.prog 132 #[v1, v2] w (RetV w (.int .i64 (m - n).sign)) := by
  obtain ⟨a1, p1, rfl, g1⟩ := h1.form
  obtain ⟨a2, p2, rfl, g2⟩ := h2.form
  have hz : (((limbs m.natAbs).length : Int) == 0) = decide (m = 0) := by
    have h0 := @limbs_len_zero m
    by_cases h : m = 0
    · simp [h, limbs]; rfl
    · have h1 : (limbs m.natAbs).length ≠ 0 := fun e => h (h0.1 e)
      simp [h]; intro e; rw [e] at h1; simp at h1
  have c1 := fun (W : World) h h' => compare_any (w := W) (g1.below (w' := W) h) (g2.below (w' := W) h') (limbs_ok _) (limbs_ok _) (limbs_last _) (limbs_last _)
  have c2 := fun (W : World) h h' => compare_any (w := W) (g2.below (w' := W) h) (g1.below (w' := W) h') (limbs_ok _) (limbs_ok _) (limbs_last _) (limbs_last _)
  rw [val_limbs, val_limbs] at c1 c2
  generalize (limbs m.natAbs).length = k1 at *
  generalize (limbs n.natAbs).length = k2 at *
  have C1 := Lib.hid c1
  have C2 := Lib.hid c2
  clear g1 g2 c1 c2
  obtain ⟨W, hW, hB, hsz, j1, j2⟩ := ent2 w 86 #[.bool (decide (m < 0)), .slice a1 k1 p1] #[.bool (decide (n < 0)), .slice a2 k2 p2]
  have HW := Lib.hid hW
  clear hW
  generalize hb1 : decide (m < 0) = b at *
  generalize hb2 : decide (n < 0) = c at *
  have HB1 := Lib.hid hb1
  have HB2 := Lib.hid hb2
  clear hb1 hb2
  have m1 := h1.below hB
  have m2 := h2.below hB
  have x0 := j1.cell0
  have x1 := j1.cell1
  have y0 := j2.cell0
  have y1 := j2.cell1
  have hlt : w.heap.size < W.heap.size := by omega
  clear h1 h2
  go_enter Tryz.func132, Tryz.ntmps132
  go_upto_region 1 with fail
  rw [← HW.out]
  go_cut [5] (fun cc wc => cc = .int .i64 (m.sign - n.sign).sign ∧ Below w.heap.size w wc ∧ Blk wc w.heap.size 86 #[.bool b, .slice a1 k1 p1] ∧ Blk wc (w.heap.size + 1) 86 #[.bool c, .slice a2 k2 p2])
  case first =>
    have hk0 : Below W.heap.size W W.drew := (Below.refl _ _).drew
    have b0 : w.heap.size < W.heap.size := by omega
    have b1 : w.heap.size + 1 < W.heap.size := by omega
    go_region_held3 (fun w' => w'.cell? ⟨w.heap.size, 0, none⟩ = some (.bool b) ∧ w'.cell? ⟨w.heap.size, 1, none⟩ = some (.slice a1 k1 p1) ∧ w'.cell? ⟨w.heap.size + 1, 0, none⟩ = some (.bool c) ∧ w'.cell? ⟨w.heap.size + 1, 1, none⟩ = some (.slice a2 k2 p2)) (first | (refine ⟨?_, ?_, ?_, ?_⟩ <;> first | assumption | exact keepc (by assumption) (by assumption) (by assumption)) | go_keep)
      (first
        | (go_at_call_of 140 (Value.agg #[Value.bool b, Value.slice a1 k1 p1]); refine (sign_any (m1.below (by assumption))).mono ?_; rintro e w1 ⟨rfl, hb⟩; have hk1 : Below W.heap.size W w1 := next_below (by assumption) hb)
        | (go_at_call_of 140 (Value.agg #[Value.bool c, Value.slice a2 k2 p2]); refine (sign_any (m2.below (by assumption))).mono ?_; rintro e w1 ⟨rfl, hb⟩; have hk1 : Below W.heap.size W w1 := next_below (by assumption) hb)
        | (go_at_call 142; refine (compareZ _ _ _).mono ?_; rintro e w' ⟨rfl, rfl⟩))
    all_goals go_wp2_with fail
    all_goals go_meet
    all_goals exact ⟨rfl, hB.trans (Below.mono (by assumption : Below W.heap.size W _) hB.size), j1.below (by assumption) j1.lt, j2.below (by assumption) j2.lt⟩
  case rest =>
    obtain ⟨rfl, hBc, i1, i2⟩ := hcut
    have x0 := i1.cell0
    have x1 := i1.cell1
    have y0 := i2.cell0
    have y1 := i2.cell1
    have HZ := Lib.hid hz
    clear hz
    by_cases hs : m.sign = n.sign
    · have e0 : (m.sign - n.sign).sign = 0 := by rw [hs, Int.sub_self]; rfl
      rw [e0]
      rcases Int.lt_trichotomy m 0 with hm | hm | hm
      · have hn : n < 0 := by rw [Int.sign_eq_neg_one_of_neg hm] at hs; exact Int.sign_eq_neg_one_iff_neg.1 hs.symm
        have eb : b = true := by have := HB1.out; simpa [hm] using this.symm
        subst eb
        have hz' : ((k1 : Int) == 0) = false := by rw [HZ.out]; simp; omega
        have er : sgn n.natAbs m.natAbs = (m - n).sign := sgn_rev hm hn
        clear hs e0 hm hn
        go_wp2_with (go_at_call 119; refine (C2.out _ (by first | assumption | exact hBc.drew) (by first | assumption | exact hBc.drew)).mono ?_; rintro e w1 ⟨rfl, hd⟩)
        go_ret
        exact ⟨rfl, (by first | assumption | exact hBc.drew : Below w.heap.size w _).trans (hd.below _)⟩
      · subst hm
        have hn : n = 0 := by simpa using hs.symm
        subst hn
        have hz' : ((k1 : Int) == 0) = true := by rw [HZ.out]; rfl
        clear hs e0
        go_wp2
        go_ret
        exact ⟨rfl, by first | assumption | exact hBc.drew⟩
      · have hn : 0 < n := by rw [Int.sign_eq_one_of_pos hm] at hs; exact Int.sign_eq_one_iff_pos.1 hs.symm
        have eb : b = false := by have := HB1.out; rw [← this]; simp; omega
        subst eb
        have hz' : ((k1 : Int) == 0) = false := by rw [HZ.out]; simp; omega
        have er : sgn m.natAbs n.natAbs = (m - n).sign := sgn_fwd hm hn
        clear hs e0 hm hn
        go_wp2_with (go_at_call 119; refine (C1.out _ (by first | assumption | exact hBc.drew) (by first | assumption | exact hBc.drew)).mono ?_; rintro e w1 ⟨rfl, hd⟩)
        go_ret
        exact ⟨rfl, (by first | assumption | exact hBc.drew : Below w.heap.size w _).trans (hd.below _)⟩
    · have e0 : (m.sign - n.sign).sign = (m - n).sign := sgn_far hs
      rw [e0]
      have e1 : ((m - n).sign != 0) = true := by simp; intro e; apply hs; rw [show m = n by omega]
      generalize (m - n).sign = s at *
      clear hs e0
      go_wp2
      go_ret
      exact ⟨rfl, by first | assumption | exact hBc.drew⟩

end Go.Proofs.YtpmlmibceiolpaaGreatDoor

/- The contract of exact.Small: the integer of an int. -/
set_option linter.unusedSimpArgs false
set_option linter.unusedVariables false
namespace Go.Proofs.YtpmlmibceiolpaaGreatDoor
open Go.RowKit

theorem limbs_len_cut {N x : Nat} {xs : List Nat} (h : limbs N = xs ++ limbs x) : xs.length ≤ (limbs N).length := by
  have := congrArg List.length h
  simp at this; omega

theorem limbs_cut {N x : Nat} {xs : List Nat} (h : limbs N = xs ++ limbs x) (hx : 0 < x) : limbs N = (xs ++ [x % 1000000000]) ++ limbs (x / 1000000000) := by
  rw [h, limbs_pos hx, List.append_assoc, List.singleton_append]

theorem Row.len {w : World} {B : Nat} {v : Value} {l : List Nat} (h : Row w B v l) : ∃ a, ∃ c : Nat, v = .slice a l.length c := by
  obtain ⟨hl, h⟩ := h
  rcases h with ⟨rfl, h0⟩ | ⟨g, cap, cur, rfl, _⟩
  · exact ⟨none, 0, by rw [h0]⟩
  · exact ⟨_, cap, rfl⟩

theorem Row.nil (w : World) (B : Nat) : Row w B (.slice none 0 0) [] := World.ownsRow_nil _ _ _ _

theorem Row.ne {w : World} {B g : Nat} {v : Value} {l : List Nat} (h : Row w B v l) (hg : g < B) : some g ≠ v.ownBlock := by
  intro e
  have := World.ownsRow.lt h g e.symm
  omega

theorem Row.far {w : World} {B g i : Nat} {v u : Value} {l : List Nat} (h : Row w B v l) (hg : some g ≠ v.ownBlock) : Row (w.setCell ⟨g, i, none⟩ u) B v l :=
  World.ownsRow.kept (row := some g) h ⟨rfl, rfl, rfl, by simp [World.setCell], fun k _ hk => Below.heap_setCell _ _ _ _ (fun e => hk (by simp [e]))⟩ (Or.inr (fun e => hg e.symm))

theorem small_neg {n : Int} (h0 : n < 0) (h : -9223372036854775808 ≤ n) : IntKind.u64.wrap (-IntKind.u64.wrap n) = (n.natAbs : Int) := by
  have e1 : IntKind.u64.wrap n = n + 18446744073709551616 := by
    simp [IntKind.wrap, IntKind.bits, IntKind.signed]
    omega
  rw [e1]
  simp [IntKind.wrap, IntKind.bits, IntKind.signed]
  omega

theorem bool_two {b : Bool} {p : Prop} [Decidable p] (h : decide p = b) : (b = true ∧ p) ∨ (b = false ∧ ¬ p) := by
  cases b
  · exact .inr ⟨rfl, by simpa using h⟩
  · exact .inl ⟨rfl, by simpa using h⟩

set_option maxHeartbeats 1000000 in
set_option maxRecDepth 100000 in
theorem small_any {w : World} {n : Int} (hn1 : -9223372036854775808 ≤ n) (hn2 : n ≤ 9223372036854775807) :
    Calls Tryz.prog 76 #[.int .i64 n] w (RetW w n) := by
  obtain ⟨i0, hi, hz0, hz1, hz2⟩ := info_parts info32
  have hlen : (limbs n.natAbs).length ≤ 3 := limbs_len_le (by omega)
  obtain ⟨b, hb⟩ : ∃ b, decide (n < 0) = b := ⟨_, rfl⟩
  have HBE := Lib.hid hb
  have HLEN := Lib.hid hlen
  clear hlen
  obtain ⟨W, hW, hB, hsz, j1, j2⟩ := ent2 w 86 #[.bool false, .slice none 0 0] #[.bool b, .slice none 0 0]
  have HW := Lib.hid hW
  have HSZ := Lib.hid hsz
  clear hW hsz
  rcases bool_two hb with ⟨rfl, h0⟩ | ⟨rfl, h0⟩
  case' inl => have hneg := small_neg h0 hn1
  all_goals
    clear hb
    go_enter Tryz.func76, Tryz.ntmps76
    go_upto_region 5 with fail
    rw [← HW.out]
    have b0 : w.heap.size < W.heap.size := by have := HSZ.out; omega
    have b1 : w.heap.size + 1 < W.heap.size := by have := HSZ.out; omega
    have b2 : w.heap.size ≤ W.heap.size := Nat.le_of_lt b0
    have e0 : (n.natAbs : Nat) ≤ 9223372036854775808 := by omega
    go_loopw [4] (fun u wr => ∃ (x : Nat) (xs : List Nat) (v : Value), u = .int .u64 x ∧ x ≤ 9223372036854775808 ∧ Hid (limbs n.natAbs = xs ++ limbs x) ∧ Hid (Row wr (w.heap.size + 2) v xs) ∧ Hid (Blk wr w.heap.size 86 #[.bool false, .slice none 0 0]) ∧ Hid (Blk wr (w.heap.size + 1) 86 #[.bool (decide (n < 0)), v]) ∧ Hid (Below w.heap.size w wr) ∧ Hid (w.heap.size + 2 ≤ wr.heap.size)) (fun u _ => (intOf u).toNat)
    case atStart => exact ⟨n.natAbs, [], _, by first | rfl | (congr 1; omega), e0, Lib.hid rfl, Lib.hid (Row.nil _ _), Lib.hid j1, Lib.hid (by rw [HBE.out]; exact j2), Lib.hid hB, Lib.hid (by have := HSZ.out; omega)⟩
    case round =>
      obtain ⟨x, xs, v, rfl, hx, hL, hR, hJ1, hJ2, hK, hS⟩ := hrel
      obtain ⟨a, c, rfl⟩ := hR.out.len
      have hxs : xs.length ≤ 3 := Nat.le_trans (limbs_len_cut hL.out) HLEN.out
      have y0 := hJ2.out.cell0
      have y1 := hJ2.out.cell1
      rw [HBE.out] at y0
      generalize hk : xs.length = k at y1 hxs hR hJ2
      have HKL := Lib.hid hk
      clear hk
      by_cases hx0 : x = 0
      · subst hx0
        have y2 := hJ1.out.frozen 0
        have y3 := hJ1.out.frozen 1
        have y4 := hJ1.out.cell0
        have y5 := hJ1.out.cell1
        go_wp2
        have hl : xs = limbs n.natAbs := by have := hL.out; simp [limbs_zero] at this; exact this.symm
        have hj := hJ1.out.two (.bool (decide (n < 0))) (.slice a k c)
        rw [HBE.out] at hj
        have d0 := hj.cell0
        have d1 := hj.cell1
        refine bodyPost_ret (v := .agg #[.bool (decide (n < 0)), .slice a k c]) (by simp [results, Tryz.results76, go_sem, d0, d1, HBE.out]) rfl ⟨_, rfl, ?_, below_two hK.out (Nat.le_refl _) _ _⟩
        refine ⟨.slice a k c, rfl, ?_⟩
        have hr := hR.out.lim
        rw [hl] at hr
        exact (hr.far hJ1.out (by decide) _).far (hJ1.out.set_ 0 _) (by decide) _
      · have hown : wr.ownsRow (w.heap.size + 2) 143 1 (.slice a k c) k (xs.map fun (x : Nat) => Value.int .u32 x) := by have h := hR.out; unfold Row at h; rwa [HKL.out] at h
        have hne : some (w.heap.size + 1) ≠ (Value.slice a k c).ownBlock := hR.out.ne (by omega)
        have hne0 : some (w.heap.size) ≠ (Value.slice a k c).ownBlock := hR.out.ne (by omega)
        have hx1 : (0 < (x : Int)) := by omega
        have HNE := Lib.hid hne
        have HNE0 := Lib.hid hne0
        clear hne hne0
        go_wp2_with (at_builtin; refine wpList_append_own _ rfl (.tmp 19) (.tmp 23) 84 rfl (w.heap.size + 2) 143 i0 (.int .u32 0) 1 4 Tryz.underlying84 hi hz0 hz1 hz2 rfl (by decide) (.slice a k c) k _ rfl (hown.alloc _) ⟨wr.heap.size, 0, none⟩ 1 1 [.int .u32 ((x : Int) % 1000000000)] rfl rfl (cell_new_u32 _ _ _) (by intro u hu; simp at hu; subst hu; rfl) (by unfold maxLen; omega) (by omega) (by have := hS.out; simp; omega) ?_; intro v' w1 hown1 hgrow1 hnil1; have hr1 : Row w1 (w.heap.size + 2) v' (xs ++ [x % 1000000000]) := Row.snoc (by rw [HKL.out]; exact hown1) (by omega); obtain ⟨a', c', rfl⟩ := hr1.len; have g1 := ((hJ2.out.alloc _).grown hgrow1 HNE.out).frozen 1; have g2 := ((hJ2.out.alloc _).grown hgrow1 HNE.out).cell1)
        go_roundw
        case rel => exact ⟨x / 1000000000, xs ++ [x % 1000000000], _, by go_num, by omega, Lib.hid (limbs_cut hL.out (by omega)), Lib.hid (hr1.far (hr1.ne (by omega))), Lib.hid (((hJ1.out.alloc _).grown hgrow1 HNE0.out).far (p := ⟨w.heap.size + 1, 1, none⟩) (by simp) _), Lib.hid (by simpa using ((hJ2.out.alloc _).grown hgrow1 HNE.out).set_ 1 (.slice a' (xs ++ [x % 1000000000]).length c')), Lib.hid (((hK.out.alloc (hK.out.size) _).grown hgrow1 (by have := hK.out.size; simp; omega) (fun q hq => by have := World.ownsRow.lt hR.out q hq; omega)).setCell (p := ⟨w.heap.size + 1, 1, none⟩) (by simp) _), Lib.hid (by have h1 := hgrow1.size; have h2 := hS.out; simp [World.setCell] at h1 ⊢; omega)⟩
        case measure => simp [intOf]; omega

end Go.Proofs.YtpmlmibceiolpaaGreatDoor

/- Plain laws: division rounded down, fractions in lowest terms. No program in sight. -/
set_option linter.unusedSimpArgs false
set_option linter.unusedVariables false
namespace Go.Proofs.YtpmlmibceiolpaaGreatDoor
open Go.RowKit

theorem fdiv_unique {m n q r : Int} (h : m = n * q + r) (hr : (0 < n ∧ 0 ≤ r ∧ r < n) ∨ (n < 0 ∧ r ≤ 0 ∧ n < r)) : m.fdiv n = q ∧ m.fmod n = r := by
  have key : m.fdiv n = q := by
    rcases hr with ⟨h1, h2, h3⟩ | ⟨h1, h2, h3⟩
    · rw [Int.fdiv_eq_ediv_of_nonneg _ (by omega)]
      exact ((Int.ediv_emod_unique h1).2 ⟨by rw [h]; omega, h2, h3⟩).1
    · rw [← Int.neg_fdiv_neg, Int.fdiv_eq_ediv_of_nonneg _ (by omega)]
      exact ((Int.ediv_emod_unique (by omega : 0 < -n)).2 ⟨by rw [h, Int.neg_mul]; omega, (by omega : 0 ≤ -r), by omega⟩).1
  refine ⟨key, ?_⟩
  rw [Int.fmod_def, key, h]; omega

theorem div_law_same {m n : Int} (hn : n ≠ 0) (h : sg (decide (m < 0)) (m.natAbs % n.natAbs) = 0 ∨ decide (m < 0) = decide (n < 0)) :
    sg (decide (m < 0) != decide (n < 0)) (m.natAbs / n.natAbs) = m.fdiv n ∧ sg (decide (m < 0)) (m.natAbs % n.natAbs) = m.fmod n := by
  have h1 : n.natAbs * (m.natAbs / n.natAbs) + m.natAbs % n.natAbs = m.natAbs := Nat.div_add_mod _ _
  have h2 : m.natAbs % n.natAbs < n.natAbs := Nat.mod_lt _ (by omega)
  generalize m.natAbs / n.natAbs = Q at *
  generalize m.natAbs % n.natAbs = R at *
  have h3 : (n.natAbs : Int) * Q + R = (m.natAbs : Int) := by exact_mod_cast h1
  rcases Int.lt_or_le m 0 with hm | hm <;> rcases Int.lt_or_le n 0 with hn' | hn'
  · have e1 : (m.natAbs : Int) = -m := by omega
    have e2 : (n.natAbs : Int) = -n := by omega
    rw [e1, e2, Int.neg_mul] at h3
    have := @fdiv_unique m n Q (-R) (by omega) (.inr ⟨hn', by omega, by omega⟩)
    simp [sg, hm, hn', this]
  · have e1 : (m.natAbs : Int) = -m := by omega
    have e2 : (n.natAbs : Int) = n := by omega
    have h4 : ¬ n < 0 := by omega
    simp [sg, hm, h4] at h
    subst h
    rw [e1, e2] at h3
    have := @fdiv_unique m n (-Q) 0 (by rw [Int.mul_neg]; omega) (.inl ⟨by omega, by omega, by omega⟩)
    simp [sg, hm, h4, this]
  · have e1 : (m.natAbs : Int) = m := by omega
    have e2 : (n.natAbs : Int) = -n := by omega
    have h4 : ¬ m < 0 := by omega
    simp [sg, hn', h4] at h
    subst h
    rw [e1, e2, Int.neg_mul] at h3
    have := @fdiv_unique m n (-Q) 0 (by rw [Int.mul_neg]; omega) (.inr ⟨hn', by omega, by omega⟩)
    simp [sg, hn', h4, this]
  · have e1 : (m.natAbs : Int) = m := by omega
    have e2 : (n.natAbs : Int) = n := by omega
    have h4 : ¬ m < 0 := by omega
    have h5 : ¬ n < 0 := by omega
    rw [e1, e2] at h3
    have := @fdiv_unique m n Q R (by omega) (.inl ⟨by omega, by omega, by omega⟩)
    simp [sg, h5, h4, this]

theorem div_law_other {m n : Int} (hn : n ≠ 0) (h : sg (decide (m < 0)) (m.natAbs % n.natAbs) ≠ 0) (hd : decide (m < 0) ≠ decide (n < 0)) :
    sg (decide (m < 0) != decide (n < 0)) (m.natAbs / n.natAbs) - 1 = m.fdiv n ∧ sg (decide (m < 0)) (m.natAbs % n.natAbs) + n = m.fmod n := by
  have h1 : n.natAbs * (m.natAbs / n.natAbs) + m.natAbs % n.natAbs = m.natAbs := Nat.div_add_mod _ _
  have h2 : m.natAbs % n.natAbs < n.natAbs := Nat.mod_lt _ (by omega)
  generalize m.natAbs / n.natAbs = Q at *
  generalize m.natAbs % n.natAbs = R at *
  have h3 : (n.natAbs : Int) * Q + R = (m.natAbs : Int) := by exact_mod_cast h1
  rcases Int.lt_or_le m 0 with hm | hm <;> rcases Int.lt_or_le n 0 with hn' | hn'
  · simp [hm, hn'] at hd
  · have e1 : (m.natAbs : Int) = -m := by omega
    have e2 : (n.natAbs : Int) = n := by omega
    have h4 : ¬ n < 0 := by omega
    simp [sg, hm, h4] at h
    rw [e1, e2] at h3
    have := @fdiv_unique m n (-Q - 1) (-R + n) (by rw [Int.mul_sub, Int.mul_neg]; omega) (.inl ⟨by omega, by omega, by omega⟩)
    simp [sg, hm, h4, this]
  · have e1 : (m.natAbs : Int) = m := by omega
    have e2 : (n.natAbs : Int) = -n := by omega
    have h4 : ¬ m < 0 := by omega
    simp [sg, hn', h4] at h
    rw [e1, e2, Int.neg_mul] at h3
    have := @fdiv_unique m n (-Q - 1) (R + n) (by rw [Int.mul_sub, Int.mul_neg]; omega) (.inr ⟨hn', by omega, by omega⟩)
    simp [sg, hn', h4, this]
  · have h4 : ¬ m < 0 := by omega
    have h5 : ¬ n < 0 := by omega
    simp [h4, h5] at hd

/-- The signed divisor by which a fraction is reduced. -/
def red (n d : Int) : Int := sg (decide (d < 0)) (Nat.gcd n.natAbs d.natAbs)

theorem red_ne {n d : Int} (hd : d ≠ 0) : red n d ≠ 0 := by
  have h1 : 0 < Nat.gcd n.natAbs d.natAbs := Nat.gcd_pos_of_pos_right _ (by omega)
  unfold red sg
  split <;> omega

theorem make_num {n d : Int} (hd : d ≠ 0) : n.fdiv (red n d) = (Rat.divInt n d).num := by
  rw [Rat.num_divInt]
  have hg : 0 < Nat.gcd n.natAbs d.natAbs := Nat.gcd_pos_of_pos_right _ (by omega)
  have e0 : d.gcd n = Nat.gcd n.natAbs d.natAbs := Nat.gcd_comm _ _
  rw [e0]
  have h1 : ((Nat.gcd n.natAbs d.natAbs : Nat) : Int) ∣ n := Int.ofNat_dvd_left.2 (Nat.gcd_dvd_left _ _)
  unfold red
  generalize Nat.gcd n.natAbs d.natAbs = g at *
  obtain ⟨k, hk⟩ := h1
  subst hk
  have hg' : (g : Int) ≠ 0 := by omega
  rcases Int.lt_or_gt_of_ne hd with h | h
  · rw [Int.sign_eq_neg_one_of_neg h]
    have e1 : sg (decide (d < 0)) g = -(g : Int) := by simp [sg, h]
    rw [e1]
    have e2 : (g : Int) * k = -(g : Int) * (-k) := by rw [Int.neg_mul_neg]
    have e3 : (-1 : Int) * ((g : Int) * k) = (g : Int) * (-k) := by rw [Int.mul_neg]; omega
    rw [e3, Int.mul_ediv_cancel_left _ hg', e2]
    exact Int.mul_fdiv_cancel_left _ (by omega)
  · rw [Int.sign_eq_one_of_pos h]
    have h4 : ¬ d < 0 := by omega
    have e1 : sg (decide (d < 0)) g = (g : Int) := by simp [sg, h4]
    rw [e1, Int.one_mul, Int.mul_ediv_cancel_left _ hg']
    exact Int.mul_fdiv_cancel_left _ hg'

theorem make_den {n d : Int} (hd : d ≠ 0) : d.fdiv (red n d) = ((Rat.divInt n d).den : Int) := by
  rw [Rat.den_divInt, if_neg hd]
  have hg : 0 < Nat.gcd n.natAbs d.natAbs := Nat.gcd_pos_of_pos_right _ (by omega)
  have e0 : d.gcd n = Nat.gcd n.natAbs d.natAbs := Nat.gcd_comm _ _
  rw [e0]
  have h1 : Nat.gcd n.natAbs d.natAbs ∣ d.natAbs := Nat.gcd_dvd_right _ _
  unfold red
  generalize Nat.gcd n.natAbs d.natAbs = g at *
  obtain ⟨k, hk⟩ := h1
  rw [hk, Nat.mul_div_cancel_left _ hg]
  have hg' : (g : Int) ≠ 0 := by omega
  rcases Int.lt_or_gt_of_ne hd with h | h
  · have e1 : sg (decide (d < 0)) g = -(g : Int) := by simp [sg, h]
    rw [e1]
    have e2 : d = -(g : Int) * (k : Int) := by
      have : (d.natAbs : Int) = (g : Int) * k := by rw [hk]; simp
      rw [Int.neg_mul]; omega
    conv => lhs; rw [e2]
    exact Int.mul_fdiv_cancel_left _ (by omega)
  · have h4 : ¬ d < 0 := by omega
    have e1 : sg (decide (d < 0)) g = (g : Int) := by simp [sg, h4]
    rw [e1]
    have e2 : d = (g : Int) * (k : Int) := by
      have : (d.natAbs : Int) = (g : Int) * k := by rw [hk]; simp
      omega
    conv => lhs; rw [e2]
    exact Int.mul_fdiv_cancel_left _ hg'

/-- Nothing to reduce. -/
theorem make_one {n d : Int} (hd : d ≠ 0) (h : red n d = 1) : n = (Rat.divInt n d).num ∧ d = ((Rat.divInt n d).den : Int) := by
  have h1 := make_num (n := n) hd
  have h2 := make_den (n := n) hd
  rw [h, Int.fdiv_one] at h1 h2
  exact ⟨h1, h2⟩

theorem den_ne (x : Rat) : (x.den : Int) ≠ 0 := by have := x.den_nz; omega

theorem rat_add (x y : Rat) : Rat.divInt (x.num * y.den + y.num * x.den) (x.den * y.den) = x + y := by
  rw [Rat.add_def', ← Rat.divInt_ofNat, Int.natCast_mul]
theorem rat_mul (x y : Rat) : Rat.divInt (x.num * y.num) (x.den * y.den) = x * y := by
  rw [Rat.mul_def', ← Rat.divInt_ofNat, Int.natCast_mul]
theorem rat_div (x y : Rat) : Rat.divInt (x.num * y.den) (x.den * y.num) = x / y := by
  have h : x / y = (Rat.divInt x.num (x.den : Int)) * (Rat.divInt y.num (y.den : Int))⁻¹ := by rw [Rat.num_divInt_den, Rat.num_divInt_den]; rfl
  rw [h, Rat.inv_divInt, Rat.divInt_mul_divInt]

/-- How two numbers compare. -/
def rcmp (x y : Rat) : Int := (x.num * y.den - y.num * x.den).sign

theorem rcmp_neg {x y : Rat} : rcmp x y < 0 ↔ x < y := by
  unfold rcmp
  rw [Int.sign_neg_iff, Rat.lt_iff]; omega
theorem rcmp_pos {x y : Rat} : 0 < rcmp x y ↔ y < x := by
  unfold rcmp
  rw [Int.sign_pos_iff, Rat.lt_iff]; omega
theorem rcmp_zero {x y : Rat} : rcmp x y = 0 ↔ x = y := by
  unfold rcmp
  rw [Int.sign_eq_zero_iff_zero, Rat.eq_iff_mul_eq_mul]; omega
theorem rcmp_le {x y : Rat} : rcmp x y ≤ 0 ↔ x ≤ y := by
  have := @rcmp_pos x y
  rw [← Rat.not_lt, ← this]; omega

theorem rat_floor (x : Rat) : x.num.fdiv x.den = x.floor := by
  rw [Rat.floor_def, Int.fdiv_eq_ediv_of_nonneg _ (by omega)]

end Go.Proofs.YtpmlmibceiolpaaGreatDoor
