/- The contracts of tail.check, tail.counts. -/
import Derived.Test.YtmhneibcbjgedaaGreatDoorCanon
import Derived.Test.YtmhneibcbjgedaaGreatDoorLate
set_option linter.unusedSimpArgs false
set_option linter.unusedVariables false
namespace Go.Proofs.YtmhneibcbjgedaaGreatDoor
open Go.RowKit

/-- Is a number within its limit? -/
def inLim (x : Int × Int) : Bool := decide (0 ≤ x.1) && decide (x.1 ≤ x.2)

theorem all_take_succ2 {l : List (Int × Int)} {k : Nat} (h : (l.take k).all inLim = true) (hk : k < l.length) (hc : inLim l[k] = true) : (l.take (k + 1)).all inLim = true := by
  rw [List.take_succ_eq_append_getElem hk, List.all_append, h]; simp [hc]
theorem all_not2 {l : List (Int × Int)} {k : Nat} (hk : k < l.length) (hc : inLim l[k] = false) : l.all inLim = false := by
  rw [List.all_eq_false]
  exact ⟨l[k], List.getElem_mem hk, by simp [hc]⟩

set_option maxHeartbeats 2000000 in
set_option maxRecDepth 100000 in
theorem tcheck_any {w : World} {b cap : Nat} (ls : List (Int × Int)) (n : Nat) (hn : ls.length = n) (hlen : n ≤ 1000) (hc : ∀ i, i < n → w.cell? ⟨b, i * 2, none⟩ = some (.int .i64 (ls.getD i (0, 0)).1) ∧ w.cell? ⟨b, i * 2 + 1, none⟩ = some (.int .i64 (ls.getD i (0, 0)).2)) :
    Calls Tryz.prog 82 #[.slice (some ⟨b, 0, none⟩) n cap] w (RetV w (.int .i64 (if ls.all inLim then 0 else 2))) := by
  obtain ⟨res, hres⟩ : ∃ res : Int, res = (if ls.all inLim then 0 else 2) := ⟨_, rfl⟩
  rw [← hres]
  have HRES := Lib.hid hres
  have HC := Lib.hid hc
  clear hres hc
  have HN := Lib.hid hn
  clear hn
  go_enter Tryz.func82, Tryz.ntmps82
  go_wp2
  go_step3
  go_wp2
  go_step3
  go_wp2
  go_loopw [3, 8] (fun u3 u8 wr => ∃ k : Nat, k ≤ n ∧ u3 = .int .i64 0 ∧ u8 = .int .i64 k ∧ Hid ((ls.take k).all inLim = true) ∧ Hid (Below w.heap.size w wr)) (fun _ u8 _ => n - (intOf u8).toNat)
  case atStart => exact ⟨0, Nat.zero_le _, rfl, rfl, Lib.hid (by simp), Lib.hid (Below.refl _ _)⟩
  case round =>
    obtain ⟨k, hk, rfl, rfl, hK, hB⟩ := hrel
    by_cases hlt : k < n
    · obtain ⟨c0, c1⟩ := HC.out k hlt
      have hkd : k < ls.length := by rw [HN.out]; exact hlt
      have l0 := World.block_lt_of_cell? w ⟨b, k * 2, none⟩ c0
      have g0 := keepc hB.out c0 l0
      have g1 := keepc hB.out c1 l0
      have hyes := Lib.hid (fun h => all_take_succ2 hK.out hkd h)
      have hno := Lib.hid (fun h => all_not2 hkd h)
      clear c0 c1
      have hdig : inLim ls[k] = true ↔ (0 ≤ ls[k].1 ∧ ls[k].1 ≤ ls[k].2) := by unfold inLim; simp
      have HDIG := Lib.hid hdig
      clear hdig
      have eg : ls.getD k (0, 0) = ls[k] := by simp [List.getD, List.getElem?_eq_getElem hkd]
      rw [eg] at g0 g1
      generalize ls[k] = y at *
      clear eg hkd
      obtain ⟨a, m⟩ := y
      simp only at g0 g1 HDIG
      rcases (show a < 0 ∨ (0 ≤ a ∧ m < a) ∨ (0 ≤ a ∧ a ≤ m) by omega) with h1 | ⟨h1, h2⟩ | ⟨h1, h2⟩
      · have hf := hno.out (by rw [Bool.eq_false_iff]; intro h; have := HDIG.out.1 h; omega)
        have hr5 : res = 2 := by rw [HRES.out, hf]; rfl
        have HR5 := Lib.hid hr5
        clear hr5 hf hyes hno HDIG HRES
        go_wp2
        try rw [Exit.noGoto_ret]
        go_ret
        exact ⟨ret_int HR5.out.symm, hB.out.alloc hB.out.size _⟩
      · have hf := hno.out (by rw [Bool.eq_false_iff]; intro h; have := HDIG.out.1 h; omega)
        have hr5 : res = 2 := by rw [HRES.out, hf]; rfl
        have HR5 := Lib.hid hr5
        have hb1 : ¬ a < 0 := by omega
        have hb2 : ¬ a ≤ m := by omega
        clear hr5 hf hyes hno HDIG HRES
        go_wp2
        try rw [Exit.noGoto_ret]
        go_ret
        exact ⟨ret_int HR5.out.symm, hB.out.alloc hB.out.size _⟩
      · have hy2 := Lib.hid (hyes.out (HDIG.out.2 ⟨h1, h2⟩))
        have hb1 : ¬ a < 0 := by omega
        have hb2 : ¬ m < a := by omega
        clear hyes hno HDIG HRES
        go_wp2
        go_roundw
        case rel => exact ⟨k + 1, by omega, rfl, by go_num, hy2, Lib.hid (hB.out.alloc hB.out.size _)⟩
        case measure => simp [intOf]; omega
    · obtain rfl : k = n := by omega
      have hall : ls.all inLim = true := by
        have := hK.out
        rwa [← HN.out, List.take_length] at this
      have e6 : res = 0 := by rw [HRES.out, hall]; rfl
      have HR5 := Lib.hid e6
      clear e6 hall HRES
      go_wp2
      try rw [Exit.noGoto_ret]
      go_ret
      exact ⟨ret_int HR5.out.symm, hB.out⟩

end Go.Proofs.YtmhneibcbjgedaaGreatDoor

/- The contracts of tail.power, tail.choices and tail.counts. -/
set_option linter.unusedSimpArgs false
set_option linter.unusedVariables false
namespace Go.Proofs.YtmhneibcbjgedaaGreatDoor
open Go.RowKit

theorem limbs_one_len : (limbs (1 : Int).natAbs).length ≤ 1 := limbs_len_le (by decide)

theorem len_pow {x : Int} {j : Nat} (h : (limbs x.natAbs).length ≤ j) : ∀ n : Nat, (limbs (x ^ n).natAbs).length ≤ 1 + n * j
  | 0 => by have := limbs_one_len; simpa using this
  | n + 1 => by
    rw [Int.pow_succ]
    have := len_mul (len_pow h n) h
    rw [Nat.succ_mul]
    omega

set_option maxHeartbeats 1000000 in
set_option maxRecDepth 100000 in
theorem power_any {w : World} {v : Value} {x : Int} (n : Nat) (hn : n ≤ 1000) (h : Wh w v x) (s : (limbs x.natAbs).length ≤ 1000000) :
    Calls Tryz.prog 97 #[v, .int .i64 n] w (RetW w (x ^ n)) := by
  obtain ⟨b, a, k, p, rfl⟩ := h.parts
  obtain ⟨W, hW, hB, hsz, j2, j4⟩ := entB w 65 65 #[.bool b, .slice a k p] #[.bool false, .slice none 0 0]
  have HW := Lib.hid hW
  clear hW
  have hx := Lib.hid (h.below hB)
  have HS := Lib.hid s
  have HSZ := Lib.hid hsz
  clear h s hsz
  have HBB := Lib.hid hB
  go_enter Tryz.func97, Tryz.ntmps97
  go_upto_region 1 with fail
  rw [← HW.out]
  go_upto_region 2 with (go_at_call 83; refine (small_any (by decide) (by decide)).mono ?_; rintro e w1 ⟨r, rfl, hr, hb1⟩; obtain ⟨b5, a5, k5, p5, rfl⟩ := hr.parts)
  have hb2 : Below W.heap.size W (w1.alloc (.cells #[.bool b5, .slice a5 k5 p5] 65)) := hb1.alloc hb1.size _
  have g5 := Blk.new w1 65 #[.bool b5, .slice a5 k5 p5]
  have HR := Lib.hid (hr.more (.cells #[.bool b5, .slice a5 k5 p5] 65))
  have hz := hb1.size
  clear hr hb1
  generalize w1.heap.size = z5 at *
  generalize (w1.alloc (.cells #[.bool b5, .slice a5 k5 p5] 65)) = w2 at *
  go_wp2
  go_loopw [8] (fun u8 wr => ∃ (i : Nat) (b6 : Bool) (a6 : Option Addr) (k6 p6 : Nat), i ≤ n ∧ u8 = .int .i64 i ∧ Hid (Blk wr z5 65 #[.bool b6, .slice a6 k6 p6]) ∧ Hid (Wh wr (.agg #[.bool b6, .slice a6 k6 p6]) (x ^ i)) ∧ Hid (Below W.heap.size W wr)) (fun u8 _ => n - (intOf u8).toNat)
  case atStart => exact ⟨0, b5, a5, k5, p5, Nat.zero_le _, rfl, Lib.hid g5, Lib.hid (by simpa using HR.out), Lib.hid hb2⟩
  case round =>
    obtain ⟨i, b6, a6, k6, p6, hi, rfl, G5, HX, hK⟩ := hrel
    have e5 := G5.out
    have c0 := e5.cell0
    have c1 := e5.cell1
    have f0 := e5.frozen 0
    have f1 := e5.frozen 1
    have i2 := j2.next hK.out
    have d0 := i2.cell0
    have d1 := i2.cell1
    by_cases hlt : i < n
    · have hm := mul_any HX.out (hx.out.below hK.out) (Nat.le_trans (len_pow HS.out i) (by omega)) (Nat.le_trans HS.out (by omega))
      have HM := Lib.hid hm
      clear hm
      have hp1 := Lib.hid (Int.pow_succ x i).symm
      go_wp2_with (go_at_call 84; refine HM.out.mono ?_; rintro e V ⟨r, rfl, hr, hV⟩; obtain ⟨b7, a7, k7, p7, rfl⟩ := hr.parts; have o5 := e5.next hV; have q0 := o5.cell0; have q1 := o5.cell1; have q2 := o5.frozen 0; have q3 := o5.frozen 1)
      have hXN := hr.two o5 (by decide) (.bool b7) (.slice a7 k7 p7)
      rw [hp1.out] at hXN
      have HXN := Lib.hid hXN
      have HKN := Lib.hid (below_two (next_below hK.out hV) hz (.bool b7) (.slice a7 k7 p7))
      have HGN := Lib.hid (o5.two (.bool b7) (.slice a7 k7 p7))
      clear hr hXN
      go_roundw
      case rel => exact ⟨i + 1, b7, a7, k7, p7, by omega, by go_num, HGN, HXN, HKN⟩
      case measure => simp [intOf]; omega
    · obtain rfl : i = n := by omega
      have i4 := j4.next hK.out
      have q0 := i4.cell0
      have q1 := i4.cell1
      have q2 := i4.frozen 0
      have q3 := i4.frozen 1
      go_wp2
      have hB4 := i4.two (.bool b6) (.slice a6 k6 p6)
      have d0 := hB4.cell0
      have d1 := hB4.cell1
      refine bodyPost_ret (v := .agg #[.bool b6, .slice a6 k6 p6]) (by simp [results, Tryz.results97, go_sem, d0, d1]) rfl ⟨_, rfl, ?_, ?_⟩
      · exact HX.out.two i4 (by decide) _ _
      · exact below_two (HBB.out.trans (hK.out.mono HBB.out.size)) (by omega) _ _

/-- The number of choices, after some rounds. -/
def chz (n : Int) : Nat → Int
  | 0 => 1
  | i + 1 => (chz n i * (n - i)).fdiv (i + 1)

theorem natAbs_fdiv_le {a b : Int} (ha : 0 ≤ a) (hb : 0 < b) : 0 ≤ a.fdiv b ∧ (a.fdiv b).natAbs ≤ a.natAbs := by
  rw [Int.fdiv_eq_ediv_of_nonneg _ (by omega)]
  exact ⟨Int.ediv_nonneg ha (by omega), Int.natAbs_ediv_le_natAbs _ _⟩

theorem chz_len {n : Nat} (hn : n ≤ 1000) : ∀ i : Nat, i ≤ n → 0 ≤ chz n i ∧ (limbs (chz n i).natAbs).length ≤ 1 + i
  | 0, _ => ⟨by show (0:Int) ≤ 1; decide, limbs_one_len⟩
  | i + 1, hi => by
    obtain ⟨h0, h1⟩ := chz_len hn i (by omega)
    have h2 : (0 : Int) ≤ chz n i * ((n : Int) - i) := Int.mul_nonneg h0 (by omega)
    obtain ⟨h3, h4⟩ := natAbs_fdiv_le (b := (i : Int) + 1) h2 (by omega)
    refine ⟨h3, ?_⟩
    have h5 : (limbs ((n : Int) - i).natAbs).length ≤ 1 := by
      have h6 := limbs_lt_pow ((n : Int) - i).natAbs
      have h7 : ((n : Int) - i).natAbs ≤ 1000 := by omega
      have h8 := limbs_len_mono h7
      have h9 : (limbs 1000).length = 1 := by decide +kernel
      omega
    have h6 := len_mul h1 h5
    exact Nat.le_trans (limbs_len_mono h4) (by omega)

/-- A pair of integers. -/
def Two (q r : Int) (v : Value) (w : World) : Prop := ∃ v1 v2, v = .tuple #[v1, v2] ∧ Wh w v1 q ∧ Wh w v2 r
theorem Stab.tw (W : World) (q r : Int) : Stab W (Two q r) := fun v w1 w2 _ h2 ⟨v1, v2, h, a, b⟩ => ⟨v1, v2, h, a.below h2, b.below h2⟩

set_option maxHeartbeats 1000000 in
set_option maxRecDepth 100000 in
theorem choices_any {w : World} (n k : Nat) (hn : n ≤ 1000) (hk : k ≤ n) :
    Calls Tryz.prog 38 #[.int .i64 n, .int .i64 k] w (RetW w (chz n k)) := by
  obtain ⟨W, hW, hB, hsz, j4⟩ := entA w 65 #[.bool false, .slice none 0 0]
  have HW := Lib.hid hW
  clear hW
  have HSZ := Lib.hid hsz
  clear hsz
  have HBB := Lib.hid hB
  have hlen := fun i hi => chz_len hn i hi
  have hstep : ∀ i : Nat, (chz n i * ((n : Int) - i)).fdiv (i + 1) = chz n (i + 1) := fun i => rfl
  have h0 : chz n 0 = 1 := rfl
  have HLEN := Lib.hid hlen
  have HSTEP := Lib.hid hstep
  clear hlen hstep
  generalize chz n = ch at *
  go_enter Tryz.func38, Tryz.ntmps38
  go_upto_region 1 with fail
  rw [← HW.out]
  go_upto_region 2 with (go_at_call 83; refine (small_any (by decide) (by decide)).mono ?_; rintro e w1 ⟨r, rfl, hr, hb1⟩; obtain ⟨b5, a5, k5, p5, rfl⟩ := hr.parts)
  have hb2 : Below W.heap.size W (w1.alloc (.cells #[.bool b5, .slice a5 k5 p5] 65)) := hb1.alloc hb1.size _
  have g5 := Blk.new w1 65 #[.bool b5, .slice a5 k5 p5]
  have HR := Lib.hid (hr.more (.cells #[.bool b5, .slice a5 k5 p5] 65))
  have hz := hb1.size
  clear hr hb1
  generalize w1.heap.size = z5 at *
  generalize (w1.alloc (.cells #[.bool b5, .slice a5 k5 p5] 65)) = w2 at *
  go_wp2
  go_loopw [9] (fun u9 wr => ∃ (i : Nat) (b6 : Bool) (a6 : Option Addr) (k6 p6 : Nat), i ≤ k ∧ u9 = .int .i64 i ∧ Hid (Blk wr z5 65 #[.bool b6, .slice a6 k6 p6]) ∧ Hid (Wh wr (.agg #[.bool b6, .slice a6 k6 p6]) (ch i)) ∧ Hid (Below W.heap.size W wr)) (fun u9 _ => k - (intOf u9).toNat)
  case atStart => exact ⟨0, b5, a5, k5, p5, Nat.zero_le _, rfl, Lib.hid g5, Lib.hid (by rw [h0]; exact HR.out), Lib.hid hb2⟩
  case round =>
    obtain ⟨i, b6, a6, k6, p6, hi, rfl, G5, HX, hK⟩ := hrel
    have e5 := G5.out
    have c0 := e5.cell0
    have c1 := e5.cell1
    by_cases hlt : i < k
    · obtain ⟨hp0, hp1⟩ := HLEN.out i (by omega)
      have hS := HSTEP.out i
      have HS := Lib.hid hS
      have HP1 := Lib.hid hp1
      have F1 : Fit (ch i) := Nat.le_trans hp1 (by omega)
      have F2 : Fit ((n : Int) - i) := Nat.le_trans (limbs_len_le (k := 3) (by omega)) (by omega)
      have F3 : Fit ((i : Int) + 1) := Nat.le_trans (limbs_len_le (k := 3) (by omega)) (by omega)
      have F4 : Fit (ch i * ((n : Int) - i)) := Nat.le_trans (len_mul hp1 (limbs_len_le (k := 3) (by omega))) (by omega)
      have FF := Lib.hid (And.intro F1 (And.intro F2 (And.intro F3 F4)))
      clear hp0 hp1 hS F1 F2 F3 F4
      go_upto_region 5 with fail
      have hB0 : Below wr.heap.size wr wr.drew := (Below.refl _ _).drew
      refine wp_region_late 13 (by kernel_rfl) (by kernel_rfl) (by kernel_rfl) (by kernel_rfl) [] [fun v _ => v = .agg #[.bool b6, .slice a6 k6 p6], fun v _ => v = .int .i64 n, fun v _ => v = .int .i64 i, fun v _ => v = .int .i64 ((n : Int) - i), fun v w' => Wh w' v ((n : Int) - i), fun v w' => Wh w' v (ch i * ((n : Int) - i)), fun v _ => v = .int .i64 i, fun v _ => v = .int .i64 ((i : Int) + 1), fun v w' => Wh w' v ((i : Int) + 1), Two ((ch i * ((n : Int) - i)).fdiv (i + 1)) ((ch i * ((n : Int) - i)).fmod (i + 1)), Two ((ch i * ((n : Int) - i)).fdiv (i + 1)) ((ch i * ((n : Int) - i)).fmod (i + 1)), fun v w' => Wh w' v ((ch i * ((n : Int) - i)).fdiv (i + 1)), fun v w' => Wh w' v ((ch i * ((n : Int) - i)).fmod (i + 1))] (by simp only [List.take_succ_cons, List.take_zero]; rfl) (by simp only [List.drop_succ_cons, List.drop_zero]; rfl) (fun vals => by simp only [fam, Act.put, List.setIfInBounds_toArray, List.set_cons_zero, List.set_cons_succ, if_true]; rfl) (by repeat' (first | exact Stab.eq _ _ | exact Stab.wh _ _ | exact Stab.nm _ _ | exact Stab.new _ _ | exact Stab.newn _ _ | exact Stab.tw _ _ _ | exact trivial | apply And.intro)) trivial ?_ ?_
      · refine ⟨?_, ?_, ?_, ?_, ?_, ?_, ?_, ?_, ?_, ?_, ?_, ?_, ?_, trivial⟩
        all_goals
          intro vals w3 hB hp
          dsimp only
          (try simp [preOk, Region.binds] at hp)
          have hb := next_below hB0 hB
          have y5 := e5.next hb
          have y0 := y5.cell0
          have y1 := y5.cell1
          clear hB c0 c1
        case refine_5 =>
          generalize vals 3 = x3 at *
          subst hp
          go_wp2_with (go_at_call 83; refine (small_any (by omega) (by omega)).mono ?_; rintro e w5 ⟨r, rfl, hr, hb5⟩)
          exact ⟨rfl, _, rfl, hr, hb5, trivial⟩
        case refine_6 =>
          obtain ⟨q0, q1⟩ := hp
          generalize vals 0 = x0 at *
          subst q0
          go_wp2_with (go_at_call 84; refine (mul_any (HX.out.below hb) q1 FF.out.1 FF.out.2.1).mono ?_; rintro e w5 ⟨r, rfl, hr, hb5⟩)
          exact ⟨rfl, _, rfl, hr, hb5, trivial⟩
        case refine_9 =>
          obtain ⟨q0, q1⟩ := hp
          generalize vals 7 = x7 at *
          subst q0
          go_wp2_with (go_at_call 83; refine (small_any (by omega) (by omega)).mono ?_; rintro e w5 ⟨r, rfl, hr, hb5⟩)
          exact ⟨rfl, _, rfl, hr, hb5, trivial⟩
        case refine_10 =>
          obtain ⟨q0, q1⟩ := hp
          go_wp2_with (go_at_call 85; refine (div_any q0 q1 FF.out.2.2.2 FF.out.2.2.1 (by omega)).mono ?_; rintro e w5 ⟨vq, vr, rfl, hq, hr, hb5⟩)
          exact ⟨rfl, _, rfl, ⟨vq, vr, rfl, hq, hr⟩, hb5, trivial⟩
        case refine_11 =>
          go_wp2
          exact ⟨rfl, _, rfl, hp, Below.refl _ _, trivial⟩
        case refine_12 =>
          obtain ⟨v1, v2, q0, q1, q2⟩ := hp
          rw [q0]
          go_wp2
          exact ⟨rfl, _, rfl, q1, Below.refl _ _, trivial⟩
        case refine_13 =>
          obtain ⟨⟨v1, v2, q0, q1, q2⟩, _⟩ := hp
          rw [q0]
          go_wp2
          exact ⟨rfl, _, rfl, q2, Below.refl _ _, trivial⟩
        all_goals
          go_wp2
          (first | exact ⟨rfl, _, rfl, rfl, Below.refl _ _, trivial⟩ | (refine ⟨rfl, _, ?_, rfl, Below.refl _ _, trivial⟩; simp only [Act.put, List.setIfInBounds_toArray, List.set_cons_zero, List.set_cons_succ, hp]))
      · rintro vals w3 hB ⟨p0, p1, p2, p3, p4, p5, p6, p7, p8, p9, p10, p11, p12, _⟩ hne
        have hb := next_below hB0 hB
        simp at p11
        generalize vals 11 = x11 at *
        obtain ⟨b7, a7, k7, p7', rfl⟩ := p11.parts
        have o5 := e5.next hb
        have q0 := o5.cell0
        have q1 := o5.cell1
        have q2 := o5.frozen 0
        have q3 := o5.frozen 1
        have hXN := p11.two o5 (by decide) (.bool b7) (.slice a7 k7 p7')
        rw [HS.out] at hXN
        have HXN := Lib.hid hXN
        have HKN := Lib.hid (below_two (next_below hK.out hb) hz (.bool b7) (.slice a7 k7 p7'))
        have HGN := Lib.hid (o5.two (.bool b7) (.slice a7 k7 p7'))
        clear hXN hne p0 p1 p2 p3 p4 p5 p6 p7 p8 p9 p10 p11 p12
        go_wp2
        refine ⟨rfl, ?_⟩
        go_wp2
        go_roundw
        case rel => exact ⟨i + 1, b7, a7, k7, p7', by omega, by go_num, HGN, HXN, HKN⟩
        case measure => simp [intOf]; omega
    · obtain rfl : i = k := by omega
      have i4 := j4.next hK.out
      have q0 := i4.cell0
      have q1 := i4.cell1
      have q2 := i4.frozen 0
      have q3 := i4.frozen 1
      go_wp2
      have hB4 := i4.two (.bool b6) (.slice a6 k6 p6)
      have d0 := hB4.cell0
      have d1 := hB4.cell1
      refine bodyPost_ret (v := .agg #[.bool b6, .slice a6 k6 p6]) (by simp [results, Tryz.results38, go_sem, d0, d1]) rfl ⟨_, rfl, ?_, ?_⟩
      · exact HX.out.two i4 (by decide) _ _
      · exact below_two (HBB.out.trans (hK.out.mono HBB.out.size)) (by omega) _ _

end Go.Proofs.YtmhneibcbjgedaaGreatDoor
