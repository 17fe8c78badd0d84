/- The contracts of numbers: sums, products, quotients, comparison. -/
import Derived.Test.YtpmlmibceiolpaaGreatDoorMake
import Derived.Test.YtpmlmibceiolpaaGreatDoorMul
set_option linter.unusedSimpArgs false
set_option linter.unusedVariables false
namespace Go.Proofs.YtpmlmibceiolpaaGreatDoor
open Go.RowKit

/-- Both parts of a number have at most k limbs. -/
def Sz (k : Nat) (x : Rat) : Prop := (limbs x.num.natAbs).length ≤ k ∧ (limbs x.den).length ≤ k
theorem Sz.mono {j k : Nat} {x : Rat} (h : Sz j x) (hk : j ≤ k) : Sz k x := ⟨Nat.le_trans h.1 hk, Nat.le_trans h.2 hk⟩

theorem len_mul {m n : Int} {j k : Nat} (hm : (limbs m.natAbs).length ≤ j) (hn : (limbs n.natAbs).length ≤ k) : (limbs (m * n).natAbs).length ≤ j + k := by
  rw [Int.natAbs_mul]
  exact Nat.le_trans (limbs_len_mul _ _) (Nat.add_le_add hm hn)
theorem len_add {m n : Int} {k : Nat} (hm : (limbs m.natAbs).length ≤ k) (hn : (limbs n.natAbs).length ≤ k) : (limbs (m + n).natAbs).length ≤ k + 1 := by
  have h1 := limbs_len_mono (Int.natAbs_add_le m n)
  have h2 := limbs_len_add m.natAbs n.natAbs
  omega
theorem Fit.of_len {n : Int} {k : Nat} (h : (limbs n.natAbs).length ≤ k) (hk : k ≤ 1073741824) : Fit n := Nat.le_trans h hk

theorem divInt_num_le {m n : Int} (hn : n ≠ 0) : (Rat.divInt m n).num.natAbs ≤ m.natAbs := by
  rw [Rat.num_divInt]
  have h1 : ((n.gcd m : Nat) : Int) ∣ n.sign * m := Int.dvd_mul_of_dvd_right (Int.gcd_dvd_right ..)
  have h2 : (n.sign * m / (n.gcd m : Nat)).natAbs ≤ (n.sign * m).natAbs := Int.natAbs_ediv_le_natAbs _ _
  have h3 : (n.sign * m).natAbs = m.natAbs := by
    rw [Int.natAbs_mul, Int.natAbs_sign_of_ne_zero hn, Nat.one_mul]
  omega
theorem divInt_den_le {m n : Int} (hn : n ≠ 0) : (Rat.divInt m n).den ≤ n.natAbs := by
  rw [Rat.den_divInt, if_neg hn]
  exact Nat.div_le_self _ _

theorem Sz.make {m n : Int} {j : Nat} (hn : n ≠ 0) (h1 : (limbs m.natAbs).length ≤ j) (h2 : (limbs n.natAbs).length ≤ j) : Sz j (Rat.divInt m n) :=
  ⟨Nat.le_trans (limbs_len_mono (divInt_num_le hn)) h1, Nat.le_trans (limbs_len_mono (divInt_den_le hn)) h2⟩

theorem Sz.den {k : Nat} {x : Rat} (h : Sz k x) : (limbs (x.den : Int).natAbs).length ≤ k := by simpa using h.2
theorem Sz.add {k : Nat} {x y : Rat} (hx : Sz k x) (hy : Sz k y) : Sz (k + k + 1) (x + y) := by
  rw [← rat_add]
  refine Sz.make (Int.mul_ne_zero (den_ne x) (den_ne y)) (len_add (len_mul hx.1 hy.den) (len_mul hy.1 hx.den)) ?_
  exact Nat.le_trans (len_mul hx.den hy.den) (by omega)
theorem Sz.mul {j k : Nat} {x y : Rat} (hx : Sz j x) (hy : Sz k y) : Sz (j + k) (x * y) := by
  rw [← rat_mul]
  exact Sz.make (Int.mul_ne_zero (den_ne x) (den_ne y)) (len_mul hx.1 hy.1) (len_mul hx.den hy.den)
theorem Sz.div {k : Nat} {x y : Rat} (hx : Sz k x) (hy : Sz k y) (h0 : y.num ≠ 0) : Sz (k + k) (x / y) := by
  rw [← rat_div]
  exact Sz.make (Int.mul_ne_zero (den_ne x) h0) (len_mul hx.1 hy.den) (len_mul hx.den hy.1)
theorem Sz.neg {k : Nat} {x : Rat} (h : Sz k x) : Sz k (-x) := by
  refine ⟨?_, ?_⟩
  · rw [Rat.neg_num, Int.natAbs_neg]; exact h.1
  · rw [Rat.neg_den]; exact h.2

set_option maxHeartbeats 1000000 in
set_option maxRecDepth 100000 in
theorem num_add {w : World} {v0 v1 : Value} {x y : Rat}  (h0 : Nm w v0 x) (h1 : Nm w v1 y)  (s0 : Sz 268435456 x) (s1 : Sz 268435456 y) :
    Calls Tryz.prog 46 #[v0, v1] w (RetN w (x + y)) := by
  obtain ⟨bn0, an0, kn0, pn0, bd0, ad0, kd0, pd0, rfl, n0, d0⟩ := h0.parts
  obtain ⟨bn1, an1, kn1, pn1, bd1, ad1, kd1, pd1, rfl, n1, d1⟩ := h1.parts
  obtain ⟨W, hW, hB, hsz, j0, j1, j2⟩ := entC w 88 88 88 #[.bool bn0, .slice an0 kn0 pn0, .bool bd0, .slice ad0 kd0 pd0] #[.bool bn1, .slice an1 kn1 pn1, .bool bd1, .slice ad1 kd1 pd1] #[.bool false, .slice none 0 0, .bool false, .slice none 0 0]
  have HW := Lib.hid hW
  have HSZ := Lib.hid hsz
  clear hW hsz
  have mn0 := n0.below hB
  have md0 := d0.below hB
  have mm0 := h0.below hB
  clear n0 d0 h0
  have mn1 := n1.below hB
  have md1 := d1.below hB
  have mm1 := h1.below hB
  clear n1 d1 h1
  have j2 : Blk W (w.heap.size + 1 + 1) 88 #[.bool false, .slice none 0 0, .bool false, .slice none 0 0] := j2
  have HBW := Lib.hid hB
  have hB0 : Below W.heap.size W W.drew := (Below.refl _ _).drew
  have fx := Fit.of_len s0.1 (by omega)
  have fy := Fit.of_len s1.1 (by omega)
  have fdx := Fit.of_len s0.den (by omega)
  have fdy := Fit.of_len s1.den (by omega)
  have FX := Lib.hid (And.intro fx (And.intro fy (And.intro fdx fdy)))
  have S0 := Lib.hid s0
  have S1 := Lib.hid s1
  clear fx fy fdx fdy s0 s1
  go_enter Tryz.func46, Tryz.ntmps46
  go_upto_region 1 with fail
  rw [← HW.out]
  refine wp_region_list 17 (by kernel_rfl) (by kernel_rfl) [] [fun v _ => v = .pointer (some ⟨w.heap.size, 0, none⟩), fun v _ => v = .agg #[.bool bn0, .slice an0 kn0 pn0], fun v _ => v = .pointer (some ⟨w.heap.size + 1, 2, none⟩), fun v _ => v = .agg #[.bool bd1, .slice ad1 kd1 pd1], fun v w' => Wh w' v (x.num * y.den), fun v _ => v = .pointer (some ⟨w.heap.size + 1, 0, none⟩), fun v _ => v = .agg #[.bool bn1, .slice an1 kn1 pn1], fun v _ => v = .pointer (some ⟨w.heap.size, 2, none⟩), fun v _ => v = .agg #[.bool bd0, .slice ad0 kd0 pd0], fun v w' => Wh w' v (y.num * x.den), fun v w' => Wh w' v (x.num * y.den + y.num * x.den), fun v _ => v = .pointer (some ⟨w.heap.size, 2, none⟩), fun v _ => v = .agg #[.bool bd0, .slice ad0 kd0 pd0], fun v _ => v = .pointer (some ⟨w.heap.size + 1, 2, none⟩), fun v _ => v = .agg #[.bool bd1, .slice ad1 kd1 pd1], fun v w' => Wh w' v ((x.den : Int) * y.den), fun v w' => Nm w' v (x + y)] (by simp only [List.take_succ_cons, List.take_zero]; rfl) (by simp only [List.drop_succ_cons, List.drop_zero]; rfl) (fun vals => by simp only [fam, Act.put, List.setIfInBounds_toArray, List.set_cons_zero, List.set_cons_succ, if_true]; rfl) (by repeat' (first | exact Stab.eq _ _ | exact Stab.wh _ _ | exact Stab.nm _ _ | exact Stab.new _ _ | exact Stab.newn _ _ | exact trivial | apply And.intro)) trivial ?_ ?_
  · refine ⟨?_, ?_, ?_, ?_, ?_, ?_, ?_, ?_, ?_, ?_, ?_, ?_, ?_, ?_, ?_, ?_, ?_, trivial⟩
    all_goals
      intro vals w1 hB hp
      dsimp only
      (try simp [preOk, Region.binds] at hp)
      have hb := next_below hB0 hB
      have hbl0 := j0.next hb
      have hc0_0 := hbl0.cell 0
      have hc0_1 := hbl0.cell 1
      have hc0_2 := hbl0.cell 2
      have hc0_3 := hbl0.cell 3
      simp at hc0_0 hc0_1 hc0_2 hc0_3
      have hbl1 := j1.next hb
      have hc1_0 := hbl1.cell 0
      have hc1_1 := hbl1.cell 1
      have hc1_2 := hbl1.cell 2
      have hc1_3 := hbl1.cell 3
      simp at hc1_0 hc1_1 hc1_2 hc1_3
      clear hB
    case refine_5 =>
      obtain ⟨q0, q1⟩ := hp
      generalize vals 1 = x1 at *
      subst q0
      generalize vals 3 = x3 at *
      subst q1
      go_wp2_with ((go_at_call 78; refine (mul_any (mn0.below hb) (md1.below hb) FX.out.1 FX.out.2.2.2).mono ?_; rintro e w2 ⟨r, rfl, hr, hb2⟩))
      exact ⟨rfl, _, rfl, hr, hb2, trivial⟩
    case refine_10 =>
      obtain ⟨q0, q1, q2⟩ := hp
      generalize vals 6 = x6 at *
      subst q0
      generalize vals 8 = x8 at *
      subst q1
      go_wp2_with ((go_at_call 78; refine (mul_any (mn1.below hb) (md0.below hb) FX.out.2.1 FX.out.2.2.1).mono ?_; rintro e w2 ⟨r, rfl, hr, hb2⟩))
      exact ⟨rfl, _, rfl, hr, hb2, trivial⟩
    case refine_11 =>
      obtain ⟨q0, q1⟩ := hp
      go_wp2_with ((go_at_call 79; refine (add_any q0 q1 (Fit.of_len (len_mul S0.out.1 S1.out.den) (by omega)) (Fit.of_len (len_mul S1.out.1 S0.out.den) (by omega))).mono ?_; rintro e w2 ⟨r, rfl, hr, hb2⟩))
      exact ⟨rfl, _, rfl, hr, hb2, trivial⟩
    case refine_16 =>
      obtain ⟨q0, q1, q2⟩ := hp
      generalize vals 12 = x12 at *
      subst q0
      generalize vals 14 = x14 at *
      subst q1
      go_wp2_with ((go_at_call 78; refine (mul_any (md0.below hb) (md1.below hb) FX.out.2.2.1 FX.out.2.2.2).mono ?_; rintro e w2 ⟨r, rfl, hr, hb2⟩))
      exact ⟨rfl, _, rfl, hr, hb2, trivial⟩
    case refine_17 =>
      obtain ⟨q0, q1⟩ := hp
      go_wp2_with ((go_at_call 77; refine (make_any q0 q1 (Fit.of_len (len_add (len_mul S0.out.1 S1.out.den) (len_mul S1.out.1 S0.out.den)) (by omega)) (Fit.of_len (len_mul S0.out.den S1.out.den) (by omega)) (Int.mul_ne_zero (den_ne x) (den_ne y))).mono ?_; rintro e w2 ⟨r, rfl, hr, hb2⟩))
      exact ⟨rfl, _, rfl, (by rw [← rat_add]; exact hr), hb2, trivial⟩
    all_goals
      go_wp2
      (first | exact ⟨rfl, _, rfl, rfl, Below.refl _ _, trivial⟩ | (refine ⟨rfl, _, ?_, rfl, Below.refl _ _, trivial⟩; simp only [Act.put, List.setIfInBounds_toArray, List.set_cons_zero, List.set_cons_succ, hp]))
  · rintro vals w1 hB ⟨p0, p1, p2, p3, p4, p5, p6, p7, p8, p9, p10, p11, p12, p13, p14, p15, p16, _⟩ hne
    have hb := next_below hB0 hB
    simp at p16
    generalize vals 16 = vl at *
    obtain ⟨b9, a9, k9, q9, c9, e9, l9, r9, rfl, f9, g9⟩ := p16.parts
    have jr := j2.next hb
    obtain ⟨c0, c1, c2, c3⟩ := jr.at4
    obtain ⟨u0, u1, u2, u3⟩ := jr.fr4
    have jw := Lib.hid (jr.four (.bool b9) (.slice a9 k9 q9) (.bool c9) (.slice e9 l9 r9))
    have pw := Lib.hid (p16.four jr (by decide) (.bool b9) (.slice a9 k9 q9) (.bool c9) (.slice e9 l9 r9))
    have pb := Lib.hid (below_four (g := w.heap.size + 1 + 1) (HBW.out.trans (hb.mono HBW.out.size)) (by omega) (.bool b9) (.slice a9 k9 q9) (.bool c9) (.slice e9 l9 r9))
    clear hB hne p0 p1 p2 p3 p4 p5 p6 p7 p8 p9 p10 p11 p12 p13 p14 p15
    go_wp2
    obtain ⟨d0, d1, d2, d3⟩ := jw.out.at4
    refine bodyPost_ret (v := .agg #[.bool b9, .slice a9 k9 q9, .bool c9, .slice e9 l9 r9]) (by simp [results, Tryz.results46, go_sem, d0, d1, d2, d3]) rfl ⟨_, rfl, ?_, pb.out⟩
    exact pw.out

set_option maxHeartbeats 1000000 in
set_option maxRecDepth 100000 in
theorem num_mul {w : World} {v0 v1 : Value} {x y : Rat}  (h0 : Nm w v0 x) (h1 : Nm w v1 y)  (s0 : Sz 268435456 x) (s1 : Sz 268435456 y) :
    Calls Tryz.prog 68 #[v0, v1] w (RetN w (x * y)) := by
  obtain ⟨bn0, an0, kn0, pn0, bd0, ad0, kd0, pd0, rfl, n0, d0⟩ := h0.parts
  obtain ⟨bn1, an1, kn1, pn1, bd1, ad1, kd1, pd1, rfl, n1, d1⟩ := h1.parts
  obtain ⟨W, hW, hB, hsz, j0, j1, j2⟩ := entC w 88 88 88 #[.bool bn0, .slice an0 kn0 pn0, .bool bd0, .slice ad0 kd0 pd0] #[.bool bn1, .slice an1 kn1 pn1, .bool bd1, .slice ad1 kd1 pd1] #[.bool false, .slice none 0 0, .bool false, .slice none 0 0]
  have HW := Lib.hid hW
  have HSZ := Lib.hid hsz
  clear hW hsz
  have mn0 := n0.below hB
  have md0 := d0.below hB
  have mm0 := h0.below hB
  clear n0 d0 h0
  have mn1 := n1.below hB
  have md1 := d1.below hB
  have mm1 := h1.below hB
  clear n1 d1 h1
  have j2 : Blk W (w.heap.size + 1 + 1) 88 #[.bool false, .slice none 0 0, .bool false, .slice none 0 0] := j2
  have HBW := Lib.hid hB
  have hB0 : Below W.heap.size W W.drew := (Below.refl _ _).drew
  have fx := Fit.of_len s0.1 (by omega)
  have fy := Fit.of_len s1.1 (by omega)
  have fdx := Fit.of_len s0.den (by omega)
  have fdy := Fit.of_len s1.den (by omega)
  have FX := Lib.hid (And.intro fx (And.intro fy (And.intro fdx fdy)))
  have S0 := Lib.hid s0
  have S1 := Lib.hid s1
  clear fx fy fdx fdy s0 s1
  go_enter Tryz.func68, Tryz.ntmps68
  go_upto_region 1 with fail
  rw [← HW.out]
  refine wp_region_list 11 (by kernel_rfl) (by kernel_rfl) [] [fun v _ => v = .pointer (some ⟨w.heap.size, 0, none⟩), fun v _ => v = .agg #[.bool bn0, .slice an0 kn0 pn0], fun v _ => v = .pointer (some ⟨w.heap.size + 1, 0, none⟩), fun v _ => v = .agg #[.bool bn1, .slice an1 kn1 pn1], fun v w' => Wh w' v (x.num * y.num), fun v _ => v = .pointer (some ⟨w.heap.size, 2, none⟩), fun v _ => v = .agg #[.bool bd0, .slice ad0 kd0 pd0], fun v _ => v = .pointer (some ⟨w.heap.size + 1, 2, none⟩), fun v _ => v = .agg #[.bool bd1, .slice ad1 kd1 pd1], fun v w' => Wh w' v ((x.den : Int) * y.den), fun v w' => Nm w' v (x * y)] (by simp only [List.take_succ_cons, List.take_zero]; rfl) (by simp only [List.drop_succ_cons, List.drop_zero]; rfl) (fun vals => by simp only [fam, Act.put, List.setIfInBounds_toArray, List.set_cons_zero, List.set_cons_succ, if_true]; rfl) (by repeat' (first | exact Stab.eq _ _ | exact Stab.wh _ _ | exact Stab.nm _ _ | exact Stab.new _ _ | exact Stab.newn _ _ | exact trivial | apply And.intro)) trivial ?_ ?_
  · refine ⟨?_, ?_, ?_, ?_, ?_, ?_, ?_, ?_, ?_, ?_, ?_, trivial⟩
    all_goals
      intro vals w1 hB hp
      dsimp only
      (try simp [preOk, Region.binds] at hp)
      have hb := next_below hB0 hB
      have hbl0 := j0.next hb
      have hc0_0 := hbl0.cell 0
      have hc0_1 := hbl0.cell 1
      have hc0_2 := hbl0.cell 2
      have hc0_3 := hbl0.cell 3
      simp at hc0_0 hc0_1 hc0_2 hc0_3
      have hbl1 := j1.next hb
      have hc1_0 := hbl1.cell 0
      have hc1_1 := hbl1.cell 1
      have hc1_2 := hbl1.cell 2
      have hc1_3 := hbl1.cell 3
      simp at hc1_0 hc1_1 hc1_2 hc1_3
      clear hB
    case refine_5 =>
      obtain ⟨q0, q1⟩ := hp
      generalize vals 1 = x1 at *
      subst q0
      generalize vals 3 = x3 at *
      subst q1
      go_wp2_with ((go_at_call 78; refine (mul_any (mn0.below hb) (mn1.below hb) FX.out.1 FX.out.2.1).mono ?_; rintro e w2 ⟨r, rfl, hr, hb2⟩))
      exact ⟨rfl, _, rfl, hr, hb2, trivial⟩
    case refine_10 =>
      obtain ⟨q0, q1, q2⟩ := hp
      generalize vals 6 = x6 at *
      subst q0
      generalize vals 8 = x8 at *
      subst q1
      go_wp2_with ((go_at_call 78; refine (mul_any (md0.below hb) (md1.below hb) FX.out.2.2.1 FX.out.2.2.2).mono ?_; rintro e w2 ⟨r, rfl, hr, hb2⟩))
      exact ⟨rfl, _, rfl, hr, hb2, trivial⟩
    case refine_11 =>
      obtain ⟨q0, q1⟩ := hp
      go_wp2_with ((go_at_call 77; refine (make_any q0 q1 (Fit.of_len (len_mul S0.out.1 S1.out.1) (by omega)) (Fit.of_len (len_mul S0.out.den S1.out.den) (by omega)) (Int.mul_ne_zero (den_ne x) (den_ne y))).mono ?_; rintro e w2 ⟨r, rfl, hr, hb2⟩))
      exact ⟨rfl, _, rfl, (by rw [← rat_mul]; exact hr), hb2, trivial⟩
    all_goals
      go_wp2
      (first | exact ⟨rfl, _, rfl, rfl, Below.refl _ _, trivial⟩ | (refine ⟨rfl, _, ?_, rfl, Below.refl _ _, trivial⟩; simp only [Act.put, List.setIfInBounds_toArray, List.set_cons_zero, List.set_cons_succ, hp]))
  · rintro vals w1 hB ⟨p0, p1, p2, p3, p4, p5, p6, p7, p8, p9, p10, _⟩ hne
    have hb := next_below hB0 hB
    simp at p10
    generalize vals 10 = vl at *
    obtain ⟨b9, a9, k9, q9, c9, e9, l9, r9, rfl, f9, g9⟩ := p10.parts
    have jr := j2.next hb
    obtain ⟨c0, c1, c2, c3⟩ := jr.at4
    obtain ⟨u0, u1, u2, u3⟩ := jr.fr4
    have jw := Lib.hid (jr.four (.bool b9) (.slice a9 k9 q9) (.bool c9) (.slice e9 l9 r9))
    have pw := Lib.hid (p10.four jr (by decide) (.bool b9) (.slice a9 k9 q9) (.bool c9) (.slice e9 l9 r9))
    have pb := Lib.hid (below_four (g := w.heap.size + 1 + 1) (HBW.out.trans (hb.mono HBW.out.size)) (by omega) (.bool b9) (.slice a9 k9 q9) (.bool c9) (.slice e9 l9 r9))
    clear hB hne p0 p1 p2 p3 p4 p5 p6 p7 p8 p9
    go_wp2
    obtain ⟨d0, d1, d2, d3⟩ := jw.out.at4
    refine bodyPost_ret (v := .agg #[.bool b9, .slice a9 k9 q9, .bool c9, .slice e9 l9 r9]) (by simp [results, Tryz.results68, go_sem, d0, d1, d2, d3]) rfl ⟨_, rfl, ?_, pb.out⟩
    exact pw.out

set_option maxHeartbeats 1000000 in
set_option maxRecDepth 100000 in
theorem num_cmp {w : World} {v0 v1 : Value} {x y : Rat}  (h0 : Nm w v0 x) (h1 : Nm w v1 y)  (s0 : Sz 268435456 x) (s1 : Sz 268435456 y) :
    Calls Tryz.prog 107 #[v0, v1] w (RetV w (.int .i64 (rcmp x y))) := by
  obtain ⟨bn0, an0, kn0, pn0, bd0, ad0, kd0, pd0, rfl, n0, d0⟩ := h0.parts
  obtain ⟨bn1, an1, kn1, pn1, bd1, ad1, kd1, pd1, rfl, n1, d1⟩ := h1.parts
  obtain ⟨W, hW, hB, hsz, j0, j1⟩ := entB w 88 88 #[.bool bn0, .slice an0 kn0 pn0, .bool bd0, .slice ad0 kd0 pd0] #[.bool bn1, .slice an1 kn1 pn1, .bool bd1, .slice ad1 kd1 pd1]
  have HW := Lib.hid hW
  have HSZ := Lib.hid hsz
  clear hW hsz
  have mn0 := n0.below hB
  have md0 := d0.below hB
  have mm0 := h0.below hB
  clear n0 d0 h0
  have mn1 := n1.below hB
  have md1 := d1.below hB
  have mm1 := h1.below hB
  clear n1 d1 h1
  have HBW := Lib.hid hB
  have hB0 : Below W.heap.size W W.drew := (Below.refl _ _).drew
  have fx := Fit.of_len s0.1 (by omega)
  have fy := Fit.of_len s1.1 (by omega)
  have fdx := Fit.of_len s0.den (by omega)
  have fdy := Fit.of_len s1.den (by omega)
  have FX := Lib.hid (And.intro fx (And.intro fy (And.intro fdx fdy)))
  have S0 := Lib.hid s0
  have S1 := Lib.hid s1
  clear fx fy fdx fdy s0 s1
  go_enter Tryz.func107, Tryz.ntmps107
  go_upto_region 1 with fail
  rw [← HW.out]
  refine wp_region_list 11 (by kernel_rfl) (by kernel_rfl) [] [fun v _ => v = .pointer (some ⟨w.heap.size, 0, none⟩), fun v _ => v = .agg #[.bool bn0, .slice an0 kn0 pn0], fun v _ => v = .pointer (some ⟨w.heap.size + 1, 2, none⟩), fun v _ => v = .agg #[.bool bd1, .slice ad1 kd1 pd1], fun v w' => Wh w' v (x.num * y.den), fun v _ => v = .pointer (some ⟨w.heap.size + 1, 0, none⟩), fun v _ => v = .agg #[.bool bn1, .slice an1 kn1 pn1], fun v _ => v = .pointer (some ⟨w.heap.size, 2, none⟩), fun v _ => v = .agg #[.bool bd0, .slice ad0 kd0 pd0], fun v w' => Wh w' v (y.num * x.den), fun v _ => v = .int .i64 (rcmp x y)] (by simp only [List.take_succ_cons, List.take_zero]; rfl) (by simp only [List.drop_succ_cons, List.drop_zero]; rfl) (fun vals => by simp only [fam, Act.put, List.setIfInBounds_toArray, List.set_cons_zero, List.set_cons_succ, if_true]; rfl) (by repeat' (first | exact Stab.eq _ _ | exact Stab.wh _ _ | exact Stab.nm _ _ | exact Stab.new _ _ | exact Stab.newn _ _ | exact trivial | apply And.intro)) trivial ?_ ?_
  · refine ⟨?_, ?_, ?_, ?_, ?_, ?_, ?_, ?_, ?_, ?_, ?_, trivial⟩
    all_goals
      intro vals w1 hB hp
      dsimp only
      (try simp [preOk, Region.binds] at hp)
      have hb := next_below hB0 hB
      have hbl0 := j0.next hb
      have hc0_0 := hbl0.cell 0
      have hc0_1 := hbl0.cell 1
      have hc0_2 := hbl0.cell 2
      have hc0_3 := hbl0.cell 3
      simp at hc0_0 hc0_1 hc0_2 hc0_3
      have hbl1 := j1.next hb
      have hc1_0 := hbl1.cell 0
      have hc1_1 := hbl1.cell 1
      have hc1_2 := hbl1.cell 2
      have hc1_3 := hbl1.cell 3
      simp at hc1_0 hc1_1 hc1_2 hc1_3
      clear hB
    case refine_5 =>
      obtain ⟨q0, q1⟩ := hp
      generalize vals 1 = x1 at *
      subst q0
      generalize vals 3 = x3 at *
      subst q1
      go_wp2_with ((go_at_call 78; refine (mul_any (mn0.below hb) (md1.below hb) FX.out.1 FX.out.2.2.2).mono ?_; rintro e w2 ⟨r, rfl, hr, hb2⟩))
      exact ⟨rfl, _, rfl, hr, hb2, trivial⟩
    case refine_10 =>
      obtain ⟨q0, q1, q2⟩ := hp
      generalize vals 6 = x6 at *
      subst q0
      generalize vals 8 = x8 at *
      subst q1
      go_wp2_with ((go_at_call 78; refine (mul_any (mn1.below hb) (md0.below hb) FX.out.2.1 FX.out.2.2.1).mono ?_; rintro e w2 ⟨r, rfl, hr, hb2⟩))
      exact ⟨rfl, _, rfl, hr, hb2, trivial⟩
    case refine_11 =>
      obtain ⟨q0, q1⟩ := hp
      go_wp2_with ((go_at_call 132; refine (cmp_any q0 q1).mono ?_; rintro e w2 ⟨rfl, hb2⟩))
      exact ⟨rfl, _, rfl, rfl, hb2, trivial⟩
    all_goals
      go_wp2
      (first | exact ⟨rfl, _, rfl, rfl, Below.refl _ _, trivial⟩ | (refine ⟨rfl, _, ?_, rfl, Below.refl _ _, trivial⟩; simp only [Act.put, List.setIfInBounds_toArray, List.set_cons_zero, List.set_cons_succ, hp]))
  · rintro vals w1 hB ⟨p0, p1, p2, p3, p4, p5, p6, p7, p8, p9, p10, _⟩ hne
    have hb := next_below hB0 hB
    simp at p10
    generalize vals 10 = vl at *
    have pb := Lib.hid (HBW.out.trans (hb.mono HBW.out.size))
    subst p10
    clear hB hne p0 p1 p2 p3 p4 p5 p6 p7 p8 p9
    go_wp2
    go_ret
    exact ⟨rfl, pb.out⟩

end Go.Proofs.YtpmlmibceiolpaaGreatDoor

/- The contracts of numbers: negatives, differences, signs, whole parts, small ones. -/
set_option linter.unusedSimpArgs false
set_option linter.unusedVariables false
namespace Go.Proofs.YtpmlmibceiolpaaGreatDoor
open Go.RowKit

set_option maxHeartbeats 1000000 in
set_option maxRecDepth 100000 in
theorem num_neg {w : World} {v0 : Value} {x : Rat}  (h0 : Nm w v0 x)   :
    Calls Tryz.prog 106 #[v0] w (RetN w (-x)) := by
  obtain ⟨bn0, an0, kn0, pn0, bd0, ad0, kd0, pd0, rfl, n0, d0⟩ := h0.parts
  obtain ⟨W, hW, hB, hsz, j0, j1⟩ := entB w 88 88 #[.bool bn0, .slice an0 kn0 pn0, .bool bd0, .slice ad0 kd0 pd0] #[.bool false, .slice none 0 0, .bool false, .slice none 0 0]
  have HW := Lib.hid hW
  have HSZ := Lib.hid hsz
  clear hW hsz
  have mn0 := n0.below hB
  have md0 := d0.below hB
  have mm0 := h0.below hB
  clear n0 d0 h0
  have HBW := Lib.hid hB
  have hB0 : Below W.heap.size W W.drew := (Below.refl _ _).drew
  go_enter Tryz.func106, Tryz.ntmps106
  go_upto_region 1 with fail
  rw [← HW.out]
  refine wp_region_list 6 (by kernel_rfl) (by kernel_rfl) [] [fun v _ => v = .pointer (some ⟨w.heap.size, 0, none⟩), fun v _ => v = .agg #[.bool bn0, .slice an0 kn0 pn0], fun v w' => Wh w' v (-x.num), fun v _ => v = .pointer (some ⟨w.heap.size, 2, none⟩), fun v _ => v = .agg #[.bool bd0, .slice ad0 kd0 pd0], fun v w' => Nm w' v (-x)] (by simp only [List.take_succ_cons, List.take_zero]; rfl) (by simp only [List.drop_succ_cons, List.drop_zero]; rfl) (fun vals => by simp only [fam, Act.put, List.setIfInBounds_toArray, List.set_cons_zero, List.set_cons_succ, if_true]; rfl) (by repeat' (first | exact Stab.eq _ _ | exact Stab.wh _ _ | exact Stab.nm _ _ | exact Stab.new _ _ | exact Stab.newn _ _ | exact trivial | apply And.intro)) trivial ?_ ?_
  · refine ⟨?_, ?_, ?_, ?_, ?_, ?_, trivial⟩
    all_goals
      intro vals w1 hB hp
      dsimp only
      (try simp [preOk, Region.binds] at hp)
      have hb := next_below hB0 hB
      have hbl0 := j0.next hb
      have hc0_0 := hbl0.cell 0
      have hc0_1 := hbl0.cell 1
      have hc0_2 := hbl0.cell 2
      have hc0_3 := hbl0.cell 3
      simp at hc0_0 hc0_1 hc0_2 hc0_3
      clear hB
    case refine_3 =>
      have q0 := hp
      generalize vals 1 = x1 at *
      subst q0
      go_wp2_with ((go_at_call 116; refine (neg_any (mn0.below hb)).mono ?_; rintro e w2 ⟨r, rfl, hr, hb2⟩))
      exact ⟨rfl, _, rfl, hr, hb2, trivial⟩
    case refine_6 =>
      obtain ⟨q0, q1⟩ := hp
      generalize vals 4 = x4 at *
      subst q1
      generalize vals 2 = x2 at *
      obtain ⟨b7, a7, k7, p7, rfl⟩ := q0.parts
      go_wp2
      exact ⟨rfl, _, rfl, Nm.mk (by rw [Rat.neg_num]; exact q0) (by rw [Rat.neg_den]; exact md0.below hb), Below.refl _ _, trivial⟩
    all_goals
      go_wp2
      (first | exact ⟨rfl, _, rfl, rfl, Below.refl _ _, trivial⟩ | (refine ⟨rfl, _, ?_, rfl, Below.refl _ _, trivial⟩; simp only [Act.put, List.setIfInBounds_toArray, List.set_cons_zero, List.set_cons_succ, hp]))
  · rintro vals w1 hB ⟨p0, p1, p2, p3, p4, p5, _⟩ hne
    have hb := next_below hB0 hB
    simp at p5
    generalize vals 5 = vl at *
    obtain ⟨b9, a9, k9, q9, c9, e9, l9, r9, rfl, f9, g9⟩ := p5.parts
    have jr := j1.next hb
    obtain ⟨c0, c1, c2, c3⟩ := jr.at4
    obtain ⟨u0, u1, u2, u3⟩ := jr.fr4
    have jw := Lib.hid (jr.four (.bool b9) (.slice a9 k9 q9) (.bool c9) (.slice e9 l9 r9))
    have pw := Lib.hid (p5.four jr (by decide) (.bool b9) (.slice a9 k9 q9) (.bool c9) (.slice e9 l9 r9))
    have pb := Lib.hid (below_four (g := w.heap.size + 1) (HBW.out.trans (hb.mono HBW.out.size)) (by omega) (.bool b9) (.slice a9 k9 q9) (.bool c9) (.slice e9 l9 r9))
    clear hB hne p0 p1 p2 p3 p4
    go_wp2
    obtain ⟨d0, d1, d2, d3⟩ := jw.out.at4
    refine bodyPost_ret (v := .agg #[.bool b9, .slice a9 k9 q9, .bool c9, .slice e9 l9 r9]) (by simp [results, Tryz.results106, go_sem, d0, d1, d2, d3]) rfl ⟨_, rfl, ?_, pb.out⟩
    exact pw.out

set_option maxHeartbeats 1000000 in
set_option maxRecDepth 100000 in
theorem num_sub {w : World} {v0 v1 : Value} {x y : Rat}  (h0 : Nm w v0 x) (h1 : Nm w v1 y)  (s0 : Sz 268435456 x) (s1 : Sz 268435456 y) :
    Calls Tryz.prog 67 #[v0, v1] w (RetN w (x - y)) := by
  obtain ⟨bn0, an0, kn0, pn0, bd0, ad0, kd0, pd0, rfl, n0, d0⟩ := h0.parts
  obtain ⟨bn1, an1, kn1, pn1, bd1, ad1, kd1, pd1, rfl, n1, d1⟩ := h1.parts
  obtain ⟨W, hW, hB, hsz, j0, j1, j2⟩ := entC w 88 88 88 #[.bool bn0, .slice an0 kn0 pn0, .bool bd0, .slice ad0 kd0 pd0] #[.bool bn1, .slice an1 kn1 pn1, .bool bd1, .slice ad1 kd1 pd1] #[.bool false, .slice none 0 0, .bool false, .slice none 0 0]
  have HW := Lib.hid hW
  have HSZ := Lib.hid hsz
  clear hW hsz
  have mn0 := n0.below hB
  have md0 := d0.below hB
  have mm0 := h0.below hB
  clear n0 d0 h0
  have mn1 := n1.below hB
  have md1 := d1.below hB
  have mm1 := h1.below hB
  clear n1 d1 h1
  have j2 : Blk W (w.heap.size + 1 + 1) 88 #[.bool false, .slice none 0 0, .bool false, .slice none 0 0] := j2
  have HBW := Lib.hid hB
  have hB0 : Below W.heap.size W W.drew := (Below.refl _ _).drew
  have S := Lib.hid (And.intro s0 s1)
  clear s0 s1
  go_enter Tryz.func67, Tryz.ntmps67
  go_upto_region 1 with fail
  rw [← HW.out]
  refine wp_region_list 4 (by kernel_rfl) (by kernel_rfl) [] [fun v _ => v = .agg #[.bool bn0, .slice an0 kn0 pn0, .bool bd0, .slice ad0 kd0 pd0], fun v _ => v = .agg #[.bool bn1, .slice an1 kn1 pn1, .bool bd1, .slice ad1 kd1 pd1], fun v w' => Nm w' v (-y), fun v w' => Nm w' v (x - y)] (by simp only [List.take_succ_cons, List.take_zero]; rfl) (by simp only [List.drop_succ_cons, List.drop_zero]; rfl) (fun vals => by simp only [fam, Act.put, List.setIfInBounds_toArray, List.set_cons_zero, List.set_cons_succ, if_true]; rfl) (by repeat' (first | exact Stab.eq _ _ | exact Stab.wh _ _ | exact Stab.nm _ _ | exact Stab.new _ _ | exact Stab.newn _ _ | exact trivial | apply And.intro)) trivial ?_ ?_
  · refine ⟨?_, ?_, ?_, ?_, trivial⟩
    all_goals
      intro vals w1 hB hp
      dsimp only
      (try simp [preOk, Region.binds] at hp)
      have hb := next_below hB0 hB
      have hbl0 := j0.next hb
      have hc0_0 := hbl0.cell 0
      have hc0_1 := hbl0.cell 1
      have hc0_2 := hbl0.cell 2
      have hc0_3 := hbl0.cell 3
      simp at hc0_0 hc0_1 hc0_2 hc0_3
      have hbl1 := j1.next hb
      have hc1_0 := hbl1.cell 0
      have hc1_1 := hbl1.cell 1
      have hc1_2 := hbl1.cell 2
      have hc1_3 := hbl1.cell 3
      simp at hc1_0 hc1_1 hc1_2 hc1_3
      clear hB
    case refine_3 =>
      have q0 := hp
      generalize vals 1 = x1 at *
      subst q0
      go_wp2_with ((go_at_call 106; refine (num_neg (mm1.below hb)).mono ?_; rintro e w2 ⟨r, rfl, hr, hb2⟩))
      exact ⟨rfl, _, rfl, hr, hb2, trivial⟩
    case refine_4 =>
      obtain ⟨q0, q1⟩ := hp
      generalize vals 0 = x0 at *
      subst q0
      go_wp2_with ((go_at_call 46; refine (num_add (mm0.below hb) q1 S.out.1 S.out.2.neg).mono ?_; rintro e w2 ⟨r, rfl, hr, hb2⟩))
      exact ⟨rfl, _, rfl, (by rw [Rat.sub_eq_add_neg]; exact hr), hb2, trivial⟩
    all_goals
      go_wp2
      (first | exact ⟨rfl, _, rfl, rfl, Below.refl _ _, trivial⟩ | (refine ⟨rfl, _, ?_, rfl, Below.refl _ _, trivial⟩; simp only [Act.put, List.setIfInBounds_toArray, List.set_cons_zero, List.set_cons_succ, hp]))
  · rintro vals w1 hB ⟨p0, p1, p2, p3, _⟩ hne
    have hb := next_below hB0 hB
    simp at p3
    generalize vals 3 = vl at *
    obtain ⟨b9, a9, k9, q9, c9, e9, l9, r9, rfl, f9, g9⟩ := p3.parts
    have jr := j2.next hb
    obtain ⟨c0, c1, c2, c3⟩ := jr.at4
    obtain ⟨u0, u1, u2, u3⟩ := jr.fr4
    have jw := Lib.hid (jr.four (.bool b9) (.slice a9 k9 q9) (.bool c9) (.slice e9 l9 r9))
    have pw := Lib.hid (p3.four jr (by decide) (.bool b9) (.slice a9 k9 q9) (.bool c9) (.slice e9 l9 r9))
    have pb := Lib.hid (below_four (g := w.heap.size + 1 + 1) (HBW.out.trans (hb.mono HBW.out.size)) (by omega) (.bool b9) (.slice a9 k9 q9) (.bool c9) (.slice e9 l9 r9))
    clear hB hne p0 p1 p2
    go_wp2
    obtain ⟨d0, d1, d2, d3⟩ := jw.out.at4
    refine bodyPost_ret (v := .agg #[.bool b9, .slice a9 k9 q9, .bool c9, .slice e9 l9 r9]) (by simp [results, Tryz.results67, go_sem, d0, d1, d2, d3]) rfl ⟨_, rfl, ?_, pb.out⟩
    exact pw.out

end Go.Proofs.YtpmlmibceiolpaaGreatDoor
