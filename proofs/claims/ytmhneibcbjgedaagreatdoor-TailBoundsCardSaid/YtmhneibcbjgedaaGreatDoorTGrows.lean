/- TailGrows answers true. -/
import Derived.Test.YtmhneibcbjgedaaGreatDoorTAdds
import Derived.Test.YtmhneibcbjgedaaGreatDoorTRMake
set_option linter.unusedSimpArgs false
set_option linter.unusedVariables false
namespace Go.Proofs.YtmhneibcbjgedaaGreatDoor
open Go.RowKit
open Go.Lib (decDigits itoa nDigits)
open D4 (rt it)

theorem U_fit2 {M n k : Nat} {x : Rat} (hx : On M x) (h0 : 0 ≤ x) (h1 : x ≤ 1) (hM : 0 < M) (hd : M ≤ 132) (hn : n ≤ 8) : fitsD 2000 (U n k x) :=
  fit_le ((hx.U n k).fit (U_unit x h0 h1 n k).1 (U_unit x h0 h1 n k).2 (Nat.pow_pos hM) (pow_small hd hn)) (by decide)
theorem On.divInt (s : Int) {M : Nat} (hM : 0 < M) : On M (Rat.divInt s M) := by
  refine ⟨s, ?_⟩
  have hM' : ((M : Int) : Rat) ≠ 0 := by
    intro e
    have : (M : Int) = 0 := by exact_mod_cast e
    omega
  rw [divInt_div]
  have e : ((M : Nat) : Rat) = ((M : Int) : Rat) := by push_cast; rfl
  rw [e]
  exact Rat.div_mul_cancel hM'
theorem U_trial (n k : Nat) (x : Rat) (h0 : 0 ≤ x) (h1 : x ≤ 1) (hk : k ≤ n) : U n k x ≤ U (n + 1) k x := by
  cases k with
  | zero => rw [U_zero, U_zero]; exact Rat.le_refl
  | succ j =>
    rw [U_more n j x (by omega)]
    have := Rat.mul_nonneg (ms_nonneg n j x h0 h1) h0
    grind

/-- The greater probability. -/
theorem step_facts {P ST : Rat} {M : Nat} (p0 : 0 ≤ P) (p1 : P ≤ 1) (s0 : 0 ≤ ST) (s1 : ST ≤ 1) (hP : On M P) (hS : On 11 ST) :
    On (M * 11) ((1 - P) * ST) ∧ 0 ≤ (1 - P) * ST ∧ (1 - P) * ST ≤ 1 ∧ On (M * 11) (P + (1 - P) * ST) ∧ P ≤ P + (1 - P) * ST ∧ P + (1 - P) * ST ≤ 1 := by
  have h1 : (0 : Rat) ≤ 1 - P := by grind
  have a := Rat.mul_nonneg h1 s0
  have b := Rat.mul_nonneg h1 (show 0 ≤ 1 - ST by grind)
  have o := ((On.one M).sub hP).mul hS
  refine ⟨o, a, ?_, (hP.more 11).add o, ?_, ?_⟩
  all_goals grind

set_option maxHeartbeats 8000000 in
set_option maxRecDepth 100000 in
theorem grows_any {w : World} (n k p dd gr : Int) (b : Nat) (n0 : 0 ≤ n) (n1 : n ≤ 255) (k0 : 0 ≤ k) (k1 : k ≤ 255) (q0 : 0 ≤ p) (q1 : p ≤ 255) (e0 : 0 ≤ dd) (e1 : dd ≤ 255) (h0 : 0 ≤ gr) (h1 : gr ≤ 255) (hb : b < 256) (hg : Good w) :
    Calls Tryz.prog 8 #[.agg #[.int .u8 n, .int .u8 k, .int .u8 p, .int .u8 dd, .int .u8 gr], .int .u8 b] w (RetV w (.bool true)) := by
  obtain ⟨N, K, P, D, G, ha, hA⟩ := args_any n k p dd gr n0 n1 k0 k1 q0 q1 e0 e1 h0 h1
  have HA := Lib.hid hA
  have HN := ha.n
  have HK := ha.k
  have hch := ha.ch
  have hct := hch.turn (by have := ha.pd; omega)
  have hd : P.den ≤ 12 := ha.pd
  obtain ⟨p0, p1⟩ := And.intro ha.p0 ha.p1
  have t1 := Int.tmod_nonneg (a := (b : Int)) 12 (by omega)
  have t2 := Int.tmod_lt_of_pos (b : Int) (b := 12) (by omega)
  obtain ⟨s, es⟩ : ∃ s, (b : Int).tmod 12 = s := ⟨_, rfl⟩
  rw [es] at t1 t2
  have hs := divInt_le (a := s) (b := 11) t1 (by omega)
  have hS : On 11 (Rat.divInt s 11) := On.divInt s (M := 11) (by omega)
  have hsf : fitsD 2000 (Rat.divInt s 11) := fit_le (hS.fit (d := 1) hs.1 (hs.2.1 (by omega)) (by omega) (by omega)) (by omega)
  have hf := step_facts p0 p1 hs.1 (hs.2.1 (by omega)) (On.den P) hS
  have H1 := Lib.hid (fun (V : World) (hV : Good V) => works_any hV)
  have H2 := Lib.hid (fun (V : World) (hV : Good V) => rsub_rt (w := V) (x := 1) (y := P) fit_one hch.big hct.big hV)
  rw [rt_one1] at H2
  have H3 := Lib.hid (fun (V : World) (hV : Good V) => rofr_any (w := V) (n := s) (d := 11) (by omega) (by omega) (by omega) (by omega) (by omega) hV)
  generalize Rat.divInt s 11 = ST at *
  obtain ⟨f1, f2, f3, f4, f5, f6⟩ := hf
  have hmf : fitsD 2000 ((1 - P) * ST) := fit_le (f1.fit (d := 3) f2 f3 (by have := P.den_pos; omega) (by omega)) (by omega)
  have hq0 : 0 ≤ P + (1 - P) * ST := Rat.le_trans p0 f5
  have hqc : Ch (P + (1 - P) * ST) := ⟨hq0, f6, f4.fit (d := 3) hq0 f6 (by have := P.den_pos; omega) (by omega)⟩
  have H4 := Lib.hid (fun (V : World) (hV : Good V) => rmul_rt (w := V) (x := 1 - P) (y := ST) hct.big hsf hmf hV)
  have H5 := Lib.hid (fun (V : World) (hV : Good V) => qadd_any (w := V) (x := P) (y := (1 - P) * ST) hch.big hmf hqc.big hV)
  generalize (1 - P) * ST = mo at *
  generalize P + mo = Q at *
  have H6 := Lib.hid (fun (V : World) (hV : Good V) => by
    have h := qmost_any (w := V) (x := P) (y := Q) hch.big hqc.big hV
    rw [decide_eq_true f5] at h
    exact h)
  have H7 := Lib.hid (fun (V : World) (hV : Good V) => by
    have h := qmost_any (w := V) (x := Q) (y := 1) hqc.big fit_one hV
    rw [rt_one1, decide_eq_true f6] at h
    exact h)
  have H8 := Lib.hid (fun (V : World) (hV : Good V) => least_rt (w := V) (n := N) (k := K) hch (by omega) HK hV)
  have H9 := Lib.hid (fun (V : World) (hV : Good V) => least_rt (w := V) (n := N) (k := K) hqc (by omega) HK hV)
  have H10 := Lib.hid (fun (V : World) (hV : Good V) => by
    have h := least_rt (w := V) (n := N + 1) (k := K) hch (by omega) (by omega) hV
    push_cast at h
    exact h)
  have fa : fitsD 2000 (U N K P) := U_fit p0 p1 (by omega) (by omega)
  have fb : fitsD 2000 (U N K Q) := U_fit2 f4 hq0 f6 (by have := P.den_pos; omega) (by omega) (by omega)
  have fc : fitsD 2000 (U (N + 1) K P) := U_fit p0 p1 (by omega) (by omega)
  have H11 := Lib.hid (fun (V : World) (hV : Good V) => by
    have h := qmost_any (w := V) (x := U N K P) (y := U N K Q) fa fb hV
    rw [decide_eq_true (U_grow N K P Q p0 f5 f6)] at h
    exact h)
  have H12 := Lib.hid (fun (V : World) (hV : Good V) => by
    have h := qmost_any (w := V) (x := U N K P) (y := U (N + 1) K P) fa fc hV
    rw [decide_eq_true (U_trial N K P p0 p1 HK)] at h
    exact h)
  obtain ⟨W, hW, hB, hsz, j⟩ := entA w 36 #[.int .u8 n, .int .u8 k, .int .u8 p, .int .u8 dd, .int .u8 gr]
  have HG := Lib.hid (fun (V : World) (hV : Below W.heap.size W V) => (hg.below hB).below hV)
  have HW := Lib.hid hW
  have HB := Lib.hid hB
  have J := Lib.hid j
  have hb' : (0 : Int) ≤ (b : Int) ∧ (b : Int) < 256 := by omega
  obtain ⟨hb1, hb2⟩ := hb'
  clear hb
  rcases Nat.eq_zero_or_pos K with hK0 | hK0
  · subst hK0
    have hA1 : rt (U N 0 P) = ⟨#[49]⟩ := by rw [U_zero, rt_one1]
    have hC1 : rt (U (N + 1) 0 P) = ⟨#[49]⟩ := by rw [U_zero, rt_one1]
    rw [hA1] at H8 H11 H12
    rw [hC1] at H10 H12
    generalize rt (U N 0 Q) = RB at *
    clear hA1 hC1 HK
    generalize rt P = RP at *
    generalize rt Q = RQ at *
    generalize rt D = RD at *
    generalize rt ST = RS at *
    generalize rt mo = RM at *
    generalize rt (1 - P) = RU at *
    generalize (b : Int) = bb at *
    clear ha hA hch hct hd p0 p1 hs hS hsf f1 f2 f3 f4 f5 f6 hmf hq0 hqc fa fb fc hg hW hB hsz j n0 n1 k0 k1 q0 q1 e0 e1 h0 h1
    go_enter Tryz.func8, Tryz.ntmps8
    go_upto_region 1 with fail
    rw [← HW.out]
    go_wp2_with fail
    refine (H1.out _ (HG.out _ (Below.refl _ _))).mono ?_
    rintro e wn ⟨rfl, b1⟩
    have jn := J.out.next b1
    have c0 := jn.cell 0
    have c1 := jn.cell 1
    have c2 := jn.cell 2
    have c3 := jn.cell 3
    have c4 := jn.cell 4
    simp at c0 c1 c2 c3 c4
    have B1 := Lib.hid b1
    clear b1 jn
    go_wp2_with fail
    refine (HA.out _ (HG.out _ B1.out)).mono ?_
    rintro e wn2 ⟨rfl, b2⟩
    have B2 := Lib.hid (next_below B1.out b2)
    clear b2 c0 c1 c2 c3 c4
    go_wp2_with fail
    refine (H2.out _ (HG.out _ B2.out)).mono ?_
    rintro e V ⟨rfl, kk⟩
    have B3 := Lib.hid (next_below B2.out kk)
    clear kk
    go_wp2_with fail
    refine (H3.out _ (HG.out _ B3.out)).mono ?_
    rintro e V ⟨rfl, kk⟩
    have B4 := Lib.hid (next_below B3.out kk)
    clear kk
    go_wp2_with fail
    refine (H4.out _ (HG.out _ B4.out)).mono ?_
    rintro e V ⟨rfl, kk⟩
    have B5 := Lib.hid (next_below B4.out kk)
    clear kk
    go_wp2_with fail
    refine (H5.out _ (HG.out _ B5.out)).mono ?_
    rintro e V ⟨rfl, kk⟩
    have B6 := Lib.hid (next_below B5.out kk)
    clear kk
    go_wp2_with fail
    refine (H6.out _ (HG.out _ B6.out)).mono ?_
    rintro e V ⟨rfl, kk⟩
    have B7 := Lib.hid (next_below B6.out kk)
    clear kk
    go_wp2_with fail
    refine (H7.out _ (HG.out _ B7.out)).mono ?_
    rintro e V ⟨rfl, kk⟩
    have B8 := Lib.hid (next_below B7.out kk)
    clear kk
    go_wp2_with fail
    refine (H8.out _ (HG.out _ B8.out)).mono ?_
    rintro e V ⟨rfl, kk⟩
    have B9 := Lib.hid (next_below B8.out kk)
    clear kk
    go_wp2_with fail
    refine (H9.out _ (HG.out _ B9.out)).mono ?_
    rintro e V ⟨rfl, kk⟩
    have B10 := Lib.hid (next_below B9.out kk)
    clear kk
    go_wp2_with fail
    refine (H10.out _ (HG.out _ B10.out)).mono ?_
    rintro e V ⟨rfl, kk⟩
    have B11 := Lib.hid (next_below B10.out kk)
    clear kk
    go_wp2_with fail
    refine (H11.out _ (HG.out _ B11.out)).mono ?_
    rintro e V ⟨rfl, kk⟩
    have B12 := Lib.hid (next_below B11.out kk)
    clear kk
    go_wp2_with fail
    refine (H12.out _ (HG.out _ B12.out)).mono ?_
    rintro e V ⟨rfl, kk⟩
    have B13 := Lib.hid (next_below B12.out kk)
    clear kk
    go_wp2
    go_ret
    exact ⟨rfl, HB.out.trans (B13.out.mono HB.out.size)⟩
  · obtain ⟨i, rfl⟩ : ∃ i, K = i + 1 := ⟨K - 1, by omega⟩
    have hi : i ≤ N := by omega
    have fm : fitsD 2000 (ms N i P) := ms_fit p0 p1 (by omega) (by omega) hi
    have fx : fitsD 2000 (ms N i P * P) := by
      have o := ((On.den P).ms N i hi).mul (On.den P)
      have a := Rat.mul_nonneg (ms_nonneg N i P p0 p1) p0
      have a2 : ms N i P * P ≤ 1 := by
        have l := ms_le N i P p0 p1 hi
        have l0 := ms_nonneg N i P p0 p1
        have l2 := Rat.mul_nonneg l0 (show 0 ≤ 1 - P by grind)
        grind
      rw [← Nat.pow_succ] at o
      exact fit_le (o.fit a a2 (Nat.pow_pos P.den_pos) (pow_small (by omega) (by omega))) (by decide)
    have H13 := Lib.hid (fun (c : Int) (hc : c = (i : Int)) (V : World) (hV : Good V) => by
      have h := mass_rt (w := V) (n := N) (k := i) hch (by omega) hi hV
      rw [← hc] at h
      exact h)
    have H14 := Lib.hid (fun (V : World) (hV : Good V) => rmul_rt (w := V) (x := ms N i P) (y := P) fm hch.big fx hV)
    have H15 := Lib.hid (fun (V : World) (hV : Good V) => by
      have h := qadd_any (w := V) (x := U N (i + 1) P) (y := ms N i P * P) fa fx (by rw [← U_more N i P hi]; exact fc) hV
      rw [← U_more N i P hi] at h
      exact h)
    have hc0 : ((i + 1 : Nat) : Int) - 1 = (i : Int) := by omega
    have hc1 : (0 : Int) < ((i + 1 : Nat) : Int) := by omega
    have hc2 : ((i + 1 : Nat) : Int) ≤ 7 := by omega
    have HCI := Lib.hid hc0
    generalize ((i + 1 : Nat) : Int) = c at *
    generalize rt (U N (i + 1) P) = RA at *
    generalize rt (U N (i + 1) Q) = RB at *
    generalize rt (U (N + 1) (i + 1) P) = RC at *
    generalize rt (ms N i P * P) = RX at *
    generalize rt (ms N i P) = RN at *
    clear fm fx hc0 hK0 HK hi
    generalize rt P = RP at *
    generalize rt Q = RQ at *
    generalize rt D = RD at *
    generalize rt ST = RS at *
    generalize rt mo = RM at *
    generalize rt (1 - P) = RU at *
    generalize (b : Int) = bb at *
    clear ha hA hch hct hd p0 p1 hs hS hsf f1 f2 f3 f4 f5 f6 hmf hq0 hqc fa fb fc hg hW hB hsz j n0 n1 k0 k1 q0 q1 e0 e1 h0 h1
    go_enter Tryz.func8, Tryz.ntmps8
    go_upto_region 1 with fail
    rw [← HW.out]
    go_wp2_with fail
    refine (H1.out _ (HG.out _ (Below.refl _ _))).mono ?_
    rintro e wn ⟨rfl, b1⟩
    have jn := J.out.next b1
    have c0 := jn.cell 0
    have c1 := jn.cell 1
    have c2 := jn.cell 2
    have c3 := jn.cell 3
    have c4 := jn.cell 4
    simp at c0 c1 c2 c3 c4
    have B1 := Lib.hid b1
    clear b1 jn
    go_wp2_with fail
    refine (HA.out _ (HG.out _ B1.out)).mono ?_
    rintro e wn2 ⟨rfl, b2⟩
    have B2 := Lib.hid (next_below B1.out b2)
    clear b2 c0 c1 c2 c3 c4
    go_wp2_with fail
    refine (H2.out _ (HG.out _ B2.out)).mono ?_
    rintro e V ⟨rfl, kk⟩
    have B3 := Lib.hid (next_below B2.out kk)
    clear kk
    go_wp2_with fail
    refine (H3.out _ (HG.out _ B3.out)).mono ?_
    rintro e V ⟨rfl, kk⟩
    have B4 := Lib.hid (next_below B3.out kk)
    clear kk
    go_wp2_with fail
    refine (H4.out _ (HG.out _ B4.out)).mono ?_
    rintro e V ⟨rfl, kk⟩
    have B5 := Lib.hid (next_below B4.out kk)
    clear kk
    go_wp2_with fail
    refine (H5.out _ (HG.out _ B5.out)).mono ?_
    rintro e V ⟨rfl, kk⟩
    have B6 := Lib.hid (next_below B5.out kk)
    clear kk
    go_wp2_with fail
    refine (H6.out _ (HG.out _ B6.out)).mono ?_
    rintro e V ⟨rfl, kk⟩
    have B7 := Lib.hid (next_below B6.out kk)
    clear kk
    go_wp2_with fail
    refine (H7.out _ (HG.out _ B7.out)).mono ?_
    rintro e V ⟨rfl, kk⟩
    have B8 := Lib.hid (next_below B7.out kk)
    clear kk
    go_wp2_with fail
    refine (H8.out _ (HG.out _ B8.out)).mono ?_
    rintro e V ⟨rfl, kk⟩
    have B9 := Lib.hid (next_below B8.out kk)
    clear kk
    go_wp2_with fail
    refine (H9.out _ (HG.out _ B9.out)).mono ?_
    rintro e V ⟨rfl, kk⟩
    have B10 := Lib.hid (next_below B9.out kk)
    clear kk
    go_wp2_with fail
    refine (H10.out _ (HG.out _ B10.out)).mono ?_
    rintro e V ⟨rfl, kk⟩
    have B11 := Lib.hid (next_below B10.out kk)
    clear kk
    go_wp2_with fail
    refine (H11.out _ (HG.out _ B11.out)).mono ?_
    rintro e V ⟨rfl, kk⟩
    have B12 := Lib.hid (next_below B11.out kk)
    clear kk
    go_wp2_with fail
    refine (H12.out _ (HG.out _ B12.out)).mono ?_
    rintro e V ⟨rfl, kk⟩
    have B13 := Lib.hid (next_below B12.out kk)
    clear kk
    go_wp2_with fail
    refine (H13.out _ HCI.out _ (HG.out _ B13.out)).mono ?_
    rintro e V ⟨rfl, kk⟩
    have B14 := Lib.hid (next_below B13.out kk)
    clear kk
    go_wp2_with fail
    refine (H14.out _ (HG.out _ B14.out)).mono ?_
    rintro e V ⟨rfl, kk⟩
    have B15 := Lib.hid (next_below B14.out kk)
    clear kk
    go_wp2_with fail
    refine (H15.out _ (HG.out _ B15.out)).mono ?_
    rintro e V ⟨rfl, kk⟩
    have B16 := Lib.hid (next_below B15.out kk)
    clear kk
    go_wp2
    go_ret
    exact ⟨rfl, HB.out.trans (B16.out.mono HB.out.size)⟩
end Go.Proofs.YtmhneibcbjgedaaGreatDoor
