/- TailAdds answers true. -/
import Derived.Test.YtmhneibcbjgedaaGreatDoorTFit
set_option linter.unusedSimpArgs false
set_option linter.unusedVariables false
namespace Go.Proofs.YtmhneibcbjgedaaGreatDoor
open Go.RowKit
open Go.Lib (decDigits itoa nDigits)
open D4 (rt it)

theorem rt_zero : rt 0 = ⟨#[48]⟩ := by decide +kernel
theorem rt_one1 : rt 1 = ⟨#[49]⟩ := by decide +kernel
theorem U_zero (n : Nat) (x : Rat) : U n 0 x = 1 := by cases n <;> rfl
theorem U_unit (x : Rat) (h0 : 0 ≤ x) (h1 : x ≤ 1) : ∀ n k : Nat, 0 ≤ U n k x ∧ U n k x ≤ 1
  | n, 0 => by rw [U_zero]; exact ⟨by decide, Rat.le_refl⟩
  | 0, k + 1 => ⟨Rat.le_refl, by show (0 : Rat) ≤ 1; decide⟩
  | n + 1, k + 1 => by
    show 0 ≤ x * U n k x + (1 - x) * U n (k + 1) x ∧ x * U n k x + (1 - x) * U n (k + 1) x ≤ 1
    obtain ⟨a0, a1⟩ := U_unit x h0 h1 n k
    obtain ⟨b0, b1⟩ := U_unit x h0 h1 n (k + 1)
    have hx : 0 ≤ 1 - x := by grind
    have c1 := Rat.mul_nonneg h0 a0
    have c2 := Rat.mul_nonneg hx b0
    have c3 := Rat.mul_nonneg h0 (show 0 ≤ 1 - U n k x by grind)
    have c4 := Rat.mul_nonneg hx (show 0 ≤ 1 - U n (k + 1) x by grind)
    generalize U n k x = a at *
    generalize U n (k + 1) x = b at *
    exact ⟨by grind, by grind⟩
theorem ms_le (n k : Nat) (x : Rat) (h0 : 0 ≤ x) (h1 : x ≤ 1) (hk : k ≤ n) : ms n k x ≤ 1 := by
  have h2 := U_mass x n k hk
  have h3 := U_unit x h0 h1 n k
  have h4 := U_unit x h0 h1 n (k + 1)
  grind
theorem pow_small {d n : Nat} (hd : d ≤ 132) (hn : n ≤ 8) : d ^ n < 10 ^ (19 + 1) := by
  have h1 := Nat.pow_le_pow_left hd n
  have h2 := Nat.pow_le_pow_right (n := 132) (by omega) hn
  exact Nat.lt_of_le_of_lt (Nat.le_trans h1 h2) (by decide)
theorem U_fit {n k : Nat} {x : Rat} (h0 : 0 ≤ x) (h1 : x ≤ 1) (hd : x.den ≤ 132) (hn : n ≤ 8) : fitsD 2000 (U n k x) :=
  fit_le (((On.den x).U n k).fit (U_unit x h0 h1 n k).1 (U_unit x h0 h1 n k).2 (Nat.pow_pos x.den_pos) (pow_small hd hn)) (by decide)
theorem ms_fit {n k : Nat} {x : Rat} (h0 : 0 ≤ x) (h1 : x ≤ 1) (hd : x.den ≤ 132) (hn : n ≤ 8) (hk : k ≤ n) : fitsD 2000 (ms n k x) :=
  fit_le (((On.den x).ms n k hk).fit (ms_nonneg n k x h0 h1) (ms_le n k x h0 h1 hk) (Nat.pow_pos x.den_pos) (pow_small hd hn)) (by decide)
theorem fit_zero : fitsD 2000 0 := by decide +kernel
theorem fit_one : fitsD 2000 1 := by decide +kernel
theorem Ch.turn {x : Rat} (h : Ch x) (hd : x.den ≤ 9999) : Ch (1 - x) :=
  ⟨by have := h.hi; grind, by have := h.lo; grind, ((On.one _).sub (On.den x)).fit (d := 3) (by have := h.hi; grind) (by have := h.lo; grind) x.den_pos (by omega)⟩

set_option maxHeartbeats 8000000 in
set_option maxRecDepth 100000 in
theorem adds_any {w : World} (n k p dd gr : Int) (n0 : 0 ≤ n) (n1 : n ≤ 255) (k0 : 0 ≤ k) (k1 : k ≤ 255) (q0 : 0 ≤ p) (q1 : p ≤ 255) (e0 : 0 ≤ dd) (e1 : dd ≤ 255) (h0 : 0 ≤ gr) (h1 : gr ≤ 255) (hg : Good w) :
    Calls Tryz.prog 7 #[.agg #[.int .u8 n, .int .u8 k, .int .u8 p, .int .u8 dd, .int .u8 gr]] w (RetV w (.bool true)) := by
  obtain ⟨N, K, P, D, G, ha, hA⟩ := args_any n k p dd gr n0 n1 k0 k1 q0 q1 e0 e1 h0 h1
  have HA := Lib.hid hA
  have HN := ha.n
  have hch := ha.ch
  have hct := hch.turn (by have := ha.pd; omega)
  have hd : P.den ≤ 132 := by have := ha.pd; omega
  obtain ⟨p0, p1⟩ := And.intro ha.p0 ha.p1
  have H1 := Lib.hid (fun (V : World) (hV : Good V) => works_any hV)
  have H2 := Lib.hid (fun (V : World) (hV : Good V) => rsub_rt (w := V) (x := 1) (y := P) fit_one hch.big hct.big hV)
  rw [rt_one1] at H2
  have H3 := Lib.hid (fun (j : Nat) (hj : j ≤ N) (V : World) (hV : Good V) => mass_rt (w := V) (n := N) (k := j) hch (by omega) hj hV)
  have H4 := Lib.hid (fun (j : Nat) (hj : j ≤ N) (c : Int) (hc : c = ((N - j : Nat) : Int)) (V : World) (hV : Good V) => by
    have h := mass_rt (w := V) (n := N) (k := N - j) hct (by omega) (by omega) hV
    rw [← ms_turn N j P hj, ← hc] at h
    exact h)
  have H5 := Lib.hid (fun (j : Nat) (hj : j ≤ N) (V : World) (hV : Good V) => by
    have h := qadd_any (w := V) (x := U N (j + 1) P) (y := ms N j P) (U_fit p0 p1 hd (by omega)) (ms_fit p0 p1 hd (by omega) hj) (by rw [Rat.add_comm, ← U_mass P N j hj]; exact U_fit p0 p1 hd (by omega)) hV
    rw [Rat.add_comm, ← U_mass P N j hj] at h
    exact h)
  have H6 := Lib.hid (fun (j : Nat) (hj : j ≤ N) (V : World) (hV : Good V) => by
    have h := qmost_any (w := V) (x := 0) (y := ms N j P) fit_zero (ms_fit p0 p1 hd (by omega) hj) hV
    rw [rt_zero, decide_eq_true (ms_nonneg N j P p0 p1)] at h
    exact h)
  have H7 := Lib.hid (fun (j : Nat) (hj : j ≤ N) (V : World) (hV : Good V) => least_rt (w := V) (n := N) (k := j) hch (by omega) hj hV)
  have hU0 : rt (U N (N + 1) P) = ⟨#[48]⟩ := by rw [U_gt P N (N + 1) (by omega), rt_zero]
  have hU1 : rt (U N 0 P) = ⟨#[49]⟩ := by rw [U_zero, rt_one1]
  obtain ⟨M, hM⟩ : ∃ M : Nat → ByteArray, M = fun j => rt (ms N j P) := ⟨_, rfl⟩
  obtain ⟨S, hS⟩ : ∃ S : Nat → ByteArray, S = fun j => rt (U N j P) := ⟨_, rfl⟩
  have eM : ∀ j, rt (ms N j P) = M j := fun j => by rw [hM]
  have eS : ∀ j, rt (U N j P) = S j := fun j => by rw [hS]
  simp only [eM, eS] at H3 H4 H5 H6 H7 hU0 hU1
  generalize rt P = RP at *
  generalize rt (1 - P) = RQ at *
  generalize rt D = RD at *
  obtain ⟨W, hW, hB, hsz, j⟩ := entA w 36 #[.int .u8 n, .int .u8 k, .int .u8 p, .int .u8 dd, .int .u8 gr]
  have HG := Lib.hid (fun (V : World) (hV : Below W.heap.size W V) => (hg.below hB).below hV)
  have HW := Lib.hid hW
  have HB := Lib.hid hB
  have J := Lib.hid j
  have hU0' := Lib.hid hU0
  have hU1' := Lib.hid hU1
  clear eM eS hM hS hA ha hch hct hd p0 p1 hg hW hB hsz j n0 n1 k0 k1 q0 q1 e0 e1 h0 h1 hU0 hU1
  go_enter Tryz.func7, Tryz.ntmps7
  go_upto_region 1 with fail
  rw [← HW.out]
  go_wp2_with fail
  refine (H1.out _ (HG.out _ (Below.refl _ _))).mono ?_
  rintro e wn ⟨rfl, b1⟩
  have jn := J.out.next b1
  have c0 := jn.cell 0
  have c1 := jn.cell 1
  have c2 := jn.cell 2
  have c3 := jn.cell 3
  have c4 := jn.cell 4
  simp at c0 c1 c2 c3 c4
  have B1 := Lib.hid b1
  clear b1 jn
  go_wp2_with fail
  refine (HA.out _ (HG.out _ B1.out)).mono ?_
  rintro e wn2 ⟨rfl, b2⟩
  have B2 := Lib.hid (next_below B1.out b2)
  clear b2 c0 c1 c2 c3 c4
  go_wp2_with fail
  refine (H2.out _ (HG.out _ B2.out)).mono ?_
  rintro e wn3 ⟨rfl, b3⟩
  have B3 := Lib.hid (next_below B2.out b3)
  clear b3
  go_wp2
  go_loopg [10, 11] (N + 1) (fun gk u10 u11 wr => ∃ c : Int, u10 = .string (S gk) ∧ u11 = .int .i64 c ∧ c + 1 = (gk : Int) ∧ gk ≤ N + 1 ∧ Hid (Below W.heap.size W wr))
  case atStart =>
    exact ⟨N, by rw [hU0'.out], rfl, by omega, by omega, B3⟩
  case round =>
    obtain ⟨c, rfl, rfl, hc, hm, hK⟩ := hrel
    by_cases hz : 0 ≤ c
    · obtain ⟨j, rfl⟩ : ∃ j, gk = j + 1 := ⟨gk - 1, by omega⟩
      obtain rfl : c = (j : Int) := by omega
      have hj : j ≤ N := by omega
      go_wp2_with fail
      refine (H3.out j hj _ (HG.out _ hK.out)).mono ?_
      rintro e V1 ⟨rfl, k1⟩
      have K1 := Lib.hid (next_below hK.out k1)
      clear k1
      go_wp2_with fail
      refine (H4.out j hj _ (by omega) _ (HG.out _ K1.out)).mono ?_
      rintro e V2 ⟨rfl, k2⟩
      have K2 := Lib.hid (next_below K1.out k2)
      clear k2
      go_wp2_with fail
      refine (H5.out j hj _ (HG.out _ K2.out)).mono ?_
      rintro e V3 ⟨rfl, k3⟩
      have K3 := Lib.hid (next_below K2.out k3)
      clear k3
      go_wp2_with fail
      refine (H6.out j hj _ (HG.out _ K3.out)).mono ?_
      rintro e V4 ⟨rfl, k4⟩
      have K4 := Lib.hid (next_below K3.out k4)
      clear k4
      go_wp2_with fail
      refine (is_any _).mono ?_
      rintro e V5 ⟨gz, rfl, hz5, k5⟩
      have K5 := Lib.hid (next_below K4.out k5)
      clear k5
      go_wp2_with fail
      refine (H7.out j hj _ (HG.out _ K5.out)).mono ?_
      rintro e V6 ⟨rfl, k6⟩
      have hz6 := hz5.next k6
      have K6 := Lib.hid (next_below K5.out k6)
      clear k6 hz5
      go_wp2_with fail
      refine (is_true hz6).mono ?_
      rintro e V7 ⟨rfl, k7⟩
      have K7 := Lib.hid (next_below K6.out k7)
      clear k7 hz6
      go_wp2
      go_roundg j
      case rel => exact ⟨(j : Int) - 1, rfl, rfl, by omega, by omega, K7⟩
      case measure => omega
    · obtain rfl : gk = 0 := by omega
      obtain rfl : c = -1 := by omega
      rw [hU1'.out]
      go_wp2
      go_ret
      exact ⟨rfl, HB.out.trans (hK.out.mono HB.out.size)⟩
end Go.Proofs.YtmhneibcbjgedaaGreatDoor
