/- The contracts of ratio.Make and ratio.Of over texts of integers. -/
import Derived.Test.YtfjjdjhnodcfhaaGreatDoorTFit
import Derived.Test.YtfjjdjhnodcfhaaGreatDoorTWhole
set_option linter.unusedSimpArgs false
set_option linter.unusedVariables false
namespace Go.Proofs.YtfjjdjhnodcfhaaGreatDoor
open Go.RowKit
open Go.Lib (decDigits itoa nDigits)
open D4 (rt it)

theorem it_zero (m : Int) (h : m ≠ 0) : ((it m).toList == [48]) = false := by
  have hl : (it m).toList = itoa m := ba_list (itoa m)
  have h1 : itoa 0 = [48] := by decide +kernel
  rw [beq_eq_false_iff_ne, hl]
  intro hc
  exact h (itoa_inj (by rw [hc, h1]))
theorem it_len {n : Int} (h : nDigits n.natAbs ≤ 2000) : (itoa n).length ≤ 268435000 := by have := itoa_len n; omega
theorem wchk_it {w : World} {n : Int} (h : nDigits n.natAbs ≤ 2000) (_hg : Good w) : Calls Tryz.prog 104 #[.string (it n)] w (RetV w (.int .i64 0)) := by
  have hc := check_any (w := w) (itoa n) (Nat.le_trans (it_len h) (by omega))
  rw [wcheck_itoa, if_neg (by omega)] at hc
  exact hc
theorem wread_it {w : World} {n : Int} (h : nDigits n.natAbs ≤ 2000) : Calls Tryz.prog 106 #[.string (it n)] w (RetW w n) := by
  have hc := wread_any (w := w) (itoa n) (by rw [wcheck_itoa, if_neg (by omega)]) (it_len h)
  rw [sread_itoa] at hc
  exact hc

set_option maxHeartbeats 4000000 in
set_option maxRecDepth 100000 in
theorem rmk_any {w : World} {n d : Int} (hn : nDigits n.natAbs ≤ 2000) (hd : nDigits d.natAbs ≤ 2000) (h0 : d ≠ 0) (hg : Good w) : Calls Tryz.prog 61 #[.string (it n), .string (it d)] w (RetV w (.tuple #[.string (rt (Rat.divInt n d)), .int .i64 0])) := by
  have HG := Lib.hid (fun (V : World) (hV : Below w.heap.size w V) => hg.below hV)
  have H1 := Lib.hid (fun (V : World) (hV : Good V) => wchk_it (w := V) hn hV)
  have H2 := Lib.hid (fun (V : World) (hV : Good V) => wchk_it (w := V) hd hV)
  have H3 := Lib.hid (fun (V : World) => wread_it (w := V) hn)
  have H4 := Lib.hid (fun (V : World) => wread_it (w := V) hd)
  have f1 : Fit n := Fit.of_len (limbs_digits hn) (by omega)
  have f2 : Fit d := Fit.of_len (limbs_digits hd) (by omega)
  have H5 := Lib.hid (fun (V : World) v1 v2 (q1 : Wh V v1 n) (q2 : Wh V v2 d) => make_any q1 q2 f1 f2 h0)
  have hs : Sz 268435456 (Rat.divInt n d) := (Sz.make (j := 2000) h0 (limbs_digits hn) (limbs_digits hd)).mono (by omega)
  have hf : fitsD 2000 (Rat.divInt n d) := ⟨Nat.le_trans (D4.nDigits_mono (D4.divInt_num_le n d)) hn, Nat.le_trans (D4.nDigits_mono (D4.divInt_den_le n h0)) hd⟩
  have H6 := Lib.hid (fun (V : World) v (q : Nm V v (Rat.divInt n d)) (hV : Good V) => by
    have h := tell_any q hs hV
    unfold tellV at h
    rw [if_pos hf] at h
    exact (show Calls Tryz.prog 105 #[v] V (RetV V (.tuple #[.string (rt (Rat.divInt n d)), .int .i64 0])) from h))
  have hz := it_zero d h0
  generalize Rat.divInt n d = x at *
  generalize rt x = X at *
  generalize it n = A at *
  generalize it d = B at *
  clear hn hd f1 f2 hs hf hg h0
  have i0 : ∀ V, (Instr.index 42 (.agg #[.string A, .string B]) (.int .i64 0)).run Tryz.prog V = .ok (.string A) V := fun _ => by kernel_rfl
  have i1 : ∀ V, (Instr.index 42 (.agg #[.string A, .string B]) (.int .i64 1)).run Tryz.prog V = .ok (.string B) V := fun _ => by kernel_rfl
  go_enter Tryz.func61, Tryz.ntmps61
  go_wp2
  go_loopg [12] 2 (fun gk u12 wr => ∃ i : Nat, u12 = .int .i64 (i : Int) ∧ i + gk = 2 ∧ Hid (Below w.heap.size w wr))
  case atStart => exact ⟨0, rfl, rfl, Lib.hid (Below.refl _ _)⟩
  case round =>
    obtain ⟨i, rfl, hi, hK⟩ := hrel
    obtain rfl | rfl | rfl : i = 0 ∨ i = 1 ∨ i = 2 := by omega
    · obtain rfl : gk = 2 := by omega
      go_wp2_with fail
      refine (H1.out _ (HG.out _ hK.out)).mono ?_
      rintro e V1 ⟨rfl, k1⟩
      have K1 := Lib.hid (next_below hK.out k1)
      clear k1
      go_wp2
      go_roundg 1
      case rel => exact ⟨1, rfl, rfl, K1⟩
      case measure => omega
    · obtain rfl : gk = 1 := by omega
      go_wp2_with fail
      refine (H2.out _ (HG.out _ hK.out)).mono ?_
      rintro e V1 ⟨rfl, k1⟩
      have K1 := Lib.hid (next_below hK.out k1)
      clear k1
      go_wp2
      go_roundg 0
      case rel => exact ⟨2, rfl, rfl, K1⟩
      case measure => omega
    · obtain rfl : gk = 0 := by omega
      go_wp2_with fail
      refine (H3.out _).mono ?_
      rintro e V1 ⟨r1, rfl, w1, k1⟩
      go_wp2_with fail
      refine (H4.out _).mono ?_
      rintro e V2 ⟨r2, rfl, w2, k2⟩
      have K2 := Lib.hid (next_below (next_below hK.out k1) k2)
      have w1' := w1.below k2
      go_wp2_with fail
      refine (H5.out _ _ _ w1' w2).mono ?_
      rintro e V3 ⟨r3, rfl, q3, k3⟩
      have K3 := Lib.hid (next_below K2.out k3)
      go_wp2_with fail
      refine (H6.out _ _ q3 (HG.out _ K3.out)).mono ?_
      rintro e V4 ⟨rfl, k4⟩
      go_wp2
      go_ret2
      exact ⟨rfl, next_below K3.out k4⟩

set_option maxHeartbeats 1000000 in
theorem rofr_any {w : World} {n d : Int} (n0 : -9223372036854775808 ≤ n) (n1 : n ≤ 9223372036854775807) (d0 : -9223372036854775808 ≤ d) (d1 : d ≤ 9223372036854775807) (h0 : d ≠ 0) (hg : Good w) : Calls Tryz.prog 26 #[.int .i64 n, .int .i64 d] w (RetV w (.tuple #[.string (rt (Rat.divInt n d)), .int .i64 0])) := by
  have HG := Lib.hid (fun (V : World) (hV : Below w.heap.size w V) => hg.below hV)
  have H1 := Lib.hid (fun (V : World) (hV : Good V) => (show Calls Tryz.prog 62 #[.int .i64 n] V (RetV V (.string (it n))) from wof_any (w := V) n0 n1 hV))
  have H2 := Lib.hid (fun (V : World) (hV : Good V) => (show Calls Tryz.prog 62 #[.int .i64 d] V (RetV V (.string (it d))) from wof_any (w := V) d0 d1 hV))
  have H3 := Lib.hid (fun (V : World) (hV : Good V) => rmk_any (w := V) (n := n) (d := d) (Nat.le_trans (D4.nDigits_le (d := 19) (by omega)) (by omega)) (Nat.le_trans (D4.nDigits_le (d := 19) (by omega)) (by omega)) h0 hV)
  generalize rt (Rat.divInt n d) = X at *
  generalize it n = A at *
  generalize it d = B at *
  clear hg
  go_enter Tryz.func26, Tryz.ntmps26
  go_wp2_with fail
  refine (H1.out _ (HG.out _ (Below.refl _ _))).mono ?_
  rintro e V1 ⟨rfl, k1⟩
  go_wp2_with fail
  refine (H2.out _ (HG.out _ k1)).mono ?_
  rintro e V2 ⟨rfl, k2⟩
  go_wp2_with fail
  refine (H3.out _ (HG.out _ (next_below k1 k2))).mono ?_
  rintro e V3 ⟨rfl, k3⟩
  go_wp2
  go_ret2
  exact ⟨rfl, next_below (next_below k1 k2) k3⟩
end Go.Proofs.YtfjjdjhnodcfhaaGreatDoor
