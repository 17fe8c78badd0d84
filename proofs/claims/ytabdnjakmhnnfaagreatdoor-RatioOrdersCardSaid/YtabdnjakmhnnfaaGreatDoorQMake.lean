/- The contracts of ratio.Make at any texts, and of ratio.Of. -/
import Derived.Test.YtabdnjakmhnnfaaGreatDoorTRMake
set_option linter.unusedSimpArgs false
set_option linter.unusedVariables false
namespace Go.Proofs.YtabdnjakmhnnfaaGreatDoor
open Go.RowKit
open Go.Lib (decDigits itoa nDigits)
open D4 (rt it)

/-- The error of Make. -/
def makE (s t : List UInt8) : Int := if wcheck s = 0 then (if wcheck t = 0 then (if t = [48] then 2 else 0) else wcheck t) else wcheck s
/-- Its text. -/
def makT (s t : List UInt8) : ByteArray := if makE s t = 0 then rt (Rat.divInt (sread s) (sread t)) else ⟨#[]⟩

set_option maxHeartbeats 4000000 in
set_option maxRecDepth 100000 in
theorem rmake_full {w : World} (s t : List UInt8) (hs : s.length ≤ 100000) (ht : t.length ≤ 100000) (hg : Good w) : Calls Tryz.prog 21 #[.string ⟨s.toArray⟩, .string ⟨t.toArray⟩] w (RetV w (.tuple #[.string (makT s t), .int .i64 (makE s t)])) := by
  have HG := Lib.hid (fun (V : World) (hV : Below w.heap.size w V) => hg.below hV)
  have H1 := Lib.hid (fun (V : World) => check_any (w := V) s (by omega))
  have H2 := Lib.hid (fun (V : World) => check_any (w := V) t (by omega))
  by_cases h1 : wcheck s = 0
  · by_cases h2 : wcheck t = 0
    · have es := wcheck_canon (l := s) (by omega)
      have et := wcheck_canon (l := t) (by omega)
      by_cases h3 : t = [48]
      · have e : makE s t = 2 := by unfold makE; rw [if_pos h1, if_pos h2, if_pos h3]
        have eT : makT s t = ⟨#[]⟩ := by unfold makT; rw [e]; rfl
        rw [e, eT]
        rw [h1] at H1
        rw [h2] at H2
        subst h3
        clear h1 h2 es et e eT hs ht hg
        have tz : (⟨([48] : List UInt8).toArray⟩ : ByteArray) = ⟨#[48]⟩ := rfl
        rw [tz] at H2 ⊢
        clear tz
        generalize (⟨s.toArray⟩ : ByteArray) = A at *
        have i0 : ∀ V, (Instr.index 65 (.agg #[.string A, .string ⟨#[48]⟩]) (.int .i64 0)).run Tryz.prog V = .ok (.string A) V := fun _ => by kernel_rfl
        have i1 : ∀ V, (Instr.index 65 (.agg #[.string A, .string ⟨#[48]⟩]) (.int .i64 1)).run Tryz.prog V = .ok (.string ⟨#[48]⟩) V := fun _ => by kernel_rfl
        go_enter Tryz.func21, Tryz.ntmps21
        go_wp2
        go_loopg [12] 2 (fun gk u12 wr => ∃ i : Nat, u12 = .int .i64 (i : Int) ∧ i + gk = 2 ∧ Hid (Below w.heap.size w wr))
        case atStart => exact ⟨0, rfl, rfl, Lib.hid (Below.refl _ _)⟩
        case round =>
          obtain ⟨i, rfl, hi, hK⟩ := hrel
          obtain rfl | rfl | rfl : i = 0 ∨ i = 1 ∨ i = 2 := by omega
          · obtain rfl : gk = 2 := by omega
            go_wp2_with fail
            refine (H1.out _).mono ?_
            rintro e V1 ⟨rfl, k1⟩
            have K1 := Lib.hid (next_below hK.out k1)
            clear k1
            go_wp2
            go_roundg 1
            case rel => exact ⟨1, rfl, rfl, K1⟩
            case measure => omega
          · obtain rfl : gk = 1 := by omega
            go_wp2_with fail
            refine (H2.out _).mono ?_
            rintro e V1 ⟨rfl, k1⟩
            have K1 := Lib.hid (next_below hK.out k1)
            clear k1
            go_wp2
            go_roundg 0
            case rel => exact ⟨2, rfl, rfl, K1⟩
            case measure => omega
          · obtain rfl : gk = 0 := by omega
            go_wp2
            go_ret2
            exact ⟨rfl, hK.out⟩
      · have e : makE s t = 0 := by unfold makE; rw [if_pos h1, if_pos h2, if_neg h3]
        have eT : makT s t = rt (Rat.divInt (sread s) (sread t)) := by unfold makT; rw [if_pos e]
        rw [e, eT]
        have dig : ∀ l : List UInt8, wcheck l = 0 → nDigits (sread l).natAbs ≤ 2000 := fun l h => by
          rcases wcheck_vals l with h5 | ⟨n, _, hr, hc⟩
          · omega
          · rw [hr]
            by_cases hb : 2000 < nDigits n.natAbs
            · rw [if_pos hb] at hc; omega
            · omega
        have h := rmk_any (w := w) (n := sread s) (d := sread t) (dig s h1) (dig t h2) (fun h0 => h3 (by rw [et, h0]; decide +kernel)) hg
        have e1 : it (sread s) = ⟨s.toArray⟩ := by unfold D4.it; rw [← es]
        have e2 : it (sread t) = ⟨t.toArray⟩ := by unfold D4.it; rw [← et]
        rw [e1, e2] at h
        exact h
    · have e : makE s t = wcheck t := by unfold makE; rw [if_pos h1, if_neg h2]
      have eT : makT s t = ⟨#[]⟩ := by unfold makT; rw [e, if_neg h2]
      rw [e, eT]
      rw [h1] at H1
      have hb : (wcheck t == 0) = false := by rw [beq_eq_false_iff_ne]; exact h2
      generalize wcheck t = er at *
      generalize (⟨s.toArray⟩ : ByteArray) = A at *
      generalize (⟨t.toArray⟩ : ByteArray) = B at *
      clear e eT hs ht hg h1
      have i0 : ∀ V, (Instr.index 65 (.agg #[.string A, .string B]) (.int .i64 0)).run Tryz.prog V = .ok (.string A) V := fun _ => by kernel_rfl
      have i1 : ∀ V, (Instr.index 65 (.agg #[.string A, .string B]) (.int .i64 1)).run Tryz.prog V = .ok (.string B) V := fun _ => by kernel_rfl
      go_enter Tryz.func21, Tryz.ntmps21
      go_wp2
      go_loopg [12] 2 (fun gk u12 wr => ∃ i : Nat, u12 = .int .i64 (i : Int) ∧ i + gk = 2 ∧ i ≤ 1 ∧ Hid (Below w.heap.size w wr))
      case atStart => exact ⟨0, rfl, rfl, by omega, Lib.hid (Below.refl _ _)⟩
      case round =>
        obtain ⟨i, rfl, hi, hi1, hK⟩ := hrel
        obtain rfl | rfl : i = 0 ∨ i = 1 := by omega
        · obtain rfl : gk = 2 := by omega
          go_wp2_with fail
          refine (H1.out _).mono ?_
          rintro e V1 ⟨rfl, k1⟩
          have K1 := Lib.hid (next_below hK.out k1)
          clear k1
          go_wp2
          go_roundg 1
          case rel => exact ⟨1, rfl, rfl, by omega, K1⟩
          case measure => omega
        · obtain rfl : gk = 1 := by omega
          go_wp2_with fail
          refine (H2.out _).mono ?_
          rintro e V1 ⟨rfl, k1⟩
          have K1 := Lib.hid (next_below hK.out k1)
          clear k1
          go_wp2
          go_ret2
          exact ⟨rfl, K1.out⟩
  · have e : makE s t = wcheck s := by unfold makE; rw [if_neg h1]
    have eT : makT s t = ⟨#[]⟩ := by unfold makT; rw [e, if_neg h1]
    rw [e, eT]
    have hb : (wcheck s == 0) = false := by rw [beq_eq_false_iff_ne]; exact h1
    generalize wcheck s = er at *
    generalize (⟨s.toArray⟩ : ByteArray) = A at *
    generalize (⟨t.toArray⟩ : ByteArray) = B at *
    clear e eT hs ht hg H2
    have i0 : ∀ V, (Instr.index 65 (.agg #[.string A, .string B]) (.int .i64 0)).run Tryz.prog V = .ok (.string A) V := fun _ => by kernel_rfl
    go_enter Tryz.func21, Tryz.ntmps21
    go_wp2
    go_loopg [12] 2 (fun gk u12 wr => u12 = .int .i64 0 ∧ Hid (Below w.heap.size w wr))
    case atStart => exact ⟨rfl, Lib.hid (Below.refl _ _)⟩
    case round =>
      obtain ⟨rfl, hK⟩ := hrel
      go_wp2_with fail
      refine (H1.out _).mono ?_
      rintro e V1 ⟨rfl, k1⟩
      have K1 := Lib.hid (next_below hK.out k1)
      clear k1
      go_wp2
      go_ret2
      exact ⟨rfl, K1.out⟩

set_option maxHeartbeats 1000000 in
theorem rofr_zero {w : World} {n : Int} (n0 : -9223372036854775808 ≤ n) (n1 : n ≤ 9223372036854775807) (hg : Good w) : Calls Tryz.prog 22 #[.int .i64 n, .int .i64 0] w (RetV w (.tuple #[.string ⟨#[]⟩, .int .i64 2])) := by
  have HG := Lib.hid (fun (V : World) (hV : Below w.heap.size w V) => hg.below hV)
  have H1 := Lib.hid (fun (V : World) (hV : Good V) => (show Calls Tryz.prog 84 #[.int .i64 n] V (RetV V (.string (it n))) from wof_any (w := V) n0 n1 hV))
  have H2 := Lib.hid (fun (V : World) (hV : Good V) => (show Calls Tryz.prog 84 #[.int .i64 0] V (RetV V (.string (it 0))) from wof_any (w := V) (n := 0) (by omega) (by omega) hV))
  have hsm : nDigits n.natAbs ≤ 20 := Nat.le_trans (D4.nDigits_le (d := 19) (by omega)) (by omega)
  have h3 := fun (V : World) (hV : Good V) => rmake_full (w := V) (itoa n) (itoa 0) (by have := itoa_len n; omega) (by decide +kernel) hV
  have e : makE (itoa n) (itoa 0) = 2 := by
    unfold makE
    have w1 : wcheck (itoa n) = 0 := by rw [wcheck_itoa, if_neg (by omega)]
    have w2 : wcheck (itoa 0) = 0 := by decide +kernel
    rw [if_pos w1, if_pos w2, if_pos (by decide +kernel)]
  have eT : makT (itoa n) (itoa 0) = ⟨#[]⟩ := by unfold makT; rw [e]; rfl
  rw [e, eT] at h3
  have H3 := Lib.hid (show ∀ V : World, Good V → Calls Tryz.prog 21 #[.string (it n), .string (it 0)] V (RetV V (.tuple #[.string ⟨#[]⟩, .int .i64 2])) from h3)
  generalize it n = A at *
  generalize it 0 = B at *
  clear hg h3 e eT hsm
  go_enter Tryz.func22, Tryz.ntmps22
  go_wp2_with fail
  refine (H1.out _ (HG.out _ (Below.refl _ _))).mono ?_
  rintro e V1 ⟨rfl, k1⟩
  go_wp2_with fail
  refine (H2.out _ (HG.out _ k1)).mono ?_
  rintro e V2 ⟨rfl, k2⟩
  go_wp2_with fail
  refine (H3.out _ (HG.out _ (next_below k1 k2))).mono ?_
  rintro e V3 ⟨rfl, k3⟩
  go_wp2
  go_ret2
  exact ⟨rfl, next_below (next_below k1 k2) k3⟩
end Go.Proofs.YtabdnjakmhnnfaaGreatDoor
