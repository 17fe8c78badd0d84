/- The contract of tail.last. -/
import Derived.Test.YtmhneibcbjgedaaGreatDoorTBound
set_option linter.unusedSimpArgs false
set_option linter.unusedVariables false
namespace Go.Proofs.YtmhneibcbjgedaaGreatDoor
open Go.RowKit

/-- The search for the last number for which something holds. -/
def lastF (h : Nat → Bool) : Nat → Nat → Nat → Nat
  | 0, lo, _ => lo
  | f + 1, lo, hi => if lo < hi then (if h ((lo + hi + 1) / 2) then lastF h f ((lo + hi + 1) / 2) hi else lastF h f lo ((lo + hi + 1) / 2 - 1)) else lo

theorem lastF_end (h : Nat → Bool) (f lo hi : Nat) (e : ¬ lo < hi) : lastF h f lo hi = lo := by
  cases f with
  | zero => rfl
  | succ f => unfold lastF; rw [if_neg e]

set_option maxHeartbeats 1000000 in
theorem last_low {w : World} (h : Nat → Bool) (n : Nat) (hn : n ≤ 1000) (c1 c2 c3 c4 : Value) (hh : ∀ (V : World) (i : Nat), Below w.heap.size w V → i ≤ n → Calls Tryz.prog 47 #[.int .i64 i, c1, c2, c3, c4] V (RetV V (.bool (h i)))) :
    Calls Tryz.prog 46 #[.int .i64 n, .func (.func 47) #[] #[c1, c2, c3, c4]] w (RetV w (.int .i64 (lastF h n 0 n : Nat))) := by
  obtain ⟨R, hR⟩ : ∃ R, lastF h n 0 n = R := ⟨_, rfl⟩
  rw [hR]
  have HR := Lib.hid hR
  have HH := Lib.hid hh
  clear hR hh
  go_enter Tryz.func46, Tryz.ntmps46
  go_wp2
  go_loopw [5, 6] (fun u5 u6 wr => ∃ lo hi f : Nat, u5 = .int .i64 lo ∧ u6 = .int .i64 hi ∧ lo ≤ hi ∧ hi ≤ n ∧ Hid (hi - lo ≤ f) ∧ Hid (lastF h f lo hi = R) ∧ Hid (Below w.heap.size w wr)) (fun u5 u6 _ => (intOf u6).toNat - (intOf u5).toNat)
  case atStart => exact ⟨0, n, n, rfl, rfl, by omega, by omega, Lib.hid (by omega), HR, Lib.hid (Below.refl _ _)⟩
  case round =>
    obtain ⟨lo, hi, f, rfl, rfl, hlh, hhn, hf, hF, hB⟩ := hrel
    by_cases hlt : lo < hi
    · obtain ⟨mid, hmid⟩ : ∃ mid, (lo + hi + 1) / 2 = mid := ⟨_, rfl⟩
      have hm1 : lo < mid := by omega
      have hm2 : mid ≤ hi := by omega
      have hmi : ((lo : Int) + hi + 1).tdiv 2 = mid := by rw [Int.tdiv_eq_ediv_of_nonneg (by omega)]; omega
      have hf1 := hf.out
      obtain ⟨f', rfl⟩ : ∃ f', f = f' + 1 := ⟨f - 1, by omega⟩
      have hF' := hF.out
      unfold lastF at hF'
      rw [if_pos hlt, hmid] at hF'
      have hc := HH.out wr mid hB.out (by omega)
      have HC := Lib.hid hc
      have HF2 := Lib.hid hF'
      clear hF' hc hF
      have hlti : ((lo : Int) < hi) := by omega
      go_upto_region 4 with fail
      generalize h mid = hb at *
      cases hb with
      | true =>
        go_wp2_with (go_at_call 47; refine HC.out.mono ?_; rintro e w5 ⟨rfl, hb5⟩)
        go_roundw
        case rel => exact ⟨mid, hi, f', rfl, rfl, hm2, hhn, Lib.hid (by omega), Lib.hid (by have := HF2.out; simpa using this), Lib.hid (next_below hB.out hb5)⟩
        case measure => simp [intOf]; omega
      | false =>
        obtain ⟨m1, hm1'⟩ : ∃ m1 : Nat, (mid : Int) - 1 = m1 := ⟨mid - 1, by omega⟩
        have hm2' : mid - 1 = m1 := by omega
        rw [hm2'] at HF2
        go_wp2_with (go_at_call 47; refine HC.out.mono ?_; rintro e w5 ⟨rfl, hb5⟩)
        go_roundw
        case rel => exact ⟨lo, m1, f', rfl, rfl, by omega, by omega, Lib.hid (by omega), Lib.hid (by have := HF2.out; simpa using this), Lib.hid (next_below hB.out hb5)⟩
        case measure => simp [intOf]; omega
    · have hlo : lo = R := by rw [← hF.out, lastF_end _ _ _ _ hlt]
      have HL := Lib.hid hlo
      clear hlo
      have hlti : ¬ ((lo : Int) < hi) := by omega
      go_wp2
      go_ret
      exact ⟨ret_int (by rw [HL.out]), hB.out⟩

set_option maxHeartbeats 1000000 in
theorem last_high {w : World} (h : Nat → Bool) (n : Nat) (hn : n ≤ 1000) (c1 c2 c3 c4 : Value) (hh : ∀ (V : World) (i : Nat), Below w.heap.size w V → i ≤ n → Calls Tryz.prog 50 #[.int .i64 i, c1, c2, c3, c4] V (RetV V (.bool (h i)))) :
    Calls Tryz.prog 46 #[.int .i64 n, .func (.func 50) #[] #[c1, c2, c3, c4]] w (RetV w (.int .i64 (lastF h n 0 n : Nat))) := by
  obtain ⟨R, hR⟩ : ∃ R, lastF h n 0 n = R := ⟨_, rfl⟩
  rw [hR]
  have HR := Lib.hid hR
  have HH := Lib.hid hh
  clear hR hh
  go_enter Tryz.func46, Tryz.ntmps46
  go_wp2
  go_loopw [5, 6] (fun u5 u6 wr => ∃ lo hi f : Nat, u5 = .int .i64 lo ∧ u6 = .int .i64 hi ∧ lo ≤ hi ∧ hi ≤ n ∧ Hid (hi - lo ≤ f) ∧ Hid (lastF h f lo hi = R) ∧ Hid (Below w.heap.size w wr)) (fun u5 u6 _ => (intOf u6).toNat - (intOf u5).toNat)
  case atStart => exact ⟨0, n, n, rfl, rfl, by omega, by omega, Lib.hid (by omega), HR, Lib.hid (Below.refl _ _)⟩
  case round =>
    obtain ⟨lo, hi, f, rfl, rfl, hlh, hhn, hf, hF, hB⟩ := hrel
    by_cases hlt : lo < hi
    · obtain ⟨mid, hmid⟩ : ∃ mid, (lo + hi + 1) / 2 = mid := ⟨_, rfl⟩
      have hm1 : lo < mid := by omega
      have hm2 : mid ≤ hi := by omega
      have hmi : ((lo : Int) + hi + 1).tdiv 2 = mid := by rw [Int.tdiv_eq_ediv_of_nonneg (by omega)]; omega
      have hf1 := hf.out
      obtain ⟨f', rfl⟩ : ∃ f', f = f' + 1 := ⟨f - 1, by omega⟩
      have hF' := hF.out
      unfold lastF at hF'
      rw [if_pos hlt, hmid] at hF'
      have hc := HH.out wr mid hB.out (by omega)
      have HC := Lib.hid hc
      have HF2 := Lib.hid hF'
      clear hF' hc hF
      have hlti : ((lo : Int) < hi) := by omega
      go_upto_region 4 with fail
      generalize h mid = hb at *
      cases hb with
      | true =>
        go_wp2_with (go_at_call 50; refine HC.out.mono ?_; rintro e w5 ⟨rfl, hb5⟩)
        go_roundw
        case rel => exact ⟨mid, hi, f', rfl, rfl, hm2, hhn, Lib.hid (by omega), Lib.hid (by have := HF2.out; simpa using this), Lib.hid (next_below hB.out hb5)⟩
        case measure => simp [intOf]; omega
      | false =>
        obtain ⟨m1, hm1'⟩ : ∃ m1 : Nat, (mid : Int) - 1 = m1 := ⟨mid - 1, by omega⟩
        have hm2' : mid - 1 = m1 := by omega
        rw [hm2'] at HF2
        go_wp2_with (go_at_call 50; refine HC.out.mono ?_; rintro e w5 ⟨rfl, hb5⟩)
        go_roundw
        case rel => exact ⟨lo, m1, f', rfl, rfl, by omega, by omega, Lib.hid (by omega), Lib.hid (by have := HF2.out; simpa using this), Lib.hid (next_below hB.out hb5)⟩
        case measure => simp [intOf]; omega
    · have hlo : lo = R := by rw [← hF.out, lastF_end _ _ _ _ hlt]
      have HL := Lib.hid hlo
      clear hlo
      have hlti : ¬ ((lo : Int) < hi) := by omega
      go_wp2
      go_ret
      exact ⟨ret_int (by rw [HL.out]), hB.out⟩

end Go.Proofs.YtmhneibcbjgedaaGreatDoor
