/- Drafted weights: the plain law. -/
import Derived.Test.YtfjjdjhnodcfhaaGreatDoorDQRow
set_option linter.unusedSimpArgs false
set_option linter.unusedVariables false
namespace Go.Proofs.YtfjjdjhnodcfhaaGreatDoor
open Go.RowKit
open Go.Lib (decDigits itoa nDigits)
open D4 (rt it Mid)

/-- The small numbers of a draft. -/
def dsO (zs : List Nat) : List Nat := (zs.take 8).map (· % 16)
/-- The drafted weights. -/
def wts (zs : List Nat) : List (List UInt8) := if (dsO zs).sum = 0 then [[49]] else (dsO zs).map fun d : Nat => ratText (Rat.divInt d (dsO zs).sum)
theorem dsO_len (zs : List Nat) : (dsO zs).length = min 8 zs.length := by simp [dsO]
theorem dsO_lt (zs : List Nat) : ∀ d ∈ dsO zs, d ≤ 15 := by
  intro d hd
  obtain ⟨z, -, rfl⟩ := List.mem_map.1 hd
  omega
theorem sum_le : ∀ (l : List Nat), (∀ d ∈ l, d ≤ 15) → l.sum ≤ 15 * l.length
  | [], _ => by simp
  | a :: l, h => by
    have h1 := sum_le l (fun d hd => h d (by simp [hd]))
    have h2 := h a (by simp)
    simp only [List.sum_cons, List.length_cons]
    omega
theorem mem_le_sum : ∀ (l : List Nat) (d : Nat), d ∈ l → d ≤ l.sum
  | a :: l, d, h => by
    rcases List.mem_cons.1 h with rfl | h
    · simp
    · have := mem_le_sum l d h
      simp only [List.sum_cons]; omega
theorem div_on {d s : Nat} (hs : s ≠ 0) : On s (Rat.divInt d s) := by
  refine ⟨d, ?_⟩
  rw [divInt_div]
  have h : ((s : Int) : Rat) ≠ 0 := by
    intro e
    have : (s : Int) = 0 := by exact_mod_cast e
    omega
  have h2 : ((s : Nat) : Rat) = ((s : Int) : Rat) := by push_cast; rfl
  rw [h2]
  exact Rat.div_mul_cancel h
theorem div_pos0 {d s : Nat} : 0 ≤ Rat.divInt d s := Rat.divInt_nonneg (by omega) (by omega)
theorem div_le1 {d s : Nat} (hs : s ≠ 0) (h : d ≤ s) : Rat.divInt d s ≤ 1 := by
  obtain ⟨z, hz⟩ := div_on (d := d) hs
  have h0 : (0 : Rat) < (s : Rat) := by exact_mod_cast (by omega : 0 < s)
  have e : Rat.divInt d s * (s : Rat) = (d : Rat) := by
    rw [divInt_div]
    have h : ((s : Int) : Rat) ≠ 0 := by
      intro e
      have : (s : Int) = 0 := by exact_mod_cast e
      omega
    have h2 : ((s : Nat) : Rat) = ((s : Int) : Rat) := by push_cast; rfl
    rw [h2, Rat.div_mul_cancel h]; push_cast; rfl
  have h1 : (d : Rat) ≤ (s : Rat) := by exact_mod_cast h
  refine Rat.le_of_mul_le_mul_right (c := (s : Rat)) ?_ h0
  rw [e, Rat.one_mul]; exact h1
theorem div_fit {d s : Nat} (hs : s ≠ 0) (h : d ≤ s) (h2 : s ≤ 120) : fitsD 3 (Rat.divInt d s) :=
  (div_on hs).fit (d := 2) div_pos0 (div_le1 hs h) (by omega) (by omega)
theorem cum_ds (l : List Nat) {s : Nat} (hs : s ≠ 0) : ∀ k, k ≤ l.length → cum (l.map fun d : Nat => Rat.divInt d s) k = Rat.divInt ((l.take k).sum : Nat) s
  | 0, _ => by show (0 : Rat) = _; simp
  | k + 1, hk => by
    have h := cum_ds l hs k (by omega)
    have e : (l.take (k + 1)).sum = (l.take k).sum + l.getD k 0 := by
      rw [List.take_succ_eq_append_getElem (by omega), List.sum_append]
      simp [List.getD, List.getElem?_eq_getElem (show k < l.length by omega)]
    have e2 : (l.map fun d : Nat => Rat.divInt (d : Int) (s : Int)).getD k 0 = Rat.divInt (l.getD k 0 : Nat) s := by
      simp [List.getD, List.getElem?_eq_getElem (show k < l.length by omega)]
    show cum _ k + _ = _
    rw [h, e2, e, divInt_div, divInt_div, divInt_div]
    push_cast
    rw [Rat.div_def, Rat.div_def, Rat.div_def, Rat.add_mul]
theorem wts_map {zs : List Nat} (h : (dsO zs).sum ≠ 0) : (wts zs).map rval = (dsO zs).map fun d : Nat => Rat.divInt d (dsO zs).sum := by
  unfold wts
  rw [if_neg h, List.map_map]
  congr 1
  funext d
  exact rval_ratText _
theorem wOk_rat {x : Rat} (h0 : 0 ≤ x) (hf : fitsD 4 x) : wOk (ratText x) = true := by
  unfold wOk rshort
  have h1 := rerr_fit (x := x) ⟨Nat.le_trans hf.1 (by omega), Nat.le_trans hf.2 (by omega)⟩
  rw [rval_ratText, decide_eq_true h0]
  simp [h1]
  exact ⟨by have := hf.1; omega, by have := hf.2; omega⟩
/-- Drafted weights are weights. -/
theorem wts_ok (zs : List Nat) : okW (wts zs) = true := by
  by_cases h : (dsO zs).sum = 0
  · unfold wts; rw [if_pos h]; decide +kernel
  · have hl := dsO_len zs
    have hlt := dsO_lt zs
    have hs := sum_le _ hlt
    have hne : 1 ≤ (dsO zs).length := by
      rcases Nat.eq_zero_or_pos (dsO zs).length with h0 | h0
      · rw [List.length_eq_zero_iff.1 h0] at h; exact absurd rfl h
      · exact h0
    have hlen : (wts zs).length = (dsO zs).length := by unfold wts; rw [if_neg h, List.length_map]
    have hall : (wts zs).all wOk = true := by
      rw [List.all_eq_true]
      intro l hl
      unfold wts at hl
      rw [if_neg h] at hl
      obtain ⟨d, hd, rfl⟩ := List.mem_map.1 hl
      exact wOk_rat div_pos0 (fits_up (div_fit h (mem_le_sum _ _ hd) (by omega)) (by omega))
    have hc : cum ((wts zs).map rval) (wts zs).length = 1 := by
      rw [hlen, wts_map h, cum_ds _ h _ (Nat.le_refl _), List.take_length, divInt_div]
      have h2 : ((((dsO zs).sum : Nat) : Int) : Rat) ≠ 0 := by
        intro e
        have : (((dsO zs).sum : Nat) : Int) = 0 := by exact_mod_cast e
        omega
      rw [Rat.div_def]; exact Rat.mul_inv_cancel _ h2
    unfold okW
    rw [hall, hc, hlen, decide_eq_true (p := 1 ≤ _) hne, decide_eq_true (p := _ ≤ 16) (by omega)]; rfl
theorem wts_len (zs : List Nat) : 1 ≤ (wts zs).length ∧ (wts zs).length ≤ 8 := by
  have h1 := (okW_parts (wts_ok zs)).1
  refine ⟨h1, ?_⟩
  unfold wts
  split
  · simp
  · rw [List.length_map, dsO_len]; omega
theorem wts_short (zs : List Nat) : ∀ l ∈ wts zs, l.length ≤ 268435000 := by
  intro l hl
  by_cases h : (dsO zs).sum = 0
  · unfold wts at hl; rw [if_pos h] at hl; simp at hl; subst hl; show 1 ≤ 268435000; omega
  · have hs := sum_le _ (dsO_lt zs)
    have hl2 := dsO_len zs
    unfold wts at hl
    rw [if_neg h] at hl
    obtain ⟨d, hd, rfl⟩ := List.mem_map.1 hl
    have h3 := div_fit h (mem_le_sum _ _ hd) (by omega)
    exact text_len (x := Rat.divInt d (dsO zs).sum) ⟨Nat.le_trans h3.1 (by omega), Nat.le_trans h3.2 (by omega)⟩
/-- Each drafted weight is the text of its number. -/
theorem wts_text (zs : List Nat) {i : Nat} (hi : i < (wts zs).length) : (wts zs).getD i [] = ratText (((wts zs).map rval).getD i 0) := by
  rw [List.getD_eq_getElem?_getD, List.getD_eq_getElem?_getD, List.getElem?_map, List.getElem?_eq_getElem hi]
  show (wts zs)[i] = ratText (rval (wts zs)[i])
  have hm := List.getElem_mem hi
  generalize (wts zs)[i] = l at *
  unfold wts at hm
  split at hm
  · simp at hm; subst hm; decide +kernel
  · obtain ⟨d, hd, rfl⟩ := List.mem_map.1 hm
    rw [rval_ratText]
end Go.Proofs.YtfjjdjhnodcfhaaGreatDoor
