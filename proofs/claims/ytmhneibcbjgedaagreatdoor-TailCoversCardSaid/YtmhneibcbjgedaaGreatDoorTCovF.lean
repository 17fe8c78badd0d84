/- What the bounds are on the grid. -/
import Derived.Test.YtmhneibcbjgedaaGreatDoorTCov
import Derived.Test.YtmhneibcbjgedaaGreatDoorTFlo
set_option linter.unusedSimpArgs false
set_option linter.unusedVariables false
namespace Go.Proofs.YtmhneibcbjgedaaGreatDoor
open Go.RowKit
open Go.Lib (decDigits itoa nDigits)
open D4 (rt it)

theorem grid_zero (g : Nat) : Rat.divInt ((0 : Nat) : Int) g = 0 := by simp
theorem grid_one {g : Nat} (hg : 0 < g) : Rat.divInt (g : Int) g = 1 := by
  rw [divInt_div]
  have h : ((g : Int) : Rat) ≠ 0 := by
    intro e
    have : (g : Int) = 0 := by exact_mod_cast e
    omega
  have := Rat.mul_div_cancel (a := 1) h
  rwa [Rat.one_mul] at this
theorem low_grid {n k g : Nat} {x : Rat} (hg : 0 < g) (hk : k ≤ n) (x0 : 0 ≤ x) : ∃ i : Nat, i ≤ g ∧ lowV n k g x = Rat.divInt i g := by
  unfold lowV
  by_cases h : k = 0
  · rw [if_pos h]; exact ⟨0, by omega, (grid_zero g).symm⟩
  · rw [if_neg h]
    obtain ⟨L, hL, hLg, _⟩ := last_spec (n := n) (k := k) (g := g) (x := x) hg (by omega) (by omega) x0
    exact ⟨L, hLg, by rw [hL]⟩
theorem high_grid {n k g : Nat} {x : Rat} (hg : 0 < g) (hk : k ≤ n) (x0 : 0 ≤ x) : ∃ i : Nat, i ≤ g ∧ highV n k g x = Rat.divInt i g := by
  unfold highV
  by_cases h : k = n
  · rw [if_pos h]; exact ⟨g, Nat.le_refl _, (grid_one hg).symm⟩
  · rw [if_neg h]
    obtain ⟨L, hL, hLg, _⟩ := last_spec (n := n) (k := n - k) (g := g) (x := x) hg (by omega) (by omega) x0
    refine ⟨g - L, by omega, ?_⟩
    rw [← hL]
    congr 1
    omega
theorem grid_div {i g : Nat} (hg : 0 < g) : Rat.divInt i g / Rat.divInt 1 g = (i : Int) := by
  rw [divInt_div, divInt_div]
  have h : ((g : Int) : Rat) ≠ 0 := by
    intro e
    have : (g : Int) = 0 := by exact_mod_cast e
    omega
  have h1 := Rat.div_mul_cancel (a := ((i : Int) : Rat)) h
  have h2 : (((1 : Int) : Rat) / ((g : Int) : Rat)) ≠ 0 := by
    intro e
    have := Rat.div_mul_cancel (a := ((1 : Int) : Rat)) h
    rw [e, Rat.zero_mul] at this
    exact absurd this (by decide)
  have h3 := Rat.mul_div_cancel (a := ((i : Int) : Rat)) h2
  have e1 : ((1 : Int) : Rat) = 1 := rfl
  have e : ((i : Int) : Rat) / ((g : Int) : Rat) = ((i : Int) : Rat) * (((1 : Int) : Rat) / ((g : Int) : Rat)) := by
    rw [Rat.div_def, Rat.div_def, e1, Rat.one_mul]
  rw [e]
  exact h3
theorem grid_next {i g : Nat} (hg : 0 < g) : Rat.divInt i g + Rat.divInt 1 g = Rat.divInt ((i + 1 : Nat) : Int) g := by
  rw [divInt_div, divInt_div, divInt_div, Rat.div_def, Rat.div_def, Rat.div_def, ← Rat.add_mul]
  congr 1
  push_cast
  rfl
theorem rt_int (z : Int) : rt (z : Rat) = it z := by
  have h := D4.rt_one (x := (z : Rat)) (Rat.den_intCast _)
  rw [h, Rat.num_intCast]
end Go.Proofs.YtmhneibcbjgedaaGreatDoor
