/- How often bounds are wrong: the plain mathematics. -/
import Derived.Test.YtmhneibcbjgedaaGreatDoorTBnd
set_option linter.unusedSimpArgs false
set_option linter.unusedVariables false
namespace Go.Proofs.YtmhneibcbjgedaaGreatDoor
open Go.RowKit

/-- The masses of those that are chosen. -/
def ab (n : Nat) (p : Rat) (c : Nat → Bool) : Nat → Rat
  | 0 => 0
  | k + 1 => if c k then ab n p c k + ms n k p else ab n p c k

theorem ab_upper {n : Nat} {p : Rat} (p0 : 0 ≤ p) (p1 : p ≤ 1) (c : Nat → Bool) : ∀ m, m ≤ n + 1 → ab n p c m = 0 ∨ ∃ k0, k0 < m ∧ c k0 = true ∧ ab n p c m ≤ U n k0 p - U n m p
  | 0, _ => .inl rfl
  | m + 1, h => by
    have hu := U_mass p n m (by omega)
    have hm := ms_nonneg n m p p0 p1
    rcases ab_upper (n := n) p0 p1 c m (by omega) with e | ⟨k0, a, b, d⟩
    · cases hc : c m
      · left; unfold ab; rw [hc]; simpa using e
      · right
        refine ⟨m, by omega, hc, ?_⟩
        unfold ab
        rw [hc, if_pos rfl, e, hu]
        grind
    · right
      refine ⟨k0, by omega, b, ?_⟩
      unfold ab
      split
      all_goals grind

theorem ab_total {n : Nat} {p : Rat} (p0 : 0 ≤ p) (p1 : p ≤ 1) (c : Nat → Bool) : ∀ m, m ≤ n + 1 → 0 ≤ ab n p c m ∧ ab n p c m ≤ 1 - U n m p
  | 0, _ => by
    rw [U_zero]
    exact ⟨Rat.le_refl, by show (0 : Rat) ≤ 1 - 1; grind⟩
  | m + 1, h => by
    have hu := U_mass p n m (by omega)
    have hm := ms_nonneg n m p p0 p1
    obtain ⟨a, b⟩ := ab_total (n := n) p0 p1 c m (by omega)
    unfold ab
    split
    all_goals exact ⟨by grind, by grind⟩

theorem ab_lower {n : Nat} {p : Rat} (p0 : 0 ≤ p) (p1 : p ≤ 1) (c : Nat → Bool) : ∀ m, m ≤ n + 1 → ab n p c m = 0 ∨ ∃ k1, k1 < m ∧ c k1 = true ∧ ab n p c m ≤ 1 - U n (k1 + 1) p
  | 0, _ => .inl rfl
  | m + 1, h => by
    cases hc : c m
    · have e : ab n p c (m + 1) = ab n p c m := by show (if c m then _ else _) = _; rw [hc]; rfl
      rw [e]
      rcases ab_lower (n := n) p0 p1 c m (by omega) with e | ⟨k1, a, b, d⟩
      · exact .inl e
      · exact .inr ⟨k1, by omega, b, d⟩
    · exact .inr ⟨m, by omega, hc, (ab_total (n := n) p0 p1 c (m + 1) h).2⟩

theorem U_turn (n : Nat) (p : Rat) : ∀ k, k ≤ n + 1 → 1 - U n k p = U n (n + 1 - k) (1 - p)
  | 0, _ => by rw [U_zero, Nat.sub_zero, U_gt _ n (n + 1) (by omega)]; grind
  | k + 1, h => by
    have h1 := U_turn n p k (by omega)
    have h2 := U_mass p n k (by omega)
    have h3 := U_mass (1 - p) n (n - k) (by omega)
    have h4 := ms_turn n k p (by omega)
    have e1 : n + 1 - k = n - k + 1 := by omega
    have e2 : n + 1 - (k + 1) = n - k := by omega
    rw [e1] at h1
    rw [e2, h3, ← h4]
    grind

/-- How often the low bound is wrong. -/
theorem above_le {n g : Nat} {p x : Rat} (p0 : 0 ≤ p) (p1 : p ≤ 1) (x0 : 0 ≤ x) (hg : 0 < g) : ab n p (fun k => decide (p < lowV n k g x)) (n + 1) ≤ x := by
  rcases ab_upper (n := n) p0 p1 (fun k => decide (p < lowV n k g x)) (n + 1) (Nat.le_refl _) with e | ⟨k0, a, b, d⟩
  · rw [e]; exact x0
  · rw [U_gt p n (n + 1) (by omega)] at d
    rw [decide_eq_true_eq] at b
    unfold lowV at b
    by_cases hz : k0 = 0
    · rw [if_pos hz] at b
      exact absurd p0 (Rat.not_le.2 b)
    · rw [if_neg hz] at b
      obtain ⟨L, hL, hLg, hU, _⟩ := last_spec (n := n) (k := k0) (g := g) (x := x) hg (by omega) (by omega) x0
      rw [← hL] at b
      have g1 := (grid_le (i := L) (j := L) (Nat.le_refl _) hLg hg).2.2
      have u := U_grow n k0 p _ p0 (Rat.le_of_lt b) g1
      grind
/-- How often the high bound is wrong. -/
theorem below_le {n g : Nat} {p x : Rat} (p0 : 0 ≤ p) (p1 : p ≤ 1) (x0 : 0 ≤ x) (hg : 0 < g) : ab n p (fun k => decide (highV n k g x < p)) (n + 1) ≤ x := by
  rcases ab_lower (n := n) p0 p1 (fun k => decide (highV n k g x < p)) (n + 1) (Nat.le_refl _) with e | ⟨k1, a, b, d⟩
  · rw [e]; exact x0
  · rw [decide_eq_true_eq] at b
    unfold highV at b
    by_cases hz : k1 = n
    · rw [if_pos hz] at b
      exact absurd p1 (Rat.not_le.2 b)
    · rw [if_neg hz] at b
      obtain ⟨L, hL, hLg, hU, _⟩ := last_spec (n := n) (k := n - k1) (g := g) (x := x) hg (by omega) (by omega) x0
      rw [← hL] at b
      have e : Rat.divInt ((g : Int) - (L : Nat)) g = 1 - Rat.divInt (L : Nat) g := by
        rw [divInt_div, divInt_div]
        have hg' : ((g : Int) : Rat) ≠ 0 := by
          intro e
          have : (g : Int) = 0 := by exact_mod_cast e
          omega
        have h1 := Rat.div_mul_cancel (a := (1 : Rat)) hg'
        push_cast
        push_cast at hg' h1
        grind
      rw [e] at b
      have g1 := (grid_le (i := L) (j := L) (Nat.le_refl _) hLg hg).2.2
      have t := U_turn n p (k1 + 1) (by omega)
      have e2 : n + 1 - (k1 + 1) = n - k1 := by omega
      rw [e2] at t
      have u := U_grow n (n - k1) (1 - p) _ (by grind) (show 1 - p ≤ Rat.divInt (L : Nat) g by grind) g1
      grind
end Go.Proofs.YtmhneibcbjgedaaGreatDoor
