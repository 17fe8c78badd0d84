/- Plain laws: division rounded down, fractions in lowest terms. No program in sight. -/
import Derived.Test.YtmhneibcbjgedaaGreatDoorWhole
set_option linter.unusedSimpArgs false
set_option linter.unusedVariables false
namespace Go.Proofs.YtmhneibcbjgedaaGreatDoor
open Go.RowKit

theorem fdiv_unique {m n q r : Int} (h : m = n * q + r) (hr : (0 < n ∧ 0 ≤ r ∧ r < n) ∨ (n < 0 ∧ r ≤ 0 ∧ n < r)) : m.fdiv n = q ∧ m.fmod n = r := by
  have key : m.fdiv n = q := by
    rcases hr with ⟨h1, h2, h3⟩ | ⟨h1, h2, h3⟩
    · rw [Int.fdiv_eq_ediv_of_nonneg _ (by omega)]
      exact ((Int.ediv_emod_unique h1).2 ⟨by rw [h]; omega, h2, h3⟩).1
    · rw [← Int.neg_fdiv_neg, Int.fdiv_eq_ediv_of_nonneg _ (by omega)]
      exact ((Int.ediv_emod_unique (by omega : 0 < -n)).2 ⟨by rw [h, Int.neg_mul]; omega, (by omega : 0 ≤ -r), by omega⟩).1
  refine ⟨key, ?_⟩
  rw [Int.fmod_def, key, h]; omega

theorem div_law_same {m n : Int} (hn : n ≠ 0) (h : sg (decide (m < 0)) (m.natAbs % n.natAbs) = 0 ∨ decide (m < 0) = decide (n < 0)) :
    sg (decide (m < 0) != decide (n < 0)) (m.natAbs / n.natAbs) = m.fdiv n ∧ sg (decide (m < 0)) (m.natAbs % n.natAbs) = m.fmod n := by
  have h1 : n.natAbs * (m.natAbs / n.natAbs) + m.natAbs % n.natAbs = m.natAbs := Nat.div_add_mod _ _
  have h2 : m.natAbs % n.natAbs < n.natAbs := Nat.mod_lt _ (by omega)
  generalize m.natAbs / n.natAbs = Q at *
  generalize m.natAbs % n.natAbs = R at *
  have h3 : (n.natAbs : Int) * Q + R = (m.natAbs : Int) := by exact_mod_cast h1
  rcases Int.lt_or_le m 0 with hm | hm <;> rcases Int.lt_or_le n 0 with hn' | hn'
  · have e1 : (m.natAbs : Int) = -m := by omega
    have e2 : (n.natAbs : Int) = -n := by omega
    rw [e1, e2, Int.neg_mul] at h3
    have := @fdiv_unique m n Q (-R) (by omega) (.inr ⟨hn', by omega, by omega⟩)
    simp [sg, hm, hn', this]
  · have e1 : (m.natAbs : Int) = -m := by omega
    have e2 : (n.natAbs : Int) = n := by omega
    have h4 : ¬ n < 0 := by omega
    simp [sg, hm, h4] at h
    subst h
    rw [e1, e2] at h3
    have := @fdiv_unique m n (-Q) 0 (by rw [Int.mul_neg]; omega) (.inl ⟨by omega, by omega, by omega⟩)
    simp [sg, hm, h4, this]
  · have e1 : (m.natAbs : Int) = m := by omega
    have e2 : (n.natAbs : Int) = -n := by omega
    have h4 : ¬ m < 0 := by omega
    simp [sg, hn', h4] at h
    subst h
    rw [e1, e2, Int.neg_mul] at h3
    have := @fdiv_unique m n (-Q) 0 (by rw [Int.mul_neg]; omega) (.inr ⟨hn', by omega, by omega⟩)
    simp [sg, hn', h4, this]
  · have e1 : (m.natAbs : Int) = m := by omega
    have e2 : (n.natAbs : Int) = n := by omega
    have h4 : ¬ m < 0 := by omega
    have h5 : ¬ n < 0 := by omega
    rw [e1, e2] at h3
    have := @fdiv_unique m n Q R (by omega) (.inl ⟨by omega, by omega, by omega⟩)
    simp [sg, h5, h4, this]

theorem div_law_other {m n : Int} (hn : n ≠ 0) (h : sg (decide (m < 0)) (m.natAbs % n.natAbs) ≠ 0) (hd : decide (m < 0) ≠ decide (n < 0)) :
    sg (decide (m < 0) != decide (n < 0)) (m.natAbs / n.natAbs) - 1 = m.fdiv n ∧ sg (decide (m < 0)) (m.natAbs % n.natAbs) + n = m.fmod n := by
  have h1 : n.natAbs * (m.natAbs / n.natAbs) + m.natAbs % n.natAbs = m.natAbs := Nat.div_add_mod _ _
  have h2 : m.natAbs % n.natAbs < n.natAbs := Nat.mod_lt _ (by omega)
  generalize m.natAbs / n.natAbs = Q at *
  generalize m.natAbs % n.natAbs = R at *
  have h3 : (n.natAbs : Int) * Q + R = (m.natAbs : Int) := by exact_mod_cast h1
  rcases Int.lt_or_le m 0 with hm | hm <;> rcases Int.lt_or_le n 0 with hn' | hn'
  · simp [hm, hn'] at hd
  · have e1 : (m.natAbs : Int) = -m := by omega
    have e2 : (n.natAbs : Int) = n := by omega
    have h4 : ¬ n < 0 := by omega
    simp [sg, hm, h4] at h
    rw [e1, e2] at h3
    have := @fdiv_unique m n (-Q - 1) (-R + n) (by rw [Int.mul_sub, Int.mul_neg]; omega) (.inl ⟨by omega, by omega, by omega⟩)
    simp [sg, hm, h4, this]
  · have e1 : (m.natAbs : Int) = m := by omega
    have e2 : (n.natAbs : Int) = -n := by omega
    have h4 : ¬ m < 0 := by omega
    simp [sg, hn', h4] at h
    rw [e1, e2, Int.neg_mul] at h3
    have := @fdiv_unique m n (-Q - 1) (R + n) (by rw [Int.mul_sub, Int.mul_neg]; omega) (.inr ⟨hn', by omega, by omega⟩)
    simp [sg, hn', h4, this]
  · have h4 : ¬ m < 0 := by omega
    have h5 : ¬ n < 0 := by omega
    simp [h4, h5] at hd

/-- The signed divisor by which a fraction is reduced. -/
def red (n d : Int) : Int := sg (decide (d < 0)) (Nat.gcd n.natAbs d.natAbs)

theorem red_ne {n d : Int} (hd : d ≠ 0) : red n d ≠ 0 := by
  have h1 : 0 < Nat.gcd n.natAbs d.natAbs := Nat.gcd_pos_of_pos_right _ (by omega)
  unfold red sg
  split <;> omega

theorem make_num {n d : Int} (hd : d ≠ 0) : n.fdiv (red n d) = (Rat.divInt n d).num := by
  rw [Rat.num_divInt]
  have hg : 0 < Nat.gcd n.natAbs d.natAbs := Nat.gcd_pos_of_pos_right _ (by omega)
  have e0 : d.gcd n = Nat.gcd n.natAbs d.natAbs := Nat.gcd_comm _ _
  rw [e0]
  have h1 : ((Nat.gcd n.natAbs d.natAbs : Nat) : Int) ∣ n := Int.ofNat_dvd_left.2 (Nat.gcd_dvd_left _ _)
  unfold red
  generalize Nat.gcd n.natAbs d.natAbs = g at *
  obtain ⟨k, hk⟩ := h1
  subst hk
  have hg' : (g : Int) ≠ 0 := by omega
  rcases Int.lt_or_gt_of_ne hd with h | h
  · rw [Int.sign_eq_neg_one_of_neg h]
    have e1 : sg (decide (d < 0)) g = -(g : Int) := by simp [sg, h]
    rw [e1]
    have e2 : (g : Int) * k = -(g : Int) * (-k) := by rw [Int.neg_mul_neg]
    have e3 : (-1 : Int) * ((g : Int) * k) = (g : Int) * (-k) := by rw [Int.mul_neg]; omega
    rw [e3, Int.mul_ediv_cancel_left _ hg', e2]
    exact Int.mul_fdiv_cancel_left _ (by omega)
  · rw [Int.sign_eq_one_of_pos h]
    have h4 : ¬ d < 0 := by omega
    have e1 : sg (decide (d < 0)) g = (g : Int) := by simp [sg, h4]
    rw [e1, Int.one_mul, Int.mul_ediv_cancel_left _ hg']
    exact Int.mul_fdiv_cancel_left _ hg'

theorem make_den {n d : Int} (hd : d ≠ 0) : d.fdiv (red n d) = ((Rat.divInt n d).den : Int) := by
  rw [Rat.den_divInt, if_neg hd]
  have hg : 0 < Nat.gcd n.natAbs d.natAbs := Nat.gcd_pos_of_pos_right _ (by omega)
  have e0 : d.gcd n = Nat.gcd n.natAbs d.natAbs := Nat.gcd_comm _ _
  rw [e0]
  have h1 : Nat.gcd n.natAbs d.natAbs ∣ d.natAbs := Nat.gcd_dvd_right _ _
  unfold red
  generalize Nat.gcd n.natAbs d.natAbs = g at *
  obtain ⟨k, hk⟩ := h1
  rw [hk, Nat.mul_div_cancel_left _ hg]
  have hg' : (g : Int) ≠ 0 := by omega
  rcases Int.lt_or_gt_of_ne hd with h | h
  · have e1 : sg (decide (d < 0)) g = -(g : Int) := by simp [sg, h]
    rw [e1]
    have e2 : d = -(g : Int) * (k : Int) := by
      have : (d.natAbs : Int) = (g : Int) * k := by rw [hk]; simp
      rw [Int.neg_mul]; omega
    conv => lhs; rw [e2]
    exact Int.mul_fdiv_cancel_left _ (by omega)
  · have h4 : ¬ d < 0 := by omega
    have e1 : sg (decide (d < 0)) g = (g : Int) := by simp [sg, h4]
    rw [e1]
    have e2 : d = (g : Int) * (k : Int) := by
      have : (d.natAbs : Int) = (g : Int) * k := by rw [hk]; simp
      omega
    conv => lhs; rw [e2]
    exact Int.mul_fdiv_cancel_left _ hg'

/-- Nothing to reduce. -/
theorem make_one {n d : Int} (hd : d ≠ 0) (h : red n d = 1) : n = (Rat.divInt n d).num ∧ d = ((Rat.divInt n d).den : Int) := by
  have h1 := make_num (n := n) hd
  have h2 := make_den (n := n) hd
  rw [h, Int.fdiv_one] at h1 h2
  exact ⟨h1, h2⟩

theorem den_ne (x : Rat) : (x.den : Int) ≠ 0 := by have := x.den_nz; omega

theorem rat_add (x y : Rat) : Rat.divInt (x.num * y.den + y.num * x.den) (x.den * y.den) = x + y := by
  rw [Rat.add_def', ← Rat.divInt_ofNat, Int.natCast_mul]
theorem rat_mul (x y : Rat) : Rat.divInt (x.num * y.num) (x.den * y.den) = x * y := by
  rw [Rat.mul_def', ← Rat.divInt_ofNat, Int.natCast_mul]
theorem rat_div (x y : Rat) : Rat.divInt (x.num * y.den) (x.den * y.num) = x / y := by
  have h : x / y = (Rat.divInt x.num (x.den : Int)) * (Rat.divInt y.num (y.den : Int))⁻¹ := by rw [Rat.num_divInt_den, Rat.num_divInt_den]; rfl
  rw [h, Rat.inv_divInt, Rat.divInt_mul_divInt]

/-- How two numbers compare. -/
def rcmp (x y : Rat) : Int := (x.num * y.den - y.num * x.den).sign

theorem rcmp_neg {x y : Rat} : rcmp x y < 0 ↔ x < y := by
  unfold rcmp
  rw [Int.sign_neg_iff, Rat.lt_iff]; omega
theorem rcmp_pos {x y : Rat} : 0 < rcmp x y ↔ y < x := by
  unfold rcmp
  rw [Int.sign_pos_iff, Rat.lt_iff]; omega
theorem rcmp_zero {x y : Rat} : rcmp x y = 0 ↔ x = y := by
  unfold rcmp
  rw [Int.sign_eq_zero_iff_zero, Rat.eq_iff_mul_eq_mul]; omega
theorem rcmp_le {x y : Rat} : rcmp x y ≤ 0 ↔ x ≤ y := by
  have := @rcmp_pos x y
  rw [← Rat.not_lt, ← this]; omega

theorem rat_floor (x : Rat) : x.num.fdiv x.den = x.floor := by
  rw [Rat.floor_def, Int.fdiv_eq_ediv_of_nonneg _ (by omega)]

end Go.Proofs.YtmhneibcbjgedaaGreatDoor
