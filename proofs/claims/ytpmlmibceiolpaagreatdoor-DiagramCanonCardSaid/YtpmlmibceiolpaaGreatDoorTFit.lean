/- The contracts of ratio's operations over texts of numbers that fit; numbers with a common denominator. -/
import Derived.Test.YtpmlmibceiolpaaGreatDoorR2c
set_option linter.unusedSimpArgs false
set_option linter.unusedVariables false
namespace Go.Proofs.YtpmlmibceiolpaaGreatDoor
open Go.RowKit
open Go.Lib (decDigits itoa nDigits)
open D4 (rt it)

theorem rerr_fit {x : Rat} (h : fitsD 2000 x) : rerr (ratText x) = 0 := by rw [rerr_ratText, if_pos h]
theorem text_len {x : Rat} (h : fitsD 2000 x) : (ratText x).length ≤ 268435000 := by
  unfold ratText
  rw [List.length_append]
  have h1 := itoa_len x.num
  have h2 := h.1
  have h3 := h.2
  split
  · simp; omega
  · rw [List.length_cons, Lib.decDigits_length]; omega
theorem divInt_div (a b : Int) : Rat.divInt a b = (a : Rat) / (b : Rat) := Rat.divInt_eq_div a b
def On (M : Nat) (x : Rat) : Prop := ∃ z : Int, x * (M : Rat) = (z : Rat)
theorem On.den (x : Rat) : On x.den x := by
  refine ⟨x.num, ?_⟩
  have hd : ((x.den : Nat) : Rat) ≠ 0 := by
    intro e
    have : x.den = 0 := by exact_mod_cast e
    exact x.den_nz this
  have h := divInt_div x.num x.den
  rw [Rat.num_divInt_den] at h
  have h2 : ((x.den : Int) : Rat) = (x.den : Rat) := by push_cast; rfl
  rw [h2] at h
  have h3 := Rat.div_mul_cancel (a := (x.num : Rat)) hd
  rw [← h] at h3
  exact h3
theorem On.int (M : Nat) (z : Int) : On M z := ⟨z * M, by push_cast; rfl⟩
theorem On.nat (M z : Nat) : On M z := ⟨z * M, by push_cast; rfl⟩
theorem On.zero (M : Nat) : On M 0 := ⟨0, by simp⟩
theorem On.one (M : Nat) : On M 1 := by
  have h := On.nat M 1
  simpa using h
theorem On.add {M : Nat} {x y : Rat} (hx : On M x) (hy : On M y) : On M (x + y) := by
  obtain ⟨a, ha⟩ := hx
  obtain ⟨b, hb⟩ := hy
  exact ⟨a + b, by push_cast; rw [← ha, ← hb]; grind⟩
theorem On.sub {M : Nat} {x y : Rat} (hx : On M x) (hy : On M y) : On M (x - y) := by
  obtain ⟨a, ha⟩ := hx
  obtain ⟨b, hb⟩ := hy
  exact ⟨a - b, by push_cast; rw [← ha, ← hb]; grind⟩
theorem On.mul {M N : Nat} {x y : Rat} (hx : On M x) (hy : On N y) : On (M * N) (x * y) := by
  obtain ⟨a, ha⟩ := hx
  obtain ⟨b, hb⟩ := hy
  exact ⟨a * b, by push_cast; rw [← ha, ← hb]; grind⟩
theorem On.pow {M : Nat} {x : Rat} (hx : On M x) : ∀ n : Nat, On (M ^ n) (x ^ n)
  | 0 => by rw [Rat.pow_zero, Nat.pow_zero]; exact .one _
  | n + 1 => by rw [Rat.pow_succ, Nat.pow_succ]; exact (On.pow hx n).mul hx
theorem On.more {M : Nat} {x : Rat} (hx : On M x) (N : Nat) : On (M * N) x := by
  have h := hx.mul (On.one N)
  rwa [Rat.mul_one] at h
theorem On.fit {M d : Nat} {x : Rat} (h : On M x) (h0 : 0 ≤ x) (h1 : x ≤ 1) (hM : 0 < M) (hd : M < 10 ^ (d + 1)) : fitsD (d + 1) x := by
  obtain ⟨z, hz⟩ := h
  have hM' : (M : Rat) ≠ 0 := by
    intro e
    have : M = 0 := by exact_mod_cast e
    omega
  have hMp : (0 : Rat) ≤ (M : Rat) := by exact_mod_cast Nat.zero_le _
  have hx : x = Rat.divInt z M := by
    rw [divInt_div]
    rw [← hz]
    push_cast
    rw [Rat.mul_div_cancel hM']
  have hz0 : 0 ≤ z := by
    have : (0 : Rat) ≤ (z : Rat) := by rw [← hz]; exact Rat.mul_nonneg h0 hMp
    exact_mod_cast this
  have hz1 : z ≤ M := by
    have : (z : Rat) ≤ (M : Rat) := by
      rw [← hz]
      have := Rat.mul_le_mul_of_nonneg_right h1 hMp
      rwa [Rat.one_mul] at this
    exact_mod_cast this
  have e1 := D4.divInt_num_le z M
  have e2 := D4.divInt_den_le z (d := (M : Int)) (by omega)
  rw [← hx] at e1 e2
  exact ⟨D4.nDigits_le (by omega), D4.nDigits_le (by omega)⟩
theorem fit_le {j k : Nat} {x : Rat} (h : fitsD j x) (hk : j ≤ k) : fitsD k x := ⟨Nat.le_trans h.1 hk, Nat.le_trans h.2 hk⟩
theorem divInt_le {a b : Int} (h0 : 0 ≤ a) (hb : 0 < b) : 0 ≤ Rat.divInt a b ∧ (a ≤ b → Rat.divInt a b ≤ 1) ∧ (0 < a → 0 < Rat.divInt a b) ∧ (a < b → Rat.divInt a b < 1) := by
  have hb' : (0 : Rat) < (b : Rat) := by exact_mod_cast hb
  have ha' : (0 : Rat) ≤ (a : Rat) := by exact_mod_cast h0
  rw [divInt_div]
  refine ⟨?_, fun h => ?_, fun h => ?_, fun h => ?_⟩
  · rw [← Rat.not_lt, Rat.div_lt_iff hb', Rat.zero_mul, Rat.not_lt]; exact ha'
  · have h' : (a : Rat) ≤ (b : Rat) := by exact_mod_cast h
    rw [← Rat.not_lt, Rat.lt_div_iff hb', Rat.one_mul, Rat.not_lt]; exact h'
  · have h' : (0 : Rat) < (a : Rat) := by exact_mod_cast h
    rw [Rat.lt_div_iff hb', Rat.zero_mul]; exact h'
  · have h' : (a : Rat) < (b : Rat) := by exact_mod_cast h
    rw [Rat.div_lt_iff hb', Rat.one_mul]; exact h'
end Go.Proofs.YtpmlmibceiolpaaGreatDoor
