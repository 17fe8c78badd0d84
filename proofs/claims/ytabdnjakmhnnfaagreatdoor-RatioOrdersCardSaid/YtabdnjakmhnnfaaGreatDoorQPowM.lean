/- Powers with an integer exponent: the plain mathematics. -/
import Derived.Test.YtabdnjakmhnnfaaGreatDoorTFit
set_option linter.unusedSimpArgs false
set_option linter.unusedVariables false
namespace Go.Proofs.YtabdnjakmhnnfaaGreatDoor
open Go.RowKit
open Go.Lib (decDigits itoa nDigits)
open D4 (rt it)

theorem q_anytext : (Region.Mode.any == Region.Mode.text) = false := rfl
theorem q_anygc : (Region.Mode.any == Region.Mode.gc) = false := rfl
/-- A power with an integer exponent. -/
def zpow (x : Rat) (n : Int) : Rat := if 0 ≤ n then x ^ n.toNat else (1 / x) ^ (-n).toNat
/-- The error of Pow. -/
def powE (l : List UInt8) (n : Int) : Int := if rerr l = 0 then (if n < -10000 ∨ 10000 < n ∨ (n < 0 ∧ (rval l).num = 0) then 2 else if fitsD 2000 (zpow (rval l) n) then 0 else 6) else rerr l
/-- Its text. -/
def powT (l : List UInt8) (n : Int) : ByteArray := if powE l n = 0 then rt (zpow (rval l) n) else ⟨#[]⟩

theorem one_rpow : ∀ n : Nat, (1 : Rat) ^ n = 1
  | 0 => Rat.pow_zero _
  | n + 1 => by rw [Rat.pow_succ, one_rpow n, Rat.mul_one]
theorem zero_rpow (n : Nat) : (0 : Rat) ^ (n + 1) = 0 := by rw [Rat.pow_succ, Rat.mul_zero]
theorem neg_rpow : ∀ n : Nat, (-1 : Rat) ^ n = if n % 2 = 0 then 1 else -1
  | 0 => Rat.pow_zero _
  | n + 1 => by
    rw [Rat.pow_succ, neg_rpow n]
    by_cases h : n % 2 = 0
    · rw [if_pos h, if_neg (by omega)]; decide +kernel
    · rw [if_neg h, if_pos (by omega)]; decide +kernel
theorem fit_pow_mono {k : Nat} {x : Rat} (hx : x.num ≠ 0) {i j : Nat} (h : i ≤ j) (hf : fitsD k (x ^ j)) : fitsD k (x ^ i) := by
  obtain ⟨a, b⟩ := hf
  rw [Rat.num_pow, Int.natAbs_pow] at a
  rw [Rat.den_pow] at b
  refine ⟨?_, ?_⟩
  · rw [Rat.num_pow, Int.natAbs_pow]
    exact Nat.le_trans (D4.nDigits_mono (Nat.pow_le_pow_right (by omega) h)) a
  · rw [Rat.den_pow]
    exact Nat.le_trans (D4.nDigits_mono (Nat.pow_le_pow_right x.den_pos h)) b
/-- -1, 0 or 1. -/
theorem small_rat {x : Rat} (h : x.den = 1) (h2 : x * x ≤ 1) : x = -1 ∨ x = 0 ∨ x = 1 := by
  have e : x = (x.num : Rat) := Rat.ext (by rw [Rat.num_intCast]) (by rw [Rat.den_intCast, h])
  rw [e] at h2
  have h3 : x.num * x.num ≤ 1 := by exact_mod_cast h2
  have h4 : x.num = -1 ∨ x.num = 0 ∨ x.num = 1 := by
    rcases (show x.num ≤ -2 ∨ x.num = -1 ∨ x.num = 0 ∨ x.num = 1 ∨ 2 ≤ x.num by omega) with h | h | h | h | h
    · have h5 := Int.mul_le_mul (show (2 : Int) ≤ -x.num by omega) (show (2 : Int) ≤ -x.num by omega) (by omega) (by omega)
      rw [Int.neg_mul_neg] at h5
      omega
    · exact .inl h
    · exact .inr (.inl h)
    · exact .inr (.inr h)
    · have h5 := Int.mul_le_mul h h (by omega) (by omega)
      omega
  rcases h4 with h | h | h <;> rw [h] at e
  · exact .inl e
  · exact .inr (.inl e)
  · exact .inr (.inr e)
theorem zpow_small {x : Rat} {n : Int} (h : x = -1 ∨ x = 0 ∨ x = 1) (hn : n ≠ 0) (h0 : ¬ (n < 0 ∧ x = 0)) {m : Nat} (hm : (m : Int) = 2 - n % 2) : zpow x n = x ^ m := by
  unfold zpow
  have hm2 : m = 1 ∨ m = 2 := by omega
  rcases h with rfl | rfl | rfl
  · have e1 : (1 : Rat) / -1 = -1 := by decide +kernel
    rw [e1]
    split
    · rw [neg_rpow, neg_rpow]; congr 1; exact propext (by omega)
    · rw [neg_rpow, neg_rpow]; congr 1; exact propext (by omega)
  · rw [if_pos (by have := mt (fun h => And.intro h (rfl : (0 : Rat) = 0)) h0; omega)]
    obtain ⟨k, hk⟩ : ∃ k, n.toNat = k + 1 := ⟨n.toNat - 1, by have := mt (fun h => And.intro h (rfl : (0 : Rat) = 0)) h0; omega⟩
    obtain ⟨j, hj⟩ : ∃ j, m = j + 1 := ⟨m - 1, by omega⟩
    rw [hk, hj, zero_rpow, zero_rpow]
  · have e1 : (1 : Rat) / 1 = 1 := by decide +kernel
    rw [e1]
    split <;> rw [one_rpow, one_rpow]
end Go.Proofs.YtabdnjakmhnnfaaGreatDoor
