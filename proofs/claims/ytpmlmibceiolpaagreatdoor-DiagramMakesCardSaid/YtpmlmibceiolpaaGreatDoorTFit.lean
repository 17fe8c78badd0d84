/- Numbers that fit. -/
import Derived.Test.YtpmlmibceiolpaaGreatDoorCanon
import Derived.Test.YtpmlmibceiolpaaGreatDoorTPow
import Derived.Test.YtpmlmibceiolpaaGreatDoorMake
set_option linter.unusedSimpArgs false
set_option linter.unusedVariables false
namespace Go.Proofs.YtpmlmibceiolpaaGreatDoor.D4
open Go.RowKit
open Go.Lib (decDigits itoa nDigits)
theorem nDigits_le : ∀ {d n : Nat}, n < 10 ^ (d + 1) → nDigits n ≤ d + 1
  | 0, n, h => by rw [Lib.nDigits_small (by simpa using h)]; omega
  | d + 1, n, h => by
    by_cases h0 : n < 10
    · rw [Lib.nDigits_small h0]; omega
    · rw [Lib.nDigits_big h0]
      have := nDigits_le (d := d) (n := n / 10) (by rw [Nat.pow_succ] at h; omega)
      omega
theorem nDigits_mono {a b : Nat} (h : a ≤ b) : nDigits a ≤ nDigits b := by
  have h1 := Lib.lt_pow_nDigits b
  rcases hk : nDigits b with _ | k
  · rw [hk] at h1; have : a = 0 := by omega
    subst this; exact Nat.le_trans (Nat.le_of_eq (Lib.nDigits_small (by omega))) (by
      have h2 : 0 < nDigits b := Lib.nDigits_pos _
      omega)
  · rw [hk] at h1; exact nDigits_le (Nat.lt_of_le_of_lt h h1)
theorem divInt_num_le (n d : Int) : (Rat.divInt n d).num.natAbs ≤ n.natAbs := by
  rw [Rat.num_divInt]
  refine Nat.le_trans (Int.natAbs_ediv_le_natAbs _ _) ?_
  rw [Int.natAbs_mul]
  have h1 : d.sign.natAbs ≤ 1 := by
    rcases Int.lt_trichotomy d 0 with h | h | h
    · simp [Int.sign_eq_neg_one_of_neg h]
    · simp [h]
    · simp [Int.sign_eq_one_of_pos h]
  exact Nat.le_trans (Nat.mul_le_mul_right _ h1) (by omega)
theorem divInt_den_le (n : Int) {d : Int} (hd : d ≠ 0) : (Rat.divInt n d).den ≤ d.natAbs := by
  rw [Rat.den_divInt, if_neg hd]
  exact Nat.div_le_self _ _
theorem den_fit (x : Rat) {k : Nat} (h : fitsD k x) : nDigits ((x.den : Int)).natAbs ≤ k := by rw [Int.natAbs_natCast]; exact h.2
theorem nDigits_mul {a b k l : Nat} (ha : nDigits a ≤ k) (hb : nDigits b ≤ l) : nDigits (a * b) ≤ k + l := by
  have h1 := Lib.lt_pow_nDigits a
  have h2 := Lib.lt_pow_nDigits b
  have h3 : a < 10 ^ k := Nat.lt_of_lt_of_le h1 (Nat.pow_le_pow_right (by omega) ha)
  have h4 : b < 10 ^ l := Nat.lt_of_lt_of_le h2 (Nat.pow_le_pow_right (by omega) hb)
  have hk : 0 < nDigits a := Lib.nDigits_pos _
  have h5 : a * b < 10 ^ (k + l) := by
    rw [Nat.pow_add]
    exact Nat.lt_of_le_of_lt (Nat.mul_le_mul_right b (Nat.le_of_lt h3)) (Nat.mul_lt_mul_of_pos_left h4 (Nat.pow_pos (by omega)))
  obtain ⟨m, hm⟩ : ∃ m, k + l = m + 1 := ⟨k + l - 1, by omega⟩
  rw [hm] at h5 ⊢
  exact nDigits_le h5
theorem nDigits_imul {a b : Int} {k l : Nat} (ha : nDigits a.natAbs ≤ k) (hb : nDigits b.natAbs ≤ l) : nDigits (a * b).natAbs ≤ k + l := by
  rw [Int.natAbs_mul]; exact nDigits_mul ha hb
theorem nDigits_add {a b k : Nat} (ha : nDigits a ≤ k) (hb : nDigits b ≤ k) : nDigits (a + b) ≤ k + 1 := by
  have h1 := Lib.lt_pow_nDigits a
  have h2 := Lib.lt_pow_nDigits b
  have h3 : a < 10 ^ k := Nat.lt_of_lt_of_le h1 (Nat.pow_le_pow_right (by omega) ha)
  have h4 : b < 10 ^ k := Nat.lt_of_lt_of_le h2 (Nat.pow_le_pow_right (by omega) hb)
  refine nDigits_le ?_
  rw [Nat.pow_succ]
  omega
theorem nDigits_iadd {a b : Int} {k : Nat} (ha : nDigits a.natAbs ≤ k) (hb : nDigits b.natAbs ≤ k) : nDigits (a + b).natAbs ≤ k + 1 :=
  Nat.le_trans (nDigits_mono (Int.natAbs_add_le a b)) (nDigits_add ha hb)
end Go.Proofs.YtpmlmibceiolpaaGreatDoor.D4
namespace Go.Proofs.YtpmlmibceiolpaaGreatDoor
open Go.RowKit
open Go.Lib (decDigits itoa nDigits)
theorem rerr_fit {x : Rat} (h : fitsD 2000 x) : rerr (ratText x) = 0 := by rw [rerr_ratText, if_pos h]
theorem text_len {x : Rat} (h : fitsD 2000 x) : (ratText x).length ≤ 268435000 := by
  unfold ratText
  rw [List.length_append]
  have h1 := itoa_len x.num
  have h2 := h.1
  have h3 := h.2
  split
  · simp; omega
  · rw [List.length_cons, Lib.decDigits_length]; omega
end Go.Proofs.YtpmlmibceiolpaaGreatDoor
