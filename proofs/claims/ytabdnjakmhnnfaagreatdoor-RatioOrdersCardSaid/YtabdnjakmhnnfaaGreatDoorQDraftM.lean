/- The integer that a draft's digits say: the plain mathematics. -/
import Derived.Test.YtabdnjakmhnnfaaGreatDoorR2c
set_option linter.unusedSimpArgs false
set_option linter.unusedVariables false
namespace Go.Proofs.YtabdnjakmhnnfaaGreatDoor
open Go.RowKit
open Go.Lib (decDigits itoa nDigits)
open D4 (rt it)

/-- One digit more. -/
def dvIn (v : Nat) (ds : List Nat) : Nat := ds.foldl (fun a c => 10 * a + c) v
/-- The digits, so many times. -/
def dvK (ds : List Nat) : Nat → Nat
  | 0 => 0
  | k + 1 => dvIn (dvK ds k) ds
theorem dvIn_snoc (v : Nat) (ds : List Nat) (c : Nat) : dvIn v (ds ++ [c]) = 10 * dvIn v ds + c := by simp [dvIn]
theorem dvIn_take {v : Nat} {ds : List Nat} {i : Nat} (h : i < ds.length) : dvIn v (ds.take (i + 1)) = 10 * dvIn v (ds.take i) + ds[i] := by
  rw [List.take_succ_eq_append_getElem h, dvIn_snoc]
theorem dvIn_lt {ds : List Nat} (hd : ∀ c ∈ ds, c < 10) : ∀ {v a : Nat}, v < 10 ^ a → dvIn v ds < 10 ^ (a + ds.length) := by
  induction ds with
  | nil => intro v a h; exact h
  | cons c r ih =>
    intro v a h
    have hc := hd c (by simp)
    have h1 : 10 * v + c < 10 ^ (a + 1) := by rw [Nat.pow_succ]; omega
    have h2 := ih (fun x hx => hd x (by simp [hx])) h1
    show dvIn (10 * v + c) r < _
    rw [List.length_cons, show a + (r.length + 1) = a + 1 + r.length by omega]
    exact h2
theorem dvK_lt {ds : List Nat} (hd : ∀ c ∈ ds, c < 10) (hl : ds.length ≤ 30) : ∀ k, dvK ds k < 10 ^ (30 * k)
  | 0 => by show 0 < 10 ^ 0; decide
  | k + 1 => by
    have h := dvIn_lt hd (dvK_lt hd hl k)
    exact Nat.lt_of_lt_of_le h (Nat.pow_le_pow_right (by omega) (by omega))
/-- The text so far. -/
def sText (v : Nat) : ByteArray := if v = 0 then ⟨#[]⟩ else ⟨(decDigits v).toArray⟩
theorem decDigits_more {v c : Nat} (hv : v ≠ 0) (hc : c < 10) : decDigits (10 * v + c) = decDigits v ++ [UInt8.ofNat (48 + c)] := by
  rw [decDigits, dif_neg (by omega)]
  have e1 : (10 * v + c) / 10 = v := by omega
  have e2 : (10 * v + c) % 10 = c := by omega
  rw [e1, e2]
theorem sText_more {v c : Nat} (hc : c < 10) (h : v ≠ 0 ∨ 0 < c) : sText (10 * v + c) = sText v ++ ⟨#[UInt8.ofNat (48 + c)]⟩ := by
  unfold sText
  rw [if_neg (by omega)]
  by_cases hv : v = 0
  · subst hv
    rw [if_pos rfl, Nat.mul_zero, Nat.zero_add, Lib.decDigits_one hc]
    apply ByteArray.ext; simp [ByteArray.data_append]
  · rw [if_neg hv, decDigits_more hv hc]
    apply ByteArray.ext; simp [ByteArray.data_append]
theorem sText_same {v c : Nat} (h : ¬ (v ≠ 0 ∨ 0 < c)) : sText (10 * v + c) = sText v := by
  have e : 10 * v + c = v := by omega
  rw [e]
theorem sText_nil {v : Nat} : ((sText v).toList == []) = decide (v = 0) := by
  unfold sText
  by_cases h : v = 0
  · rw [if_pos h, decide_eq_true h]
    show ((⟨([] : List UInt8).toArray⟩ : ByteArray).toList == []) = true
    rw [ba_list]; rfl
  · rw [if_neg h, decide_eq_false h, beq_eq_false_iff_ne]
    intro e
    have h1 := congrArg List.length e
    rw [ba_list, Lib.decDigits_length] at h1
    have := Lib.nDigits_pos v
    simp at h1; omega
/-- The integer of a draft: its digits are the bytes' last decimal digits, thirty at most, repeated. -/
def draftN (neg : Bool) (ds : List Nat) (t : Nat) : Int := if neg then -((dvK ds (t % 8 + 1) : Nat) : Int) else ((dvK ds (t % 8 + 1) : Nat) : Int)
theorem draftN_digits {neg : Bool} {ds : List Nat} {t : Nat} (hd : ∀ c ∈ ds, c < 10) (hl : ds.length ≤ 30) : nDigits (draftN neg ds t).natAbs ≤ 240 := by
  have h := dvK_lt hd hl (t % 8 + 1)
  have h2 : dvK ds (t % 8 + 1) < 10 ^ (239 + 1) := Nat.lt_of_lt_of_le h (Nat.pow_le_pow_right (by omega) (by omega))
  have e : (draftN neg ds t).natAbs = dvK ds (t % 8 + 1) := by unfold draftN; split <;> omega
  rw [e]
  exact D4.nDigits_le h2
theorem draft_text {neg : Bool} {v : Nat} : it (if neg then -((v : Nat) : Int) else ((v : Nat) : Int)) = if v = 0 then ⟨#[48]⟩ else if neg then ⟨#[45]⟩ ++ sText v else sText v := by
  by_cases h : v = 0
  · subst h
    rw [if_pos rfl]
    cases neg <;> decide +kernel
  · rw [if_neg h]
    unfold sText
    rw [if_neg h]
    cases neg
    · simp [D4.it, Lib.itoa_nonneg]
    · simp only [if_true]
      unfold D4.it
      rw [itoa_sgnd]
      have e1 : decide (-((v : Nat) : Int) < 0) = true := by simp; omega
      rw [e1, Int.natAbs_neg, Int.natAbs_natCast]
      apply ByteArray.ext
      simp [sgnd, ByteArray.data_append]
end Go.Proofs.YtabdnjakmhnnfaaGreatDoor
