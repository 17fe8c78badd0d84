/- RatioProducts: what its parts are, without the walk. -/
import Derived.Test.YtabdnjakmhnnfaaGreatDoorQSums
import Derived.Test.YtabdnjakmhnnfaaGreatDoorQRefs
set_option linter.unusedSimpArgs false
set_option linter.unusedVariables false
namespace Go.Proofs.YtabdnjakmhnnfaaGreatDoor
open Go.RowKit
open Go.Lib (decDigits itoa nDigits)
open D4 (rt it Mid)

theorem one_fits : fitsD 20 1 := by decide +kernel
theorem fits_pow {k : Nat} {x : Rat} (hx : fitsD k x) : ∀ n : Nat, fitsD (1 + n * k) (x ^ n)
  | 0 => by rw [Rat.pow_zero, Nat.zero_mul]; decide +kernel
  | n + 1 => by rw [Rat.pow_succ]; exact fits_up (fits_mul (fits_pow hx n) hx) (by rw [Nat.add_mul, Nat.one_mul, Nat.add_assoc]; exact Nat.le_refl _)
theorem inv_rpow (x : Rat) : ∀ n : Nat, (1 / x) ^ n = 1 / (x ^ n)
  | 0 => by rw [Rat.pow_zero, Rat.pow_zero]; decide +kernel
  | n + 1 => by rw [Rat.pow_succ, Rat.pow_succ, inv_rpow x n, Rat.div_def, Rat.div_def, Rat.div_def, Rat.one_mul, Rat.one_mul, Rat.one_mul, Rat.inv_mul_rev, Rat.mul_comm]
theorem zpow_nat (x : Rat) (m : Nat) : zpow x (m : Int) = x ^ m := by unfold zpow; rw [if_pos (by omega), Int.toNat_natCast]
theorem zpow_neg (x : Rat) (m : Nat) (hm : 0 < m) : zpow x (-(m : Int)) = 1 / (x ^ m) := by
  unfold zpow; rw [if_neg (by omega), Int.neg_neg, Int.toNat_natCast, inv_rpow]
theorem rpow_ne {x : Rat} (h : x ≠ 0) : ∀ n : Nat, x ^ n ≠ 0
  | 0 => by rw [Rat.pow_zero]; decide
  | n + 1 => by
    rw [Rat.pow_succ]
    intro e
    rcases Rat.mul_eq_zero.1 e with e | e
    · exact rpow_ne h n e
    · exact h e

/-- What the products of two texts are. -/
theorem pair_products (l0 l1 : List UInt8) (h0 : l0.length ≤ 600) (h1 : l1.length ≤ 600) : ∃ (T1 T2 RM RD : ByteArray) (E1 E2 F : Int),
    Hid (∀ V : World, Good V → Calls Tryz.prog 16 #[.string ⟨l0.toArray⟩, .string ⟨l1.toArray⟩] V (RetV V (.tuple #[.string T1, .int .i64 E1]))) ∧
    Hid (∀ V : World, Good V → Calls Tryz.prog 18 #[.string ⟨l0.toArray⟩, .string ⟨l1.toArray⟩] V (RetV V (.tuple #[.string T2, .int .i64 E2]))) ∧
    Hid (∀ V : World, Good V → Calls Tryz.prog 28 #[.string ⟨l0.toArray⟩, .string ⟨l1.toArray⟩] V (RetV V (.int .i64 F))) ∧
    ((F ≠ 0 ∧ T1 = ⟨#[]⟩ ∧ T2 = ⟨#[]⟩ ∧ E1 = F ∧ E2 = F) ∨
      (F = 0 ∧ Hid (∀ V : World, Good V → Calls Tryz.prog 32 #[.string ⟨l0.toArray⟩, .string ⟨l1.toArray⟩] V (RetV V (.string RM))) ∧
        Hid (∀ V : World, Good V → Calls Tryz.prog 29 #[.string T1, .int .i64 E1, .string RM] V (RetV V (.bool true))) ∧
        (((((⟨l1.toArray⟩ : ByteArray).toList == [48]) = true) ∧ T2 = ⟨#[]⟩ ∧ E2 = 2) ∨
          ((((⟨l1.toArray⟩ : ByteArray).toList == [48]) = false) ∧ Hid (∀ V : World, Good V → Calls Tryz.prog 33 #[.string ⟨l0.toArray⟩, .string ⟨l1.toArray⟩] V (RetV V (.string RD))) ∧
            Hid (∀ V : World, Good V → Calls Tryz.prog 29 #[.string T2, .int .i64 E2, .string RD] V (RetV V (.bool true))))))) := by
  refine ⟨⟨(opT (rval l0 * rval l1) l0 l1).toArray⟩, ⟨(divT l0 l1).toArray⟩, rt (rval l0 * rval l1), rt (rval l0 / rval l1), opE (rval l0 * rval l1) l0 l1, divE l0 l1, failE l0 l1,
    Lib.hid (fun V hV => rmul_any (by omega) (by omega) hV), Lib.hid (fun V hV => rdiv_any (by omega) (by omega) hV), Lib.hid (fun V hV => failed_any l0 l1 (by omega) (by omega) hV), ?_⟩
  have hv := div_val l0 l1
  by_cases hF : failE l0 l1 = 0
  · obtain ⟨g0, g1⟩ := pair_good hF
    have f0 := rerr_fits g0
    have f1 := rerr_fits g1
    have m0 : Mid (rval l0) := fits_up f0 (by omega)
    have m1 : Mid (rval l1) := fits_up f1 (by omega)
    have fs : fitsD 40000 (rval l0 * rval l1) := fits_up (fits_mul f0 f1) (by omega)
    rw [if_pos g0, if_pos g1] at hv
    refine .inr ⟨hF, Lib.hid (fun V hV => ?_), Lib.hid (fun V hV => ltold_any fs (op_tell _ hF)), ?_⟩
    · rw [canon_rt g0, canon_rt g1]; exact D4.mul_rt m0 m1 hV
    · rw [canon_rt g1]
      by_cases hz : rval l1 = 0
      · rw [if_pos (by rw [hz]; rfl)] at hv
        refine .inl ⟨by rw [rt_zero_iff, hz]; rfl, ?_, ?_⟩
        · simp at hv; simp [← hv.1]
        · simp at hv; exact hv.2.symm
      · have hn : (rval l1).num ≠ 0 := fun h => hz (by rwa [Rat.num_eq_zero] at h)
        rw [if_neg hn] at hv
        have fd : fitsD 40000 (rval l0 / rval l1) := by
          have e : rval l0 / rval l1 = rval l0 * (1 / rval l1) := by rw [Rat.div_def, Rat.div_def, Rat.one_mul]
          rw [e]; exact fits_up (fits_mul f0 (inv_fits f1 hn)) (by omega)
        refine .inr ⟨by rw [rt_zero_iff]; exact decide_eq_false hz, Lib.hid (fun V hV => ?_), Lib.hid (fun V hV => ltold_any fd hv.symm)⟩
        rw [canon_rt g0]; exact div2_rt m0 m1 hz hV
  · have hb := pair_bad (rval l0 * rval l1) hF
    refine .inl ⟨hF, by rw [hb.2], ?_, hb.1, ?_⟩
    · unfold divT divE
      unfold failE at hF
      by_cases g0 : rerr l0 = 0
      · rw [if_pos g0] at hF; rw [if_pos g0, if_neg hF, if_neg hF]
      · rw [if_neg g0, if_neg g0]
    · unfold divE failE
      unfold failE at hF
      by_cases g0 : rerr l0 = 0
      · rw [if_pos g0] at hF; rw [if_pos g0, if_neg hF, if_pos g0]
      · rw [if_neg g0, if_neg g0]

/-- A power of any text. -/
theorem pow_raw (l : List UInt8) (n : Int) (hl : l.length ≤ 600) : ∃ (T : ByteArray) (E R : Int),
    Hid (∀ V : World, Good V → Calls Tryz.prog 20 #[.string ⟨l.toArray⟩, .int .i64 n] V (RetV V (.tuple #[.string T, .int .i64 E]))) ∧
    Hid (∀ V : World, Good V → Calls Tryz.prog 35 #[.string ⟨l.toArray⟩] V (RetV V (.int .i64 R))) ∧ (R = 0 ∨ (R ≠ 0 ∧ T = ⟨#[]⟩ ∧ E = R)) := by
  refine ⟨powT l n, powE l n, rerr l, Lib.hid (fun V hV => pow_any l n (by omega) hV), Lib.hid (fun V hV => D4.check2_any l (by omega) hV), ?_⟩
  by_cases h : rerr l = 0
  · exact .inl h
  · have e : powE l n = rerr l := by unfold powE; rw [if_neg h]
    exact .inr ⟨h, by unfold powT; rw [e, if_neg h], e⟩

/-- The texts 0, 1 and -1. -/
def oneL (j : Nat) : List UInt8 := if j = 0 then [48] else if j = 1 then [49] else [45, 49]
def oneB (j : Nat) : ByteArray := ⟨(oneL j).toArray⟩
def oneR (j : Nat) : Rat := if j = 0 then 0 else if j = 1 then 1 else -1
def wantB (j : Nat) (n : Int) : Bool := (decide (n % 2 = 0) && decide (2 ≤ j)) || decide (n = 0)
def badB (j : Nat) (n : Int) : Bool := decide (n < -10000) || decide (10000 < n) || (decide (j = 0) && decide (n < 0))
theorem oneR_rt (j : Nat) : oneL j = ratText (oneR j) := by
  unfold oneL oneR
  by_cases h : j = 0
  · rw [if_pos h, if_pos h]; decide +kernel
  · rw [if_neg h, if_neg h]
    by_cases h : j = 1
    · rw [if_pos h, if_pos h]; decide +kernel
    · rw [if_neg h, if_neg h]; decide +kernel
theorem oneR_fits (j : Nat) : fitsD 2000 (oneR j) := by
  unfold oneR
  split
  · decide +kernel
  · split <;> decide +kernel
theorem one_pow_bad {j : Nat} {n : Int} (h : badB j n = true) : powT (oneL j) n = ⟨#[]⟩ ∧ powE (oneL j) n = 2 := by
  have e : powE (oneL j) n = 2 := by
    unfold powE
    rw [oneR_rt, rerr_fit (oneR_fits j), if_pos rfl, rval_ratText]
    rw [if_pos]
    unfold badB at h
    simp only [Bool.or_eq_true, Bool.and_eq_true, decide_eq_true_eq] at h
    rcases h with (h | h) | ⟨h, h2⟩
    · exact .inl h
    · exact .inr (.inl h)
    · refine .inr (.inr ⟨h2, ?_⟩); subst h; rfl
  exact ⟨by unfold powT; rw [e]; rfl, e⟩
theorem one_pow_good {j : Nat} {n : Int} (h : badB j n = false) : powT (oneL j) n = (if wantB j n then ⟨#[49]⟩ else oneB j) ∧ powE (oneL j) n = 0 := by
  unfold badB at h
  simp only [Bool.or_eq_false_iff, Bool.and_eq_false_imp, decide_eq_false_iff_not, decide_eq_true_eq] at h
  obtain ⟨⟨h1, h2⟩, h3⟩ := h
  have hz : zpow (oneR j) n = if wantB j n then 1 else oneR j := by
    by_cases hn : n = 0
    · subst hn
      rw [if_pos (by simp [wantB])]
      exact zpow_nat _ 0 |>.trans (Rat.pow_zero _)
    · have hx : oneR j = -1 ∨ oneR j = 0 ∨ oneR j = 1 := by
        unfold oneR; split
        · exact .inr (.inl rfl)
        · split
          · exact .inr (.inr rfl)
          · exact .inl rfl
      obtain ⟨m, hm⟩ : ∃ m : Nat, (m : Int) = 2 - n % 2 := ⟨(2 - n % 2).toNat, by omega⟩
      rw [zpow_small hx hn (by
        rintro ⟨a, b⟩
        unfold oneR at b
        by_cases hj : j = 0
        · exact h3 hj a
        · rw [if_neg hj] at b
          by_cases hj : j = 1
          · rw [if_pos hj] at b; exact absurd b (by decide)
          · rw [if_neg hj] at b; exact absurd b (by decide)) hm]
      have hm2 : (n % 2 = 0 ∧ m = 2) ∨ (n % 2 ≠ 0 ∧ m = 1) := by omega
      unfold oneR wantB
      rcases hm2 with ⟨hp, rfl⟩ | ⟨hp, rfl⟩
      · by_cases hj : j = 0
        · subst hj; simp [hn]; decide +kernel
        · rw [if_neg hj]
          by_cases hj : j = 1
          · subst hj; simp [hn]; decide +kernel
          · rw [if_neg hj, if_pos (by simp [hp]; omega)]; decide +kernel
      · have hw : ¬ (((decide (n % 2 = 0) && decide (2 ≤ j)) || decide (n = 0)) = true) := by simp [hp, hn]
        rw [Rat.pow_succ, Rat.pow_zero, Rat.one_mul, if_neg hw]
  have e : powE (oneL j) n = 0 := by
    unfold powE
    rw [oneR_rt, rerr_fit (oneR_fits j), if_pos rfl, rval_ratText, if_neg, if_pos]
    · rw [hz]; split
      · decide +kernel
      · exact oneR_fits j
    · rintro (h | h | ⟨h, hb⟩)
      · exact h1 h
      · exact h2 h
      · refine h3 ?_ h
        unfold oneR at hb
        by_cases hj : j = 0
        · exact hj
        · rw [if_neg hj] at hb
          by_cases hj : j = 1
          · rw [if_pos hj] at hb; exact absurd hb (by decide)
          · rw [if_neg hj] at hb; exact absurd hb (by decide)
  refine ⟨?_, e⟩
  unfold powT
  rw [e, if_pos rfl, oneR_rt, rval_ratText, hz]
  split
  · decide +kernel
  · unfold oneB; rw [oneR_rt]; rfl

theorem one_pow {w : World} (j : Nat) (n : Int) (hg : Good w) : Calls Tryz.prog 20 #[.string (oneB j), .int .i64 n] w (RetV w (.tuple #[.string (powT (oneL j) n), .int .i64 (powE (oneL j) n)])) := by
  have hl : (oneL j).length ≤ 2 := by
    unfold oneL
    by_cases h : j = 0
    · rw [if_pos h]; simp
    · rw [if_neg h]
      by_cases h : j = 1
      · rw [if_pos h]; simp
      · rw [if_neg h]; simp
  exact pow_any (oneL j) n (by omega) hg

theorem pow_tell {y : Rat} {i : Int} (hy : fitsD 20 y) (h0 : y ≠ 0) (i0 : -30 < i) (i1 : i < 30) : (.tuple #[.string (powT (ratText y) i), .int .i64 (powE (ratText y) i)] : Value) = tellV (zpow y i) := by
  have e : powE (ratText y) i = if fitsD 2000 (zpow y i) then 0 else 6 := by
    unfold powE
    rw [rerr_fit (fits_up hy (by omega)), if_pos rfl, rval_ratText, if_neg]
    rintro (h | h | ⟨h, h2⟩)
    · omega
    · omega
    · exact h0 (by rwa [Rat.num_eq_zero] at h2)
  unfold tellV powT
  rw [e, rval_ratText]
  by_cases h : fitsD 2000 (zpow y i)
  · rw [if_pos h, if_pos h, if_pos rfl]; rfl
  · rw [if_neg h, if_neg h, if_neg (by decide)]

/-- Small powers, not negative. -/
theorem pow_up {y : Rat} (hy : fitsD 20 y) (h0 : y ≠ 0) (m : Nat) (hm : m < 30) : ∃ (T R : ByteArray) (E : Int),
    Hid (∀ V : World, Good V → Calls Tryz.prog 20 #[.string (rt y), .int .i64 (m : Int)] V (RetV V (.tuple #[.string T, .int .i64 E]))) ∧
    Hid (∀ V : World, Good V → Calls Tryz.prog 38 #[.string (rt y), .int .i64 (m : Int)] V (RetV V (.string R))) ∧
    Hid (∀ V : World, Good V → Calls Tryz.prog 29 #[.string T, .int .i64 E, .string R] V (RetV V (.bool true))) := by
  have hp : ∀ i, i ≤ m → Mid (y ^ i) := fun i hi => fits_up (fits_pow hy i) (by omega)
  have ht := pow_tell (i := (m : Int)) hy h0 (by omega) (by omega)
  rw [zpow_nat] at ht
  exact ⟨_, rt (y ^ m), _, Lib.hid (fun V hV => pow_any (ratText y) m (text_len (fits_up hy (by omega))) hV), Lib.hid (fun V hV => D4.pow_rt m (by omega) (fits_up hy (by omega)) hp hV), Lib.hid (fun V hV => ltold_any ((hp m (Nat.le_refl _)).big) ht)⟩
/-- Small powers, negative. -/
theorem pow_down {y : Rat} (hy : fitsD 20 y) (h0 : y ≠ 0) (m : Nat) (hm0 : 0 < m) (hm : m < 30) : ∃ (T P R : ByteArray) (E : Int),
    Hid (∀ V : World, Good V → Calls Tryz.prog 20 #[.string (rt y), .int .i64 (-(m : Int))] V (RetV V (.tuple #[.string T, .int .i64 E]))) ∧
    Hid (∀ V : World, Good V → Calls Tryz.prog 38 #[.string (rt y), .int .i64 (m : Int)] V (RetV V (.string P))) ∧
    Hid (∀ V : World, Good V → Calls Tryz.prog 33 #[.string ⟨#[49]⟩, .string P] V (RetV V (.string R))) ∧
    Hid (∀ V : World, Good V → Calls Tryz.prog 29 #[.string T, .int .i64 E, .string R] V (RetV V (.bool true))) := by
  have hp : ∀ i, i ≤ m → Mid (y ^ i) := fun i hi => fits_up (fits_pow hy i) (by omega)
  have ht := pow_tell (i := -(m : Int)) hy h0 (by omega) (by omega)
  rw [zpow_neg y m hm0] at ht
  have hne := rpow_ne h0 m
  have e1 : (⟨#[49]⟩ : ByteArray) = rt 1 := by decide +kernel
  have hn : (y ^ m).num ≠ 0 := fun h => hne (by rwa [Rat.num_eq_zero] at h)
  exact ⟨_, rt (y ^ m), rt (1 / y ^ m), _, Lib.hid (fun V hV => pow_any (ratText y) _ (text_len (fits_up hy (by omega))) hV), Lib.hid (fun V hV => D4.pow_rt m (by omega) (fits_up hy (by omega)) hp hV), Lib.hid (fun V hV => by rw [e1]; exact div2_rt (fits_up one_fits (by omega)) (hp m (Nat.le_refl _)) hne hV), Lib.hid (fun V hV => ltold_any (fits_up (inv_fits (hp m (Nat.le_refl _)) hn) (by omega)) ht)⟩
/-- The small powers of the law. -/
theorem small_pows {y : Rat} (hy : fitsD 20 y) (h0 : y ≠ 0) {i : Int} (i0 : -30 < i) (i1 : i < 30) :
    (∃ m : Nat, i = (m : Int) ∧ m < 30 ∧ ∃ (T R : ByteArray) (E : Int),
      Hid (∀ V : World, Good V → Calls Tryz.prog 20 #[.string (rt y), .int .i64 (m : Int)] V (RetV V (.tuple #[.string T, .int .i64 E]))) ∧
      Hid (∀ V : World, Good V → Calls Tryz.prog 38 #[.string (rt y), .int .i64 (m : Int)] V (RetV V (.string R))) ∧
      Hid (∀ V : World, Good V → Calls Tryz.prog 29 #[.string T, .int .i64 E, .string R] V (RetV V (.bool true)))) ∨
    (∃ m : Nat, i = -(m : Int) ∧ 0 < m ∧ m < 30 ∧ ∃ (T P R : ByteArray) (E : Int),
      Hid (∀ V : World, Good V → Calls Tryz.prog 20 #[.string (rt y), .int .i64 (-(m : Int))] V (RetV V (.tuple #[.string T, .int .i64 E]))) ∧
      Hid (∀ V : World, Good V → Calls Tryz.prog 38 #[.string (rt y), .int .i64 (m : Int)] V (RetV V (.string P))) ∧
      Hid (∀ V : World, Good V → Calls Tryz.prog 33 #[.string ⟨#[49]⟩, .string P] V (RetV V (.string R))) ∧
      Hid (∀ V : World, Good V → Calls Tryz.prog 29 #[.string T, .int .i64 E, .string R] V (RetV V (.bool true)))) := by
  by_cases h : 0 ≤ i
  · obtain ⟨m, rfl⟩ := Int.eq_ofNat_of_zero_le h
    exact .inl ⟨m, rfl, by omega, pow_up hy h0 m (by omega)⟩
  · obtain ⟨m, hm⟩ := Int.eq_ofNat_of_zero_le (show 0 ≤ -i by omega)
    exact .inr ⟨m, by omega, by omega, by omega, pow_down hy h0 m (by omega) (by omega)⟩
end Go.Proofs.YtabdnjakmhnnfaaGreatDoor
