/- The bounds of Low and High over numbers: what the search finds. -/
import Derived.Test.YtmhneibcbjgedaaGreatDoorTGrows
set_option linter.unusedSimpArgs false
set_option linter.unusedVariables false
namespace Go.Proofs.YtmhneibcbjgedaaGreatDoor
open Go.RowKit
open Go.Lib (decDigits itoa nDigits)
open D4 (rt it)

/-- The search finds the last one, if those that hold stand ahead of the others. -/
theorem lastF_is (h : Nat → Bool) (N : Nat) (hm : ∀ i j, i ≤ j → j ≤ N → h j = true → h i = true) : ∀ (f lo hi : Nat), hi ≤ N → lo ≤ hi → hi - lo ≤ f → h lo = true →
    h (lastF h f lo hi) = true ∧ lo ≤ lastF h f lo hi ∧ lastF h f lo hi ≤ hi ∧ ∀ i, lastF h f lo hi < i → i ≤ hi → h i = false
  | 0, lo, hi, hN, h1, h2, h3 => by
    have e : lastF h 0 lo hi = lo := lastF_end h 0 lo hi (by omega)
    rw [e]
    exact ⟨h3, Nat.le_refl _, h1, fun i a b => by omega⟩
  | f + 1, lo, hi, hN, h1, h2, h3 => by
    by_cases hlt : lo < hi
    · unfold lastF
      rw [if_pos hlt]
      by_cases hx : h ((lo + hi + 1) / 2) = true
      · have r := lastF_is h N hm f ((lo + hi + 1) / 2) hi hN (by omega) (by omega) hx
        simp only [hx, if_true]
        exact ⟨r.1, by have := r.2.1; omega, r.2.2.1, r.2.2.2⟩
      · have hx' : h ((lo + hi + 1) / 2) = false := by simpa using hx
        have r := lastF_is h N hm f lo ((lo + hi + 1) / 2 - 1) (by omega) (by omega) (by omega) h3
        simp only [hx', Bool.false_eq_true, if_false]
        refine ⟨r.1, r.2.1, by have := r.2.2.1; omega, fun i a b => ?_⟩
        rcases Nat.lt_or_ge i ((lo + hi + 1) / 2) with c | c
        · exact r.2.2.2 i a (by omega)
        · cases hi2 : h i
          · rfl
          · have := hm _ _ c (by omega) hi2; rw [hx'] at this; cases this
    · rw [lastF_end h (f + 1) lo hi hlt]
      exact ⟨h3, Nat.le_refl _, h1, fun i a b => by omega⟩

theorem within_U {n k g i : Nat} {x : Rat} (hk : k ≤ n + 1) : within n k g x i = decide (U n k (Rat.divInt i g) ≤ x) := by
  unfold within
  rw [UV_U n k _ hk]
  congr 1
  exact propext rcmp_le
theorem grid_le {i j g : Nat} (h : i ≤ j) (hj : j ≤ g) (hg : 0 < g) : 0 ≤ Rat.divInt i g ∧ Rat.divInt i g ≤ Rat.divInt j g ∧ Rat.divInt j g ≤ 1 := by
  have a := divInt_le (a := (i : Int)) (b := (g : Int)) (by omega) (by omega)
  have b := divInt_le (a := (j : Int)) (b := (g : Int)) (by omega) (by omega)
  refine ⟨a.1, ?_, b.2.1 (by omega)⟩
  rw [divInt_div, divInt_div]
  have hg' : (0 : Rat) < ((g : Int) : Rat) := by exact_mod_cast (show (0 : Int) < (g : Int) by omega)
  have h' : ((i : Int) : Rat) ≤ ((j : Int) : Rat) := by exact_mod_cast (show (i : Int) ≤ (j : Int) by omega)
  rw [← Rat.not_lt, Rat.div_lt_iff hg', Rat.div_mul_cancel (fun e => by rw [e] at hg'; exact absurd hg' (by decide)), Rat.not_lt]
  exact h'

/-- What Low finds. -/
theorem last_spec {n k g : Nat} {x : Rat} (hg : 0 < g) (hk0 : 0 < k) (hk : k ≤ n + 1) (x0 : 0 ≤ x) :
    ∃ L, L = lastF (within n k g x) g 0 g ∧ L ≤ g ∧ U n k (Rat.divInt L g) ≤ x ∧ ∀ i, L < i → i ≤ g → x < U n k (Rat.divInt i g) := by
  have hm : ∀ i j, i ≤ j → j ≤ g → within n k g x j = true → within n k g x i = true := by
    intro i j hij hj h
    rw [within_U hk, decide_eq_true_eq] at h ⊢
    obtain ⟨a, b, c⟩ := grid_le hij hj hg
    exact Rat.le_trans (U_grow n k _ _ a b c) h
  have h0 : within n k g x 0 = true := by
    rw [within_U hk, decide_eq_true_eq]
    have e : Rat.divInt ((0 : Nat) : Int) g = 0 := by simp
    rw [e]
    have hz : U n k 0 = 0 := by
      have hu : ∀ n k, 0 < k → U n k 0 = 0 := by
        intro n
        induction n with
        | zero => intro k hk; cases k with
          | zero => omega
          | succ k => rfl
        | succ n ih => intro k hk; cases k with
          | zero => omega
          | succ k =>
            show 0 * U n k 0 + (1 - 0) * U n (k + 1) 0 = 0
            rw [ih (k + 1) (by omega)]
            grind
      exact hu n k hk0
    rw [hz]; exact x0
  obtain ⟨a, b, c, d⟩ := lastF_is (within n k g x) g hm g 0 g (Nat.le_refl _) (by omega) (by omega) h0
  refine ⟨_, rfl, c, ?_, fun i h1 h2 => ?_⟩
  · rw [within_U hk, decide_eq_true_eq] at a; exact a
  · have := d i h1 h2
    rw [within_U hk, decide_eq_false_iff_not, Rat.not_le] at this
    exact this

def lowV (n k g : Nat) (x : Rat) : Rat := if k = 0 then 0 else Rat.divInt (lastF (within n k g x) g 0 g : Nat) g
def highV (n k g : Nat) (x : Rat) : Rat := if k = n then 1 else Rat.divInt ((g : Int) - (lastF (within n (n - k) g x) g 0 g : Nat)) g
theorem lowT_rt (n k g : Nat) (x : Rat) : (⟨(lowT n k g x).toArray⟩ : ByteArray) = rt (lowV n k g x) := by
  unfold lowT lowV
  by_cases h : k = 0
  · rw [if_pos h, if_pos h, rt_zero]
  · rw [if_neg h, if_neg h]; rfl
theorem highT_rt (n k g : Nat) (x : Rat) : (⟨(highT n k g x).toArray⟩ : ByteArray) = rt (highV n k g x) := by
  unfold highT highV
  by_cases h : k = n
  · rw [if_pos h, if_pos h, rt_one1]
  · rw [if_neg h, if_neg h]; rfl
theorem chErr_in {x : Rat} (h0 : 0 < x) (h1 : x < 1) (hf : fitsD 4 x) : chErr false (ratText x) = 0 := by
  have hb : fitsD 2000 x := fit_le hf (by omega)
  have hs : rshort (ratText x) = true := by
    unfold rshort
    rw [rerr_fit hb, rval_ratText]
    have a := hf.1
    have b := hf.2
    simp
    omega
  have a : 0 < x.num := by
    have z1 : 0 ≤ x.num := Rat.num_nonneg.2 (Rat.le_of_lt h0)
    rcases Int.lt_or_eq_of_le z1 with z2 | z2
    · exact z2
    · exfalso
      have z3 : x = 0 := Rat.num_eq_zero.1 z2.symm
      rw [z3] at h0
      exact absurd h0 (by decide)
  have hsg : x.num.sign = 1 := Int.sign_eq_one_of_pos a
  have hc : rcmp x 1 < 0 := rcmp_neg.2 h1
  unfold chErr
  rw [rerr_fit hb, if_pos rfl, hs, rval_ratText, hsg]
  unfold noChance
  have c1 : ¬ 0 < rcmp x 1 := by omega
  have c2 : ¬ rcmp x 1 = 0 := by omega
  simp [c1, c2]
theorem low_rt {w : World} {n k g : Nat} {x : Rat} (h0 : 0 < x) (h1 : x < 1) (hf : fitsD 4 x) (hn : n ≤ 200) (hk : k ≤ n) (g0 : 1 ≤ g) (g1 : g ≤ 1000) (hg : Good w) : Calls Tryz.prog 15 #[.int .i64 n, .int .i64 k, .string (rt x), .int .i64 g] w (RetV w (.tuple #[.string (rt (lowV n k g x)), .int .i64 0])) := by
  have h := low_any (w := w) n k (ratText x) g (by omega) (by omega) (text_len (fit_le hf (by omega))) hg
  have e : errB n k (ratText x) g = 0 := by unfold errB cnt gridErr; rw [if_pos (by omega), chErr_in h0 h1 hf, if_pos rfl, if_pos (by omega)]
  rw [e, if_pos rfl, rval_ratText, Int.toNat_natCast, Int.toNat_natCast, Int.toNat_natCast, lowT_rt] at h
  exact h
theorem high_rt {w : World} {n k g : Nat} {x : Rat} (h0 : 0 < x) (h1 : x < 1) (hf : fitsD 4 x) (hn : n ≤ 200) (hk : k ≤ n) (g0 : 1 ≤ g) (g1 : g ≤ 1000) (hg : Good w) : Calls Tryz.prog 16 #[.int .i64 n, .int .i64 k, .string (rt x), .int .i64 g] w (RetV w (.tuple #[.string (rt (highV n k g x)), .int .i64 0])) := by
  have h := high_any (w := w) n k (ratText x) g (by omega) (by omega) (text_len (fit_le hf (by omega))) hg
  have e : errB n k (ratText x) g = 0 := by unfold errB cnt gridErr; rw [if_pos (by omega), chErr_in h0 h1 hf, if_pos rfl, if_pos (by omega)]
  rw [e, if_pos rfl, rval_ratText, Int.toNat_natCast, Int.toNat_natCast, Int.toNat_natCast, highT_rt] at h
  exact h
end Go.Proofs.YtmhneibcbjgedaaGreatDoor
