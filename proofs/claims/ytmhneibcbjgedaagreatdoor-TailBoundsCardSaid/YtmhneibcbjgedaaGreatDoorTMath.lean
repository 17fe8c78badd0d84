/- Numbers of choices and tails: the plain mathematics, and that the program's sums are these. -/
import Derived.Test.YtmhneibcbjgedaaGreatDoorTLow
set_option linter.unusedSimpArgs false
set_option linter.unusedVariables false
namespace Go.Proofs.YtmhneibcbjgedaaGreatDoor
open Go.RowKit
open Go.Lib (decDigits itoa nDigits)

/-- The number of choices. -/
def bin : Nat → Nat → Nat
  | _, 0 => 1
  | 0, _ + 1 => 0
  | n + 1, k + 1 => bin n k + bin n (k + 1)

theorem bin_zero (n : Nat) : bin n 0 = 1 := by cases n <;> rfl
theorem bin_gt : ∀ (n k : Nat), n < k → bin n k = 0
  | _, 0, h => absurd h (by omega)
  | 0, _ + 1, _ => rfl
  | n + 1, k + 1, h => by
    show bin n k + bin n (k + 1) = 0
    rw [bin_gt n k (by omega), bin_gt n (k + 1) (by omega)]
theorem bin_self (n : Nat) : bin n n = 1 := by
  induction n with
  | zero => rfl
  | succ n ih => show bin n n + bin n (n + 1) = 1; rw [ih, bin_gt n (n + 1) (by omega)]
theorem bin_abs : ∀ (n k : Nat), bin (n + 1) (k + 1) * (k + 1) = bin n k * (n + 1)
  | 0, 0 => rfl
  | 0, k + 1 => by
    show (bin 0 (k + 1) + bin 0 (k + 2)) * (k + 2) = bin 0 (k + 1) * 1
    simp [bin]
  | n + 1, 0 => by
    have h := bin_abs n 0
    show (bin (n + 1) 0 + bin (n + 1) 1) * 1 = bin (n + 1) 0 * (n + 2)
    have e : bin (n + 1) (0 + 1) = bin n 0 + bin n (0 + 1) := rfl
    have e2 : bin (n + 1) 1 = bin n 0 + bin n (0 + 1) := rfl
    rw [e] at h
    rw [e2]
    simp only [bin_zero, Nat.mul_one, Nat.one_mul, Nat.zero_add] at h ⊢
    omega
  | n + 1, k + 1 => by
    have h1 := bin_abs n (k + 1)
    have h2 := bin_abs n k
    show (bin (n + 1) (k + 1) + bin (n + 1) (k + 2)) * (k + 2) = bin (n + 1) (k + 1) * (n + 2)
    have e : bin (n + 1) (k + 1) = bin n k + bin n (k + 1) := rfl
    rw [Nat.add_mul, h1]
    have e2 : bin (n + 1) (k + 1) * (k + 2) = bin (n + 1) (k + 1) * (k + 1) + bin (n + 1) (k + 1) := by rw [Nat.mul_succ]
    rw [e2, h2]
    have e3 : bin (n + 1) (k + 1) * (n + 2) = bin (n + 1) (k + 1) * (n + 1) + bin (n + 1) (k + 1) := by rw [Nat.mul_succ]
    rw [e3, e, Nat.add_mul]
    omega
theorem bin_step (n k : Nat) (h : k ≤ n) : bin n (k + 1) * (k + 1) = bin n k * (n - k) := by
  have h1 := bin_abs n k
  have e : bin (n + 1) (k + 1) = bin n k + bin n (k + 1) := rfl
  rw [e, Nat.add_mul] at h1
  have e2 : bin n k * (n + 1) = bin n k * (k + 1) + bin n k * (n - k) := by rw [← Nat.mul_add]; congr 1; omega
  omega
theorem bin_sym : ∀ (n k : Nat), k ≤ n → bin n k = bin n (n - k)
  | n, 0, _ => by rw [bin_zero, Nat.sub_zero, bin_self]
  | 0, k + 1, h => absurd h (by omega)
  | n + 1, k + 1, h => by
    rcases Nat.lt_or_ge k n with h1 | h1
    · have e : n + 1 - (k + 1) = (n - k - 1) + 1 := by omega
      rw [e]
      show bin n k + bin n (k + 1) = bin n (n - k - 1) + bin n (n - k - 1 + 1)
      rw [bin_sym n k (by omega), bin_sym n (k + 1) (by omega)]
      have e1 : n - (k + 1) = n - k - 1 := by omega
      have e2 : n - k - 1 + 1 = n - k := by omega
      rw [e1, e2]
      omega
    · have e : k = n := by omega
      subst e
      rw [bin_self, Nat.sub_self, bin_zero]

/-- The mass of i. -/
def ms (n i : Nat) (x : Rat) : Rat := (bin n i : Rat) * x ^ i * (1 - x) ^ (n - i)
/-- The upper tail by its recursion. -/
def U : Nat → Nat → Rat → Rat
  | _, 0, _ => 1
  | 0, _ + 1, _ => 0
  | n + 1, k + 1, x => x * U n k x + (1 - x) * U n (k + 1) x
theorem U_gt (x : Rat) : ∀ (n k : Nat), n < k → U n k x = 0
  | _, 0, h => absurd h (by omega)
  | 0, _ + 1, _ => rfl
  | n + 1, k + 1, h => by
    show x * U n k x + (1 - x) * U n (k + 1) x = 0
    rw [U_gt x n k (by omega), U_gt x n (k + 1) (by omega)]
    grind
theorem ms_rec (n i : Nat) (x : Rat) (h : i < n) : ms (n + 1) (i + 1) x = x * ms n i x + (1 - x) * ms n (i + 1) x := by
  unfold ms
  have e : n + 1 - (i + 1) = (n - (i + 1)) + 1 := by omega
  have e2 : n - i = (n - (i + 1)) + 1 := by omega
  have e3 : ((bin (n + 1) (i + 1) : Nat) : Rat) = (bin n i : Rat) + (bin n (i + 1) : Rat) := by
    show ((bin n i + bin n (i + 1) : Nat) : Rat) = _
    push_cast
    rfl
  rw [e, e2, e3]
  grind
theorem ms_top (n : Nat) (x : Rat) : ms (n + 1) (n + 1) x = x * ms n n x := by
  unfold ms
  rw [bin_self, bin_self]
  simp
  grind
/-- Each upper tail is the mass and the next one. -/
theorem U_mass (x : Rat) : ∀ (n k : Nat), k ≤ n → U n k x = ms n k x + U n (k + 1) x
  | 0, 0, _ => by
    show (1 : Rat) = ms 0 0 x + 0
    simp [ms, bin]
    grind
  | n + 1, 0, _ => by
    have h := U_mass x n 0 (by omega)
    show (1 : Rat) = ms (n + 1) 0 x + (x * U n 0 x + (1 - x) * U n 1 x)
    have e : ms (n + 1) 0 x = (1 - x) * ms n 0 x := by
      unfold ms; rw [bin_zero, bin_zero]; simp; grind
    have e1 : U n 0 x = 1 := by cases n <;> rfl
    rw [e, e1]
    rw [e1] at h
    grind
  | 0, k + 1, h => absurd h (by omega)
  | n + 1, k + 1, h => by
    show x * U n k x + (1 - x) * U n (k + 1) x = ms (n + 1) (k + 1) x + (x * U n (k + 1) x + (1 - x) * U n (k + 1 + 1) x)
    rcases Nat.lt_or_ge k n with h1 | h1
    · rw [ms_rec n k x h1, U_mass x n k (by omega), U_mass x n (k + 1) (by omega)]
      grind
    · have e : k = n := by omega
      subst e
      rw [ms_top, U_mass x k k (by omega), U_gt x k (k + 1) (by omega), U_gt x k (k + 1 + 1) (by omega)]
      grind
theorem ms_nonneg (n i : Nat) (x : Rat) (h0 : 0 ≤ x) (h1 : x ≤ 1) : 0 ≤ ms n i x := by
  unfold ms
  have a : (0 : Rat) ≤ (bin n i : Rat) := by exact_mod_cast Nat.zero_le _
  have b : (0 : Rat) ≤ x ^ i := Rat.pow_nonneg h0
  have c : (0 : Rat) ≤ (1 - x) ^ (n - i) := Rat.pow_nonneg (by grind)
  exact Rat.mul_nonneg (Rat.mul_nonneg a b) c

/-- U lies between, falls in k, and grows in x. -/
theorem U_fall (n k : Nat) (x : Rat) (h0 : 0 ≤ x) (h1 : x ≤ 1) : U n (k + 1) x ≤ U n k x := by
  rcases Nat.lt_or_ge n k with h | h
  · rw [U_gt x n k h, U_gt x n (k + 1) (by omega)]; exact Rat.le_refl
  · rw [U_mass x n k h]
    have := ms_nonneg n k x h0 h1
    grind
theorem U_grow : ∀ (n k : Nat) (x y : Rat), 0 ≤ x → x ≤ y → y ≤ 1 → U n k x ≤ U n k y
  | n, 0, x, y, _, _, _ => by
    have e : ∀ z, U n 0 z = 1 := fun z => by cases n <;> rfl
    rw [e, e]; exact Rat.le_refl
  | 0, k + 1, x, y, _, _, _ => Rat.le_refl
  | n + 1, k + 1, x, y, h0, h1, h2 => by
    show x * U n k x + (1 - x) * U n (k + 1) x ≤ y * U n k y + (1 - y) * U n (k + 1) y
    have a := U_grow n k x y h0 h1 h2
    have b := U_grow n (k + 1) x y h0 h1 h2
    have c := U_fall n k x h0 (Rat.le_trans h1 h2)
    have a' : 0 ≤ y * (U n k y - U n k x) := Rat.mul_nonneg (Rat.le_trans h0 h1) (by grind)
    have b' : 0 ≤ (1 - y) * (U n (k + 1) y - U n (k + 1) x) := Rat.mul_nonneg (by grind) (by grind)
    have c' : 0 ≤ (y - x) * (U n k x - U n (k + 1) x) := Rat.mul_nonneg (by grind) (by grind)
    grind
/-- One trial more. -/
theorem U_more (n k : Nat) (x : Rat) (h : k ≤ n) : U (n + 1) (k + 1) x = U n (k + 1) x + ms n k x * x := by
  show x * U n k x + (1 - x) * U n (k + 1) x = _
  rw [U_mass x n k h]
  grind
theorem ms_turn (n i : Nat) (x : Rat) (h : i ≤ n) : ms n i x = ms n (n - i) (1 - x) := by
  unfold ms
  rw [bin_sym n i h]
  have e : n - (n - i) = i := by omega
  have e2 : (1 : Rat) - (1 - x) = x := by grind
  rw [e, e2]
  grind

theorem chz_bin (n : Nat) : ∀ i : Nat, i ≤ n → chz n i = bin n i
  | 0, _ => by rw [bin_zero]; rfl
  | i + 1, h => by
    unfold chz
    rw [chz_bin n i (by omega)]
    have h1 := bin_step n i (by omega)
    have e : ((bin n i : Int) * ((n : Int) - i)) = ((bin n (i + 1) * (i + 1) : Nat) : Int) := by
      rw [h1, Int.natCast_mul]; congr 1; omega
    rw [e, Int.natCast_mul]
    exact Int.mul_fdiv_cancel _ (by omega)

theorem rpow_add (x : Rat) (m : Nat) : ∀ n : Nat, x ^ (m + n) = x ^ m * x ^ n
  | 0 => by rw [Nat.add_zero, Rat.pow_zero]; grind
  | n + 1 => by
    rw [← Nat.add_assoc, Rat.pow_succ, Rat.pow_succ, rpow_add x m n]
    grind
theorem rmul_pow (x y : Rat) : ∀ n : Nat, (x * y) ^ n = x ^ n * y ^ n
  | 0 => by rw [Rat.pow_zero, Rat.pow_zero, Rat.pow_zero]; grind
  | n + 1 => by
    rw [Rat.pow_succ, Rat.pow_succ, Rat.pow_succ, rmul_pow x y n]
    grind
theorem rpow_ne {x : Rat} (h : x ≠ 0) : ∀ n : Nat, x ^ n ≠ 0
  | 0 => by rw [Rat.pow_zero]; decide
  | n + 1 => by
    have := rpow_ne h n
    rw [Rat.pow_succ]
    grind

theorem divInt_div (a b : Int) : Rat.divInt a b = (a : Rat) / (b : Rat) := Rat.divInt_eq_div a b

theorem massz_ms (n i : Nat) (x : Rat) (h : i ≤ n) : ((massz n x.num x.den i : Int) : Rat) / ((x.den : Rat) ^ n) = ms n i x := by
  have hd : (x.den : Rat) ≠ 0 := by exact_mod_cast x.den_nz
  unfold massz ms
  rw [chz_bin n i h]
  have e1 : x = (x.num : Rat) / (x.den : Rat) := by
    conv => lhs; rw [← Rat.num_divInt_den x]
    rw [divInt_div]; rfl
  have e2 : (x.den : Rat) ^ n = (x.den : Rat) ^ i * (x.den : Rat) ^ (n - i) := by rw [← rpow_add]; congr 1; omega
  have e3 : (1 - x) * (x.den : Rat) = (x.den : Rat) - (x.num : Rat) := by
    have : x * (x.den : Rat) = (x.num : Rat) := by
      conv => lhs; lhs; rw [e1]
      exact Rat.div_mul_cancel hd
    grind
  have e4 : x * (x.den : Rat) = (x.num : Rat) := by
    conv => lhs; lhs; rw [e1]
    exact Rat.div_mul_cancel hd
  push_cast
  rw [← e3, ← e4, rmul_pow, rmul_pow, e2]
  have p1 : (x.den : Rat) ^ i ≠ 0 := rpow_ne hd _
  have p2 : (x.den : Rat) ^ (n - i) ≠ 0 := rpow_ne hd _
  generalize (x.den : Rat) ^ i = u at *
  generalize (x.den : Rat) ^ (n - i) = v at *
  grind

theorem sumz_U (n k : Nat) (x : Rat) : ∀ j, k + j ≤ n + 1 → ((sumz (fun i => massz n x.num x.den (k + i)) j : Int) : Rat) / ((x.den : Rat) ^ n) = U n k x - U n (k + j) x
  | 0, _ => by
    show (((0 : Int)) : Rat) / _ = _
    rw [Nat.add_zero, Rat.div_def]
    grind
  | j + 1, h => by
    show (((sumz (fun i => massz n x.num x.den (k + i)) j + massz n x.num x.den (k + j) : Int)) : Rat) / _ = _
    have h1 := sumz_U n k x j (by omega)
    have h2 := massz_ms n (k + j) x (by omega)
    have h3 := U_mass x n (k + j) (by omega)
    rw [Rat.div_def] at h1 h2 ⊢
    rw [Rat.intCast_add]
    have e : k + (j + 1) = k + j + 1 := by omega
    rw [e]
    grind
theorem UV_U (n k : Nat) (x : Rat) (hk : k ≤ n + 1) : UV n k x = U n k x := by
  unfold UV
  rw [divInt_div]
  have h := sumz_U n k x (n + 1 - k) (by omega)
  have e : k + (n + 1 - k) = n + 1 := by omega
  rw [e, U_gt x n (n + 1) (by omega)] at h
  have e2 : (((x.den : Int) ^ n : Int) : Rat) = (x.den : Rat) ^ n := by push_cast; rfl
  rw [e2, h]
  grind

end Go.Proofs.YtmhneibcbjgedaaGreatDoor
