/- What bits decide: the plain laws of deciding. -/
import Derived.Test.YtfjjdjhnodcfhaaGreatDoorDList
set_option linter.unusedSimpArgs false
set_option linter.unusedVariables false
namespace Go.Proofs.YtfjjdjhnodcfhaaGreatDoor
open Go.RowKit

theorem firstR_some {h : Nat → Bool} : ∀ (n i j : Nat), firstR h n i = some j → i ≤ j ∧ j < i + n ∧ h j = true ∧ ∀ k, i ≤ k → k < j → h k = false
  | 0, _, _, e => by simp [firstR] at e
  | n + 1, i, j, e => by
    unfold firstR at e
    by_cases hi : h i = true
    · rw [if_pos hi] at e
      cases e
      exact ⟨Nat.le_refl _, by omega, hi, fun k h1 h2 => by omega⟩
    · rw [if_neg hi] at e
      obtain ⟨h1, h2, h3, h4⟩ := firstR_some n (i + 1) j e
      refine ⟨by omega, by omega, h3, fun k h5 h6 => ?_⟩
      by_cases hk : k = i
      · rw [hk]; simpa using hi
      · exact h4 k (by omega) h6
theorem firstR_none {h : Nat → Bool} : ∀ (n i : Nat), firstR h n i = none → ∀ k, i ≤ k → k < i + n → h k = false
  | 0, _, _, k, h1, h2 => by omega
  | n + 1, i, e, k, h1, h2 => by
    unfold firstR at e
    by_cases hi : h i = true
    · rw [if_pos hi] at e; cases e
    · rw [if_neg hi] at e
      by_cases hk : k = i
      · rw [hk]; simpa using hi
      · exact firstR_none n (i + 1) e k (by omega) (by omega)
theorem firstR_congr {h h' : Nat → Bool} : ∀ (n i : Nat), (∀ k, i ≤ k → k < i + n → h k = h' k) → firstR h n i = firstR h' n i
  | 0, _, _ => rfl
  | n + 1, i, e => by
    unfold firstR
    rw [e i (Nat.le_refl _) (by omega), firstR_congr n (i + 1) (fun k h1 h2 => e k (by omega) (by omega))]

theorem cum_le {ws : List Rat} {n : Nat} (h : Wok ws n) {i : Nat} : ∀ (m : Nat), i + m ≤ n → cum ws i ≤ cum ws (i + m)
  | 0, _ => Rat.le_refl
  | m + 1, hm => Rat.le_trans (cum_le h m (by omega)) (cum_mono h (i := i + m) (by omega))
theorem inOut_parts {ws : List Rat} {f t : Rat} {i : Nat} : inOut ws f t i = true ↔ cum ws i ≤ f ∧ t ≤ cum ws (i + 1) := by
  unfold inOut; simp
theorem inOut_one {ws : List Rat} {n : Nat} (h : Wok ws n) {f t : Rat} (hft : f < t) {i j : Nat} (hi : i < n) (hj : j < n) (h1 : inOut ws f t i = true) (h2 : inOut ws f t j = true) : i = j := by
  rw [inOut_parts] at h1 h2
  rcases Nat.lt_trichotomy i j with hlt | he | hlt
  · have := cum_le h (i := i + 1) (j - (i + 1)) (by omega)
    rw [show i + 1 + (j - (i + 1)) = j by omega] at this
    grind
  · exact he
  · have := cum_le h (i := j + 1) (i - (j + 1)) (by omega)
    rw [show j + 1 + (i - (j + 1)) = i by omega] at this
    grind
/-- The place of more bits lies within that of fewer. -/
theorem vf_in (s : Nat → Bool) (k : Nat) : ∀ m, vf s k ≤ vf s (k + m) ∧ vf s (k + m) + pw (k + m) ≤ vf s k + pw k
  | 0 => ⟨Rat.le_refl, Rat.le_refl⟩
  | m + 1 => by
    obtain ⟨h1, h2⟩ := vf_in s k m
    have h3 := pw_half (k + m)
    have h4 := pw_pos (k + m + 1)
    show vf s k ≤ vf s (k + m + 1) ∧ vf s (k + m + 1) + pw (k + m + 1) ≤ vf s k + pw k
    rw [show vf s (k + m + 1) = vf s (k + m) + (if s (k + m) then pw (k + m + 1) else 0) from rfl]
    split <;> constructor <;> grind
theorem vf_congr {s s' : Nat → Bool} : ∀ (k : Nat), (∀ j, j < k → s j = s' j) → vf s k = vf s' k
  | 0, _ => rfl
  | k + 1, h => by
    unfold vf
    rw [vf_congr k (fun j hj => h j (by omega)), h k (by omega)]
theorem decR_some {ws : List Rat} (h : Wok ws ws.length) {s : Nat → Bool} {k i : Nat} : decR ws s k = some i ↔ i < ws.length ∧ inOut ws (vf s k) (vf s k + pw k) i = true := by
  have hp := pw_pos k
  constructor
  · intro e
    obtain ⟨h1, h2, h3, h4⟩ := firstR_some _ _ _ e
    exact ⟨by omega, h3⟩
  · rintro ⟨h1, h2⟩
    cases e : decR ws s k with
    | none => have := firstR_none _ _ e i (by omega) (by omega); rw [h2] at this; cases this
    | some j =>
      obtain ⟨h3, h4, h5, h6⟩ := firstR_some _ _ _ e
      rw [inOut_one h (by grind) h1 (by omega) h2 h5]
theorem decR_congr {ws : List Rat} {s s' : Nat → Bool} {k : Nat} (h : ∀ j, j < k → s j = s' j) : decR ws s k = decR ws s' k := by
  unfold decR
  rw [vf_congr k h]
/-- What bits decide, more bits decide. -/
theorem decR_more {ws : List Rat} (h : Wok ws ws.length) {s : Nat → Bool} {k i : Nat} (m : Nat) (e : decR ws s k = some i) : decR ws s (k + m) = some i := by
  rw [decR_some h] at e ⊢
  obtain ⟨h1, h2⟩ := e
  rw [inOut_parts] at h2 ⊢
  obtain ⟨h3, h4⟩ := vf_in s k m
  exact ⟨h1, by grind, by grind⟩
theorem drawR_some {ws : List Rat} {s : Nat → Bool} {i m : Nat} : ∀ (n k : Nat), drawR ws s n k = some (i, m) → k ≤ m ∧ m ≤ k + n ∧ decR ws s m = some i ∧ ∀ j, k ≤ j → j < m → decR ws s j = none
  | 0, k, e => by
    unfold drawR at e
    cases hd : decR ws s k with
    | none => rw [hd] at e; cases e
    | some x => rw [hd] at e; cases e; exact ⟨Nat.le_refl _, by omega, hd, fun j h1 h2 => by omega⟩
  | n + 1, k, e => by
    unfold drawR at e
    cases hd : decR ws s k with
    | none =>
      rw [hd] at e
      obtain ⟨h1, h2, h3, h4⟩ := drawR_some n (k + 1) e
      refine ⟨by omega, by omega, h3, fun j h5 h6 => ?_⟩
      by_cases hj : j = k
      · rw [hj]; exact hd
      · exact h4 j (by omega) h6
    | some x => rw [hd] at e; cases e; exact ⟨Nat.le_refl _, by omega, hd, fun j h1 h2 => by omega⟩
theorem drawR_none {ws : List Rat} {s : Nat → Bool} : ∀ (n k : Nat), drawR ws s n k = none → ∀ j, k ≤ j → j ≤ k + n → decR ws s j = none
  | 0, k, e, j, h1, h2 => by
    unfold drawR at e
    cases hd : decR ws s k with
    | none => rw [show j = k by omega]; exact hd
    | some x => rw [hd] at e; cases e
  | n + 1, k, e, j, h1, h2 => by
    unfold drawR at e
    cases hd : decR ws s k with
    | none =>
      rw [hd] at e
      by_cases hj : j = k
      · rw [hj]; exact hd
      · exact drawR_none n (k + 1) e j (by omega) (by omega)
    | some x => rw [hd] at e; cases e
theorem drawR_is {ws : List Rat} {s : Nat → Bool} {i m : Nat} : ∀ (n k : Nat), k ≤ m → m ≤ k + n → decR ws s m = some i → (∀ j, k ≤ j → j < m → decR ws s j = none) → drawR ws s n k = some (i, m)
  | 0, k, h1, h2, h3, h4 => by
    obtain rfl : m = k := by omega
    unfold drawR; rw [h3]; rfl
  | n + 1, k, h1, h2, h3, h4 => by
    unfold drawR
    by_cases hk : k = m
    · rw [hk, h3]
    · rw [h4 k (Nat.le_refl _) (by omega)]
      exact drawR_is n (k + 1) (by omega) (by omega) h3 (fun j h5 h6 => h4 j (by omega) h6)
theorem drawR_no {ws : List Rat} {s : Nat → Bool} : ∀ (n k : Nat), (∀ j, k ≤ j → j ≤ k + n → decR ws s j = none) → drawR ws s n k = none
  | 0, k, h => by unfold drawR; rw [h k (Nat.le_refl _) (by omega)]; rfl
  | n + 1, k, h => by
    unfold drawR
    rw [h k (Nat.le_refl _) (by omega)]
    exact drawR_no n (k + 1) (fun j h1 h2 => h j (by omega) (by omega))
theorem drawR_congr {ws : List Rat} {s s' : Nat → Bool} : ∀ (n k : Nat), (∀ j, j < k + n → s j = s' j) → drawR ws s n k = drawR ws s' n k
  | 0, k, h => by unfold drawR; rw [decR_congr (k := k) (fun j hj => h j (by omega))]
  | n + 1, k, h => by
    unfold drawR
    rw [decR_congr (k := k) (fun j hj => h j (by omega)), drawR_congr n (k + 1) (fun j hj => h j (by omega))]
/-- All bits decide what some beginning decides. -/
theorem drawR_full {ws : List Rat} (h : Wok ws ws.length) {s : Nat → Bool} (n : Nat) : (drawR ws s n 0).map Prod.fst = decR ws s n := by
  cases e : drawR ws s n 0 with
  | none => rw [drawR_none n 0 e n (by omega) (by omega)]; rfl
  | some p =>
    obtain ⟨i, m⟩ := p
    obtain ⟨h1, h2, h3, h4⟩ := drawR_some n 0 e
    have := decR_more h (n - m) h3
    rw [show m + (n - m) = n by omega] at this
    rw [this]; rfl
/-- What is drawn has a weight. -/
theorem drawn_pos {ws : List Rat} (h : Wok ws ws.length) {s : Nat → Bool} {k i : Nat} (e : decR ws s k = some i) : 0 < ws.getD i 0 := by
  rw [decR_some h, inOut_parts] at e
  have hp := pw_pos k
  have hc : cum ws (i + 1) = cum ws i + ws.getD i 0 := rfl
  grind

/-! What Law and Left are near to. -/
theorem two_gt (n : Nat) : (0 : Rat) < ((2 ^ n : Nat) : Rat) := two_pos n
theorem div2_lt {x y : Rat} {n : Nat} : x / ((2 ^ n : Nat) : Rat) < y ↔ x < y * ((2 ^ n : Nat) : Rat) := Rat.div_lt_iff (two_gt n)
theorem lt_div2 {x y : Rat} {n : Nat} : x < y / ((2 ^ n : Nat) : Rat) ↔ x * ((2 ^ n : Nat) : Rat) < y := Rat.lt_div_iff (two_gt n)
theorem le_div2 {x y : Rat} {n : Nat} : x ≤ y / ((2 ^ n : Nat) : Rat) ↔ x * ((2 ^ n : Nat) : Rat) ≤ y := by rw [← Rat.not_lt, div2_lt, Rat.not_lt]
theorem div2_le {x y : Rat} {n : Nat} : x / ((2 ^ n : Nat) : Rat) ≤ y ↔ x ≤ y * ((2 ^ n : Nat) : Rat) := by rw [← Rat.not_lt, lt_div2, Rat.not_lt]
theorem fl_le (x : Rat) : (x.floor : Rat) ≤ x := Rat.floor_le x
theorem fl_lt (x : Rat) : x < (x.floor : Rat) + 1 := by have h := Rat.lt_floor_add_one x; push_cast at h; exact h
/-- The number of strings in a place, or less. -/
def cntR (f t : Rat) (n : Nat) : Int := (t * ((2 ^ n : Nat) : Rat)).floor - -((-(f * ((2 ^ n : Nat) : Rat))).floor)
theorem shareR_cnt (f t : Rat) (n : Nat) : shareR f t n = if cntR f t n < 0 then 0 else (cntR f t n : Rat) / ((2 ^ n : Nat) : Rat) := rfl
theorem shareR_nonneg (f t : Rat) (n : Nat) : 0 ≤ shareR f t n := by
  rw [shareR_cnt]
  split
  · exact Rat.le_refl
  · rename_i h
    rw [le_div2, Rat.zero_mul]
    have : (0 : Rat) ≤ ((cntR f t n : Int) : Rat) := by exact_mod_cast (by omega : 0 ≤ cntR f t n)
    exact this
theorem cast_sub (a b : Int) : ((a - b : Int) : Rat) = (a : Rat) - (b : Rat) := by push_cast; rfl
theorem cntR_cast (f t : Rat) (n : Nat) : (cntR f t n : Rat) = ((t * ((2 ^ n : Nat) : Rat)).floor : Rat) + ((-(f * ((2 ^ n : Nat) : Rat))).floor : Rat) := by
  unfold cntR
  rw [Int.sub_neg]; push_cast; rfl
theorem shareR_le {f t : Rat} (h : f ≤ t) (n : Nat) : shareR f t n ≤ t - f := by
  rw [shareR_cnt]
  split
  · grind
  · rw [div2_le, cntR_cast]
    have h1 := fl_le (t * ((2 ^ n : Nat) : Rat))
    have h2 := fl_le (-(f * ((2 ^ n : Nat) : Rat)))
    grind
theorem shareR_near {f t : Rat} (n : Nat) : t - f - shareR f t n < 2 / ((2 ^ n : Nat) : Rat) := by
  rw [lt_div2]
  have h1 := fl_lt (t * ((2 ^ n : Nat) : Rat))
  have h2 := fl_lt (-(f * ((2 ^ n : Nat) : Rat)))
  have h3 := cntR_cast f t n
  rw [shareR_cnt]
  split
  · rename_i h
    have h4 : (cntR f t n : Rat) < 0 := by exact_mod_cast h
    grind
  · have h4 : (cntR f t n : Rat) / ((2 ^ n : Nat) : Rat) * ((2 ^ n : Nat) : Rat) = (cntR f t n : Rat) := Rat.div_mul_cancel (two_ne n)
    generalize (cntR f t n : Rat) / ((2 ^ n : Nat) : Rat) = q at *
    grind
theorem fl_dbl (x : Rat) : 2 * (x.floor : Rat) ≤ ((2 * x).floor : Rat) := by
  have h : 2 * x.floor ≤ (2 * x).floor := by
    rw [Rat.le_floor_iff]
    have := fl_le x
    push_cast
    grind
  exact_mod_cast h
theorem shareR_mono (f t : Rat) (n : Nat) : shareR f t n ≤ shareR f t (n + 1) := by
  rw [shareR_cnt f t n]
  split
  · exact shareR_nonneg _ _ _
  · rename_i h
    have h1 := fl_dbl (t * ((2 ^ n : Nat) : Rat))
    have h2 := fl_dbl (-(f * ((2 ^ n : Nat) : Rat)))
    have h3 := cntR_cast f t n
    have h4 := cntR_cast f t (n + 1)
    have e1 : t * ((2 ^ (n + 1) : Nat) : Rat) = 2 * (t * ((2 ^ n : Nat) : Rat)) := by rw [two_succ]; grind
    have e2 : -(f * ((2 ^ (n + 1) : Nat) : Rat)) = 2 * (-(f * ((2 ^ n : Nat) : Rat))) := by rw [two_succ]; grind
    rw [e1, e2] at h4
    have h0 : (0 : Rat) ≤ (cntR f t n : Rat) := by exact_mod_cast (by omega : 0 ≤ cntR f t n)
    have h5 : 2 * (cntR f t n : Rat) ≤ (cntR f t (n + 1) : Rat) := by grind
    have h6 : ¬ cntR f t (n + 1) < 0 := by
      intro h7
      have h8 : (cntR f t (n + 1) : Rat) < 0 := by exact_mod_cast h7
      grind
    rw [shareR_cnt, if_neg h6, div2_le]
    have h9 : (cntR f t (n + 1) : Rat) / ((2 ^ (n + 1) : Nat) : Rat) * ((2 ^ (n + 1) : Nat) : Rat) = (cntR f t (n + 1) : Rat) := Rat.div_mul_cancel (two_ne (n + 1))
    rw [two_succ] at h9 ⊢
    generalize (cntR f t (n + 1) : Rat) / (2 * ((2 ^ n : Nat) : Rat)) = q at *
    grind
end Go.Proofs.YtfjjdjhnodcfhaaGreatDoor

/- All strings of some bits counted: the plain laws of Law and Left. -/
set_option linter.unusedSimpArgs false
set_option linter.unusedVariables false
namespace Go.Proofs.YtfjjdjhnodcfhaaGreatDoor
open Go.RowKit

theorem leftR_ge {ws : List Rat} (h : Wok ws ws.length) (n : Nat) : ∀ i, i ≤ ws.length → 1 - cum ws i ≤ leftR ws n i
  | 0, _ => by show (1 : Rat) - 0 ≤ 1; decide +kernel
  | i + 1, hi => by
    have h1 := leftR_ge h n i (by omega)
    have h2 := shareR_le (cum_mono h (i := i) (by omega)) n
    show (1 : Rat) - cum ws (i + 1) ≤ leftR ws n i - shareR (cum ws i) (cum ws (i + 1)) n
    grind
theorem shareR_ge (f t : Rat) (n : Nat) : (cntR f t n : Rat) ≤ shareR f t n * ((2 ^ n : Nat) : Rat) := by
  rw [shareR_cnt]
  split
  · rename_i h
    have : (cntR f t n : Rat) < 0 := by exact_mod_cast h
    grind
  · rw [Rat.div_mul_cancel (two_ne n)]; exact Rat.le_refl
theorem fl_neg (x : Rat) : (-1 : Rat) ≤ (x.floor : Rat) + ((-x).floor : Rat) := by
  have h1 := fl_lt x
  have h2 := fl_lt (-x)
  have h3 : (-2 : Int) < x.floor + (-x).floor := by
    have h4 : ((-2 : Int) : Rat) < ((x.floor + (-x).floor : Int) : Rat) := by push_cast; grind
    exact_mod_cast h4
  have h5 : (-1 : Int) ≤ x.floor + (-x).floor := by omega
  have h6 : ((-1 : Int) : Rat) ≤ ((x.floor + (-x).floor : Int) : Rat) := by exact_mod_cast h5
  push_cast at h6
  exact h6
theorem leftR_le (ws : List Rat) (n : Nat) : ∀ i, leftR ws n (i + 1) * ((2 ^ n : Nat) : Rat) ≤ ((2 ^ n : Nat) : Rat) - ((cum ws (i + 1) * ((2 ^ n : Nat) : Rat)).floor : Rat) + (i : Rat)
  | 0 => by
    have h1 := shareR_ge (cum ws 0) (cum ws 1) n
    rw [cntR_cast] at h1
    have e0 : ((-(cum ws 0 * ((2 ^ n : Nat) : Rat))).floor : Rat) = 0 := by
      rw [show cum ws 0 = 0 from rfl, Rat.zero_mul]; decide +kernel
    rw [e0] at h1
    show (1 - shareR (cum ws 0) (cum ws 1) n) * _ ≤ _
    have e1 : ((0 : Nat) : Rat) = 0 := rfl
    rw [e1]
    grind
  | i + 1 => by
    have h0 := leftR_le ws n i
    have h1 := shareR_ge (cum ws (i + 1)) (cum ws (i + 1 + 1)) n
    rw [cntR_cast] at h1
    have h2 := fl_neg (cum ws (i + 1) * ((2 ^ n : Nat) : Rat))
    show (leftR ws n (i + 1) - shareR (cum ws (i + 1)) (cum ws (i + 1 + 1)) n) * _ ≤ _
    have e1 : ((i + 1 : Nat) : Rat) = (i : Rat) + 1 := by push_cast; rfl
    rw [e1]
    grind
/-- Left is at most the number of outcomes less 1, by 2 ^ n. -/
theorem leftR_most {ws : List Rat} (n : Nat) (h0 : 0 < ws.length) (h1 : cum ws ws.length = 1) : leftR ws n ws.length ≤ ((ws.length : Rat) - 1) / ((2 ^ n : Nat) : Rat) := by
  rw [le_div2]
  obtain ⟨m, hm⟩ : ∃ m, ws.length = m + 1 := ⟨ws.length - 1, by omega⟩
  have h := leftR_le ws n m
  rw [← hm, h1, Rat.one_mul] at h
  have e : (((2 ^ n : Nat) : Rat).floor : Rat) = ((2 ^ n : Nat) : Rat) := by
    have : ((2 ^ n : Nat) : Rat).floor = ((2 ^ n : Nat) : Int) := Rat.floor_intCast (a := ((2 ^ n : Nat) : Int))
    rw [this]; push_cast; rfl
  rw [e] at h
  have e1 : ((ws.length : Nat) : Rat) = (m : Rat) + 1 := by rw [hm]; push_cast; rfl
  rw [e1]
  grind

/-- The bits of a number, the first one the greatest. -/
def bitsN (n x : Nat) (j : Nat) : Bool := decide (x / 2 ^ (n - 1 - j) % 2 = 1)
theorem vf_bits (n x : Nat) (hx : x < 2 ^ n) : ∀ k, k ≤ n → vf (bitsN n x) k * ((2 ^ k : Nat) : Rat) = ((x / 2 ^ (n - k) : Nat) : Rat)
  | 0, _ => by
    rw [Nat.sub_zero, Nat.div_eq_of_lt hx]
    show (0 : Rat) * _ = 0
    rw [Rat.zero_mul]
  | k + 1, hk => by
    have h0 := vf_bits n x hx k (by omega)
    have e : x / 2 ^ (n - (k + 1)) = 2 * (x / 2 ^ (n - k)) + x / 2 ^ (n - (k + 1)) % 2 := by
      have : x / 2 ^ (n - k) = x / 2 ^ (n - (k + 1)) / 2 := by
        rw [Nat.div_div_eq_div_mul, ← Nat.pow_succ]
        congr 2; omega
      rw [this]; omega
    have e2 : bitsN n x k = decide (x / 2 ^ (n - (k + 1)) % 2 = 1) := by unfold bitsN; rw [show n - 1 - k = n - (k + 1) by omega]
    have h1 := pw_mul (k + 1)
    rw [e]
    unfold vf
    rw [e2, Rat.add_mul]
    have h2 : vf (bitsN n x) k * ((2 ^ (k + 1) : Nat) : Rat) = 2 * ((x / 2 ^ (n - k) : Nat) : Rat) := by rw [two_succ]; grind
    rw [h2]
    by_cases hb : x / 2 ^ (n - (k + 1)) % 2 = 1
    · rw [decide_eq_true hb, if_pos rfl, h1, hb]; push_cast; rfl
    · have hb0 : x / 2 ^ (n - (k + 1)) % 2 = 0 := by omega
      rw [decide_eq_false hb, if_neg (by decide), hb0, Rat.zero_mul]; push_cast; rfl
/-- How many of the first numbers. -/
def cntTo (p : Nat → Bool) : Nat → Nat
  | 0 => 0
  | m + 1 => cntTo p m + if p m then 1 else 0
theorem cntTo_congr {p q : Nat → Bool} : ∀ m, (∀ x, x < m → p x = q x) → cntTo p m = cntTo q m
  | 0, _ => rfl
  | m + 1, h => by unfold cntTo; rw [cntTo_congr m (fun x hx => h x (by omega)), h m (by omega)]
theorem cntTo_le (p : Nat → Bool) : ∀ m, cntTo p m ≤ m
  | 0 => Nat.le_refl _
  | m + 1 => by unfold cntTo; have := cntTo_le p m; split <;> omega
theorem cntTo_range (A B : Int) (hA : 0 ≤ A) : ∀ m : Nat, (cntTo (fun x => decide (A ≤ (x : Int)) && decide ((x : Int) + 1 ≤ B)) m : Int) = max 0 (min (m : Int) B - A)
  | 0 => by show (0 : Int) = _; omega
  | m + 1 => by
    have h := cntTo_range A B hA m
    unfold cntTo
    by_cases h1 : A ≤ (m : Int) <;> by_cases h2 : (m : Int) + 1 ≤ B
    · simp only [decide_eq_true h1, decide_eq_true h2, Bool.and_self, if_true]; push_cast; omega
    · simp only [decide_eq_true h1, decide_eq_false h2, Bool.and_false, Bool.false_eq_true, if_false]; push_cast; omega
    · simp only [decide_eq_false h1, decide_eq_true h2, Bool.false_and, Bool.false_eq_true, if_false]; push_cast; omega
    · simp only [decide_eq_false h1, decide_eq_false h2, Bool.false_and, Bool.false_eq_true, if_false]; push_cast; omega
/-- Does the string of a number decide an outcome? -/
def decB (ws : List Rat) (n i x : Nat) : Bool := decR ws (bitsN n x) n == some i
theorem le_floor_nat (x : Rat) (m : Int) : (m : Rat) ≤ x ↔ m ≤ x.floor := Rat.le_floor_iff.symm
theorem cum_one {ws : List Rat} (h : Wok ws ws.length) (h1 : cum ws ws.length = 1) {i : Nat} (hi : i ≤ ws.length) : cum ws i ≤ 1 := by
  have := cum_le h (i := i) (ws.length - i) (by omega)
  rw [show i + (ws.length - i) = ws.length by omega, h1] at this
  exact this
theorem decB_iff {ws : List Rat} (h : Wok ws ws.length) {n i x : Nat} (hi : i < ws.length) (hx : x < 2 ^ n) :
    decB ws n i x = (decide (-((-(cum ws i * ((2 ^ n : Nat) : Rat))).floor) ≤ (x : Int)) && decide ((x : Int) + 1 ≤ (cum ws (i + 1) * ((2 ^ n : Nat) : Rat)).floor)) := by
  have hv := vf_bits n x hx n (Nat.le_refl _)
  rw [Nat.sub_self, Nat.pow_zero, Nat.div_one] at hv
  have hp := pw_mul n
  have hN := two_pos n
  rw [Bool.eq_iff_iff]
  unfold decB
  rw [beq_iff_eq, decR_some h, inOut_parts, Bool.and_eq_true, decide_eq_true_eq, decide_eq_true_eq]
  have a1 : cum ws i ≤ vf (bitsN n x) n ↔ -((-(cum ws i * ((2 ^ n : Nat) : Rat))).floor) ≤ (x : Int) := by
    have : -((-(cum ws i * ((2 ^ n : Nat) : Rat))).floor) ≤ (x : Int) ↔ -(x : Int) ≤ (-(cum ws i * ((2 ^ n : Nat) : Rat))).floor := by omega
    rw [this, ← le_floor_nat]
    have e : ((-(x : Int) : Int) : Rat) = -(x : Rat) := by push_cast; rfl
    rw [e]
    constructor
    · intro h2
      have := Rat.mul_le_mul_of_nonneg_right h2 (Rat.le_of_lt hN)
      grind
    · intro h2
      have h3 : cum ws i * ((2 ^ n : Nat) : Rat) ≤ vf (bitsN n x) n * ((2 ^ n : Nat) : Rat) := by grind
      exact Rat.le_of_mul_le_mul_right h3 hN
  have a2 : vf (bitsN n x) n + pw n ≤ cum ws (i + 1) ↔ (x : Int) + 1 ≤ (cum ws (i + 1) * ((2 ^ n : Nat) : Rat)).floor := by
    rw [← le_floor_nat]
    have e : (((x : Int) + 1 : Int) : Rat) = (x : Rat) + 1 := by push_cast; rfl
    rw [e]
    constructor
    · intro h2
      have := Rat.mul_le_mul_of_nonneg_right h2 (Rat.le_of_lt hN)
      grind
    · intro h2
      have h3 : (vf (bitsN n x) n + pw n) * ((2 ^ n : Nat) : Rat) ≤ cum ws (i + 1) * ((2 ^ n : Nat) : Rat) := by grind
      exact Rat.le_of_mul_le_mul_right h3 hN
  rw [a1, a2]
  constructor
  · rintro ⟨-, h2⟩; exact h2
  · intro h2; exact ⟨hi, h2⟩
/-- Of all strings of n bits as many decide an outcome as Law says. -/
theorem count_law {ws : List Rat} (h : Wok ws ws.length) (h1 : cum ws ws.length = 1) {i : Nat} (hi : i < ws.length) (n : Nat) :
    ((cntTo (decB ws n i) (2 ^ n) : Nat) : Rat) / ((2 ^ n : Nat) : Rat) = lawR ws n i := by
  have hN := two_pos n
  have c0 := (cum_bounds h i (by omega)).1
  have e := cntTo_congr (p := decB ws n i) (2 ^ n) (fun x hx => decB_iff h hi hx)
  have hA : 0 ≤ -((-(cum ws i * ((2 ^ n : Nat) : Rat))).floor) := by
    have : (-(cum ws i * ((2 ^ n : Nat) : Rat))).floor ≤ 0 := by
      have h2 := fl_le (-(cum ws i * ((2 ^ n : Nat) : Rat)))
      have h3 : 0 ≤ cum ws i * ((2 ^ n : Nat) : Rat) := Rat.mul_nonneg c0 (Rat.le_of_lt hN)
      have h4 : (((-(cum ws i * ((2 ^ n : Nat) : Rat))).floor : Int) : Rat) ≤ ((0 : Int) : Rat) := by push_cast; grind
      exact_mod_cast h4
    omega
  have hB : (cum ws (i + 1) * ((2 ^ n : Nat) : Rat)).floor ≤ ((2 ^ n : Nat) : Int) := by
    have h2 := fl_le (cum ws (i + 1) * ((2 ^ n : Nat) : Rat))
    have h3 := Rat.mul_le_mul_of_nonneg_right (cum_one h h1 (i := i + 1) (by omega)) (Rat.le_of_lt hN)
    have h4 : (((cum ws (i + 1) * ((2 ^ n : Nat) : Rat)).floor : Int) : Rat) ≤ (((2 ^ n : Nat) : Int) : Rat) := by
      rw [show ((((2 ^ n : Nat) : Int) : Rat)) = ((2 ^ n : Nat) : Rat) from by push_cast; rfl]; grind
    exact_mod_cast h4
  have c := cntTo_range _ (cum ws (i + 1) * ((2 ^ n : Nat) : Rat)).floor hA (2 ^ n)
  rw [← e, Int.min_eq_right hB] at c
  have e3 : (cum ws (i + 1) * ((2 ^ n : Nat) : Rat)).floor - -((-(cum ws i * ((2 ^ n : Nat) : Rat))).floor) = cntR (cum ws i) (cum ws (i + 1)) n := rfl
  rw [e3] at c
  unfold lawR
  rw [shareR_cnt]
  have e4 : ((cntTo (decB ws n i) (2 ^ n) : Nat) : Rat) = ((cntTo (decB ws n i) (2 ^ n) : Int) : Rat) := by push_cast; rfl
  split
  · rename_i h5
    rw [e4, c, Int.max_eq_left (by omega)]
    show (0 : Rat) / _ = 0
    rw [Rat.div_def, Rat.zero_mul]
  · rename_i h5
    rw [e4, c, Int.max_eq_right (by omega)]
/-- A sum. -/
def sumC (g : Nat → Nat) : Nat → Nat
  | 0 => 0
  | k + 1 => sumC g k + g k
theorem sumC_step (f : Nat → Option Nat) (m : Nat) : ∀ k, sumC (fun i => cntTo (fun x => f x == some i) (m + 1)) k = sumC (fun i => cntTo (fun x => f x == some i) m) k + (match f m with | some j => if j < k then 1 else 0 | none => 0)
  | 0 => by
    show 0 = 0 + _
    cases f m <;> simp
  | k + 1 => by
    have h := sumC_step f m k
    have e : cntTo (fun x => f x == some k) (m + 1) = cntTo (fun x => f x == some k) m + (if (f m == some k) = true then 1 else 0) := rfl
    show sumC _ k + cntTo (fun x => f x == some k) (m + 1) = sumC _ k + cntTo (fun x => f x == some k) m + _
    rw [h, e]
    cases hm : f m with
    | none => simp
    | some j =>
      by_cases h1 : j = k
      · subst h1
        rw [if_pos (by simp)]
        show sumC _ j + (if j < j then 1 else 0) + (_ + 1) = _ + (if j < j + 1 then 1 else 0)
        rw [if_neg (by omega), if_pos (by omega)]; omega
      · rw [if_neg (by simpa using h1)]
        by_cases h2 : j < k
        · simp [h2, show j < k + 1 by omega]; omega
        · simp [h2, show ¬ j < k + 1 by omega]
theorem count_split (f : Nat → Option Nat) (k : Nat) (hf : ∀ x i, f x = some i → i < k) : ∀ m, cntTo (fun x => f x == none) m + sumC (fun i => cntTo (fun x => f x == some i) m) k = m
  | 0 => by
    have : ∀ k, sumC (fun i => cntTo (fun x => f x == some i) 0) k = 0 := by
      intro k; induction k with
      | zero => rfl
      | succ k ih => show sumC _ k + 0 = 0; rw [ih]
    rw [this]; rfl
  | m + 1 => by
    have h := count_split f k hf m
    rw [sumC_step]
    have e : cntTo (fun x => f x == none) (m + 1) = cntTo (fun x => f x == none) m + (if (f m == none) = true then 1 else 0) := rfl
    rw [e]
    cases hm : f m with
    | none => rw [if_pos (show ((none : Option Nat) == none) = true from rfl)]; show _ + 1 + (_ + 0) = _; omega
    | some j =>
      have hj := hf m j hm
      rw [if_neg (show ¬ ((some j : Option Nat) == none) = true by simp)]
      show _ + 0 + (_ + (if j < k then 1 else 0)) = _
      rw [if_pos hj]; omega
theorem leftR_sum {ws : List Rat} (h : Wok ws ws.length) (h1 : cum ws ws.length = 1) (n : Nat) : ∀ i, i ≤ ws.length → leftR ws n i * ((2 ^ n : Nat) : Rat) = ((2 ^ n : Nat) : Rat) - ((sumC (fun i => cntTo (decB ws n i) (2 ^ n)) i : Nat) : Rat)
  | 0, _ => by
    show (1 : Rat) * _ = _ - ((0 : Nat) : Rat)
    rw [show ((0 : Nat) : Rat) = 0 from rfl]; grind
  | i + 1, hi => by
    have h2 := leftR_sum h h1 n i (by omega)
    have h3 := count_law h h1 (i := i) (by omega) n
    have h4 : lawR ws n i * ((2 ^ n : Nat) : Rat) = ((cntTo (decB ws n i) (2 ^ n) : Nat) : Rat) := by rw [← h3]; exact Rat.div_mul_cancel (two_ne n)
    show (leftR ws n i - lawR ws n i) * _ = _ - ((sumC (fun i => cntTo (decB ws n i) (2 ^ n)) i + cntTo (decB ws n i) (2 ^ n) : Nat) : Rat)
    rw [show ((sumC (fun i => cntTo (decB ws n i) (2 ^ n)) i + cntTo (decB ws n i) (2 ^ n) : Nat) : Rat) = ((sumC (fun i => cntTo (decB ws n i) (2 ^ n)) i : Nat) : Rat) + ((cntTo (decB ws n i) (2 ^ n) : Nat) : Rat) by push_cast; rfl]
    grind
/-- And as many decide nothing as Left says. -/
theorem count_left {ws : List Rat} (h : Wok ws ws.length) (h1 : cum ws ws.length = 1) (n : Nat) :
    ((cntTo (fun x => decR ws (bitsN n x) n == none) (2 ^ n) : Nat) : Rat) / ((2 ^ n : Nat) : Rat) = leftR ws n ws.length := by
  have h2 := leftR_sum h h1 n ws.length (Nat.le_refl _)
  have h3 := count_split (fun x => decR ws (bitsN n x) n) ws.length (fun x i e => ((decR_some h).1 e).1) (2 ^ n)
  have h4 : ((2 ^ n : Nat) : Rat) = ((cntTo (fun x => decR ws (bitsN n x) n == none) (2 ^ n) : Nat) : Rat) + ((sumC (fun i => cntTo (decB ws n i) (2 ^ n)) ws.length : Nat) : Rat) := by
    have h5 : ((cntTo (fun x => decR ws (bitsN n x) n == none) (2 ^ n) + sumC (fun i => cntTo (decB ws n i) (2 ^ n)) ws.length : Nat) : Rat) = ((2 ^ n : Nat) : Rat) := by
      exact congrArg (fun z : Nat => (z : Rat)) h3
    rw [← h5]; push_cast; rfl
  have h5 := Rat.mul_div_cancel (a := leftR ws n ws.length) (two_ne n)
  rw [h2] at h5
  rw [← h5]
  congr 1
  grind
end Go.Proofs.YtfjjdjhnodcfhaaGreatDoor
