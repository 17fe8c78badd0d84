/- Numbers that fit, the reference's quotient and its roundings. -/
import Derived.Test.YtpmlmibceiolpaaGreatDoorTFit
import Derived.Test.YtpmlmibceiolpaaGreatDoorR2c
import Derived.Test.YtpmlmibceiolpaaGreatDoorTWhole
set_option linter.unusedSimpArgs false
set_option linter.unusedVariables false
namespace Go.Proofs.YtpmlmibceiolpaaGreatDoor
open Go.RowKit
open Go.Lib (decDigits itoa nDigits)
open D4 (rt it Mid Sm)

theorem fits_mul {k l : Nat} {x y : Rat} (hx : fitsD k x) (hy : fitsD l y) : fitsD (k + l) (x * y) := by
  rw [← rat_mul x y]
  refine ⟨Nat.le_trans (D4.nDigits_mono (D4.divInt_num_le _ _)) (D4.nDigits_imul hx.1 hy.1), Nat.le_trans (D4.nDigits_mono (D4.divInt_den_le _ (Int.mul_ne_zero (den_ne x) (den_ne y)))) (D4.nDigits_imul (D4.den_fit x hx) (D4.den_fit y hy))⟩
theorem fits_add {k : Nat} {x y : Rat} (hx : fitsD k x) (hy : fitsD k y) : fitsD (k + k + 1) (x + y) := by
  rw [← rat_add x y]
  refine ⟨Nat.le_trans (D4.nDigits_mono (D4.divInt_num_le _ _)) (D4.nDigits_iadd (D4.nDigits_imul hx.1 (D4.den_fit y hy)) (D4.nDigits_imul hy.1 (D4.den_fit x hx))), Nat.le_trans (D4.nDigits_mono (D4.divInt_den_le _ (Int.mul_ne_zero (den_ne x) (den_ne y)))) (Nat.le_trans (D4.nDigits_imul (D4.den_fit x hx) (D4.den_fit y hy)) (by omega))⟩
theorem fits_up {j k : Nat} {x : Rat} (h : fitsD j x) (hk : j ≤ k) : fitsD k x := ⟨Nat.le_trans h.1 hk, Nat.le_trans h.2 hk⟩
theorem rt_zero_iff (x : Rat) : ((rt x).toList == [48]) = decide (x = 0) := by
  have hl : (rt x).toList = ratText x := ba_list (ratText x)
  have h1 : ratText 0 = [48] := by decide +kernel
  by_cases h : x = 0
  · subst h
    rw [hl, h1]; simp
  · rw [decide_eq_false h, beq_eq_false_iff_ne, hl]
    intro hc
    exact h (ratText_inj (by rw [hc, h1]))

theorem rt_int (m : Int) : rt (m : Rat) = it m := by
  have h := D4.rt_one (x := (m : Rat)) (by simp)
  rwa [Rat.num_intCast] at h
theorem inv_make (x : Rat) : Rat.divInt x.den x.num = 1 / x := by rw [Rat.div_def, Rat.one_mul, Rat.inv_def]
theorem inv_fits {k : Nat} {x : Rat} (hx : fitsD k x) (h0 : x.num ≠ 0) : fitsD k (1 / x) := by
  rw [← inv_make]
  exact ⟨Nat.le_trans (D4.nDigits_mono (D4.divInt_num_le _ _)) (by rw [Int.natAbs_natCast]; exact hx.2), Nat.le_trans (D4.nDigits_mono (D4.divInt_den_le _ h0)) hx.1⟩
theorem floor_digits {k : Nat} {x : Rat} (hx : fitsD k x) : nDigits x.floor.natAbs ≤ k := by
  rw [← rat_floor]
  refine Nat.le_trans (D4.nDigits_mono ?_) hx.1
  rw [Int.fdiv_eq_ediv_of_nonneg _ (show (0 : Int) ≤ (x.den : Int) by omega)]
  exact Int.natAbs_ediv_le_natAbs _ _

theorem rcmp_lt {x y : Rat} (h : x < y) : rcmp x y = -1 := by
  have h1 := rcmp_neg.2 h
  unfold rcmp at *
  rcases Int.sign_trichotomy (x.num * y.den - y.num * x.den) with h | h | h <;> omega
theorem rcmp_gt {x y : Rat} (h : y < x) : rcmp x y = 1 := by
  have h1 := rcmp_pos.2 h
  unfold rcmp at *
  rcases Int.sign_trichotomy (x.num * y.den - y.num * x.den) with h | h | h <;> omega
theorem rcmp_self (x : Rat) : rcmp x x = 0 := rcmp_zero.2 rfl
theorem rcmp_ge {x y : Rat} : 0 ≤ rcmp x y ↔ y ≤ x := by
  have h := @rcmp_neg x y
  constructor
  · intro h1; exact Rat.not_lt.1 fun h2 => by have := h.2 h2; omega
  · intro h1; have : ¬ rcmp x y < 0 := fun h2 => absurd (h.1 h2) (Rat.not_lt.2 h1)
    omega
/-- Numbers on a common denominator, that are not great, fit. -/
theorem On.fitK {M d K : Nat} {x : Rat} (h : On M x) (h0 : -(K : Rat) ≤ x) (h1 : x ≤ (K : Rat)) (hM : 0 < M) (hK : 0 < K) (hd : M * K < 10 ^ (d + 1)) : fitsD (d + 1) x := by
  obtain ⟨z, hz⟩ := h
  have hM' : (M : Rat) ≠ 0 := by
    intro e
    have : M = 0 := by exact_mod_cast e
    omega
  have hMp : (0 : Rat) ≤ (M : Rat) := by exact_mod_cast Nat.zero_le _
  have hx : x = Rat.divInt z M := by
    rw [divInt_div]
    rw [← hz]
    push_cast
    rw [Rat.mul_div_cancel hM']
  have hz0 : -((K * M : Nat) : Int) ≤ z := by
    have : ((-((K * M : Nat) : Int) : Int) : Rat) ≤ (z : Rat) := by
      rw [← hz]
      have := Rat.mul_le_mul_of_nonneg_right h0 hMp
      push_cast at *
      grind
    exact_mod_cast this
  have hz1 : z ≤ ((K * M : Nat) : Int) := by
    have : (z : Rat) ≤ (((K * M : Nat) : Int) : Rat) := by
      rw [← hz]
      have := Rat.mul_le_mul_of_nonneg_right h1 hMp
      push_cast at *
      grind
    exact_mod_cast this
  have e1 := D4.divInt_num_le z M
  have e2 := D4.divInt_den_le z (d := (M : Int)) (by omega)
  rw [← hx] at e1 e2
  have hMK : M ≤ M * K := Nat.le_mul_of_pos_right M hK
  have hc : K * M = M * K := Nat.mul_comm K M
  exact ⟨D4.nDigits_le (by omega), D4.nDigits_le (by omega)⟩
end Go.Proofs.YtpmlmibceiolpaaGreatDoor

/- Places of outcomes and of bit strings: the plain mathematics. -/
set_option linter.unusedSimpArgs false
set_option linter.unusedVariables false
namespace Go.Proofs.YtpmlmibceiolpaaGreatDoor
open Go.RowKit
open Go.Lib (decDigits itoa nDigits)
open D4 (rt it Mid)

/-- The sum of the first weights. -/
def cum (ws : List Rat) : Nat → Rat
  | 0 => 0
  | i + 1 => cum ws i + ws.getD i 0
/-- The width of the place of k bits. -/
def pw (k : Nat) : Rat := 1 / ((2 ^ k : Nat) : Rat)
/-- Where the place of the first k bits begins. -/
def vf (s : Nat → Bool) : Nat → Rat
  | 0 => 0
  | k + 1 => vf s k + if s k then pw (k + 1) else 0
/-- Is a place within that of an outcome? -/
def inOut (ws : List Rat) (f t : Rat) (i : Nat) : Bool := decide (cum ws i ≤ f) && decide (t ≤ cum ws (i + 1))
/-- The first outcome from i on, of n more, whose place holds something. -/
def firstR (h : Nat → Bool) : Nat → Nat → Option Nat
  | 0, _ => none
  | n + 1, i => if h i then some i else firstR h n (i + 1)
/-- The outcome that k bits decide. -/
def decR (ws : List Rat) (s : Nat → Bool) (k : Nat) : Option Nat := firstR (inOut ws (vf s k) (vf s k + pw k)) ws.length 0
/-- The outcome that n bits from the k-th on decide, and how many. -/
def drawR (ws : List Rat) (s : Nat → Bool) : Nat → Nat → Option (Nat × Nat)
  | 0, k => (decR ws s k).map fun i => (i, k)
  | n + 1, k => match decR ws s k with
    | some i => some (i, k)
    | none => drawR ws s n (k + 1)
/-- The part of the strings of n bits that lie in a place. -/
def shareR (f t : Rat) (n : Nat) : Rat :=
  let low := -((-(f * ((2 ^ n : Nat) : Rat))).floor)
  let c := (t * ((2 ^ n : Nat) : Rat)).floor - low
  if c < 0 then 0 else (c : Rat) / ((2 ^ n : Nat) : Rat)
/-- Law and Left. -/
def lawR (ws : List Rat) (n i : Nat) : Rat := shareR (cum ws i) (cum ws (i + 1)) n
def leftR (ws : List Rat) (n : Nat) : Nat → Rat
  | 0 => 1
  | i + 1 => leftR ws n i - lawR ws n i

theorem two_pos (n : Nat) : (0 : Rat) < ((2 ^ n : Nat) : Rat) := by exact_mod_cast Nat.pow_pos (by omega)
theorem two_ne (n : Nat) : ((2 ^ n : Nat) : Rat) ≠ 0 := by have := two_pos n; grind
theorem two_succ (n : Nat) : ((2 ^ (n + 1) : Nat) : Rat) = 2 * ((2 ^ n : Nat) : Rat) := by rw [Nat.pow_succ]; push_cast; grind
theorem pw_zero : pw 0 = 1 := by decide +kernel
theorem pw_pos (k : Nat) : 0 < pw k := by
  unfold pw
  rw [Rat.lt_div_iff (two_pos k), Rat.zero_mul]; decide
theorem pw_mul (k : Nat) : pw k * ((2 ^ k : Nat) : Rat) = 1 := by unfold pw; exact Rat.div_mul_cancel (two_ne k)
theorem pw_half (k : Nat) : pw (k + 1) + pw (k + 1) = pw k := by
  have h1 := pw_mul k
  have h2 := pw_mul (k + 1)
  rw [two_succ] at h2
  have h3 := two_pos k
  have h4 : (pw (k + 1) + pw (k + 1)) * ((2 ^ k : Nat) : Rat) = pw k * ((2 ^ k : Nat) : Rat) := by grind
  calc pw (k + 1) + pw (k + 1) = ((pw (k + 1) + pw (k + 1)) * ((2 ^ k : Nat) : Rat)) / ((2 ^ k : Nat) : Rat) := (Rat.mul_div_cancel (two_ne k)).symm
    _ = (pw k * ((2 ^ k : Nat) : Rat)) / ((2 ^ k : Nat) : Rat) := by rw [h4]
    _ = pw k := Rat.mul_div_cancel (two_ne k)
theorem vf_bounds (s : Nat → Bool) : ∀ k, 0 ≤ vf s k ∧ vf s k + pw k ≤ 1
  | 0 => ⟨by show (0 : Rat) ≤ 0; decide, by show (0 : Rat) + pw 0 ≤ 1; rw [pw_zero]; decide +kernel⟩
  | k + 1 => by
    obtain ⟨h1, h2⟩ := vf_bounds s k
    have h3 := pw_half k
    have h4 := pw_pos (k + 1)
    unfold vf
    split <;> constructor <;> grind
theorem pw_on (k : Nat) : On (2 ^ k) (pw k) := ⟨1, by rw [pw_mul]; rfl⟩
theorem On.two {k : Nat} {x : Rat} (h : On (2 ^ k) x) : On (2 ^ (k + 1)) x := by rw [Nat.pow_succ]; exact h.more 2
theorem vf_on (s : Nat → Bool) : ∀ k, On (2 ^ k) (vf s k)
  | 0 => On.zero _
  | k + 1 => by
    unfold vf
    refine (vf_on s k).two.add ?_
    split
    · exact pw_on _
    · exact On.zero _
theorem two_lt (k : Nat) (h : k ≤ 210) : 2 ^ k < 10 ^ 70 := Nat.lt_of_le_of_lt (Nat.pow_le_pow_right (by omega) h) (by decide)
theorem vf_fit (s : Nat → Bool) {k : Nat} (h : k ≤ 210) : fitsD 70 (vf s k) := by
  have hb := vf_bounds s k
  have hp := pw_pos k
  exact (vf_on s k).fit hb.1 (by grind) (Nat.pow_pos (by omega)) (two_lt k h)
theorem vt_fit (s : Nat → Bool) {k : Nat} (h : k ≤ 210) : fitsD 70 (vf s k + pw k) := by
  have hb := vf_bounds s k
  have hp := pw_pos k
  exact ((vf_on s k).add (pw_on k)).fit (by grind) hb.2 (Nat.pow_pos (by omega)) (two_lt k h)
theorem pw_fit {k : Nat} (h : k ≤ 210) : fitsD 70 (pw k) := by
  have hp := pw_pos k
  have hb := vf_bounds (fun _ => false) k
  exact (pw_on k).fit (by grind) (by grind) (Nat.pow_pos (by omega)) (two_lt k h)
theorem two_fit {k : Nat} (h : k ≤ 210) : fitsD 70 ((2 ^ k : Nat) : Rat) := by
  refine ⟨?_, ?_⟩
  · rw [show ((2 ^ k : Nat) : Rat).num = ((2 ^ k : Nat) : Int) by simp, Int.natAbs_natCast]
    exact D4.nDigits_le (d := 69) (two_lt k h)
  · rw [show ((2 ^ k : Nat) : Rat).den = 1 by simp]; decide +kernel

/-- The first n weights are short and not negative. -/
def Wok (ws : List Rat) (n : Nat) : Prop := n ≤ 17 ∧ ∀ i, i < n → 0 ≤ ws.getD i 0 ∧ fitsD 4 (ws.getD i 0)
theorem fit4 {x : Rat} (h : fitsD 4 x) (h0 : 0 ≤ x) : x ≤ 9999 ∧ x.den ≤ 9999 := by
  have hn := Lib.lt_pow_nDigits x.num.natAbs
  have hd := Lib.lt_pow_nDigits x.den
  have h1 : x.num.natAbs < 10 ^ 4 := Nat.lt_of_lt_of_le hn (Nat.pow_le_pow_right (by omega) h.1)
  have h2 : x.den < 10 ^ 4 := Nat.lt_of_lt_of_le hd (Nat.pow_le_pow_right (by omega) h.2)
  refine ⟨?_, by omega⟩
  have hdp : (1 : Rat) ≤ (x.den : Rat) := by have := x.den_pos; exact_mod_cast this
  have e := On.den x
  have e2 : x * (x.den : Rat) = (x.num : Rat) := by
    have hd : ((x.den : Nat) : Rat) ≠ 0 := by grind
    have h := divInt_div x.num x.den
    rw [Rat.num_divInt_den] at h
    have h2 : ((x.den : Int) : Rat) = (x.den : Rat) := by push_cast; rfl
    rw [h2] at h
    have h3 := Rat.div_mul_cancel (a := (x.num : Rat)) hd
    rw [← h] at h3
    exact h3
  have h3 : (x.num : Rat) ≤ 9999 := by
    have h : x.num ≤ 9999 := by omega
    have h5 : (x.num : Rat) ≤ ((9999 : Int) : Rat) := Rat.intCast_le_intCast.2 h
    rwa [show ((9999 : Int) : Rat) = 9999 by decide +kernel] at h5
  have h4 : x * 1 ≤ x * (x.den : Rat) := Rat.mul_le_mul_of_nonneg_left hdp h0
  grind
/-- A common denominator of the first weights. -/
def dn (ws : List Rat) : Nat → Nat
  | 0 => 1
  | i + 1 => dn ws i * (ws.getD i 0).den
theorem dn_pos (ws : List Rat) : ∀ i, 0 < dn ws i
  | 0 => by simp [dn]
  | i + 1 => Nat.mul_pos (dn_pos ws i) (Rat.den_pos _)
theorem cum_on (ws : List Rat) : ∀ i, On (dn ws i) (cum ws i)
  | 0 => On.zero _
  | i + 1 => by
    unfold cum dn
    refine ((cum_on ws i).more _).add ?_
    rw [Nat.mul_comm]
    exact (On.den _).more _
theorem dn_le {ws : List Rat} {n : Nat} (h : Wok ws n) : ∀ i, i ≤ n → dn ws i ≤ 10 ^ (4 * i)
  | 0, _ => by simp [dn]
  | i + 1, hi => by
    have h1 := dn_le h i (by omega)
    have hm := h.2 i (by omega)
    have h2 := (fit4 hm.2 hm.1).2
    unfold dn
    rw [show 4 * (i + 1) = 4 * i + 4 by omega, Nat.pow_add]
    exact Nat.mul_le_mul h1 (by omega)
theorem cum_bounds {ws : List Rat} {n : Nat} (h : Wok ws n) : ∀ i, i ≤ n → 0 ≤ cum ws i ∧ cum ws i ≤ (i : Rat) * 9999
  | 0, _ => ⟨by show (0 : Rat) ≤ 0; decide, by show (0 : Rat) ≤ ((0 : Nat) : Rat) * 9999; decide +kernel⟩
  | i + 1, hi => by
    obtain ⟨h1, h2⟩ := cum_bounds h i (by omega)
    have hm := h.2 i (by omega)
    have h3 := (fit4 hm.2 hm.1).1
    have h4 := hm.1
    have e : ((i + 1 : Nat) : Rat) = (i : Rat) + 1 := by push_cast; rfl
    have ec : cum ws (i + 1) = cum ws i + ws.getD i 0 := rfl
    rw [e, ec]
    constructor
    · grind
    · grind
theorem cum_fit {ws : List Rat} {n : Nat} (h : Wok ws n) {i : Nat} (hi : i ≤ n) : fitsD 80 (cum ws i) := by
  obtain ⟨h1, h2⟩ := cum_bounds h i hi
  have hl := h.1
  refine (cum_on ws i).fitK (K := 169983) ?_ ?_ (dn_pos ws i) (by omega) ?_
  · have e : ((169983 : Nat) : Rat) = 169983 := by decide +kernel
    rw [e]; grind
  · have h17 : (i : Rat) ≤ 17 := by exact_mod_cast (by omega : i ≤ 17)
    have e : ((169983 : Nat) : Rat) = 169983 := by decide +kernel
    rw [e]; grind
  · have h3 := dn_le h i hi
    have h4 : 10 ^ (4 * i) ≤ 10 ^ 68 := Nat.pow_le_pow_right (by omega) (by omega)
    calc dn ws i * 169983 ≤ 10 ^ 68 * 169983 := Nat.mul_le_mul_right _ (Nat.le_trans h3 h4)
      _ < 10 ^ (79 + 1) := by decide
theorem cum_mono {ws : List Rat} {n : Nat} (h : Wok ws n) {i : Nat} (hi : i < n) : cum ws i ≤ cum ws (i + 1) := by
  have hm := h.2 i hi
  show cum ws i ≤ cum ws i + ws.getD i 0
  grind
end Go.Proofs.YtpmlmibceiolpaaGreatDoor

/- Lists of numbers on the heap: exact.List, exact.Zero. -/
set_option linter.unusedSimpArgs false
set_option linter.unusedVariables false
namespace Go.Proofs.YtpmlmibceiolpaaGreatDoor
open Go.RowKit
open Go.Lib (decDigits itoa nDigits)
open D4 (rt it Mid)

def Nms (w : World) : List Value → List Rat → Prop
  | [], [] => True
  | a :: b :: c :: d :: r, x :: xs => Nm w (.agg #[a, b, c, d]) x ∧ Nms w r xs
  | _, _ => False
theorem Nms.below_old {w w' : World} (hb : Below w.heap.size w w') : ∀ (cs : List Value) (xs : List Rat), Nms w cs xs → Nms w' cs xs
  | [], [], _ => trivial
  | a :: b :: c :: d :: r, n :: ns, h => ⟨h.1.below hb, Nms.below_old hb r ns h.2⟩
  | [], _ :: _, h => h.elim
  | [_], [], h => h.elim
  | [_], _ :: _, h => h.elim
  | [_, _], [], h => h.elim
  | [_, _], _ :: _, h => h.elim
  | [_, _, _], [], h => h.elim
  | [_, _, _], _ :: _, h => h.elim
  | _ :: _ :: _ :: _ :: _, [], h => h.elim
theorem Nms.below {w w' : World} {cs : List Value} {xs : List Rat} (h : Nms w cs xs) (hb : Below w.heap.size w w') : Nms w' cs xs := Nms.below_old hb cs xs h
theorem Nms.snoc {w : World} {a b c d : Value} {x : Rat} (hn : Nm w (.agg #[a, b, c, d]) x) : ∀ (cs : List Value) (xs : List Rat), Nms w cs xs → Nms w (cs ++ [a, b, c, d]) (xs ++ [x])
  | [], [], _ => ⟨hn, trivial⟩
  | x :: y :: z :: u :: r, m :: ns, h => ⟨h.1, Nms.snoc hn r ns h.2⟩
  | [], _ :: _, h => h.elim
  | [_], [], h => h.elim
  | [_], _ :: _, h => h.elim
  | [_, _], [], h => h.elim
  | [_, _], _ :: _, h => h.elim
  | [_, _, _], [], h => h.elim
  | [_, _, _], _ :: _, h => h.elim
  | _ :: _ :: _ :: _ :: _, [], h => h.elim
theorem Nm.of_grown {w w' : World} {t : TypeId} {row : Option Nat} (hg : w.grownBy w' row) (hr : ∀ g, row = some g → ∃ cs, Blk w g t cs) (ht : t ≠ 143) {v : Value} {x : Rat} (h : Nm w v x) : Nm w' v x := by
  obtain ⟨a, b, c, d, h1, h2, h3⟩ := h
  exact ⟨a, b, c, d, h1, Whs.of_grown hg hr ht h2, Whs.of_grown hg hr ht h3⟩
theorem Nms.grown {w w' : World} {t : TypeId} {row : Option Nat} (hg : w.grownBy w' row) (hr : ∀ g, row = some g → ∃ cs, Blk w g t cs) (ht : t ≠ 143) : ∀ (cs : List Value) (xs : List Rat), Nms w cs xs → Nms w' cs xs
  | [], [], _ => trivial
  | a :: b :: c :: d :: r, n :: ns, h => ⟨Nm.of_grown hg hr ht h.1, Nms.grown hg hr ht r ns h.2⟩
  | [], _ :: _, h => h.elim
  | [_], [], h => h.elim
  | [_], _ :: _, h => h.elim
  | [_, _], [], h => h.elim
  | [_, _], _ :: _, h => h.elim
  | [_, _, _], [], h => h.elim
  | [_, _, _], _ :: _, h => h.elim
  | _ :: _ :: _ :: _ :: _, [], h => h.elim
theorem Nms.at_ {w : World} : ∀ (cs : List Value) (xs : List Rat) (i : Nat), Nms w cs xs → i < xs.length → ∃ a b c d, cs[4 * i]? = some a ∧ cs[4 * i + 1]? = some b ∧ cs[4 * i + 2]? = some c ∧ cs[4 * i + 3]? = some d ∧ Nm w (.agg #[a, b, c, d]) (xs.getD i 0)
  | [], [], _, _, hi => by simp at hi
  | a :: b :: c :: d :: r, n :: ns, 0, h, _ => ⟨a, b, c, d, rfl, rfl, rfl, rfl, h.1⟩
  | a :: b :: c :: d :: r, n :: ns, i + 1, h, hi => by
    obtain ⟨x, y, z, u, h1, h2, h3, h4, h5⟩ := Nms.at_ r ns i h.2 (by simpa using hi)
    exact ⟨x, y, z, u, h1, h2, h3, h4, by simpa using h5⟩
  | [], _ :: _, _, h, _ => h.elim
  | [_], [], _, h, _ => h.elim
  | [_], _ :: _, _, h, _ => h.elim
  | [_, _], [], _, h, _ => h.elim
  | [_, _], _ :: _, _, h, _ => h.elim
  | [_, _, _], [], _, h, _ => h.elim
  | [_, _, _], _ :: _, _, h, _ => h.elim
  | _ :: _ :: _ :: _ :: _, [], _, h, _ => h.elim

/-- A slice of numbers of the call's own. -/
def NRow (w : World) (B : Nat) (v : Value) (xs : List Rat) : Prop := ∃ cs, w.ownsRow B 88 4 v xs.length cs ∧ Nms w cs xs
theorem NRow.blk {w : World} {B : Nat} {v : Value} {n : Nat} {cs : List Value} (h : w.ownsRow B 88 4 v n cs) : ∀ g, v.ownBlock = some g → ∃ cs, Blk w g 88 cs := by
  intro g hg
  obtain ⟨_, h⟩ := h
  rcases h with ⟨rfl, _⟩ | ⟨g', cap, cur, rfl, h1, h2, _⟩
  · cases hg
  · cases hg; exact ⟨cur, h2⟩
theorem NRow.below {w w' : World} {B : Nat} {v : Value} {xs : List Rat} (h : NRow w B v xs) (hb : Below w.heap.size w w') : NRow w' B v xs := by
  obtain ⟨cs, h1, h2⟩ := h
  exact ⟨cs, h1.below2 hb, h2.below hb⟩
theorem NRow.len {w : World} {B : Nat} {v : Value} {xs : List Rat} (h : NRow w B v xs) : ∃ a, ∃ c : Nat, v = .slice a xs.length c := by
  obtain ⟨cs, ⟨_, h⟩, _⟩ := h
  rcases h with ⟨rfl, h0⟩ | ⟨g, cap, cur, rfl, _⟩
  · exact ⟨none, 0, by rw [h0]⟩
  · exact ⟨_, cap, rfl⟩
/-- Numbers that lie in a slice. -/
def Nums (w : World) (v : Value) (xs : List Rat) : Prop := ∃ (g c : Nat), v = .slice (some ⟨g, 0, none⟩) xs.length c ∧ xs.length ≤ c ∧ c ≤ maxLen ∧ ∀ i, i < xs.length → ∃ y0 y1 y2 y3, w.cell? ⟨g, 4 * i, none⟩ = some y0 ∧ w.cell? ⟨g, 4 * i + 1, none⟩ = some y1 ∧ w.cell? ⟨g, 4 * i + 2, none⟩ = some y2 ∧ w.cell? ⟨g, 4 * i + 3, none⟩ = some y3 ∧ Nm w (.agg #[y0, y1, y2, y3]) (xs.getD i 0)
theorem Nums.below {w w' : World} {v : Value} {xs : List Rat} (h : Nums w v xs) (hb : Below w.heap.size w w') : Nums w' v xs := by
  obtain ⟨g, c, rfl, h1, h2, h3⟩ := h
  refine ⟨g, c, rfl, h1, h2, fun i hi => ?_⟩
  obtain ⟨y0, y1, y2, y3, c0, c1, c2, c3, hn⟩ := h3 i hi
  have hlt := World.block_lt_of_cell? w ⟨g, 4 * i, none⟩ c0
  exact ⟨y0, y1, y2, y3, (hb.cell (p := ⟨g, 4 * i, none⟩) hlt).trans c0, (hb.cell (p := ⟨g, 4 * i + 1, none⟩) hlt).trans c1, (hb.cell (p := ⟨g, 4 * i + 2, none⟩) hlt).trans c2, (hb.cell (p := ⟨g, 4 * i + 3, none⟩) hlt).trans c3, hn.below hb⟩
theorem NRow.nums {w : World} {B : Nat} {v : Value} {xs : List Rat} (h : NRow w B v xs) (h0 : xs ≠ []) : Nums w v xs := by
  obtain ⟨cs, ⟨hl, h⟩, h2⟩ := h
  rcases h with ⟨_, he⟩ | ⟨g, cap, cur, rfl, hB, hg, hn, hm, hc, ht⟩
  · exact absurd (List.length_eq_zero_iff.1 he) h0
  · refine ⟨g, cap, rfl, hn, hm, fun i hi => ?_⟩
    obtain ⟨a, b, c, d, e0, e1, e2, e3, hx⟩ := Nms.at_ cs xs i h2 hi
    have hc' : ∀ j u, j < xs.length * 4 → cs[j]? = some u → w.cell? ⟨g, j, none⟩ = some u := by
      intro j u hj hu
      rw [cell_of_row w g j cur 88 (0, 0) hg]
      rw [← ht, List.getElem?_take, if_pos hj] at hu
      simpa using hu
    exact ⟨a, b, c, d, hc' _ _ (by omega) e0, hc' _ _ (by omega) e1, hc' _ _ (by omega) e2, hc' _ _ (by omega) e3, hx⟩
theorem divInt_red {m n : Int} (hn : 1 < n) (hg : Nat.gcd m.natAbs n.natAbs = 1) : m = (Rat.divInt m n).num ∧ n = (Rat.divInt m n).den := by
  have h1 : Int.gcd n m = 1 := by unfold Int.gcd; rw [Nat.gcd_comm]; exact hg
  have h2 : n.sign = 1 := Int.sign_eq_one_of_pos (by omega)
  refine ⟨?_, ?_⟩
  · rw [Rat.num_divInt, h1, h2]; simp
  · rw [Rat.den_divInt, if_neg (by omega), h1]; simp; omega

theorem nm_int {w : World} {v : Value} {m : Int} (h : Pr w v m 1) : Nm w v (m : Rat) := h.nm (by simp) (by simp)

/-- exact.From at a text that is a number. -/
theorem from_any {w : World} (l : List UInt8) (hl : l.length ≤ 268435000) (h0 : rerr l = 0) (hg : Good w) :
    Calls Tryz.prog 43 #[.string ⟨l.toArray⟩] w (RetN w (rval l)) := by
  unfold rerr at h0
  unfold rval
  rcases cut_cases l with hc | ⟨n, d, hc, hs⟩
  · rw [hc] at h0 ⊢
    simp only [Bool.false_eq_true, if_false] at h0 ⊢
    by_cases h5 : wcheck l = 5
    · rw [if_pos h5] at h0; exact absurd h0 (by decide)
    · obtain ⟨neg, ds, e1, e2, e3, e4⟩ := wcheck_form h5
      rw [e4]
      have a1 := sgnd_ge neg ds
      rw [← e1] at a1
      have h := from_whole (w := w) neg e2 (by omega) hg
      rw [← e1] at h
      exact h.mono fun e w' ⟨r, h1, h2, h3⟩ => ⟨r, h1, nm_int h2, h3⟩
  · rw [hc] at h0 ⊢
    simp only [if_true] at h0 ⊢
    have hln : n.length + d.length ≤ 268435000 := by rw [hs] at hl; simp at hl; omega
    by_cases h5 : wcheck n = 5 ∨ wcheck d = 5
    · rw [if_pos h5] at h0; exact absurd h0 (by decide)
    · rw [if_neg h5] at h0
      obtain ⟨h1, h2⟩ := not_or.1 h5
      obtain ⟨neg, ds, e1, e2, e3, e4⟩ := wcheck_form h1
      obtain ⟨neg2, es, f1, f2, f3, f4⟩ := wcheck_form h2
      have a1 := sgnd_ge neg ds
      have a2 := sgnd_ge neg2 es
      rw [← e1] at a1
      rw [← f1] at a2
      by_cases hd : sread d ≤ 1 ∨ Nat.gcd (sread n).natAbs (sread d).natAbs ≠ 1
      · rw [if_pos hd] at h0; exact absurd h0 (by decide)
      · have hd1 : ¬ sread d ≤ 1 := fun h => hd (.inl h)
        have hd2 : Nat.gcd (sread n).natAbs (sread d).natAbs = 1 := Classical.byContradiction fun h => hd (.inr h)
        have h := from_frac (w := w) neg neg2 e2 f2 (by omega) hg
        rw [← e1, ← f1, ← hs, ← e4, ← f4] at h
        have h3 := divInt_red (by omega) hd2
        exact h.mono fun e w' ⟨r, g1, g2, g3⟩ => ⟨r, g1, g2.nm h3.1 h3.2, g3⟩


theorem infoNum : (Tryz.prog.info? 88).map (fun i => (i.zero, i.size, i.bytes)) = some (some (.agg #[.bool false, .slice none 0 0, .bool false, .slice none 0 0]), 4, 64) := by kernel_rfl
theorem cell_new_four (w : World) (t : TypeId) (x y z u : Value) : ∀ j v, [x, y, z, u][j]? = some v → (w.alloc (.cells #[x, y, z, u] t)).cell? ((⟨w.heap.size, 0, none⟩ : Addr).add j) = some v := by
  intro j v hj
  match j, hj with
  | 0, hj => simp at hj; subst hj; simp [Addr.add]
  | 1, hj => simp at hj; subst hj; simp [Addr.add]
  | 2, hj => simp at hj; subst hj; simp [Addr.add]
  | 3, hj => simp at hj; subst hj; simp [Addr.add]
/-- Texts that lie in a slice. -/
def Qs (w : World) (v : Value) (ts : List (List UInt8)) : Prop := ∃ (a : Option Addr) (c : Nat), v = .slice a ts.length c ∧ ts.length ≤ c ∧ c ≤ maxLen ∧ (ts = [] ∨ ∃ p : Addr, a = some p) ∧ ∀ p : Addr, a = some p → ∀ i, i < ts.length → w.cell? (p.add i) = some (.string ⟨(ts.getD i []).toArray⟩)
theorem Qs.below {w w' : World} {v : Value} {ts : List (List UInt8)} (h : Qs w v ts) (hb : Below w.heap.size w w') : Qs w' v ts := by
  obtain ⟨a, c, rfl, h1, h2, h3, h4⟩ := h
  refine ⟨a, c, rfl, h1, h2, h3, fun p hp i hi => ?_⟩
  have hc := h4 p hp i hi
  exact (hb.cell (p := p.add i) (World.block_lt_of_cell? w (p.add i) hc)).trans hc
def RetNs (w : World) (xs : List Rat) (e : Ending) (w' : World) : Prop := ∃ B v, e = .returned v ∧ NRow w' B v xs ∧ Below w.heap.size w w'

end Go.Proofs.YtpmlmibceiolpaaGreatDoor
