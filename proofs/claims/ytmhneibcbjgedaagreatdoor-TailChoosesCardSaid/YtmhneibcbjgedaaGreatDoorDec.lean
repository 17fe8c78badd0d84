/- Decimal texts: what they read as, and the text of a number in limbs. No program in sight. -/
import Derived.Test.YtmhneibcbjgedaaGreatDoorBig
import Derived.Lib.ItoaNum
import Derived.Lib.ParseIntB
set_option linter.unusedSimpArgs false
set_option linter.unusedVariables false
namespace Go.Proofs.YtmhneibcbjgedaaGreatDoor
open Go.Lib (decDigits itoa nDigits parseUintB parseUintM)

/-- All bytes are digits. -/
def Dig (l : List UInt8) : Prop := ∀ c ∈ l, 48 ≤ c.toNat ∧ c.toNat ≤ 57

/-- What digits read as. -/
def rdStep (acc : Nat) (c : UInt8) : Nat := acc * 10 + (c.toNat - 48)
def rd (acc : Nat) (l : List UInt8) : Nat := l.foldl rdStep acc

theorem rd_nil (acc : Nat) : rd acc [] = acc := by unfold rd; rw [List.foldl_nil]
theorem rd_cons (acc : Nat) (c : UInt8) (r : List UInt8) : rd acc (c :: r) = rd (acc * 10 + (c.toNat - 48)) r := by unfold rd; rw [List.foldl_cons]; unfold rdStep; exact Eq.refl _

theorem rd_aux (acc d P R : Nat) : (acc * 10 + d) * P + R = acc * (P * 10) + ((0 * 10 + d) * P + R) := by
  rw [Nat.add_mul, Nat.zero_mul, Nat.zero_add, Nat.mul_assoc, Nat.mul_comm 10 P, Nat.add_assoc]

theorem rd_acc : ∀ (l : List UInt8) (acc : Nat), rd acc l = acc * 10 ^ l.length + rd 0 l
  | [], acc => by rw [rd_nil, rd_nil, List.length_nil, Nat.pow_zero, Nat.mul_one, Nat.add_zero]
  | c :: r, acc => by
    have h1 := rd_acc r (acc * 10 + (c.toNat - 48))
    have h2 := rd_acc r (0 * 10 + (c.toNat - 48))
    rw [rd_cons, rd_cons, h1, h2, List.length_cons, Nat.pow_succ]
    exact rd_aux _ _ _ _

theorem rd_append (a b : List UInt8) : rd 0 (a ++ b) = rd 0 a * 10 ^ b.length + rd 0 b := by
  have h : ∀ acc, rd acc (a ++ b) = rd (rd acc a) b := by
    induction a with
    | nil => intro acc; rfl
    | cons c r ih => intro acc; simp only [List.cons_append, rd_cons]; exact ih _
  rw [h, rd_acc]

theorem rd_lt {l : List UInt8} (h : Dig l) : rd 0 l < 10 ^ l.length := by
  induction l with
  | nil => simp [rd_nil]
  | cons c r ih =>
    have h1 := ih (fun x hx => h x (List.mem_cons_of_mem _ hx))
    have h2 := h c (List.mem_cons_self ..)
    simp only [rd_cons, List.length_cons]
    rw [rd_acc, Nat.pow_succ, Nat.zero_mul, Nat.zero_add]
    have h3 : (c.toNat - 48) * 10 ^ r.length ≤ 9 * 10 ^ r.length := Nat.mul_le_mul_right _ (by omega)
    omega

theorem Dig.append {a b : List UInt8} (h : Dig a) (k : Dig b) : Dig (a ++ b) := by
  intro c hc
  rcases List.mem_append.1 hc with hc | hc
  · exact h c hc
  · exact k c hc
theorem Dig.take {a : List UInt8} (h : Dig a) (k : Nat) : Dig (a.take k) := fun c hc => h c (List.mem_of_mem_take hc)
theorem Dig.drop {a : List UInt8} (h : Dig a) (k : Nat) : Dig (a.drop k) := fun c hc => h c (List.mem_of_mem_drop hc)

theorem parse_ok {M : Nat} (hM : M = 4294967295) : ∀ (l : List UInt8) (acc : Nat), Dig l → rd acc l ≤ 999999999 → parseUintM M acc l = .ok (rd acc l) := by
  intro l
  induction l with
  | nil => intro acc _ _; rfl
  | cons c r ih =>
    intro acc hd hl
    have h2 := hd c (List.mem_cons_self ..)
    have h3 : acc * 10 + (c.toNat - 48) ≤ 999999999 := by
      simp only [rd_cons] at hl
      rw [rd_acc] at hl
      have : 1 ≤ 10 ^ r.length := Nat.one_le_pow _ _ (by decide)
      have := Nat.le_mul_of_pos_right (acc * 10 + (c.toNat - 48)) this
      omega
    simp only [parseUintM, rd_cons]
    rw [if_pos h2, if_neg (by omega), if_neg (by omega)]
    exact ih _ (fun x hx => hd x (List.mem_cons_of_mem _ hx)) hl

theorem parse32 {l : List UInt8} (hd : Dig l) (hl : l.length ≤ 9) (h0 : l ≠ []) : parseUintB 32 l = .ok (rd 0 l) := by
  unfold parseUintB
  rw [if_neg h0]
  apply parse_ok (by decide) _ _ hd
  have h1 := rd_lt hd
  have h2 : 10 ^ l.length ≤ 10 ^ 9 := Nat.pow_le_pow_right (by omega) hl
  omega

theorem dig_one {k : Nat} (h : k < 10) : (UInt8.ofNat (48 + k)).toNat = 48 + k := by
  rw [UInt8.toNat_ofNat']; omega

theorem dig_mem {k : Nat} (h : k < 10) : Dig [UInt8.ofNat (48 + k)] := by
  intro c hc
  rw [List.mem_singleton] at hc
  rw [hc, dig_one h]; omega

theorem head_app {a b : List UInt8} (h : a ≠ []) : (a ++ b).head? = a.head? := by
  cases a with
  | nil => exact absurd rfl h
  | cons => rfl

theorem decDigits_small {n : Nat} (h : n < 10) : decDigits n = [UInt8.ofNat (48 + n)] := by rw [decDigits, dif_pos h]
theorem decDigits_big {n : Nat} (h : ¬ n < 10) : decDigits n = decDigits (n / 10) ++ [UInt8.ofNat (48 + n % 10)] := by rw [decDigits, dif_neg h]

theorem decDigits_dig (n : Nat) : Dig (decDigits n) := by
  induction n using Nat.strongRecOn with
  | _ n ih =>
    by_cases h : n < 10
    · rw [decDigits_small h]; exact dig_mem h
    · rw [decDigits_big h]
      exact (ih _ (by omega)).append (dig_mem (by omega))

theorem rd_decDigits (n : Nat) : rd 0 (decDigits n) = n := by
  induction n using Nat.strongRecOn with
  | _ n ih =>
    by_cases h : n < 10
    · rw [decDigits_small h]; simp only [rd_nil, rd_cons]; rw [dig_one h]; omega
    · rw [decDigits_big h, rd_append, ih _ (by omega)]
      simp only [rd_nil, rd_cons, List.length_cons, List.length_nil]; rw [dig_one (by omega)]; omega

theorem decDigits_length_pos (n : Nat) : 0 < (decDigits n).length := by
  rw [Lib.decDigits_length]; exact Lib.nDigits_pos n

theorem decDigits_ne (n : Nat) : decDigits n ≠ [] := List.length_pos_iff.1 (decDigits_length_pos n)

/-- The first digit is nought only in the text of nought. -/
theorem decDigits_head {n : Nat} (h : 0 < n) : ∀ c, (decDigits n).head? = some c → c.toNat ≠ 48 := by
  induction n using Nat.strongRecOn with
  | _ n ih =>
    intro c hc
    by_cases h1 : n < 10
    · rw [decDigits_small h1, List.head?_cons] at hc; injection hc with hc; rw [← hc, dig_one h1]; omega
    · rw [decDigits_big h1] at hc
      have hne := decDigits_ne (n / 10)
      rw [head_app hne] at hc
      exact ih _ (by omega) (by omega) c hc

theorem u8_ofNat {c : UInt8} (h : 48 ≤ c.toNat) : UInt8.ofNat (48 + (c.toNat - 48)) = c := by
  have : 48 + (c.toNat - 48) = c.toNat := by omega
  rw [this, UInt8.ofNat_toNat]

/-- A list of digits that does not begin with nought, or is nought: the text of what it reads as. -/
theorem decDigits_rd : ∀ (k : Nat) (l : List UInt8), l.length = k + 1 → Dig l → (∀ c, l.head? = some c → c.toNat ≠ 48 ∨ k = 0) → decDigits (rd 0 l) = l := by
  intro k
  induction k with
  | zero =>
    intro l hl hd _
    match l, hl with
    | [c], _ =>
      have h := hd c (List.mem_cons_self ..)
      simp only [rd_nil, rd_cons]
      rw [decDigits_small (by omega), Nat.zero_mul, Nat.zero_add, u8_ofNat h.1]
  | succ k ih =>
    intro l hl hd hh
    have e : l = l.take (k + 1) ++ l.drop (k + 1) := (List.take_append_drop _ _).symm
    have h1 : (l.take (k + 1)).length = k + 1 := by simp; omega
    have h2 : (l.drop (k + 1)).length = 1 := by simp; omega
    match hx : l.drop (k + 1), h2 with
    | [c], _ =>
      rw [hx] at e
      have hc := hd c (by rw [e]; simp)
      have hh2 : (l.take (k + 1)).head? = l.head? := by
        conv => rhs; rw [e]
        rw [head_app]
        intro e0; rw [e0] at h1; simp at h1
      have ih' := ih (l.take (k + 1)) h1 (hd.take _) (fun c hc => by
        rw [hh2] at hc
        rcases hh c hc with h | h
        · exact .inl h
        · omega)
      generalize l.take (k + 1) = t at *
      subst e
      rw [rd_append]
      simp only [rd_nil, rd_cons, List.length_cons, List.length_nil]
      have ht : 0 < rd 0 t := by
        rcases Nat.eq_zero_or_pos (rd 0 t) with h0 | h0
        · exfalso
          rw [h0] at ih'
          have e0 : t = [48] := by rw [← ih']; rw [decDigits_small (by omega)]; rfl
          subst e0
          have := hh 48 (by simp)
          simp at this h1
        · exact h0
      have e2 : (rd 0 t * 10 ^ (0 + 1) + (0 * 10 + (c.toNat - 48))) / 10 = rd 0 t := by omega
      have e3 : (rd 0 t * 10 ^ (0 + 1) + (0 * 10 + (c.toNat - 48))) % 10 = c.toNat - 48 := by omega
      rw [decDigits_big (by omega), e2, e3, ih', u8_ofNat hc.1]

/-- k digits of a number, noughts ahead. -/
def pad : Nat → Nat → List UInt8
  | 0, _ => []
  | k + 1, n => pad k (n / 10) ++ [UInt8.ofNat (48 + n % 10)]

theorem pad_length (k n : Nat) : (pad k n).length = k := by
  induction k generalizing n with
  | zero => rfl
  | succ k ih => simp [pad, ih]

theorem decDigits_pad (k : Nat) : ∀ x y, 0 < y → x < 10 ^ k → decDigits (x + 10 ^ k * y) = decDigits y ++ pad k x := by
  induction k with
  | zero => intro x y hy hx; simp at hx; subst hx; simp [pad]
  | succ k ih =>
    intro x y hy hx
    have hp : 1 ≤ 10 ^ k := Nat.one_le_pow _ _ (by decide)
    have hm : 1 * 1 ≤ 10 ^ k * y := Nat.mul_le_mul hp hy
    have e1 : x + 10 ^ (k + 1) * y = (x + 10 * (10 ^ k * y)) := by rw [Nat.pow_succ, Nat.mul_comm (10 ^ k) 10, Nat.mul_assoc]
    rw [e1, decDigits_big (by omega)]
    have e2 : (x + 10 * (10 ^ k * y)) / 10 = x / 10 + 10 ^ k * y := by omega
    have e3 : (x + 10 * (10 ^ k * y)) % 10 = x % 10 := by omega
    rw [e2, e3, ih (x / 10) y hy (by rw [Nat.pow_succ] at hx; omega), List.append_assoc]
    rfl

theorem pad_nil {k : Nat} : pad k 0 = List.replicate k 48 := by
  induction k with
  | zero => rfl
  | succ k ih => simp only [pad, Nat.zero_div, Nat.zero_mod, Nat.add_zero]; rw [ih, List.replicate_succ']; rfl

theorem pad_eq : ∀ (k x : Nat), 0 < k → x < 10 ^ k → pad k x = List.replicate (k - (decDigits x).length) 48 ++ decDigits x := by
  intro k
  induction k with
  | zero => intro x h; omega
  | succ k ih =>
    intro x _ hx
    by_cases h : x < 10
    · rw [decDigits_small h]
      have e1 : x / 10 = 0 := by omega
      have e2 : x % 10 = x := by omega
      simp only [pad, e1, e2, pad_nil, List.length_cons, List.length_nil, Nat.add_sub_cancel, Nat.zero_add]
    · rw [decDigits_big h]
      have hk : 0 < k := by
        rcases Nat.eq_zero_or_pos k with h0 | h0
        · subst h0; simp at hx; omega
        · exact h0
      simp only [pad]
      rw [ih (x / 10) hk (by rw [Nat.pow_succ] at hx; omega), List.append_assoc]
      simp only [List.length_append, List.length_cons, List.length_nil, Nat.zero_add, Nat.add_sub_add_right]

/-- The text of limbs, the greatest ahead. -/
theorem decDigits_limb {x t : Nat} (hx : x < 1000000000) (ht : 0 < t) : decDigits (x + 1000000000 * t) = decDigits t ++ (List.replicate (9 - (decDigits x).length) 48 ++ decDigits x) := by
  have h := decDigits_pad 9 x t ht (by omega)
  rw [pad_eq 9 x (by omega) (by omega)] at h
  exact h

theorem nDigits_limb {x t : Nat} (hx : x < 1000000000) (ht : 0 < t) : nDigits (x + 1000000000 * t) = nDigits t + 9 := by
  have h := congrArg List.length (decDigits_pad 9 x t ht (by omega))
  rw [Lib.decDigits_length, List.length_append, Lib.decDigits_length, pad_length] at h
  exact h

theorem nDigits_le9 {x : Nat} (h : x < 1000000000) : nDigits x ≤ 9 := by
  rcases Nat.lt_or_ge x 10 with h1 | h1
  · rw [Lib.nDigits_small h1]; omega
  have hx : 0 < x := by omega
  have : ∀ k, x < 10 ^ (k + 1) → nDigits x ≤ k + 1 := by
    clear h h1 hx
    intro k
    induction k generalizing x with
    | zero => intro h; rw [Lib.nDigits_small (by omega)]; omega
    | succ k ih =>
      intro h
      by_cases h1 : x < 10
      · rw [Lib.nDigits_small h1]; omega
      · rw [Lib.nDigits_big h1]
        have := ih (x := x / 10) (by rw [Nat.pow_succ] at h; omega)
        omega
  exact this 8 (by omega)

theorem val_drop_pos {l : List Nat} (hl : Last l) {i : Nat} (hi : i < l.length) : 0 < val (l.drop i) := by
  rcases Nat.eq_zero_or_pos (val (l.drop i)) with h | h
  · exfalso
    have h1 : Last (l.drop i) := by
      intro hne
      have e : (l.drop i).length - 1 = l.length - 1 - i := by simp; omega
      rw [e]
      have h2 := hl (by intro e; rw [e] at hi; simp at hi)
      have e3 : (l.drop i).getD (l.length - 1 - i) 0 = l.getD (l.length - 1) 0 := by
        simp only [List.getD, List.getElem?_drop]
        rw [show i + (l.length - 1 - i) = l.length - 1 by omega]
      rw [e3]; exact h2
    have h2 := val_eq_zero h h1
    have h3 := congrArg List.length h2
    simp at h3; omega
  · exact h

theorem val_drop_cons {l : List Nat} {i : Nat} (hi : i < l.length) : val (l.drop i) = l.getD i 0 + 1000000000 * val (l.drop (i + 1)) := by
  rw [List.drop_eq_getElem_cons hi]
  simp [val, List.getD, List.getElem?_eq_getElem hi]

theorem nDigits_val : ∀ (k : Nat) (l : List Nat), Ok l → Last l → l.length = k + 1 → nDigits (val l) = 9 * k + nDigits (l.getD k 0) := by
  intro k
  induction k with
  | zero =>
    intro l ho hl hk
    match l, hk with
    | [x], _ => simp [val]
  | succ k ih =>
    intro l ho hl hk
    match l, hk with
    | x :: t, hk =>
      have ht : Last t := by
        intro hne
        have := hl (by simp)
        cases t with
        | nil => exact absurd rfl hne
        | cons y t => simpa using this
      have h1 := ih t ho.tail ht (by simpa using hk)
      have hp : 0 < val t := by
        have := val_drop_pos ht (i := 0) (by simp at hk; omega)
        simpa using this
      simp only [val]
      rw [nDigits_limb ho.head hp, h1]
      have e : (x :: t).getD (k + 1) 0 = t.getD k 0 := by simp
      rw [e]; omega

end Go.Proofs.YtmhneibcbjgedaaGreatDoor
