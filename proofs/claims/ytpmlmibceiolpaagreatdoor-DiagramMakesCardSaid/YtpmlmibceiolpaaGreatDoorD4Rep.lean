/- Plain facts on lists of digits in base 10000 (no program in sight), turned from those on limbs. -/
import Derived.Test.YtpmlmibceiolpaaGreatDoorCanon
import Derived.Test.YtpmlmibceiolpaaGreatDoorDivided
set_option linter.unusedSimpArgs false
set_option linter.unusedVariables false
namespace Go.Proofs.YtpmlmibceiolpaaGreatDoor.D4
open Go.RowKit

/-- The value of limbs, the least first. -/
def val : List Nat → Nat
  | [] => 0
  | x :: xs => x + 10000 * val xs

/-- All limbs are less than the base. -/
def Ok (l : List Nat) : Prop := ∀ x ∈ l, x < 10000

def limbsF : Nat → Nat → List Nat
  | 0, _ => []
  | f + 1, n => if n = 0 then [] else n % 10000 :: limbsF f (n / 10000)

/-- The canonical limbs of a number. -/
def limbs (n : Nat) : List Nat := limbsF n n

theorem limbsF_more (f g n : Nat) (hf : n ≤ f) (hg : n ≤ g) : limbsF f n = limbsF g n := by
  induction f generalizing g n with
  | zero => cases g with
    | zero => rfl
    | succ g => have : n = 0 := by omega
                subst this; simp [limbsF]
  | succ f ih => cases g with
    | zero => have : n = 0 := by omega
              subst this; simp [limbsF]
    | succ g =>
      simp only [limbsF]
      split
      · rfl
      · rw [ih g (n / 10000) (by omega) (by omega)]

theorem limbs_zero : limbs 0 = [] := rfl

theorem limbs_pos {n : Nat} (h : 0 < n) : limbs n = n % 10000 :: limbs (n / 10000) := by
  unfold limbs
  cases n with
  | zero => omega
  | succ n =>
    simp only [limbsF]
    rw [if_neg (by omega), limbsF_more n ((n + 1) / 10000) _ (by omega) (by omega)]

theorem val_limbs (n : Nat) : val (limbs n) = n := by
  induction n using Nat.strongRecOn with
  | _ n ih =>
    rcases Nat.eq_zero_or_pos n with h | h
    · subst h; rfl
    · rw [limbs_pos h, val, ih _ (by omega)]; omega

theorem Ok.nil : Ok [] := fun _ h => by cases h

theorem Ok.cons {x : Nat} {l : List Nat} (hx : x < 10000) (h : Ok l) : Ok (x :: l) := by
  intro y hy
  rcases List.mem_cons.1 hy with rfl | hy
  · exact hx
  · exact h y hy

theorem Ok.append {a b : List Nat} (ha : Ok a) (hb : Ok b) : Ok (a ++ b) := by
  intro y hy
  rcases List.mem_append.1 hy with h | h
  · exact ha y h
  · exact hb y h

theorem Ok.head {x : Nat} {l : List Nat} (h : Ok (x :: l)) : x < 10000 := h x (by simp)

theorem Ok.tail {x : Nat} {l : List Nat} (h : Ok (x :: l)) : Ok l := fun y hy => h y (by simp [hy])

theorem Ok.left {a b : List Nat} (h : Ok (a ++ b)) : Ok a := fun y hy => h y (by simp [hy])

theorem Ok.right {a b : List Nat} (h : Ok (a ++ b)) : Ok b := fun y hy => h y (by simp [hy])

theorem Ok.take {l : List Nat} (h : Ok l) (k : Nat) : Ok (l.take k) := fun y hy => h y (List.mem_of_mem_take hy)

theorem Ok.drop {l : List Nat} (h : Ok l) (k : Nat) : Ok (l.drop k) := fun y hy => h y (List.mem_of_mem_drop hy)

theorem Ok.get {l : List Nat} (h : Ok l) {i : Nat} (hi : i < l.length) : l[i] < 10000 := h _ (List.getElem_mem hi)

theorem Ok.getD {l : List Nat} (h : Ok l) (i : Nat) : l.getD i 0 < 10000 := by
  rcases Nat.lt_or_ge i l.length with hi | hi
  · simpa [List.getD, List.getElem?_eq_getElem hi] using h.get hi
  · simp [List.getD, List.getElem?_eq_none hi]

theorem Ok.zeros (k : Nat) : Ok (List.replicate k 0) := fun y hy => by
  rw [List.eq_of_mem_replicate hy]; omega

theorem Ok.set {l : List Nat} (h : Ok l) (i x : Nat) (hx : x < 10000) : Ok (l.set i x) := fun y hy => by
  rcases List.mem_or_eq_of_mem_set hy with h1 | h1
  · exact h y h1
  · omega

theorem limbs_ok (n : Nat) : Ok (limbs n) := by
  induction n using Nat.strongRecOn with
  | _ n ih =>
    rcases Nat.eq_zero_or_pos n with h | h
    · subst h; exact Ok.nil
    · rw [limbs_pos h]; exact Ok.cons (by omega) (ih _ (by omega))

theorem val_append (a b : List Nat) : val (a ++ b) = val a + 10000 ^ a.length * val b := by
  induction a with
  | nil => simp [val]
  | cons x a ih => simp only [List.cons_append, val, ih, List.length_cons, Nat.pow_succ]; rw [Nat.mul_add, ← Nat.mul_assoc, Nat.mul_comm (10000 ^ a.length) 10000]; omega

theorem val_snoc (a : List Nat) (x : Nat) : val (a ++ [x]) = val a + 10000 ^ a.length * x := by
  rw [val_append]; simp [val]

theorem val_zeros (k : Nat) : val (List.replicate k 0) = 0 := by
  induction k with
  | zero => rfl
  | succ k ih => rw [List.replicate_succ, val, ih]

theorem val_lt {l : List Nat} (h : Ok l) : val l < 10000 ^ l.length := by
  induction l with
  | nil => simp [val]
  | cons x l ih =>
    have h1 := ih h.tail
    have h2 := h.head
    simp only [val, List.length_cons, Nat.pow_succ]
    have h3 : 10000 * (val l + 1) ≤ 10000 * 10000 ^ l.length := Nat.mul_le_mul_left _ h1
    rw [Nat.mul_comm (10000 ^ l.length)]
    omega

/-- Limbs whose last one is not zero. -/
def Last (l : List Nat) : Prop := l ≠ [] → l.getD (l.length - 1) 0 ≠ 0

theorem val_eq_zero {l : List Nat} (h : val l = 0) (hl : Last l) : l = [] := by
  cases l with
  | nil => rfl
  | cons x t =>
    exfalso
    have hz : ∀ (l : List Nat), val l = 0 → ∀ i, l.getD i 0 = 0 := by
      intro l
      induction l with
      | nil => intro _ i; simp
      | cons y l ih =>
        intro h i
        simp only [val] at h
        cases i with
        | zero => simp; omega
        | succ i => simpa using ih (by omega) i
    exact hl (by simp) (hz _ h _)

theorem limbs_val {l : List Nat} (h : Ok l) (hl : Last l) : limbs (val l) = l := by
  induction l with
  | nil => rfl
  | cons x t ih =>
    have hx := h.head
    have ht : Last t := by
      intro hne
      have := hl (by simp)
      cases t with
      | nil => exact absurd rfl hne
      | cons y t => simpa using this
    have hp : 0 < val (x :: t) := by
      rcases Nat.eq_zero_or_pos (val (x :: t)) with h0 | h0
      · exact absurd (val_eq_zero h0 hl) (by simp)
      · exact h0
    rw [limbs_pos hp]
    have e1 : val (x :: t) % 10000 = x := by simp only [val]; omega
    have e2 : val (x :: t) / 10000 = val t := by simp only [val]; omega
    rw [e1, e2, ih h.tail ht]

theorem limbs_last (n : Nat) : Last (limbs n) := by
  induction n using Nat.strongRecOn with
  | _ n ih =>
    rcases Nat.eq_zero_or_pos n with h | h
    · subst h; intro h; exact absurd rfl h
    · rw [limbs_pos h]
      intro _
      rcases Nat.eq_zero_or_pos (n / 10000) with h1 | h1
      · rw [h1, limbs_zero]; simp; omega
      · have := ih (n / 10000) (by omega)
        have hne : limbs (n / 10000) ≠ [] := by rw [limbs_pos h1]; simp
        have h2 := this hne
        have hlen : 0 < (limbs (n / 10000)).length := List.length_pos_iff.2 hne
        have e : (n % 10000 :: limbs (n / 10000)).length - 1 = (limbs (n / 10000)).length - 1 + 1 := by simp; omega
        rw [e]; simpa using h2

theorem limbs_inj {a b : Nat} (h : limbs a = limbs b) : a = b := by rw [← val_limbs a, h, val_limbs]

theorem limbs_eq_nil {n : Nat} : limbs n = [] ↔ n = 0 := by
  constructor
  · intro h; rw [← val_limbs n, h]; rfl
  · rintro rfl; rfl

theorem limbs_length_pos {n : Nat} (h : 0 < n) : 0 < (limbs n).length := by rw [limbs_pos h]; simp

/-- One zero at the end goes. -/
theorem val_dropLast {l : List Nat} (hne : l ≠ []) (h : l.getD (l.length - 1) 0 = 0) : val l = val (l.take (l.length - 1)) := by
  have hl : 0 < l.length := List.length_pos_iff.2 hne
  have e : l = l.take (l.length - 1) ++ [l.getD (l.length - 1) 0] := by
    have h1 : l.length - 1 < l.length := by omega
    conv => lhs; rw [← List.take_append_drop (l.length - 1) l]
    congr 1
    rw [List.drop_eq_getElem_cons h1, List.drop_of_length_le (by omega)]
    simp [List.getD, List.getElem?_eq_getElem h1]
  conv => lhs; rw [e]
  rw [val_snoc, h]; simp

/-- The number of limbs: at most k just where the number is below the k-th power. -/
theorem limbs_len_le {n k : Nat} (h : n < 10000 ^ k) : (limbs n).length ≤ k := by
  induction k generalizing n with
  | zero => have : n = 0 := by simp at h; exact h
            subst this; simp [limbs_zero]
  | succ k ih =>
    rcases Nat.eq_zero_or_pos n with h0 | h0
    · subst h0; simp [limbs_zero]
    · rw [limbs_pos h0]
      have := ih (n := n / 10000) (by rw [Nat.pow_succ] at h; omega)
      simp; omega

theorem limbs_lt_pow (n : Nat) : n < 10000 ^ (limbs n).length := by
  have := val_lt (limbs_ok n); rwa [val_limbs] at this

theorem pow_le_of_len {n : Nat} (h : 0 < n) : 10000 ^ ((limbs n).length - 1) ≤ n := by
  rcases Nat.lt_or_ge n (10000 ^ ((limbs n).length - 1)) with h1 | h1
  · have := limbs_len_le h1
    have := limbs_length_pos h
    omega
  · exact h1

theorem limbs_len_mono {a b : Nat} (h : a ≤ b) : (limbs a).length ≤ (limbs b).length :=
  limbs_len_le (Nat.lt_of_le_of_lt h (limbs_lt_pow b))

theorem limbs_len_add (a b : Nat) : (limbs (a + b)).length ≤ max (limbs a).length (limbs b).length + 1 := by
  apply limbs_len_le
  have h1 := limbs_lt_pow a
  have h2 := limbs_lt_pow b
  have h3 : 10000 ^ (limbs a).length ≤ 10000 ^ (max (limbs a).length (limbs b).length) := Nat.pow_le_pow_right (by omega) (by omega)
  have h4 : 10000 ^ (limbs b).length ≤ 10000 ^ (max (limbs a).length (limbs b).length) := Nat.pow_le_pow_right (by omega) (by omega)
  rw [Nat.pow_succ]; omega

theorem limbs_len_mul (a b : Nat) : (limbs (a * b)).length ≤ (limbs a).length + (limbs b).length := by
  apply limbs_len_le
  rcases Nat.eq_zero_or_pos b with h0 | h0
  · subst h0; simp; exact Nat.pow_pos (by omega)
  · rw [Nat.pow_add]
    exact Nat.mul_lt_mul_of_lt_of_le (limbs_lt_pow a) (Nat.le_of_lt (limbs_lt_pow b)) (Nat.pow_pos (by omega))

/-- The least zeros of a magnitude: what 'whole' cuts. -/
theorem limbs_len_le_of_val {l : List Nat} (h : Ok l) : (limbs (val l)).length ≤ l.length := limbs_len_le (val_lt h)


theorem drop_eq {l : List Nat} {k : Nat} (h : k < l.length) : l.drop k = l.getD k 0 :: l.drop (k + 1) := by
  rw [List.drop_eq_getElem_cons h]; simp [List.getD, List.getElem?_eq_getElem h]

theorem val_split (l : List Nat) (k : Nat) (h : k ≤ l.length) : val l = val (l.take k) + 10000 ^ k * val (l.drop k) := by
  conv => lhs; rw [← List.take_append_drop k l]
  rw [val_append]; simp [Nat.min_eq_left h]

theorem val_lt_at {a b : List Nat} {k : Nat} (ha : Ok a) (hb : Ok b) (hk : k < a.length) (hl : a.length = b.length) (hd : a.drop (k + 1) = b.drop (k + 1)) (h : a.getD k 0 < b.getD k 0) : val a < val b := by
  rw [val_split a k (by omega), val_split b k (by omega), drop_eq hk, drop_eq (by omega : k < b.length), hd]
  simp only [val]
  have h1 := val_lt (ha.take k)
  have e : (a.take k).length = k := by simp; omega
  rw [e] at h1
  have h2 : 10000 ^ k * (a.getD k 0 + 10000 * val (b.drop (k + 1)) + 1) ≤ 10000 ^ k * (b.getD k 0 + 10000 * val (b.drop (k + 1))) := Nat.mul_le_mul_left _ (by omega)
  rw [Nat.mul_add (10000 ^ k) _ 1] at h2
  omega

theorem val_lt_len {a b : List Nat} (ha : Ok a) (hb : Last b) (h : a.length < b.length) : val a < val b := by
  have h1 := val_lt ha
  have h2 : 0 < b.getD (b.length - 1) 0 := Nat.pos_of_ne_zero (hb (by intro e; subst e; simp at h))
  rw [val_split b (b.length - 1) (by omega), drop_eq (by omega)]
  simp only [val]
  have h3 : 10000 ^ a.length ≤ 10000 ^ (b.length - 1) := Nat.pow_le_pow_right (by omega) (by omega)
  have h4 : 10000 ^ (b.length - 1) * 1 ≤ 10000 ^ (b.length - 1) * (b.getD (b.length - 1) 0 + 10000 * val (b.drop (b.length - 1 + 1))) := Nat.mul_le_mul_left _ (by omega)
  omega

/-- What the lengths decide. -/
theorem sgn_len {a b : List Nat} (ha : Ok a) (hb : Ok b) (la : Last a) (lb : Last b) (h : sgn a.length b.length ≠ 0) : sgn (val a) (val b) = sgn a.length b.length := by
  unfold sgn at h
  rcases Nat.lt_trichotomy a.length b.length with h1 | h1 | h1
  · rw [sgn_lt h1, sgn_lt (val_lt_len ha lb h1)]
  · simp [h1] at h
  · rw [sgn_gt h1, sgn_gt (val_lt_len hb la h1)]

theorem sgn_at {a b : List Nat} {k : Nat} (ha : Ok a) (hb : Ok b) (hk : k < a.length) (hl : a.length = b.length) (hd : a.drop (k + 1) = b.drop (k + 1)) (h : sgn (a.getD k 0) (b.getD k 0) ≠ 0) : sgn (val a) (val b) = sgn (a.getD k 0) (b.getD k 0) := by
  rcases Nat.lt_trichotomy (a.getD k 0) (b.getD k 0) with h1 | h1 | h1
  · rw [sgn_lt h1, sgn_lt (val_lt_at ha hb hk hl hd h1)]
  · rw [h1, sgn_self] at h; exact absurd rfl h
  · rw [sgn_gt h1, sgn_gt (val_lt_at hb ha (by omega) hl.symm hd.symm h1)]

/-- The relation of the loop of plus: k limbs are there. -/
def PlusRel (m o : List Nat) (k c : Nat) (xs : List Nat) : Prop :=
  xs.length = k ∧ Ok xs ∧ c ≤ 1 ∧ val xs + 10000 ^ k * c = val (m.take k) + val (o.take k)

theorem val_take_succ (l : List Nat) (k : Nat) : val (l.take (k + 1)) = val (l.take k) + 10000 ^ k * l.getD k 0 := by
  rcases Nat.lt_or_ge k l.length with h | h
  · rw [List.take_succ_eq_append_getElem h, val_snoc]
    simp [List.getD, List.getElem?_eq_getElem h, Nat.min_eq_left (Nat.le_of_lt h)]
  · rw [List.take_of_length_le (by omega), List.take_of_length_le (by omega)]
    simp [List.getD, List.getElem?_eq_none h]

theorem PlusRel.start (m o : List Nat) : PlusRel m o 0 0 [] := ⟨rfl, Ok.nil, by omega, by simp [val]⟩

theorem PlusRel.step {m o : List Nat} {k c : Nat} {xs : List Nat} (h : PlusRel m o k c xs) {n : Nat} (hn : n = m.getD k 0 + c + o.getD k 0) (hm : m.getD k 0 < 10000) (ho : o.getD k 0 < 10000) :
    PlusRel m o (k + 1) (n / 10000) (xs ++ [n % 10000]) := by
  obtain ⟨h1, h2, h3, h4⟩ := h
  refine ⟨by simp [h1], h2.append (Ok.cons (Nat.mod_lt _ (by omega)) Ok.nil), by omega, ?_⟩
  rw [val_snoc, h1, val_take_succ, val_take_succ, Nat.pow_succ]
  have e : n % 10000 + 10000 * (n / 10000) = n := Nat.mod_add_div n 10000
  have e2 : 10000 ^ k * (n % 10000) + 10000 ^ k * 10000 * (n / 10000) = 10000 ^ k * n := by
    rw [Nat.mul_assoc, ← Nat.mul_add, e]
  have e3 : 10000 ^ k * n = 10000 ^ k * m.getD k 0 + 10000 ^ k * c + 10000 ^ k * o.getD k 0 := by rw [hn, Nat.mul_add, Nat.mul_add]
  omega

/-- The relation of the loop of minus: k limbs are there, and what is borrowed. -/
def MinusRel (m o : List Nat) (k c : Nat) (xs : List Nat) : Prop :=
  xs.length = k ∧ Ok xs ∧ c ≤ 1 ∧ val xs + val (o.take k) = val (m.take k) + 10000 ^ k * c

theorem MinusRel.start (m o : List Nat) : MinusRel m o 0 0 [] := ⟨rfl, Ok.nil, by omega, by simp [val]⟩

theorem MinusRel.step {m o : List Nat} {k c : Nat} {xs : List Nat} (h : MinusRel m o k c xs) {n c' : Nat} (hn : n + c + o.getD k 0 = m.getD k 0 + 10000 * c') (hn1 : n < 10000) (hc : c' ≤ 1) :
    MinusRel m o (k + 1) c' (xs ++ [n]) := by
  obtain ⟨h1, h2, h3, h4⟩ := h
  refine ⟨by simp [h1], h2.append (Ok.cons hn1 Ok.nil), hc, ?_⟩
  rw [val_snoc, h1, val_take_succ, val_take_succ, Nat.pow_succ]
  have e3 : 10000 ^ k * (n + c + o.getD k 0) = 10000 ^ k * (m.getD k 0 + 10000 * c') := by rw [hn]
  rw [Nat.mul_add, Nat.mul_add, Nat.mul_add, ← Nat.mul_assoc] at e3
  omega

theorem MinusRel.done {m o : List Nat} {c : Nat} {xs : List Nat} (h : MinusRel m o m.length c xs) (hl : o.length ≤ m.length) (hv : val o ≤ val m) : val xs = val m - val o := by
  have h4 := h.2.2.2
  have h5 := val_lt h.2.1
  rw [h.1] at h5
  rw [List.take_length, List.take_of_length_le hl] at h4
  have h3 := h.2.2.1
  rcases Nat.eq_zero_or_pos c with h0 | h0
  · subst h0; omega
  · obtain rfl : c = 1 := by omega
    omega


theorem val_put {A : List Nat} {j x : Nat} (hj : j < A.length) : val (A.set j x) + 10000 ^ j * A.getD j 0 = val A + 10000 ^ j * x := by
  rw [val_split (A.set j x) j (by simp; omega), val_split A j (by omega), List.take_set_of_le (Nat.le_refl _), drop_eq (l := A) hj, drop_eq (l := A.set j x) (by simpa using hj), List.drop_set_of_lt (by omega)]
  have e : (A.set j x).getD j 0 = x := by simp [List.getD, hj]
  rw [e]
  simp only [val, Nat.mul_add]
  omega

theorem getD_put {A : List Nat} {j k x : Nat} (h : j ≠ k) : (A.set j x).getD k 0 = A.getD k 0 := by
  simp [List.getD, List.getElem?_set, h]


theorem limbs_len_cut {N x : Nat} {xs : List Nat} (h : limbs N = xs ++ limbs x) : xs.length ≤ (limbs N).length := by
  have := congrArg List.length h
  simp at this; omega

theorem limbs_cut {N x : Nat} {xs : List Nat} (h : limbs N = xs ++ limbs x) (hx : 0 < x) : limbs N = (xs ++ [x % 10000]) ++ limbs (x / 10000) := by
  rw [h, limbs_pos hx, List.append_assoc, List.singleton_append]

open Go.Lib (decDigits itoa nDigits)


theorem pow4 (m : Nat) : 10000 ^ m = 10 ^ (4 * m) := by rw [show (10000 : Nat) = 10 ^ 4 from rfl, ← Nat.pow_mul]

theorem drop_chunk (ds : List UInt8) {a e : Nat} (h : a ≤ e) (he : e ≤ ds.length) : ds.drop a = (ds.take e).drop a ++ ds.drop e := by
  conv => lhs; rw [← List.take_append_drop e ds]
  rw [List.drop_append]
  have : a - (ds.take e).length = 0 := by simp; omega
  rw [this, List.drop_zero]

theorem chunk_len (ds : List UInt8) {e : Nat} (he : e ≤ ds.length) : ((ds.take e).drop (e - 4)).length ≤ 4 := by simp; omega

theorem rd_chunk {ds : List UInt8} {e : Nat} {xs : List Nat} (hd : Dig ds) (he : 0 < e) (hle : e ≤ ds.length) (hm : ds.length - e = 4 * xs.length) (hv : val xs = rd 0 (ds.drop e)) (ho : Ok xs) :
    val (xs ++ [rd 0 ((ds.take e).drop (e - 4))]) = rd 0 (ds.drop (e - 4)) ∧ rd 0 ((ds.take e).drop (e - 4)) < 10000 ∧ Ok (xs ++ [rd 0 ((ds.take e).drop (e - 4))]) := by
  have hlt : rd 0 ((ds.take e).drop (e - 4)) < 10000 := by
    have h1 := rd_lt ((hd.take e).drop (e - 4))
    have h2 : 10 ^ ((ds.take e).drop (e - 4)).length ≤ 10 ^ 4 := Nat.pow_le_pow_right (by omega) (chunk_len ds hle)
    omega
  refine ⟨?_, hlt, ho.append (Ok.cons hlt Ok.nil)⟩
  rw [val_snoc, drop_chunk ds (show e - 4 ≤ e by omega) hle, rd_append, hv, pow4]
  have e1 : (ds.drop e).length = 4 * xs.length := by simp; omega
  rw [e1, Nat.mul_comm]; omega

end Go.Proofs.YtpmlmibceiolpaaGreatDoor.D4

/- What a slice of ints reads as in a world: a list of numbers; turned from the slices of limbs. -/
set_option linter.unusedSimpArgs false
set_option linter.unusedVariables false
namespace Go.Proofs.YtpmlmibceiolpaaGreatDoor.D4
open Go.RowKit

/-- The cells from an address on hold these words; the block is one of uint32. -/
def Cells (w : World) (b o : Nat) (l : List Nat) : Prop := (∃ cs f, w.heap[b]? = some (.cells cs 3 f)) ∧ ∀ i, i < l.length → w.cell? ⟨b, o + i, none⟩ = some (.int .i64 (l.getD i 0))

theorem Cells.lt {w : World} {b o : Nat} {l : List Nat} (h : Cells w b o l) : b < w.heap.size := by
  obtain ⟨⟨cs, f, h⟩, _⟩ := h
  exact (Array.getElem?_eq_some_iff.1 h).1

/-- A slice of uint32 that reads as a list. -/
def Lim (w : World) (v : Value) (l : List Nat) : Prop :=
  ∃ a cap, v = .slice a l.length cap ∧ l.length ≤ cap ∧ cap ≤ maxLen ∧ (l = [] ∨ ∃ b o, a = some ⟨b, o, none⟩ ∧ Cells w b o l)

theorem Cells.below {w w' : World} {b o : Nat} {l : List Nat} (h : Cells w b o l) {B : Nat} (hb : Below B w w') (hB : b < B) : Cells w' b o l :=
  ⟨by obtain ⟨cs, f, h⟩ := h.1; exact ⟨cs, f, (hb.block b hB).trans h⟩, fun i hi => (hb.cell (p := ⟨b, o + i, none⟩) hB).trans (h.2 i hi)⟩

theorem Lim.below {w w' : World} {v : Value} {l : List Nat} (h : Lim w v l) (hb : Below w.heap.size w w') : Lim w' v l := by
  obtain ⟨a, cap, hv, h1, h2, h3⟩ := h
  refine ⟨a, cap, hv, h1, h2, h3.imp id ?_⟩
  rintro ⟨b, o, ha, hc⟩
  exact ⟨b, o, ha, hc.below hb hc.lt⟩

theorem Lim.nil (w : World) : Lim w (.slice none 0 0) [] := ⟨none, 0, rfl, Nat.le_refl _, by unfold maxLen; omega, .inl rfl⟩

/-- A store into a block of another element type. -/
theorem Cells.far {w : World} {b o g i : Nat} {t : TypeId} {cs : Array Value} {l : List Nat} (h : Cells w b o l) (hg : Blk w g t cs) (ht : t ≠ 3) (u : Value) : Cells (w.setCell ⟨g, i, none⟩ u) b o l := by
  obtain ⟨⟨cs', f, h1⟩, h2⟩ := h
  have hne : g ≠ b := Blk.ne_ hg h1 ht
  refine ⟨⟨cs', f, (Below.heap_setCell w ⟨g, i, none⟩ u b (fun e => hne e.symm)).trans h1⟩, fun k hk => ?_⟩
  rw [← h2 k hk]
  exact World.cell?_of_block (w := w) (Below.heap_setCell w ⟨g, i, none⟩ u b (fun e => hne e.symm))

theorem Lim.far {w : World} {v : Value} {g i : Nat} {t : TypeId} {cs : Array Value} {l : List Nat} (h : Lim w v l) (hg : Blk w g t cs) (ht : t ≠ 3) (u : Value) : Lim (w.setCell ⟨g, i, none⟩ u) v l := by
  obtain ⟨a, cap, hv, h1, h2, h3⟩ := h
  refine ⟨a, cap, hv, h1, h2, h3.imp id ?_⟩
  rintro ⟨b, o, ha, hc⟩
  exact ⟨b, o, ha, hc.far hg ht u⟩

/-- Either there are no limbs, or they lie in memory. -/
theorem Lim.cases {w : World} {v : Value} {l : List Nat} (h : Lim w v l) :
    (l = [] ∧ ∃ a cap, v = .slice a 0 cap ∧ cap ≤ maxLen) ∨ (∃ b o cap, v = .slice (some ⟨b, o, none⟩) l.length cap ∧ 0 < l.length ∧ l.length ≤ cap ∧ cap ≤ maxLen ∧ Cells w b o l) := by
  obtain ⟨a, cap, hv, h1, h2, h3⟩ := h
  rcases h3 with h3 | ⟨b, o, ha, hc⟩
  · subst h3; exact .inl ⟨rfl, a, cap, hv, h2⟩
  · subst ha
    rcases Nat.eq_zero_or_pos l.length with h0 | h0
    · have : l = [] := List.length_eq_zero_iff.1 h0
      subst this; exact .inl ⟨rfl, _, cap, hv, h2⟩
    · exact .inr ⟨b, o, cap, hv, h0, h1, h2, hc⟩

theorem Lim.drawn {w w' : World} {v : Value} {l : List Nat} (h : Lim w v l) (hd : Drawn w w') : Lim w' v l := by obtain ⟨n, rfl⟩ := hd; exact h

theorem Lim.drew {w : World} {v : Value} {l : List Nat} (h : Lim w v l) : Lim w.drew v l := h

/-- A slice of uint32 of the call's own, from block B on. -/
def Row (w : World) (B : Nat) (v : Value) (l : List Nat) : Prop := w.ownsRow B 3 1 v l.length (l.map fun (x : Nat) => Value.int .i64 x)

theorem Row.lim {w : World} {B : Nat} {v : Value} {l : List Nat} (h : Row w B v l) : Lim w v l := by
  obtain ⟨hl, h⟩ := h
  rcases h with ⟨rfl, h0⟩ | ⟨g, cap, cur, rfl, hB, hg, hn, hm, hc, ht⟩
  · obtain rfl : l = [] := List.length_eq_zero_iff.1 h0
    exact Lim.nil w
  · refine ⟨_, cap, rfl, hn, hm, .inr ⟨g, 0, rfl, ⟨_, _, hg⟩, fun i hi => ?_⟩⟩
    rw [cell_of_row w g (0 + i) cur 3 (0, 0) hg]
    have h1 : (cur.toList.take (l.length * 1))[i]? = some (.int .i64 (l.getD i 0)) := by
      rw [ht]; simp [List.getD, List.getElem?_eq_getElem hi]
    rw [List.getElem?_take, if_pos (by omega)] at h1
    simpa using h1

theorem int_oneCell (l : List Nat) : ∀ u ∈ l.map (fun (x : Nat) => Value.int .i64 x), u.oneCell' = true := by
  intro u hu
  obtain ⟨_, _, rfl⟩ := List.mem_map.1 hu
  rfl

theorem cell_new_int (w : World) (t : TypeId) (x : Int) : ∀ j u, [Value.int .i64 x][j]? = some u → (w.alloc (.cells #[.int .i64 x] t)).cell? ((⟨w.heap.size, 0, none⟩ : Addr).add j) = some u := by
  intro j u hj
  match j, hj with
  | 0, hj => simp at hj; subst hj; simp [Addr.add]

theorem Row.snoc {w : World} {B : Nat} {v : Value} {l : List Nat} {q : Nat} {z : Int} (h : w.ownsRow B 3 1 v (l.length + 1) (l.map (fun (x : Nat) => Value.int .i64 x) ++ [.int .i64 z])) (hz : z = (q : Int)) : Row w B v (l ++ [q]) := by
  subst hz
  unfold Row
  simpa using h

theorem info64 : (Tryz.prog.info? 3).map (fun i => (i.zero, i.size, i.bytes)) = some (some (.int .i64 0), 1, 8) := by kernel_rfl

theorem Row.len {w : World} {B : Nat} {v : Value} {l : List Nat} (h : Row w B v l) : ∃ a, ∃ c : Nat, v = .slice a l.length c := by
  obtain ⟨hl, h⟩ := h
  rcases h with ⟨rfl, h0⟩ | ⟨g, cap, cur, rfl, _⟩
  · exact ⟨none, 0, by rw [h0]⟩
  · exact ⟨_, cap, rfl⟩

theorem Row.nil (w : World) (B : Nat) : Row w B (.slice none 0 0) [] := World.ownsRow_nil _ _ _ _

theorem Row.ne {w : World} {B g : Nat} {v : Value} {l : List Nat} (h : Row w B v l) (hg : g < B) : some g ≠ v.ownBlock := by
  intro e
  have := World.ownsRow.lt h g e.symm
  omega

theorem Row.far {w : World} {B g i : Nat} {v u : Value} {l : List Nat} (h : Row w B v l) (hg : some g ≠ v.ownBlock) : Row (w.setCell ⟨g, i, none⟩ u) B v l :=
  World.ownsRow.kept (row := some g) h ⟨rfl, rfl, rfl, by simp [World.setCell], fun k _ hk => Below.heap_setCell _ _ _ _ (fun e => hk (by simp [e]))⟩ (Or.inr (fun e => hg e.symm))

/-- A row of limbs, as cells. -/
def arr (A : List Nat) : Array Value := (A.map fun (x : Nat) => Value.int .i64 x).toArray

theorem arr_set (A : List Nat) (j x : Nat) : (arr A).setIfInBounds j (.int .i64 x) = arr (A.set j x) := by simp [arr]

theorem arr_get {A : List Nat} {j : Nat} (h : j < A.length) : (arr A)[j]? = some (.int .i64 (A.getD j 0 : Nat)) := by simp [arr, List.getD, List.getElem?_eq_getElem h]

theorem blk_at_ {w : World} {g : Nat} {A : List Nat} (h : Blk w g 3 (arr A)) {j : Nat} (hj : j < A.length) : w.cell? ⟨g, j, none⟩ = some (.int .i64 (A.getD j 0 : Nat)) := (h.cell j).trans (arr_get hj)

theorem blk_put {w : World} {g : Nat} {A : List Nat} (h : Blk w g 3 (arr A)) (j x : Nat) {z : Int} (hz : z = (x : Int)) : Blk (w.setCell ⟨g, j, none⟩ (.int .i64 z)) g 3 (arr (A.set j x)) := by
  subst hz
  have := h.set_ j (.int .i64 x)
  rwa [arr_set] at this

theorem blk_lim {w : World} {g : Nat} {A : List Nat} (h : Blk w g 3 (arr A)) (hm : A.length ≤ 2147483648) : Lim w (.slice (some ⟨g, 0, none⟩) A.length A.length) A := by
  refine ⟨_, _, rfl, Nat.le_refl _, by unfold maxLen; omega, .inr ⟨g, 0, rfl, ⟨_, _, h⟩, fun i hi => ?_⟩⟩
  rw [Nat.zero_add]
  exact blk_at_ h hi

theorem madeZeros (n : Nat) : madeCells (Value.int .i64 0).cells (n * 1) = arr (List.replicate n 0) := by
  apply Array.ext'
  rw [show (Value.int .i64 0).cells = #[Value.int .i64 0] from rfl, Nat.mul_one, toList_madeCells_one]
  simp [arr]

end Go.Proofs.YtpmlmibceiolpaaGreatDoor.D4
