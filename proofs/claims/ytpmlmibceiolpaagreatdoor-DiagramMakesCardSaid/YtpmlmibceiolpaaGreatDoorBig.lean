/- Plain facts on lists of limbs in base 10^9 (no program in sight). -/
set_option linter.unusedSimpArgs false
set_option linter.unusedVariables false
namespace Go.Proofs.YtpmlmibceiolpaaGreatDoor

/-- The value of limbs, the least first. -/
def val : List Nat → Nat
  | [] => 0
  | x :: xs => x + 1000000000 * val xs

/-- All limbs are less than the base. -/
def Ok (l : List Nat) : Prop := ∀ x ∈ l, x < 1000000000

def limbsF : Nat → Nat → List Nat
  | 0, _ => []
  | f + 1, n => if n = 0 then [] else n % 1000000000 :: limbsF f (n / 1000000000)

/-- The canonical limbs of a number. -/
def limbs (n : Nat) : List Nat := limbsF n n

theorem limbsF_more (f g n : Nat) (hf : n ≤ f) (hg : n ≤ g) : limbsF f n = limbsF g n := by
  induction f generalizing g n with
  | zero => cases g with
    | zero => rfl
    | succ g => have : n = 0 := by omega
                subst this; simp [limbsF]
  | succ f ih => cases g with
    | zero => have : n = 0 := by omega
              subst this; simp [limbsF]
    | succ g =>
      simp only [limbsF]
      split
      · rfl
      · rw [ih g (n / 1000000000) (by omega) (by omega)]

theorem limbs_zero : limbs 0 = [] := rfl

theorem limbs_pos {n : Nat} (h : 0 < n) : limbs n = n % 1000000000 :: limbs (n / 1000000000) := by
  unfold limbs
  cases n with
  | zero => omega
  | succ n =>
    simp only [limbsF]
    rw [if_neg (by omega), limbsF_more n ((n + 1) / 1000000000) _ (by omega) (by omega)]

theorem val_limbs (n : Nat) : val (limbs n) = n := by
  induction n using Nat.strongRecOn with
  | _ n ih =>
    rcases Nat.eq_zero_or_pos n with h | h
    · subst h; rfl
    · rw [limbs_pos h, val, ih _ (by omega)]; omega

theorem Ok.nil : Ok [] := fun _ h => by cases h
theorem Ok.cons {x : Nat} {l : List Nat} (hx : x < 1000000000) (h : Ok l) : Ok (x :: l) := by
  intro y hy
  rcases List.mem_cons.1 hy with rfl | hy
  · exact hx
  · exact h y hy
theorem Ok.append {a b : List Nat} (ha : Ok a) (hb : Ok b) : Ok (a ++ b) := by
  intro y hy
  rcases List.mem_append.1 hy with h | h
  · exact ha y h
  · exact hb y h
theorem Ok.head {x : Nat} {l : List Nat} (h : Ok (x :: l)) : x < 1000000000 := h x (by simp)
theorem Ok.tail {x : Nat} {l : List Nat} (h : Ok (x :: l)) : Ok l := fun y hy => h y (by simp [hy])
theorem Ok.left {a b : List Nat} (h : Ok (a ++ b)) : Ok a := fun y hy => h y (by simp [hy])
theorem Ok.right {a b : List Nat} (h : Ok (a ++ b)) : Ok b := fun y hy => h y (by simp [hy])
theorem Ok.take {l : List Nat} (h : Ok l) (k : Nat) : Ok (l.take k) := fun y hy => h y (List.mem_of_mem_take hy)
theorem Ok.drop {l : List Nat} (h : Ok l) (k : Nat) : Ok (l.drop k) := fun y hy => h y (List.mem_of_mem_drop hy)
theorem Ok.get {l : List Nat} (h : Ok l) {i : Nat} (hi : i < l.length) : l[i] < 1000000000 := h _ (List.getElem_mem hi)
theorem Ok.getD {l : List Nat} (h : Ok l) (i : Nat) : l.getD i 0 < 1000000000 := by
  rcases Nat.lt_or_ge i l.length with hi | hi
  · simpa [List.getD, List.getElem?_eq_getElem hi] using h.get hi
  · simp [List.getD, List.getElem?_eq_none hi]
theorem Ok.zeros (k : Nat) : Ok (List.replicate k 0) := fun y hy => by
  rw [List.eq_of_mem_replicate hy]; omega
theorem Ok.set {l : List Nat} (h : Ok l) (i x : Nat) (hx : x < 1000000000) : Ok (l.set i x) := fun y hy => by
  rcases List.mem_or_eq_of_mem_set hy with h1 | h1
  · exact h y h1
  · omega

theorem limbs_ok (n : Nat) : Ok (limbs n) := by
  induction n using Nat.strongRecOn with
  | _ n ih =>
    rcases Nat.eq_zero_or_pos n with h | h
    · subst h; exact Ok.nil
    · rw [limbs_pos h]; exact Ok.cons (by omega) (ih _ (by omega))

theorem val_append (a b : List Nat) : val (a ++ b) = val a + 1000000000 ^ a.length * val b := by
  induction a with
  | nil => simp [val]
  | cons x a ih => simp only [List.cons_append, val, ih, List.length_cons, Nat.pow_succ]; rw [Nat.mul_add, ← Nat.mul_assoc, Nat.mul_comm (1000000000 ^ a.length) 1000000000]; omega

theorem val_snoc (a : List Nat) (x : Nat) : val (a ++ [x]) = val a + 1000000000 ^ a.length * x := by
  rw [val_append]; simp [val]

theorem val_zeros (k : Nat) : val (List.replicate k 0) = 0 := by
  induction k with
  | zero => rfl
  | succ k ih => rw [List.replicate_succ, val, ih]

theorem val_lt {l : List Nat} (h : Ok l) : val l < 1000000000 ^ l.length := by
  induction l with
  | nil => simp [val]
  | cons x l ih =>
    have h1 := ih h.tail
    have h2 := h.head
    simp only [val, List.length_cons, Nat.pow_succ]
    have h3 : 1000000000 * (val l + 1) ≤ 1000000000 * 1000000000 ^ l.length := Nat.mul_le_mul_left _ h1
    rw [Nat.mul_comm (1000000000 ^ l.length)]
    omega

/-- Limbs whose last one is not zero. -/
def Last (l : List Nat) : Prop := l ≠ [] → l.getD (l.length - 1) 0 ≠ 0

theorem val_eq_zero {l : List Nat} (h : val l = 0) (hl : Last l) : l = [] := by
  cases l with
  | nil => rfl
  | cons x t =>
    exfalso
    have hz : ∀ (l : List Nat), val l = 0 → ∀ i, l.getD i 0 = 0 := by
      intro l
      induction l with
      | nil => intro _ i; simp
      | cons y l ih =>
        intro h i
        simp only [val] at h
        cases i with
        | zero => simp; omega
        | succ i => simpa using ih (by omega) i
    exact hl (by simp) (hz _ h _)

theorem limbs_val {l : List Nat} (h : Ok l) (hl : Last l) : limbs (val l) = l := by
  induction l with
  | nil => rfl
  | cons x t ih =>
    have hx := h.head
    have ht : Last t := by
      intro hne
      have := hl (by simp)
      cases t with
      | nil => exact absurd rfl hne
      | cons y t => simpa using this
    have hp : 0 < val (x :: t) := by
      rcases Nat.eq_zero_or_pos (val (x :: t)) with h0 | h0
      · exact absurd (val_eq_zero h0 hl) (by simp)
      · exact h0
    rw [limbs_pos hp]
    have e1 : val (x :: t) % 1000000000 = x := by simp only [val]; omega
    have e2 : val (x :: t) / 1000000000 = val t := by simp only [val]; omega
    rw [e1, e2, ih h.tail ht]

theorem limbs_last (n : Nat) : Last (limbs n) := by
  induction n using Nat.strongRecOn with
  | _ n ih =>
    rcases Nat.eq_zero_or_pos n with h | h
    · subst h; intro h; exact absurd rfl h
    · rw [limbs_pos h]
      intro _
      rcases Nat.eq_zero_or_pos (n / 1000000000) with h1 | h1
      · rw [h1, limbs_zero]; simp; omega
      · have := ih (n / 1000000000) (by omega)
        have hne : limbs (n / 1000000000) ≠ [] := by rw [limbs_pos h1]; simp
        have h2 := this hne
        have hlen : 0 < (limbs (n / 1000000000)).length := List.length_pos_iff.2 hne
        have e : (n % 1000000000 :: limbs (n / 1000000000)).length - 1 = (limbs (n / 1000000000)).length - 1 + 1 := by simp; omega
        rw [e]; simpa using h2

theorem limbs_inj {a b : Nat} (h : limbs a = limbs b) : a = b := by rw [← val_limbs a, h, val_limbs]

theorem limbs_eq_nil {n : Nat} : limbs n = [] ↔ n = 0 := by
  constructor
  · intro h; rw [← val_limbs n, h]; rfl
  · rintro rfl; rfl

theorem limbs_length_pos {n : Nat} (h : 0 < n) : 0 < (limbs n).length := by rw [limbs_pos h]; simp

/-- One zero at the end goes. -/
theorem val_dropLast {l : List Nat} (hne : l ≠ []) (h : l.getD (l.length - 1) 0 = 0) : val l = val (l.take (l.length - 1)) := by
  have hl : 0 < l.length := List.length_pos_iff.2 hne
  have e : l = l.take (l.length - 1) ++ [l.getD (l.length - 1) 0] := by
    have h1 : l.length - 1 < l.length := by omega
    conv => lhs; rw [← List.take_append_drop (l.length - 1) l]
    congr 1
    rw [List.drop_eq_getElem_cons h1, List.drop_of_length_le (by omega)]
    simp [List.getD, List.getElem?_eq_getElem h1]
  conv => lhs; rw [e]
  rw [val_snoc, h]; simp

/-- The number of limbs: at most k just where the number is below the k-th power. -/
theorem limbs_len_le {n k : Nat} (h : n < 1000000000 ^ k) : (limbs n).length ≤ k := by
  induction k generalizing n with
  | zero => have : n = 0 := by simp at h; exact h
            subst this; simp [limbs_zero]
  | succ k ih =>
    rcases Nat.eq_zero_or_pos n with h0 | h0
    · subst h0; simp [limbs_zero]
    · rw [limbs_pos h0]
      have := ih (n := n / 1000000000) (by rw [Nat.pow_succ] at h; omega)
      simp; omega

theorem limbs_lt_pow (n : Nat) : n < 1000000000 ^ (limbs n).length := by
  have := val_lt (limbs_ok n); rwa [val_limbs] at this

theorem pow_le_of_len {n : Nat} (h : 0 < n) : 1000000000 ^ ((limbs n).length - 1) ≤ n := by
  rcases Nat.lt_or_ge n (1000000000 ^ ((limbs n).length - 1)) with h1 | h1
  · have := limbs_len_le h1
    have := limbs_length_pos h
    omega
  · exact h1

theorem limbs_len_mono {a b : Nat} (h : a ≤ b) : (limbs a).length ≤ (limbs b).length :=
  limbs_len_le (Nat.lt_of_le_of_lt h (limbs_lt_pow b))

theorem limbs_len_add (a b : Nat) : (limbs (a + b)).length ≤ max (limbs a).length (limbs b).length + 1 := by
  apply limbs_len_le
  have h1 := limbs_lt_pow a
  have h2 := limbs_lt_pow b
  have h3 : 1000000000 ^ (limbs a).length ≤ 1000000000 ^ (max (limbs a).length (limbs b).length) := Nat.pow_le_pow_right (by omega) (by omega)
  have h4 : 1000000000 ^ (limbs b).length ≤ 1000000000 ^ (max (limbs a).length (limbs b).length) := Nat.pow_le_pow_right (by omega) (by omega)
  rw [Nat.pow_succ]; omega

theorem limbs_len_mul (a b : Nat) : (limbs (a * b)).length ≤ (limbs a).length + (limbs b).length := by
  apply limbs_len_le
  rcases Nat.eq_zero_or_pos b with h0 | h0
  · subst h0; simp; exact Nat.pow_pos (by omega)
  · rw [Nat.pow_add]
    exact Nat.mul_lt_mul_of_lt_of_le (limbs_lt_pow a) (Nat.le_of_lt (limbs_lt_pow b)) (Nat.pow_pos (by omega))

/-- The least zeros of a magnitude: what 'whole' cuts. -/
theorem limbs_len_le_of_val {l : List Nat} (h : Ok l) : (limbs (val l)).length ≤ l.length := limbs_len_le (val_lt h)

end Go.Proofs.YtpmlmibceiolpaaGreatDoor
