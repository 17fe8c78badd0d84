/- Diagrams of functions of bits: plain facts (no program in sight). -/
import Derived.Test.YtpmlmibceiolpaaGreatDoorTFit
set_option linter.unusedSimpArgs false
set_option linter.unusedVariables false
namespace Go.Proofs.YtpmlmibceiolpaaGreatDoor

/-- A node: Var, Low, High, Leaf. -/
abbrev Nd := Int × Int × Int × List UInt8
def nd0 : Nd := (0, 0, 0, [])

/-- The list with a node, and the node's index. -/
def putN (l : List Nd) (n : Nd) : List Nd × Nat := (if n ∈ l then l else l ++ [n], l.idxOf n)

/-- The nodes of the function of the variables from m - k on, those before them being as in x. -/
def growN (f : Nat → List UInt8) (m : Nat) : Nat → Nat → List Nd → List Nd × Nat
  | 0, x, l => putN l ((m : Int), 0, 0, f x)
  | k + 1, x, l =>
    let a := growN f m k x l
    let b := growN f m k (x + 2 ^ (m - (k + 1))) a.1
    if a.2 = b.2 then (b.1, a.2) else putN b.1 (((m - (k + 1) : Nat) : Int), (a.2 : Int), (b.2 : Int), [])

def madeN (f : Nat → List UInt8) (m : Nat) : List Nd := (growN f m m 0 []).1

/-- The number that is found from a node on. -/
def evN (m : Nat) (l : List Nd) : Nat → Nat → Nat → List UInt8
  | 0, i, _ => (l.getD i nd0).2.2.2
  | k + 1, i, y =>
    let n := l.getD i nd0
    if n.1 < (m : Int) then evN m l k (if y.testBit n.1.toNat then n.2.2.1.toNat else n.2.1.toNat) y else n.2.2.2

def evD (m : Nat) (l : List Nd) (y : Nat) : List UInt8 := evN m l m (l.length - 1) y

/-- A leaf, or an inner node that leads to two earlier nodes of later variables. -/
def LeafOk (m : Nat) (n : Nd) : Prop := n.1 = (m : Int) ∧ n.2.1 = 0 ∧ n.2.2.1 = 0
def InnerOk (m : Nat) (l : List Nd) (i : Nat) (n : Nd) : Prop :=
  ∃ v lo hi : Nat, n = ((v : Int), (lo : Int), (hi : Int), []) ∧ v < m ∧ lo ≠ hi ∧ lo < i ∧ hi < i ∧ (v : Int) < (l.getD lo nd0).1 ∧ (v : Int) < (l.getD hi nd0).1
def WF (m : Nat) (l : List Nd) : Prop := ∀ i, i < l.length → LeafOk m (l.getD i nd0) ∨ InnerOk m l i (l.getD i nd0)

theorem getD_pre {l l' : List Nd} {i : Nat} (h : l <+: l') (hi : i < l.length) : l'.getD i nd0 = l.getD i nd0 := by
  obtain ⟨t, rfl⟩ := h
  rw [List.getD_eq_getElem?_getD, List.getD_eq_getElem?_getD, List.getElem?_append_left hi]
theorem pre_len {l l' : List Nd} (h : l <+: l') : l.length ≤ l'.length := h.length_le

theorem putN_pre (l : List Nd) (n : Nd) : l <+: (putN l n).1 := by
  unfold putN
  split
  · exact List.prefix_refl _
  · exact List.prefix_append _ _
theorem putN_lt (l : List Nd) (n : Nd) : (putN l n).2 < (putN l n).1.length := by
  unfold putN
  by_cases h : n ∈ l
  · rw [if_pos h]; exact List.idxOf_lt_length_of_mem h
  · rw [if_neg h]; have := List.idxOf_eq_length h; simp only [List.length_append, List.length_singleton]; omega
theorem putN_at (l : List Nd) (n : Nd) : (putN l n).1.getD (putN l n).2 nd0 = n := by
  unfold putN
  by_cases h : n ∈ l
  · rw [if_pos h]
    show l.getD (l.idxOf n) nd0 = n
    rw [List.getD_eq_getElem?_getD, List.getElem?_eq_getElem (List.idxOf_lt_length_of_mem h)]
    exact List.getElem_idxOf (List.idxOf_lt_length_of_mem h)
  · rw [if_neg h]
    show (l ++ [n]).getD (l.idxOf n) nd0 = n
    rw [List.idxOf_eq_length h, List.getD_eq_getElem?_getD]; simp
theorem putN_nodup {l : List Nd} {n : Nd} (h : l.Nodup) : (putN l n).1.Nodup := by
  unfold putN
  split
  · exact h
  · rename_i hn
    refine List.nodup_append.2 ⟨h, by simp, fun a ha b hb => ?_⟩
    rw [List.mem_singleton] at hb
    subst hb
    exact fun e => hn (e ▸ ha)
theorem putN_len (l : List Nd) (n : Nd) : (putN l n).1.length ≤ l.length + 1 := by
  unfold putN; split
  · show l.length ≤ _; omega
  · simp
theorem idxOf_getD {l : List Nd} (h : l.Nodup) {i : Nat} (hi : i < l.length) : l.idxOf (l.getD i nd0) = i := by
  rw [List.getD_eq_getElem?_getD, List.getElem?_eq_getElem hi]
  exact h.idxOf_getElem i hi
theorem mem_getD {l : List Nd} {i : Nat} (hi : i < l.length) : l.getD i nd0 ∈ l := by
  rw [List.getD_eq_getElem?_getD, List.getElem?_eq_getElem hi]; exact List.getElem_mem hi
theorem putN_old {l : List Nd} (h : l.Nodup) {i : Nat} (hi : i < l.length) : putN l (l.getD i nd0) = (l, i) := by
  unfold putN
  rw [if_pos (mem_getD hi), idxOf_getD h hi]

/-- More fuel than the variables left changes nothing. -/
theorem evN_more {m : Nat} {l : List Nd} (hw : WF m l) : ∀ (k k' i y : Nat), i < l.length → (m : Int) - (l.getD i nd0).1 ≤ k → k ≤ k' → evN m l k i y = evN m l k' i y
  | 0, 0, i, y, _, _, _ => rfl
  | 0, k' + 1, i, y, hi, hk, _ => by
    rw [evN, evN]
    rw [if_neg (by omega)]
  | k + 1, 0, i, y, _, _, h => by omega
  | k + 1, k' + 1, i, y, hi, hk, h => by
    rw [evN, evN]
    by_cases hlt : (l.getD i nd0).1 < (m : Int)
    · rw [if_pos hlt, if_pos hlt]
      rcases hw i hi with hl | ⟨v, lo, hi2, e, h1, h2, h3, h4, h5, h6⟩
      · have := hl.1; omega
      · rw [e] at hk hlt ⊢
        simp only at hk hlt ⊢
        split
        · rw [Int.toNat_natCast]; exact evN_more hw k k' _ y (by omega) (by omega) (by omega)
        · rw [Int.toNat_natCast]; exact evN_more hw k k' _ y (by omega) (by omega) (by omega)
    · rw [if_neg hlt, if_neg hlt]

/-- What a node is for does not hang on later nodes. -/
theorem evN_pre {m : Nat} {l l' : List Nd} (hw : WF m l) (hp : l <+: l') : ∀ (k i y : Nat), i < l.length → evN m l' k i y = evN m l k i y
  | 0, i, y, hi => by rw [evN, evN, getD_pre hp hi]
  | k + 1, i, y, hi => by
    rw [evN, evN, getD_pre hp hi]
    by_cases hlt : (l.getD i nd0).1 < (m : Int)
    · rw [if_pos hlt, if_pos hlt]
      rcases hw i hi with hl | ⟨v, lo, hi2, e, h1, h2, h3, h4, h5, h6⟩
      · have := hl.1; omega
      · rw [e]
        simp only
        split
        · rw [Int.toNat_natCast]; exact evN_pre hw hp k _ y (by omega)
        · rw [Int.toNat_natCast]; exact evN_pre hw hp k _ y (by omega)
    · rw [if_neg hlt, if_neg hlt]

theorem WF.put {m : Nat} {l : List Nd} {n : Nd} (hw : WF m l) (hn : LeafOk m n ∨ InnerOk m l l.length n) : WF m (putN l n).1 := by
  unfold putN
  split
  · exact hw
  · intro i hi
    simp only [List.length_append, List.length_singleton] at hi
    by_cases h : i < l.length
    · rw [getD_pre (List.prefix_append _ _) h]
      rcases hw i h with h1 | ⟨v, lo, hi2, e, h1, h2, h3, h4, h5, h6⟩
      · exact .inl h1
      · exact .inr ⟨v, lo, hi2, e, h1, h2, h3, h4, by rw [getD_pre (List.prefix_append _ _) (by omega)]; exact h5, by rw [getD_pre (List.prefix_append _ _) (by omega)]; exact h6⟩
    · obtain rfl : i = l.length := by omega
      have e0 : (l ++ [n]).getD l.length nd0 = n := by rw [List.getD_eq_getElem?_getD]; simp
      rw [e0]
      rcases hn with h1 | ⟨v, lo, hi2, e, h1, h2, h3, h4, h5, h6⟩
      · exact .inl h1
      · exact .inr ⟨v, lo, hi2, e, h1, h2, h3, h4, by rw [getD_pre (List.prefix_append _ _) (by omega)]; exact h5, by rw [getD_pre (List.prefix_append _ _) (by omega)]; exact h6⟩

/-- Values that agree with x in the variables before the v-th. -/
def Agr (v x y : Nat) : Prop := y % 2 ^ v = x
theorem agr_low {v x y : Nat} (h : Agr (v + 1) x y) (hx : x < 2 ^ v) : Agr v x y ∧ y.testBit v = false := by
  unfold Agr at h ⊢
  have hp : 2 ^ (v + 1) = 2 ^ v * 2 := Nat.pow_succ ..
  have h1 : y % 2 ^ (v + 1) % 2 ^ v = y % 2 ^ v := Nat.mod_mod_of_dvd _ ⟨2, hp⟩
  have h2 : y % 2 ^ v = x := by rw [← h1, h, Nat.mod_eq_of_lt hx]
  refine ⟨h2, ?_⟩
  have h3 := Nat.testBit_mod_two_pow y (v + 1) v
  rw [h] at h3
  simp only [Nat.lt_succ_self, decide_true, Bool.true_and] at h3
  rw [← h3]
  exact Nat.testBit_lt_two_pow hx
theorem agr_high {v x y : Nat} (h : Agr (v + 1) (x + 2 ^ v) y) (hx : x < 2 ^ v) : Agr v x y ∧ y.testBit v = true := by
  unfold Agr at h ⊢
  have hp : 2 ^ (v + 1) = 2 ^ v * 2 := Nat.pow_succ ..
  have h1 : y % 2 ^ (v + 1) % 2 ^ v = y % 2 ^ v := Nat.mod_mod_of_dvd _ ⟨2, hp⟩
  have h2 : y % 2 ^ v = x := by rw [← h1, h, Nat.add_mod_right, Nat.mod_eq_of_lt hx]
  refine ⟨h2, ?_⟩
  have h3 := Nat.testBit_mod_two_pow y (v + 1) v
  rw [h] at h3
  simp only [Nat.lt_succ_self, decide_true, Bool.true_and] at h3
  rw [← h3, Nat.add_comm, Nat.testBit_two_pow_add_eq, Nat.testBit_lt_two_pow hx]; rfl
theorem agr_split {v x y : Nat} (h : Agr v x y) (hx : x < 2 ^ v) : (y.testBit v = false ∧ Agr (v + 1) x y) ∨ (y.testBit v = true ∧ Agr (v + 1) (x + 2 ^ v) y) := by
  unfold Agr at h ⊢
  have hp : 2 ^ (v + 1) = 2 ^ v * 2 := Nat.pow_succ ..
  have h0 := Nat.mod_mul (x := y) (a := 2 ^ v) (b := 2)
  rw [← hp] at h0
  have h4 : y.testBit v = decide (y / 2 ^ v % 2 = 1) := by
    rw [Nat.testBit_eq_decide_div_mod_eq]
  by_cases hb : y / 2 ^ v % 2 = 1
  · right
    refine ⟨by rw [h4]; simp [hb], ?_⟩
    rw [h0, h, hb, Nat.mul_one]
  · left
    have hz : y / 2 ^ v % 2 = 0 := by omega
    refine ⟨by rw [h4]; simp [hb], ?_⟩
    rw [h0, h, hz]; simp

/-- What a node stands for, in the values that agree with x in the variables before the v-th. -/
def Means (m : Nat) (l : List Nd) (f : Nat → List UInt8) (k x i : Nat) : Prop :=
  i < l.length ∧ ((m - k : Nat) : Int) ≤ (l.getD i nd0).1 ∧ ∀ y, y < 2 ^ m → Agr (m - k) x y → evN m l m i y = f y

theorem wf_hi {m : Nat} {l : List Nd} (hw : WF m l) {i : Nat} (hi : i < l.length) : (0 : Int) ≤ (l.getD i nd0).1 ∧ (l.getD i nd0).1 ≤ (m : Int) := by
  rcases hw i hi with h | ⟨v, lo, hi2, e, h1, h2, h3, h4, h5, h6⟩
  · rw [h.1]; omega
  · rw [e]; simp only; omega

/-- One step from an inner node. -/
theorem evN_step {m : Nat} {l : List Nd} (hw : WF m l) {i : Nat} (hi : i < l.length) {v lo hi2 : Nat} (e : l.getD i nd0 = ((v : Int), (lo : Int), (hi2 : Int), [])) (hv : v < m) (hlo : lo < i) (hhi : hi2 < i) (h5 : (v : Int) < (l.getD lo nd0).1) (h6 : (v : Int) < (l.getD hi2 nd0).1) (y : Nat) :
    evN m l m i y = if y.testBit v then evN m l m hi2 y else evN m l m lo y := by
  obtain ⟨k, rfl⟩ : ∃ k, m = k + 1 := ⟨m - 1, by omega⟩
  have h : evN (k + 1) l (k + 1) i y = if y.testBit v then evN (k + 1) l k hi2 y else evN (k + 1) l k lo y := by
    conv => lhs; rw [evN]
    rw [e]
    simp only
    rw [if_pos (by omega)]
    simp only [Int.toNat_natCast]
    split <;> rfl
  rw [h]
  rw [evN_more hw k (k + 1) hi2 y (by omega) (by omega) (by omega), evN_more hw k (k + 1) lo y (by omega) (by omega) (by omega)]
theorem evN_leaf {m : Nat} {l : List Nd} {i : Nat} (h : (l.getD i nd0).1 = (m : Int)) (y : Nat) : evN m l m i y = (l.getD i nd0).2.2.2 := by
  cases m with
  | zero => rfl
  | succ k => rw [evN]; rw [if_neg (by omega)]

/-- What is there is found again. -/
theorem growN_old {f : Nat → List UInt8} {m : Nat} {l : List Nd} (hw : WF m l) (hd : l.Nodup) : ∀ (k x j : Nat), k ≤ m → x < 2 ^ (m - k) → Means m l f k x j → growN f m k x l = (l, j)
  | 0, x, j, _, hx, hm => by
    obtain ⟨h1, h2, h3⟩ := hm
    have h4 := wf_hi hw h1
    have hv : (l.getD j nd0).1 = (m : Int) := by rw [Nat.sub_zero] at h2; omega
    have hx2 : x < 2 ^ m := by simpa using hx
    have h5 := h3 x hx2 (by show x % 2 ^ (m - 0) = x; exact Nat.mod_eq_of_lt hx)
    rw [evN_leaf hv] at h5
    rw [growN]
    have e : l.getD j nd0 = ((m : Int), 0, 0, f x) := by
      rcases hw j h1 with h | ⟨v, lo, hi2, e, g1, g2, g3, g4, g5, g6⟩
      · rw [← h5]
        exact Prod.ext h.1 (Prod.ext h.2.1 (Prod.ext h.2.2 rfl))
      · rw [e] at hv; simp only at hv; omega
    rw [← e]
    exact putN_old hd h1
  | k + 1, x, j, hk, hx, hm => by
    obtain ⟨h1, h2, h3⟩ := hm
    have ev : m - k = m - (k + 1) + 1 := by omega
    have hx1 : x < 2 ^ (m - k) := by rw [ev, Nat.pow_succ]; omega
    have hx2 : x + 2 ^ (m - (k + 1)) < 2 ^ (m - k) := by rw [ev, Nat.pow_succ]; omega
    by_cases hv : (((m - (k + 1) : Nat) : Int)) < (l.getD j nd0).1
    · have a1 := growN_old hw hd k x j (by omega) hx1 ⟨h1, by omega, fun y hy hA => h3 y hy (by rw [ev] at hA; exact (agr_low hA hx).1)⟩
      have a2 := growN_old hw hd k (x + 2 ^ (m - (k + 1))) j (by omega) hx2 ⟨h1, by omega, fun y hy hA => h3 y hy (by rw [ev] at hA; exact (agr_high hA hx).1)⟩
      rw [growN, a1]
      simp only
      rw [a2]
      simp
    · have hveq : (l.getD j nd0).1 = ((m - (k + 1) : Nat) : Int) := by omega
      rcases hw j h1 with h | ⟨v, lo, hi2, e, g1, g2, g3, g4, g5, g6⟩
      · have := h.1; omega
      · have hvv : v = m - (k + 1) := by rw [e] at hveq; simp only at hveq; omega
        have st := fun y => evN_step hw h1 e g1 g3 g4 g5 g6 y
        have a1 := growN_old (f := f) hw hd k x lo (by omega) hx1 ⟨by omega, by omega, fun y hy hA => by
          rw [ev] at hA
          have hA2 := agr_low hA hx
          have := st y
          rw [hvv, hA2.2] at this
          rw [← h3 y hy hA2.1, this]; rfl⟩
        have a2 := growN_old (f := f) hw hd k (x + 2 ^ (m - (k + 1))) hi2 (by omega) hx2 ⟨by omega, by omega, fun y hy hA => by
          rw [ev] at hA
          have hA2 := agr_high hA hx
          have := st y
          rw [hvv, hA2.2] at this
          rw [← h3 y hy hA2.1, this]; rfl⟩
        rw [growN, a1]
        simp only
        rw [a2]
        simp only
        rw [if_neg g2, ← hvv, ← e]
        exact putN_old hd h1

/-- A later node leads to the i-th. -/
def Led (m : Nat) (l : List Nd) (i : Nat) : Prop := ∃ k, i < k ∧ k < l.length ∧ (l.getD k nd0).1 < (m : Int) ∧ ((l.getD k nd0).2.1 = (i : Int) ∨ (l.getD k nd0).2.2.1 = (i : Int))
theorem Led.pre {m : Nat} {l l' : List Nd} {i : Nat} (h : Led m l i) (hp : l <+: l') : Led m l' i := by
  obtain ⟨k, h1, h2, h3, h4⟩ := h
  have := pre_len hp
  exact ⟨k, h1, by omega, by rw [getD_pre hp h2]; exact h3, by rw [getD_pre hp h2]; exact h4⟩

/-- All that growing does. -/
structure Grown (f : Nat → List UInt8) (m k x : Nat) (l : List Nd) (r : List Nd × Nat) : Prop where
  pre : l <+: r.1
  wf : WF m r.1
  nodup : r.1.Nodup
  means : Means m r.1 f k x r.2
  vars : ∀ i, l.length ≤ i → i < r.1.length → ((m - k : Nat) : Int) ≤ (r.1.getD i nd0).1
  newest : r.1 = l ∨ r.2 = r.1.length - 1
  led : ∀ i, l.length ≤ i → i < r.1.length → i = r.2 ∨ Led m r.1 i
  size : r.1.length ≤ l.length + (2 ^ (k + 1) - 1)
  leaves : ∀ i, l.length ≤ i → i < r.1.length → ((r.1.getD i nd0).2.2.2 = [] ∧ (r.1.getD i nd0).1 < (m : Int)) ∨ ∃ y, y < 2 ^ m ∧ (r.1.getD i nd0).2.2.2 = f y
  sub : ∀ i, l.length ≤ i → i < r.1.length → ∃ k' x', k' ≤ m ∧ (r.1.getD i nd0).1 = ((m - k' : Nat) : Int) ∧ x' < 2 ^ (m - k') ∧ Means m r.1 f k' x' i

theorem Means.pre {m : Nat} {l l' : List Nd} {f : Nat → List UInt8} {k x i : Nat} (hw : WF m l) (hp : l <+: l') (h : Means m l f k x i) : Means m l' f k x i := by
  obtain ⟨h1, h2, h3⟩ := h
  have := pre_len hp
  exact ⟨by omega, by rw [getD_pre hp h1]; exact h2, fun y hy hA => by rw [evN_pre hw hp m i y h1]; exact h3 y hy hA⟩
theorem putN_cases (l : List Nd) (n : Nd) : (n ∈ l ∧ putN l n = (l, l.idxOf n)) ∨ (n ∉ l ∧ putN l n = (l ++ [n], l.length)) := by
  unfold putN
  by_cases h : n ∈ l
  · exact .inl ⟨h, by rw [if_pos h]⟩
  · exact .inr ⟨h, by rw [if_neg h, List.idxOf_eq_length h]⟩
theorem getD_last (l : List Nd) (n : Nd) : (l ++ [n]).getD l.length nd0 = n := by rw [List.getD_eq_getElem?_getD]; simp

theorem grown {f : Nat → List UInt8} {m : Nat} : ∀ (k x : Nat) (l : List Nd), k ≤ m → x < 2 ^ (m - k) → WF m l → l.Nodup → Grown f m k x l (growN f m k x l)
  | 0, x, l, _, hx, hw, hd => by
    have hx2 : x < 2 ^ m := by simpa using hx
    have hw' : WF m (putN l ((m : Int), 0, 0, f x)).1 := hw.put (.inl ⟨rfl, rfl, rfl⟩)
    have hat := putN_at l ((m : Int), 0, 0, f x)
    rw [growN]
    have hme : Means m (putN l ((m : Int), 0, 0, f x)).1 f 0 x (putN l ((m : Int), 0, 0, f x)).2 := by
      refine ⟨putN_lt _ _, by rw [hat]; simp only; omega, fun y hy hA => ?_⟩
      rw [evN_leaf (by rw [hat]), hat]
      have : y = x := by
        unfold Agr at hA
        rw [Nat.sub_zero, Nat.mod_eq_of_lt hy] at hA
        exact hA
      rw [this]
    refine ⟨putN_pre _ _, hw', putN_nodup hd, hme, ?_, ?_, ?_, ?_, ?_, ?_⟩
    · intro i hi hi2
      rcases putN_cases l ((m : Int), 0, 0, f x) with ⟨h, e⟩ | ⟨h, e⟩ <;> rw [e] at hi2 ⊢
      · simp only at hi2; omega
      · simp only [List.length_append, List.length_singleton] at hi2
        obtain rfl : i = l.length := by omega
        simp only
        rw [getD_last]
        simp only; omega
    · rcases putN_cases l ((m : Int), 0, 0, f x) with ⟨h, e⟩ | ⟨h, e⟩ <;> rw [e]
      · exact .inl rfl
      · exact .inr (by simp)
    · intro i hi hi2
      rcases putN_cases l ((m : Int), 0, 0, f x) with ⟨h, e⟩ | ⟨h, e⟩ <;> rw [e] at hi2 ⊢
      · simp only at hi2; omega
      · simp only [List.length_append, List.length_singleton] at hi2
        exact .inl (by simp only; omega)
    · have := putN_len l ((m : Int), 0, 0, f x)
      show _ ≤ l.length + (2 ^ 1 - 1)
      omega
    · intro i hi hi2
      rcases putN_cases l ((m : Int), 0, 0, f x) with ⟨h, e⟩ | ⟨h, e⟩ <;> rw [e] at hi2 ⊢
      · simp only at hi2; omega
      · simp only [List.length_append, List.length_singleton] at hi2
        obtain rfl : i = l.length := by omega
        simp only
        rw [getD_last]
        exact .inr ⟨x, hx2, rfl⟩
    · intro i hi hi2
      rcases putN_cases l ((m : Int), 0, 0, f x) with ⟨h, e⟩ | ⟨h, e⟩ <;> rw [e] at hi2 hme ⊢
      · simp only at hi2; omega
      · simp only [List.length_append, List.length_singleton] at hi2
        obtain rfl : i = l.length := by omega
        exact ⟨0, x, Nat.zero_le _, by simp only; rw [getD_last]; rfl, by simpa using hx2, hme⟩
  | k + 1, x, l, hk, hx, hw, hd => by
    have ev : m - k = m - (k + 1) + 1 := by omega
    have hx1 : x < 2 ^ (m - k) := by rw [ev, Nat.pow_succ]; omega
    have hx2 : x + 2 ^ (m - (k + 1)) < 2 ^ (m - k) := by rw [ev, Nat.pow_succ]; omega
    have A := grown (f := f) k x l (by omega) hx1 hw hd
    rw [growN]
    generalize growN f m k x l = a at A ⊢
    have B := grown (f := f) k (x + 2 ^ (m - (k + 1))) a.1 (by omega) hx2 A.wf A.nodup
    have hold := fun j => growN_old (f := f) A.wf A.nodup k (x + 2 ^ (m - (k + 1))) j (by omega) hx2
    generalize growN f m k (x + 2 ^ (m - (k + 1))) a.1 = b at B hold ⊢
    have hp := A.pre.trans B.pre
    have la := pre_len A.pre
    have lb := pre_len B.pre
    have i1 := A.means.1
    have i2 := B.means.1
    have ea : ∀ y, evN m b.1 m a.2 y = evN m a.1 m a.2 y := fun y => evN_pre A.wf B.pre m a.2 y i1
    have na : b.1.getD a.2 nd0 = a.1.getD a.2 nd0 := getD_pre B.pre i1
    have m1 := A.means.2.1
    have m2 := B.means.2.1
    have size : b.1.length ≤ l.length + (2 ^ (k + 2) - 2) := by
      have s1 := A.size
      have s2 := B.size
      have hp1 : 2 ^ (k + 2) = 2 ^ (k + 1) * 2 := Nat.pow_succ ..
      have hp2 : 0 < 2 ^ (k + 1) := Nat.pow_pos (by omega)
      generalize 2 ^ (k + 2) = P at *
      generalize 2 ^ (k + 1) = P1 at *
      omega
    have hp2 : 2 ≤ 2 ^ (k + 2) := by
      have h1 : 2 ^ (k + 2) = 2 ^ (k + 1) * 2 := Nat.pow_succ ..
      have h2 : 0 < 2 ^ (k + 1) := Nat.pow_pos (by omega)
      generalize 2 ^ (k + 2) = P at *
      generalize 2 ^ (k + 1) = P1 at *
      omega
    have size2 : b.1.length + 1 ≤ l.length + (2 ^ (k + 1 + 1) - 1) := by
      show b.1.length + 1 ≤ l.length + (2 ^ (k + 2) - 1)
      generalize 2 ^ (k + 2) = P at *
      omega
    by_cases hab : a.2 = b.2
    · -- both values lead to one node
      rw [if_pos hab]
      have hsame : b = (a.1, a.2) := hold a.2 ⟨i1, m1, fun y hy hA => by
        rw [← ea y, hab]; exact B.means.2.2 y hy hA⟩
      have hb1 : b.1 = a.1 := by rw [hsame]
      rw [hb1]
      refine ⟨A.pre, A.wf, A.nodup, ⟨i1, by show _ ≤ (a.1.getD a.2 nd0).1; omega, fun y hy hA => ?_⟩, ?_, A.newest, A.led, ?_, A.leaves, A.sub⟩
      · rcases agr_split hA hx with ⟨_, h⟩ | ⟨_, h⟩
        · exact A.means.2.2 y hy (by rw [ev]; exact h)
        · show evN m a.1 m a.2 y = f y
          rw [← ea y, hab]; exact B.means.2.2 y hy (by rw [ev]; exact h)
      · intro i hi hi2
        have := A.vars i hi hi2
        show _ ≤ (a.1.getD i nd0).1
        omega
      · rw [← hb1]
        exact Nat.le_trans (Nat.le_succ _) size2
    · rw [if_neg hab]
      have hin : InnerOk m b.1 b.1.length (((m - (k + 1) : Nat) : Int), (a.2 : Int), (b.2 : Int), []) :=
        ⟨m - (k + 1), a.2, b.2, rfl, by omega, hab, by omega, by omega, by rw [na]; omega, by omega⟩
      have hw' := B.wf.put (.inr hin)
      have hat := putN_at b.1 (((m - (k + 1) : Nat) : Int), (a.2 : Int), (b.2 : Int), [])
      have hlt := putN_lt b.1 (((m - (k + 1) : Nat) : Int), (a.2 : Int), (b.2 : Int), [])
      have hpp := putN_pre b.1 (((m - (k + 1) : Nat) : Int), (a.2 : Int), (b.2 : Int), [])
      have hll := putN_len b.1 (((m - (k + 1) : Nat) : Int), (a.2 : Int), (b.2 : Int), [])
      have hnd := putN_nodup (n := (((m - (k + 1) : Nat) : Int), (a.2 : Int), (b.2 : Int), [])) B.nodup
      have hc := putN_cases b.1 (((m - (k + 1) : Nat) : Int), (a.2 : Int), (b.2 : Int), [])
      have hmem : (((m - (k + 1) : Nat) : Int), (a.2 : Int), (b.2 : Int), ([] : List UInt8)) ∈ b.1 → b.1 = l := by
        intro hm
        have hj := List.idxOf_lt_length_of_mem hm
        have hje : b.1.getD (b.1.idxOf (((m - (k + 1) : Nat) : Int), (a.2 : Int), (b.2 : Int), [])) nd0 = (((m - (k + 1) : Nat) : Int), (a.2 : Int), (b.2 : Int), []) := by
          rw [List.getD_eq_getElem?_getD, List.getElem?_eq_getElem hj]; exact List.getElem_idxOf hj
        generalize b.1.idxOf (((m - (k + 1) : Nat) : Int), (a.2 : Int), (b.2 : Int), []) = j at hj hje
        have hjl : j < l.length := by
          rcases Nat.lt_or_ge j l.length with h | h
          · exact h
          · exfalso
            rcases Nat.lt_or_ge j a.1.length with h2 | h2
            · have := A.vars j h h2
              rw [← getD_pre B.pre h2, hje] at this
              simp only at this; omega
            · have := B.vars j h2 hj
              rw [hje] at this
              simp only at this; omega
        rcases hw j hjl with h | ⟨v, lo, hi2, e, g1, g2, g3, g4, g5, g6⟩
        · rw [← getD_pre hp hjl, hje] at h
          have := h.1
          simp only at this; omega
        · rw [← getD_pre hp hjl, hje] at e
          have e1 := congrArg (fun n : Nd => n.2.1) e
          have e2 := congrArg (fun n : Nd => n.2.2.1) e
          simp only at e1 e2
          have a1 : a.1 = l := by
            rcases A.newest with h | h
            · exact h
            · exact (A.pre.eq_of_length_le (by omega)).symm
          have b1 : b.1 = a.1 := by
            rcases B.newest with h | h
            · exact h
            · exact (B.pre.eq_of_length_le (by omega)).symm
          rw [b1, a1]
      have lastled : ∀ i, (i = a.2 ∨ i = b.2) → (((m - (k + 1) : Nat) : Int), (a.2 : Int), (b.2 : Int), ([] : List UInt8)) ∉ b.1 → Led m (b.1 ++ [(((m - (k + 1) : Nat) : Int), (a.2 : Int), (b.2 : Int), [])]) i := by
        intro i hi _
        refine ⟨b.1.length, by rcases hi with rfl | rfl <;> omega, by simp, ?_, ?_⟩
        · rw [getD_last]; simp only; omega
        · rw [getD_last]; simp only
          rcases hi with rfl | rfl
          · exact .inl rfl
          · exact .inr rfl
      generalize hR : putN b.1 (((m - (k + 1) : Nat) : Int), (a.2 : Int), (b.2 : Int), []) = R at *
      have hme : Means m R.1 f (k + 1) x R.2 := by
        refine ⟨hlt, by rw [hat]; simp only; omega, fun y hy hA => ?_⟩
        rw [evN_step hw' hlt hat (by omega) (by
            rcases hc with ⟨h, e⟩ | ⟨h, e⟩
            · have := hmem h
              rcases hw' R.2 hlt with h2 | ⟨v, lo, hi2, e2, g1, g2, g3, g4, g5, g6⟩
              · rw [hat] at h2; have := h2.1; simp only at this; omega
              · rw [hat] at e2
                have e3 := congrArg (fun n : Nd => n.2.1) e2
                simp only at e3; omega
            · rw [e]; simp only; omega) (by
            rcases hc with ⟨h, e⟩ | ⟨h, e⟩
            · have := hmem h
              rcases hw' R.2 hlt with h2 | ⟨v, lo, hi2, e2, g1, g2, g3, g4, g5, g6⟩
              · rw [hat] at h2; have := h2.1; simp only at this; omega
              · rw [hat] at e2
                have e3 := congrArg (fun n : Nd => n.2.2.1) e2
                simp only at e3; omega
            · rw [e]; simp only; omega) (by rw [getD_pre hpp (by omega), na]; omega) (by rw [getD_pre hpp (by omega)]; omega) y]
        rw [evN_pre B.wf hpp m b.2 y i2, evN_pre B.wf hpp m a.2 y (by omega), ea]
        rcases agr_split hA hx with ⟨hb, h⟩ | ⟨hb, h⟩
        · rw [hb]
          exact A.means.2.2 y hy (by rw [ev]; exact h)
        · rw [hb]
          exact B.means.2.2 y hy (by rw [ev]; exact h)
      refine ⟨hp.trans hpp, hw', hnd, hme, ?_, ?_, ?_, Nat.le_trans hll size2, ?_, ?_⟩
      · intro i hi hi2
        rcases hc with ⟨h, e⟩ | ⟨h, e⟩
        · have := hmem h
          rw [e] at hi2; simp only at hi2; rw [this] at hi2; omega
        · rw [e] at hi2 ⊢
          simp only [List.length_append, List.length_singleton] at hi2 ⊢
          rcases Nat.lt_or_ge i b.1.length with h2 | h2
          · rw [getD_pre (List.prefix_append _ _) h2]
            rcases Nat.lt_or_ge i a.1.length with h3 | h3
            · have := A.vars i hi h3
              rw [getD_pre B.pre h3]; omega
            · have := B.vars i h3 h2
              omega
          · obtain rfl : i = b.1.length := by omega
            rw [getD_last]; simp only; omega
      · rcases hc with ⟨h, e⟩ | ⟨h, e⟩
        · left; rw [e]; exact hmem h
        · right; rw [e]; simp
      · intro i hi hi2
        rcases hc with ⟨h, e⟩ | ⟨h, e⟩
        · have := hmem h
          rw [e] at hi2; simp only at hi2; rw [this] at hi2; omega
        · rw [e] at hi2 ⊢
          simp only [List.length_append, List.length_singleton] at hi2 ⊢
          rcases Nat.lt_or_ge i b.1.length with h2 | h2
          · right
            rcases Nat.lt_or_ge i a.1.length with h3 | h3
            · rcases A.led i hi h3 with h4 | h4
              · exact lastled i (.inl h4) h
              · exact (h4.pre B.pre).pre (List.prefix_append _ _)
            · rcases B.led i h3 h2 with h4 | h4
              · exact lastled i (.inr h4) h
              · exact h4.pre (List.prefix_append _ _)
          · left; omega
      · intro i hi hi2
        rcases hc with ⟨h, e⟩ | ⟨h, e⟩
        · have := hmem h
          rw [e] at hi2; simp only at hi2; rw [this] at hi2; omega
        · rw [e] at hi2 ⊢
          simp only [List.length_append, List.length_singleton] at hi2 ⊢
          rcases Nat.lt_or_ge i b.1.length with h2 | h2
          · rw [getD_pre (List.prefix_append _ _) h2]
            rcases Nat.lt_or_ge i a.1.length with h3 | h3
            · have := A.leaves i hi h3
              rw [getD_pre B.pre h3]; exact this
            · exact B.leaves i h3 h2
          · obtain rfl : i = b.1.length := by omega
            rw [getD_last]; simp only
            exact .inl ⟨trivial, by omega⟩
      · intro i hi hi2
        rcases hc with ⟨h, e⟩ | ⟨h, e⟩
        · have := hmem h
          rw [e] at hi2; simp only at hi2; rw [this] at hi2; omega
        · rw [e] at hi2 hme hw' hpp ⊢
          simp only [List.length_append, List.length_singleton] at hi2 ⊢
          rcases Nat.lt_or_ge i b.1.length with h2 | h2
          · rw [getD_pre (List.prefix_append _ _) h2]
            rcases Nat.lt_or_ge i a.1.length with h3 | h3
            · obtain ⟨k', x', s1, s2, s3, s4⟩ := A.sub i hi h3
              exact ⟨k', x', s1, by rw [getD_pre B.pre h3]; exact s2, s3, (s4.pre A.wf B.pre).pre B.wf (List.prefix_append _ _)⟩
            · obtain ⟨k', x', s1, s2, s3, s4⟩ := B.sub i h3 h2
              exact ⟨k', x', s1, s2, s3, s4.pre B.wf (List.prefix_append _ _)⟩
          · obtain rfl : i = b.1.length := by omega
            exact ⟨k + 1, x, hk, by rw [getD_last], hx, hme⟩

theorem growN_congr {f g : Nat → List UInt8} {m : Nat} : ∀ (k x : Nat) (l : List Nd), k ≤ m → x < 2 ^ (m - k) → (∀ y, y < 2 ^ m → f y = g y) → growN f m k x l = growN g m k x l
  | 0, x, l, _, hx, h => by rw [growN, growN, h x (by simpa using hx)]
  | k + 1, x, l, hk, hx, h => by
    have ev : m - k = m - (k + 1) + 1 := by omega
    have hx1 : x < 2 ^ (m - k) := by rw [ev, Nat.pow_succ]; omega
    have hx2 : x + 2 ^ (m - (k + 1)) < 2 ^ (m - k) := by rw [ev, Nat.pow_succ]; omega
    rw [growN, growN, growN_congr k x l (by omega) hx1 h, growN_congr k (x + 2 ^ (m - (k + 1))) _ (by omega) hx2 h]
theorem madeN_congr {f g : Nat → List UInt8} {m : Nat} (h : ∀ y, y < 2 ^ m → f y = g y) : madeN f m = madeN g m := by
  unfold madeN; rw [growN_congr m 0 [] (Nat.le_refl _) (by simp) h]
theorem made_grown (f : Nat → List UInt8) (m : Nat) : Grown f m m 0 [] (growN f m m 0 []) := grown m 0 [] (Nat.le_refl _) (by simp) (fun i hi => by simp at hi) List.nodup_nil
theorem made_pos (f : Nat → List UInt8) (m : Nat) : 0 < (madeN f m).length := by
  have := (made_grown f m).means.1
  unfold madeN; omega
theorem made_root (f : Nat → List UInt8) (m : Nat) : (growN f m m 0 []).2 = (madeN f m).length - 1 := by
  rcases (made_grown f m).newest with h | h
  · have := (made_grown f m).means.1; rw [h] at this; simp at this
  · exact h
theorem made_size (f : Nat → List UInt8) (m : Nat) : (madeN f m).length ≤ 2 ^ (m + 1) - 1 := by
  have := (made_grown f m).size
  unfold madeN
  simpa using this
theorem made_wf (f : Nat → List UInt8) (m : Nat) : WF m (madeN f m) := (made_grown f m).wf
theorem made_at (f : Nat → List UInt8) (m : Nat) {y : Nat} (hy : y < 2 ^ m) : evD m (madeN f m) y = f y := by
  have h := (made_grown f m).means.2.2 y hy (by unfold Agr; simp; exact Nat.mod_one _)
  rw [made_root] at h
  exact h
theorem made_nodup (f : Nat → List UInt8) (m : Nat) : (madeN f m).Nodup := (made_grown f m).nodup
theorem made_led (f : Nat → List UInt8) (m : Nat) {i : Nat} (hi : i < (madeN f m).length) : i = (madeN f m).length - 1 ∨ Led m (madeN f m) i := by
  have h := (made_grown f m).led i (by simp) hi
  rw [made_root] at h
  exact h
theorem made_leaves (f : Nat → List UInt8) (m : Nat) {i : Nat} (hi : i < (madeN f m).length) (h : ((madeN f m).getD i nd0).1 = (m : Int)) : ∃ y, y < 2 ^ m ∧ ((madeN f m).getD i nd0).2.2.2 = f y := by
  rcases (made_grown f m).leaves i (by simp) hi with h1 | h1
  · have := h1.2; unfold madeN at h; omega
  · exact h1
/-- What a node stands for hangs on the variables from its own on. -/
theorem evN_bits {m : Nat} {l : List Nd} (hw : WF m l) : ∀ (k i y y' : Nat), i < l.length → (∀ v : Nat, (l.getD i nd0).1 ≤ (v : Int) → y.testBit v = y'.testBit v) → evN m l k i y = evN m l k i y'
  | 0, i, y, y', _, _ => rfl
  | k + 1, i, y, y', hi, h => by
    rw [evN, evN]
    by_cases hlt : (l.getD i nd0).1 < (m : Int)
    · rw [if_pos hlt, if_pos hlt]
      rcases hw i hi with hl | ⟨v, lo, hi2, e, h1, h2, h3, h4, h5, h6⟩
      · have := hl.1; omega
      · rw [e] at h ⊢
        simp only at h ⊢
        simp only [Int.toNat_natCast]
        rw [h v (Int.le_refl _)]
        split
        · exact evN_bits hw k hi2 y y' (by omega) (fun u hu => h u (by omega))
        · exact evN_bits hw k lo y y' (by omega) (fun u hu => h u (by omega))
    · rw [if_neg hlt, if_neg hlt]
/-- A variable on which a function does not hang is not asked for. -/
theorem made_free {f : Nat → List UInt8} {m v : Nat} (hv : v < m) (hf : ∀ y, y < 2 ^ m → y.testBit v = false → f (y + 2 ^ v) = f y) {i : Nat} (hi : i < (madeN f m).length) : ((madeN f m).getD i nd0).1 ≠ (v : Int) := by
  intro hc
  have G := made_grown f m
  obtain ⟨k, x, s1, s2, s3, s4⟩ := G.sub i (by simp) hi
  have hw := G.wf
  have hnd := G.nodup
  have hi' : i < (growN f m m 0 []).1.length := hi
  have hc' : ((growN f m m 0 []).1.getD i nd0).1 = (v : Int) := hc
  generalize (growN f m m 0 []).1 = l at *
  rcases hw i hi' with h | ⟨v', lo, hi2, e, g1, g2, g3, g4, g5, g6⟩
  · have := h.1; omega
  · have hvv : v' = v := by rw [e] at hc'; simp only at hc'; omega
    subst hvv
    have hmk : m - k = v' := by omega
    have hkk : k - 1 + 1 = k := by omega
    have hm1 : m - (k - 1) = v' + 1 := by omega
    have hp : 2 ^ (v' + 1) = 2 ^ v' * 2 := Nat.pow_succ ..
    have hx : x < 2 ^ v' := by rw [← hmk]; exact s3
    have st := fun y => evN_step hw hi' e g1 g3 g4 g5 g6 y
    have a1 := growN_old (f := f) hw hnd (k - 1) x lo (by omega) (by rw [hm1]; omega) ⟨by omega, by omega, fun y hy hA => by
      rw [hm1] at hA
      have hA2 := agr_low hA hx
      have h1 := st y
      rw [hA2.2] at h1
      rw [← s4.2.2 y hy (by rw [hmk]; exact hA2.1), h1]; rfl⟩
    have a2 := growN_old (f := f) hw hnd (k - 1) x hi2 (by omega) (by rw [hm1]; omega) ⟨by omega, by omega, fun y hy hA => by
      rw [hm1] at hA
      have hA2 := agr_low hA hx
      have ho : y + 2 ^ v' < 2 ^ m := by
        have h1 : y / 2 ^ (v' + 1) < 2 ^ (m - (v' + 1)) := by
          rw [Nat.div_lt_iff_lt_mul (Nat.pow_pos (by omega)), ← Nat.pow_add, show m - (v' + 1) + (v' + 1) = m by omega]; exact hy
        have h2 := Nat.div_add_mod y (2 ^ (v' + 1))
        have h3 : y % 2 ^ (v' + 1) = x := hA
        have h4 : 2 ^ (v' + 1) * (y / 2 ^ (v' + 1)) + 2 ^ (v' + 1) ≤ 2 ^ m := by
          rw [← Nat.mul_succ]
          have h5 := Nat.mul_le_mul_left (2 ^ (v' + 1)) h1
          rw [← Nat.pow_add, show v' + 1 + (m - (v' + 1)) = m by omega] at h5
          exact h5
        omega
      have hb : (y + 2 ^ v').testBit v' = true := by
        rw [Nat.add_comm, Nat.testBit_two_pow_add_eq, hA2.2]; rfl
      have h1 := st (y + 2 ^ v')
      rw [hb, if_pos rfl] at h1
      have h2 : evN m l m hi2 y = evN m l m hi2 (y + 2 ^ v') := evN_bits hw m hi2 y (y + 2 ^ v') (by omega) (fun u hu => by
        have hu2 : v' < u := by omega
        have hq : (y + 2 ^ v') / 2 ^ (v' + 1) = y / 2 ^ (v' + 1) := by
          have h3 : y % 2 ^ (v' + 1) = x := hA
          have h4 := Nat.div_add_mod y (2 ^ (v' + 1))
          have h5 : y + 2 ^ v' = 2 ^ (v' + 1) * (y / 2 ^ (v' + 1)) + (x + 2 ^ v') := by rw [h3] at h4; rw [← Nat.add_assoc, h4]
          rw [h5, Nat.mul_add_div (Nat.pow_pos (by omega)), Nat.div_eq_of_lt (show x + 2 ^ v' < 2 ^ (v' + 1) by rw [hp]; omega), Nat.add_zero]
        have hpu : 2 ^ u = 2 ^ (v' + 1) * 2 ^ (u - (v' + 1)) := by rw [← Nat.pow_add]; congr 1; omega
        rw [Nat.testBit_eq_decide_div_mod_eq, Nat.testBit_eq_decide_div_mod_eq, hpu, ← Nat.div_div_eq_div_mul, ← Nat.div_div_eq_div_mul, hq])
      have h3 := s4.2.2 (y + 2 ^ v') ho (by
        rw [hmk]
        show (y + 2 ^ v') % 2 ^ v' = x
        rw [Nat.add_mod_right]; exact hA2.1)
      rw [h2, ← h1, h3]
      exact hf y hy hA2.2⟩
    rw [a1] at a2
    exact g2 (congrArg Prod.snd a2)
/-- Two diagrams are equal exactly if their functions are. -/
theorem made_inj {f g : Nat → List UInt8} {m : Nat} (h : madeN f m = madeN g m) {y : Nat} (hy : y < 2 ^ m) : f y = g y := by
  rw [← made_at f m hy, h, made_at g m hy]

/-! The reference's way: tables that are halved. -/
def evens (t : List (List UInt8)) : List (List UInt8) := (List.range (t.length / 2)).map fun i => t.getD (2 * i) []
def odds (t : List (List UInt8)) : List (List UInt8) := (List.range (t.length / 2)).map fun i => t.getD (2 * i + 1) []
def growT (m : Nat) : Nat → List (List UInt8) → List Nd → List Nd × Nat
  | 0, t, l => putN l ((m : Int), 0, 0, t.getD 0 [])
  | k + 1, t, l =>
    let a := growT m k (evens t) l
    let b := growT m k (odds t) a.1
    if a.2 = b.2 then (b.1, a.2) else putN b.1 (((m - (k + 1) : Nat) : Int), (a.2 : Int), (b.2 : Int), [])
theorem evens_len (t : List (List UInt8)) : (evens t).length = t.length / 2 := by simp [evens]
theorem odds_len (t : List (List UInt8)) : (odds t).length = t.length / 2 := by simp [odds]
theorem evens_at {t : List (List UInt8)} {j : Nat} (h : j < t.length / 2) : (evens t).getD j [] = t.getD (2 * j) [] := by
  unfold evens
  rw [List.getD_eq_getElem?_getD, List.getElem?_map, List.getElem?_range h]; rfl
theorem odds_at {t : List (List UInt8)} {j : Nat} (h : j < t.length / 2) : (odds t).getD j [] = t.getD (2 * j + 1) [] := by
  unfold odds
  rw [List.getD_eq_getElem?_getD, List.getElem?_map, List.getElem?_range h]; rfl
theorem growT_is {f : Nat → List UInt8} {m : Nat} : ∀ (k x : Nat) (t : List (List UInt8)) (l : List Nd), k ≤ m → t.length = 2 ^ k → (∀ j, j < 2 ^ k → t.getD j [] = f (x + j * 2 ^ (m - k))) → growT m k t l = growN f m k x l
  | 0, x, t, l, _, _, h => by rw [growT, growN, h 0 (by simp)]; simp
  | k + 1, x, t, l, hk, hl, h => by
    have ev : m - k = m - (k + 1) + 1 := by omega
    have h2 : t.length / 2 = 2 ^ k := by rw [hl, Nat.pow_succ]; omega
    have hp : 2 ^ (m - k) = 2 ^ (m - (k + 1)) * 2 := by rw [ev, Nat.pow_succ]
    have hk2 : 2 ^ (k + 1) = 2 ^ k * 2 := Nat.pow_succ ..
    rw [growT, growN]
    rw [growT_is (f := f) k x (evens t) l (by omega) (by rw [evens_len, h2]) (fun j hj => by
      rw [evens_at (by omega), h (2 * j) (by omega), hp]
      congr 1
      rw [Nat.mul_comm 2 j, Nat.mul_assoc, Nat.mul_comm 2]),
      growT_is (f := f) k (x + 2 ^ (m - (k + 1))) (odds t) _ (by omega) (by rw [odds_len, h2]) (fun j hj => by
      rw [odds_at (by omega), h (2 * j + 1) (by omega), hp]
      congr 1
      rw [Nat.add_mul, Nat.mul_comm 2 j, Nat.mul_assoc, Nat.mul_comm 2, Nat.one_mul]; omega)]
theorem growT_made {m : Nat} (t : List (List UInt8)) (h : t.length = 2 ^ m) : growT m m t [] = growN (fun y => t.getD y []) m m 0 [] :=
  growT_is m 0 t [] (Nat.le_refl _) h (fun j hj => by simp)
end Go.Proofs.YtpmlmibceiolpaaGreatDoor

/- What the functions on diagrams give: plain facts. -/
set_option linter.unusedSimpArgs false
set_option linter.unusedVariables false
namespace Go.Proofs.YtpmlmibceiolpaaGreatDoor
open Go.RowKit
open Go.Lib (decDigits itoa nDigits)

/-- Is a node well formed at its place? -/
def nodeB (m : Int) (l : List Nd) (i : Nat) : Bool :=
  if (l.getD i nd0).1 = m then decide ((l.getD i nd0).2.1 = 0) && (decide ((l.getD i nd0).2.2.1 = 0) && decide (rerr (l.getD i nd0).2.2.2 = 0))
  else decide (0 ≤ (l.getD i nd0).1 ∧ (l.getD i nd0).1 < m ∧ (l.getD i nd0).2.2.2 = [] ∧ (l.getD i nd0).2.1 ≠ (l.getD i nd0).2.2.1 ∧ 0 ≤ (l.getD i nd0).2.1 ∧ 0 ≤ (l.getD i nd0).2.2.1 ∧ (l.getD i nd0).2.1 < (i : Int) ∧ (l.getD i nd0).2.2.1 < (i : Int)
    ∧ (l.getD i nd0).1 < (l.getD (l.getD i nd0).2.1.toNat nd0).1 ∧ (l.getD i nd0).1 < (l.getD (l.getD i nd0).2.2.1.toNat nd0).1)
/-- Is a diagram valid? -/
def vldN (m : Int) (l : List Nd) : Bool :=
  decide (0 ≤ m ∧ m ≤ 6 ∧ 0 < l.length ∧ l.length ≤ 2 ^ (m.toNat + 1)) && ((List.range l.length).all (nodeB m l) && decide (l = madeN (evD m.toNat l) m.toNat))

theorem wf_nodes {m : Nat} {l : List Nd} (h : ∀ i, i < l.length → nodeB (m : Int) l i = true) : WF m l := by
  intro i hi
  have h1 := h i hi
  unfold nodeB at h1
  generalize l.getD i nd0 = n at *
  obtain ⟨v, lo, hi2, t⟩ := n
  simp only at h1 ⊢
  by_cases hv : v = (m : Int)
  · rw [if_pos hv] at h1
    simp only [Bool.and_eq_true, decide_eq_true_eq] at h1
    exact .inl ⟨hv, h1.1, h1.2.1⟩
  · rw [if_neg hv] at h1
    obtain ⟨a1, a2, a3, a4, a5, a6, a7, a8, a9, a10⟩ := of_decide_eq_true h1
    obtain ⟨v', rfl⟩ := Int.eq_ofNat_of_zero_le a1
    obtain ⟨lo', rfl⟩ := Int.eq_ofNat_of_zero_le a5
    obtain ⟨hi', rfl⟩ := Int.eq_ofNat_of_zero_le a6
    simp only [Int.toNat_natCast, Int.ofNat_eq_natCast] at *
    exact .inr ⟨v', lo', hi', by rw [a3], by omega, by omega, by omega, by omega, a9, a10⟩
theorem nodes_wf {m : Nat} {l : List Nd} (h : WF m l) (ht : ∀ i, i < l.length → (l.getD i nd0).1 = (m : Int) → rerr (l.getD i nd0).2.2.2 = 0) {i : Nat} (hi : i < l.length) : nodeB (m : Int) l i = true := by
  unfold nodeB
  rcases h i hi with h1 | ⟨v, lo, hi2, e, h1, h2, h3, h4, h5, h6⟩
  · rw [if_pos h1.1, decide_eq_true h1.2.1, decide_eq_true h1.2.2, decide_eq_true (ht i hi h1.1)]; rfl
  · rw [e]
    simp only
    rw [if_neg (by omega)]
    refine decide_eq_true ⟨by omega, by omega, trivial, by omega, by omega, by omega, by omega, by omega, ?_, ?_⟩
    · rw [Int.toNat_natCast]; exact h5
    · rw [Int.toNat_natCast]; exact h6
theorem vldN_made {m : Nat} {f : Nat → List UInt8} (hm : m ≤ 6) (ht : ∀ y, y < 2 ^ m → rerr (f y) = 0) : vldN (m : Int) (madeN f m) = true := by
  have h1 := made_pos f m
  have h2 := made_size f m
  have h3 : ∀ i, i < (madeN f m).length → nodeB (m : Int) (madeN f m) i = true := fun i hi => nodes_wf (made_wf f m) (fun i hi hv => by
    obtain ⟨y, hy, e⟩ := made_leaves f m hi hv
    rw [e]; exact ht y hy) hi
  have h4 : madeN (evD m (madeN f m)) m = madeN f m := madeN_congr fun y hy => made_at f m hy
  unfold vldN
  rw [Int.toNat_natCast, decide_eq_true (show 0 ≤ (m : Int) ∧ (m : Int) ≤ 6 ∧ 0 < (madeN f m).length ∧ (madeN f m).length ≤ 2 ^ (m + 1) from ⟨by omega, by omega, h1, by omega⟩), h4, decide_eq_true rfl,
    List.all_eq_true.2 (fun i hi => h3 i (List.mem_range.1 hi))]; rfl
theorem vldN_parts {m : Int} {l : List Nd} (h : vldN m l = true) : ∃ k : Nat, m = k ∧ k ≤ 6 ∧ 0 < l.length ∧ l.length ≤ 2 ^ (k + 1) ∧ WF k l ∧ l = madeN (evD k l) k ∧ ∀ i, i < l.length → (l.getD i nd0).1 = (k : Int) → rerr (l.getD i nd0).2.2.2 = 0 := by
  unfold vldN at h
  simp only [Bool.and_eq_true, decide_eq_true_eq, List.all_eq_true, List.mem_range] at h
  obtain ⟨⟨h1, h2, h3, h4⟩, h5, h6⟩ := h
  obtain ⟨k, rfl⟩ := Int.eq_ofNat_of_zero_le h1
  refine ⟨k, rfl, by omega, h3, h4, wf_nodes h5, h6, fun i hi hv => ?_⟩
  have := h5 i hi
  unfold nodeB at this
  rw [if_pos hv] at this
  simp only [Bool.and_eq_true, decide_eq_true_eq] at this
  exact this.2.2

/-- Every number that is found lies in a leaf. -/
theorem evN_leafs {m : Nat} {l : List Nd} (hw : WF m l) : ∀ (k i y : Nat), i < l.length → (m : Int) - (l.getD i nd0).1 ≤ k → ∃ j, j < l.length ∧ (l.getD j nd0).1 = (m : Int) ∧ evN m l k i y = (l.getD j nd0).2.2.2
  | 0, i, y, hi, hk => ⟨i, hi, by have := wf_hi hw hi; omega, rfl⟩
  | k + 1, i, y, hi, hk => by
    rw [evN]
    by_cases hlt : (l.getD i nd0).1 < (m : Int)
    · rw [if_pos hlt]
      rcases hw i hi with hl | ⟨v, lo, hi2, e, h1, h2, h3, h4, h5, h6⟩
      · have := hl.1; omega
      · rw [e] at hk ⊢
        simp only at hk ⊢
        simp only [Int.toNat_natCast]
        split
        · exact evN_leafs hw k hi2 y (by omega) (by omega)
        · exact evN_leafs hw k lo y (by omega) (by omega)
    · rw [if_neg hlt]
      exact ⟨i, hi, by have := wf_hi hw hi; omega, rfl⟩
theorem vldN_at {m : Nat} {l : List Nd} (h : vldN (m : Int) l = true) (y : Nat) : rerr (evD m l y) = 0 := by
  obtain ⟨k, e, h1, h2, h3, h4, h5, h6⟩ := vldN_parts h
  obtain rfl : m = k := by omega
  have h7 := wf_hi h4 (i := l.length - 1) (by omega)
  obtain ⟨j, j1, j2, j3⟩ := evN_leafs h4 m (l.length - 1) y (by omega) (by omega)
  unfold evD
  rw [j3]; exact h6 j j1 j2

/-- The number that a diagram has at values. -/
def valD (m : Nat) (l : List Nd) (y : Nat) : Rat := rval (evD m l y)
def bigB (h : Nat → Rat) (m : Nat) : Bool := (List.range (2 ^ m)).any fun y => !decide (fitsD 2000 (h y))
/-- What computed numbers give: the diagram, or the error. -/
def cmbR (h : Nat → Rat) (m : Nat) : Int × List Nd × Int := if bigB h m then (0, [], 6) else ((m : Int), madeN (fun y => ratText (h y)) m, 0)
def opR (op : Int) (x y : Rat) : Rat := if op = 1 then x + y else if op = 2 then x - y else if op = 3 then x * y else if op = 4 then (if x < y then y else x) else (if y < x then y else x)
def applyR (op m : Int) (l : List Nd) (m' : Int) (l' : List Nd) : Int × List Nd × Int :=
  if vldN m l && vldN m' l' then (if 1 ≤ op ∧ op ≤ 5 ∧ m = m' then cmbR (fun y => opR op (valD m.toNat l y) (valD m'.toNat l' y)) m.toNat else (0, [], 2)) else (0, [], 260)
/-- A number with the bit v replaced by b. -/
def setB (y v b : Nat) : Nat := y - (if y.testBit v then 2 ^ v else 0) + b * 2 ^ v
def fixR (v b m : Int) (l : List Nd) : Int × List Nd × Int :=
  if vldN m l then (if 0 ≤ v ∧ v < m ∧ 0 ≤ b ∧ b ≤ 1 then (m, madeN (fun y => evD m.toNat l (setB y v.toNat b.toNat)) m.toNat, 0) else (0, [], 2)) else (0, [], 260)
def sumR (v m : Int) (l : List Nd) : Int × List Nd × Int :=
  if vldN m l then (if 0 ≤ v ∧ v < m then cmbR (fun y => valD m.toNat l (setB y v.toNat 0) + valD m.toNat l (setB y v.toNat 1)) m.toNat else (0, [], 2)) else (0, [], 260)
def ofR (m : Int) (t : List (List UInt8)) : Int × List Nd × Int :=
  if 0 ≤ m ∧ m ≤ 6 ∧ t.length = 2 ^ m.toNat then (if t.all fun q => decide (rerr q = 0) then (m, madeN (fun y => t.getD y []) m.toNat, 0) else (0, [], 5)) else (0, [], 2)
theorem setB_lt6 : ∀ m, m < 7 → ∀ y, y < 2 ^ m → ∀ v, v < m → ∀ b, b < 2 → setB y v b < 2 ^ m := by decide +kernel
theorem setB_lt {y v b m : Nat} (hm : m ≤ 6) (hy : y < 2 ^ m) (hv : v < m) (hb : b ≤ 1) : setB y v b < 2 ^ m := setB_lt6 m (by omega) y hy v hv b (by omega)
theorem setB_commB : ((List.range 64).all fun y => (List.range 6).all fun i => (List.range 6).all fun j => i == j || ((List.range 2).all fun a => (List.range 2).all fun b => setB (setB y j b) i a == setB (setB y i a) j b)) = true := by decide +kernel
theorem setB_comm6 {y i j a b : Nat} (hy : y < 64) (hi : i < 6) (hj : j < 6) (hne : i ≠ j) (ha : a < 2) (hb : b < 2) : setB (setB y j b) i a = setB (setB y i a) j b := by
  have h := setB_commB
  rw [List.all_eq_true] at h
  have h := h y (List.mem_range.2 hy)
  rw [List.all_eq_true] at h
  have h := h i (List.mem_range.2 hi)
  rw [List.all_eq_true] at h
  have h := h j (List.mem_range.2 hj)
  rw [beq_eq_false_iff_ne.2 hne, Bool.false_or, List.all_eq_true] at h
  have h := h a (List.mem_range.2 ha)
  rw [List.all_eq_true] at h
  exact beq_iff_eq.1 (h b (List.mem_range.2 hb))
theorem setB_same6 : ∀ y, y < 64 → ∀ i, i < 6 → ∀ a, a < 2 → ∀ b, b < 2 → setB (setB y i b) i a = setB y i a := by decide +kernel
theorem setB_free6 : ∀ y, y < 64 → ∀ i, i < 6 → y.testBit i = false → ∀ a, a < 2 → setB (y + 2 ^ i) i a = setB y i a := by decide +kernel
end Go.Proofs.YtpmlmibceiolpaaGreatDoor
