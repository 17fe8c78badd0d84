/- A region that draws its order, met once for each operation and not once for each order: if each operation yields a value that meets a condition of its own, in every world that the others may leave, then all of them do behind the region, whichever order was drawn. No program in sight. -/
import Derived.WalkKit
import Derived.Orders
set_option linter.unusedSimpArgs false
set_option linter.unusedVariables false
namespace Go.Proofs.YtpmlmibceiolpaaGreatDoor
open Go.RowKit

section
variable {P : Program} {Q : Exit → Act → World → Prop}

/-- The frame behind the operations that are listed. -/
def fam (vals : Nat → Value) (L : Nat → Bool) : Nat → List Oper → Act → Act
  | _, [], a => a
  | i, o :: r, a => fam vals L (i + 1) r (if L i then a.put o.dst (vals i) else a)

def upd {α : Type} (f : Nat → α) (k : Nat) (x : α) : Nat → α := fun j => if j = k then x else f j
theorem upd_same {α : Type} (f : Nat → α) (k : Nat) (x : α) : upd f k x k = x := by simp [upd]
theorem upd_ne {α : Type} (f : Nat → α) {k j : Nat} (x : α) (h : j ≠ k) : upd f k x j = f j := by simp [upd, h]

theorem fam_congr {vals vals' : Nat → Value} {L L' : Nat → Bool} : ∀ (r : List Oper) (i : Nat) (a : Act), (∀ j, i ≤ j → L j = L' j ∧ (L j = true → vals j = vals' j)) → fam vals L i r a = fam vals' L' i r a := by
  intro r
  induction r with
  | nil => intro i a _; rfl
  | cons o r ih =>
    intro i a h
    simp only [fam]
    obtain ⟨h1, h2⟩ := h i (Nat.le_refl _)
    rw [ih (i + 1) _ (fun j hj => h j (by omega)), ← h1]
    cases hL : L i
    · simp
    · simp [h2 hL]

theorem fam_upto {vals : Nat → Value} {L L' : Nat → Bool} : ∀ (r : List Oper) (i : Nat) (a : Act), (∀ j, i ≤ j → j < i + r.length → L j = L' j) → fam vals L i r a = fam vals L' i r a := by
  intro r
  induction r with
  | nil => intro i a _; rfl
  | cons o r ih =>
    intro i a h
    simp only [List.length_cons] at h
    have h1 := h i (Nat.le_refl _) (by omega)
    simp only [fam]
    rw [ih (i + 1) _ (fun j hj hj2 => h j (by omega) (by omega))]
    cases hL : L i
    · rw [hL] at h1; simp [← h1]
    · rw [hL] at h1; simp [← h1]

theorem fam_comm {vals : Nat → Value} {L : Nat → Bool} {x : Option Tmp} {v : Value} : ∀ (r : List Oper) (i : Nat) (a : Act), (∀ o ∈ r, ∀ d, x = some d → o.dst ≠ some d) → fam vals L i r (a.put x v) = (fam vals L i r a).put x v := by
  intro r
  induction r with
  | nil => intro i a _; rfl
  | cons o r ih =>
    intro i a h
    simp only [fam]
    cases hL : L i
    · simp only [Bool.false_eq_true, if_false]
      exact ih _ _ (fun p hp => h p (List.mem_cons_of_mem _ hp))
    · simp only [if_true]
      rw [Act.put_comm a v (vals i) (fun d hd => h o (List.mem_cons_self ..) d hd)]
      exact ih _ _ (fun p hp => h p (List.mem_cons_of_mem _ hp))

theorem fam_at {vals : Nat → Value} {L : Nat → Bool} {o : Oper} {post : List Oper} {v : Value} : ∀ (pre : List Oper) (i k : Nat) (a : Act), k = i + pre.length → L k = false → (∀ p ∈ post, ∀ d, o.dst = some d → p.dst ≠ some d) →
    (fam vals L i (pre ++ o :: post) a).put o.dst v = fam (upd vals k v) (upd L k true) i (pre ++ o :: post) a := by
  intro pre
  induction pre with
  | nil =>
    intro i k a hk hL h2
    obtain rfl : k = i := by simpa using hk
    simp only [List.nil_append, fam, hL, Bool.false_eq_true, if_false, upd_same, if_true]
    rw [← fam_comm post (k + 1) a h2]
    exact fam_congr post (k + 1) _ (fun j hj => by rw [upd_ne _ _ (by omega), upd_ne _ _ (by omega)]; exact ⟨rfl, fun _ => rfl⟩)
  | cons p pre ih =>
    intro i k a hk hL h2
    simp only [List.length_cons] at hk
    simp only [List.cons_append, fam]
    rw [ih (i + 1) k _ (by omega) hL h2, upd_ne _ _ (by omega : i ≠ k), upd_ne _ _ (by omega : i ≠ k)]

/-- No two operations leave their values in one place. -/
def apartB : List Oper → Bool
  | [] => true
  | o :: r => (match o.dst with | none => true | some d => r.all fun p => p.dst != some d) && apartB r

theorem apartB_spec {o : Oper} {post : List Oper} : ∀ {pre : List Oper}, apartB (pre ++ o :: post) = true → ∀ p ∈ post, ∀ d, o.dst = some d → p.dst ≠ some d := by
  intro pre
  induction pre with
  | nil =>
    intro h p hp d hd
    simp only [List.nil_append, apartB, hd, Bool.and_eq_true, List.all_eq_true] at h
    simpa using h.1 p hp
  | cons q pre ih =>
    intro h
    simp only [List.cons_append, apartB, Bool.and_eq_true] at h
    exact ih h.2

/-- Operation i waits for j, through at most so many others. -/
def covers (ops : Array Oper) : Nat → Nat → Nat → Bool
  | 0, _, _ => false
  | d + 1, j, i => match ops[i]? with
    | none => false
    | some o => o.after.any fun e => Region.binds .any e && (e.on == j || covers ops d j e.on)

/-- Whoever is listed, those that it waits for are. -/
def Closed (ops : Array Oper) (L : Nat → Bool) : Prop := ∀ i o, ops[i]? = some o → L i = true → ∀ e ∈ o.after, Region.binds .any e = true → L e.on = true

theorem covers_spec {ops : Array Oper} {L : Nat → Bool} (hL : Closed ops L) : ∀ (d j i : Nat) (o : Oper), ops[i]? = some o → (∀ e ∈ o.after, Region.binds .any e = true → L e.on = true) → covers ops d j i = true → L j = true := by
  intro d
  induction d with
  | zero => intro j i o _ _ h; cases h
  | succ d ih =>
    intro j i o hi hp h
    simp only [covers, hi] at h
    obtain ⟨k, hk, he⟩ := Array.any_eq_true.1 h
    simp only [Bool.and_eq_true, Bool.or_eq_true, beq_iff_eq] at he
    have h1 := hp _ (Array.getElem_mem hk) he.1
    rcases he.2 with h2 | h2
    · rw [← h2]; exact h1
    · cases ho : ops[o.after[k].on]? with
      | none =>
        exfalso
        cases d with
        | zero => cases h2
        | succ d => simp only [covers, ho] at h2; cases h2
      | some o' => exact ih j _ o' ho (hL _ o' ho h1) h2

/-- What the law asks of a region's text: of its first n operations, and of those behind them, each of which waits for all that stand before it. -/
def famOk (ops : Array Oper) (n : Nat) : Bool :=
  apartB (ops.toList.take n) && Region.noSelect ops && ((List.range n).all fun i =>
    match ops[i]? with
    | none => false
    | some o => (o.after.all fun e => !Region.binds .any e || decide (e.on < i)) && (List.range n).all fun j =>
      match (ops[j]?).bind (·.dst) with
      | none => true
      | some d => !(o.looksAt ops).contains d || (o.after.any fun e => Region.binds .any e && e.on == j)) &&
  (List.range ops.size).all fun i => decide (i < n) ||
    match ops[i]? with
    | none => true
    | some o => (o.after.all fun e => !Region.binds .any e || decide (e.on < i)) && (List.range i).all fun j => covers ops 6 j i

theorem famOk_at {ops : Array Oper} {n : Nat} (h : famOk ops n = true) {i : Nat} {o : Oper} (hin : i < n) (hi : ops[i]? = some o) :
    (∀ e ∈ o.after, Region.binds .any e = true → e.on < i) ∧ ∀ (j : Nat) (oj : Oper) d, j < n → ops[j]? = some oj → oj.dst = some d → d ∈ o.looksAt ops → ∃ e ∈ o.after, Region.binds .any e = true ∧ e.on = j := by
  simp only [famOk, Bool.and_eq_true, List.all_eq_true, List.mem_range] at h
  have h1 := h.1.2 i hin
  simp only [hi, Bool.and_eq_true, List.all_eq_true, List.mem_range, Array.all_eq_true_iff_forall_mem, Bool.or_eq_true, Bool.not_eq_true', decide_eq_true_eq] at h1
  refine ⟨fun e he hb => (h1.1 e he).resolve_left (by simp [hb]), fun j oj d hjn hj hd hl => ?_⟩
  have h2 := h1.2 j hjn
  simp only [hj, Option.bind_some, hd, Bool.or_eq_true, Bool.not_eq_true', List.contains_eq_mem, decide_eq_false_iff_not] at h2
  rcases h2 with h2 | h2
  · exact absurd hl h2
  · obtain ⟨k, hk, he⟩ := Array.any_eq_true.1 h2
    simp only [Bool.and_eq_true, beq_iff_eq] at he
    exact ⟨_, Array.getElem_mem hk, he.1, he.2⟩

theorem famOk_tail {ops : Array Oper} {n : Nat} (h : famOk ops n = true) {i : Nat} {o : Oper} (hin : n ≤ i) (hi : ops[i]? = some o) :
    (∀ e ∈ o.after, Region.binds .any e = true → e.on < i) ∧ ∀ j, j < i → covers ops 6 j i = true := by
  have hlt : i < ops.size := (Array.getElem?_eq_some_iff.1 hi).1
  simp only [famOk, Bool.and_eq_true, List.all_eq_true, List.mem_range] at h
  have h1 := h.2 i hlt
  simp only [hi, Bool.or_eq_true, decide_eq_true_eq, Bool.and_eq_true, List.all_eq_true, List.mem_range, Array.all_eq_true_iff_forall_mem, Bool.not_eq_true'] at h1
  have h2 := h1.resolve_left (by omega)
  exact ⟨fun e he hb => (h2.1 e he).resolve_left (by simp [hb]), h2.2⟩

theorem famOk_back {ops : Array Oper} {n : Nat} (h : famOk ops n = true) {i : Nat} {o : Oper} (hi : ops[i]? = some o) : ∀ e ∈ o.after, Region.binds .any e = true → e.on < i := by
  rcases Nat.lt_or_ge i n with hin | hin
  · exact (famOk_at h hin hi).1
  · exact (famOk_tail h hin hi).1

theorem famOk_size {ops : Array Oper} {n : Nat} (h : famOk ops n = true) : n ≤ ops.size := by
  rcases Nat.lt_or_ge ops.size n with hlt | hge
  · simp only [famOk, Bool.and_eq_true, List.all_eq_true, List.mem_range] at h
    have h1 := h.1.2 ops.size hlt
    simp at h1
  · exact hge

theorem split_at {l : List Oper} {k : Nat} {o : Oper} (h : l[k]? = some o) : ∃ pre post, l = pre ++ o :: post ∧ pre.length = k := by
  obtain ⟨hk, e⟩ := List.getElem?_eq_some_iff.1 h
  refine ⟨l.take k, l.drop (k + 1), ?_, by simp; omega⟩
  rw [← e, ← List.drop_eq_getElem_cons hk, List.take_append_drop]

theorem pre_at {ops : Array Oper} {n k : Nat} {o : Oper} (hk : k < n) : (ops.toList.take n)[k]? = some o ↔ ops[k]? = some o := by
  rw [List.getElem?_take, if_pos hk]; simp

theorem fam_put {ops : Array Oper} {n : Nat} (h : famOk ops n = true) {k : Nat} {o : Oper} (hkn : k < n) (hk : ops[k]? = some o) {vals : Nat → Value} {L : Nat → Bool} (hL : L k = false) (v : Value) (a : Act) :
    (fam vals L 0 (ops.toList.take n) a).put o.dst v = fam (upd vals k v) (upd L k true) 0 (ops.toList.take n) a := by
  obtain ⟨pre, post, e, hl⟩ := split_at (l := ops.toList.take n) (k := k) (o := o) ((pre_at hkn).2 hk)
  have hap : apartB (ops.toList.take n) = true := by simp only [famOk, Bool.and_eq_true] at h; exact h.1.1.1
  rw [e] at hap ⊢
  exact fam_at pre 0 k a (by omega) hL (apartB_spec hap)

theorem fam_size {vals : Nat → Value} {L : Nat → Bool} : ∀ (r : List Oper) (i : Nat) (a : Act), (fam vals L i r a).tmps.size = a.tmps.size ∧ (fam vals L i r a).defers = a.defers := by
  intro r
  induction r with
  | nil => intro i a; exact ⟨rfl, rfl⟩
  | cons o r ih =>
    intro i a
    simp only [fam]
    have h := ih (i + 1) (if L i then a.put o.dst (vals i) else a)
    rw [h.1, h.2]
    split
    · cases o.dst <;> simp [Act.put]
    · exact ⟨rfl, rfl⟩

/-- What hangs only on the places that an operation looks at. -/
theorem fam_look {α : Type} {ops : Array Oper} {n : Nat} (h : famOk ops n = true) {i : Nat} {o : Oper} (hin : i < n) (hi : ops[i]? = some o) {vals : Nat → Value} {L : Nat → Bool} (hp : ∀ e ∈ o.after, Region.binds .any e = true → L e.on = true) (a : Act)
    (F : Act → α) (hF : ∀ (a : Act) (dst : Option Tmp) (v : Value), (∀ d, dst = some d → d ∉ o.looksAt ops) → F (a.put dst v) = F a) :
    F (fam vals L 0 (ops.toList.take n) a) = F (fam vals (fun _ => true) 0 (ops.toList.take n) a) := by
  have key : ∀ k, k ≤ n → F (fam vals L 0 (ops.toList.take n) a) = F (fam vals (fun j => L j || decide (j < k)) 0 (ops.toList.take n) a) := by
    intro k
    induction k with
    | zero => intro _; congr 1; exact fam_congr _ _ _ (fun j _ => ⟨by simp, fun _ => rfl⟩)
    | succ k ih =>
      intro hkn
      rw [ih (by omega)]
      by_cases hLk : L k = true
      · congr 1
        refine fam_congr _ _ _ (fun j _ => ⟨?_, fun _ => rfl⟩)
        by_cases hjk : j = k
        · subst hjk; simp [hLk]
        · have : decide (j < k) = decide (j < k + 1) := by simp; omega
          rw [this]
      · have hLk' : (fun j => L j || decide (j < k)) k = false := by simpa using hLk
        have hks : k < ops.size := by have := famOk_size h; omega
        have hk : ops[k]? = some ops[k] := by simp [hks]
        have h1 := fam_put h (by omega) hk (vals := vals) (L := fun j => L j || decide (j < k)) hLk' (vals k) a
        have h2 : fam (upd vals k (vals k)) (upd (fun j => L j || decide (j < k)) k true) 0 (ops.toList.take n) a = fam vals (fun j => L j || decide (j < k + 1)) 0 (ops.toList.take n) a := by
          refine fam_congr _ _ _ (fun j _ => ⟨?_, fun _ => ?_⟩)
          · by_cases hjk : j = k
            · subst hjk; simp [upd]
            · rw [upd_ne _ _ hjk]
              have : decide (j < k) = decide (j < k + 1) := by simp; omega
              rw [this]
          · by_cases hjk : j = k
            · subst hjk; simp [upd]
            · rw [upd_ne _ _ hjk]
        rw [h2] at h1
        rw [← h1]
        refine (hF _ ops[k].dst (vals k) ?_).symm
        intro d hd hl
        obtain ⟨e, he, hb, hon⟩ := (famOk_at h hin hi).2 k _ d (by omega) hk hd hl
        rw [← hon] at hLk
        exact hLk (hp e he hb)
  rw [key n (Nat.le_refl _)]
  congr 1
  exact fam_upto _ _ _ (fun j _ hj => by simp at hj ⊢; exact .inr (by omega))

/-- What an operation does hangs only on those that it waits for. -/
theorem fam_exec {ops : Array Oper} {n : Nat} (h : famOk ops n = true) {i : Nat} {o : Oper} (hin : i < n) (hi : ops[i]? = some o) {vals : Nat → Value} {L : Nat → Bool} (hp : ∀ e ∈ o.after, Region.binds .any e = true → L e.on = true) (a : Act) :
    execOp (fam vals L 0 (ops.toList.take n) a).eval o = execOp (fam vals (fun _ => true) 0 (ops.toList.take n) a).eval o := by
  have hs : ∀ cs b, o.op ≠ .select cs b := by
    intro cs b
    simp only [famOk, Bool.and_eq_true] at h
    exact Region.noSelect_spec h.1.1.2 i o cs b hi
  exact fam_look h hin hi hp a (fun a => execOp a.eval o) (fun a dst v hd => execOp_put (ops := ops) o hs a dst v hd)
theorem fam_wanted {ops : Array Oper} {n : Nat} (h : famOk ops n = true) {i : Nat} {o : Oper} (hin : i < n) (hi : ops[i]? = some o) {vals : Nat → Value} {L : Nat → Bool} (hp : ∀ e ∈ o.after, Region.binds .any e = true → L e.on = true) (a : Act) :
    Region.wanted o (yielded ops (fam vals L 0 (ops.toList.take n) a).tmps) = Region.wanted o (yielded ops (fam vals (fun _ => true) 0 (ops.toList.take n) a).tmps) :=
  fam_look h hin hi hp a (fun a => Region.wanted o (yielded ops a.tmps)) (fun a dst v hd => wanted_put o a dst v hd)

theorem put_inj {a A : Act} {x : Option Tmp} {u v : Value} (hs : a.tmps.size = A.tmps.size) (h : A.put x u = A.put x v) : a.put x u = a.put x v := by
  cases x with
  | none => rfl
  | some d =>
    simp only [Act.put, Act.mk.injEq, and_true] at h ⊢
    rcases Nat.lt_or_ge d A.tmps.size with hd | hd
    · have := congrArg (fun (t : Array Value) => t[d]?) h
      simp [hd] at this
      rw [this]
    · rw [Array.setIfInBounds_eq_of_size_le (by omega), Array.setIfInBounds_eq_of_size_le (by omega)]

theorem put_defers (A : Act) (x : Option Tmp) (u : Value) : (A.put x u).defers = A.defers := by cases x <;> rfl

theorem wp_move {o : Oper} {a A : Act} {w : World} {K : Act → World → Prop} {J : Value → World → Prop} (he : execOp a.eval o = execOp A.eval o) (hs : a.tmps.size = A.tmps.size)
    (hK : ∀ v w', J v w' → K (a.put o.dst v) w') {h0 : Exit → Act → World → Prop} (hno : ∀ e a w, h0 e a w → e = .normal) (h : o.wp P A w (fun a' w' => ∃ v, a' = A.put o.dst v ∧ J v w') h0) : o.wp P a w K Q := by
  unfold Oper.wp at *
  rw [he]
  have fin : ∀ u w', (∃ v, A.put o.dst u = A.put o.dst v ∧ J v w') → K (a.put o.dst u) w' := by
    rintro u w' ⟨v, e, hJ⟩
    rw [put_inj hs e]
    exact hK v w' hJ
  generalize (execOp A.eval o).run P w = r at *
  cases r with
  | ok n w' =>
    cases n <;> simp only [Oper.upon] at h ⊢
    case value u => exact fin _ _ h
    case skip => exact fin _ _ h
    case defer d =>
      obtain ⟨v, e, _⟩ := h
      have := congrArg Act.defers e
      rw [put_defers, put_defers] at this
      exact absurd (congrArg List.length this) (by simp)
    case enter f args =>
      refine Calls.mono h fun e w'' he => ?_
      cases e with
      | returned u => exact fin _ _ he
      | panicked c => exact absurd (hno _ _ _ he) (by simp)
      | outgrown =>
        obtain ⟨_, _, h⟩ := he
        exact absurd (hno _ _ _ h) (by simp)
    case row row args => exact Rows.mono h fun u w'' he => fin _ _ he
  | halt x w' =>
    cases x <;> simp only [Oper.upon] at h ⊢
    case panic u => exact absurd (hno _ _ _ h) (by simp)

/-- The operations behind, in their order. -/
theorem wpAny_tail {ops : Array Oper} {n : Nat} (hc : famOk ops n = true) : ∀ (fuel k : Nat) (listed : Array Bool) (a : Act) (w : World), n ≤ k → listed.size = ops.size → ops.size ≤ k + fuel →
    (∀ j, j < ops.size → listed.getD j false = decide (j < k)) → wpList P ops Q (ops.toList.drop k) a w → wpAny P .any ops Q fuel listed a w := by
  have hnil : ∀ (k : Nat) (listed : Array Bool), listed.size = ops.size → ops.size ≤ k → (∀ j, j < ops.size → listed.getD j false = decide (j < k)) → Region.ready .any ops listed = [] := by
    intro k listed hs hk hl
    apply List.eq_nil_iff_forall_not_mem.2
    intro j hjr
    obtain ⟨h1, o, ho, _⟩ := mem_ready.1 hjr
    have hlt : j < ops.size := (Array.getElem?_eq_some_iff.1 ho).1
    have h2 := hl j hlt
    have h3 : decide (j < k) = true := by simp; omega
    rw [h3] at h2
    have hlt' : j < listed.size := by omega
    simp [Array.getD, hlt'] at h1 h2
    rw [h1] at h2; cases h2
  intro fuel
  induction fuel with
  | zero =>
    intro k listed a w hnk hs hf hl h
    rw [List.drop_of_length_le (by simp; omega)] at h
    exact ⟨hnil k listed hs (by omega) hl, h⟩
  | succ fuel ih =>
    intro k listed a w hnk hs hf hl h
    refine ⟨fun hr => ?_, fun i hi => ?_⟩
    · rcases Nat.lt_or_ge k ops.size with hk | hk
      · exfalso
        have : k ∈ Region.ready .any ops listed := by
          refine mem_ready.2 ⟨?_, ops[k], by simp [hk], fun e he hb => ?_⟩
          · have h1 := hl k hk
            have hlt' : k < listed.size := by omega
            simp [Array.getD, hlt'] at h1 ⊢; exact h1
          · have h2 := (famOk_tail hc hnk (o := ops[k]) (by simp [hk])).1 e he hb
            rw [hl _ (by omega)]; simpa using h2
        rw [hr] at this; cases this
      · rw [List.drop_of_length_le (by simp; omega)] at h
        exact h
    · obtain ⟨h1, o, ho, hall⟩ := mem_ready.1 hi
      have hlt : i < ops.size := (Array.getElem?_eq_some_iff.1 ho).1
      have hlt' : i < listed.size := by omega
      have h2 := hl i hlt
      have hik : i = k := by
        have h3 : decide (i < k) = false := by
          rw [← h2]; simp [Array.getD, hlt'] at h1 ⊢; exact h1
        have h4 : k ≤ i := by simpa using h3
        rcases Nat.eq_or_lt_of_le h4 with h5 | h5
        · exact h5.symm
        · have h6 := covers_spec (ops := ops) (L := fun j => listed.getD j false) (fun i' o' hi' hL' e he hb => by
            have hlt2 : i' < ops.size := (Array.getElem?_eq_some_iff.1 hi').1
            have hback := famOk_back hc hi' e he hb
            have hL2 : listed.getD i' false = true := hL'
            show listed.getD e.on false = true
            rw [hl i' hlt2] at hL2
            rw [hl _ (by omega)]
            simp at hL2 ⊢; omega) 6 k i o ho hall ((famOk_tail hc (by omega) ho).2 k h5)
          have h7 : listed.getD k false = true := h6
          rw [hl _ (by omega)] at h7
          simp at h7
      subst hik
      have e : ops.toList.drop i = o :: ops.toList.drop (i + 1) := by
        rw [List.drop_eq_getElem_cons (by simpa using hlt)]
        have : ops[i] = o := (Array.getElem?_eq_some_iff.1 ho).2
        simp [this]
      rw [e] at h
      have step : ∀ a' w', wpList P ops Q (ops.toList.drop (i + 1)) a' w' → wpAny P .any ops Q fuel (listed.setIfInBounds i true) a' w' := by
        intro a' w' h'
        refine ih (i + 1) _ a' w' (by omega) (by simpa using hs) (by omega) (fun j hj => ?_) h'
        by_cases hji : j = i
        · subst hji; simp [hlt']
        · rw [getD_set_ne false (fun e => hji e.symm), hl j hj]; simp; omega
      unfold wpOp
      rw [ho]
      unfold wpList at h
      simp only
      split
      · rename_i hw
        rw [if_pos hw] at h
        exact h.imp (Oper.wp_mono step) id
      · rename_i hw
        rw [if_neg hw] at h
        exact step _ _ h

theorem wpAny_fam {ops : Array Oper} {n : Nat} (hc : famOk ops n = true) {a : Act} {h0 : Exit → Act → World → Prop} (hno : ∀ e a w, h0 e a w → e = .normal) (I : (Nat → Bool) → (Nat → Value) → World → Prop)
    (hstep : ∀ i o, i < n → ops[i]? = some o → ∀ L vals w, I L vals w → L i = false → (∀ e ∈ o.after, Region.binds .any e = true → L e.on = true) →
      if Region.wanted o (yielded ops (fam vals (fun _ => true) 0 (ops.toList.take n) a).tmps) then o.wp P (fam vals (fun _ => true) 0 (ops.toList.take n) a) w (fun a' w' => ∃ v, a' = (fam vals (fun _ => true) 0 (ops.toList.take n) a).put o.dst v ∧ I (upd L i true) (upd vals i v) w') h0
      else ∃ v, (fam vals (fun _ => true) 0 (ops.toList.take n) a).put o.dst undef = (fam vals (fun _ => true) 0 (ops.toList.take n) a).put o.dst v ∧ I (upd L i true) (upd vals i v) w)
    (hcong : ∀ L L' vals w, (∀ j, L j = L' j) → I L vals w → I L' vals w)
    (hend : ∀ L vals w, (∀ j, j < n → L j = true) → I L vals w → wpList P ops Q (ops.toList.drop n) (fam vals (fun _ => true) 0 (ops.toList.take n) a) w) :
    ∀ (fuel : Nat) (listed : Array Bool) (vals : Nat → Value) (w : World), listed.size = ops.size → listed.toList.count false ≤ fuel → (∀ j, n ≤ j → j < ops.size → listed.getD j false = false) → Closed ops (fun j => listed.getD j false) → I (fun j => listed.getD j false) vals w →
      wpAny P .any ops Q fuel listed (fam vals (fun j => listed.getD j false) 0 (ops.toList.take n) a) w := by
  have hsz := famOk_size hc
  have hall : ∀ (fuel : Nat) (listed : Array Bool) (vals : Nat → Value) (w : World), listed.size = ops.size → listed.toList.count false ≤ fuel → (∀ j, n ≤ j → j < ops.size → listed.getD j false = false) → (∀ j, j < n → listed.getD j false = true) → I (fun j => listed.getD j false) vals w → wpAny P .any ops Q fuel listed (fam vals (fun j => listed.getD j false) 0 (ops.toList.take n) a) w := by
    intro fuel listed vals w hs hcnt htl hj hI
    have h1 := hend _ vals w hj hI
    rw [fam_upto (vals := vals) (L := fun j => listed.getD j false) (L' := fun _ => true) (ops.toList.take n) 0 a (fun j _ hj2 => hj j (by simp at hj2; omega))]
    refine wpAny_tail hc fuel n listed _ w (Nat.le_refl _) hs ?_ (fun j hjs => ?_) h1
    · have h2 : (listed.toList.drop n).count false = ops.size - n := by
        have : listed.toList.drop n = List.replicate (ops.size - n) false := by
          apply List.eq_replicate_iff.2
          refine ⟨by simp [hs], fun b hb => ?_⟩
          obtain ⟨i, hi, rfl⟩ := List.getElem_of_mem hb
          simp at hi
          have := htl (n + i) (by omega) (by omega)
          have hlt : n + i < listed.size := by omega
          simpa [Array.getD, hlt] using this
        rw [this]; simp
      have h3 : (listed.toList.drop n).count false ≤ listed.toList.count false := (List.drop_sublist _ _).count_le _
      omega
    · rcases Nat.lt_or_ge j n with h | h
      · rw [hj j h]; simp [h]
      · rw [htl j h hjs]; simp; omega
  intro fuel
  induction fuel with
  | zero =>
    intro listed vals w hs hcnt htl hcl hI
    refine hall _ _ _ _ hs hcnt htl (fun j hj => ?_) hI
    have h0 : listed.toList.count false = 0 := by omega
    have h1 := List.count_eq_zero.1 h0
    cases hb : listed.getD j false with
    | true => rfl
    | false =>
      exfalso; apply h1
      have hlt : j < listed.size := by omega
      have : listed[j] = false := by simpa [Array.getD, hlt] using hb
      rw [← this]; simp
  | succ fuel ih =>
    intro listed vals w hs hcnt htl hcl hI
    by_cases hdone : ∀ j, j < n → listed.getD j false = true
    · exact hall _ _ _ _ hs hcnt htl hdone hI
    obtain ⟨j0, hj0, hL0⟩ : ∃ j0, j0 < n ∧ listed.getD j0 false = false := by
      apply Classical.byContradiction
      intro hcon
      apply hdone
      intro j hj
      cases hb : listed.getD j false with
      | true => rfl
      | false => exact absurd ⟨j, hj, hb⟩ hcon
    refine ⟨fun hr => ?_, fun i hi => ?_⟩
    · exfalso
      apply hdone
      intro j
      induction j using Nat.strongRecOn with
      | _ j ihj =>
        intro hj
        cases hb : listed.getD j false with
        | true => rfl
        | false =>
          exfalso
          have hlt' : j < listed.size := by omega
          have : j ∈ Region.ready .any ops listed := by
            refine mem_ready.2 ⟨?_, ops[j], by simp, fun e he hbd => ?_⟩
            · simp [Array.getD, hlt'] at hb ⊢; exact hb
            · have hlt2 := (famOk_at hc (i := j) (o := ops[j]) hj (by simp)).1 e he hbd
              exact ihj _ hlt2 (by omega)
          rw [hr] at this; cases this
    · obtain ⟨h1, o, ho, hall'⟩ := mem_ready.1 hi
      have hlt : i < ops.size := (Array.getElem?_eq_some_iff.1 ho).1
      have hlt' : i < listed.size := by omega
      have hin : i < n := by
        rcases Nat.lt_or_ge i n with h | h
        · exact h
        · exfalso
          have := covers_spec hcl 6 j0 i o ho hall' ((famOk_tail hc h ho).2 j0 (by omega))
          simp only [hL0] at this; cases this
      have hLi : listed.getD i false = false := by simp [Array.getD, hlt'] at h1 ⊢; exact h1
      have hst := hstep i o hin ho _ vals w hI hLi hall'
      have fin : ∀ v w', I (upd (fun j => listed.getD j false) i true) (upd vals i v) w' → wpAny P .any ops Q fuel (listed.setIfInBounds i true) ((fam vals (fun j => listed.getD j false) 0 (ops.toList.take n) a).put o.dst v) w' := by
        intro v w' hJ
        rw [fam_put hc hin ho (L := fun j => listed.getD j false) hLi]
        have e : ∀ j, upd (fun j => listed.getD j false) i true j = (listed.setIfInBounds i true).getD j false := by
          intro j
          by_cases hji : j = i
          · subst hji; simp [upd, hlt']
          · rw [upd_ne _ _ hji, getD_set_ne false (fun e => hji e.symm)]
        have e2 := fam_congr (vals := upd vals i v) (vals' := upd vals i v) (ops.toList.take n) 0 a (fun j _ => ⟨e j, fun _ => rfl⟩)
        rw [e2]
        refine ih _ _ _ (by simpa using hs) ?_ (fun j h2 h3 => by rw [getD_set_ne false (by omega)]; exact htl j h2 h3) (fun i' o' hi' hL' e' he' hb' => by
          by_cases hii : i' = i
          · subst hii
            rw [ho] at hi'; cases hi'
            exact getD_set_true (hall' e' he' hb')
          · simp only [getD_set_ne false (fun e => hii e.symm)] at hL'
            exact getD_set_true (hcl i' o' hi' hL' e' he' hb')) (hcong _ _ _ _ e hJ)
        have hget : listed.toList[i]'(by simpa using hlt') = false := by simpa [Array.getD, hlt'] using hLi
        rw [Array.toList_setIfInBounds, List.count_set (by simpa using hlt')]
        have hmem : false ∈ listed.toList := by rw [← hget]; exact List.getElem_mem _
        have hpos : 0 < listed.toList.count false := List.count_pos_iff.2 hmem
        rw [hget, if_pos (by decide), if_neg (by decide)]
        omega
      unfold wpOp
      rw [ho]
      simp only
      rw [fam_wanted hc hin ho hall' a]
      split
      · rename_i hw
        rw [if_pos hw] at hst
        exact .inl (wp_move (fam_exec hc hin ho hall' a) (by rw [(fam_size _ _ _).1, (fam_size _ _ _).1]) fin hno hst)
      · rename_i hw
        rw [if_neg hw] at hst
        obtain ⟨v, e, hJ⟩ := hst
        rw [put_inj (by rw [(fam_size _ _ _).1, (fam_size _ _ _).1]) e]
        exact fin v _ hJ

/-- A value that is the address of a block just made. -/
def NewAt : Bool → Value → World → Prop
  | true, v, w => v = .pointer (some ⟨w.heap.size, 0, none⟩)
  | false, _, _ => True

/-- Where a walk through one operation is to end. -/
def EndAt (A : Act) (x : Option Tmp) (φ : Value → World → Prop) (b : Bool) (w : World) : Exit → Act → World → Prop := fun e a' w' => e = .normal ∧ ∃ v, a' = A.put x v ∧ φ v w' ∧ Below w.heap.size w w' ∧ NewAt b v w

/-- What holds of those that an operation waits for. -/
def preOk (Φ : Nat → Value → World → Prop) (vals : Nat → Value) (w : World) : List Edge → Prop
  | [] => True
  | e :: r => match Region.binds .any e with | true => Φ e.on (vals e.on) w ∧ preOk Φ vals w r | false => preOk Φ vals w r

def allOk (Φ : Nat → Value → World → Prop) (vals : Nat → Value) (w : World) : Nat → List Oper → Prop
  | _, [] => True
  | i, _ :: r => Φ i (vals i) w ∧ allOk Φ vals w (i + 1) r

def stepOk (P : Program) (ops : Array Oper) (W : World) (N : List Nat) (Φ : Nat → Value → World → Prop) (A : (Nat → Value) → Act) : Nat → List Oper → Prop
  | _, [] => True
  | i, o :: r => (∀ vals w, Below W.heap.size W w → preOk Φ vals w o.after.toList → wpList P ops (EndAt (A vals) o.dst (Φ i) (N.contains i) w) [o] (A vals) w) ∧ stepOk P ops W N Φ A (i + 1) r

theorem preOk_of {Φ : Nat → Value → World → Prop} {vals : Nat → Value} {w : World} : ∀ (l : List Edge), (∀ e ∈ l, Region.binds .any e = true → Φ e.on (vals e.on) w) → preOk Φ vals w l := by
  intro l
  induction l with
  | nil => intro _; trivial
  | cons e r ih =>
    intro h
    have hr := ih (fun x hx => h x (List.mem_cons_of_mem _ hx))
    simp only [preOk]
    cases hb : Region.binds .any e
    · exact hr
    · exact ⟨h e (List.mem_cons_self ..) hb, hr⟩

theorem allOk_of {Φ : Nat → Value → World → Prop} {vals : Nat → Value} {w : World} : ∀ (l : List Oper) (i : Nat), (∀ j, i ≤ j → j < i + l.length → Φ j (vals j) w) → allOk Φ vals w i l := by
  intro l
  induction l with
  | nil => intro i _; trivial
  | cons o r ih =>
    intro i h
    simp only [List.length_cons] at h
    exact ⟨h i (Nat.le_refl _) (by omega), ih _ (fun j h1 h2 => h j (by omega) (by omega))⟩

theorem stepOk_at {ops : Array Oper} {W : World} {N : List Nat} {Φ : Nat → Value → World → Prop} {A : (Nat → Value) → Act} {o : Oper} : ∀ (l : List Oper) (i k : Nat), l[k]? = some o → stepOk P ops W N Φ A i l →
    ∀ vals w, Below W.heap.size W w → preOk Φ vals w o.after.toList → wpList P ops (EndAt (A vals) o.dst (Φ (i + k)) (N.contains (i + k)) w) [o] (A vals) w := by
  intro l
  induction l with
  | nil => intro i k h; simp at h
  | cons p r ih =>
    intro i k h hs
    cases k with
    | zero => simp at h; subst h; exact hs.1
    | succ k =>
      have := ih (i + 1) k (by simpa using h) hs.2
      rwa [show i + 1 + k = i + (k + 1) by omega] at this

/-- **A region that draws its order**: its first n operations, each met once; those behind them in their order. W is the world behind the draw. -/
theorem wpAny_start (n : Nat) {ops : Array Oper} {a : Act} {w : World} (hc : famOk ops n = true) (N : List Nat) (Φ : Nat → Value → World → Prop) {A : (Nat → Value) → Act} {pre tl : List Oper}
    (hpre : ops.toList.take n = pre) (htl : ops.toList.drop n = tl)
    (hA : ∀ vals, fam vals (fun _ => true) 0 pre a = A vals) (hΦ : ∀ i v w1 w2, Below w.drew.heap.size w.drew w1 → Below w1.heap.size w1 w2 → Φ i v w1 → Φ i v w2)
    (hN : ∀ i v w1, N.contains i = true → Φ i v w1 → ∃ g, v = .pointer (some ⟨g, 0, none⟩) ∧ g < w1.heap.size)
    (hs : stepOk P ops w.drew N Φ A 0 pre) (hend : ∀ vals w1, Below w.drew.heap.size w.drew w1 → allOk Φ vals w1 0 pre → (∀ i j, N.contains i = true → N.contains j = true → i ≠ j → i < n → j < n → vals i ≠ vals j) → wpList P ops Q tl (A vals) w1) : wpAny P .any ops Q ops.size (Array.replicate ops.size false) a w.drew := by
  subst hpre
  subst htl
  have hsz := famOk_size hc
  have h := wpAny_fam (P := P) (Q := Q) (ops := ops) (n := n) hc (a := a) (h0 := fun e _ _ => e = .normal) (fun e _ _ h => h) (fun L vals w1 => Below w.drew.heap.size w.drew w1 ∧ (∀ j, j < n → L j = true → Φ j (vals j) w1) ∧ (∀ i j, N.contains i = true → N.contains j = true → i ≠ j → i < n → j < n → L i = true → L j = true → vals i ≠ vals j)) ?_ ?_ ?_ ops.size (Array.replicate ops.size false) (fun _ => undef) w.drew (by simp) (by simp) (fun j _ _ => by simp only [Array.getD]; split <;> simp) (fun i o _ hL => by simp only [Array.getD] at hL; split at hL <;> simp at hL) ⟨Below.refl _ _, fun j _ hj => ?_, fun i j _ _ _ _ _ hj => ?_⟩
  · have e : fam (fun _ => undef) (fun j => (Array.replicate ops.size false).getD j false) 0 (ops.toList.take n) a = a := by
      have : ∀ (r : List Oper) (i : Nat), fam (fun _ => undef) (fun _ => false) i r a = a := by
        intro r
        induction r with
        | nil => intro i; rfl
        | cons o r ih => intro i; simp only [fam, Bool.false_eq_true, if_false]; exact ih _
      refine (fam_congr (vals' := fun _ => undef) (L' := fun _ => false) _ _ _ (fun j _ => ⟨?_, fun _ => rfl⟩)).trans (this _ _)
      simp only [Array.getD]; split <;> simp
    rw [e] at h
    exact h
  · intro i o hin hi L vals w' hI hL hp
    have h1 := stepOk_at (P := P) (ops.toList.take n) 0 i ((pre_at hin).2 hi) hs vals w' hI.1 (preOk_of _ fun e he hb => hI.2.1 _ (by have := (famOk_at hc hin hi).1 e (by simpa using he) hb; omega) (hp e (by simpa using he) hb))
    rw [Nat.zero_add] at h1
    rw [hA]
    have fin : ∀ a' w'', EndAt (A vals) o.dst (Φ i) (N.contains i) w' .normal a' w'' → ∃ v, a' = (A vals).put o.dst v ∧ (Below w.drew.heap.size w.drew w'' ∧ (∀ j, j < n → upd L i true j = true → Φ j (upd vals i v j) w'') ∧ (∀ i' j, N.contains i' = true → N.contains j = true → i' ≠ j → i' < n → j < n → upd L i true i' = true → upd L i true j = true → upd vals i v i' ≠ upd vals i v j)) := by
      rintro a' w'' ⟨_, v, e, hφ, hR, hNew⟩
      have hother : ∀ j, j < n → j ≠ i → N.contains i = true → N.contains j = true → L j = true → v ≠ vals j := by
        intro j hjn hji hNi hNj hLj heq
        obtain ⟨g, hg, hlt⟩ := hN j _ _ hNj (hI.2.1 j hjn hLj)
        rw [hNi] at hNew
        simp only [NewAt] at hNew
        rw [hg, hNew] at heq
        injection heq with heq
        injection heq with heq
        injection heq with heq
        omega
      refine ⟨v, e, hI.1.trans (hR.mono hI.1.size), fun j hjn hj => ?_, fun i' j hNi hNj hne hi'n hjn hi' hj => ?_⟩
      · by_cases hji : j = i
        · subst hji; rw [upd_same]; exact hφ
        · rw [upd_ne _ _ hji] at hj ⊢
          exact hΦ _ _ _ _ hI.1 hR (hI.2.1 j hjn hj)
      · by_cases h1 : i' = i
        · subst h1
          have h2 : j ≠ i' := fun e => hne e.symm
          rw [upd_same, upd_ne _ _ h2]
          rw [upd_ne _ _ h2] at hj
          exact hother j hjn h2 hNi hNj hj
        · rw [upd_ne _ _ h1] at hi' ⊢
          by_cases h2 : j = i
          · subst h2
            rw [upd_same]
            exact fun e => hother i' hi'n h1 hNj hNi hi' e.symm
          · rw [upd_ne _ _ h2] at hj ⊢
            exact hI.2.2 i' j hNi hNj hne hi'n hjn hi' hj
    unfold wpList at h1
    split
    · rename_i hw
      rw [if_pos hw] at h1
      rcases h1 with h1 | ⟨_, a1, w1, h1, _⟩
      · exact wp_move (P := P) (Q := fun e _ _ => e = .normal) (o := o) (a := A vals) (A := A vals) (w := w') (K := fun a' w'' => ∃ v, a' = (A vals).put o.dst v ∧ (Below w.drew.heap.size w.drew w'' ∧ (∀ j, j < n → upd L i true j = true → Φ j (upd vals i v j) w'') ∧ (∀ i' j, N.contains i' = true → N.contains j = true → i' ≠ j → i' < n → j < n → upd L i true i' = true → upd L i true j = true → upd vals i v i' ≠ upd vals i v j))) rfl rfl (fun v w'' hJ => ⟨v, rfl, hJ⟩) (fun e a w h => h.1) (Oper.wp_mono fin h1)
      · cases h1
    · rename_i hw
      rw [if_neg hw] at h1
      exact fin _ _ h1
  · intro L L' vals w' he hI
    exact ⟨hI.1, fun j hjn hj => hI.2.1 j hjn (by rw [he]; exact hj), fun i j h1 h2 h3 h4 h5 h6 h7 => hI.2.2 i j h1 h2 h3 h4 h5 (by rw [he]; exact h6) (by rw [he]; exact h7)⟩
  · intro L vals w' hj hI
    rw [hA]
    exact hend vals w' hI.1 (allOk_of _ _ fun j _ h2 => hI.2.1 j (by simp at h2; omega) (hj j (by simp at h2; omega))) (fun i j h1 h2 h3 h4 h5 => hI.2.2 i j h1 h2 h3 h4 h5 (hj i h4) (hj j h5))
  · simp only [Array.getD] at hj
    split at hj <;> simp at hj
  · simp only [Array.getD] at hj
    split at hj <;> simp at hj

theorem wp_region_fam (n : Nat) {id : Nat} {ops : Array Oper} {a : Act} {w : World} (hm : P.follows .mixedOrders = true) (hc : famOk ops n = true) (N : List Nat) (Φ : Nat → Value → World → Prop) {A : (Nat → Value) → Act} {pre tl : List Oper}
    (hpre : ops.toList.take n = pre) (htl : ops.toList.drop n = tl)
    (hA : ∀ vals, fam vals (fun _ => true) 0 pre a = A vals) (hΦ : ∀ i v w1 w2, Below w.drew.heap.size w.drew w1 → Below w1.heap.size w1 w2 → Φ i v w1 → Φ i v w2)
    (hN : ∀ i v w1, N.contains i = true → Φ i v w1 → ∃ g, v = .pointer (some ⟨g, 0, none⟩) ∧ g < w1.heap.size)
    (hs : stepOk P ops w.drew N Φ A 0 pre) (hend : ∀ vals w1, Below w.drew.heap.size w.drew w1 → allOk Φ vals w1 0 pre → (∀ i j, N.contains i = true → N.contains j = true → i ≠ j → i < n → j < n → vals i ≠ vals j) → wpList P ops Q tl (A vals) w1) : (Code.region id ops true).wp P Q a w :=
  wp_region_any hm (wpAny_start n hc N Φ hpre htl hA hΦ hN hs hend)

/-- What holds of a value goes on holding while the others work. -/
def Stab (W : World) (φ : Value → World → Prop) : Prop := ∀ v w1 w2, Below W.heap.size W w1 → Below w1.heap.size w1 w2 → φ v w1 → φ v w2
def allStab (W : World) : List (Value → World → Prop) → Prop
  | [] => True
  | φ :: r => Stab W φ ∧ allStab W r
theorem Stab.eq (W : World) (x : Value) : Stab W (fun v _ => v = x) := fun _ _ _ _ _ h => h
theorem Stab.none (W : World) : Stab W (fun _ _ => True) := fun _ _ _ _ _ h => h
theorem allStab_at {W : World} : ∀ (Φs : List (Value → World → Prop)), allStab W Φs → ∀ i, Stab W (Φs.getD i (fun _ _ => True)) := by
  intro Φs
  induction Φs with
  | nil => intro _ i; simpa using Stab.none W
  | cons φ r ih =>
    intro h i
    cases i with
    | zero => simpa using h.1
    | succ i => simpa using ih h.2 i

def allNew (Φs : List (Value → World → Prop)) : List Nat → Prop
  | [] => True
  | i :: r => (∀ v w1, Φs.getD i (fun _ _ => True) v w1 → ∃ g, v = .pointer (some ⟨g, 0, Option.none⟩) ∧ g < w1.heap.size) ∧ allNew Φs r
theorem allNew_at {Φs : List (Value → World → Prop)} : ∀ (N : List Nat), allNew Φs N → ∀ i, N.contains i = true → ∀ v w1, Φs.getD i (fun _ _ => True) v w1 → ∃ g, v = .pointer (some ⟨g, 0, Option.none⟩) ∧ g < w1.heap.size := by
  intro N
  induction N with
  | nil => intro _ i h; cases h
  | cons k r ih =>
    intro h i hi
    rw [List.contains_cons, Bool.or_eq_true, beq_iff_eq] at hi
    rcases hi with rfl | hi
    · exact h.1
    · exact ih h.2 i hi

/-- The same, the conditions as a list. -/
theorem wp_region_list (n : Nat) {id : Nat} {ops : Array Oper} {a : Act} {w : World} (hm : P.follows .mixedOrders = true) (hc : famOk ops n = true) (N : List Nat) (Φs : List (Value → World → Prop)) {A : (Nat → Value) → Act} {pre tl : List Oper}
    (hpre : ops.toList.take n = pre) (htl : ops.toList.drop n = tl)
    (hA : ∀ vals, fam vals (fun _ => true) 0 pre a = A vals) (hΦ : allStab w.drew Φs) (hN : allNew Φs N)
    (hs : stepOk P ops w.drew N (fun i => Φs.getD i (fun _ _ => True)) A 0 pre) (hend : ∀ vals w1, Below w.drew.heap.size w.drew w1 → allOk (fun i => Φs.getD i (fun _ _ => True)) vals w1 0 pre → (∀ i j, N.contains i = true → N.contains j = true → i ≠ j → i < n → j < n → vals i ≠ vals j) → wpList P ops Q tl (A vals) w1) : (Code.region id ops true).wp P Q a w :=
  wp_region_fam n hm hc N _ hpre htl hA (fun i v w1 w2 h1 h2 h3 => allStab_at Φs hΦ i v w1 w2 h1 h2 h3) (fun i v w1 h1 h2 => allNew_at N hN i h1 v w1 h2) hs hend

end
end Go.Proofs.YtpmlmibceiolpaaGreatDoor
