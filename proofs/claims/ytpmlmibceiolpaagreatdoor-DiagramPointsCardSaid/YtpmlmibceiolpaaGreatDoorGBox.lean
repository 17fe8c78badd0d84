/- A region that draws its order, one of whose operations stores a result into a block that another has made: each operation met once. -/
import Derived.Test.YtpmlmibceiolpaaGreatDoorGPut
set_option linter.unusedSimpArgs false
set_option linter.unusedVariables false
namespace Go.Proofs.YtpmlmibceiolpaaGreatDoor
open Go.RowKit
section
variable {P : Program} {Q : Exit → Act → World → Prop}

/-- No operation of the first n waits for the store, none but the store for the block; the store waits for the block and for the result. -/
def boxOk (ops : Array Oper) (n ai si ri : Nat) : Bool :=
  decide (ai < n) && decide (si < n) && decide (ri < n) && decide (ai ≠ si) && decide (ri ≠ si) && decide (ri ≠ ai) && ((List.range n).all fun i => match ops[i]? with
    | none => false
    | some o => o.after.all fun e => !Region.binds .any e || (decide (e.on ≠ si) && (decide (e.on ≠ ai) || decide (i = si)))) &&
  match ops[si]? with
  | none => false
  | some o => (o.after.any fun e => Region.binds .any e && decide (e.on = ai)) && (o.after.any fun e => Region.binds .any e && decide (e.on = ri)) && o.dst.isNone

theorem boxOk_at {ops : Array Oper} {n ai si ri : Nat} (h : boxOk ops n ai si ri = true) {i : Nat} {o : Oper} (hin : i < n) (hi : ops[i]? = some o) :
    ∀ e ∈ o.after, Region.binds .any e = true → e.on ≠ si ∧ (e.on = ai → i = si) := by
  simp only [boxOk, Bool.and_eq_true, List.all_eq_true, List.mem_range] at h
  have h1 := h.1.2 i hin
  simp only [hi, Array.all_eq_true_iff_forall_mem, Bool.or_eq_true, Bool.not_eq_true', Bool.and_eq_true, decide_eq_true_eq] at h1
  intro e he hb
  obtain ⟨h2, h3⟩ := (h1 e he).resolve_left (by simp [hb])
  exact ⟨h2, fun h => h3.resolve_left (fun h' => h' h)⟩
theorem boxOk_store {ops : Array Oper} {n ai si ri : Nat} (h : boxOk ops n ai si ri = true) {o : Oper} (hi : ops[si]? = some o) :
    (∃ e ∈ o.after, Region.binds .any e = true ∧ e.on = ai) ∧ (∃ e ∈ o.after, Region.binds .any e = true ∧ e.on = ri) ∧ o.dst = none := by
  simp only [boxOk, Bool.and_eq_true] at h
  have h1 := h.2
  simp only [hi, Bool.and_eq_true, Option.isNone_iff_eq_none] at h1
  obtain ⟨⟨h1, h2⟩, h3⟩ := h1
  refine ⟨?_, ?_, h3⟩
  · obtain ⟨k, hk, he⟩ := Array.any_eq_true.1 h1
    simp only [Bool.and_eq_true, decide_eq_true_eq] at he
    exact ⟨_, Array.getElem_mem hk, he.1, he.2⟩
  · obtain ⟨k, hk, he⟩ := Array.any_eq_true.1 h2
    simp only [Bool.and_eq_true, decide_eq_true_eq] at he
    exact ⟨_, Array.getElem_mem hk, he.1, he.2⟩
theorem boxOk_lt {ops : Array Oper} {n ai si ri : Nat} (h : boxOk ops n ai si ri = true) : ai < n ∧ si < n ∧ ri < n ∧ ai ≠ si ∧ ri ≠ si ∧ ri ≠ ai := by
  simp only [boxOk, Bool.and_eq_true, decide_eq_true_eq] at h
  obtain ⟨⟨⟨⟨⟨⟨⟨h1, h2⟩, h3⟩, h4⟩, h5⟩, h6⟩, _⟩, _⟩ := h
  exact ⟨h1, h2, h3, h4, h5, h6⟩

/-- The block holds the result. -/
def InBox (t : TypeId) (cl : Value → Array Value) (va vr : Value) (w : World) : Prop := ∃ g, va = .pointer (some ⟨g, 0, none⟩) ∧ Blk w g t (cl vr)
def EndB (A : Act) (t : TypeId) (cl : Value → Array Value) (va vr : Value) (w : World) : Exit → Act → World → Prop := fun e a' w' => e = .normal ∧ a' = A ∧ ∃ g, va = .pointer (some ⟨g, 0, none⟩) ∧ Blk w' g t (cl vr) ∧ Chg (some g) w w'

def stepOkB (P : Program) (ops : Array Oper) (W : World) (N : List Nat) (ai si ri : Nat) (t : TypeId) (cl : Value → Array Value) (Φ : Nat → Value → World → Prop) (A : (Nat → Value) → Act) : Nat → List Oper → Prop
  | _, [] => True
  | i, o :: r => (∀ vals w, Below W.heap.size W w → preOk Φ vals w o.after.toList → wpList P ops (match decide (i = si) with | true => EndB (A vals) t cl (vals ai) (vals ri) w | false => EndAt (A vals) o.dst (Φ i) (N.contains i) w) [o] (A vals) w) ∧ stepOkB P ops W N ai si ri t cl Φ A (i + 1) r

theorem stepOkB_at {ops : Array Oper} {W : World} {N : List Nat} {ai si ri : Nat} {t : TypeId} {cl : Value → Array Value} {Φ : Nat → Value → World → Prop} {A : (Nat → Value) → Act} {o : Oper} : ∀ (l : List Oper) (i k : Nat), l[k]? = some o → stepOkB P ops W N ai si ri t cl Φ A i l →
    ∀ vals w, Below W.heap.size W w → preOk Φ vals w o.after.toList → wpList P ops (match decide (i + k = si) with | true => EndB (A vals) t cl (vals ai) (vals ri) w | false => EndAt (A vals) o.dst (Φ (i + k)) (N.contains (i + k)) w) [o] (A vals) w := by
  intro l
  induction l with
  | nil => intro i k h; simp at h
  | cons p r ih =>
    intro i k h hs
    cases k with
    | zero => simp at h; subst h; exact hs.1
    | succ k =>
      have := ih (i + 1) k (by simpa using h) hs.2
      rwa [show i + 1 + k = i + (k + 1) by omega] at this

/-- What holds in the end. -/
def endΦ (ai si ri : Nat) (t : TypeId) (cl : Value → Array Value) (Φ : Nat → Value → World → Prop) (vals : Nat → Value) : Nat → Value → World → Prop := fun i v w => match decide (i = ai), decide (i = si) with | true, _ => InBox t cl v (vals ri) w | false, true => True | false, false => Φ i v w

theorem wpAny_box (n ai si ri : Nat) (t : TypeId) (cz : Array Value) (cl : Value → Array Value) {ops : Array Oper} {a : Act} {w : World} (hc : famOk ops n = true) (hx : boxOk ops n ai si ri = true) (N : List Nat) (Φ : Nat → Value → World → Prop) {A : (Nat → Value) → Act} {pre tl : List Oper}
    (hpre : ops.toList.take n = pre) (htl : ops.toList.drop n = tl)
    (hA : ∀ vals, fam vals (fun _ => true) 0 pre a = A vals) (hΦ : ∀ i v w1 w2, Below w.drew.heap.size w.drew w1 → Below w1.heap.size w1 w2 → Φ i v w1 → Φ i v w2)
    (hN : ∀ i v w1, N.contains i = true → Φ i v w1 → ∃ g, v = .pointer (some ⟨g, 0, none⟩) ∧ g < w1.heap.size) (hNi : N.contains ai = true) (hNs : N.contains si = false)
    (hai : ∀ v w1, Φ ai v w1 → ∃ g, v = .pointer (some ⟨g, 0, none⟩) ∧ w.drew.heap.size ≤ g ∧ Blk w1 g t cz)
    (hΦS : ∀ i v w1 w2 g, i ≠ ai → w.drew.heap.size ≤ g → Blk w1 g t cz → (N.contains i = true → v ≠ .pointer (some ⟨g, 0, none⟩)) → Chg (some g) w1 w2 → Φ i v w1 → Φ i v w2)
    (hs : stepOkB P ops w.drew N ai si ri t cl Φ A 0 pre) (hend : ∀ vals w1, Below w.drew.heap.size w.drew w1 → allOk (endΦ ai si ri t cl Φ vals) vals w1 0 pre → (∀ i j, N.contains i = true → N.contains j = true → i ≠ j → i < n → j < n → vals i ≠ vals j) → wpList P ops Q tl (A vals) w1) : wpAny P .any ops Q ops.size (Array.replicate ops.size false) a w.drew := by
  subst hpre
  subst htl
  obtain ⟨ha, hsn, hr, hasi, hrs, hra⟩ := boxOk_lt hx
  have hsz := famOk_size hc
  have hNpt : ∀ (vals : Nat → Value) (L : Nat → Bool) w1, (∀ j, j < n → j ≠ si → (j = ai → L si = false) → L j = true → Φ j (vals j) w1) → (L si = true → InBox t cl (vals ai) (vals ri) w1) → ∀ j, j < n → j ≠ si → N.contains j = true → L j = true → ∃ g, vals j = .pointer (some ⟨g, 0, none⟩) ∧ g < w1.heap.size := by
    intro vals L w1 h1 h2 j hj hjs hNj hL
    by_cases h : j = ai ∧ L si = true
    · obtain ⟨rfl, h4⟩ := h
      obtain ⟨g, e, hb⟩ := h2 h4
      exact ⟨g, e, hb.lt⟩
    · exact hN j _ _ hNj (h1 j hj hjs (fun e => by
        cases h5 : L si with
        | false => rfl
        | true => exact absurd ⟨e, h5⟩ h) hL)
  have h := wpAny_fam (P := P) (Q := Q) (ops := ops) (n := n) hc (a := a) (h0 := fun e _ _ => e = .normal) (fun e _ _ h => h) (fun L vals w1 => Below w.drew.heap.size w.drew w1 ∧ (∀ j, j < n → j ≠ si → (j = ai → L si = false) → L j = true → Φ j (vals j) w1) ∧ (∀ i j, i ≠ si → j ≠ si → N.contains i = true → N.contains j = true → i ≠ j → i < n → j < n → L i = true → L j = true → vals i ≠ vals j) ∧ (L si = true → L ai = true ∧ L ri = true ∧ InBox t cl (vals ai) (vals ri) w1)) ?_ ?_ ?_ ops.size (Array.replicate ops.size false) (fun _ => undef) w.drew (by simp) (by simp) (fun j _ _ => by simp only [Array.getD]; split <;> simp) (fun i o _ hL => by simp only [Array.getD] at hL; split at hL <;> simp at hL) ⟨Below.refl _ _, fun j _ _ _ hj => ?_, fun i j _ _ _ _ _ _ _ hj => ?_, fun hj => ?_⟩
  · have e : fam (fun _ => undef) (fun j => (Array.replicate ops.size false).getD j false) 0 (ops.toList.take n) a = a := by
      have : ∀ (r : List Oper) (i : Nat), fam (fun _ => undef) (fun _ => false) i r a = a := by
        intro r
        induction r with
        | nil => intro i; rfl
        | cons o r ih => intro i; simp only [fam, Bool.false_eq_true, if_false]; exact ih _
      refine (fam_congr (vals' := fun _ => undef) (L' := fun _ => false) _ _ _ (fun j _ => ⟨?_, fun _ => rfl⟩)).trans (this _ _)
      simp only [Array.getD]; split <;> simp
    rw [e] at h
    exact h
  · intro i o hin hi L vals w' hI hL hp
    obtain ⟨hI1, hI2, hI3, hI4⟩ := hI
    have hat := boxOk_at hx hin hi
    have hpre : preOk Φ vals w' o.after.toList := preOk_of _ fun e he hb => by
      have he' : e ∈ o.after := by simpa using he
      refine hI2 _ (by have := (famOk_at hc hin hi).1 e he' hb; omega) (hat e he' hb).1 (fun h => ?_) (hp e he' hb)
      rw [← (hat e he' hb).2 h]; exact hL
    have h1 := stepOkB_at (P := P) (ops.toList.take n) 0 i ((pre_at hin).2 hi) hs vals w' hI1 hpre
    rw [Nat.zero_add] at h1
    rw [hA]
    -- where a step ends
    have key : ∀ (Qe : Exit → Act → World → Prop), (∀ a' w'', Qe .normal a' w'' → ∃ v, a' = (A vals).put o.dst v ∧ (Below w.drew.heap.size w.drew w'' ∧ (∀ j, j < n → j ≠ si → (j = ai → upd L i true si = false) → upd L i true j = true → Φ j (upd vals i v j) w'') ∧ (∀ i' j, i' ≠ si → j ≠ si → N.contains i' = true → N.contains j = true → i' ≠ j → i' < n → j < n → upd L i true i' = true → upd L i true j = true → upd vals i v i' ≠ upd vals i v j) ∧ (upd L i true si = true → upd L i true ai = true ∧ upd L i true ri = true ∧ InBox t cl (upd vals i v ai) (upd vals i v ri) w''))) → (∀ e a' w'', Qe e a' w'' → e = .normal) → wpList P ops Qe [o] (A vals) w' →
        if Region.wanted o (yielded ops (A vals).tmps) then o.wp P (A vals) w' (fun a' w'' => ∃ v, a' = (A vals).put o.dst v ∧ (Below w.drew.heap.size w.drew w'' ∧ (∀ j, j < n → j ≠ si → (j = ai → upd L i true si = false) → upd L i true j = true → Φ j (upd vals i v j) w'') ∧ (∀ i' j, i' ≠ si → j ≠ si → N.contains i' = true → N.contains j = true → i' ≠ j → i' < n → j < n → upd L i true i' = true → upd L i true j = true → upd vals i v i' ≠ upd vals i v j) ∧ (upd L i true si = true → upd L i true ai = true ∧ upd L i true ri = true ∧ InBox t cl (upd vals i v ai) (upd vals i v ri) w''))) (fun e _ _ => e = .normal)
        else ∃ v, (A vals).put o.dst undef = (A vals).put o.dst v ∧ (Below w.drew.heap.size w.drew w' ∧ (∀ j, j < n → j ≠ si → (j = ai → upd L i true si = false) → upd L i true j = true → Φ j (upd vals i v j) w') ∧ (∀ i' j, i' ≠ si → j ≠ si → N.contains i' = true → N.contains j = true → i' ≠ j → i' < n → j < n → upd L i true i' = true → upd L i true j = true → upd vals i v i' ≠ upd vals i v j) ∧ (upd L i true si = true → upd L i true ai = true ∧ upd L i true ri = true ∧ InBox t cl (upd vals i v ai) (upd vals i v ri) w')) := by
      intro Qe hfin hno h1
      unfold wpList at h1
      split
      · rename_i hw
        rw [if_pos hw] at h1
        rcases h1 with h1 | ⟨_, a1, w1, h1⟩
        · exact wp_move (P := P) (Q := fun e _ _ => e = .normal) (o := o) (a := A vals) (A := A vals) (w := w') (K := fun a' w'' => ∃ v, a' = (A vals).put o.dst v ∧ (Below w.drew.heap.size w.drew w'' ∧ (∀ j, j < n → j ≠ si → (j = ai → upd L i true si = false) → upd L i true j = true → Φ j (upd vals i v j) w'') ∧ (∀ i' j, i' ≠ si → j ≠ si → N.contains i' = true → N.contains j = true → i' ≠ j → i' < n → j < n → upd L i true i' = true → upd L i true j = true → upd vals i v i' ≠ upd vals i v j) ∧ (upd L i true si = true → upd L i true ai = true ∧ upd L i true ri = true ∧ InBox t cl (upd vals i v ai) (upd vals i v ri) w''))) rfl rfl (fun v w'' hJ => ⟨v, rfl, hJ⟩) (fun e a w h => hno _ _ _ h) (Oper.wp_mono hfin h1)
        · exact absurd (hno _ _ _ h1) (by simp)
      · rename_i hw
        rw [if_neg hw] at h1
        exact hfin _ _ h1
    by_cases his : i = si
    · subst his
      rw [decide_eq_true rfl] at h1
      obtain ⟨⟨e1, he1, hb1, ho1⟩, ⟨e2, he2, hb2, ho2⟩, hdst⟩ := boxOk_store hx hi
      have hLa : L ai = true := ho1 ▸ hp e1 he1 hb1
      have hLr : L ri = true := ho2 ▸ hp e2 he2 hb2
      refine key _ ?_ (fun e a' w'' h => h.1) h1
      rintro a' w'' ⟨_, ea, g, hg, hbk, hch⟩
      obtain ⟨g', hg', hge, hcs⟩ := hai _ _ (hI2 ai ha hasi (fun _ => hL) hLa)
      have hgg : g' = g := by
        rw [hg] at hg'
        injection hg' with h; injection h with h; injection h with h
        exact h.symm
      subst hgg
      refine ⟨undef, by rw [ea, hdst]; rfl, ⟨?_, fun j hjn hjs hja hj => ?_, fun i' j h1 h2 h3 h4 h5 h6 h7 h8 h9 => ?_, fun _ => ⟨?_, ?_, ?_⟩⟩⟩
      · exact ⟨hch.os.trans hI1.os, hch.tape.trans hI1.tape, hch.output.trans hI1.output, Nat.le_trans hI1.size hch.size, fun k hk => (hch.block k (Nat.lt_of_lt_of_le hk hI1.size) (fun e => by injection e with e; omega)).trans (hI1.block k hk)⟩
      · have hjai : j ≠ ai := fun e => by have := hja e; rw [upd_same] at this; cases this
        rw [upd_ne _ _ hjs] at hj ⊢
        refine hΦS j _ w' w'' g' hjai hge hcs (fun hNj e => ?_) hch (hI2 j hjn hjs (fun e => absurd e hjai) hj)
        exact hI3 j ai hjs hasi hNj hNi hjai hjn ha hj hLa (e.trans hg.symm)
      · rw [upd_ne _ _ h1] at h8 ⊢
        rw [upd_ne _ _ h2] at h9 ⊢
        exact hI3 i' j h1 h2 h3 h4 h5 h6 h7 h8 h9
      · rw [upd_ne _ _ hasi]; exact hLa
      · rw [upd_ne _ _ hrs]; exact hLr
      · rw [upd_ne _ _ hasi, upd_ne _ _ hrs]; exact ⟨g', hg, hbk⟩
    · rw [decide_eq_false his] at h1
      refine key _ ?_ (fun e a' w'' h => h.1) h1
      rintro a' w'' ⟨_, v, ea, hφ, hR, hNew⟩
      have hsi : ∀ x, upd L i true si = x ↔ L si = x := fun x => by rw [upd_ne _ _ (fun e => his e.symm)]
      have hother : ∀ j, j < n → j ≠ si → j ≠ i → N.contains i = true → N.contains j = true → L j = true → v ≠ vals j := by
        intro j hjn hjs hji hNi' hNj hLj heq
        obtain ⟨g, hg, hlt⟩ := hNpt vals L w' hI2 (fun h => (hI4 h).2.2) j hjn hjs hNj hLj
        rw [hNi'] at hNew
        simp only [NewAt] at hNew
        rw [hg, hNew] at heq
        injection heq with heq
        injection heq with heq
        injection heq with heq
        omega
      refine ⟨v, ea, hI1.trans (hR.mono hI1.size), fun j hjn hjs hja hj => ?_, fun i' j hi's hjs hNi' hNj hne hi'n hjn hi' hj => ?_, fun h => ?_⟩
      · by_cases hji : j = i
        · subst hji; rw [upd_same]; exact hφ
        · rw [upd_ne _ _ hji] at hj ⊢
          exact hΦ _ _ _ _ hI1 hR (hI2 j hjn hjs (fun e => (hsi _).1 (hja e)) hj)
      · by_cases h1 : i' = i
        · subst h1
          have h2 : j ≠ i' := fun e => hne e.symm
          rw [upd_same, upd_ne _ _ h2]
          rw [upd_ne _ _ h2] at hj
          exact hother j hjn hjs h2 hNi' hNj hj
        · rw [upd_ne _ _ h1] at hi' ⊢
          by_cases h2 : j = i
          · subst h2
            rw [upd_same]
            exact fun e => hother i' hi'n hi's h1 hNj hNi' hi' e.symm
          · rw [upd_ne _ _ h2] at hj ⊢
            exact hI3 i' j hi's hjs hNi' hNj hne hi'n hjn hi' hj
      · obtain ⟨h1, h2, g, h3, h4⟩ := hI4 ((hsi _).1 h)
        have hia : ai ≠ i := fun e => by rw [e, hL] at h1; cases h1
        have hir : ri ≠ i := fun e => by rw [e, hL] at h2; cases h2
        rw [upd_ne _ _ hia, upd_ne _ _ hir, upd_ne _ _ hia, upd_ne _ _ hir]
        exact ⟨h1, h2, g, h3, (hR.block g h4.lt).trans h4⟩
  · intro L L' vals w' he hI
    refine ⟨hI.1, fun j hjn h1 h2 hj => hI.2.1 j hjn h1 (fun e => by rw [he]; exact h2 e) (by rw [he]; exact hj), fun i j h1 h2 h3 h4 h5 h6 h7 h8 h9 => hI.2.2.1 i j h1 h2 h3 h4 h5 h6 h7 (by rw [he]; exact h8) (by rw [he]; exact h9), fun h => ?_⟩
    have := hI.2.2.2 (by rw [he]; exact h)
    rw [he, he] at this
    exact this
  · intro L vals w' hj hI
    rw [hA]
    obtain ⟨hI1, hI2, hI3, hI4⟩ := hI
    obtain ⟨_, _, hbx⟩ := hI4 (hj si hsn)
    have hbx0 := hbx
    obtain ⟨g, hg, hb⟩ := hbx0
    refine hend vals w' hI1 (allOk_of _ _ fun j _ h2 => ?_) (fun i j h1 h2 h3 h4 h5 => ?_)
    · have hjn : j < n := by simp at h2; omega
      unfold endΦ
      by_cases h1 : j = ai
      · subst h1; rw [decide_eq_true rfl]; exact hbx
      · by_cases h2 : j = si
        · subst h2; rw [decide_eq_false h1, decide_eq_true rfl]; trivial
        · rw [decide_eq_false h1, decide_eq_false h2]
          exact hI2 j hjn h2 (fun e => absurd e h1) (hj j hjn)
    · by_cases hs1 : i = si
      · rw [hs1, hNs] at h1; cases h1
      · by_cases hs2 : j = si
        · rw [hs2, hNs] at h2; cases h2
        · exact hI3 i j hs1 hs2 h1 h2 h3 h4 h5 (hj i h4) (hj j h5)
  · simp only [Array.getD] at hj
    split at hj <;> simp at hj
  · simp only [Array.getD] at hj
    split at hj <;> simp at hj
  · simp only [Array.getD] at hj
    split at hj <;> simp at hj
/-- What holds of a value goes on holding when the result is stored. -/
def StabS (B : Nat) (t : TypeId) (cz : Array Value) (b : Bool) (φ : Value → World → Prop) : Prop := ∀ v w1 w2 g, B ≤ g → Blk w1 g t cz → (b = true → v ≠ .pointer (some ⟨g, 0, none⟩)) → Chg (some g) w1 w2 → φ v w1 → φ v w2
def allStabS (B : Nat) (t : TypeId) (cz : Array Value) (N : List Nat) (ai : Nat) : Nat → List (Value → World → Prop) → Prop
  | _, [] => True
  | i, φ :: r => (match decide (i = ai) with | true => True | false => StabS B t cz (N.contains i) φ) ∧ allStabS B t cz N ai (i + 1) r
theorem StabS.eq (B : Nat) (t : TypeId) (cz : Array Value) (b : Bool) (x : Value) : StabS B t cz b (fun v _ => v = x) := fun _ _ _ _ _ _ _ _ h => h
theorem StabS.none (B : Nat) (t : TypeId) (cz : Array Value) (b : Bool) : StabS B t cz b (fun _ _ => True) := fun _ _ _ _ _ _ _ _ h => h
theorem allStabS_at {B : Nat} {t : TypeId} {cz : Array Value} {N : List Nat} {ai : Nat} : ∀ (Φs : List (Value → World → Prop)) (i : Nat), allStabS B t cz N ai i Φs → ∀ j, i + j ≠ ai → StabS B t cz (N.contains (i + j)) (Φs.getD j (fun _ _ => True)) := by
  intro Φs
  induction Φs with
  | nil => intro i _ j _; simpa using StabS.none B t cz _
  | cons φ r ih =>
    intro i h j hj
    cases j with
    | zero =>
      have h1 := h.1
      rw [decide_eq_false (by simpa using hj)] at h1
      simpa using h1
    | succ j =>
      have := ih (i + 1) h.2 j (by omega)
      rw [show i + 1 + j = i + (j + 1) by omega] at this
      simpa using this
/-- A block just made. -/
def NewB (B : Nat) (t : TypeId) (cz : Array Value) (v : Value) (w : World) : Prop := ∃ g, v = .pointer (some ⟨g, 0, none⟩) ∧ B ≤ g ∧ Blk w g t cz
theorem NewB.stab {W : World} {B : Nat} {t : TypeId} {cz : Array Value} : Stab W (NewB B t cz) := fun v w1 w2 _ h2 ⟨g, h3, h4, h5⟩ => ⟨g, h3, h4, (h2.block g h5.lt).trans h5⟩
theorem NewB.stabS {B B' : Nat} {t t' : TypeId} {cz cz' : Array Value} : StabS B t cz true (NewB B' t' cz') := fun v w1 w2 g _ _ hne hc ⟨g', h3, h4, h5⟩ => ⟨g', h3, h4, (hc.block g' h5.lt (fun e => by injection e with e; subst e; exact hne rfl h3)).trans h5⟩
theorem NewB.new {B : Nat} {t : TypeId} {cz : Array Value} (v : Value) (w1 : World) (h : NewB B t cz v w1) : ∃ g, v = .pointer (some ⟨g, 0, none⟩) ∧ g < w1.heap.size := by
  obtain ⟨g, h1, _, h2⟩ := h
  exact ⟨g, h1, h2.lt⟩

theorem wp_region_box (n ai si ri : Nat) (t : TypeId) (cz : Array Value) (cl : Value → Array Value) {id : Nat} {ops : Array Oper} {a : Act} {w : World} (hm : P.follows .mixedOrders = true) (hc : famOk ops n = true) (hx : boxOk ops n ai si ri = true) (N : List Nat) (hNi : N.contains ai = true) (hNs : N.contains si = false) (Φs : List (Value → World → Prop)) {A : (Nat → Value) → Act} {pre tl : List Oper}
    (hpre : ops.toList.take n = pre) (htl : ops.toList.drop n = tl)
    (hA : ∀ vals, fam vals (fun _ => true) 0 pre a = A vals) (hΦ : allStab w.drew Φs) (hN : allNew Φs N)
    (hai : ∀ v w1, Φs.getD ai (fun _ _ => True) v w1 → NewB w.drew.heap.size t cz v w1) (hΦS : allStabS w.drew.heap.size t cz N ai 0 Φs)
    (hs : stepOkB P ops w.drew N ai si ri t cl (fun i => Φs.getD i (fun _ _ => True)) A 0 pre) (hend : ∀ vals w1, Below w.drew.heap.size w.drew w1 → allOk (endΦ ai si ri t cl (fun i => Φs.getD i (fun _ _ => True)) vals) vals w1 0 pre → (∀ i j, N.contains i = true → N.contains j = true → i ≠ j → i < n → j < n → vals i ≠ vals j) → wpList P ops Q tl (A vals) w1) : (Code.region id ops true).wp P Q a w :=
  wp_region_any hm (wpAny_box n ai si ri t cz cl hc hx N _ hpre htl hA (fun i v w1 w2 h1 h2 h3 => allStab_at Φs hΦ i v w1 w2 h1 h2 h3) (fun i v w1 h1 h2 => allNew_at N hN i h1 v w1 h2) hNi hNs hai
    (fun i v w1 w2 g hi h1 h2 h3 h4 h5 => by
      have := allStabS_at Φs 0 hΦS i (by omega)
      rw [Nat.zero_add] at this
      exact this v w1 w2 g h1 h2 h3 h4 h5) hs hend)
/-- A diagram that a call has handed back. -/
def RetB (n : Nat) (L : List Nd) (v : Value) (w : World) : Prop := ∃ a c, v = .agg #[.int .i64 (n : Int), .slice a L.length c] ∧ Nds w (.slice a L.length c) L
theorem Nds.chg {w w' : World} {v : Value} {l : List Nd} {g : Nat} (h : Nds w v l) (hc : Chg (some g) w w') {x : Value} (hg : w.cell? ⟨g, 1, none⟩ = some x) (hx : ∀ k z, x ≠ .int k z) : Nds w' v l := by
  rcases h with h | ⟨g', c', rfl, h1, h2, h3, h4⟩
  · exact .inl h
  · refine .inr ⟨g', c', rfl, h1, h2, h3, fun i hi => (h4 i hi).keep (hc.block g' (h4 i hi).lt ?_)⟩
    intro e
    injection e with e
    subst e
    have h5 := (h4 0 h3).2.1
    rw [Nat.zero_mul, Nat.zero_add, hg] at h5
    injection h5 with h5
    exact hx _ _ h5
theorem RetB.stab {W : World} {n : Nat} {L : List Nd} : Stab W (RetB n L) := fun v w1 w2 _ h2 ⟨a, c, h3, h4⟩ => ⟨a, c, h3, h4.below h2⟩
theorem RetB.stabS {B n : Nat} {t : TypeId} {cz : Array Value} {b : Bool} {L : List Nd} (hz : cz[1]? = some (.slice none 0 0)) : StabS B t cz b (RetB n L) := fun v w1 w2 g _ hb _ hc ⟨a, c, h3, h4⟩ =>
  ⟨a, c, h3, h4.chg hc ((hb.cell 1).trans hz) (fun k z e => by cases e)⟩
/-- Two cells of a block are stored. -/
theorem Chg.two (w : World) (g : Nat) (u v : Value) : Chg (some g) w ((w.setCell ⟨g, 0, none⟩ u).setCell ⟨g, 1, none⟩ v) :=
  ⟨rfl, rfl, rfl, by simp, fun k _ hk => by
    have hk' : k ≠ g := fun e => hk (by rw [e])
    rw [Below.heap_setCell _ ⟨g, 1, none⟩ _ k hk', Below.heap_setCell _ ⟨g, 0, none⟩ _ k hk']⟩
theorem Chg.below1 {w w' : World} {g N : Nat} (h : Chg (some g) w w') (hN : N ≤ g) (hw : N ≤ w.heap.size) : Below N w w' :=
  ⟨h.os, h.tape, h.output, h.size, fun k hk => h.block k (by omega) (fun e => by injection e with e; omega)⟩
end
end Go.Proofs.YtpmlmibceiolpaaGreatDoor
