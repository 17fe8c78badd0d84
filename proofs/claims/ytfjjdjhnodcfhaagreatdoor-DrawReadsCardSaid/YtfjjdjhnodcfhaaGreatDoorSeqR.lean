/- A range over a function whose values live on the heap, of any number of parameters, with rounds that may return. -/
import Derived.Test.YtfjjdjhnodcfhaaGreatDoorSeqV
set_option linter.unusedSimpArgs false
set_option linter.unusedVariables false
namespace Go.Proofs.YtfjjdjhnodcfhaaGreatDoor
open Go.RowKit

/-- One block of one's own is written, which keeps its type; all else lies as it lay. -/
def Own (n0 : Nat) (A B : World) : Prop := Below n0 A B ∧ ∃ g t, n0 ≤ g ∧ t ≠ 116 ∧ (∃ cs, Blk A g t cs) ∧ (∃ cs, Blk B g t cs) ∧ ∀ k, k ≠ g → k < A.heap.size → B.heap[k]? = A.heap[k]?
theorem Own.old {n0 : Nat} {A B : World} (h : Own n0 A B) {k : Nat} (hk : k < n0) : B.heap[k]? = A.heap[k]? := h.1.block k hk
theorem Own.obj {n0 : Nat} {A B : World} (h : Own n0 A B) {k : Nat} {o : Obj} (hk : A.heap[k]? = some o) (ho : o.isCells = false) : B.heap[k]? = some o := by
  obtain ⟨h1, g, t, h2, h3, ⟨cs, h4⟩, h5, h6⟩ := h
  have hg : k ≠ g := by
    rintro rfl
    unfold Blk at h4
    rw [hk] at h4
    cases h4; cases ho
  exact (h6 k hg (Array.getElem?_eq_some_iff.1 hk).1).trans hk
theorem Own.wh {n0 : Nat} {A B : World} {v : Value} {n : Int} (h : Own n0 A B) (hn : Wh A v n) : Wh B v n := by
  obtain ⟨h1, g, t, h2, h3, ⟨cs, h4⟩, h5, h6⟩ := h
  refine hn.of_same fun k cs f hb => ?_
  have hg : k ≠ g := by
    rintro rfl
    unfold Blk at h4
    rw [hb] at h4
    cases h4; exact h3 rfl
  exact h6 k hg (Array.getElem?_eq_some_iff.1 hb).1
theorem Own.nm {n0 : Nat} {A B : World} {v : Value} {x : Rat} (h : Own n0 A B) (hn : Nm A v x) : Nm B v x := by
  obtain ⟨a, b, c, d, h1, h2, h3⟩ := hn
  exact ⟨a, b, c, d, h1, h.wh h2, h.wh h3⟩
theorem Own.blk {n0 : Nat} {A B : World} {g : Nat} {t : TypeId} {cs : Array Value} (h : Own n0 A B) (hb : Blk A g t cs) (hg : g < n0) : Blk B g t cs := (h.old hg).trans hb
theorem Own.less {n0 n1 : Nat} {A B : World} (h : Own n0 A B) (hn : n1 ≤ n0) : Own n1 A B := by
  obtain ⟨h1, g, t, h2, h3⟩ := h
  exact ⟨h1.mono hn, g, t, by omega, h3⟩
theorem Own.four {n0 g : Nat} {t : TypeId} {W : World} {u0 u1 u2 u3 : Value} (h : Blk W g t #[u0, u1, u2, u3]) (hg : n0 ≤ g) (ht : t ≠ 116) (x y z u : Value) : Own n0 W ((((W.setCell ⟨g, 0, none⟩ x).setCell ⟨g, 1, none⟩ y).setCell ⟨g, 2, none⟩ z).setCell ⟨g, 3, none⟩ u) :=
  ⟨below_four (Below.refl _ _) hg x y z u, g, t, hg, ht, ⟨_, h⟩, ⟨_, h.four x y z u⟩, fun k hk _ => by
    have e1 := Below.heap_setCell W ⟨g, 0, none⟩ x k hk
    have e2 := Below.heap_setCell (W.setCell ⟨g, 0, none⟩ x) ⟨g, 1, none⟩ y k hk
    have e3 := Below.heap_setCell ((W.setCell ⟨g, 0, none⟩ x).setCell ⟨g, 1, none⟩ y) ⟨g, 2, none⟩ z k hk
    have e4 := Below.heap_setCell (((W.setCell ⟨g, 0, none⟩ x).setCell ⟨g, 1, none⟩ y).setCell ⟨g, 2, none⟩ z) ⟨g, 3, none⟩ u k hk
    rw [e4, e3, e2, e1]⟩

section
variable {P : Program} {n : Nat}

/-- An iterator whose i-th values meet Φ i, N times, or until a round returns. -/
def SeqW (n : Nat) (P : Program) (g : Nat) (lb : Array Value) (Keep : World → World → Prop) (Φ : Nat → Array Value → World → Prop) (N : Nat) (w : World) : Prop :=
  ∀ (l : Nat) (J Jx : Nat → World → Prop) (W : World), Below w.heap.size w W → (∀ i A B, J i A → Below A.heap.size A B → J i B) → (∀ i A B, Jx i A → Below A.heap.size A B → Jx i B) → (∀ i A B, J i A → Own W.heap.size A B → J i B) →
    (∀ i vs W1, J i W1 → i < N → Φ i vs W1 → YieldAt Fence.wide (n - 1) P l vs W1 fun e W' => (e = .returned (.bool true) ∧ J (i + 1) W' ∧ Keep W1 W') ∨ (e = .returned (.bool false) ∧ Jx i W')) →
    J 0 W → CallsIn Fence.wide n P g (#[.func (.yield l) #[] #[]] ++ lb) W fun e W' => (∃ v, e = .returned v) ∧ (J N W' ∨ ∃ i, i < N ∧ Jx i W')

theorem wpIn_rangeFunc_W {g : Operand} {ps : Array Tmp} {assign body : Code} {Q : Exit → Act → World → Prop} {a : Act} {w : World}
    (h1 : 1 ≤ n) {gf : Nat} {lb : Array Value} (hg : a.eval g = .func (.func gf) #[] lb) (eg : ∀ args w, (callFunc gf args).run P w = .ok (.enter gf args) w)
    {Keep : World → World → Prop} {Φ : Nat → Array Value → World → Prop} {N : Nat} {w0 : World} (hseq : SeqW (n - 1) P gf lb Keep Φ N w0) (hb0 : Below w0.heap.size w0 w)
    (hKt : ∀ A B C, Keep A B → Keep B C → Keep A C) (hKb : ∀ (W : World) (l : Nat) (o o' : Obj), W.heap[l]? = some o → o.isCells = false → Keep W (W.putObj l o')) (hKB : ∀ A B, Below A.heap.size A B → Keep A B)
    (hps : ∀ i vs W, Φ i vs W → vs.size = ps.size)
    (I Ix : Nat → World → Prop) (hI : ∀ i A l o o', w.heap.size ≤ l → A.heap[l]? = some o → o.isCells = false → I i A → I i (A.putObj l o')) (hIB : ∀ i A B, I i A → Below A.heap.size A B → I i B) (hIO : ∀ i A B, I i A → Own w.heap.size A B → I i B)
    (hX : ∀ i A l o o', w.heap.size ≤ l → A.heap[l]? = some o → o.isCells = false → Ix i A → Ix i (A.putObj l o')) (hXB : ∀ i A B, Ix i A → Below A.heap.size A B → Ix i B) (h0 : I 0 w)
    (hround : ∀ (l i : Nat) (vs : Array Value) (W : World), I i W → i < N → Φ i vs W →
      assign.wpIn (Fence.wide.inRound l) (n - 1 - 1) P (Exit.then (fun a1 W1 => Below W.heap.size W W1 ∧ ∀ (j : Nat) (o o' : Obj), w.heap.size ≤ j → j < W.heap.size → W1.heap[j]? = some o → o.isCells = false →
          body.wpIn (Fence.wide.inRound l) (n - 1 - 1) P (fun e _ W' => (e = .normal ∧ KeepsFrom w.heap.size (W1.putObj j o') W' ∧ Keep (W1.putObj j o') W' ∧ I (i + 1) W') ∨ (e = .ret ∧ KeepsFrom w.heap.size (W1.putObj j o') W' ∧ Ix i W')) a1 (W1.putObj j o')) (fun _ _ _ => False))
        { tmps := (ps.zip vs).foldl (fun t (p, v) => t.setIfInBounds p v) a.tmps, defers := [] } W)
    (hdone : ∀ (D : Nat) (W : World), w.heap.size ≤ D → I N W → W.heap[D]? = some (.deferred (some [])) → Q .normal { a with defers := { target := .collected D, args := #[] } :: a.defers } W)
    (hstop : ∀ (D i : Nat) (W : World), w.heap.size ≤ D → i < N → Ix i W → W.heap[D]? = some (.deferred (some [])) → Code.ret.wpIn Fence.wide n P Q { a with defers := { target := .collected D, args := #[] } :: a.defers } W) :
    (Code.rangeFunc g ps assign body).wpIn Fence.wide n P Q a w := by
  refine wpIn_rangeFunc ?_
  intro fn hfn
  have hro : Fence.wide.round = none := rfl
  rw [hro]
  obtain ⟨rec, hrec⟩ : ∃ rec : LoopState → Option Code → Loop, rec = fun st pe => { state := st, pending := pe, fn, tmps := a.tmps, params := ps, assign, body, defers := w.heap.size } := ⟨_, rfl⟩
  obtain ⟨W1, hW1⟩ : ∃ W1, (w.alloc (.deferred (some []))).alloc (.loop (rec .ready none)) = W1 := ⟨_, rfl⟩
  have hL1 : W1.heap[w.heap.size + 1]? = some (.loop (rec .ready none)) := by
    rw [← hW1]; have := World.alloc_heap_new (w.alloc (.deferred (some []))) (.loop (rec .ready none)); rwa [World.size_alloc] at this
  have hK1 : W1.heap[w.heap.size]? = some (.deferred (some [])) := by
    rw [← hW1]; exact (Below.heap_alloc _ _ _ (by simp)).trans (World.alloc_heap_new w _)
  have hI1 : I 0 W1 := by
    rw [← hW1]
    exact hIB _ _ _ (hIB _ _ _ h0 ((Below.refl _ w).alloc (Nat.le_refl _) _)) ((Below.refl _ _).alloc (Nat.le_refl _) _)
  have hb1 : Below w0.heap.size w0 W1 := by
    rw [← hW1]; exact hb0.trans ((((Below.refl _ w).alloc (Nat.le_refl _) _).alloc (by simp) _).mono hb0.size)
  refine ⟨w.heap.size + 1, [{ target := .collected w.heap.size, args := #[] }], W1, { target := .fn (.func gf) lb, args := #[.func (.yield (w.heap.size + 1)) #[] #[]] }, W1, gf,
    #[.func (.yield (w.heap.size + 1)) #[] #[]] ++ lb, W1, ?_, ?_, ?_, ?_, fun _ => h1, ?_⟩
  · rw [← hW1, hrec]; exact run_enterLoop_outer _ _ _ _ _
  · simp only [resolve, hg]
    simp [go_sem]
  · intro f' hf'; trivial
  · simp [invoke, go_sem, eg]
  · refine (hseq (w.heap.size + 1)
      (fun i W => I i W ∧ W.heap[w.heap.size + 1]? = some (.loop (rec .ready none)) ∧ W.heap[w.heap.size]? = some (.deferred (some [])))
      (fun i W => Ix i W ∧ W.heap[w.heap.size + 1]? = some (.loop (rec .done (some .ret))) ∧ W.heap[w.heap.size]? = some (.deferred (some [])))
      W1 hb1
      (fun i A B hs hb => ⟨hIB _ _ _ hs.1 hb, (hb.block _ (Array.getElem?_eq_some_iff.1 hs.2.1).1).trans hs.2.1, (hb.block _ (Array.getElem?_eq_some_iff.1 hs.2.2).1).trans hs.2.2⟩)
      (fun i A B hs hb => ⟨hXB _ _ _ hs.1 hb, (hb.block _ (Array.getElem?_eq_some_iff.1 hs.2.1).1).trans hs.2.1, (hb.block _ (Array.getElem?_eq_some_iff.1 hs.2.2).1).trans hs.2.2⟩)
      (fun i A B hs hb => ⟨hIO _ _ _ hs.1 (hb.less (by rw [← hW1]; simp; omega)), hb.obj hs.2.1 rfl, hb.obj hs.2.2 rfl⟩)
      ?_ ⟨hI1, hL1, hK1⟩).mono ?_
    · rintro i vs W ⟨hi, hl, hk⟩ hlen hph
      have hlt : w.heap.size + 1 < W.heap.size := (Array.getElem?_eq_some_iff.1 hl).1
      have hy := run_yield (P := P) (args := vs) hl (by rw [hrec]; exact hps i vs W hph)
      rw [hrec] at hy
      refine ⟨fn, _, assign, body, hy, roundIn_of_wpIn hfn ?_⟩
      refine wpIn_mono (hround (w.heap.size + 1) i vs W hi hlen hph) ?_
      intro e a1 Wa he
      cases e with
      | normal =>
        obtain ⟨hba, hbody⟩ := he
        have hla : Wa.heap[w.heap.size + 1]? = some (.loop (rec .ready none)) := (hba.block _ hlt).trans hl
        have hka : Wa.heap[w.heap.size]? = some (.deferred (some [])) := (hba.block _ (by omega)).trans hk
        have hlta : w.heap.size + 1 < Wa.heap.size := (Array.getElem?_eq_some_iff.1 hla).1
        refine ⟨_, run_beginRound hla (by rw [hrec]), ?_⟩
        have hl2 : (Wa.putObj (w.heap.size + 1) (.loop { rec .ready none with state := .busy })).heap[w.heap.size + 1]? = some (.loop { rec .ready none with state := .busy }) := World.putObj_heap_same hlta
        have hk2 : (Wa.putObj (w.heap.size + 1) (.loop { rec .ready none with state := .busy })).heap[w.heap.size]? = some (.deferred (some [])) := (World.putObj_heap_other (by omega)).trans hka
        refine wpIn_mono (hbody (w.heap.size + 1) _ (.loop { rec .ready none with state := .busy }) (by omega) hlt hla rfl) ?_
        rintro e a3 W3 (⟨rfl, hk3, hkp3, hi3⟩ | ⟨rfl, hk3, hi3⟩)
        · have hl3 := hk3.same _ _ (by omega) hl2 rfl
          have hr := run_endRound (P := P) none hl3
          refine ⟨_, _, hr, .inl ⟨rfl, ⟨hI _ _ _ _ _ (by omega) hl3 rfl hi3, ?_, ?_⟩, ?_⟩⟩
          · have := World.putObj_heap_same (o := .loop (rec .ready none)) (Array.getElem?_eq_some_iff.1 hl3).1
            rw [hrec] at this ⊢
            exact this
          · exact (World.putObj_heap_other (by omega)).trans (hk3.same _ _ (Nat.le_refl _) hk2 rfl)
          · exact hKt _ _ _ (hKt _ _ _ (hKt _ _ _ (hKB _ _ hba) (hKb _ _ _ _ hla rfl)) hkp3) (hKb _ _ _ _ hl3 rfl)
        · have hl3 := hk3.same _ _ (by omega) hl2 rfl
          have hr := run_endRound (P := P) (some .ret) hl3
          refine ⟨_, _, hr, .inr ⟨rfl, hX _ _ _ _ _ (by omega) hl3 rfl hi3, ?_, ?_⟩⟩
          · have := World.putObj_heap_same (o := .loop (rec .done (some .ret))) (Array.getElem?_eq_some_iff.1 hl3).1
            rw [hrec] at this ⊢
            exact this
          · exact (World.putObj_heap_other (by omega)).trans (hk3.same _ _ (Nat.le_refl _) hk2 rfl)
      | ret => exact he.elim
      | exit id => exact he.elim
      | goto t => exact he.elim
      | panic c => exact he.elim
      | outgrown => exact he.elim
    · rintro e W2 ⟨⟨v, rfl⟩, (⟨hi, hl, hk⟩ | ⟨i, hiN, hi, hl, hk⟩)⟩
      · exact ⟨none, _, by have := run_endLoop (P := P) hl (by rw [hrec]; simp); rw [hrec] at this; exact this, hdone _ _ (Nat.le_refl _) (hI _ _ _ _ _ (by omega) hl rfl hi) ((World.putObj_heap_other (by omega)).trans hk)⟩
      · exact ⟨some .ret, _, by have := run_endLoop (P := P) hl (by rw [hrec]; simp); rw [hrec] at this; exact this, hstop _ i _ (Nat.le_refl _) hiN (hX _ _ _ _ _ (by omega) hl rfl hi) ((World.putObj_heap_other (by omega)).trans hk)⟩

end
end Go.Proofs.YtfjjdjhnodcfhaaGreatDoor

/- A region that draws its order, inside a round of a loop over an iterator. -/
set_option linter.unusedSimpArgs false
set_option linter.unusedVariables false
namespace Go.Proofs.YtfjjdjhnodcfhaaGreatDoor
open Go.RowKit

section
variable {P : Program} {Q : Exit → Act → World → Prop} {ll : Nat}

/-- An operation that ends well. -/
theorem wpIn_of_opR {o : Oper} {m : Nat} {a : Act} {w : World} {K : Act → World → Prop} (hd : ∀ c, o.op ≠ .defer c) (h : o.wp P a w K (fun _ _ _ => False)) : o.wpIn (Fence.wide.inRound ll) m P a w K Q := by
  refine ⟨fun _ _ => trivial, ?_⟩
  unfold Oper.wp at h
  have e : o.semAt (Fence.wide.inRound ll).round a.eval = execOp a.eval o := Oper.semAt_some ll _ _ hd
  rw [e]
  generalize (execOp a.eval o).run P w = r at *
  cases r with
  | ok n w' =>
    cases n <;> simp only [Oper.upon, Oper.uponIn] at h ⊢
    case value u => exact h
    case skip => exact h
    case defer d => exact h
    case enter f args =>
      refine ⟨fun hd => (by cases hd), CallsIn.inRound ll (callsIn_wide.2 (Calls.mono h fun e w'' he => ?_))⟩
      cases e with
      | returned u => exact he
      | panicked c => exact he.elim
      | outgrown => obtain ⟨_, _, h⟩ := he; exact h.elim
    case row row args => exact ⟨fun hd => (by cases hd), rowsIn_of h⟩
  | halt x w' =>
    cases x <;> simp only [Oper.upon] at h

/-- The operations behind, in their order. -/
theorem wpAnyIn_tailR {m : Nat} {ops : Array Oper} {n : Nat} (hc : famOk ops n = true) : ∀ (fuel k : Nat) (listed : Array Bool) (a : Act) (w : World), n ≤ k → listed.size = ops.size → ops.size ≤ k + fuel →
    (∀ j, j < ops.size → listed.getD j false = decide (j < k)) → wpListIn (Fence.wide.inRound ll) m P ops Q (ops.toList.drop k) a w → wpAnyIn (Fence.wide.inRound ll) m P .any ops Q fuel listed a w := by
  have hnil : ∀ (k : Nat) (listed : Array Bool), listed.size = ops.size → ops.size ≤ k → (∀ j, j < ops.size → listed.getD j false = decide (j < k)) → Region.ready .any ops listed = [] := by
    intro k listed hs hk hl
    apply List.eq_nil_iff_forall_not_mem.2
    intro j hjr
    obtain ⟨h1, o, ho, _⟩ := mem_ready.1 hjr
    have hlt : j < ops.size := (Array.getElem?_eq_some_iff.1 ho).1
    have h2 := hl j hlt
    have h3 : decide (j < k) = true := by simp; omega
    rw [h3] at h2
    have hlt' : j < listed.size := by omega
    simp [Array.getD, hlt'] at h1 h2
    rw [h1] at h2; cases h2
  intro fuel
  induction fuel with
  | zero =>
    intro k listed a w hnk hs hf hl h
    rw [List.drop_of_length_le (by simp; omega)] at h
    exact ⟨hnil k listed hs (by omega) hl, h⟩
  | succ fuel ih =>
    intro k listed a w hnk hs hf hl h
    refine ⟨fun hr => ?_, fun i hi => ?_⟩
    · rcases Nat.lt_or_ge k ops.size with hk | hk
      · exfalso
        have : k ∈ Region.ready .any ops listed := by
          refine mem_ready.2 ⟨?_, ops[k], by simp [hk], fun e he hb => ?_⟩
          · have h1 := hl k hk
            have hlt' : k < listed.size := by omega
            simp [Array.getD, hlt'] at h1 ⊢; exact h1
          · have h2 := (famOk_tail hc hnk (o := ops[k]) (by simp [hk])).1 e he hb
            rw [hl _ (by omega)]; simpa using h2
        rw [hr] at this; cases this
      · rw [List.drop_of_length_le (by simp; omega)] at h
        exact h
    · obtain ⟨h1, o, ho, hall⟩ := mem_ready.1 hi
      have hlt : i < ops.size := (Array.getElem?_eq_some_iff.1 ho).1
      have hlt' : i < listed.size := by omega
      have h2 := hl i hlt
      have hik : i = k := by
        have h3 : decide (i < k) = false := by
          rw [← h2]; simp [Array.getD, hlt'] at h1 ⊢; exact h1
        have h4 : k ≤ i := by simpa using h3
        rcases Nat.eq_or_lt_of_le h4 with h5 | h5
        · exact h5.symm
        · have h6 := covers_spec (ops := ops) (L := fun j => listed.getD j false) (fun i' o' hi' hL' e he hb => by
            have hlt2 : i' < ops.size := (Array.getElem?_eq_some_iff.1 hi').1
            have hback := famOk_back hc hi' e he hb
            have hL2 : listed.getD i' false = true := hL'
            show listed.getD e.on false = true
            rw [hl i' hlt2] at hL2
            rw [hl _ (by omega)]
            simp at hL2 ⊢; omega) 6 k i o ho hall ((famOk_tail hc (by omega) ho).2 k h5)
          have h7 : listed.getD k false = true := h6
          rw [hl _ (by omega)] at h7
          simp at h7
      subst hik
      have e : ops.toList.drop i = o :: ops.toList.drop (i + 1) := by
        rw [List.drop_eq_getElem_cons (by simpa using hlt)]
        have : ops[i] = o := (Array.getElem?_eq_some_iff.1 ho).2
        simp [this]
      rw [e] at h
      have step : ∀ a' w', wpListIn (Fence.wide.inRound ll) m P ops Q (ops.toList.drop (i + 1)) a' w' → wpAnyIn (Fence.wide.inRound ll) m P .any ops Q fuel (listed.setIfInBounds i true) a' w' := by
        intro a' w' h'
        refine ih (i + 1) _ a' w' (by omega) (by simpa using hs) (by omega) (fun j hj => ?_) h'
        by_cases hji : j = i
        · subst hji; simp [hlt']
        · rw [getD_set_ne false (fun e => hji e.symm), hl j hj]; simp; omega
      unfold wpOpIn
      rw [ho]
      unfold wpListIn at h
      simp only
      split
      · rename_i hw
        rw [if_pos hw] at h
        exact Oper.wpIn_mono step h
      · rename_i hw
        rw [if_neg hw] at h
        exact ⟨fun _ _ => trivial, step _ _ h.2⟩

theorem wpAnyIn_famR {m : Nat} {ops : Array Oper} {n : Nat} (hnd : ∀ o ∈ ops.toList, ∀ c, o.op ≠ .defer c) (hc : famOk ops n = true) {a : Act} {h0 : Exit → Act → World → Prop} (hno : ∀ e a w, h0 e a w → e = .normal) (I : (Nat → Bool) → (Nat → Value) → World → Prop)
    (hstep : ∀ i o, i < n → ops[i]? = some o → ∀ L vals w, I L vals w → L i = false → (∀ e ∈ o.after, Region.binds .any e = true → L e.on = true) →
      if Region.wanted o (yielded ops (fam vals (fun _ => true) 0 (ops.toList.take n) a).tmps) then o.wp P (fam vals (fun _ => true) 0 (ops.toList.take n) a) w (fun a' w' => ∃ v, a' = (fam vals (fun _ => true) 0 (ops.toList.take n) a).put o.dst v ∧ I (upd L i true) (upd vals i v) w') h0
      else ∃ v, (fam vals (fun _ => true) 0 (ops.toList.take n) a).put o.dst undef = (fam vals (fun _ => true) 0 (ops.toList.take n) a).put o.dst v ∧ I (upd L i true) (upd vals i v) w)
    (hcong : ∀ L L' vals w, (∀ j, L j = L' j) → I L vals w → I L' vals w)
    (hend : ∀ L vals w, (∀ j, j < n → L j = true) → I L vals w → wpListIn (Fence.wide.inRound ll) m P ops Q (ops.toList.drop n) (fam vals (fun _ => true) 0 (ops.toList.take n) a) w) :
    ∀ (fuel : Nat) (listed : Array Bool) (vals : Nat → Value) (w : World), listed.size = ops.size → listed.toList.count false ≤ fuel → (∀ j, n ≤ j → j < ops.size → listed.getD j false = false) → Closed ops (fun j => listed.getD j false) → I (fun j => listed.getD j false) vals w →
      wpAnyIn (Fence.wide.inRound ll) m P .any ops Q fuel listed (fam vals (fun j => listed.getD j false) 0 (ops.toList.take n) a) w := by
  have hsz := famOk_size hc
  have hall : ∀ (fuel : Nat) (listed : Array Bool) (vals : Nat → Value) (w : World), listed.size = ops.size → listed.toList.count false ≤ fuel → (∀ j, n ≤ j → j < ops.size → listed.getD j false = false) → (∀ j, j < n → listed.getD j false = true) → I (fun j => listed.getD j false) vals w → wpAnyIn (Fence.wide.inRound ll) m P .any ops Q fuel listed (fam vals (fun j => listed.getD j false) 0 (ops.toList.take n) a) w := by
    intro fuel listed vals w hs hcnt htl hj hI
    have h1 := hend _ vals w hj hI
    rw [fam_upto (vals := vals) (L := fun j => listed.getD j false) (L' := fun _ => true) (ops.toList.take n) 0 a (fun j _ hj2 => hj j (by simp at hj2; omega))]
    refine wpAnyIn_tailR hc fuel n listed _ w (Nat.le_refl _) hs ?_ (fun j hjs => ?_) h1
    · have h2 : (listed.toList.drop n).count false = ops.size - n := by
        have : listed.toList.drop n = List.replicate (ops.size - n) false := by
          apply List.eq_replicate_iff.2
          refine ⟨by simp [hs], fun b hb => ?_⟩
          obtain ⟨i, hi, rfl⟩ := List.getElem_of_mem hb
          simp at hi
          have := htl (n + i) (by omega) (by omega)
          have hlt : n + i < listed.size := by omega
          simpa [Array.getD, hlt] using this
        rw [this]; simp
      have h3 : (listed.toList.drop n).count false ≤ listed.toList.count false := (List.drop_sublist _ _).count_le _
      omega
    · rcases Nat.lt_or_ge j n with h | h
      · rw [hj j h]; simp [h]
      · rw [htl j h hjs]; simp; omega
  intro fuel
  induction fuel with
  | zero =>
    intro listed vals w hs hcnt htl hcl hI
    refine hall _ _ _ _ hs hcnt htl (fun j hj => ?_) hI
    have h0 : listed.toList.count false = 0 := by omega
    have h1 := List.count_eq_zero.1 h0
    cases hb : listed.getD j false with
    | true => rfl
    | false =>
      exfalso; apply h1
      have hlt : j < listed.size := by omega
      have : listed[j] = false := by simpa [Array.getD, hlt] using hb
      rw [← this]; simp
  | succ fuel ih =>
    intro listed vals w hs hcnt htl hcl hI
    by_cases hdone : ∀ j, j < n → listed.getD j false = true
    · exact hall _ _ _ _ hs hcnt htl hdone hI
    obtain ⟨j0, hj0, hL0⟩ : ∃ j0, j0 < n ∧ listed.getD j0 false = false := by
      apply Classical.byContradiction
      intro hcon
      apply hdone
      intro j hj
      cases hb : listed.getD j false with
      | true => rfl
      | false => exact absurd ⟨j, hj, hb⟩ hcon
    refine ⟨fun hr => ?_, fun i hi => ?_⟩
    · exfalso
      apply hdone
      intro j
      induction j using Nat.strongRecOn with
      | _ j ihj =>
        intro hj
        cases hb : listed.getD j false with
        | true => rfl
        | false =>
          exfalso
          have hlt' : j < listed.size := by omega
          have : j ∈ Region.ready .any ops listed := by
            refine mem_ready.2 ⟨?_, ops[j], by simp, fun e he hbd => ?_⟩
            · simp [Array.getD, hlt'] at hb ⊢; exact hb
            · have hlt2 := (famOk_at hc (i := j) (o := ops[j]) hj (by simp)).1 e he hbd
              exact ihj _ hlt2 (by omega)
          rw [hr] at this; cases this
    · obtain ⟨h1, o, ho, hall'⟩ := mem_ready.1 hi
      have hlt : i < ops.size := (Array.getElem?_eq_some_iff.1 ho).1
      have hlt' : i < listed.size := by omega
      have hin : i < n := by
        rcases Nat.lt_or_ge i n with h | h
        · exact h
        · exfalso
          have := covers_spec hcl 6 j0 i o ho hall' ((famOk_tail hc h ho).2 j0 (by omega))
          simp only [hL0] at this; cases this
      have hLi : listed.getD i false = false := by simp [Array.getD, hlt'] at h1 ⊢; exact h1
      have hst := hstep i o hin ho _ vals w hI hLi hall'
      have fin : ∀ v w', I (upd (fun j => listed.getD j false) i true) (upd vals i v) w' → wpAnyIn (Fence.wide.inRound ll) m P .any ops Q fuel (listed.setIfInBounds i true) ((fam vals (fun j => listed.getD j false) 0 (ops.toList.take n) a).put o.dst v) w' := by
        intro v w' hJ
        rw [fam_put hc hin ho (L := fun j => listed.getD j false) hLi]
        have e : ∀ j, upd (fun j => listed.getD j false) i true j = (listed.setIfInBounds i true).getD j false := by
          intro j
          by_cases hji : j = i
          · subst hji; simp [upd, hlt']
          · rw [upd_ne _ _ hji, getD_set_ne false (fun e => hji e.symm)]
        have e2 := fam_congr (vals := upd vals i v) (vals' := upd vals i v) (ops.toList.take n) 0 a (fun j _ => ⟨e j, fun _ => rfl⟩)
        rw [e2]
        refine ih _ _ _ (by simpa using hs) ?_ (fun j h2 h3 => by rw [getD_set_ne false (by omega)]; exact htl j h2 h3) (fun i' o' hi' hL' e' he' hb' => by
          by_cases hii : i' = i
          · subst hii
            rw [ho] at hi'; cases hi'
            exact getD_set_true (hall' e' he' hb')
          · simp only [getD_set_ne false (fun e => hii e.symm)] at hL'
            exact getD_set_true (hcl i' o' hi' hL' e' he' hb')) (hcong _ _ _ _ e hJ)
        have hget : listed.toList[i]'(by simpa using hlt') = false := by simpa [Array.getD, hlt'] using hLi
        rw [Array.toList_setIfInBounds, List.count_set (by simpa using hlt')]
        have hmem : false ∈ listed.toList := by rw [← hget]; exact List.getElem_mem _
        have hpos : 0 < listed.toList.count false := List.count_pos_iff.2 hmem
        rw [hget, if_pos (by decide), if_neg (by decide)]
        omega
      unfold wpOpIn
      rw [ho]
      simp only
      rw [fam_wanted hc hin ho hall' a]
      split
      · rename_i hw
        rw [if_pos hw] at hst
        exact wpIn_of_opR (hnd _ (List.mem_of_getElem? (by simpa using ho))) (wp_move (Q := fun _ _ _ => False) (fam_exec hc hin ho hall' a) (by rw [(fam_size _ _ _).1, (fam_size _ _ _).1]) fin hno hst)
      · rename_i hw
        rw [if_neg hw] at hst
        obtain ⟨v, e, hJ⟩ := hst
        rw [put_inj (by rw [(fam_size _ _ _).1, (fam_size _ _ _).1]) e]
        exact ⟨fun _ _ => trivial, fin v _ hJ⟩

theorem wpAnyIn_startR {m : Nat} (n : Nat) {ops : Array Oper} {a : Act} {w : World} (hnd : ∀ o ∈ ops.toList, ∀ c, o.op ≠ .defer c) (hc : famOk ops n = true) (N : List Nat) (Φ : Nat → Value → World → Prop) {A : (Nat → Value) → Act} {pre tl : List Oper}
    (hpre : ops.toList.take n = pre) (htl : ops.toList.drop n = tl)
    (hA : ∀ vals, fam vals (fun _ => true) 0 pre a = A vals) (hΦ : ∀ i v w1 w2, Below w.drew.heap.size w.drew w1 → Below w1.heap.size w1 w2 → Φ i v w1 → Φ i v w2)
    (hN : ∀ i v w1, N.contains i = true → Φ i v w1 → ∃ g, v = .pointer (some ⟨g, 0, none⟩) ∧ g < w1.heap.size)
    (hs : stepOk P ops w.drew N Φ A 0 pre) (hend : ∀ vals w1, Below w.drew.heap.size w.drew w1 → allOk Φ vals w1 0 pre → (∀ i j, N.contains i = true → N.contains j = true → i ≠ j → i < n → j < n → vals i ≠ vals j) → wpListIn (Fence.wide.inRound ll) m P ops Q tl (A vals) w1) : wpAnyIn (Fence.wide.inRound ll) m P .any ops Q ops.size (Array.replicate ops.size false) a w.drew := by
  subst hpre
  subst htl
  have hsz := famOk_size hc
  have h := wpAnyIn_famR (ll := ll) (m := m) (P := P) (Q := Q) (ops := ops) (n := n) hnd hc (a := a) (h0 := fun e _ _ => e = .normal) (fun e _ _ h => h) (fun L vals w1 => Below w.drew.heap.size w.drew w1 ∧ (∀ j, j < n → L j = true → Φ j (vals j) w1) ∧ (∀ i j, N.contains i = true → N.contains j = true → i ≠ j → i < n → j < n → L i = true → L j = true → vals i ≠ vals j)) ?_ ?_ ?_ ops.size (Array.replicate ops.size false) (fun _ => undef) w.drew (by simp) (by simp) (fun j _ _ => by simp only [Array.getD]; split <;> simp) (fun i o _ hL => by simp only [Array.getD] at hL; split at hL <;> simp at hL) ⟨Below.refl _ _, fun j _ hj => ?_, fun i j _ _ _ _ _ hj => ?_⟩
  · have e : fam (fun _ => undef) (fun j => (Array.replicate ops.size false).getD j false) 0 (ops.toList.take n) a = a := by
      have : ∀ (r : List Oper) (i : Nat), fam (fun _ => undef) (fun _ => false) i r a = a := by
        intro r
        induction r with
        | nil => intro i; rfl
        | cons o r ih => intro i; simp only [fam, Bool.false_eq_true, if_false]; exact ih _
      refine (fam_congr (vals' := fun _ => undef) (L' := fun _ => false) _ _ _ (fun j _ => ⟨?_, fun _ => rfl⟩)).trans (this _ _)
      simp only [Array.getD]; split <;> simp
    rw [e] at h
    exact h
  · intro i o hin hi L vals w' hI hL hp
    have h1 := stepOk_at (P := P) (ops.toList.take n) 0 i ((pre_at hin).2 hi) hs vals w' hI.1 (preOk_of _ fun e he hb => hI.2.1 _ (by have := (famOk_at hc hin hi).1 e (by simpa using he) hb; omega) (hp e (by simpa using he) hb))
    rw [Nat.zero_add] at h1
    rw [hA]
    have fin : ∀ a' w'', EndAt (A vals) o.dst (Φ i) (N.contains i) w' .normal a' w'' → ∃ v, a' = (A vals).put o.dst v ∧ (Below w.drew.heap.size w.drew w'' ∧ (∀ j, j < n → upd L i true j = true → Φ j (upd vals i v j) w'') ∧ (∀ i' j, N.contains i' = true → N.contains j = true → i' ≠ j → i' < n → j < n → upd L i true i' = true → upd L i true j = true → upd vals i v i' ≠ upd vals i v j)) := by
      rintro a' w'' ⟨_, v, e, hφ, hR, hNew⟩
      have hother : ∀ j, j < n → j ≠ i → N.contains i = true → N.contains j = true → L j = true → v ≠ vals j := by
        intro j hjn hji hNi hNj hLj heq
        obtain ⟨g, hg, hlt⟩ := hN j _ _ hNj (hI.2.1 j hjn hLj)
        rw [hNi] at hNew
        simp only [NewAt] at hNew
        rw [hg, hNew] at heq
        injection heq with heq
        injection heq with heq
        injection heq with heq
        omega
      refine ⟨v, e, hI.1.trans (hR.mono hI.1.size), fun j hjn hj => ?_, fun i' j hNi hNj hne hi'n hjn hi' hj => ?_⟩
      · by_cases hji : j = i
        · subst hji; rw [upd_same]; exact hφ
        · rw [upd_ne _ _ hji] at hj ⊢
          exact hΦ _ _ _ _ hI.1 hR (hI.2.1 j hjn hj)
      · by_cases h1 : i' = i
        · subst h1
          have h2 : j ≠ i' := fun e => hne e.symm
          rw [upd_same, upd_ne _ _ h2]
          rw [upd_ne _ _ h2] at hj
          exact hother j hjn h2 hNi hNj hj
        · rw [upd_ne _ _ h1] at hi' ⊢
          by_cases h2 : j = i
          · subst h2
            rw [upd_same]
            exact fun e => hother i' hi'n h1 hNj hNi hi' e.symm
          · rw [upd_ne _ _ h2] at hj ⊢
            exact hI.2.2 i' j hNi hNj hne hi'n hjn hi' hj
    unfold wpList at h1
    split
    · rename_i hw
      rw [if_pos hw] at h1
      rcases h1 with h1 | ⟨_, a1, w1, h1, _⟩
      · exact wp_move (P := P) (Q := fun e _ _ => e = .normal) (o := o) (a := A vals) (A := A vals) (w := w') (K := fun a' w'' => ∃ v, a' = (A vals).put o.dst v ∧ (Below w.drew.heap.size w.drew w'' ∧ (∀ j, j < n → upd L i true j = true → Φ j (upd vals i v j) w'') ∧ (∀ i' j, N.contains i' = true → N.contains j = true → i' ≠ j → i' < n → j < n → upd L i true i' = true → upd L i true j = true → upd vals i v i' ≠ upd vals i v j))) rfl rfl (fun v w'' hJ => ⟨v, rfl, hJ⟩) (fun e a w h => h.1) (Oper.wp_mono fin h1)
      · cases h1
    · rename_i hw
      rw [if_neg hw] at h1
      exact fin _ _ h1
  · intro L L' vals w' he hI
    exact ⟨hI.1, fun j hjn hj => hI.2.1 j hjn (by rw [he]; exact hj), fun i j h1 h2 h3 h4 h5 h6 h7 => hI.2.2 i j h1 h2 h3 h4 h5 (by rw [he]; exact h6) (by rw [he]; exact h7)⟩
  · intro L vals w' hj hI
    rw [hA]
    exact hend vals w' hI.1 (allOk_of _ _ fun j _ h2 => hI.2.1 j (by simp at h2; omega) (hj j (by simp at h2; omega))) (fun i j h1 h2 h3 h4 h5 => hI.2.2 i j h1 h2 h3 h4 h5 (hj i h4) (hj j h5))
  · simp only [Array.getD] at hj
    split at hj <;> simp at hj
  · simp only [Array.getD] at hj
    split at hj <;> simp at hj


/-- wp_region_list inside. -/
theorem wpIn_region_famR {m : Nat} (n : Nat) {id : Nat} {ops : Array Oper} {a : Act} {w : World} (hnd : (ops.toList.all fun o => match o.op with | .defer _ => false | _ => true) = true) (hm : P.follows .mixedOrders = true) (hc : famOk ops n = true) (N : List Nat) (Φs : List (Value → World → Prop)) {A : (Nat → Value) → Act} {pre tl : List Oper}
    (hpre : ops.toList.take n = pre) (htl : ops.toList.drop n = tl)
    (hA : ∀ vals, fam vals (fun _ => true) 0 pre a = A vals) (hΦ : allStab w.drew Φs) (hN : allNew Φs N)
    (hs : stepOk P ops w.drew N (fun i => Φs.getD i (fun _ _ => True)) A 0 pre) (hend : ∀ vals w1, Below w.drew.heap.size w.drew w1 → allOk (fun i => Φs.getD i (fun _ _ => True)) vals w1 0 pre → (∀ i j, N.contains i = true → N.contains j = true → i ≠ j → i < n → j < n → vals i ≠ vals j) → wpListIn (Fence.wide.inRound ll) m P ops Q tl (A vals) w1) : (Code.region id ops true).wpIn (Fence.wide.inRound ll) m P Q a w :=
  wpIn_region_any hm (wpAnyIn_startR n (fun o ho c e => by have h := List.all_eq_true.1 hnd o ho; rw [e] at h; cases h) hc N _ hpre htl hA (fun i v w1 w2 h1 h2 h3 => allStab_at Φs hΦ i v w1 w2 h1 h2 h3) (fun i v w1 h1 h2 => allNew_at N hN i h1 v w1 h2) hs hend)

end
end Go.Proofs.YtfjjdjhnodcfhaaGreatDoor
