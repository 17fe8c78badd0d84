/- A loop over an iterator of integers: the values that come are read in the world in which they come. -/
import Derived.Test.YtmhneibcbjgedaaGreatDoorOrdIn
import Derived.Test.YtmhneibcbjgedaaGreatDoorTPow
import Derived.RangeFuncNested
import Derived.RangeFuncBound
import Derived.RangeFuncCalls
import Derived.RangeFuncLeaves
import Derived.RangeFuncBox
import Derived.RangeFuncWrites
import Derived.Shelf.Abstract
import Derived.Shelf.RegionOpen
import Derived.OwnWalkIn
import Derived.TacticsInMore
import Derived.LoopNIn
import Derived.LoopIn
set_option linter.unusedSimpArgs false
set_option linter.unusedVariables false
namespace Go.Proofs.YtmhneibcbjgedaaGreatDoor
open Go.RowKit Go.Shelf

/-- The block of a variable of type Whole. -/
def IsWh (W : World) (g : Nat) : Prop := ∃ u0 u1, Blk W g 65 #[u0, u1]

/-- What a round keeps: all cells but those of the sum. -/
structure Kp (bs : Nat) (A B : World) : Prop where
  size : A.heap.size ≤ B.heap.size
  same : ∀ (k : Nat) (o : Obj), k ≠ bs → A.heap[k]? = some o → o.isCells = true → B.heap[k]? = some o
  kind : IsWh A bs → IsWh B bs

theorem Kp.refl (bs : Nat) (A : World) : Kp bs A A := ⟨Nat.le_refl _, fun _ _ _ h _ => h, fun h => h⟩
theorem Kp.trans {bs : Nat} {A B C : World} (h : Kp bs A B) (k : Kp bs B C) : Kp bs A C :=
  ⟨Nat.le_trans h.size k.size, fun i o hn hi ho => k.same i o hn (h.same i o hn hi ho) ho, fun hi => k.kind (h.kind hi)⟩
theorem Kp.of_below {bs : Nat} {A B : World} (h : Below A.heap.size A B) : Kp bs A B :=
  ⟨h.size, fun k o _ hk _ => (h.block k (Array.getElem?_eq_some_iff.1 hk).1).trans hk, fun ⟨u0, u1, hb⟩ => ⟨u0, u1, hb.next h⟩⟩
theorem turn_other {W : World} {l k : Nat} {o o2 o' : Obj} (h : W.heap[l]? = some o) (ho : o.isCells = false) (hk : W.heap[k]? = some o2) (hc : o2.isCells = true) : (W.putObj l o').heap[k]? = some o2 :=
  (World.putObj_heap_other (by rintro rfl; rw [h] at hk; cases hk; rw [ho] at hc; cases hc)).trans hk
theorem Kp.turn {bs : Nat} {W : World} {l : Nat} {o : Obj} (o' : Obj) (h : W.heap[l]? = some o) (ho : o.isCells = false) : Kp bs W (W.putObj l o') :=
  ⟨by simp, fun k o2 _ hk hc => turn_other h ho hk hc, fun ⟨u0, u1, hb⟩ => ⟨u0, u1, turn_other h ho hb rfl⟩⟩
theorem Blk.turn {W : World} {g : Nat} {t : TypeId} {cs : Array Value} {l : Nat} {o : Obj} (hb : Blk W g t cs) (o' : Obj) (h : W.heap[l]? = some o) (ho : o.isCells = false) : Blk (W.putObj l o') g t cs := turn_other h ho hb rfl
theorem Blk.kp {A B : World} {bs g : Nat} {t : TypeId} {cs : Array Value} (h : Blk A g t cs) (hk : Kp bs A B) (hg : g ≠ bs) : Blk B g t cs := hk.same g _ hg h rfl

theorem Wh.of_same {A B : World} {v : Value} {n : Int} (h : Wh A v n) (hs : ∀ (k : Nat) cs f, A.heap[k]? = some (.cells cs 122 f) → B.heap[k]? = A.heap[k]?) : Wh B v n := by
  obtain ⟨sv, h1, a, cap, e, h2, h3, h4⟩ := h
  refine ⟨sv, h1, a, cap, e, h2, h3, h4.imp id ?_⟩
  rintro ⟨b, o, ha, ⟨cs, f, hb⟩, hc⟩
  have e1 := hs b cs f hb
  exact ⟨b, o, ha, ⟨cs, f, e1.trans hb⟩, fun i hi => (World.cell?_of_block (w := A) e1).trans (hc i hi)⟩
theorem Wh.kp {A B : World} {bs : Nat} {v : Value} {n : Int} (h : Wh A v n) (hk : Kp bs A B) (hi : IsWh A bs) : Wh B v n :=
  h.of_same fun k cs f hb => by
    obtain ⟨u0, u1, h2⟩ := hi
    exact (hk.same k _ (Blk.ne_ hb h2 (by decide)) hb rfl).trans hb.symm
theorem Wh.turn {W : World} {v : Value} {n : Int} {l : Nat} {o : Obj} (h : Wh W v n) (o' : Obj) (hl : W.heap[l]? = some o) (ho : o.isCells = false) : Wh (W.putObj l o') v n :=
  h.of_same fun k cs f hb => (turn_other hl ho hb rfl).trans hb.symm

section
variable {P : Program} {n : Nat}

/-- An iterator that yields the integers f 0, f 1, .. , N of them. -/
def SeqV (n : Nat) (P : Program) (g : Nat) (lb : Array Value) (bs : Nat) (f : Nat → Int) (N : Nat) (w : World) : Prop :=
  ∀ (l : Nat) (J : Nat → World → Prop) (W : World), Below w.heap.size w W → (∀ i A B, J i A → Below A.heap.size A B → J i B) →
    (∀ i v W1, J i W1 → i < N → (∃ b a, ∃ k p : Nat, v = .agg #[.bool b, .slice a k p]) → Wh W1 v (f i) → YieldAt Fence.wide (n - 1) P l #[v] W1 fun e W' => e = .returned (.bool true) ∧ J (i + 1) W' ∧ Kp bs W1 W') →
    J 0 W → CallsIn Fence.wide n P g (#[.func (.yield l) #[] #[]] ++ lb) W fun e W' => (∃ v, e = .returned v) ∧ J N W'

theorem wpIn_rangeFunc_V {g : Operand} {ps : Array Tmp} {assign body : Code} {Q : Exit → Act → World → Prop} {a : Act} {w : World}
    (h1 : 1 ≤ n) {gf : Nat} {lb : Array Value} (hg : a.eval g = .func (.func gf) #[] lb) (eg : ∀ args w, (callFunc gf args).run P w = .ok (.enter gf args) w)
    {bs : Nat} {f : Nat → Int} {N : Nat} {w0 : World} (hseq : SeqV (n - 1) P gf lb bs f N w0) (hb0 : Below w0.heap.size w0 w) (hps : ps.size = 1)
    (I : Nat → World → Prop) (hI : ∀ i A l o o', w.heap.size ≤ l → A.heap[l]? = some o → o.isCells = false → I i A → I i (A.putObj l o')) (hIB : ∀ i A B, I i A → Below A.heap.size A B → I i B) (h0 : I 0 w)
    (hround : ∀ (l i : Nat) (v : Value) (W : World), I i W → i < N → (∃ b a, ∃ k p : Nat, v = .agg #[.bool b, .slice a k p]) → Wh W v (f i) →
      assign.wpIn (Fence.wide.inRound l) (n - 1 - 1) P (Exit.then (fun a1 W1 => Below W.heap.size W W1 ∧ ∀ (j : Nat) (o o' : Obj), w.heap.size ≤ j → j < W.heap.size → W1.heap[j]? = some o → o.isCells = false →
          body.wpIn (Fence.wide.inRound l) (n - 1 - 1) P (fun e _ W' => e = .normal ∧ KeepsFrom w.heap.size (W1.putObj j o') W' ∧ Kp bs (W1.putObj j o') W' ∧ I (i + 1) W') a1 (W1.putObj j o')) (fun _ _ _ => False))
        { tmps := (ps.zip #[v]).foldl (fun t (p, v) => t.setIfInBounds p v) a.tmps, defers := [] } W)
    (hdone : ∀ (D : Nat) (W : World), w.heap.size ≤ D → I N W → W.heap[D]? = some (.deferred (some [])) → Q .normal { a with defers := { target := .collected D, args := #[] } :: a.defers } W) :
    (Code.rangeFunc g ps assign body).wpIn Fence.wide n P Q a w := by
  refine wpIn_rangeFunc ?_
  intro fn hfn
  have hro : Fence.wide.round = none := rfl
  rw [hro]
  obtain ⟨rec, hrec⟩ : ∃ rec : LoopState → Option Code → Loop, rec = fun st pe => { state := st, pending := pe, fn, tmps := a.tmps, params := ps, assign, body, defers := w.heap.size } := ⟨_, rfl⟩
  obtain ⟨W1, hW1⟩ : ∃ W1, (w.alloc (.deferred (some []))).alloc (.loop (rec .ready none)) = W1 := ⟨_, rfl⟩
  have hL1 : W1.heap[w.heap.size + 1]? = some (.loop (rec .ready none)) := by
    rw [← hW1]; have := World.alloc_heap_new (w.alloc (.deferred (some []))) (.loop (rec .ready none)); rwa [World.size_alloc] at this
  have hK1 : W1.heap[w.heap.size]? = some (.deferred (some [])) := by
    rw [← hW1]; exact (Below.heap_alloc _ _ _ (by simp)).trans (World.alloc_heap_new w _)
  have hI1 : I 0 W1 := by
    rw [← hW1]
    exact hIB _ _ _ (hIB _ _ _ h0 ((Below.refl _ w).alloc (Nat.le_refl _) _)) ((Below.refl _ _).alloc (Nat.le_refl _) _)
  have hb1 : Below w0.heap.size w0 W1 := by
    rw [← hW1]; exact hb0.trans ((((Below.refl _ w).alloc (Nat.le_refl _) _).alloc (by simp) _).mono hb0.size)
  refine ⟨w.heap.size + 1, [{ target := .collected w.heap.size, args := #[] }], W1, { target := .fn (.func gf) lb, args := #[.func (.yield (w.heap.size + 1)) #[] #[]] }, W1, gf,
    #[.func (.yield (w.heap.size + 1)) #[] #[]] ++ lb, W1, ?_, ?_, ?_, ?_, fun _ => h1, ?_⟩
  · rw [← hW1, hrec]; exact run_enterLoop_outer _ _ _ _ _
  · simp only [resolve, hg]
    simp [go_sem]
  · intro f' hf'; trivial
  · simp [invoke, go_sem, eg]
  · refine (hseq (w.heap.size + 1)
      (fun i W => I i W ∧ W.heap[w.heap.size + 1]? = some (.loop (rec .ready none)) ∧ W.heap[w.heap.size]? = some (.deferred (some [])))
      W1 hb1
      (fun i A B hs hb => ⟨hIB _ _ _ hs.1 hb, (hb.block _ (Array.getElem?_eq_some_iff.1 hs.2.1).1).trans hs.2.1, (hb.block _ (Array.getElem?_eq_some_iff.1 hs.2.2).1).trans hs.2.2⟩)
      ?_ ⟨hI1, hL1, hK1⟩).mono ?_
    · rintro i v W ⟨hi, hl, hk⟩ hlen hsh hwh
      have hlt : w.heap.size + 1 < W.heap.size := (Array.getElem?_eq_some_iff.1 hl).1
      have hy := run_yield (P := P) (args := #[v]) hl (by rw [hrec]; exact hps.symm)
      rw [hrec] at hy
      refine ⟨fn, _, assign, body, hy, roundIn_of_wpIn hfn ?_⟩
      refine wpIn_mono (hround (w.heap.size + 1) i v W hi hlen hsh hwh) ?_
      intro e a1 Wa he
      cases e with
      | normal =>
        obtain ⟨hba, hbody⟩ := he
        have hla : Wa.heap[w.heap.size + 1]? = some (.loop (rec .ready none)) := (hba.block _ hlt).trans hl
        have hka : Wa.heap[w.heap.size]? = some (.deferred (some [])) := (hba.block _ (by omega)).trans hk
        have hlta : w.heap.size + 1 < Wa.heap.size := (Array.getElem?_eq_some_iff.1 hla).1
        refine ⟨_, run_beginRound hla (by rw [hrec]), ?_⟩
        have hl2 : (Wa.putObj (w.heap.size + 1) (.loop { rec .ready none with state := .busy })).heap[w.heap.size + 1]? = some (.loop { rec .ready none with state := .busy }) := World.putObj_heap_same hlta
        have hk2 : (Wa.putObj (w.heap.size + 1) (.loop { rec .ready none with state := .busy })).heap[w.heap.size]? = some (.deferred (some [])) := (World.putObj_heap_other (by omega)).trans hka
        refine wpIn_mono (hbody (w.heap.size + 1) _ (.loop { rec .ready none with state := .busy }) (by omega) hlt hla rfl) ?_
        rintro e a3 W3 ⟨rfl, hk3, hkp3, hi3⟩
        have hl3 := hk3.same _ _ (by omega) hl2 rfl
        have hr := run_endRound (P := P) none hl3
        refine ⟨_, _, hr, rfl, ⟨hI _ _ _ _ _ (by omega) hl3 rfl hi3, ?_, ?_⟩, ?_⟩
        · have := World.putObj_heap_same (o := .loop (rec .ready none)) (Array.getElem?_eq_some_iff.1 hl3).1
          rw [hrec] at this ⊢
          exact this
        · exact (World.putObj_heap_other (by omega)).trans (hk3.same _ _ (Nat.le_refl _) hk2 rfl)
        · exact (((Kp.of_below hba).trans (Kp.turn _ hla rfl)).trans hkp3).trans (Kp.turn _ hl3 rfl)
      | ret => exact he.elim
      | exit id => exact he.elim
      | goto t => exact he.elim
      | panic c => exact he.elim
      | outgrown => exact he.elim
    · rintro e W2 ⟨⟨v, rfl⟩, hi, hl, hk⟩
      exact ⟨none, _, by have := run_endLoop (P := P) hl (by rw [hrec]; simp); rw [hrec] at this; exact this, hdone _ _ (Nat.le_refl _) (hI _ _ _ _ _ (by omega) hl rfl hi) ((World.putObj_heap_other (by omega)).trans hk)⟩

end
end Go.Proofs.YtmhneibcbjgedaaGreatDoor
