/- Tools for the walks of integers and numbers: blocks of four cells, new blocks, what goes on holding. -/
import Derived.Test.YtmhneibcbjgedaaGreatDoorDiv
set_option linter.unusedSimpArgs false
set_option linter.unusedVariables false
namespace Go.Proofs.YtmhneibcbjgedaaGreatDoor
open Go.RowKit

/-- A number of the package exact. -/
def Nm (w : World) (v : Value) (x : Rat) : Prop := ∃ a b c d, v = .agg #[a, b, c, d] ∧ Wh w (.agg #[a, b]) x.num ∧ Wh w (.agg #[c, d]) x.den

theorem Nm.below {w w' : World} {v : Value} {x : Rat} (h : Nm w v x) (hb : Below w.heap.size w w') : Nm w' v x := by
  obtain ⟨a, b, c, d, h1, h2, h3⟩ := h
  exact ⟨a, b, c, d, h1, h2.below hb, h3.below hb⟩
theorem Nm.drew {w : World} {v : Value} {x : Rat} (h : Nm w v x) : Nm w.drew v x := by
  obtain ⟨a, b, c, d, h1, h2, h3⟩ := h
  exact ⟨a, b, c, d, h1, h2.drew, h3.drew⟩
theorem Stab.nm (W : World) (x : Rat) : Stab W (fun v w => Nm w v x) := fun v w1 w2 _ h2 h => h.below h2
theorem Nm.mk {w : World} {a b c d : Value} {x : Rat} (h1 : Wh w (.agg #[a, b]) x.num) (h2 : Wh w (.agg #[c, d]) x.den) : Nm w (.agg #[a, b, c, d]) x := ⟨a, b, c, d, rfl, h1, h2⟩

theorem Nm.parts {w : World} {v : Value} {x : Rat} (h : Nm w v x) : ∃ b a, ∃ k p : Nat, ∃ c e, ∃ l q : Nat, v = .agg #[.bool b, .slice a k p, .bool c, .slice e l q] ∧ Wh w (.agg #[.bool b, .slice a k p]) x.num ∧ Wh w (.agg #[.bool c, .slice e l q]) x.den := by
  obtain ⟨v1, v2, v3, v4, rfl, h1, h2⟩ := h
  obtain ⟨b, a, k, p, e1⟩ := h1.parts
  obtain ⟨c, e, l, q, e2⟩ := h2.parts
  injection e1 with e1
  injection e2 with e2
  simp at e1 e2
  obtain ⟨rfl, rfl⟩ := e1
  obtain ⟨rfl, rfl⟩ := e2
  exact ⟨b, a, k, p, c, e, l, q, rfl, h1, h2⟩

/-- Blocks of four cells. -/
theorem Blk.four {w : World} {g : Nat} {t : TypeId} {u0 u1 u2 u3 : Value} (h : Blk w g t #[u0, u1, u2, u3]) (x y z u : Value) : Blk ((((w.setCell ⟨g, 0, none⟩ x).setCell ⟨g, 1, none⟩ y).setCell ⟨g, 2, none⟩ z).setCell ⟨g, 3, none⟩ u) g t #[x, y, z, u] := by
  simpa using (((h.set_ 0 x).set_ 1 y).set_ 2 z).set_ 3 u
theorem Blk.at4 {w : World} {g : Nat} {t : TypeId} {u0 u1 u2 u3 : Value} (h : Blk w g t #[u0, u1, u2, u3]) : w.cell? ⟨g, 0, none⟩ = some u0 ∧ w.cell? ⟨g, 1, none⟩ = some u1 ∧ w.cell? ⟨g, 2, none⟩ = some u2 ∧ w.cell? ⟨g, 3, none⟩ = some u3 :=
  ⟨by simpa using h.cell 0, by simpa using h.cell 1, by simpa using h.cell 2, by simpa using h.cell 3⟩
theorem Blk.fr4 {w : World} {g : Nat} {t : TypeId} {cs : Array Value} (h : Blk w g t cs) : w.frozen? ⟨g, 0, none⟩ = false ∧ w.frozen? ⟨g, 1, none⟩ = false ∧ w.frozen? ⟨g, 2, none⟩ = false ∧ w.frozen? ⟨g, 3, none⟩ = false :=
  ⟨h.frozen 0, h.frozen 1, h.frozen 2, h.frozen 3⟩
theorem below_four {B : Nat} {a w : World} {g : Nat} (h : Below B a w) (hg : B ≤ g) (x y z u : Value) : Below B a ((((w.setCell ⟨g, 0, none⟩ x).setCell ⟨g, 1, none⟩ y).setCell ⟨g, 2, none⟩ z).setCell ⟨g, 3, none⟩ u) :=
  (((h.setCell (p := ⟨g, 0, none⟩) hg x).setCell (p := ⟨g, 1, none⟩) hg y).setCell (p := ⟨g, 2, none⟩) hg z).setCell (p := ⟨g, 3, none⟩) hg u
theorem Wh.four {w : World} {v : Value} {n : Int} {g : Nat} {t : TypeId} {u0 u1 u2 u3 : Value} (h : Wh w v n) (hb : Blk w g t #[u0, u1, u2, u3]) (ht : t ≠ 122) (x y z u : Value) : Wh ((((w.setCell ⟨g, 0, none⟩ x).setCell ⟨g, 1, none⟩ y).setCell ⟨g, 2, none⟩ z).setCell ⟨g, 3, none⟩ u) v n := by
  obtain ⟨sv, hv, hl⟩ := h
  exact ⟨sv, hv, (((hl.far hb ht x).far (hb.set_ 0 x) ht y).far ((hb.set_ 0 x).set_ 1 y) ht z).far (((hb.set_ 0 x).set_ 1 y).set_ 2 z) ht u⟩
theorem Nm.four {w : World} {v : Value} {n : Rat} {g : Nat} {t : TypeId} {u0 u1 u2 u3 : Value} (h : Nm w v n) (hb : Blk w g t #[u0, u1, u2, u3]) (ht : t ≠ 122) (x y z u : Value) : Nm ((((w.setCell ⟨g, 0, none⟩ x).setCell ⟨g, 1, none⟩ y).setCell ⟨g, 2, none⟩ z).setCell ⟨g, 3, none⟩ u) v n := by
  obtain ⟨a, b, c, d, h1, h2, h3⟩ := h
  exact ⟨a, b, c, d, h1, h2.four hb ht x y z u, h3.four hb ht x y z u⟩
theorem Nm.two {w : World} {v : Value} {n : Rat} {g : Nat} {t : TypeId} {u0 u1 : Value} (h : Nm w v n) (hb : Blk w g t #[u0, u1]) (ht : t ≠ 122) (x y : Value) : Nm ((w.setCell ⟨g, 0, none⟩ x).setCell ⟨g, 1, none⟩ y) v n := by
  obtain ⟨a, b, c, d, h1, h2, h3⟩ := h
  exact ⟨a, b, c, d, h1, h2.two hb ht x y, h3.two hb ht x y⟩

/-- A new block of a number, as the zero number. -/
def NewNm (V : World) (v : Value) (w : World) : Prop := ∃ g, v = .pointer (some ⟨g, 0, none⟩) ∧ V.heap.size ≤ g ∧ Blk w g 69 #[.bool false, .slice none 0 0, .bool false, .slice none 0 0]
theorem NewNm.at {V : World} {v : Value} {w : World} (h : NewNm V v w) : ∃ g, v = .pointer (some ⟨g, 0, none⟩) ∧ g < w.heap.size := by
  obtain ⟨g, h1, h2, h3⟩ := h
  exact ⟨g, h1, h3.lt⟩
theorem Stab.newn (W V : World) : Stab W (NewNm V) := fun v w1 w2 _ h2 h => by
  obtain ⟨g, e1, e2, e3⟩ := h
  exact ⟨g, e1, e2, e3.next h2⟩

/-- What a function hands back that makes a number. -/
def RetN (w : World) (x : Rat) (e : Ending) (w' : World) : Prop := ∃ r, e = .returned r ∧ Nm w' r x ∧ Below w.heap.size w w'

/-- A number both of whose parts fit. -/
def FitN (x : Rat) : Prop := Fit x.num ∧ Fit (x.den : Int)

/-- Blocks at the beginning of a call: of any types. -/
theorem entA (w : World) (t : TypeId) (x : Array Value) : ∃ W, W = w.alloc (.cells x t) ∧ Below w.heap.size w W ∧ W.heap.size = w.heap.size + 1 ∧ Blk W w.heap.size t x :=
  ⟨_, rfl, (Below.refl _ _).alloc (Nat.le_refl _) _, by simp, Blk.new _ _ _⟩
theorem entB (w : World) (t s : TypeId) (x y : Array Value) : ∃ W, W = (w.alloc (.cells x t)).alloc (.cells y s) ∧ Below w.heap.size w W ∧ W.heap.size = w.heap.size + 2 ∧ Blk W w.heap.size t x ∧ Blk W (w.heap.size + 1) s y := by
  refine ⟨_, rfl, ((Below.refl _ _).alloc (Nat.le_refl _) _).alloc (by simp) _, by simp, (Blk.new _ _ _).alloc _, ?_⟩
  have := Blk.new (w.alloc (.cells x t)) s y; simpa using this
theorem entC (w : World) (t s r : TypeId) (x y z : Array Value) : ∃ W, W = ((w.alloc (.cells x t)).alloc (.cells y s)).alloc (.cells z r) ∧ Below w.heap.size w W ∧ W.heap.size = w.heap.size + 3 ∧ Blk W w.heap.size t x ∧ Blk W (w.heap.size + 1) s y ∧ Blk W (w.heap.size + 2) r z := by
  obtain ⟨V, hV, hB, hs, j1, j2⟩ := entB w t s x y
  refine ⟨V.alloc (.cells z r), by rw [hV], hB.alloc hB.size _, by simp [hs], j1.alloc _, j2.alloc _, ?_⟩
  have := Blk.new V r z
  rwa [hs] at this

end Go.Proofs.YtmhneibcbjgedaaGreatDoor
