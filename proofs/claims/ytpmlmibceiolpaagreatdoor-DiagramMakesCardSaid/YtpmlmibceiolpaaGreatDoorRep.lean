/- What a value of the package exact reads as in a world: a list of limbs; small lemmas on worlds. -/
import Derived.Test.YtpmlmibceiolpaaGreatDoorBig
import Derived.Test.YtpmlmibceiolpaaGreatDoorProg
import Derived.WalkKit
import Derived.Lib.Hide
import Derived.IntWalk
import Derived.Deep.Draws
import Derived.Deep.QuietTactic
import Derived.BigQuiet
set_option linter.unusedSimpArgs false
set_option linter.unusedVariables false
namespace Go.Proofs.YtpmlmibceiolpaaGreatDoor
open Go.RowKit

/-- Behind a call that has turned nothing below the heap's end: old cells and marks read as before. -/
theorem bcell {W w1 : World} (hb : Below W.heap.size W w1) : (∀ b o, b < W.heap.size → w1.cell? ⟨b, o, none⟩ = W.cell? ⟨b, o, none⟩) ∧ (∀ b o, b < W.heap.size → w1.frozen? ⟨b, o, none⟩ = W.frozen? ⟨b, o, none⟩) :=
  ⟨fun b o h => hb.cell (p := ⟨b, o, none⟩) h, fun b o h => hb.frozen (p := ⟨b, o, none⟩) h⟩

/-- A block that is known whole: these cells, of this element type, none frozen. -/
def Blk (w : World) (g : Nat) (t : TypeId) (cs : Array Value) : Prop := w.heap[g]? = some (.cells cs t (0, 0))

section
variable {w w' : World} {g : Nat} {t : TypeId} {cs : Array Value}
theorem Blk.lt (h : Blk w g t cs) : g < w.heap.size := (Array.getElem?_eq_some_iff.1 h).1
theorem Blk.cell (h : Blk w g t cs) (i : Nat) : w.cell? ⟨g, i, none⟩ = cs[i]? := cell_of_row w g i cs t (0, 0) h
theorem Blk.frozen (h : Blk w g t cs) (i : Nat) : w.frozen? ⟨g, i, none⟩ = false := by
  unfold Blk at h
  simp [World.frozen?, h]
theorem Blk.new (w : World) (t : TypeId) (cs : Array Value) : Blk (w.alloc (.cells cs t)) w.heap.size t cs := heap_alloc_new w _
theorem Blk.drew (h : Blk w g t cs) : Blk w.drew g t cs := h
theorem Blk.drewN (h : Blk w g t cs) (n : Nat) : Blk (w.drewN n) g t cs := h
theorem Blk.alloc (h : Blk w g t cs) (o : Obj) : Blk (w.alloc o) g t cs := (Below.heap_alloc w o g h.lt).trans h
theorem Blk.set_ (h : Blk w g t cs) (i : Nat) (u : Value) : Blk (w.setCell ⟨g, i, none⟩ u) g t (cs.setIfInBounds i u) := by
  unfold Blk at h ⊢
  simp [World.setCell, Array.getElem?_modify, h]
theorem Blk.far (h : Blk w g t cs) {p : Addr} (hp : g ≠ p.block) (u : Value) : Blk (w.setCell p u) g t cs := (Below.heap_setCell w p u g hp).trans h
theorem Blk.below {B : Nat} (h : Blk w g t cs) (hb : Below B w w') (hg : g < B) : Blk w' g t cs := (hb.block g hg).trans h
theorem Blk.grown {row : Option Nat} (h : Blk w g t cs) (hb : w.grownBy w' row) (hg : some g ≠ row) : Blk w' g t cs := (hb.block g h.lt hg).trans h
theorem Blk.ne_ {g' : Nat} {t' : TypeId} {cs' : Array Value} {f f' : Nat × Nat} (h : w.heap[g]? = some (.cells cs t f)) (h' : w.heap[g']? = some (.cells cs' t' f')) (hne : t ≠ t') : g ≠ g' := by
  rintro rfl
  rw [h] at h'
  injection h' with h'
  injection h' with _ ht
  exact hne ht
end

/-- Two cells that are stored. -/
theorem Blk.two {w : World} {g : Nat} {t : TypeId} {u0 u1 : Value} (h : Blk w g t #[u0, u1]) (x y : Value) : Blk ((w.setCell ⟨g, 0, none⟩ x).setCell ⟨g, 1, none⟩ y) g t #[x, y] := by
  simpa using (h.set_ 0 x).set_ 1 y
theorem Blk.cell0 {w : World} {g : Nat} {t : TypeId} {u0 u1 : Value} (h : Blk w g t #[u0, u1]) : w.cell? ⟨g, 0, none⟩ = some u0 := by simpa using h.cell 0
theorem Blk.cell1 {w : World} {g : Nat} {t : TypeId} {u0 u1 : Value} (h : Blk w g t #[u0, u1]) : w.cell? ⟨g, 1, none⟩ = some u1 := by simpa using h.cell 1

theorem two_far {w : World} {g b o : Nat} {x y : Value} (h : b ≠ g) : ((w.setCell ⟨g, 0, none⟩ x).setCell ⟨g, 1, none⟩ y).cell? ⟨b, o, none⟩ = w.cell? ⟨b, o, none⟩ := by
  have h1 := World.cell?_of_block (w := w.setCell ⟨g, 0, none⟩ x) (a := ⟨b, o, none⟩) (Below.heap_setCell (w.setCell ⟨g, 0, none⟩ x) ⟨g, 1, none⟩ y b h)
  have h2 := World.cell?_of_block (w := w) (a := ⟨b, o, none⟩) (Below.heap_setCell w ⟨g, 0, none⟩ x b h)
  exact h1.trans h2

/-- The cells from an address on hold these words; the block is one of uint32. -/
def Cells (w : World) (b o : Nat) (l : List Nat) : Prop := (∃ cs f, w.heap[b]? = some (.cells cs 143 f)) ∧ ∀ i, i < l.length → w.cell? ⟨b, o + i, none⟩ = some (.int .u32 (l.getD i 0))

theorem Cells.lt {w : World} {b o : Nat} {l : List Nat} (h : Cells w b o l) : b < w.heap.size := by
  obtain ⟨⟨cs, f, h⟩, _⟩ := h
  exact (Array.getElem?_eq_some_iff.1 h).1

/-- A slice of uint32 that reads as a list. -/
def Lim (w : World) (v : Value) (l : List Nat) : Prop :=
  ∃ a cap, v = .slice a l.length cap ∧ l.length ≤ cap ∧ cap ≤ maxLen ∧ (l = [] ∨ ∃ b o, a = some ⟨b, o, none⟩ ∧ Cells w b o l)

theorem Cells.below {w w' : World} {b o : Nat} {l : List Nat} (h : Cells w b o l) {B : Nat} (hb : Below B w w') (hB : b < B) : Cells w' b o l :=
  ⟨by obtain ⟨cs, f, h⟩ := h.1; exact ⟨cs, f, (hb.block b hB).trans h⟩, fun i hi => (hb.cell (p := ⟨b, o + i, none⟩) hB).trans (h.2 i hi)⟩

theorem Lim.below {w w' : World} {v : Value} {l : List Nat} (h : Lim w v l) (hb : Below w.heap.size w w') : Lim w' v l := by
  obtain ⟨a, cap, hv, h1, h2, h3⟩ := h
  refine ⟨a, cap, hv, h1, h2, h3.imp id ?_⟩
  rintro ⟨b, o, ha, hc⟩
  exact ⟨b, o, ha, hc.below hb hc.lt⟩

theorem Lim.nil (w : World) : Lim w (.slice none 0 0) [] := ⟨none, 0, rfl, Nat.le_refl _, by unfold maxLen; omega, .inl rfl⟩

/-- A store into a block of another element type. -/
theorem Cells.far {w : World} {b o g i : Nat} {t : TypeId} {cs : Array Value} {l : List Nat} (h : Cells w b o l) (hg : Blk w g t cs) (ht : t ≠ 143) (u : Value) : Cells (w.setCell ⟨g, i, none⟩ u) b o l := by
  obtain ⟨⟨cs', f, h1⟩, h2⟩ := h
  have hne : g ≠ b := Blk.ne_ hg h1 ht
  refine ⟨⟨cs', f, (Below.heap_setCell w ⟨g, i, none⟩ u b (fun e => hne e.symm)).trans h1⟩, fun k hk => ?_⟩
  rw [← h2 k hk]
  exact World.cell?_of_block (w := w) (Below.heap_setCell w ⟨g, i, none⟩ u b (fun e => hne e.symm))

theorem Lim.far {w : World} {v : Value} {g i : Nat} {t : TypeId} {cs : Array Value} {l : List Nat} (h : Lim w v l) (hg : Blk w g t cs) (ht : t ≠ 143) (u : Value) : Lim (w.setCell ⟨g, i, none⟩ u) v l := by
  obtain ⟨a, cap, hv, h1, h2, h3⟩ := h
  refine ⟨a, cap, hv, h1, h2, h3.imp id ?_⟩
  rintro ⟨b, o, ha, hc⟩
  exact ⟨b, o, ha, hc.far hg ht u⟩

/-- Either there are no limbs, or they lie in memory. -/
theorem Lim.cases {w : World} {v : Value} {l : List Nat} (h : Lim w v l) :
    (l = [] ∧ ∃ a cap, v = .slice a 0 cap ∧ cap ≤ maxLen) ∨ (∃ b o cap, v = .slice (some ⟨b, o, none⟩) l.length cap ∧ 0 < l.length ∧ l.length ≤ cap ∧ cap ≤ maxLen ∧ Cells w b o l) := by
  obtain ⟨a, cap, hv, h1, h2, h3⟩ := h
  rcases h3 with h3 | ⟨b, o, ha, hc⟩
  · subst h3; exact .inl ⟨rfl, a, cap, hv, h2⟩
  · subst ha
    rcases Nat.eq_zero_or_pos l.length with h0 | h0
    · have : l = [] := List.length_eq_zero_iff.1 h0
      subst this; exact .inl ⟨rfl, _, cap, hv, h2⟩
    · exact .inr ⟨b, o, cap, hv, h0, h1, h2, hc⟩

/-- Only the count of draws has moved. -/
def Drawn (w wr : World) : Prop := ∃ m, wr = w.drewN m
theorem Drawn.refl (w : World) : Drawn w w := ⟨0, rfl⟩
theorem Drawn.more {w wr : World} (h : Drawn w wr) (n : Nat) : Drawn w (wr.drewN n) := by obtain ⟨m, rfl⟩ := h; exact ⟨m + n, World.drewN_drewN _ _ _⟩
theorem Drawn.one {w wr : World} (h : Drawn w wr) : Drawn w wr.drew := h.more 1
theorem Drawn.of (w : World) (n : Nat) : Drawn w (w.drewN n) := ⟨n, rfl⟩
theorem Drawn.trans {a b c : World} (h : Drawn a b) (k : Drawn b c) : Drawn a c := by obtain ⟨n, rfl⟩ := k; exact h.more n
theorem Drawn.cell {w wr : World} (h : Drawn w wr) (a : Addr) : wr.cell? a = w.cell? a := by obtain ⟨m, rfl⟩ := h; rfl
theorem Drawn.frozen {w wr : World} (h : Drawn w wr) (a : Addr) : wr.frozen? a = w.frozen? a := by obtain ⟨m, rfl⟩ := h; rfl
theorem Drawn.size {w wr : World} (h : Drawn w wr) : wr.heap.size = w.heap.size := by obtain ⟨m, rfl⟩ := h; rfl
theorem Drawn.below {w wr : World} (h : Drawn w wr) (B : Nat) : Below B w wr := by obtain ⟨m, rfl⟩ := h; exact ⟨rfl, rfl, rfl, Nat.le_refl _, fun _ _ => rfl⟩

theorem quiet_add_left {P : Program} {f : FuncId} {args : Array Value} {w : World} {a n : Nat} {v : Value}
    (h : Calls P f args (w.drewN (a + n)) fun e w' => e = .returned v ∧ w.drewN (a + n) = w') :
    Calls P f args (w.drewN (a + n)) fun e w'' => e = .returned v ∧ ∃ m, w'' = w.drewN (a + m) :=
  h.mono fun _ _ ⟨he, hm⟩ => ⟨he, n, hm.symm⟩
theorem quiet_left {P : Program} {f : FuncId} {args : Array Value} {w : World} {n : Nat} {v : Value}
    (h : Calls P f args (w.drewN n) fun e w' => e = .returned v ∧ w.drewN n = w') : Calls P f args (w.drewN n) fun e w'' => e = .returned v ∧ ∃ m, w'' = w.drewN m :=
  h.mono fun _ _ ⟨he, hm⟩ => ⟨he, n, hm.symm⟩
theorem quiet_drawn {P : Program} {f : FuncId} {args : Array Value} {w : World} {n : Nat} {v : Value}
    (h : Calls P f args (w.drewN n) fun e w' => e = .returned v ∧ Drawn (w.drewN n) w') : Calls P f args (w.drewN n) fun e w'' => e = .returned v ∧ ∃ m, w'' = w.drewN m :=
  h.mono fun _ _ ⟨he, m, hm⟩ => ⟨he, n + m, by rw [hm, World.drewN_drewN]⟩
theorem quiet_add_drawn {P : Program} {f : FuncId} {args : Array Value} {w : World} {a n : Nat} {v : Value}
    (h : Calls P f args (w.drewN (a + n)) fun e w' => e = .returned v ∧ Drawn (w.drewN (a + n)) w') :
    Calls P f args (w.drewN (a + n)) fun e w'' => e = .returned v ∧ ∃ m, w'' = w.drewN (a + m) :=
  h.mono fun _ _ ⟨he, m, hm⟩ => ⟨he, n + m, by rw [hm, World.drewN_drewN, Nat.add_assoc]⟩

/-- Three new blocks: two arguments that are boxed, and a result. -/
theorem ent3 (w : World) (t : TypeId) (x y z : Array Value) : ∃ W, W = ((w.alloc (.cells x t)).alloc (.cells y t)).alloc (.cells z t) ∧ Below w.heap.size w W ∧ W.heap.size = w.heap.size + 3 ∧ Blk W w.heap.size t x ∧ Blk W (w.heap.size + 1) t y ∧ Blk W (w.heap.size + 2) t z := by
  refine ⟨_, rfl, (((Below.refl _ _).alloc (Nat.le_refl _) _).alloc (by simp) _).alloc (by simp; omega) _, by simp, ((Blk.new _ _ _).alloc _).alloc _, ?_, ?_⟩
  · have := (Blk.new (w.alloc (.cells x t)) t y).alloc (.cells z t); simpa using this
  · have := Blk.new ((w.alloc (.cells x t)).alloc (.cells y t)) t z; simpa using this
theorem ent2 (w : World) (t : TypeId) (x y : Array Value) : ∃ W, W = (w.alloc (.cells x t)).alloc (.cells y t) ∧ Below w.heap.size w W ∧ W.heap.size = w.heap.size + 2 ∧ Blk W w.heap.size t x ∧ Blk W (w.heap.size + 1) t y := by
  refine ⟨_, rfl, ((Below.refl _ _).alloc (Nat.le_refl _) _).alloc (by simp) _, by simp, (Blk.new _ _ _).alloc _, ?_⟩
  have := Blk.new (w.alloc (.cells x t)) t y; simpa using this

theorem Lim.drawn {w w' : World} {v : Value} {l : List Nat} (h : Lim w v l) (hd : Drawn w w') : Lim w' v l := by obtain ⟨n, rfl⟩ := hd; exact h
theorem Lim.drew {w : World} {v : Value} {l : List Nat} (h : Lim w v l) : Lim w.drew v l := h

/-- A slice of uint32 of the call's own, from block B on. -/
def Row (w : World) (B : Nat) (v : Value) (l : List Nat) : Prop := w.ownsRow B 143 1 v l.length (l.map fun (x : Nat) => Value.int .u32 x)

theorem Row.lim {w : World} {B : Nat} {v : Value} {l : List Nat} (h : Row w B v l) : Lim w v l := by
  obtain ⟨hl, h⟩ := h
  rcases h with ⟨rfl, h0⟩ | ⟨g, cap, cur, rfl, hB, hg, hn, hm, hc, ht⟩
  · obtain rfl : l = [] := List.length_eq_zero_iff.1 h0
    exact Lim.nil w
  · refine ⟨_, cap, rfl, hn, hm, .inr ⟨g, 0, rfl, ⟨_, _, hg⟩, fun i hi => ?_⟩⟩
    rw [cell_of_row w g (0 + i) cur 143 (0, 0) hg]
    have h1 : (cur.toList.take (l.length * 1))[i]? = some (.int .u32 (l.getD i 0)) := by
      rw [ht]; simp [List.getD, List.getElem?_eq_getElem hi]
    rw [List.getElem?_take, if_pos (by omega)] at h1
    simpa using h1

theorem u32_oneCell (l : List Nat) : ∀ u ∈ l.map (fun (x : Nat) => Value.int .u32 x), u.oneCell' = true := by
  intro u hu
  obtain ⟨_, _, rfl⟩ := List.mem_map.1 hu
  rfl

theorem cell_new_u32 (w : World) (t : TypeId) (x : Int) : ∀ j u, [Value.int .u32 x][j]? = some u → (w.alloc (.cells #[.int .u32 x] t)).cell? ((⟨w.heap.size, 0, none⟩ : Addr).add j) = some u := by
  intro j u hj
  match j, hj with
  | 0, hj => simp at hj; subst hj; simp [Addr.add]

theorem Row.snoc {w : World} {B : Nat} {v : Value} {l : List Nat} {q : Nat} {z : Int} (h : w.ownsRow B 143 1 v (l.length + 1) (l.map (fun (x : Nat) => Value.int .u32 x) ++ [.int .u32 z])) (hz : z = (q : Int)) : Row w B v (l ++ [q]) := by
  subst hz
  unfold Row
  simpa using h

theorem info32 : (Tryz.prog.info? 143).map (fun i => (i.zero, i.size, i.bytes)) = some (some (.int .u32 0), 1, 4) := by kernel_rfl

end Go.Proofs.YtpmlmibceiolpaaGreatDoor
