/- A region that draws its order, one of whose operations writes: what the others did before it holds, and it outlives what the others do after it. -/
import Derived.Test.YtpmlmibceiolpaaGreatDoorOrd
import Derived.Test.YtpmlmibceiolpaaGreatDoorGQ
import Derived.Maps.Own
import Derived.DeepKeys4
import Derived.Test.YtpmlmibceiolpaaGreatDoorMake
import Derived.Deep.RegionHeld3
import Derived.Deep.AppendLies
set_option linter.unusedSimpArgs false
set_option linter.unusedVariables false
namespace Go.Proofs.YtpmlmibceiolpaaGreatDoor
open Go.RowKit

theorem r_anytext : (Region.Mode.any == Region.Mode.text) = false := rfl
theorem r_anygc : (Region.Mode.any == Region.Mode.gc) = false := rfl
section
variable {P : Program} {Q : Exit → Act → World → Prop}

/-- Where a walk through one operation is to end; before the writer the world is as it was (and what is new), after it the relation R holds. -/
def EndO (S : World → World → Prop) (A : Act) (x : Option Tmp) (φ : Value → World → Prop) (w : World) : Exit → Act → World → Prop := fun e a' w' => e = .normal ∧ ∃ v, a' = A.put x v ∧ φ v w' ∧ S w w'
def Under (w w' : World) : Prop := Below w.heap.size w w'
/-- The relation in which an operation is met, and which it keeps. -/
def seenR (R : World → World → Prop) (k i : Nat) : World → World → Prop := if i = k then Under else R
def keptR (R : World → World → Prop) (k i : Nat) : World → World → Prop := if i = k then R else Under

def stepOkO (R : World → World → Prop) (k : Nat) (P : Program) (ops : Array Oper) (W : World) (Φ : Nat → Value → World → Prop) (A : (Nat → Value) → Act) : Nat → List Oper → Prop
  | _, [] => True
  | i, o :: r => (∀ vals w, seenR R k i W w → preOk Φ vals w o.after.toList → wpList P ops (EndO (keptR R k i) (A vals) o.dst (Φ i) w) [o] (A vals) w) ∧ stepOkO R k P ops W Φ A (i + 1) r

theorem stepOkO_at {R : World → World → Prop} {q : Nat} {ops : Array Oper} {W : World} {Φ : Nat → Value → World → Prop} {A : (Nat → Value) → Act} {o : Oper} : ∀ (l : List Oper) (i k : Nat), l[k]? = some o → stepOkO R q P ops W Φ A i l →
    ∀ vals w, seenR R q (i + k) W w → preOk Φ vals w o.after.toList → wpList P ops (EndO (keptR R q (i + k)) (A vals) o.dst (Φ (i + k)) w) [o] (A vals) w := by
  intro l
  induction l with
  | nil => intro i k h; simp at h
  | cons p r ih =>
    intro i k h hs
    cases k with
    | zero => simp at h; subst h; exact hs.1
    | succ k =>
      have := ih (i + 1) k (by simpa using h) hs.2
      rwa [show i + 1 + k = i + (k + 1) by omega] at this

theorem wpAny_startO (n k : Nat) {ops : Array Oper} {a : Act} {w : World} (hc : famOk ops n = true) (R : World → World → Prop) (hr : ∀ a b, Under a b → R a b) (ht : ∀ x y z, R x y → R y z → R x z) (Φ : Nat → Value → World → Prop) {A : (Nat → Value) → Act} {pre tl : List Oper}
    (hpre : ops.toList.take n = pre) (htl : ops.toList.drop n = tl)
    (hA : ∀ vals, fam vals (fun _ => true) 0 pre a = A vals) (hΦ : ∀ i v w1 w2, i ≠ k → R w1 w2 → Φ i v w1 → Φ i v w2) (hΦk : ∀ v w1 w2, Under w1 w2 → Φ k v w1 → Φ k v w2)
    (hs : stepOkO R k P ops w.drew Φ A 0 pre) (hend : ∀ vals w1, R w.drew w1 → allOk Φ vals w1 0 pre → wpList P ops Q tl (A vals) w1) : wpAny P .any ops Q ops.size (Array.replicate ops.size false) a w.drew := by
  subst hpre
  subst htl
  have h := wpAny_fam (P := P) (Q := Q) (ops := ops) (n := n) hc (a := a) (h0 := fun e _ _ => e = .normal) (fun e _ _ h => h) (fun L vals w1 => R w.drew w1 ∧ (L k = false → Under w.drew w1) ∧ (∀ j, j < n → L j = true → Φ j (vals j) w1)) ?_ ?_ ?_ ops.size (Array.replicate ops.size false) (fun _ => undef) w.drew (by simp) (by simp) (fun j _ _ => by simp only [Array.getD]; split <;> simp) (fun i o _ hL => by simp only [Array.getD] at hL; split at hL <;> simp at hL) ⟨hr _ _ (Below.refl _ _), fun _ => Below.refl _ _, fun j _ hj => ?_⟩
  · have e : fam (fun _ => undef) (fun j => (Array.replicate ops.size false).getD j false) 0 (ops.toList.take n) a = a := by
      have : ∀ (r : List Oper) (i : Nat), fam (fun _ => undef) (fun _ => false) i r a = a := by
        intro r
        induction r with
        | nil => intro i; rfl
        | cons o r ih => intro i; simp only [fam, Bool.false_eq_true, if_false]; exact ih _
      refine (fam_congr (vals' := fun _ => undef) (L' := fun _ => false) _ _ _ (fun j _ => ⟨?_, fun _ => rfl⟩)).trans (this _ _)
      simp only [Array.getD]; split <;> simp
    rw [e] at h
    exact h
  · intro i o hin hi L vals w' hI hL hp
    have hseen : seenR R k i w.drew w' := by
      unfold seenR
      split
      · rename_i e; subst e; exact hI.2.1 hL
      · exact hI.1
    have h1 := stepOkO_at (P := P) (ops.toList.take n) 0 i ((pre_at hin).2 hi) hs vals w' (by rw [Nat.zero_add]; exact hseen) (preOk_of _ fun e he hb => hI.2.2 _ (by have := (famOk_at hc hin hi).1 e (by simpa using he) hb; omega) (hp e (by simpa using he) hb))
    rw [Nat.zero_add] at h1
    rw [hA]
    have fin : ∀ a' w'', EndO (keptR R k i) (A vals) o.dst (Φ i) w' .normal a' w'' → ∃ v, a' = (A vals).put o.dst v ∧ (R w.drew w'' ∧ (upd L i true k = false → Under w.drew w'') ∧ (∀ j, j < n → upd L i true j = true → Φ j (upd vals i v j) w'')) := by
      rintro a' w'' ⟨_, v, e, hφ, hR⟩
      have hRR : R w' w'' := by
        unfold keptR at hR
        split at hR
        · exact hR
        · exact hr _ _ hR
      refine ⟨v, e, ht _ _ _ hI.1 hRR, fun hk => ?_, fun j hjn hj => ?_⟩
      · by_cases hik : k = i
        · subst hik; rw [upd_same] at hk; cases hk
        · rw [upd_ne _ _ hik] at hk
          unfold keptR at hR
          rw [if_neg (fun e => hik e.symm)] at hR
          exact (hI.2.1 hk).trans (hR.mono (hI.2.1 hk).size)
      · by_cases hji : j = i
        · subst hji; rw [upd_same]; exact hφ
        · rw [upd_ne _ _ hji] at hj ⊢
          by_cases hjk : j = k
          · subst hjk
            unfold keptR at hR
            rw [if_neg (fun e => hji e.symm)] at hR
            exact hΦk _ _ _ hR (hI.2.2 j hjn hj)
          · exact hΦ _ _ _ _ hjk hRR (hI.2.2 j hjn hj)
    unfold wpList at h1
    split
    · rename_i hw
      rw [if_pos hw] at h1
      rcases h1 with h1 | ⟨_, a1, w1, h1, _⟩
      · exact wp_move (P := P) (Q := fun e _ _ => e = .normal) (o := o) (a := A vals) (A := A vals) (w := w') (K := fun a' w'' => ∃ v, a' = (A vals).put o.dst v ∧ (R w.drew w'' ∧ (upd L i true k = false → Under w.drew w'') ∧ (∀ j, j < n → upd L i true j = true → Φ j (upd vals i v j) w''))) rfl rfl (fun v w'' hJ => ⟨v, rfl, hJ⟩) (fun e a w h => h.1) (Oper.wp_mono fin h1)
      · cases h1
    · rename_i hw
      rw [if_neg hw] at h1
      exact fin _ _ h1
  · intro L L' vals w' he hI
    exact ⟨hI.1, fun h => hI.2.1 (by rw [he]; exact h), fun j hjn hj => hI.2.2 j hjn (by rw [he]; exact hj)⟩
  · intro L vals w' hj hI
    rw [hA]
    exact hend vals w' hI.1 (allOk_of _ _ fun j _ h2 => hI.2.2 j (by simp at h2; omega) (hj j (by simp at h2; omega)))
  · simp only [Array.getD] at hj
    split at hj <;> simp at hj

/-- What holds of a value goes on holding while the others work. -/
def StabR (R : World → World → Prop) (φ : Value → World → Prop) : Prop := ∀ v w1 w2, R w1 w2 → φ v w1 → φ v w2
def allStabO (R : World → World → Prop) (k : Nat) : Nat → List (Value → World → Prop) → Prop
  | _, [] => True
  | i, φ :: r => StabR (keptR Under k i) φ ∧ (i ≠ k → StabR R φ) ∧ allStabO R k (i + 1) r
theorem StabR.eq {R : World → World → Prop} (x : Value) : StabR R (fun v _ => v = x) := fun _ _ _ _ h => h
theorem StabR.none {R : World → World → Prop} : StabR R (fun _ _ => True) := fun _ _ _ _ h => h
theorem allStabO_at {R : World → World → Prop} {k : Nat} : ∀ (Φs : List (Value → World → Prop)) (i : Nat), allStabO R k i Φs → ∀ j, StabR Under (Φs.getD j (fun _ _ => True)) ∧ (i + j ≠ k → StabR R (Φs.getD j (fun _ _ => True))) := by
  intro Φs
  induction Φs with
  | nil => intro i _ j; exact ⟨by simpa using StabR.none, fun _ => by simpa using StabR.none⟩
  | cons φ r ih =>
    intro i h j
    have hu : StabR Under φ := by
      have := h.1
      unfold keptR at this
      split at this <;> exact this
    cases j with
    | zero => exact ⟨by simpa using hu, fun hk => by simpa using h.2.1 hk⟩
    | succ j =>
      have := ih (i + 1) h.2.2 j
      rw [show i + 1 + j = i + (j + 1) by omega] at this
      simpa using this

theorem wp_region_one (n k : Nat) {id : Nat} {ops : Array Oper} {a : Act} {w : World} (hm : P.follows .mixedOrders = true) (hc : famOk ops n = true) (R : World → World → Prop) (hr : ∀ a b, Under a b → R a b) (ht : ∀ x y z, R x y → R y z → R x z) (Φs : List (Value → World → Prop)) {A : (Nat → Value) → Act} {pre tl : List Oper}
    (hpre : ops.toList.take n = pre) (htl : ops.toList.drop n = tl)
    (hA : ∀ vals, fam vals (fun _ => true) 0 pre a = A vals) (hΦ : allStabO R k 0 Φs)
    (hs : stepOkO R k P ops w.drew (fun i => Φs.getD i (fun _ _ => True)) A 0 pre) (hend : ∀ vals w1, R w.drew w1 → allOk (fun i => Φs.getD i (fun _ _ => True)) vals w1 0 pre → wpList P ops Q tl (A vals) w1) : (Code.region id ops true).wp P Q a w :=
  wp_region_any hm (wpAny_startO n k hc R hr ht _ hpre htl hA (fun i v w1 w2 hk h2 h3 => (allStabO_at Φs 0 hΦ i).2 (by omega) v w1 w2 h2 h3) (fun v w1 w2 h2 h3 => (allStabO_at Φs 0 hΦ k).1 v w1 w2 h2 h3) hs hend)
end

/-- One block may have turned. -/
def Chg (q : Option Nat) (w w' : World) : Prop := w.grownBy w' q
theorem Chg.of {q : Option Nat} {a b : World} (h : Under a b) : Chg q a b := ⟨h.os, h.tape, h.output, h.size, fun k hk _ => h.block k hk⟩
theorem Chg.trans {q : Option Nat} {a b c : World} (h : Chg q a b) (k : Chg q b c) : Chg q a c :=
  ⟨k.os.trans h.os, k.tape.trans h.tape, k.output.trans h.output, Nat.le_trans h.size k.size, fun i hi hq => (k.block i (Nat.lt_of_lt_of_le hi h.size) hq).trans (h.block i hi hq)⟩
end Go.Proofs.YtpmlmibceiolpaaGreatDoor

/- Nodes and diagrams in memory; the builder's map. -/
set_option linter.unusedSimpArgs false
set_option linter.unusedVariables false
namespace Go.Proofs.YtpmlmibceiolpaaGreatDoor
open Go.RowKit

def ndL (n : Nd) : List Value := [.int .i64 n.1, .int .i64 n.2.1, .int .i64 n.2.2.1, .string ⟨n.2.2.2.toArray⟩]
def ndA (n : Nd) : Value := .agg #[.int .i64 n.1, .int .i64 n.2.1, .int .i64 n.2.2.1, .string ⟨n.2.2.2.toArray⟩]
/-- The four cells of a node at a place. -/
def NdAt (w : World) (g o : Nat) (n : Nd) : Prop := w.cell? ⟨g, o, none⟩ = some (.int .i64 n.1) ∧ w.cell? ⟨g, o + 1, none⟩ = some (.int .i64 n.2.1) ∧ w.cell? ⟨g, o + 2, none⟩ = some (.int .i64 n.2.2.1) ∧ w.cell? ⟨g, o + 3, none⟩ = some (.string ⟨n.2.2.2.toArray⟩)
/-- Nodes that lie in a slice. -/
def Nds (w : World) (v : Value) (l : List Nd) : Prop := (l = [] ∧ ∃ a c, v = .slice a 0 c) ∨ ∃ g c : Nat, v = .slice (some ⟨g, 0, none⟩) l.length c ∧ l.length ≤ c ∧ c ≤ maxLen ∧ 0 < l.length ∧ ∀ i, i < l.length → NdAt w g (i * 4) (l.getD i nd0)
theorem NdAt.keep {w w' : World} {g o : Nat} {n : Nd} (h : NdAt w g o n) (hb : w'.heap[g]? = w.heap[g]?) : NdAt w' g o n := by
  obtain ⟨h0, h1, h2, h3⟩ := h
  have e : ∀ o, w'.cell? ⟨g, o, none⟩ = w.cell? ⟨g, o, none⟩ := fun o => World.cell?_of_block (w := w) hb
  exact ⟨(e _).trans h0, (e _).trans h1, (e _).trans h2, (e _).trans h3⟩
theorem NdAt.lt {w : World} {g o : Nat} {n : Nd} (h : NdAt w g o n) : g < w.heap.size := World.block_lt_of_cell? w ⟨g, o, none⟩ h.1
theorem Nds.keep {w w' : World} {v : Value} {l : List Nd} (h : Nds w v l) (hb : ∀ k, k < w.heap.size → w'.heap[k]? = w.heap[k]?) : Nds w' v l := by
  rcases h with h | ⟨g, c, rfl, h1, h2, h3, h4⟩
  · exact .inl h
  · exact .inr ⟨g, c, rfl, h1, h2, h3, fun i hi => (h4 i hi).keep (hb g (h4 i hi).lt)⟩
theorem Nds.below {w w' : World} {v : Value} {l : List Nd} (h : Nds w v l) (hb : Below w.heap.size w w') : Nds w' v l := h.keep hb.block
theorem Nds.len {w : World} {v : Value} {l : List Nd} (h : Nds w v l) : ∃ a c, v = .slice a l.length c := by
  rcases h with ⟨rfl, a, c, rfl⟩ | ⟨g, c, rfl, _⟩
  · exact ⟨a, c, rfl⟩
  · exact ⟨_, c, rfl⟩
/-- A diagram's value. -/
def Dg (w : World) (v : Value) (m : Int) (l : List Nd) : Prop := ∃ s, v = .agg #[.int .i64 m, s] ∧ Nds w s l
theorem Dg.below {w w' : World} {v : Value} {m : Int} {l : List Nd} (h : Dg w v m l) (hb : Below w.heap.size w w') : Dg w' v m l := by
  obtain ⟨s, rfl, h1⟩ := h
  exact ⟨s, rfl, h1.below hb⟩
theorem Dg.parts {w : World} {v : Value} {m : Int} {l : List Nd} (h : Dg w v m l) : ∃ a c, v = .agg #[.int .i64 m, .slice a l.length c] ∧ Nds w (.slice a l.length c) l := by
  obtain ⟨s, rfl, h1⟩ := h
  obtain ⟨a, c, rfl⟩ := h1.len
  exact ⟨a, c, rfl, h1⟩
/-- Nodes in a slice of the call's own. -/
def NdRow (w : World) (B : Nat) (v : Value) (l : List Nd) : Prop := w.ownsRow B 42 4 v l.length (l.flatMap ndL)
theorem NdRow.nil (w : World) (B : Nat) : NdRow w B (.slice none 0 0) [] := World.ownsRow_nil _ _ _ _
theorem NdRow.len {w : World} {B : Nat} {v : Value} {l : List Nd} (h : NdRow w B v l) : ∃ a, ∃ c : Nat, v = .slice a l.length c := by
  obtain ⟨hl, h⟩ := h
  rcases h with ⟨rfl, h0⟩ | ⟨g, cap, cur, rfl, _⟩
  · exact ⟨none, 0, by rw [h0]⟩
  · exact ⟨_, cap, rfl⟩
theorem ndL_at : ∀ (l : List Nd) (i : Nat), i < l.length → (l.flatMap ndL)[i * 4]? = some (.int .i64 (l.getD i nd0).1) ∧ (l.flatMap ndL)[i * 4 + 1]? = some (.int .i64 (l.getD i nd0).2.1) ∧ (l.flatMap ndL)[i * 4 + 2]? = some (.int .i64 (l.getD i nd0).2.2.1) ∧ (l.flatMap ndL)[i * 4 + 3]? = some (.string ⟨(l.getD i nd0).2.2.2.toArray⟩)
  | [], i, hi => by simp at hi
  | n :: l, 0, _ => ⟨rfl, rfl, rfl, rfl⟩
  | n :: l, i + 1, hi => by
    obtain ⟨h0, h1, h2, h3⟩ := ndL_at l i (by simpa using hi)
    have e : ∀ j, ((n :: l).flatMap ndL)[(i + 1) * 4 + j]? = (l.flatMap ndL)[i * 4 + j]? := fun j => by
      rw [show (i + 1) * 4 + j = (i * 4 + j) + 4 by omega]; rfl
    have ge : (n :: l).getD (i + 1) nd0 = l.getD i nd0 := rfl
    rw [ge]
    exact ⟨(e 0).trans h0, (e 1).trans h1, (e 2).trans h2, (e 3).trans h3⟩
theorem NdRow.nds {w : World} {B : Nat} {v : Value} {l : List Nd} (h : NdRow w B v l) : Nds w v l := by
  obtain ⟨hl, h⟩ := h
  rcases h with ⟨rfl, he⟩ | ⟨g, cap, cur, rfl, hB, hg, hn, hm, hc, ht⟩
  · have e : l = [] := List.length_eq_zero_iff.1 he
    exact .inl ⟨e, none, 0, rfl⟩
  · by_cases h0 : l.length = 0
    · exact .inl ⟨List.length_eq_zero_iff.1 h0, _, cap, by rw [h0]⟩
    · refine .inr ⟨g, cap, rfl, hn, hm, by omega, fun i hi => ?_⟩
      have hc' : ∀ j u, j < l.length * 4 → (l.flatMap ndL)[j]? = some u → w.cell? ⟨g, j, none⟩ = some u := by
        intro j u hj hu
        rw [cell_of_row w g j cur 42 (0, 0) hg]
        rw [← ht, List.getElem?_take, if_pos hj] at hu
        simpa using hu
      obtain ⟨h0, h1, h2, h3⟩ := ndL_at l i hi
      exact ⟨hc' _ _ (by omega) h0, hc' _ _ (by omega) h1, hc' _ _ (by omega) h2, hc' _ _ (by omega) h3⟩
theorem NdRow.keep {w w' : World} {B : Nat} {v : Value} {l : List Nd} (h : NdRow w B v l) (hb : ∀ g, v.ownBlock = some g → w'.heap[g]? = w.heap[g]?) : NdRow w' B v l := by
  obtain ⟨hl, h⟩ := h
  refine ⟨hl, ?_⟩
  rcases h with h | ⟨g, cap, cur, rfl, hB, hg, r⟩
  · exact .inl h
  · exact .inr ⟨g, cap, cur, rfl, hB, (hb g rfl).trans hg, r⟩
theorem NdRow.blk {w : World} {B : Nat} {v : Value} {l : List Nd} (h : NdRow w B v l) : ∀ g, v.ownBlock = some g → B ≤ g ∧ ∃ cs, Blk w g 42 cs := by
  intro g hg
  obtain ⟨_, h⟩ := h
  rcases h with ⟨rfl, _⟩ | ⟨g', cap, cur, rfl, h1, h2, _⟩
  · cases hg
  · cases hg; exact ⟨h1, cur, h2⟩

theorem NdRow.below2 {w w' : World} {B : Nat} {v : Value} {l : List Nd} (h : NdRow w B v l) (hb : Below w.heap.size w w') : NdRow w' B v l := h.keep fun g hg => by
  obtain ⟨_, cs, h1⟩ := h.blk g hg
  exact hb.block g h1.lt

/-! The map of the nodes. -/
theorem laid_out : laidOutB Tryz.prog = true := by kernel_rfl
theorem rowNd : (42 : TypeId) < Tryz.prog.types.size := of_decide_eq_true (by kernel_rfl)
theorem cellsNd : Tryz.prog.cellsOf 42 = 4 := by kernel_rfl
theorem deepNd : Tryz.prog.keyTypeAt (Tryz.prog.types.size + 1) 42 = true := by kernel_rfl
theorem wideNd : (match Tryz.prog.underlying 42 with | some (.array _ _) | some (.struct _) => true | _ => false) = true := by kernel_rfl
set_option maxRecDepth 100000 in
theorem lawNd : Go.Maps.Keyed Tryz.prog 42 := Go.Maps.Keyed.of_law (deep_law_laid laid_out (m := 3) (by omega) rowNd (by kernel_rfl) wideNd)
/-- A node whose numbers are ints. -/
def NdOk (n : Nd) : Prop := (Lit.int .i64 n.1).wf = true ∧ (Lit.int .i64 n.2.1).wf = true ∧ (Lit.int .i64 n.2.2.1).wf = true ∧ n.2.2.2.length ≤ maxLen
set_option maxRecDepth 100000 in
theorem keyNd {n : Nd} (h : NdOk n) : ∃ kl, keyOf Tryz.prog 42 (ndA n) = some kl := by
  obtain ⟨h1, h2, h3, h4⟩ := h
  obtain ⟨m, hm⟩ := Nat.exists_eq_succ_of_ne_zero (n := Tryz.prog.types.size) (Nat.ne_of_gt (Nat.lt_of_le_of_lt (Nat.zero_le _) rowNd))
  have c3 : Tryz.prog.cellsOf 3 = 1 := by kernel_rfl
  have c4 : Tryz.prog.cellsOf 40 = 1 := by kernel_rfl
  have h5 : (⟨n.2.2.2.toArray⟩ : ByteArray).size ≤ maxLen := h4
  have hk : ∃ ls, Tryz.prog.keyLits (Tryz.prog.types.size + 1) 42 (ndL n) = some ls := by
    rw [hm]
    simp [Program.keyLits, Tryz.underlying42, Tryz.underlying3, Tryz.underlying40, cellsNd, c3, c4, ndL, h1, h2, h3, h5]
  obtain ⟨ls, hls⟩ := hk
  have hf : (ndA n).formed Tryz.prog 42 = true := by
    simp [ndA, Value.formed, Tryz.underlying42, cellsNd]
  have hc : (ndA n).cells.toList = ndL n := rfl
  refine ⟨.string (keyBytes ls), ?_⟩
  unfold keyOf
  rw [Tryz.underlying42]
  simp only []
  unfold Program.keyType
  rw [deepNd, hf, hc, hls]
  rfl
/-- Block b is a map of the nodes to their indices. -/
def IdxM (w : World) (b : Nat) (l : List Nd) : Prop := ∃ es clock, w.heap[b]? = some (.map es clock) ∧ es.size = l.length ∧ (∀ i, i < l.length → ∃ born, es[i]? = some ⟨ndA (l.getD i nd0), .int .i64 (i : Int), born⟩)
theorem ndA_inj {a b : Nd} (h : ndA a = ndA b) : a = b := by
  obtain ⟨v, lo, hi, t⟩ := a
  obtain ⟨v', lo', hi', t'⟩ := b
  unfold ndA at h
  have h1 := Value.agg.inj h
  have e0 := Value.int.inj (Option.some.inj (congrArg (fun a : Array Value => a[0]?) h1))
  have e1 := Value.int.inj (Option.some.inj (congrArg (fun a : Array Value => a[1]?) h1))
  have e2 := Value.int.inj (Option.some.inj (congrArg (fun a : Array Value => a[2]?) h1))
  have e3 := Value.string.inj (Option.some.inj (congrArg (fun a : Array Value => a[3]?) h1))
  have e4 := congrArg Array.toList (congrArg ByteArray.data e3)
  exact Prod.ext e0.2 (Prod.ext e1.2 (Prod.ext e2.2 e4))
theorem IdxM.keys {w : World} {b : Nat} {l : List Nd} {es : Array MapEntry} (hs : es.size = l.length) (he : ∀ i, i < l.length → ∃ born, es[i]? = some ⟨ndA (l.getD i nd0), .int .i64 (i : Int), born⟩) (hok : ∀ x ∈ l, NdOk x) : ∀ e ∈ es.toList, ∃ kl, keyOf Tryz.prog 42 e.key = some kl := by
  intro e hm
  obtain ⟨i, hi, rfl⟩ := List.mem_iff_getElem.1 hm
  have hi' : i < l.length := by rw [Array.length_toList] at hi; omega
  obtain ⟨born, h⟩ := he i hi'
  have h2 : es.toList[i] = ⟨ndA (l.getD i nd0), .int .i64 (i : Int), born⟩ := by
    rw [Array.getElem?_eq_getElem (by rw [Array.length_toList] at hi; exact hi)] at h
    simpa using h
  rw [h2]
  exact keyNd (hok _ (mem_getD hi'))
theorem map_is : Tryz.prog.underlying 116 = some (.map 42 3) := by kernel_rfl
theorem zero_int (w : World) : (zeroValue 3).run Tryz.prog w = .ok (.int .i64 0) w := by kernel_rfl
/-- What the map answers. -/
theorem IdxM.look {w : World} {b : Nat} {l : List Nd} {n : Nd} (h : IdxM w b l) (hd : l.Nodup) (hok : ∀ x ∈ l, NdOk x) (hn : NdOk n) :
    (Instr.lookup 116 (.map (some b)) (ndA n) true).run Tryz.prog w = .ok (.tuple #[.int .i64 (if n ∈ l then ((l.idxOf n : Nat) : Int) else 0), .bool (decide (n ∈ l))]) w := by
  obtain ⟨es, clock, hb, hs, he⟩ := h
  obtain ⟨kl, hk⟩ := keyNd hn
  rcases lawNd.find w hk es.toList (IdxM.keys (w := w) (b := b) hs he hok) with ⟨h1, h2⟩ | ⟨j, e, h1, h2, h3⟩
  · have hnm : n ∉ l := by
      intro hm
      have hi := List.idxOf_lt_length_of_mem hm
      obtain ⟨born, h⟩ := he _ hi
      have hg : l.getD (l.idxOf n) nd0 = n := by
        rw [List.getD_eq_getElem?_getD, List.getElem?_eq_getElem hi]; exact List.getElem_idxOf hi
      rw [hg] at h
      exact h2 ⟨ndA n, .int .i64 ((l.idxOf n : Nat) : Int), born⟩ (Array.mem_toList_iff.2 (Array.mem_of_getElem? h)) rfl
    rw [if_neg hnm, decide_eq_false hnm]
    simp [Instr.lookup, run_underlying map_is, MapKept.run_getObj_map hb, lawNd.check w _ hk, h1, zero_int, Result.andThen]
  · have hj : j < l.length := by
      have := (List.getElem?_eq_some_iff.1 h2).1
      rw [Array.length_toList] at this; omega
    obtain ⟨born, h⟩ := he j hj
    have he2 : e = ⟨ndA (l.getD j nd0), .int .i64 (j : Int), born⟩ := by
      rw [Array.getElem?_toList, h] at h2
      exact (Option.some.inj h2).symm
    subst he2
    have hn2 := ndA_inj h3
    have hm : n ∈ l := hn2 ▸ mem_getD hj
    have hx : l.idxOf n = j := by rw [← hn2]; exact idxOf_getD hd hj
    rw [if_pos hm, decide_eq_true hm, hx]
    simp [Instr.lookup, run_underlying map_is, MapKept.run_getObj_map hb, lawNd.check w _ hk, h1, Result.andThen]
/-- A node is put into the map. -/
theorem IdxM.store {w : World} {b : Nat} {l : List Nd} {n : Nd} (h : IdxM w b l) (hok : ∀ x ∈ l, NdOk x) (hn : NdOk n) (hnm : n ∉ l) :
    ∃ w', (Instr.mapUpdate 116 (.map (some b)) (ndA n) (.int .i64 ((l.length : Nat) : Int))).run Tryz.prog w = .ok () w' ∧ IdxM w' b (l ++ [n]) ∧ w.grownBy w' (some b) := by
  obtain ⟨es, clock, hb, hs, he⟩ := h
  obtain ⟨kl, hk⟩ := keyNd hn
  rcases lawNd.find w hk es.toList (IdxM.keys (w := w) (b := b) hs he hok) with ⟨h1, h2⟩ | ⟨j, e, h1, h2, h3⟩
  · refine ⟨ChangeMaps.setBlock w b (.map (es.push ⟨ndA n, .int .i64 ((l.length : Nat) : Int), clock⟩) (clock + 1)), ?_, ⟨_, _, ChangeMaps.heap_setBlock_same hb _, by simp [hs], fun i hi => ?_⟩, ⟨rfl, rfl, rfl, by simp [ChangeMaps.setBlock], fun i _ hi => ChangeMaps.heap_setBlock_other hb _ (fun e => hi (by rw [e]))⟩⟩
    · simp [Instr.mapUpdate, run_underlying map_is, MapKept.run_getObj_map hb, lawNd.check w false hk, h1, MapKept.run_setObj_map _ hb, Result.andThen, ChangeMaps.setBlock]
    · simp only [List.length_append, List.length_singleton] at hi
      by_cases h : i < l.length
      · obtain ⟨born, g⟩ := he i h
        rw [getD_pre (List.prefix_append _ _) h]
        exact ⟨born, by rw [Array.getElem?_push, if_neg (by omega)]; exact g⟩
      · obtain rfl : i = l.length := by omega
        rw [getD_last]
        exact ⟨clock, by rw [Array.getElem?_push, if_pos hs.symm]⟩
  · exfalso
    have hj : j < l.length := by
      have := (List.getElem?_eq_some_iff.1 h2).1
      rw [Array.length_toList] at this; omega
    obtain ⟨born, h⟩ := he j hj
    have he2 : e = ⟨ndA (l.getD j nd0), .int .i64 (j : Int), born⟩ := by
      rw [Array.getElem?_toList, h] at h2
      exact (Option.some.inj h2).symm
    subst he2
    exact hnm (ndA_inj h3 ▸ mem_getD hj)
theorem IdxM.keep {w w' : World} {b : Nat} {l : List Nd} (h : IdxM w b l) (hb : w'.heap[b]? = w.heap[b]?) : IdxM w' b l := by
  obtain ⟨es, clock, h1, h2⟩ := h
  exact ⟨es, clock, hb.trans h1, h2⟩
theorem IdxM.lt {w : World} {b : Nat} {l : List Nd} (h : IdxM w b l) : b < w.heap.size := by
  obtain ⟨es, clock, h1, h2⟩ := h
  exact (Array.getElem?_eq_some_iff.1 h1).1
end Go.Proofs.YtpmlmibceiolpaaGreatDoor

/- The builder's put. -/
set_option linter.unusedSimpArgs false
set_option linter.unusedVariables false
namespace Go.Proofs.YtpmlmibceiolpaaGreatDoor
open Go.RowKit

theorem wpList_mapUpdate_run {P : Program} {w w' : World} {ops : Array Oper} {rest : List Oper} {o : Oper} {a : Act} {Q : Exit → Act → World → Prop}
    (hg : o.guard = none) (m x v : Operand) (t : TypeId) (hop : o.op = Op.mapUpdate t m x v) (hrun : (Instr.mapUpdate t (a.eval m) (a.eval x) (a.eval v)).run P w = .ok () w')
    (hK : wpList P ops Q rest (a.put o.dst undef) w') : wpList P ops Q (o :: rest) a w := by
  refine wpList_plain hg fun K' hK' => ?_
  unfold Oper.wp
  simp [execOp, hop, hrun, Result.andThen]
  exact hK' _ _ hK

/-- A builder: its nodes, its map. -/
def Bdr (W : World) (B gb mb : Nat) (m : Int) (l : List Nd) : Prop := ∃ s, Blk W gb 118 #[.int .i64 m, s, .map (some mb)] ∧ NdRow W B s l ∧ IdxM W mb l ∧ B ≤ gb ∧ B ≤ mb ∧ l.Nodup ∧ ∀ x ∈ l, NdOk x
/-- What a builder's call leaves as it was. -/
def Kept (B : Nat) (W W' : World) : Prop := Below B W W' ∧ ∀ (k : Nat) (t : TypeId) (cs : Array Value), t ≠ 42 → t ≠ 118 → Blk W k t cs → Blk W' k t cs
theorem Kept.refl (B : Nat) (W : World) : Kept B W W := ⟨Below.refl _ _, fun _ _ _ _ _ h => h⟩
theorem Kept.trans {B : Nat} {a b c : World} (h : Kept B a b) (k : Kept B b c) : Kept B a c := ⟨h.1.trans k.1, fun i t cs h1 h2 h3 => k.2 i t cs h1 h2 (h.2 i t cs h1 h2 h3)⟩
theorem Kept.below {B : Nat} {W W' : World} (h : Below W.heap.size W W') (hB : B ≤ W.heap.size) : Kept B W W' := ⟨h.mono hB, fun k t cs _ _ hb => (h.block k hb.lt).trans hb⟩
theorem Bdr.below {W W' : World} {B gb mb : Nat} {m : Int} {l : List Nd} (h : Bdr W B gb mb m l) (hb : Below W.heap.size W W') : Bdr W' B gb mb m l := by
  obtain ⟨s, h1, h2, h3, h4⟩ := h
  exact ⟨s, (hb.block gb h1.lt).trans h1, h2.below2 hb, h3.keep (hb.block mb h3.lt), h4⟩
theorem Kept.chg {B : Nat} {rb : Option Nat} {W W' : World} (hB : B ≤ W.heap.size) (hr : ∀ g, rb = some g → B ≤ g ∧ ∀ (t : TypeId) (cs : Array Value), t ≠ 42 → t ≠ 118 → ¬ Blk W g t cs) (h : Chg rb W W') : Kept B W W' := by
  refine ⟨⟨h.os, h.tape, h.output, h.size, fun k hk => ?_⟩, fun k t cs h1 h2 hb => hb.grown h (fun e => (hr k e.symm).2 t cs h1 h2 hb)⟩
  exact h.block k (by omega) (fun e => by have := (hr k e.symm).1; omega)
theorem infoNd : (Tryz.prog.info? 42).map (fun i => (i.zero, i.size, i.bytes)) = some (some (.agg #[.int .i64 0, .int .i64 0, .int .i64 0, .string ⟨#[]⟩]), 4, 40) := by kernel_rfl

/-- A slice of one node, outside a row. -/
def Sl1 (rb : Option Nat) (n : Nd) (v : Value) (w : World) : Prop := ∃ g, v = .slice (some ⟨g, 0, none⟩) 1 1 ∧ Blk w g 42 #[.int .i64 n.1, .int .i64 n.2.1, .int .i64 n.2.2.1, .string ⟨n.2.2.2.toArray⟩] ∧ some g ≠ rb
theorem Sl1.chg {rb : Option Nat} {n : Nd} : StabR (Chg rb) (Sl1 rb n) := fun v w1 w2 h ⟨g, h1, h2, h3⟩ => ⟨g, h1, h2.grown h h3, h3⟩
theorem Sl1.under {rb : Option Nat} {n : Nd} : StabR Under (Sl1 rb n) := fun v w1 w2 h hs => Sl1.chg v w1 w2 (Chg.of h) hs
/-- The row with one node more. -/
def SlN (B : Nat) (l : List Nd) (n : Nd) (v : Value) (w : World) : Prop := ∃ g cap : Nat, v = .slice (some ⟨g, 0, none⟩) (l.length + 1) cap ∧ NdRow w B v (l ++ [n])
theorem SlN.under {B : Nat} {l : List Nd} {n : Nd} : StabR Under (SlN B l n) := fun v w1 w2 h ⟨g, cap, h1, h2⟩ => ⟨g, cap, h1, h2.below2 h⟩

set_option maxHeartbeats 4000000 in
set_option maxRecDepth 100000 in
theorem put_any {W : World} {B gb mb : Nat} {m : Int} {l : List Nd} {n : Nd} (h : Bdr W B gb mb m l) (hB : B ≤ W.heap.size) (hl : l.length ≤ 1000) (hn : NdOk n) :
    Calls Tryz.prog 104 #[.pointer (some ⟨gb, 0, none⟩), ndA n] W (fun e W' => e = .returned (.int .i64 (((putN l n).2 : Nat) : Int)) ∧ Bdr W' B gb mb m (putN l n).1 ∧ Kept B W W') := by
  obtain ⟨W0, hW0, hB0, hsz, j0⟩ := entA W 42 #[.int .i64 n.1, .int .i64 n.2.1, .int .i64 n.2.2.1, .string ⟨n.2.2.2.toArray⟩]
  have HBd := Lib.hid (h.below hB0)
  have HB := Lib.hid hB
  obtain ⟨i0, hi0, hz0, hz1, hz2⟩ := info_parts infoNd
  obtain ⟨s, k1, k2, k3, h4, h5, h6, h7⟩ := h
  have h1 := k1.below hB0 k1.lt
  have h2 := k2.below2 hB0
  have h3 := k3.keep (hB0.block mb k3.lt)
  obtain ⟨a, c, rfl⟩ := h2.len
  have HNE := Lib.hid (show (Value.slice a l.length c).ownBlock ≠ some gb ∧ (Value.slice a l.length c).ownBlock ≠ some W.heap.size ∧ (Value.slice a l.length c).ownBlock ≠ some mb ∧ gb ≠ mb ∧ gb ≠ W.heap.size ∧ mb ≠ W.heap.size from by
    refine ⟨fun e => ?_, fun e => ?_, fun e => ?_, fun e => ?_, fun e => ?_, fun e => ?_⟩
    · obtain ⟨_, cs, g1⟩ := k2.blk _ e
      unfold Blk at g1 k1; rw [k1] at g1; injection g1 with g1; injection g1 with g1 g2; exact absurd g2 (by decide)
    · obtain ⟨_, cs, g1⟩ := k2.blk _ e
      have := g1.lt; omega
    · obtain ⟨_, cs, g1⟩ := k2.blk _ e
      obtain ⟨es, cl, g2, _⟩ := k3
      unfold Blk at g1; rw [g2] at g1; cases g1
    · subst e
      obtain ⟨es, cl, g2, _⟩ := k3
      unfold Blk at k1; rw [g2] at k1; cases k1
    · have := k1.lt; omega
    · have := k3.lt; omega)
  obtain ⟨RI, hRI⟩ : ∃ x : Int, x = if n ∈ l then ((l.idxOf n : Nat) : Int) else 0 := ⟨_, rfl⟩
  obtain ⟨RC, hRC⟩ : ∃ x : Bool, x = decide (n ∈ l) := ⟨_, rfl⟩
  have HLK := Lib.hid (fun (V : World) (hV : Below W0.heap.size W0 V) => show (Instr.lookup 116 (.map (some mb)) (.agg #[.int .i64 n.1, .int .i64 n.2.1, .int .i64 n.2.2.1, .string ⟨n.2.2.2.toArray⟩]) true).run Tryz.prog V = .ok (.tuple #[.int .i64 RI, .bool RC]) V from by
    rw [hRI, hRC]; exact (h3.keep (hV.block mb h3.lt)).look h6 h7 hn)
  have HST := Lib.hid (fun (V : World) (hm : IdxM V mb l) (hnm : n ∉ l) => show ∃ w', (Instr.mapUpdate 116 (.map (some mb)) (.agg #[.int .i64 n.1, .int .i64 n.2.1, .int .i64 n.2.2.1, .string ⟨n.2.2.2.toArray⟩]) (.int .i64 ((l.length : Nat) : Int))).run Tryz.prog V = .ok () w' ∧ IdxM w' mb (l ++ [n]) ∧ V.grownBy w' (some mb) from hm.store h7 hn hnm)
  have HW0 := Lib.hid hW0
  have HRI := Lib.hid hRI
  have HRC := Lib.hid hRC
  have H1 := Lib.hid h1
  have H2 := Lib.hid h2
  have H3 := Lib.hid h3
  have J0 := Lib.hid j0
  have HB0 := Lib.hid hB0
  have b1 : W0.cell? ⟨gb, 1, none⟩ = some (.slice a l.length c) := h1.cell 1
  have b2 : W0.cell? ⟨gb, 2, none⟩ = some (.map (some mb)) := h1.cell 2
  obtain ⟨x0, x1, x2, x3⟩ := j0.at4
  have hgb := h1.lt
  have hg0 : W.heap.size < W0.heap.size := j0.lt
  have HXX := Lib.hid (show ∀ (V : World), Below W0.heap.size W0 V → V.cell? ⟨gb, 1, none⟩ = some (.slice a l.length c) ∧ V.cell? ⟨gb, 2, none⟩ = some (.map (some mb)) ∧ V.cell? ⟨W.heap.size, 0, none⟩ = some (.int .i64 n.1) ∧ V.cell? ⟨W.heap.size, 1, none⟩ = some (.int .i64 n.2.1) ∧ V.cell? ⟨W.heap.size, 2, none⟩ = some (.int .i64 n.2.2.1) ∧ V.cell? ⟨W.heap.size, 3, none⟩ = some (.string ⟨n.2.2.2.toArray⟩) from
    fun V hV => ⟨keepc hV b1 hgb, keepc hV b2 hgb, keepc hV x0 hg0, keepc hV x1 hg0, keepc hV x2 hg0, keepc hV x3 hg0⟩)
  have HKP := Lib.hid (fun (V : World) (hV : Below W0.heap.size W0 V) => show Kept B W V from Kept.below (hB0.trans (hV.mono hB0.size)) hB)
  have H47 := Lib.hid (And.intro h4 (And.intro h5 (And.intro h6 h7)))
  clear hsz hRI hRC h1 h2 h3 k1 k2 k3 j0 hW0 b1 b2 x0 x1 x2 x3 hgb hg0 h4 h5 h6 h7 hB0 hB
  unfold ndA
  go_enter Tryz.func104, Tryz.ntmps104
  go_upto_region 1 with fail
  rw [← HW0.out]
  generalize hGX : W.heap.size = gx at *
  have HGX := Lib.hid hGX
  clear hGX
  have hBd : Below W0.heap.size W0 W0.drew := (Below.refl _ _).drew
  refine wp_region_list 10 (by kernel_rfl) (by kernel_rfl) [] [fun xv _ => xv = .pointer (some ⟨gb, 0, none⟩), fun xv _ => xv = .pointer (some ⟨gb, 0, none⟩), fun xv _ => xv = .pointer (some ⟨gb, 2, none⟩), fun xv _ => xv = .map (some mb), fun xv _ => xv = .agg #[.int .i64 n.1, .int .i64 n.2.1, .int .i64 n.2.2.1, .string ⟨n.2.2.2.toArray⟩], fun xv _ => xv = .tuple #[.int .i64 RI, .bool RC], fun xv _ => xv = .tuple #[.int .i64 RI, .bool RC], fun xv _ => xv = .int .i64 RI, fun xv _ => xv = .bool RC, fun xv _ => xv = .int .i64 RI] (by simp only [List.take_succ_cons, List.take_zero]; rfl) (by simp only [List.drop_succ_cons, List.drop_zero]; rfl) (fun vals => by simp only [fam, Act.put, List.setIfInBounds_toArray, List.set_cons_zero, List.set_cons_succ, if_true]; rfl) (by repeat' (first | exact Stab.eq _ _ | exact Stab.wh _ _ | exact Stab.nm _ _ | exact Stab.new _ _ | exact Stab.newn _ _ | exact Stab.tw _ _ _ | exact Stab.lm _ _ _ | exact Stab.onet _ _ _ | exact Stab.pl _ _ _ | exact Stab.dg _ _ _ | exact Stab.nds _ _ | exact Stab.qs _ _ | exact trivial | apply And.intro)) trivial ?_ ?_
  · refine ⟨?_, ?_, ?_, ?_, ?_, ?_, ?_, ?_, ?_, ?_, trivial⟩
    all_goals
      intro vals wx hB1 hp
      dsimp only
      (try simp [preOk, Region.binds, r_anygc, r_anytext] at hp)
      have hb := next_below hBd hB1
      have hlk := HLK.out wx hb
      obtain ⟨y1, y2, y3, y4, y5, y6⟩ := HXX.out wx hb
      clear hB1
    case refine_6 =>
      obtain ⟨z0, z1⟩ := hp
      go_wp2
      (first | exact ⟨rfl, _, rfl, rfl, Below.refl _ _, trivial⟩ | (refine ⟨rfl, _, ?_, rfl, Below.refl _ _, trivial⟩; simp only [Act.put, List.setIfInBounds_toArray, List.set_cons_zero, List.set_cons_succ, z0, z1]))
    case refine_10 =>
      have z0 : vals 7 = .int .i64 RI := by simp only [hp]
      clear hp
      go_wp2
      (first | exact ⟨rfl, _, rfl, rfl, Below.refl _ _, trivial⟩ | (refine ⟨rfl, _, ?_, rfl, Below.refl _ _, trivial⟩; simp only [Act.put, List.setIfInBounds_toArray, List.set_cons_zero, List.set_cons_succ, z0]))
    all_goals
      go_wp2
      (first | exact ⟨rfl, _, rfl, rfl, Below.refl _ _, trivial⟩ | (refine ⟨rfl, _, ?_, rfl, Below.refl _ _, trivial⟩; simp only [Act.put, List.setIfInBounds_toArray, List.set_cons_zero, List.set_cons_succ, hp]))
  · rintro vals wx hB1 ⟨p0, p1, p2, p3, p4, p5, p6, p7, p8, p9, _⟩ hne
    have K1 := Lib.hid (next_below hBd hB1)
    simp at p8 p9
    clear hne hB1 hBd p0 p1 p2 p3 p4 p5 p6 p7
    by_cases hm : n ∈ l
    · have e1 : RC = true := by rw [HRC.out, decide_eq_true hm]
      have e2 : RI = ((l.idxOf n : Nat) : Int) := by rw [HRI.out, if_pos hm]
      have HM := Lib.hid (show putN l n = (l, l.idxOf n) by unfold putN; rw [if_pos hm])
      clear hm
      subst e1 e2
      go_wp2
      go_ret
      rw [HM.out]
      exact ⟨rfl, HBd.out.below K1.out, HKP.out _ K1.out⟩
    · have e1 : RC = false := by rw [HRC.out, decide_eq_false hm]
      have HM := Lib.hid (show putN l n = (l ++ [n], l.length) by unfold putN; rw [if_neg hm, List.idxOf_eq_length hm])
      have HNM := Lib.hid hm
      clear hm
      subst e1
      obtain ⟨z1, z2, z3, z4, z5, z6⟩ := HXX.out wx K1.out
      go_upto_region 4 with fail
      have HOWN := H2.out.below2 K1.out
      have lgb : gb < wx.heap.size := Nat.lt_of_lt_of_le H1.out.lt K1.out.size
      have lgx : gx < wx.heap.size := Nat.lt_of_lt_of_le J0.out.lt K1.out.size
      have HBW : B ≤ wx.heap.size := by have := HB.out; omega
      unfold NdRow at HOWN
      have ag := HNE.out.1
      have zf : wx.frozen? ⟨gb, 1, none⟩ = false := (H1.out.next K1.out).frozen 1
      have zf2 : (wx.alloc (.cells #[.int .i64 n.1, .int .i64 n.2.1, .int .i64 n.2.2.1, .string ⟨n.2.2.2.toArray⟩] 42)).drew.frozen? ⟨gb, 1, none⟩ = false := (frozen?_alloc_cells wx _ _ _).trans zf
      have ax := HNE.out.2.1
      have hcw : Chg (Value.slice a l.length c).ownBlock wx wx.drew := Chg.of ((Below.refl _ _).drew)
      have hrb : ∀ g, (Value.slice a l.length c).ownBlock = some g → g < wx.heap.size := fun g hg => by
        obtain ⟨_, cs, h⟩ := NdRow.blk (show NdRow wx B (.slice a l.length c) l from HOWN) g hg
        exact h.lt
      generalize hRBv : (Value.slice a l.length c).ownBlock = rb at *
      have HRBv := Lib.hid hRBv
      clear hRBv zf2
      refine wp_region_one 9 8 (by kernel_rfl) (by kernel_rfl) (Chg rb) (fun _ _ h => Chg.of h) (fun _ _ _ h k => h.trans k) [fun xv _ => xv = .pointer (some ⟨gb, 0, none⟩), fun xv _ => xv = .pointer (some ⟨gb, 0, none⟩), fun xv _ => xv = .pointer (some ⟨gb, 0, none⟩), fun xv _ => xv = .pointer (some ⟨gb, 0, none⟩), fun xv _ => xv = .pointer (some ⟨gb, 1, none⟩), fun xv _ => xv = .slice a l.length c, fun xv _ => xv = .agg #[.int .i64 n.1, .int .i64 n.2.1, .int .i64 n.2.2.1, .string ⟨n.2.2.2.toArray⟩], Sl1 rb n, SlN B l n] (by simp only [List.take_succ_cons, List.take_zero]; rfl) (by simp only [List.drop_succ_cons, List.drop_zero]; rfl) (fun vals => by simp only [fam, Act.put, List.setIfInBounds_toArray, List.set_cons_zero, List.set_cons_succ, if_true]; rfl) ?_ ?_ ?_
      · refine ⟨?_, ?_, ?_, ?_, ?_, ?_, ?_, ?_, ?_, ?_, ?_, ?_, ?_, ?_, ?_, ?_, ?_, ?_, trivial⟩
        all_goals first | exact StabR.eq _ | exact fun _ => StabR.eq _ | exact Sl1.under | exact fun _ => Sl1.chg | exact SlN.under | exact fun h => absurd rfl h
      · refine ⟨?_, ?_, ?_, ?_, ?_, ?_, ?_, ?_, ?_, trivial⟩
        all_goals
          intro vals wy hB1 hp
          dsimp only
          (try simp [preOk, Region.binds, r_anygc, r_anytext] at hp)
        case refine_9 =>
          have hu : Below wx.heap.size wx wy := ((Below.refl _ _).drew).trans hB1
          obtain ⟨q5, g7, q7, q8, q9⟩ := hp
          have hro := NdRow.below2 (show NdRow wx B (.slice a l.length c) l from HOWN) hu
          refine wpList_append_lies _ rfl (.tmp 29) (.tmp 31) 29 rfl B 42 i0 _ 4 40 Tryz.underlying29 hi0 hz0 hz1 hz2 rfl (by decide) (.slice a l.length c) l.length (l.flatMap ndL) q5 hro ⟨g7, 0, none⟩ 1 1 [.int .i64 n.1, .int .i64 n.2.1, .int .i64 n.2.2.1, .string ⟨n.2.2.2.toArray⟩] q7 rfl (World.news_of_block q8) (by simp [Value.oneCell']) (by omega) (by unfold maxLen; omega) (by omega) (by have := hu.size; omega) _ rfl ?_
          intro g cap w1 hown1 hgrow hat hlt
          rw [HRBv.out] at hgrow
          refine ⟨rfl, _, rfl, ⟨g, cap, rfl, ?_⟩, hgrow⟩
          unfold NdRow
          rw [List.length_append, List.flatMap_append]
          exact hown1
        all_goals
          have hc : Chg rb wx wy := hcw.trans hB1
          have y1 := World.grownBy.cell hc z1 (Ne.symm ag)
          have y3 := World.grownBy.cell hc z3 (Ne.symm ax)
          have y4 := World.grownBy.cell hc z4 (Ne.symm ax)
          have y5 := World.grownBy.cell hc z5 (Ne.symm ax)
          have y6 := World.grownBy.cell hc z6 (Ne.symm ax)
          have hsz := hc.size
          clear z1 z2 z3 z4 z5 z6 zf hB1
        case refine_8 =>
          go_wp2
          exact ⟨rfl, _, rfl, ⟨_, rfl, Blk.new _ _ _, fun e => by have := hrb _ e.symm; omega⟩, (Below.refl _ _).alloc (Nat.le_refl _) _⟩
        all_goals
          go_wp2
          (first | exact ⟨rfl, _, rfl, rfl, Below.refl _ _⟩ | (refine ⟨rfl, _, ?_, rfl, Below.refl _ _⟩; simp only [Act.put, List.setIfInBounds_toArray, List.set_cons_zero, List.set_cons_succ, hp]))
      · rintro vals w1 hB1 ⟨p0, p1, p2, p3, p4, p5, p6, p7, p8, _⟩
        simp only [List.getD_cons_zero, List.getD_cons_succ] at p0 p8
        obtain ⟨g, cap, e8, hrow⟩ := p8
        have hc : Chg rb wx w1 := hcw.trans hB1
        have y1 := World.grownBy.cell hc z1 (Ne.symm ag)
        have yf : w1.frozen? ⟨gb, 1, none⟩ = false := by rw [World.grownBy.frozen_far hc _ lgb (Ne.symm ag)]; exact zf
        have k1 := (H1.out.next K1.out).grown hc (Ne.symm ag)
        have k2 := (J0.out.next K1.out).grown hc (Ne.symm ax)
        have k3 := (H3.out.keep (K1.out.block mb H3.out.lt)).keep (hc.block mb (Nat.lt_of_lt_of_le H3.out.lt K1.out.size) (Ne.symm HNE.out.2.2.1))
        have KC := Lib.hid (show Kept B W w1 from (HKP.out _ K1.out).trans (Kept.chg HBW (fun g hg => by
          rw [← HRBv.out] at hg
          obtain ⟨h1, cs, h2⟩ := NdRow.blk (show NdRow wx B (.slice a l.length c) l from HOWN) g hg
          refine ⟨h1, fun t cs' ht _ hb => ?_⟩
          unfold Blk at h2 hb; rw [h2] at hb; injection hb with hb; injection hb with h3 h4; exact ht h4.symm) hc))
        rw [e8] at hrow
        have hgg := (NdRow.blk hrow g rfl)
        obtain ⟨hBg, csg, hgb⟩ := hgg
        have hggb : g ≠ gb := by
          rintro rfl
          unfold Blk at hgb k1; rw [k1] at hgb; injection hgb with hgb; injection hgb with h3 h4; exact absurd h4 (by decide)
        obtain ⟨W2, hW2⟩ : ∃ W2, W2 = w1.setCell ⟨gb, 1, none⟩ (.slice (some ⟨g, 0, none⟩) (l.length + 1) cap) := ⟨_, rfl⟩
        have f1 : Blk W2 gb 118 #[.int .i64 m, .slice (some ⟨g, 0, none⟩) (l.length + 1) cap, .map (some mb)] := by rw [hW2]; exact k1.set_ 1 _
        have f2 : Blk W2 gx 42 #[.int .i64 n.1, .int .i64 n.2.1, .int .i64 n.2.2.1, .string ⟨n.2.2.2.toArray⟩] := by rw [hW2]; exact k2.far (p := ⟨gb, 1, none⟩) (Ne.symm HNE.out.2.2.2.2.1) _
        have f3 : IdxM W2 mb l := by rw [hW2]; exact k3.keep (Below.heap_setCell _ _ _ _ (Ne.symm HNE.out.2.2.2.1))
        have f4 : NdRow W2 B (.slice (some ⟨g, 0, none⟩) (l.length + 1) cap) (l ++ [n]) := by
          rw [hW2]; exact hrow.keep fun g' hg' => by
            cases hg'; exact Below.heap_setCell _ _ _ _ hggb
        have F5 := Lib.hid (show Kept B W W2 from KC.out.trans (by
          rw [hW2]
          refine ⟨(Below.refl _ _).setCell H47.out.1 _, fun k t cs _ ht hb => hb.far (p := ⟨gb, 1, none⟩) (fun e => ?_) _⟩
          simp only at e; subst e
          unfold Blk at hb k1; rw [k1] at hb; injection hb with hb; injection hb with h3 h4; exact ht h4.symm))
        have HW2 := Lib.hid hW2
        have F1 := Lib.hid f1
        have F2 := Lib.hid f2
        have F3 := Lib.hid f3
        have F4 := Lib.hid f4
        have b2 : W2.cell? ⟨gb, 2, none⟩ = some (.map (some mb)) := f1.cell 2
        obtain ⟨x0, x1, x2, x3⟩ := f2.at4
        have hl1 := f1.lt
        have hl2 := f2.lt
        clear hW2 f1 f2 f3 f4 k1 k2 k3 hrow hgb hggb hB1 p1 p2 p3 p4 p5 p6 p7 z1 z2 z3 z4 z5 z6 zf hc hcw hrb HOWN
        go_upto_region 5 with fail
        rw [← HW2.out]
        clear y1 yf e8 p0 HW2
        have hBd : Below W2.heap.size W2 W2.drew := (Below.refl _ _).drew
        refine wp_region_list 6 (by kernel_rfl) (by kernel_rfl) [] [fun xv _ => xv = .pointer (some ⟨gb, 0, none⟩), fun xv _ => xv = .pointer (some ⟨gb, 0, none⟩), fun xv _ => xv = .pointer (some ⟨gb, 2, none⟩), fun xv _ => xv = .map (some mb), fun xv _ => xv = .agg #[.int .i64 n.1, .int .i64 n.2.1, .int .i64 n.2.2.1, .string ⟨n.2.2.2.toArray⟩], fun xv _ => xv = .int .i64 ((l.length : Nat) : Int)] (by simp only [List.take_succ_cons, List.take_zero]; rfl) (by simp only [List.drop_succ_cons, List.drop_zero]; rfl) (fun vals => by simp only [fam, Act.put, List.setIfInBounds_toArray, List.set_cons_zero, List.set_cons_succ, if_true]; rfl) (by repeat' (first | exact Stab.eq _ _ | exact Stab.wh _ _ | exact Stab.nm _ _ | exact Stab.new _ _ | exact Stab.newn _ _ | exact Stab.tw _ _ _ | exact Stab.lm _ _ _ | exact Stab.onet _ _ _ | exact Stab.pl _ _ _ | exact Stab.dg _ _ _ | exact Stab.nds _ _ | exact Stab.qs _ _ | exact trivial | apply And.intro)) trivial ?_ ?_
        · refine ⟨?_, ?_, ?_, ?_, ?_, ?_, trivial⟩
          all_goals
            intro vals wy hB1 hp
            dsimp only
            (try simp [preOk, Region.binds, r_anygc, r_anytext] at hp)
            have hb := next_below hBd hB1
            have y2 := keepc hb b2 hl1
            have y3 := keepc hb x0 hl2
            have y4 := keepc hb x1 hl2
            have y5 := keepc hb x2 hl2
            have y6 := keepc hb x3 hl2
            clear hB1 b2 x0 x1 x2 x3
            go_wp2
            (first | exact ⟨rfl, _, rfl, rfl, Below.refl _ _, trivial⟩ | (refine ⟨rfl, _, ?_, rfl, Below.refl _ _, trivial⟩; simp only [Act.put, List.setIfInBounds_toArray, List.set_cons_zero, List.set_cons_succ, hp]))
        · rintro vals w3 hB1 ⟨p0, p1, p2, p3, p4, p5, _⟩ hne
          have hb := next_below hBd hB1
          simp only [List.getD_cons_zero, List.getD_cons_succ] at p3 p4 p5
          have f3 := F3.out.keep (hb.block mb F3.out.lt)
          obtain ⟨w4, hrun, hi4, hg4⟩ := HST.out w3 f3 HNM.out
          refine wpList_mapUpdate_run rfl (.tmp 39) (.tmp 40) (.tmp 41) 116 rfl (w' := w4) (by
            show (Instr.mapUpdate 116 (vals 3) (vals 4) (vals 5)).run Tryz.prog w3 = _
            rw [p3, p4, p5]; exact hrun) ?_
          have hgm : g ≠ mb := by
            rintro rfl
            obtain ⟨_, cs, h⟩ := NdRow.blk F4.out g rfl
            obtain ⟨es, cl, h2, _⟩ := F3.out
            unfold Blk at h; rw [h2] at h; cases h
          have R1 := Lib.hid (show Bdr w4 B gb mb m (l ++ [n]) from ⟨_, (F1.out.next hb).grown hg4 (by simpa using HNE.out.2.2.2.1), (F4.out.below2 hb).keep (fun g' hg' => by
              cases hg'
              exact hg4.block g (by obtain ⟨_, cs, h⟩ := NdRow.blk (F4.out.below2 hb) g rfl; exact h.lt) (by simpa using hgm)), hi4, H47.out.1, H47.out.2.1,
              by refine List.nodup_append.2 ⟨H47.out.2.2.1, by simp, fun x hx y hy => ?_⟩; rw [List.mem_singleton] at hy; subst hy; exact fun e => HNM.out (e ▸ hx),
              fun x hx => by rcases List.mem_append.1 hx with h | h; exact H47.out.2.2.2 x h; rw [List.mem_singleton] at h; rw [h]; exact hn⟩)
          have R2 := Lib.hid (show Kept B W w4 from (F5.out.trans (Kept.below hb (Nat.le_trans (Nat.le_of_lt (Nat.lt_of_le_of_lt H47.out.1 hl1)) (Nat.le_refl _)))).trans (Kept.chg (Nat.le_trans (Nat.le_trans H47.out.1 (Nat.le_of_lt hl1)) hb.size) (fun g hg => by
            cases hg
            refine ⟨H47.out.2.1, fun t cs _ _ hb2 => ?_⟩
            obtain ⟨es, cl, h2, _⟩ := f3
            unfold Blk at hb2; rw [h2] at hb2; cases hb2) hg4))
          clear hrun hi4 hg4 f3 hb hB1 hBd p0 p1 p2 p3 p4 p5 hne hgm b2 x0 x1 x2 x3
          go_wp2
          go_ret
          rw [HM.out]
          exact ⟨rfl, R1.out, R2.out⟩
end Go.Proofs.YtpmlmibceiolpaaGreatDoor
