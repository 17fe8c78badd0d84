/- What serves the cards of every statement of the seat: the join, Good out of the listed variables, the witness. -/
import Derived.Test.YtpmlmibceiolpaaGreatDoorText
import Derived.Test.YtpmlmibceiolpaaGreatDoorRows
import Derived.Test.YtpmlmibceiolpaaGreatDoorCards
import Derived.Test.YtpmlmibceiolpaaGreatDoorTie
import Derived.ProofKit
import Derived.HandedShaped
import Derived.LaidLaws
import Derived.LaidHandle
import Derived.Stop.Joined
import Derived.Stop.LaidErr
import Derived.Shelf.Vars
import Derived.SevenTiedAt
import Derived.Lib.SmallJoins
set_option linter.unusedSimpArgs false
set_option linter.unusedVariables false
namespace Go.Proofs.YtpmlmibceiolpaaGreatDoor
open Go.ChangeShapes Go.WideShapes Go.ChangeAt Go.RowKit

theorem handed_laid {H : Type} {enc : TypeId × Value → H} {a : Assume} {C : Checked} {os : Os} {f : FuncId} {fn : Func} {s : ChangeSpec} {conds : List PathCond} {apart fresh handsOn again : Bool} {X : World → Array Value → Prop}
    (hX : ∀ (w w' : World) (args : Array Value), w.heap = w'.heap → X w args → X w' args)
    (own : ownKnob C.prog.godebug = none) (started : os.Started) (noInit : C.prog.inits.idxOf? f = none) (hfn : C.prog.funcs[f]? = some fn)
    (witness : ∃ (w : World) (tape : Tape) (i : Input), w.os = os ∧ (w.forCall tape i).Shaped C.prog ∧ i.vars = [] ∧ Input.okWide C.prog (w.forCall tape i) .any w.heap.size f i ∧
      ((s.pre enc C.prog fn conds apart (w.forCall tape i).memory i.args ∧ X (w.forCall tape i).memory i.args) ∧ sizedMet enc C.prog fn (OpenSpec.ofChange s) apart (w.forCall tape i).memory i.args) ∧ a.holds C.prog (lone (Frame.enter C.prog f i.args .normal) [] (w.forCall tape i)))
    (contract : ∀ (W : World) (base : Nat) (args : Array Value) (ds gs : List (DataW H)) (before : List MemPlace),
      (∀ (j : Nat) t v, fn.params[j]? = some t → args[j]? = some v → Value.okWide C.prog W .any base t v) →
      DataW.Whole enc C.prog fn.params.toList s.vars apart W args.toList ds gs before →
      conds.all (PathCond.test C.prog ⟨fn.params.toList, ds, s.plain.varTypes C.prog, gs⟩) = true →
      X W args → W.ShapedOpen C.prog →
      Calls C.prog f args W fun e W' => ∃ v, e = .returned v ∧ s.post enc C.prog fn apart fresh handsOn again W args v W') :
    ReturnsInHanded a C os f .any (fun w args => (s.pre enc C.prog fn conds apart w args ∧ X w args) ∧ sizedMet enc C.prog fn (OpenSpec.ofChange s) apart w args) (s.post enc C.prog fn apart fresh handsOn again) := by
  refine returnsInHanded_of_calls own started noInit witness ?_
  intro w tape i _ hsh _ hok hpre hholds
  obtain ⟨_, _, _, fn', hfn', _, _, _, _, hval⟩ := hok
  have e : fn' = fn := Option.some.inj (hfn'.symm.trans hfn)
  subst e
  obtain ⟨⟨⟨ds, gs, before, hw, hc⟩, hx⟩, hz⟩ := hpre
  have hw' := DataW.Whole.of_heap (w' := w.forCall tape i) (by rfl) hw
  refine (contract (w.forCall tape i) w.heap.size i.args ds gs before hval hw' hc (hX _ _ _ (by rfl) hx) hsh).mono fun e W' ⟨v, he, hp⟩ => ?_
  subst he
  exact ChangeSpec.post_blind hp

theorem own_none : ownKnob Tryz.prog.godebug = none := by kernel_rfl

/-- What the rows of this seat list. -/
def laidAll : List (String × DataW Unit) := Rows.diagramCanonRow.laid

theorem good_of {W : World} (h : laidMetH Tryz.prog laidAll W) (hs : W.ShapedOpen Tryz.prog) : Good W := by
  have h' : laidMet Tryz.prog laidAll W := h
  have h3 : laidMet Tryz.prog (("internal/strconv.uint64pow10", Lib.tabData .u64 Lib.pow10Tab) :: [("strconv.ErrRange", Rows.laid_strconv_ErrRange), ("strconv.ErrSyntax", Rows.laid_strconv_ErrSyntax)]) W := (laidMet.tail (laidMet.tail h'))
  refine ⟨Lib.tabIs_of_head named_pow10 (t := 214) (by kernel_rfl) Tryz.underlying214 Tryz.underlying57 (by kernel_rfl) (by kernel_rfl) h3, ?_⟩
  exact Go.Proofs.cell_of_shapedOpen_int (zero := #[.int .i64 0]) (t := 3) hs (of_decide_eq_true (by kernel_rfl)) (by kernel_rfl) rfl (by kernel_rfl) (by kernel_rfl) Tryz.underlying3

/-- How many blocks a world without input has. -/
noncomputable def lowEnd : Nat := (World.holding Tryz.prog default ⟨#[], #[], []⟩).heap.size
def row8 (zs : List Int) : Array Value := (zs.map fun z => Value.int .u8 z).toArray
def lay (cs : Array Value) : Obj → Obj
  | .cells _ t f => .cells cs t f
  | o => o
/-- One start that fits: the variables as their initialisers lay them. -/
noncomputable def laidWorld (os : Os) : World :=
  let w0 := World.holding Tryz.prog os ⟨#[.cells #[.string { data := #[105, 110, 118, 97, 108, 105, 100, 32, 115, 121, 110, 116, 97, 120] }] 212, .cells #[.string { data := #[118, 97, 108, 117, 101, 32, 111, 117, 116, 32, 111, 102, 32, 114, 97, 110, 103, 101] }] 212], #[], []⟩
  { w0 with heap := ((((w0.heap.modify 3 (lay (Lib.pow10Tab.map fun z => Value.int .u64 z).toArray)).modify 1 (lay #[.iface 210 (.pointer (some ⟨lowEnd, 0, none⟩))])).modify 2 (lay #[.iface 210 (.pointer (some ⟨lowEnd + 1, 0, none⟩))])).modify 4 (lay (row8 [0, 1, 28, 2, 29, 14, 24, 3, 30, 22, 20, 15, 25, 17, 4, 8, 31, 27, 13, 23, 21, 19, 16, 7, 26, 12, 18, 6, 11, 5, 10, 9]))).modify 5 (lay (row8 [0, 1, 56, 2, 57, 49, 28, 3, 61, 58, 42, 50, 38, 29, 17, 4, 62, 47, 59, 36, 45, 43, 51, 22, 53, 39, 33, 30, 24, 18, 12, 5, 63, 55, 48, 27, 60, 41, 37, 16, 46, 35, 44, 21, 52, 32, 23, 11, 54, 26, 40, 15, 34, 20, 31, 10, 25, 14, 19, 9, 13, 8, 7, 6])) }

theorem laidWorld_met (os : Os) (args : Array Value) : laidMetH Tryz.prog laidAll ((laidWorld os).forCall (fun _ _ => 0) ⟨#[], args, []⟩).memory := by
  have h : laidMet Tryz.prog laidAll ((laidWorld os).forCall (fun _ _ => 0) ⟨#[], args, []⟩).memory := laidMet_of_run' 8 (by kernel_rfl) (by kernel_rfl)
  exact h

theorem laidWorld_shaped (os : Os) (args : Array Value) : ((laidWorld os).forCall (fun _ _ => 0) ⟨#[], args, []⟩).Shaped Tryz.prog := World.shaped_of_RefB (by kernel_rfl) (by kernel_rfl)

end Go.Proofs.YtpmlmibceiolpaaGreatDoor

/- A struct of small integers that comes in by value: opened, and shut again. No program in sight. -/
set_option linter.unusedSimpArgs false
set_option linter.unusedVariables false
namespace Go.Proofs.YtpmlmibceiolpaaGreatDoor
open Go.ChangeShapes Go.WideShapes Go.RowKit Go.Joins Go.Deep

/-- Are all fields integers of one kind? -/
def allKind (P : Program) (k : IntKind) (fs : Array Field) : Bool := fs.all fun f => match P.underlying f.type with
  | some (.int q) => q == k
  | _ => false

theorem allKind_at {P : Program} {k : IntKind} {fs : Array Field} (h : allKind P k fs = true) {j : Nat} {f : Field} (hj : fs[j]? = some f) : P.underlying f.type = some (.int k) := by
  obtain ⟨hlt, rfl⟩ := Array.getElem?_eq_some_iff.1 hj
  have h1 := Array.all_eq_true.1 h j hlt
  split at h1
  · rename_i q hq
    rw [hq, beq_iff_eq.1 h1]
  · exact absurd h1 (by decide)

theorem mapM_of {α β : Type} {g : α → Option β} : ∀ (l : List α) (xs : List β), l.length = xs.length → (∀ (i : Nat) (a : α), l[i]? = some a → g a = xs[i]?) → l.mapM g = some xs
  | [], [], _, _ => rfl
  | [], _ :: _, h, _ => by simp at h
  | _ :: _, [], h, _ => by simp at h
  | a :: l, x :: xs, h, hg => by
    have h1 : g a = some x := by simpa using hg 0 a rfl
    have h2 := mapM_of l xs (by simpa using h) (fun i b hi => by simpa using hg (i + 1) b (by simpa using hi))
    rw [List.mapM_cons, h1, h2]
    rfl

section
variable {H : Type} {enc : TypeId × Value → H} {P : Program} {w : World} {base : Nat} {spare : Nat → Bool} {held : Bool}
theorem open_small {r : Reach} {b0 : Nat} {t : TypeId} {fs : Array Field} {k : IntKind} {v : Value} {d : DataW H} {p : List MemPlace} (hs : P.underlying t = some (.struct fs)) (hone : oneCellFields P fs = true) (hC : P.cellsOf t = fs.size) (hk : allKind P k fs = true)
    (hv : Value.okWide P w r b0 t v) (h : DataW.Trod enc P w base spare held t v d p) :
    ∃ zs : List Int, zs.length = fs.size ∧ v = .agg (zs.map (Value.int k)).toArray ∧ d = .agg (zs.map fun z => .lit (.int k z)) ∧ p = [] ∧ ∀ z ∈ zs, (Lit.int k z).wf = true := by
  obtain ⟨cs, rfl, hsz⟩ := okWide_struct hs hv
  obtain ⟨fuel, hf⟩ := h
  obtain ⟨xs, n, _, hx, hl, hlen, hg⟩ := DataW.trod_struct hs hf
  have hcs : (Value.cells (.agg cs)).toList = cs.toList := by simp [Value.cells]
  have key : ∀ j, j < fs.size → ∃ z, cs[j]? = some (.int k z) ∧ xs[j]? = some (.lit (.int k z), []) ∧ (Lit.int k z).wf = true := by
    intro j hj
    have hfj : fs[j]? = some fs[j] := Array.getElem?_eq_getElem hj
    obtain ⟨ho, hk1⟩ := hone_of hone j _ hfj
    have h1 := hg j _ hfj
    rw [ho, hk1, hcs] at h1
    have h2 : xs[j]? = some (xs[j]'(by omega)) := List.getElem?_eq_getElem (by omega)
    rw [h2] at h1
    obtain ⟨z, e1, e2, e3⟩ := DataW.trod_int (allKind_at hk hfj) h1
    refine ⟨z, ?_, by rw [h2, e2], e3⟩
    have h3 := congrArg (fun l : List Value => l[0]?) e1
    simpa using h3
  have hz : ∀ j, j < fs.size → cs[j]? = some (.int k (intOf (cs.getD j undef))) ∧ xs[j]? = some (.lit (.int k (intOf (cs.getD j undef))), []) ∧ (Lit.int k (intOf (cs.getD j undef))).wf = true := by
    intro j hj
    obtain ⟨z, h1, h2, h3⟩ := key j hj
    have e : intOf (cs.getD j undef) = z := by
      rw [Array.getD_eq_getD_getElem?, h1]; rfl
    rw [e]
    exact ⟨h1, h2, h3⟩
  have hcz : cs.size = fs.size := hsz.trans hC
  refine ⟨(List.range fs.size).map fun j => intOf (cs.getD j undef), by simp, ?_, ?_, ?_, ?_⟩
  · congr 1
    apply Array.ext'
    apply List.ext_getElem?
    intro j
    rcases Nat.lt_or_ge j fs.size with hj | hj
    · have h1 := (hz j hj).1
      simp only [List.toList_toArray, List.getElem?_map, Array.getElem?_toList, List.getElem?_range hj, Option.map_some]
      exact h1
    · rw [List.getElem?_eq_none (by simp; omega), List.getElem?_eq_none (by simp; omega)]
  · have h0 := congrArg Prod.fst hx
    simp only at h0
    rw [h0]
    congr 1
    apply List.ext_getElem?
    intro j
    rcases Nat.lt_or_ge j fs.size with hj | hj
    · have h1 := (hz j hj).2.1
      simp only [List.getElem?_map, List.getElem?_range hj, Option.map_some, h1]
    · rw [List.getElem?_eq_none (by simp; omega), List.getElem?_eq_none (by simp; omega)]
  · have h0 := congrArg Prod.snd hx
    simp only at h0
    rw [h0]
    apply List.flatMap_eq_nil_iff.2
    intro x hxm
    obtain ⟨j, hj, e⟩ := List.getElem_of_mem hxm
    have h1 := (hz j (by omega)).2.1
    rw [List.getElem?_eq_getElem hj, e] at h1
    rw [Option.some.inj h1]
  · intro z hzm
    obtain ⟨j, hj, rfl⟩ := List.mem_map.1 hzm
    exact (hz j (List.mem_range.1 hj)).2.2

theorem shut_small {t : TypeId} {fs : Array Field} {k : IntKind} (hs : P.underlying t = some (.struct fs)) (hone : oneCellFields P fs = true) (hC : P.cellsOf t = fs.size) (hk : allKind P k fs = true)
    {zs : List Int} (hl : zs.length = fs.size) (hw : ∀ z ∈ zs, (Lit.int k z).wf = true) :
    DataW.Trod enc P w base spare held t (.agg (zs.map (Value.int k)).toArray) (.agg (zs.map fun z => .lit (.int k z))) [] := by
  refine ⟨2, ?_⟩
  have hcs : (Value.cells (.agg (zs.map (Value.int k)).toArray)).toList = zs.map (Value.int k) := by simp [Value.cells]
  rw [hcs]
  have h := trod_struct_mk (enc := enc) (w := w) (base := base) (spare := spare) (held := held) (n := 1) (cs := zs.map (Value.int k)) (xs := zs.map fun z => (.lit (.int k z), [])) hs (by simp [hC, hl]) (mapM_of _ _ (by simp [hl]) (fun i f hi => by
    rw [Array.getElem?_toList] at hi
    obtain ⟨ho, hk1⟩ := hone_of hone i f hi
    have hlt : i < zs.length := by rw [hl]; exact (Array.getElem?_eq_some_iff.1 hi).1
    have e1 : ((zs.map (Value.int k)).drop i).take 1 = [.int k zs[i]] := by
      rw [List.drop_eq_getElem_cons (by simpa using hlt)]
      simp
    rw [ho, hk1, e1, trod_int_mk 0 (allKind_at hk hi) (hw _ (List.getElem_mem _))]
    simp [hlt]))
  rw [h]
  congr 2
  · rw [List.map_map]; rfl
  · apply List.flatMap_eq_nil_iff.2
    intro x hx
    obtain ⟨z, _, rfl⟩ := List.mem_map.1 hx
    rfl
end

theorem list5 {α : Type} {l : List α} (h : l.length = 5) : ∃ a b c d e, l = [a, b, c, d, e] := by
  match l, h with
  | [a, b, c, d, e], _ => exact ⟨a, b, c, d, e, rfl⟩
end Go.Proofs.YtpmlmibceiolpaaGreatDoor
