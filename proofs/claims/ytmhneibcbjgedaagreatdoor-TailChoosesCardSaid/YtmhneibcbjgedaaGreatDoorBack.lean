/- slices.Backward over limbs: the iterator's contract. -/
import Derived.Test.YtmhneibcbjgedaaGreatDoorRep
import Derived.RangeFuncNested
import Derived.RangeFuncBound
import Derived.RangeFuncCalls
import Derived.RangeFuncLeaves
import Derived.RangeFuncBox
import Derived.Shelf.Abstract
import Derived.Shelf.RegionOpen
import Derived.OwnWalkIn
import Derived.TacticsInMore
import Derived.LoopNIn
import Derived.LoopIn
set_option linter.unusedSimpArgs false
set_option linter.unusedVariables false
namespace Go.Proofs.YtmhneibcbjgedaaGreatDoor
open Go.RowKit Go.Shelf
attribute [local go_sem] Oper.semAt_some

/-- What has come when k rounds are over: the last k indexes, the last first. -/
def back (l : List Nat) (k : Nat) : List Nat := (List.range k).map fun j => l.length - 1 - j
theorem back_succ (l : List Nat) (k : Nat) : back l (k + 1) = back l k ++ [l.length - 1 - k] := by simp [back, List.range_succ]
theorem back_length (l : List Nat) (k : Nat) : (back l k).length = k := by simp [back]

/-- The values of a round: an index and its limb (an index beyond the end, which never comes, is read as another one). -/
def encB (l : List Nat) (x : Nat) : Array Value := #[.int .i64 ((x % l.length : Nat) : Int), .int .u32 ((l.getD (x % l.length) 0 : Nat) : Int)]

/-- What a round keeps: whatever lay below n₀, and one block more. -/
def Keep (n₀ B : Nat) (W W' : World) : Prop := Below n₀ W W' ∧ W'.heap[B]? = W.heap[B]?
theorem Keep.refl (n₀ B : Nat) (W : World) : Keep n₀ B W W := ⟨Below.refl _ _, rfl⟩
theorem Keep.trans {n₀ B : Nat} {a b c : World} (h : Keep n₀ B a b) (k : Keep n₀ B b c) : Keep n₀ B a c := ⟨h.1.trans k.1, k.2.trans h.2⟩
theorem Keep.turn {n₀ B : Nat} {w : World} (hn : n₀ ≤ w.heap.size) (hB : B < w.heap.size) (W : World) (l : Nat) (o o' : Obj) (hl : w.heap.size ≤ l) (h : W.heap[l]? = some o) (h1 : o.isCells = false) (h2 : o.isWalk = false) : Keep n₀ B W (W.putObj l o') :=
  ⟨belowK_b hn W l o o' hl h h1 h2, World.putObj_heap_other (by omega)⟩
theorem Keep.cell {n₀ B : Nat} {W W' : World} (h : Keep n₀ B W W') (o : Nat) : W'.cell? ⟨B, o, none⟩ = W.cell? ⟨B, o, none⟩ := World.cell?_of_block (w := W) h.2
theorem Keep.setCell {n₀ B : Nat} {W W' : World} (h : Keep n₀ B W W') {p : Addr} (hp : n₀ ≤ p.block) (hB : B ≠ p.block) (u : Value) : Keep n₀ B W (W'.setCell p u) :=
  ⟨h.1.setCell hp u, (Below.heap_setCell W' p u B hB).trans h.2⟩
theorem Keep.drew {n₀ B : Nat} {W W' : World} (h : Keep n₀ B W W') : Keep n₀ B W W'.drew := ⟨h.1.drew, h.2⟩
theorem Keep.below {n₀ B : Nat} {W W' W'' : World} (h : Keep n₀ B W W') (hb : Below W'.heap.size W' W'') (hn : n₀ ≤ W'.heap.size) (hB : B < W'.heap.size) : Keep n₀ B W W'' :=
  ⟨h.1.trans (hb.mono hn), (hb.block B hB).trans h.2⟩

set_option maxRecDepth 100000 in
set_option maxHeartbeats 2000000 in
theorem back_in (n : Nat) (hn : 1 ≤ n) (y Bs n₀ : Nat) (a : Option Addr) (cap : Nat) (l : List Nat) (hreach : l.length ≤ 1073741824) (J Jx : List Nat → World → Prop)
    (hY : ∀ pre x W, J pre W → pre.length < l.length → YieldAt Fence.wide (n - 1) Tryz.prog y (encB l x) W fun e W' =>
      (e = .returned (.bool true) ∧ J (pre ++ [x]) W' ∧ Keep n₀ Bs W W') ∨ (e = .returned (.bool false) ∧ Jx (pre ++ [x]) W'))
    (W : World) (hBs : W.cell? ⟨Bs, 0, none⟩ = some (.slice a l.length cap)) (hc : l = [] ∨ ∃ b o, a = some ⟨b, o, none⟩ ∧ b < n₀ ∧ Cells W b o l) (h0 : J [] W) :
    CallsIn Fence.wide n Tryz.prog 179 #[.func (.yield y) #[] #[], .pointer (some ⟨Bs, 0, none⟩)] W fun e W' => (∃ v, e = .returned v) ∧
      ((∃ ys, ys = back l l.length ∧ J ys W') ∨ (∃ pre, (∃ k, k ≤ l.length ∧ pre = back l k) ∧ Jx pre W')) := by
  refine callsIn_of_wp Tryz.func179 rfl trivial ?_ rfl
  simp only [Tryz.ntmps179, List.size_toArray, List.length_cons, List.length_nil, Nat.reduceAdd, Nat.reduceSub, Array.replicate_succ, Array.replicate_zero, List.push_toArray, List.append_toArray, List.nil_append, List.cons_append]
  generalize hlen : l.length = len at *
  have HL := Lib.hid hlen
  clear hlen
  gi_wp2
  gi_loopw [3] (fun i wr => ∃ k : Nat, k ≤ len ∧ i = .int .i64 ((len : Int) - 1 - k) ∧ J (back l k) wr ∧ Keep n₀ Bs W wr)
    (fun i _ => (intOf i + 1).toNat)
  case atStart => exact ⟨0, Nat.zero_le _, by go_num, h0, Keep.refl _ _ _⟩
  case round =>
    obtain ⟨k, hk, rfl, hJs, hnx⟩ := hrel
    have hbs' : wr.cell? ⟨Bs, 0, none⟩ = some (.slice a len cap) := (hnx.cell 0).trans hBs
    by_cases hlt : k < len
    · rcases hc with hc | ⟨b, o, rfl, hb, hc⟩
      · exfalso; have := HL.out; rw [hc] at this; simp at this; omega
      obtain ⟨i, hi⟩ : ∃ i : Nat, (len : Int) - 1 - k = i := ⟨len - 1 - k, by omega⟩
      have hie : len - 1 - k = i := by omega
      have hil : i < len := by omega
      have HI := Lib.hid hi
      rw [hi]
      have hcx : wr.cell? ⟨b, o + i, none⟩ = some (.int .u32 (l.getD i 0)) := (hnx.1.cell (p := ⟨b, o + i, none⟩) hb).trans (hc.2 i (by have := HL.out; omega))
      obtain ⟨fn, tmps, assign, body, hy, hR⟩ := hY _ i wr hJs (by rw [back_length]; exact hlt)
      have hbk : back l (k + 1) = back l k ++ [i] := by rw [back_succ, HL.out, hie]
      have HB := Lib.hid hbk
      clear hbk hi hie
      unfold encB at hy
      rw [HL.out, Nat.mod_eq_of_lt hil] at hy
      generalize hx : l.getD i 0 = x at *
      clear hx
      gi_wp2
      refine hR.mono ?_
      rintro e W3 (⟨rfl, hJ3, hk3⟩ | ⟨rfl, hJx3⟩)
      · gi_wp2
        go_roundw
        case rel => exact ⟨k + 1, by omega, by have := HI.out; go_num, by rw [HB.out]; exact hJ3, hnx.trans hk3⟩
        case measure => have := HI.out; simp [intOf]
      · gi_wp2
        refine bodyPost_ret (results_none rfl _ _ _) rfl ?_
        exact ⟨⟨_, rfl⟩, .inr ⟨_, ⟨k + 1, by omega, HB.out.symm⟩, hJx3⟩⟩
    · obtain rfl : k = len := by omega
      gi_wp2
      go_end0
      exact ⟨⟨_, rfl⟩, .inl ⟨_, rfl, hJs⟩⟩

set_option maxHeartbeats 1000000 in
theorem backward_any (a : Option Addr) (len cap : Nat) (w : World) :
    Calls Tryz.prog 162 #[.slice a len cap] w fun e w' => e = .returned (.func (.func 179) #[] #[.pointer (some ⟨w.heap.size, 0, none⟩)]) ∧ w' = w.alloc (.cells #[.slice a len cap] 63) := by
  go_enter Tryz.func162, Tryz.ntmps162
  go_wp2
  go_ret
  exact ⟨rfl, rfl⟩

theorem back_stops (n : Nat) (hn : 1 ≤ n) (Bs n₀ : Nat) (a : Option Addr) (cap : Nat) (l : List Nat) (hreach : l.length ≤ 1073741824) (w : World) (hBs : Bs < w.heap.size) (hn₀ : n₀ ≤ w.heap.size)
    (hc : w.cell? ⟨Bs, 0, none⟩ = some (.slice a l.length cap)) (hI : l = [] ∨ ∃ b o, a = some ⟨b, o, none⟩ ∧ b < n₀ ∧ Cells w b o l) :
    SeqStopsK Fence.wide n Tryz.prog 179 #[.pointer (some ⟨Bs, 0, none⟩)] (encB l) (Keep n₀ Bs) (fun ys => ys = back l l.length)
      (fun pre => ∃ k, k ≤ l.length ∧ pre = back l k) l.length w := fun y J Jx W hW _ _ hY h0 => by
  have hc' := (hW.cell (p := ⟨Bs, 0, none⟩) hBs).trans hc
  refine back_in n hn y Bs n₀ a cap l hreach J Jx hY W hc' ?_ h0
  refine hI.imp id ?_
  rintro ⟨b, o, ha, hb, h⟩
  exact ⟨b, o, ha, hb, h.below hW h.lt⟩

end Go.Proofs.YtmhneibcbjgedaaGreatDoor
