/- slices.Backward over limbs: the iterator's contract. -/
import Derived.Test.YtpmlmibceiolpaaGreatDoorRep
import Derived.RangeFuncNested
import Derived.RangeFuncBound
import Derived.RangeFuncCalls
import Derived.RangeFuncLeaves
import Derived.RangeFuncBox
import Derived.Shelf.Abstract
import Derived.Shelf.RegionOpen
import Derived.OwnWalkIn
import Derived.TacticsInMore
import Derived.LoopNIn
import Derived.LoopIn
import Derived.Test.YtpmlmibceiolpaaGreatDoorAdd
set_option linter.unusedSimpArgs false
set_option linter.unusedVariables false
namespace Go.Proofs.YtpmlmibceiolpaaGreatDoor
open Go.RowKit Go.Shelf
attribute [local go_sem] Oper.semAt_some

/-- What has come when k rounds are over: the last k indexes, the last first. -/
def back (l : List Nat) (k : Nat) : List Nat := (List.range k).map fun j => l.length - 1 - j
theorem back_succ (l : List Nat) (k : Nat) : back l (k + 1) = back l k ++ [l.length - 1 - k] := by simp [back, List.range_succ]
theorem back_length (l : List Nat) (k : Nat) : (back l k).length = k := by simp [back]

/-- The values of a round: an index and its limb (an index beyond the end, which never comes, is read as another one). -/
def encB (l : List Nat) (x : Nat) : Array Value := #[.int .i64 ((x % l.length : Nat) : Int), .int .u32 ((l.getD (x % l.length) 0 : Nat) : Int)]

/-- What a round keeps: whatever lay below n₀, and one block more. -/
def Keep (n₀ B : Nat) (W W' : World) : Prop := Below n₀ W W' ∧ W'.heap[B]? = W.heap[B]?
theorem Keep.refl (n₀ B : Nat) (W : World) : Keep n₀ B W W := ⟨Below.refl _ _, rfl⟩
theorem Keep.trans {n₀ B : Nat} {a b c : World} (h : Keep n₀ B a b) (k : Keep n₀ B b c) : Keep n₀ B a c := ⟨h.1.trans k.1, k.2.trans h.2⟩
theorem Keep.turn {n₀ B : Nat} {w : World} (hn : n₀ ≤ w.heap.size) (hB : B < w.heap.size) (W : World) (l : Nat) (o o' : Obj) (hl : w.heap.size ≤ l) (h : W.heap[l]? = some o) (h1 : o.isCells = false) (h2 : o.isWalk = false) : Keep n₀ B W (W.putObj l o') :=
  ⟨belowK_b hn W l o o' hl h h1 h2, World.putObj_heap_other (by omega)⟩
theorem Keep.cell {n₀ B : Nat} {W W' : World} (h : Keep n₀ B W W') (o : Nat) : W'.cell? ⟨B, o, none⟩ = W.cell? ⟨B, o, none⟩ := World.cell?_of_block (w := W) h.2
theorem Keep.setCell {n₀ B : Nat} {W W' : World} (h : Keep n₀ B W W') {p : Addr} (hp : n₀ ≤ p.block) (hB : B ≠ p.block) (u : Value) : Keep n₀ B W (W'.setCell p u) :=
  ⟨h.1.setCell hp u, (Below.heap_setCell W' p u B hB).trans h.2⟩
theorem Keep.drew {n₀ B : Nat} {W W' : World} (h : Keep n₀ B W W') : Keep n₀ B W W'.drew := ⟨h.1.drew, h.2⟩
theorem Keep.below {n₀ B : Nat} {W W' W'' : World} (h : Keep n₀ B W W') (hb : Below W'.heap.size W' W'') (hn : n₀ ≤ W'.heap.size) (hB : B < W'.heap.size) : Keep n₀ B W W'' :=
  ⟨h.1.trans (hb.mono hn), (hb.block B hB).trans h.2⟩

set_option maxRecDepth 100000 in
set_option maxHeartbeats 2000000 in
theorem back_in (n : Nat) (hn : 1 ≤ n) (y Bs n₀ : Nat) (a : Option Addr) (cap : Nat) (l : List Nat) (hreach : l.length ≤ 1073741824) (J Jx : List Nat → World → Prop)
    (hY : ∀ pre x W, J pre W → pre.length < l.length → YieldAt Fence.wide (n - 1) Tryz.prog y (encB l x) W fun e W' =>
      (e = .returned (.bool true) ∧ J (pre ++ [x]) W' ∧ Keep n₀ Bs W W') ∨ (e = .returned (.bool false) ∧ Jx (pre ++ [x]) W'))
    (W : World) (hBs : W.cell? ⟨Bs, 0, none⟩ = some (.slice a l.length cap)) (hc : l = [] ∨ ∃ b o, a = some ⟨b, o, none⟩ ∧ b < n₀ ∧ Cells W b o l) (h0 : J [] W) :
    CallsIn Fence.wide n Tryz.prog 169 #[.func (.yield y) #[] #[], .pointer (some ⟨Bs, 0, none⟩)] W fun e W' => (∃ v, e = .returned v) ∧
      ((∃ ys, ys = back l l.length ∧ J ys W') ∨ (∃ pre, (∃ k, k ≤ l.length ∧ pre = back l k) ∧ Jx pre W')) := by
  refine callsIn_of_wp Tryz.func169 rfl trivial ?_ rfl
  simp only [Tryz.ntmps169, List.size_toArray, List.length_cons, List.length_nil, Nat.reduceAdd, Nat.reduceSub, Array.replicate_succ, Array.replicate_zero, List.push_toArray, List.append_toArray, List.nil_append, List.cons_append]
  generalize hlen : l.length = len at *
  have HL := Lib.hid hlen
  clear hlen
  gi_wp2
  gi_loopw [3] (fun i wr => ∃ k : Nat, k ≤ len ∧ i = .int .i64 ((len : Int) - 1 - k) ∧ J (back l k) wr ∧ Keep n₀ Bs W wr)
    (fun i _ => (intOf i + 1).toNat)
  case atStart => exact ⟨0, Nat.zero_le _, by go_num, h0, Keep.refl _ _ _⟩
  case round =>
    obtain ⟨k, hk, rfl, hJs, hnx⟩ := hrel
    have hbs' : wr.cell? ⟨Bs, 0, none⟩ = some (.slice a len cap) := (hnx.cell 0).trans hBs
    by_cases hlt : k < len
    · rcases hc with hc | ⟨b, o, rfl, hb, hc⟩
      · exfalso; have := HL.out; rw [hc] at this; simp at this; omega
      obtain ⟨i, hi⟩ : ∃ i : Nat, (len : Int) - 1 - k = i := ⟨len - 1 - k, by omega⟩
      have hie : len - 1 - k = i := by omega
      have hil : i < len := by omega
      have HI := Lib.hid hi
      rw [hi]
      have hcx : wr.cell? ⟨b, o + i, none⟩ = some (.int .u32 (l.getD i 0)) := (hnx.1.cell (p := ⟨b, o + i, none⟩) hb).trans (hc.2 i (by have := HL.out; omega))
      obtain ⟨fn, tmps, assign, body, hy, hR⟩ := hY _ i wr hJs (by rw [back_length]; exact hlt)
      have hbk : back l (k + 1) = back l k ++ [i] := by rw [back_succ, HL.out, hie]
      have HB := Lib.hid hbk
      clear hbk hi hie
      unfold encB at hy
      rw [HL.out, Nat.mod_eq_of_lt hil] at hy
      generalize hx : l.getD i 0 = x at *
      clear hx
      gi_wp2
      refine hR.mono ?_
      rintro e W3 (⟨rfl, hJ3, hk3⟩ | ⟨rfl, hJx3⟩)
      · gi_wp2
        go_roundw
        case rel => exact ⟨k + 1, by omega, by have := HI.out; go_num, by rw [HB.out]; exact hJ3, hnx.trans hk3⟩
        case measure => have := HI.out; simp [intOf]
      · gi_wp2
        refine bodyPost_ret (results_none rfl _ _ _) rfl ?_
        exact ⟨⟨_, rfl⟩, .inr ⟨_, ⟨k + 1, by omega, HB.out.symm⟩, hJx3⟩⟩
    · obtain rfl : k = len := by omega
      gi_wp2
      go_end0
      exact ⟨⟨_, rfl⟩, .inl ⟨_, rfl, hJs⟩⟩

set_option maxHeartbeats 1000000 in
theorem backward_any (a : Option Addr) (len cap : Nat) (w : World) :
    Calls Tryz.prog 160 #[.slice a len cap] w fun e w' => e = .returned (.func (.func 169) #[] #[.pointer (some ⟨w.heap.size, 0, none⟩)]) ∧ w' = w.alloc (.cells #[.slice a len cap] 84) := by
  go_enter Tryz.func160, Tryz.ntmps160
  go_wp2
  go_ret
  exact ⟨rfl, rfl⟩

theorem back_stops (n : Nat) (hn : 1 ≤ n) (Bs n₀ : Nat) (a : Option Addr) (cap : Nat) (l : List Nat) (hreach : l.length ≤ 1073741824) (w : World) (hBs : Bs < w.heap.size) (hn₀ : n₀ ≤ w.heap.size)
    (hc : w.cell? ⟨Bs, 0, none⟩ = some (.slice a l.length cap)) (hI : l = [] ∨ ∃ b o, a = some ⟨b, o, none⟩ ∧ b < n₀ ∧ Cells w b o l) :
    SeqStopsK Fence.wide n Tryz.prog 169 #[.pointer (some ⟨Bs, 0, none⟩)] (encB l) (Keep n₀ Bs) (fun ys => ys = back l l.length)
      (fun pre => ∃ k, k ≤ l.length ∧ pre = back l k) l.length w := fun y J Jx W hW _ _ hY h0 => by
  have hc' := (hW.cell (p := ⟨Bs, 0, none⟩) hBs).trans hc
  refine back_in n hn y Bs n₀ a cap l hreach J Jx hY W hc' ?_ h0
  refine hI.imp id ?_
  rintro ⟨b, o, ha, hb, h⟩
  exact ⟨b, o, ha, hb, h.below hW h.lt⟩

end Go.Proofs.YtpmlmibceiolpaaGreatDoor

/- The contract of exact.value: the number of at most two limbs. -/
set_option linter.unusedSimpArgs false
set_option linter.unusedVariables false
namespace Go.Proofs.YtpmlmibceiolpaaGreatDoor
open Go.RowKit Go.Shelf
attribute [local go_sem] Oper.semAt_some

/-- The number that the limbs with these indexes make. -/
def vB (l : List Nat) (pre : List Nat) : Nat := pre.foldl (fun n x => n * 1000000000 + l.getD (x % l.length) 0) 0
theorem vB_snoc (l pre : List Nat) (x : Nat) : vB l (pre ++ [x]) = vB l pre * 1000000000 + l.getD (x % l.length) 0 := by simp [vB]
theorem vB_lt {l : List Nat} (ho : Ok l) (pre : List Nat) : vB l pre < 1000000000 ^ pre.length := by
  have gen : ∀ (pre : List Nat) (n m : Nat), n < 1000000000 ^ m → pre.foldl (fun n x => n * 1000000000 + l.getD (x % l.length) 0) n < 1000000000 ^ (m + pre.length) := by
    intro pre
    induction pre with
    | nil => intro n m h; simpa using h
    | cons x pre ih =>
      intro n m h
      have h1 := ho.getD (x % l.length)
      have h2 : (n + 1) * 1000000000 ≤ 1000000000 ^ m * 1000000000 := Nat.mul_le_mul_right _ h
      have := ih (n * 1000000000 + l.getD (x % l.length) 0) (m + 1) (by rw [Nat.pow_succ]; omega)
      simpa [Nat.add_comm, Nat.add_left_comm, Nat.add_assoc] using this
  have := gen pre 0 0 (by simp)
  rwa [Nat.zero_add] at this
theorem vB_back (l : List Nat) (k : Nat) (hk : k ≤ l.length) : vB l (back l k) = val (l.drop (l.length - k)) := by
  induction k with
  | zero => simp [back, vB, val]
  | succ k ih =>
    have e : l.length - k = l.length - (k + 1) + 1 := by omega
    rw [back_succ, vB_snoc, ih (by omega), drop_eq (k := l.length - (k + 1)) (by omega), e]
    simp only [val]
    rw [Nat.mod_eq_of_lt (by omega : l.length - 1 - k < l.length), show l.length - 1 - k = l.length - (k + 1) by omega]
    omega

set_option maxRecDepth 100000 in
set_option maxHeartbeats 2000000 in
theorem value_any {w : World} {v : Value} {l : List Nat} (h : Lim w v l) (ho : Ok l) (hlen : l.length ≤ 2) :
    Calls Tryz.prog 139 #[v] w (RetV w (.int .u64 (val l : Nat))) := by
  obtain ⟨a, cap, rfl, hc, hm, h⟩ := h
  refine (callsIn_wide (n := 5)).1 ?_
  refine callsIn_of_wp_marks Tryz.func139 rfl trivial ?_ rfl
  simp only [Tryz.ntmps139, List.size_toArray, List.length_cons, List.length_nil, Nat.reduceAdd, Nat.reduceSub, Array.replicate_succ, Array.replicate_zero, List.push_toArray, List.append_toArray, List.nil_append, List.cons_append]
  gi_wp2_with (refine ⟨trivial, ?_⟩; gi_at_call 160; refine (callsIn_wide.2 (backward_any _ _ _ _)).mono ?_; rintro e w' ⟨rfl, rfl⟩)
  obtain ⟨b1, hb1⟩ : ∃ b1, b1 = w.alloc (.cells #[.int .u64 0] 57) := ⟨_, rfl⟩
  have bN := Boxed.new w 57 (.int .u64 0)
  have bS := Boxed.new (w.alloc (.cells #[.int .u64 0] 57)) 84 (.slice a l.length cap)
  rw [World.size_alloc] at bS
  have hB0 : Below w.heap.size w ((w.alloc (.cells #[.int .u64 0] 57)).alloc (.cells #[.slice a l.length cap] 84)) := ((Below.refl _ w).alloc (Nat.le_refl _) _).alloc (by simp) _
  refine wpIn_rangeFunc_ownG rfl (by omega) (gf := 169) (lb := #[.pointer (some ⟨w.heap.size + 1, 0, none⟩)]) rfl trivial (enters_of Tryz.func169 (by kernel_rfl) rfl)
    (back_stops (5 - 1) (by omega) (w.heap.size + 1) w.heap.size a cap l (by omega) _ (by simp) (by simp; omega) bS.cell (h.imp id fun ⟨b, o, ha, hcl⟩ => ⟨b, o, ha, hcl.lt, hcl.below hB0 hcl.lt⟩))
    Keep.trans (Keep.turn (by simp; omega) (by simp)) (Below.refl _ _) (fun _ => rfl)
    (fun pre W => (W.cell? ⟨w.heap.size, 0, none⟩ = some (.int .u64 (vB l pre : Nat)) ∧ W.frozen? ⟨w.heap.size, 0, none⟩ = false) ∧ Below w.heap.size w W)
    (fun _ _ _ => False)
    (OwnFrom.and (Own.from (fun s A B row hs hg hr => ⟨cell_kept hs.1 hg hr, (frozen_kept hs.1 hg hr).trans hs.2⟩) _) (ownFrom_below (Nat.le_refl _) (by simp; omega)))
    (fun _ _ _ _ _ hs _ _ => hs)
    ⟨⟨(bN.alloc _).cell, (bN.alloc _).frozen⟩, hB0⟩
    (fun x => { tmps := #[.slice a l.length cap, undef, .int .u64 0, .pointer (some ⟨w.heap.size, 0, none⟩), undef, .int .u32 ((l.getD (x % l.length) 0 : Nat) : Int), .slice a l.length cap, .func (.func 169) #[] #[.pointer (some ⟨w.heap.size + 1, 0, none⟩)], .int .i64 ((x % l.length : Nat) : Int), .int .u32 ((l.getD (x % l.length) 0 : Nat) : Int), undef, undef, undef, undef, undef, undef], defers := [] }) ?assign ?body ?done ?stop
  case assign =>
    intro y x W K hK
    unfold encB
    generalize l.getD (x % l.length) 0 = z at *
    generalize x % l.length = xi at *
    gi_wp2
    exact hK
  case body =>
    rintro y pre x W ⟨⟨hc, hf⟩, hB⟩ hpl
    have h1 := vB_lt ho pre
    have h2 := ho.getD (x % l.length)
    have h3 := vB_snoc l pre x
    generalize l.getD (x % l.length) 0 = z at *
    generalize x % l.length = xi at *
    generalize vB l pre = q at *
    have hq : q < 1000000000 := by
      have : pre.length = 0 ∨ pre.length = 1 := by omega
      rcases this with e | e <;> rw [e] at h1 <;> omega
    have H3 := Lib.hid h3
    clear h3 h1
    gi_wp2
    exact ⟨(KeepsOthers.setCell _ _ _).from _, (Keep.refl _ _ _).setCell (p := ⟨w.heap.size, 0, none⟩) (Nat.le_refl _) (by simp) _, ⟨by rw [H3.out]; exact World.cell?_setCell_same' _ _ _ (by rw [hc]; rfl), by rw [World.frozen?_setCell]; exact hf⟩, hB.setCell (p := ⟨w.heap.size, 0, none⟩) (Nat.le_refl _) _⟩
  case done =>
    rintro D ys W hD rfl ⟨⟨hc, hf⟩, hB⟩ hK
    rw [vB_back l _ (Nat.le_refl _), Nat.sub_self, List.drop_zero] at hc
    gi_wp2
    refine ⟨by simp, .inl ⟨_, _, rfl, run_takeDeferred hK, ?_⟩⟩
    exact ⟨_, results_tmp rfl _ _ _, rfl, hB.trans (belowK_b (w := w) (Nat.le_refl _) W D _ _ (by simp at hD; omega) hK rfl rfl)⟩
  case stop =>
    rintro D c pre W _ _ h _
    exact h.elim

end Go.Proofs.YtpmlmibceiolpaaGreatDoor
