/- The contract of exact.value: the number of at most two limbs. -/
import Derived.Test.YtmhneibcbjgedaaGreatDoorBack
import Derived.Test.YtmhneibcbjgedaaGreatDoorAdd
set_option linter.unusedSimpArgs false
set_option linter.unusedVariables false
namespace Go.Proofs.YtmhneibcbjgedaaGreatDoor
open Go.RowKit Go.Shelf
attribute [local go_sem] Oper.semAt_some

/-- The number that the limbs with these indexes make. -/
def vB (l : List Nat) (pre : List Nat) : Nat := pre.foldl (fun n x => n * 1000000000 + l.getD (x % l.length) 0) 0
theorem vB_snoc (l pre : List Nat) (x : Nat) : vB l (pre ++ [x]) = vB l pre * 1000000000 + l.getD (x % l.length) 0 := by simp [vB]
theorem vB_lt {l : List Nat} (ho : Ok l) (pre : List Nat) : vB l pre < 1000000000 ^ pre.length := by
  have gen : ∀ (pre : List Nat) (n m : Nat), n < 1000000000 ^ m → pre.foldl (fun n x => n * 1000000000 + l.getD (x % l.length) 0) n < 1000000000 ^ (m + pre.length) := by
    intro pre
    induction pre with
    | nil => intro n m h; simpa using h
    | cons x pre ih =>
      intro n m h
      have h1 := ho.getD (x % l.length)
      have h2 : (n + 1) * 1000000000 ≤ 1000000000 ^ m * 1000000000 := Nat.mul_le_mul_right _ h
      have := ih (n * 1000000000 + l.getD (x % l.length) 0) (m + 1) (by rw [Nat.pow_succ]; omega)
      simpa [Nat.add_comm, Nat.add_left_comm, Nat.add_assoc] using this
  have := gen pre 0 0 (by simp)
  rwa [Nat.zero_add] at this
theorem vB_back (l : List Nat) (k : Nat) (hk : k ≤ l.length) : vB l (back l k) = val (l.drop (l.length - k)) := by
  induction k with
  | zero => simp [back, vB, val]
  | succ k ih =>
    have e : l.length - k = l.length - (k + 1) + 1 := by omega
    rw [back_succ, vB_snoc, ih (by omega), drop_eq (k := l.length - (k + 1)) (by omega), e]
    simp only [val]
    rw [Nat.mod_eq_of_lt (by omega : l.length - 1 - k < l.length), show l.length - 1 - k = l.length - (k + 1) by omega]
    omega

set_option maxRecDepth 100000 in
set_option maxHeartbeats 2000000 in
theorem value_any {w : World} {v : Value} {l : List Nat} (h : Lim w v l) (ho : Ok l) (hlen : l.length ≤ 2) :
    Calls Tryz.prog 147 #[v] w (RetV w (.int .u64 (val l : Nat))) := by
  obtain ⟨a, cap, rfl, hc, hm, h⟩ := h
  refine (callsIn_wide (n := 5)).1 ?_
  refine callsIn_of_wp_marks Tryz.func147 rfl trivial ?_ rfl
  simp only [Tryz.ntmps147, List.size_toArray, List.length_cons, List.length_nil, Nat.reduceAdd, Nat.reduceSub, Array.replicate_succ, Array.replicate_zero, List.push_toArray, List.append_toArray, List.nil_append, List.cons_append]
  gi_wp2_with (refine ⟨trivial, ?_⟩; gi_at_call 162; refine (callsIn_wide.2 (backward_any _ _ _ _)).mono ?_; rintro e w' ⟨rfl, rfl⟩)
  obtain ⟨b1, hb1⟩ : ∃ b1, b1 = w.alloc (.cells #[.int .u64 0] 160) := ⟨_, rfl⟩
  have bN := Boxed.new w 160 (.int .u64 0)
  have bS := Boxed.new (w.alloc (.cells #[.int .u64 0] 160)) 63 (.slice a l.length cap)
  rw [World.size_alloc] at bS
  have hB0 : Below w.heap.size w ((w.alloc (.cells #[.int .u64 0] 160)).alloc (.cells #[.slice a l.length cap] 63)) := ((Below.refl _ w).alloc (Nat.le_refl _) _).alloc (by simp) _
  refine wpIn_rangeFunc_ownG rfl (by omega) (gf := 179) (lb := #[.pointer (some ⟨w.heap.size + 1, 0, none⟩)]) rfl trivial (enters_of Tryz.func179 (by kernel_rfl) rfl)
    (back_stops (5 - 1) (by omega) (w.heap.size + 1) w.heap.size a cap l (by omega) _ (by simp) (by simp; omega) bS.cell (h.imp id fun ⟨b, o, ha, hcl⟩ => ⟨b, o, ha, hcl.lt, hcl.below hB0 hcl.lt⟩))
    Keep.trans (Keep.turn (by simp; omega) (by simp)) (Below.refl _ _) (fun _ => rfl)
    (fun pre W => (W.cell? ⟨w.heap.size, 0, none⟩ = some (.int .u64 (vB l pre : Nat)) ∧ W.frozen? ⟨w.heap.size, 0, none⟩ = false) ∧ Below w.heap.size w W)
    (fun _ _ _ => False)
    (OwnFrom.and (Own.from (fun s A B row hs hg hr => ⟨cell_kept hs.1 hg hr, (frozen_kept hs.1 hg hr).trans hs.2⟩) _) (ownFrom_below (Nat.le_refl _) (by simp; omega)))
    (fun _ _ _ _ _ hs _ _ => hs)
    ⟨⟨(bN.alloc _).cell, (bN.alloc _).frozen⟩, hB0⟩
    (fun x => { tmps := #[.slice a l.length cap, undef, .int .u64 0, .pointer (some ⟨w.heap.size, 0, none⟩), undef, .int .u32 ((l.getD (x % l.length) 0 : Nat) : Int), .slice a l.length cap, .func (.func 179) #[] #[.pointer (some ⟨w.heap.size + 1, 0, none⟩)], .int .i64 ((x % l.length : Nat) : Int), .int .u32 ((l.getD (x % l.length) 0 : Nat) : Int), undef, undef, undef, undef, undef, undef], defers := [] }) ?assign ?body ?done ?stop
  case assign =>
    intro y x W K hK
    unfold encB
    generalize l.getD (x % l.length) 0 = z at *
    generalize x % l.length = xi at *
    gi_wp2
    exact hK
  case body =>
    rintro y pre x W ⟨⟨hc, hf⟩, hB⟩ hpl
    have h1 := vB_lt ho pre
    have h2 := ho.getD (x % l.length)
    have h3 := vB_snoc l pre x
    generalize l.getD (x % l.length) 0 = z at *
    generalize x % l.length = xi at *
    generalize vB l pre = q at *
    have hq : q < 1000000000 := by
      have : pre.length = 0 ∨ pre.length = 1 := by omega
      rcases this with e | e <;> rw [e] at h1 <;> omega
    have H3 := Lib.hid h3
    clear h3 h1
    gi_wp2
    exact ⟨(KeepsOthers.setCell _ _ _).from _, (Keep.refl _ _ _).setCell (p := ⟨w.heap.size, 0, none⟩) (Nat.le_refl _) (by simp) _, ⟨by rw [H3.out]; exact World.cell?_setCell_same' _ _ _ (by rw [hc]; rfl), by rw [World.frozen?_setCell]; exact hf⟩, hB.setCell (p := ⟨w.heap.size, 0, none⟩) (Nat.le_refl _) _⟩
  case done =>
    rintro D ys W hD rfl ⟨⟨hc, hf⟩, hB⟩ hK
    rw [vB_back l _ (Nat.le_refl _), Nat.sub_self, List.drop_zero] at hc
    gi_wp2
    refine ⟨by simp, .inl ⟨_, _, rfl, run_takeDeferred hK, ?_⟩⟩
    exact ⟨_, results_tmp rfl _ _ _, rfl, hB.trans (belowK_b (w := w) (Nat.le_refl _) W D _ _ (by simp at hD; omega) hK rfl rfl)⟩
  case stop =>
    rintro D c pre W _ _ h _
    exact h.elim

end Go.Proofs.YtmhneibcbjgedaaGreatDoor
