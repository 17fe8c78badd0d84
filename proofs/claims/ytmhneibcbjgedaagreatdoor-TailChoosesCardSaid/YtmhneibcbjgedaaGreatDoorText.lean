/- The contracts of Whole.Digits and Whole.Text. -/
import Derived.Test.YtmhneibcbjgedaaGreatDoorBld
import Derived.Test.YtmhneibcbjgedaaGreatDoorDec
import Derived.Lib.AppendIntMem
set_option linter.unusedSimpArgs false
set_option linter.unusedVariables false
namespace Go.Proofs.YtmhneibcbjgedaaGreatDoor
open Go.RowKit
open Go.Lib (decDigits itoa nDigits)

/-- What the library's own variables hold. -/
def Good (w : World) : Prop := Lib.TabIs Tryz.prog w "internal/strconv.uint64pow10" .u64 Lib.pow10Tab ∧ ∃ m : Int, w.cell? ⟨0, 0, none⟩ = some (.int .i64 m)

theorem named_pow10 : Tryz.prog.globalNamed "internal/strconv.uint64pow10" = some 1 := by kernel_rfl

theorem Good.below {w w' : World} (h : Good w) (hb : Below w.heap.size w w') : Good w' := by
  obtain ⟨h1, m, h2⟩ := h
  exact ⟨Joins.var_stays named_pow10 h1 hb (Nat.le_refl _), m, keepc hb h2 (World.block_lt_of_cell? w ⟨_, 0, none⟩ h2)⟩
theorem Good.drew {w : World} (h : Good w) : Good w.drew := h.below ((Below.refl _ _).drew)

theorem itoa_limb (x : Nat) : itoa (x : Int) = decDigits x := Lib.itoa_nonneg x

theorem itoa_any {w : World} (x : Nat) (hx : x < 1000000000) (hg : Good w) : Calls Tryz.prog 87 #[.int .i64 x] w (RetV w (.string ⟨(decDigits x).toArray⟩)) := by
  refine (Tryz.strconv_Itoa x (by omega) (by omega) w hg.1).mono ?_
  rintro e w' ⟨rfl, k, os, rfl⟩
  refine ⟨by rw [itoa_limb], ?_⟩
  exact Lib.below_grow _ _ (Nat.le_refl _) _ _

theorem Ok.last_lt {l : List Nat} (h : Ok l) (i : Nat) : l.getD i 0 < 1000000000 := h.getD i

set_option maxHeartbeats 1000000 in
set_option maxRecDepth 100000 in
theorem digits_any {w : World} {v : Value} {n : Int} (h : Wh w v n) (s : Fit n) (hg : Good w) :
    Calls Tryz.prog 137 #[v] w (RetV w (.int .i64 (nDigits n.natAbs))) := by
  obtain ⟨a, p, rfl, g⟩ := h.form
  clear h
  unfold Fit at s
  have hv := val_limbs n.natAbs
  have ho := limbs_ok n.natAbs
  have hl := limbs_last n.natAbs
  have h0 : (limbs n.natAbs).length = 0 → nDigits n.natAbs = 1 := fun h => by
    have : n = 0 := limbs_len_zero.1 h
    subst this; exact Lib.nDigits_small (by decide)
  have hd := nDigits_val ((limbs n.natAbs).length - 1) (limbs n.natAbs) ho hl
  rw [hv] at hd
  generalize limbs n.natAbs = l at *
  generalize nDigits n.natAbs = d at *
  have HH := Lib.hid (And.intro ho (And.intro h0 hd))
  clear hv ho hl h0 hd
  obtain ⟨W, hW, hB, hsz, j1⟩ := entA w 65 #[.bool (decide (n < 0)), .slice a l.length p]
  have HW := Lib.hid hW
  clear hW hsz
  generalize decide (n < 0) = b at *
  have x0 := j1.cell0
  have x1 := j1.cell1
  obtain ⟨a', c', e, hc, hm, hlim⟩ := g.below hB
  injection e with e1 _ e3
  subst e1
  subst e3
  unfold maxLen at hm
  generalize hk : l.length = k at *
  have HK := Lib.hid hk
  have HG := Lib.hid (hg.below hB)
  clear hk hg g
  go_enter Tryz.func137, Tryz.ntmps137
  go_upto_region 1 with fail
  rw [← HW.out]
  by_cases hk0 : k = 0
  · subst hk0
    have hd := Lib.hid (HH.out.2.1 rfl)
    go_wp2
    go_ret
    exact ⟨by rw [hd.out]; rfl, hB⟩
  · obtain ⟨j, rfl⟩ : ∃ j, k = j + 1 := ⟨k - 1, by omega⟩
    rcases hlim with h1 | ⟨b1, o1, rfl, hcell⟩
    · exfalso; have := HK.out; rw [h1] at this; simp at this
    have gx := hcell.2 j (by have := HK.out; omega)
    have hx := HH.out.1.getD j
    have hd := HH.out.2.2 (by omega)
    simp only [Nat.add_sub_cancel] at hd
    have hn9 := nDigits_le9 hx
    have hlen := Lib.decDigits_length (l.getD j 0)
    generalize l.getD j 0 = x at *
    have HD := Lib.hid hd
    have hit := Lib.hid (itoa_any x hx HG.out)
    have hj : ((j + 1 : Nat) : Int) - 1 = (j : Int) := by omega
    have hj9 : IntKind.i64.wrap (9 * (j : Int)) = 9 * (j : Int) := IntWalk.i64_in _ (by omega)
    have e9 : 9 * (j : Int) ≥ 0 := by omega
    have hs2 : (decDigits x).toArray.size = nDigits x := by simp [hlen]
    have hsm : (⟨(decDigits x).toArray⟩ : ByteArray).size = nDigits x := hs2
    generalize (⟨(decDigits x).toArray⟩ : ByteArray) = ds at *
    generalize nDigits x = nx at *
    clear hlen hd HH hs2
    go_wp2_with (go_at_call 87; refine hit.out.mono ?_; rintro e w1 ⟨rfl, hb1⟩)
    go_ret
    exact ⟨by rw [HD.out]; go_num, hB.trans (hb1.mono hB.size)⟩

theorem Bd.below {w w' : World} {B b : Nat} {l : List UInt8} (h : Bd w B b l) (hb : Below w.heap.size w w') : Bd w' B b l := by
  have hg : w.grownBy w' none := ⟨hb.os, hb.tape, hb.output, hb.size, fun k hk _ => hb.block k hk⟩
  rcases h with ⟨h1, v, h2, h3, h4⟩ | ⟨h1, v, h2, h3, h4⟩
  · exact .inl ⟨h1, v, (hb.block b (heap_cells h2)).trans h2, World.ownsRow.kept (row := none) h3 hg (Classical.em _), h4⟩
  · exact .inr ⟨h1, v, (hb.block b (heap_cells h2)).trans h2, World.ownsRow.kept (row := none) h3 hg (Classical.em _), h4⟩

theorem Bd.fresh (w : World) : Bd (w.alloc (.cells #[.pointer none, .slice none 0 0] 118)) w.heap.size w.heap.size [] :=
  .inl ⟨Nat.le_refl _, .slice none 0 0, heap_alloc_new w _, World.ownsRow_nil _ _ _ _, fun h => by cases h⟩

/-- What the builder holds when the limbs from k on are written. -/
def shown (l : List Nat) (k : Nat) : List UInt8 := if k = l.length then [] else decDigits (val (l.drop k))

theorem shown_first {l : List Nat} {j : Nat} (h : j + 1 = l.length) : decDigits (l.getD j 0) = shown l j := by
  unfold shown
  rw [if_neg (by omega), val_drop_cons (by omega), List.drop_of_length_le (by omega : l.length ≤ j + 1)]
  simp [val]

theorem shown_next {l : List Nat} {j : Nat} (ho : Ok l) (hl : Last l) (h : j + 1 < l.length) : (shown l (j + 1) ++ List.replicate (9 - nDigits (l.getD j 0)) 48) ++ decDigits (l.getD j 0) = shown l j := by
  unfold shown
  rw [if_neg (by omega), if_neg (by omega), val_drop_cons (show j < l.length by omega), decDigits_limb (ho.getD j) (val_drop_pos hl h), Lib.decDigits_length, List.append_assoc]

theorem shown_all {n : Int} (h : n ≠ 0) (neg : Bool) (hb : decide (n < 0) = neg) : (if neg then [45] else []) ++ shown (limbs n.natAbs) 0 = itoa n := by
  have h1 : 0 < (limbs n.natAbs).length := limbs_length_pos (by omega)
  have e : shown (limbs n.natAbs) 0 = decDigits n.natAbs := by
    unfold shown
    rw [if_neg (by omega), List.drop_zero, val_limbs]
  rw [e]
  subst hb
  rcases Int.lt_or_le n 0 with h2 | h2
  · obtain ⟨u, hu⟩ : ∃ u : Nat, n = -(u : Int) := ⟨n.natAbs, by omega⟩
    subst hu
    have hu0 : 0 < u := by omega
    rw [Lib.itoa_neg u hu0]
    simp [hu0]
  · obtain ⟨u, hu⟩ : ∃ u : Nat, n = (u : Int) := ⟨n.natAbs, by omega⟩
    subst hu
    rw [Lib.itoa_nonneg]
    simp

theorem shown_len {l : List Nat} {k : Nat} (ho : Ok l) : (shown l k).length ≤ 9 * l.length + 1 := by
  unfold shown
  split
  · simp
  · rw [Lib.decDigits_length]
    have key : ∀ (m : List Nat), Ok m → nDigits (val m) ≤ 9 * m.length + 1 := by
      intro m
      induction m with
      | nil => intro _; simp [val]; exact Nat.le_of_eq (Lib.nDigits_small (by decide))
      | cons x t ih =>
        intro hm
        have h1 := ih hm.tail
        have h2 := hm.head
        rcases Nat.eq_zero_or_pos (val t) with h0 | h0
        · simp only [val, h0, Nat.mul_zero, Nat.add_zero, List.length_cons]
          have := nDigits_le9 h2
          omega
        · simp only [val, List.length_cons]
          rw [nDigits_limb h2 h0]; omega
    have h2 := key (l.drop k) (ho.drop k)
    have h3 : (l.drop k).length ≤ l.length := by simp
    omega

theorem zs0 (w : World) : (Instr.slice 9 (.string ⟨#[48, 48, 48, 48, 48, 48, 48, 48, 48]⟩) (some (.int .i64 0)) none none).run Tryz.prog w = .ok (.string ⟨#[48, 48, 48, 48, 48, 48, 48, 48, 48]⟩) w := by kernel_rfl
theorem zs1 (w : World) : (Instr.slice 9 (.string ⟨#[48, 48, 48, 48, 48, 48, 48, 48, 48]⟩) (some (.int .i64 1)) none none).run Tryz.prog w = .ok (.string ⟨#[48, 48, 48, 48, 48, 48, 48, 48]⟩) w := by kernel_rfl
theorem zs2 (w : World) : (Instr.slice 9 (.string ⟨#[48, 48, 48, 48, 48, 48, 48, 48, 48]⟩) (some (.int .i64 2)) none none).run Tryz.prog w = .ok (.string ⟨#[48, 48, 48, 48, 48, 48, 48]⟩) w := by kernel_rfl
theorem zs3 (w : World) : (Instr.slice 9 (.string ⟨#[48, 48, 48, 48, 48, 48, 48, 48, 48]⟩) (some (.int .i64 3)) none none).run Tryz.prog w = .ok (.string ⟨#[48, 48, 48, 48, 48, 48]⟩) w := by kernel_rfl
theorem zs4 (w : World) : (Instr.slice 9 (.string ⟨#[48, 48, 48, 48, 48, 48, 48, 48, 48]⟩) (some (.int .i64 4)) none none).run Tryz.prog w = .ok (.string ⟨#[48, 48, 48, 48, 48]⟩) w := by kernel_rfl
theorem zs5 (w : World) : (Instr.slice 9 (.string ⟨#[48, 48, 48, 48, 48, 48, 48, 48, 48]⟩) (some (.int .i64 5)) none none).run Tryz.prog w = .ok (.string ⟨#[48, 48, 48, 48]⟩) w := by kernel_rfl
theorem zs6 (w : World) : (Instr.slice 9 (.string ⟨#[48, 48, 48, 48, 48, 48, 48, 48, 48]⟩) (some (.int .i64 6)) none none).run Tryz.prog w = .ok (.string ⟨#[48, 48, 48]⟩) w := by kernel_rfl
theorem zs7 (w : World) : (Instr.slice 9 (.string ⟨#[48, 48, 48, 48, 48, 48, 48, 48, 48]⟩) (some (.int .i64 7)) none none).run Tryz.prog w = .ok (.string ⟨#[48, 48]⟩) w := by kernel_rfl
theorem zs8 (w : World) : (Instr.slice 9 (.string ⟨#[48, 48, 48, 48, 48, 48, 48, 48, 48]⟩) (some (.int .i64 8)) none none).run Tryz.prog w = .ok (.string ⟨#[48]⟩) w := by kernel_rfl
theorem zs9 (w : World) : (Instr.slice 9 (.string ⟨#[48, 48, 48, 48, 48, 48, 48, 48, 48]⟩) (some (.int .i64 9)) none none).run Tryz.prog w = .ok (.string ⟨#[]⟩) w := by kernel_rfl
theorem zeros_slice {k : Nat} (h : k ≤ 9) (w : World) : (Instr.slice 9 (.string ⟨#[48, 48, 48, 48, 48, 48, 48, 48, 48]⟩) (some (.int .i64 k)) none none).run Tryz.prog w = .ok (.string ⟨(List.replicate (9 - k) 48).toArray⟩) w := by
  have h' : k = 0 ∨ k = 1 ∨ k = 2 ∨ k = 3 ∨ k = 4 ∨ k = 5 ∨ k = 6 ∨ k = 7 ∨ k = 8 ∨ k = 9 := by omega
  clear h
  rcases h' with rfl | rfl | rfl | rfl | rfl | rfl | rfl | rfl | rfl | rfl
  · exact zs0 w
  · exact zs1 w
  · exact zs2 w
  · exact zs3 w
  · exact zs4 w
  · exact zs5 w
  · exact zs6 w
  · exact zs7 w
  · exact zs8 w
  · exact zs9 w

theorem text_zero {w : World} {v : Value} (h : Wh w v 0) (hg : Good w) :
    Calls Tryz.prog 39 #[v] w (RetV w (.string ⟨(itoa 0).toArray⟩)) := by
  obtain ⟨a, p, rfl, g⟩ := h.form
  have e : (limbs (0 : Int).natAbs).length = 0 := rfl
  rw [e, show decide ((0 : Int) < 0) = false from rfl]
  obtain ⟨W, hW, hB, hsz, j1⟩ := entA w 65 #[.bool false, .slice a 0 p]
  have HW := Lib.hid hW
  clear hW hsz g h e
  have x0 := j1.cell0
  have x1 := j1.cell1
  have ht : itoa 0 = [48] := by rw [show (0 : Int) = ((0 : Nat) : Int) from rfl, Lib.itoa_nonneg, decDigits_small (by decide)]; rfl
  rw [ht]
  clear ht
  go_enter Tryz.func39, Tryz.ntmps39
  go_upto_region 1 with fail
  rw [← HW.out]
  go_wp2
  go_ret
  exact ⟨rfl, hB⟩

set_option maxHeartbeats 2000000 in
set_option maxRecDepth 100000 in
theorem text_pos {w : World} {v : Value} {n : Int} (h : Wh w v n) (s : Fit n) (hg : Good w) (hn : n ≠ 0) :
    Calls Tryz.prog 39 #[v] w (RetV w (.string ⟨(itoa n).toArray⟩)) := by
  obtain ⟨a, p, rfl, g⟩ := h.form
  clear h
  unfold Fit at s
  have ho := limbs_ok n.natAbs
  have hl := limbs_last n.natAbs
  have hall := fun neg hb => shown_all hn neg hb
  have hlp := limbs_length_pos (n := n.natAbs) (by omega)
  generalize limbs n.natAbs = l at *
  generalize hit0 : itoa n = tx at *
  have hne : tx ≠ [] := by
    rw [← hit0]; unfold itoa; split
    · simp
    · exact decDigits_ne _
  have HH := Lib.hid (And.intro ho (And.intro hl (And.intro hall hne)))
  clear ho hl hall hit0 hne
  obtain ⟨W, hW, hB, hsz, j1⟩ := entA w 65 #[.bool (decide (n < 0)), .slice a l.length p]
  have HW := Lib.hid hW
  have HSZ := Lib.hid hsz
  clear hW hsz
  generalize hbb : decide (n < 0) = b at *
  have HBB := Lib.hid hbb
  clear hbb hn
  have x0 := j1.cell0
  have x1 := j1.cell1
  obtain ⟨a', c', e, hc, hm, hlim⟩ := g.below hB
  injection e with e1 _ e3
  subst e1
  subst e3
  unfold maxLen at hm
  generalize hk : l.length = k at *
  have HK := Lib.hid hk
  have HG := Lib.hid (hg.below hB)
  clear hk hg g
  rcases hlim with h1 | ⟨b1, o1, rfl, hcell⟩
  · exfalso; have := HK.out; rw [h1] at this; simp at this; omega
  have HC := Lib.hid hcell
  clear hcell
  have hk0 : ((k : Int) == 0) = false := by simp; omega
  go_enter Tryz.func39, Tryz.ntmps39
  go_upto_region 1 with fail
  rw [← HW.out]
  have hbl := j1.alloc (.cells #[.pointer none, .slice none 0 0] 118)
  have y0 := hbl.cell0
  have y1 := hbl.cell1
  have HBL := Lib.hid hbl
  clear hbl
  go_upto_if 11 with fail
  have HF := Lib.hid (Bd.fresh W)
  have HN : Hid (Below W.heap.size W (W.alloc (.cells #[.pointer none, .slice none 0 0] 118))) := Lib.hid ((Below.refl _ _).alloc (Nat.le_refl _) _)
  generalize (W.alloc (.cells #[.pointer none, .slice none 0 0] 118)) = W1 at *
  clear x0 x1
  have hW1 := HN.out.size
  go_cut [] (fun wc => Hid (Bd wc W.heap.size W.heap.size (if b then [45] else [])) ∧ Hid (Below W.heap.size W wc))
  case first =>
    cases b
    · go_wp2
      go_meet
      exact ⟨HF, HN⟩
    · go_wp2_with (go_at_call 86; refine (writeByte_any _ _ _ 45 _ HF.out (by simp) hW1).mono ?_; rintro e w2 ⟨rfl, hd2, hb2⟩)
      go_meet
      exact ⟨Lib.hid hd2, Lib.hid (HN.out.trans hb2)⟩
  case rest =>
    obtain ⟨hD, hK⟩ := hcut
    have htx := HH.out.2.2.1 b rfl
    have hpl : (if b then [(45 : UInt8)] else []).length ≤ 1 := by cases b <;> simp
    generalize (if b then [(45 : UInt8)] else []) = pre at *
    have HTX := Lib.hid htx
    clear htx
    have x0 := keepc hK.out j1.cell0 j1.lt
    have x1 := keepc hK.out j1.cell1 j1.lt
    have hsh : shown l k = [] := by unfold shown; rw [if_pos HK.out.symm]
    have HSH := Lib.hid hsh
    clear hsh y0 y1
    go_wp2
    go_loopw [4] (fun u4 wr => ∃ j : Nat, j ≤ k ∧ u4 = .int .i64 ((j : Int) - 1) ∧ Hid (Bd wr W.heap.size W.heap.size (pre ++ shown l j)) ∧ Hid (Below W.heap.size W wr)) (fun u4 _ => (intOf u4 + 1).toNat)
    case atStart => exact ⟨k, Nat.le_refl _, rfl, Lib.hid (by rw [HSH.out, List.append_nil]; exact hD.out), hK⟩
    case round =>
      obtain ⟨j, hj, rfl, hD2, hK2⟩ := hrel
      rcases j with _ | i
      · have hst := Tryz.Builder_String _ _ _ _ (by have h := hD2.out; rw [HTX.out] at h; exact h) HH.out.2.2.2
        have HST := Lib.hid hst
        clear hst
        have hj0 : (((0 : Nat) : Int) - 1) = -1 := rfl
        go_wp2_with (go_at_call 89; refine HST.out.mono ?_; rintro e w2 ⟨rfl, hb2⟩)
        go_ret
        exact ⟨rfl, (hB.trans (hK2.out.mono hB.size)).trans (hb2.mono hB.size)⟩
      · have hj1 : ((i + 1 : Nat) : Int) - 1 = (i : Int) := by omega
        rw [hj1]
        clear hj1 x0 x1
        have x0 := keepc hK2.out j1.cell0 j1.lt
        have x1 := keepc hK2.out j1.cell1 j1.lt
        have gx := keepc hK2.out (HC.out.2 i (by have := HK.out; omega)) HC.out.lt
        have hx := HH.out.1.getD i
        have hn9 := nDigits_le9 hx
        have hit := itoa_any (l.getD i 0) hx (HG.out.below hK2.out)
        have hw := fun (V : World) m h h2 h3 => writeString_any (w := V) W.heap.size W.heap.size m (decDigits (l.getD i 0)) h h2 h3
        have hlen := Lib.decDigits_length (l.getD i 0)
        have hsz : (⟨(decDigits (l.getD i 0)).toArray⟩ : ByteArray).size = nDigits (l.getD i 0) := by show (decDigits (l.getD i 0)).toArray.size = _; rw [List.size_toArray, hlen]
        have hfst := fun h => @shown_first l i h
        have hnxt := fun h => shown_next (j := i) HH.out.1 HH.out.2.1 h
        have hshl := shown_len (l := l) (k := i + 1) HH.out.1
        have hzs := zeros_slice hn9
        rw [HK.out] at hfst hnxt hshl
        have hzl : (List.replicate (9 - nDigits (l.getD i 0)) (48 : UInt8)).length ≤ 9 := by simp
        generalize l.getD i 0 = x at *
        generalize (⟨(decDigits x).toArray⟩ : ByteArray) = ds at *
        generalize nDigits x = nx at *
        generalize decDigits x = dx at *
        generalize List.replicate (9 - nx) (48 : UInt8) = zx at *
        have HIT := Lib.hid hit
        have HW2 := Lib.hid hw
        have HFST := Lib.hid hfst
        have HNXT := Lib.hid hnxt
        have HDL := Lib.hid hlen
        clear hit hw hfst hnxt hlen
        have hdl : dx.length ≤ 9 := by rw [HDL.out]; exact hn9
        by_cases hik : i + 1 < k
        · have hc1 : decide ((i : Int) < (k : Int) - 1) = true := by simp; omega
          have hc2 : (i : Int) < (k : Int) - 1 := by omega
          go_wp2_with (first
            | (go_at_call 87; refine HIT.out.mono ?_; rintro e w2 ⟨rfl, hb2⟩; have z0 := keepc (next_below hK2.out hb2) j1.cell0 j1.lt; have z1 := keepc (next_below hK2.out hb2) j1.cell1 j1.lt)
            | (go_at_call_of 88 (Value.string ds); refine (HW2.out _ _ hd3 (by simp; omega) (by have := hK3.size; omega)).mono ?_; rintro e w4 ⟨rfl, hd4, hb4⟩)
            | (go_at_call 88; refine (writeString_any _ _ _ zx _ (hD2.out.below hb2) (by simp; omega) (by have := hK2.out.size; have := hb2.size; omega)).mono ?_; rintro e w3 ⟨rfl, hd3, hb3⟩; have hK3 := (next_below hK2.out hb2).trans hb3))
          go_roundw
          case rel => exact ⟨i, by omega, by go_num, Lib.hid (by rw [← HNXT.out hik]; simpa using hd4), Lib.hid (hK3.trans hb4)⟩
          case measure => simp [intOf]
        · have hc1 : decide ((i : Int) < (k : Int) - 1) = false := by simp; omega
          have hc2 : ¬ (i : Int) < (k : Int) - 1 := by omega
          have hki := Lib.hid (show i + 1 = k by omega)
          go_wp2_with (first
            | (go_at_call 87; refine HIT.out.mono ?_; rintro e w2 ⟨rfl, hb2⟩; have z0 := keepc (next_below hK2.out hb2) j1.cell0 j1.lt; have z1 := keepc (next_below hK2.out hb2) j1.cell1 j1.lt)
            | (go_at_call 88; refine (HW2.out _ _ (hD2.out.below hb2) (by simp; omega) (by have := hK2.out.size; have := hb2.size; omega)).mono ?_; rintro e w4 ⟨rfl, hd4, hb4⟩))
          go_roundw
          case rel => exact ⟨i, by omega, by go_num, Lib.hid (by rw [hki.out, HSH.out, List.append_nil, HFST.out hki.out] at hd4; exact hd4), Lib.hid ((next_below hK2.out hb2).trans hb4)⟩
          case measure => simp [intOf]

theorem text_any {w : World} {v : Value} {n : Int} (h : Wh w v n) (s : Fit n) (hg : Good w) :
    Calls Tryz.prog 39 #[v] w (RetV w (.string ⟨(itoa n).toArray⟩)) := by
  by_cases hn : n = 0
  · subst hn; exact text_zero h hg
  · exact text_pos h s hg hn

end Go.Proofs.YtmhneibcbjgedaaGreatDoor
