/- The contract of exact.Small: the integer of an int. -/
import Derived.Test.YtmhneibcbjgedaaGreatDoorSub
set_option linter.unusedSimpArgs false
set_option linter.unusedVariables false
namespace Go.Proofs.YtmhneibcbjgedaaGreatDoor
open Go.RowKit

theorem limbs_len_cut {N x : Nat} {xs : List Nat} (h : limbs N = xs ++ limbs x) : xs.length ≤ (limbs N).length := by
  have := congrArg List.length h
  simp at this; omega

theorem limbs_cut {N x : Nat} {xs : List Nat} (h : limbs N = xs ++ limbs x) (hx : 0 < x) : limbs N = (xs ++ [x % 1000000000]) ++ limbs (x / 1000000000) := by
  rw [h, limbs_pos hx, List.append_assoc, List.singleton_append]

theorem Row.len {w : World} {B : Nat} {v : Value} {l : List Nat} (h : Row w B v l) : ∃ a, ∃ c : Nat, v = .slice a l.length c := by
  obtain ⟨hl, h⟩ := h
  rcases h with ⟨rfl, h0⟩ | ⟨g, cap, cur, rfl, _⟩
  · exact ⟨none, 0, by rw [h0]⟩
  · exact ⟨_, cap, rfl⟩

theorem Row.nil (w : World) (B : Nat) : Row w B (.slice none 0 0) [] := World.ownsRow_nil _ _ _ _

theorem Row.ne {w : World} {B g : Nat} {v : Value} {l : List Nat} (h : Row w B v l) (hg : g < B) : some g ≠ v.ownBlock := by
  intro e
  have := World.ownsRow.lt h g e.symm
  omega

theorem Row.far {w : World} {B g i : Nat} {v u : Value} {l : List Nat} (h : Row w B v l) (hg : some g ≠ v.ownBlock) : Row (w.setCell ⟨g, i, none⟩ u) B v l :=
  World.ownsRow.kept (row := some g) h ⟨rfl, rfl, rfl, by simp [World.setCell], fun k _ hk => Below.heap_setCell _ _ _ _ (fun e => hk (by simp [e]))⟩ (Or.inr (fun e => hg e.symm))

theorem small_neg {n : Int} (h0 : n < 0) (h : -9223372036854775808 ≤ n) : IntKind.u64.wrap (-IntKind.u64.wrap n) = (n.natAbs : Int) := by
  have e1 : IntKind.u64.wrap n = n + 18446744073709551616 := by
    simp [IntKind.wrap, IntKind.bits, IntKind.signed]
    omega
  rw [e1]
  simp [IntKind.wrap, IntKind.bits, IntKind.signed]
  omega

theorem bool_two {b : Bool} {p : Prop} [Decidable p] (h : decide p = b) : (b = true ∧ p) ∨ (b = false ∧ ¬ p) := by
  cases b
  · exact .inr ⟨rfl, by simpa using h⟩
  · exact .inl ⟨rfl, by simpa using h⟩

set_option maxHeartbeats 1000000 in
set_option maxRecDepth 100000 in
theorem small_any {w : World} {n : Int} (hn1 : -9223372036854775808 ≤ n) (hn2 : n ≤ 9223372036854775807) :
    Calls Tryz.prog 83 #[.int .i64 n] w (RetW w n) := by
  obtain ⟨i0, hi, hz0, hz1, hz2⟩ := info_parts info32
  have hlen : (limbs n.natAbs).length ≤ 3 := limbs_len_le (by omega)
  obtain ⟨b, hb⟩ : ∃ b, decide (n < 0) = b := ⟨_, rfl⟩
  have HBE := Lib.hid hb
  have HLEN := Lib.hid hlen
  clear hlen
  obtain ⟨W, hW, hB, hsz, j1, j2⟩ := ent2 w 65 #[.bool false, .slice none 0 0] #[.bool b, .slice none 0 0]
  have HW := Lib.hid hW
  have HSZ := Lib.hid hsz
  clear hW hsz
  rcases bool_two hb with ⟨rfl, h0⟩ | ⟨rfl, h0⟩
  case' inl => have hneg := small_neg h0 hn1
  all_goals
    clear hb
    go_enter Tryz.func83, Tryz.ntmps83
    go_upto_region 5 with fail
    rw [← HW.out]
    have b0 : w.heap.size < W.heap.size := by have := HSZ.out; omega
    have b1 : w.heap.size + 1 < W.heap.size := by have := HSZ.out; omega
    have b2 : w.heap.size ≤ W.heap.size := Nat.le_of_lt b0
    have e0 : (n.natAbs : Nat) ≤ 9223372036854775808 := by omega
    go_loopw [4] (fun u wr => ∃ (x : Nat) (xs : List Nat) (v : Value), u = .int .u64 x ∧ x ≤ 9223372036854775808 ∧ Hid (limbs n.natAbs = xs ++ limbs x) ∧ Hid (Row wr (w.heap.size + 2) v xs) ∧ Hid (Blk wr w.heap.size 65 #[.bool false, .slice none 0 0]) ∧ Hid (Blk wr (w.heap.size + 1) 65 #[.bool (decide (n < 0)), v]) ∧ Hid (Below w.heap.size w wr) ∧ Hid (w.heap.size + 2 ≤ wr.heap.size)) (fun u _ => (intOf u).toNat)
    case atStart => exact ⟨n.natAbs, [], _, by first | rfl | (congr 1; omega), e0, Lib.hid rfl, Lib.hid (Row.nil _ _), Lib.hid j1, Lib.hid (by rw [HBE.out]; exact j2), Lib.hid hB, Lib.hid (by have := HSZ.out; omega)⟩
    case round =>
      obtain ⟨x, xs, v, rfl, hx, hL, hR, hJ1, hJ2, hK, hS⟩ := hrel
      obtain ⟨a, c, rfl⟩ := hR.out.len
      have hxs : xs.length ≤ 3 := Nat.le_trans (limbs_len_cut hL.out) HLEN.out
      have y0 := hJ2.out.cell0
      have y1 := hJ2.out.cell1
      rw [HBE.out] at y0
      generalize hk : xs.length = k at y1 hxs hR hJ2
      have HKL := Lib.hid hk
      clear hk
      by_cases hx0 : x = 0
      · subst hx0
        have y2 := hJ1.out.frozen 0
        have y3 := hJ1.out.frozen 1
        have y4 := hJ1.out.cell0
        have y5 := hJ1.out.cell1
        go_wp2
        have hl : xs = limbs n.natAbs := by have := hL.out; simp [limbs_zero] at this; exact this.symm
        have hj := hJ1.out.two (.bool (decide (n < 0))) (.slice a k c)
        rw [HBE.out] at hj
        have d0 := hj.cell0
        have d1 := hj.cell1
        refine bodyPost_ret (v := .agg #[.bool (decide (n < 0)), .slice a k c]) (by simp [results, Tryz.results83, go_sem, d0, d1, HBE.out]) rfl ⟨_, rfl, ?_, below_two hK.out (Nat.le_refl _) _ _⟩
        refine ⟨.slice a k c, rfl, ?_⟩
        have hr := hR.out.lim
        rw [hl] at hr
        exact (hr.far hJ1.out (by decide) _).far (hJ1.out.set_ 0 _) (by decide) _
      · have hown : wr.ownsRow (w.heap.size + 2) 122 1 (.slice a k c) k (xs.map fun (x : Nat) => Value.int .u32 x) := by have h := hR.out; unfold Row at h; rwa [HKL.out] at h
        have hne : some (w.heap.size + 1) ≠ (Value.slice a k c).ownBlock := hR.out.ne (by omega)
        have hne0 : some (w.heap.size) ≠ (Value.slice a k c).ownBlock := hR.out.ne (by omega)
        have hx1 : (0 < (x : Int)) := by omega
        have HNE := Lib.hid hne
        have HNE0 := Lib.hid hne0
        clear hne hne0
        go_wp2_with (at_builtin; refine wpList_append_own _ rfl (.tmp 19) (.tmp 23) 63 rfl (w.heap.size + 2) 122 i0 (.int .u32 0) 1 4 Tryz.underlying63 hi hz0 hz1 hz2 rfl (by decide) (.slice a k c) k _ rfl (hown.alloc _) ⟨wr.heap.size, 0, none⟩ 1 1 [.int .u32 ((x : Int) % 1000000000)] rfl rfl (cell_new_u32 _ _ _) (by intro u hu; simp at hu; subst hu; rfl) (by unfold maxLen; omega) (by omega) (by have := hS.out; simp; omega) ?_; intro v' w1 hown1 hgrow1 hnil1; have hr1 : Row w1 (w.heap.size + 2) v' (xs ++ [x % 1000000000]) := Row.snoc (by rw [HKL.out]; exact hown1) (by omega); obtain ⟨a', c', rfl⟩ := hr1.len; have g1 := ((hJ2.out.alloc _).grown hgrow1 HNE.out).frozen 1; have g2 := ((hJ2.out.alloc _).grown hgrow1 HNE.out).cell1)
        go_roundw
        case rel => exact ⟨x / 1000000000, xs ++ [x % 1000000000], _, by go_num, by omega, Lib.hid (limbs_cut hL.out (by omega)), Lib.hid (hr1.far (hr1.ne (by omega))), Lib.hid (((hJ1.out.alloc _).grown hgrow1 HNE0.out).far (p := ⟨w.heap.size + 1, 1, none⟩) (by simp) _), Lib.hid (by simpa using ((hJ2.out.alloc _).grown hgrow1 HNE.out).set_ 1 (.slice a' (xs ++ [x % 1000000000]).length c')), Lib.hid (((hK.out.alloc (hK.out.size) _).grown hgrow1 (by have := hK.out.size; simp; omega) (fun q hq => by have := World.ownsRow.lt hR.out q hq; omega)).setCell (p := ⟨w.heap.size + 1, 1, none⟩) (by simp) _), Lib.hid (by have h1 := hgrow1.size; have h2 := hS.out; simp [World.setCell] at h1 ⊢; omega)⟩
        case measure => simp [intOf]; omega

end Go.Proofs.YtmhneibcbjgedaaGreatDoor
