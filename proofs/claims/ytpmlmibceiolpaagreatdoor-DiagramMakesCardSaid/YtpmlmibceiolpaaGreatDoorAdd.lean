/- The contracts of limbs.plus, limbs.minus: sums and differences of magnitudes. -/
import Derived.Test.YtpmlmibceiolpaaGreatDoorWhole
import Derived.Outline
import Derived.Deep.RegionHeld3
set_option linter.unusedSimpArgs false
set_option linter.unusedVariables false
namespace Go.Proofs.YtpmlmibceiolpaaGreatDoor
open Go.RowKit

/-- What a function hands back that makes limbs. -/
def RetL (w : World) (p : List Nat → Prop) (e : Ending) (w' : World) : Prop := ∃ r l, e = .returned r ∧ Lim w' r l ∧ Ok l ∧ p l ∧ Below w.heap.size w w'

/-- The relation of the loop of plus: k limbs are there. -/
def PlusRel (m o : List Nat) (k c : Nat) (xs : List Nat) : Prop :=
  xs.length = k ∧ Ok xs ∧ c ≤ 1 ∧ val xs + 1000000000 ^ k * c = val (m.take k) + val (o.take k)

theorem val_take_succ (l : List Nat) (k : Nat) : val (l.take (k + 1)) = val (l.take k) + 1000000000 ^ k * l.getD k 0 := by
  rcases Nat.lt_or_ge k l.length with h | h
  · rw [List.take_succ_eq_append_getElem h, val_snoc]
    simp [List.getD, List.getElem?_eq_getElem h, Nat.min_eq_left (Nat.le_of_lt h)]
  · rw [List.take_of_length_le (by omega), List.take_of_length_le (by omega)]
    simp [List.getD, List.getElem?_eq_none h]

theorem PlusRel.start (m o : List Nat) : PlusRel m o 0 0 [] := ⟨rfl, Ok.nil, by omega, by simp [val]⟩

theorem PlusRel.step {m o : List Nat} {k c : Nat} {xs : List Nat} (h : PlusRel m o k c xs) {n : Nat} (hn : n = m.getD k 0 + c + o.getD k 0) (hm : m.getD k 0 < 1000000000) (ho : o.getD k 0 < 1000000000) :
    PlusRel m o (k + 1) (n / 1000000000) (xs ++ [n % 1000000000]) := by
  obtain ⟨h1, h2, h3, h4⟩ := h
  refine ⟨by simp [h1], h2.append (Ok.cons (Nat.mod_lt _ (by omega)) Ok.nil), by omega, ?_⟩
  rw [val_snoc, h1, val_take_succ, val_take_succ, Nat.pow_succ]
  have e : n % 1000000000 + 1000000000 * (n / 1000000000) = n := Nat.mod_add_div n 1000000000
  have e2 : 1000000000 ^ k * (n % 1000000000) + 1000000000 ^ k * 1000000000 * (n / 1000000000) = 1000000000 ^ k * n := by
    rw [Nat.mul_assoc, ← Nat.mul_add, e]
  have e3 : 1000000000 ^ k * n = 1000000000 ^ k * m.getD k 0 + 1000000000 ^ k * c + 1000000000 ^ k * o.getD k 0 := by rw [hn, Nat.mul_add, Nat.mul_add]
  omega

theorem PlusRel.done {m o : List Nat} {c : Nat} {xs : List Nat} (h : PlusRel m o m.length c xs) (hl : o.length ≤ m.length) : val xs + 1000000000 ^ m.length * c = val m + val o := by
  have := h.2.2.2
  rwa [List.take_length, List.take_of_length_le hl] at this

set_option maxHeartbeats 1000000 in
set_option maxRecDepth 100000 in
theorem plus_core {w : World} (sw : Bool) {v1 v2 : Value} {l1 l2 : List Nat} (h1 : Lim w v1 l1) (h2 : Lim w v2 l2) (o1 : Ok l1) (o2 : Ok l2) (hsz : l1.length ≤ 1073741824) (hsw : if sw then l2.length < l1.length else l2.length ≤ l1.length) :
    Calls Tryz.prog 118 (if sw then #[v2, v1] else #[v1, v2]) w (RetL w fun l => val l = val l1 + val l2) := by
  obtain ⟨i0, hi, hz0, hz1, hz2⟩ := info_parts info32
  obtain ⟨a1, c1, rfl, hc1, hm1, h1⟩ := h1
  obtain ⟨a2, c2, rfl, hc2, hm2, h2⟩ := h2
  unfold maxLen at hm1 hm2
  have hle : l2.length ≤ l1.length := by cases sw <;> simp at hsw <;> omega
  have HLE := Lib.hid hle
  generalize hn1 : l1.length = n1 at *
  generalize hn2 : l2.length = n2 at *
  have HN1 := Lib.hid hn1
  have HN2 := Lib.hid hn2
  clear hn1 hn2
  cases sw
  all_goals
    simp only [if_true, if_false, Bool.false_eq_true] at hsw ⊢
    go_enter Tryz.func118, Tryz.ntmps118
    go_wp2_with (at_make; refine wpList_make_own _ rfl _ _ 84 rfl w.heap.size 143 i0 (.int .u32 0) 1 Tryz.underlying84 hi hz0 hz1 _ _ _ (n1 + 1) rfl rfl (by omega) (by rw [hz2]; omega) (by unfold maxLen; omega) (Nat.le_refl _) ?_; intro w0 hown0 hgrow0)
    go_loopw [5, 6, 23] (fun out c i wr => ∃ (k cc : Nat) (xs : List Nat), k ≤ n1 ∧ i = .int .i64 k ∧ out = .slice (some ⟨w.heap.size, 0, none⟩) k (n1 + 1) ∧ c = .int .u32 cc ∧ PlusRel l1 l2 k cc xs ∧ Row wr w.heap.size out xs ∧ Below w.heap.size w wr)
      (fun _ _ i _ => n1 - (intOf i).toNat)
    case atStart => exact ⟨0, 0, [], Nat.zero_le _, rfl, rfl, rfl, PlusRel.start _ _, hown0, (Below.refl _ _).grown hgrow0 (Nat.le_refl _) (fun k h => by cases h)⟩
    case round =>
      obtain ⟨k, cc, xs, hk, rfl, rfl, rfl, hP, hrow, hB⟩ := hrel
      have hcc : cc ≤ 1 := hP.2.2.1
      have HX := Lib.hid hP.1
      have hown : wr.ownsRow w.heap.size 143 1 (.slice (some ⟨w.heap.size, 0, none⟩) k (n1 + 1)) k (xs.map fun (x : Nat) => Value.int .u32 x) := by have h := hrow; unfold Row at h; rwa [HX.out] at h
      by_cases hlt : k < n1
      · rcases h1 with h1 | ⟨b1, p1, rfl, hc⟩
        · exfalso; have := HN1.out; rw [h1] at this; simp at this; omega
        have hb1 := hc.lt
        have g1 : wr.cell? ⟨b1, p1 + k, none⟩ = some (.int .u32 (l1.getD k 0)) := (hB.cell (p := ⟨b1, p1 + k, none⟩) hb1).trans (hc.2 k (by have := HN1.out; omega))
        have hx := o1.getD k
        have hst := fun n hn => hP.step (n := n) hn (o1.getD k) (o2.getD k)
        generalize hxe : l1.getD k 0 = x at g1 hx hst
        have hy := o2.getD k
        generalize hye : l2.getD k 0 = y at hy hst
        have HXE := Lib.hid hxe
        have HYE := Lib.hid hye
        have HST := Lib.hid hst
        clear hxe hye hst
        have hsz1 := hB.size
        by_cases hlt2 : k < n2
        · rcases h2 with h2 | ⟨b2, p2, rfl, hc'⟩
          · exfalso; have := HN2.out; rw [h2] at this; simp at this; omega
          have hb2 := hc'.lt
          have g2 : wr.cell? ⟨b2, p2 + k, none⟩ = some (.int .u32 (l2.getD k 0)) := (hB.cell (p := ⟨b2, p2 + k, none⟩) hb2).trans (hc'.2 k (by have := HN2.out; omega))
          rw [HYE.out] at g2
          go_wp2_with (at_builtin; refine wpList_append_fits _ rfl (.tmp 43) (.tmp 46) 84 rfl w.heap.size 143 i0 1 Tryz.underlying84 hi hz1 w.heap.size k (n1 + 1) _ rfl (hown.alloc _) ⟨wr.heap.size, 0, none⟩ 1 1 [.int .u32 (((x : Int) + cc + y) % 1000000000)] rfl rfl (cell_new_u32 _ _ _) (by intro u hu; simp at hu; subst hu; rfl) (by omega) ?_; intro w1 hown1 hgrow1)
          go_roundw
          case rel => exact ⟨k + 1, (x + cc + y) / 1000000000, xs ++ [(x + cc + y) % 1000000000], by omega, by go_num, by go_num, by go_num, HST.out _ rfl, Row.snoc (by rw [HX.out]; exact hown1) (by omega), (hB.alloc hsz1 _).grown hgrow1 (by simp; omega) (fun k h => by cases h; exact Nat.le_refl _)⟩
          case measure => simp [intOf]; omega
        · have hy0 : y = 0 := by rw [← HYE.out]; simp [List.getD, List.getElem?_eq_none (by have := HN2.out; omega : l2.length ≤ k)]
          have HY0 := Lib.hid hy0
          clear hy0
          go_wp2_with (at_builtin; refine wpList_append_fits _ rfl (.tmp 43) (.tmp 46) 84 rfl w.heap.size 143 i0 1 Tryz.underlying84 hi hz1 w.heap.size k (n1 + 1) _ rfl (hown.alloc _) ⟨wr.heap.size, 0, none⟩ 1 1 [.int .u32 (((x : Int) + cc) % 1000000000)] rfl rfl (cell_new_u32 _ _ _) (by intro u hu; simp at hu; subst hu; rfl) (by omega) ?_; intro w1 hown1 hgrow1)
          go_roundw
          case rel => exact ⟨k + 1, (x + cc) / 1000000000, xs ++ [(x + cc) % 1000000000], by omega, by go_num, by go_num, by go_num, HST.out _ (by have := HY0.out; omega), Row.snoc (by rw [HX.out]; exact hown1) (by omega), (hB.alloc hsz1 _).grown hgrow1 (by simp; omega) (fun k h => by cases h; exact Nat.le_refl _)⟩
          case measure => simp [intOf]; omega
      · obtain rfl : k = n1 := by omega
        have hfin := (HN1.out ▸ hP : PlusRel l1 l2 l1.length cc xs).done (by have := HN1.out; have := HN2.out; omega)
        have HF := Lib.hid hfin
        have HP := Lib.hid hP
        clear hfin hP
        have hsz1 := hB.size
        by_cases hc0 : cc = 0
        · subst hc0
          go_wp2
          go_ret
          exact ⟨_, xs, rfl, hrow.lim, HP.out.2.1, by have := HF.out; omega, hB⟩
        · obtain rfl : cc = 1 := by omega
          go_wp2_with (at_builtin; refine wpList_append_fits _ rfl (.tmp 51) (.tmp 53) 84 rfl w.heap.size 143 i0 1 Tryz.underlying84 hi hz1 w.heap.size k (k + 1) _ rfl (hown.alloc _) ⟨wr.heap.size, 0, none⟩ 1 1 [.int .u32 1] rfl rfl (cell_new_u32 _ _ _) (by intro u hu; simp at hu; subst hu; rfl) (by omega) ?_; intro w1 hown1 hgrow1)
          go_ret
          have hrow1 : Row w1 w.heap.size (.slice (some ⟨w.heap.size, 0, none⟩) (k + 1) (k + 1)) (xs ++ [1]) := Row.snoc (by rw [HX.out]; exact hown1) rfl
          refine ⟨_, xs ++ [1], rfl, hrow1.lim, HP.out.2.1.append (Ok.cons (by omega) Ok.nil), ?_, (hB.alloc hsz1 _).grown hgrow1 (by simp; omega) (fun k h => by cases h; exact Nat.le_refl _)⟩
          show val (xs ++ [1]) = _
          rw [val_snoc, HX.out]
          have := HF.out
          rw [HN1.out] at this
          omega

theorem plus_any {w : World} {v1 v2 : Value} {l1 l2 : List Nat} (h1 : Lim w v1 l1) (h2 : Lim w v2 l2) (o1 : Ok l1) (o2 : Ok l2) (hsz1 : l1.length ≤ 1073741824) (hsz2 : l2.length ≤ 1073741824) :
    Calls Tryz.prog 118 #[v1, v2] w (RetL w fun l => val l = val l1 + val l2) := by
  rcases Nat.lt_or_ge l1.length l2.length with h | h
  · exact (plus_core true h2 h1 o2 o1 hsz2 (by simpa using h)).mono fun e w' ⟨r, l, he, hl, ho, hv, hb⟩ => ⟨r, l, he, hl, ho, hv.trans (Nat.add_comm _ _), hb⟩
  · exact plus_core false h1 h2 o1 o2 hsz1 (by simpa using h)

end Go.Proofs.YtpmlmibceiolpaaGreatDoor

/- The contract of limbs.minus: the difference of magnitudes, of which the second is not greater. -/
set_option linter.unusedSimpArgs false
set_option linter.unusedVariables false
namespace Go.Proofs.YtpmlmibceiolpaaGreatDoor
open Go.RowKit

/-- The relation of the loop of minus: k limbs are there, and what is borrowed. -/
def MinusRel (m o : List Nat) (k c : Nat) (xs : List Nat) : Prop :=
  xs.length = k ∧ Ok xs ∧ c ≤ 1 ∧ val xs + val (o.take k) = val (m.take k) + 1000000000 ^ k * c

theorem MinusRel.start (m o : List Nat) : MinusRel m o 0 0 [] := ⟨rfl, Ok.nil, by omega, by simp [val]⟩

theorem MinusRel.step {m o : List Nat} {k c : Nat} {xs : List Nat} (h : MinusRel m o k c xs) {n c' : Nat} (hn : n + c + o.getD k 0 = m.getD k 0 + 1000000000 * c') (hn1 : n < 1000000000) (hc : c' ≤ 1) :
    MinusRel m o (k + 1) c' (xs ++ [n]) := by
  obtain ⟨h1, h2, h3, h4⟩ := h
  refine ⟨by simp [h1], h2.append (Ok.cons hn1 Ok.nil), hc, ?_⟩
  rw [val_snoc, h1, val_take_succ, val_take_succ, Nat.pow_succ]
  have e3 : 1000000000 ^ k * (n + c + o.getD k 0) = 1000000000 ^ k * (m.getD k 0 + 1000000000 * c') := by rw [hn]
  rw [Nat.mul_add, Nat.mul_add, Nat.mul_add, ← Nat.mul_assoc] at e3
  omega

theorem MinusRel.done {m o : List Nat} {c : Nat} {xs : List Nat} (h : MinusRel m o m.length c xs) (hl : o.length ≤ m.length) (hv : val o ≤ val m) : val xs = val m - val o := by
  have h4 := h.2.2.2
  have h5 := val_lt h.2.1
  rw [h.1] at h5
  rw [List.take_length, List.take_of_length_le hl] at h4
  have h3 := h.2.2.1
  rcases Nat.eq_zero_or_pos c with h0 | h0
  · subst h0; omega
  · obtain rfl : c = 1 := by omega
    omega

set_option maxHeartbeats 1000000 in
set_option maxRecDepth 100000 in
theorem minus_any {w : World} {v1 v2 : Value} {l1 l2 : List Nat} (h1 : Lim w v1 l1) (h2 : Lim w v2 l2) (o1 : Ok l1) (o2 : Ok l2) (hsz : l1.length ≤ 1073741824) (hle : l2.length ≤ l1.length) (hv : val l2 ≤ val l1) :
    Calls Tryz.prog 120 #[v1, v2] w (RetL w fun l => val l = val l1 - val l2) := by
  obtain ⟨i0, hi, hz0, hz1, hz2⟩ := info_parts info32
  obtain ⟨a1, c1, rfl, hc1, hm1, h1⟩ := h1
  obtain ⟨a2, c2, rfl, hc2, hm2, h2⟩ := h2
  unfold maxLen at hm1 hm2
  have HLE := Lib.hid hle
  have HV := Lib.hid hv
  clear hv
  generalize hn1 : l1.length = n1 at *
  generalize hn2 : l2.length = n2 at *
  have HN1 := Lib.hid hn1
  have HN2 := Lib.hid hn2
  clear hn1 hn2
  go_enter Tryz.func120, Tryz.ntmps120
  go_wp2_with (at_make; refine wpList_make_own _ rfl _ _ 84 rfl w.heap.size 143 i0 (.int .u32 0) 1 Tryz.underlying84 hi hz0 hz1 _ _ _ n1 rfl rfl (by omega) (by rw [hz2]; omega) (by unfold maxLen; omega) (Nat.le_refl _) ?_; intro w0 hown0 hgrow0)
  go_loopw [5, 6, 15] (fun out c i wr => ∃ (k cc : Nat) (xs : List Nat), k ≤ n1 ∧ i = .int .i64 k ∧ out = .slice (some ⟨w.heap.size, 0, none⟩) k n1 ∧ c = .int .i64 cc ∧ MinusRel l1 l2 k cc xs ∧ Row wr w.heap.size out xs ∧ Below w.heap.size w wr)
      (fun _ _ i _ => n1 - (intOf i).toNat)
  case atStart => exact ⟨0, 0, [], Nat.zero_le _, rfl, rfl, rfl, MinusRel.start _ _, hown0, (Below.refl _ _).grown hgrow0 (Nat.le_refl _) (fun k h => by cases h)⟩
  case round =>
    obtain ⟨k, cc, xs, hk, rfl, rfl, rfl, hP, hrow, hB⟩ := hrel
    have hcc : cc ≤ 1 := hP.2.2.1
    have HX := Lib.hid hP.1
    have hown : wr.ownsRow w.heap.size 143 1 (.slice (some ⟨w.heap.size, 0, none⟩) k n1) k (xs.map fun (x : Nat) => Value.int .u32 x) := by have h := hrow; unfold Row at h; rwa [HX.out] at h
    by_cases hlt : k < n1
    · rcases h1 with h1 | ⟨b1, p1, rfl, hc⟩
      · exfalso; have := HN1.out; rw [h1] at this; simp at this; omega
      have hb1 := hc.lt
      have g1 : wr.cell? ⟨b1, p1 + k, none⟩ = some (.int .u32 (l1.getD k 0)) := (hB.cell (p := ⟨b1, p1 + k, none⟩) hb1).trans (hc.2 k (by have := HN1.out; omega))
      have hx := o1.getD k
      have hst := fun n c' hn => hP.step (n := n) (c' := c') hn
      generalize hxe : l1.getD k 0 = x at g1 hx hst
      have hy := o2.getD k
      generalize hye : l2.getD k 0 = y at hy hst
      have HXE := Lib.hid hxe
      have HYE := Lib.hid hye
      have HST := Lib.hid hst
      clear hxe hye hst
      have hsz1 := hB.size
      by_cases hlt2 : k < n2
      · rcases h2 with h2 | ⟨b2, p2, rfl, hc'⟩
        · exfalso; have := HN2.out; rw [h2] at this; simp at this; omega
        have hb2 := hc'.lt
        have g2 : wr.cell? ⟨b2, p2 + k, none⟩ = some (.int .u32 (l2.getD k 0)) := (hB.cell (p := ⟨b2, p2 + k, none⟩) hb2).trans (hc'.2 k (by have := HN2.out; omega))
        rw [HYE.out] at g2
        by_cases hneg : (x : Int) - cc - y < 0
        · go_wp2_with (at_builtin; refine wpList_append_fits _ rfl (.tmp 39) (.tmp 42) 84 rfl w.heap.size 143 i0 1 Tryz.underlying84 hi hz1 w.heap.size k n1 _ rfl (hown.alloc _) ⟨wr.heap.size, 0, none⟩ 1 1 [.int .u32 ((x : Int) - cc - y + 1000000000)] rfl rfl (cell_new_u32 _ _ _) (by intro u hu; simp at hu; subst hu; rfl) (by omega) ?_; intro w1 hown1 hgrow1)
          go_roundw
          case rel => exact ⟨k + 1, 1, xs ++ [x + 1000000000 - cc - y], by omega, by go_num, by go_num, by go_num, HST.out _ _ (by omega) (by omega) (by omega), Row.snoc (by rw [HX.out]; exact hown1) (by omega), (hB.alloc hsz1 _).grown hgrow1 (by simp; omega) (fun k h => by cases h; exact Nat.le_refl _)⟩
          case measure => simp [intOf]; omega
        · go_wp2_with (at_builtin; refine wpList_append_fits _ rfl (.tmp 39) (.tmp 42) 84 rfl w.heap.size 143 i0 1 Tryz.underlying84 hi hz1 w.heap.size k n1 _ rfl (hown.alloc _) ⟨wr.heap.size, 0, none⟩ 1 1 [.int .u32 ((x : Int) - cc - y)] rfl rfl (cell_new_u32 _ _ _) (by intro u hu; simp at hu; subst hu; rfl) (by omega) ?_; intro w1 hown1 hgrow1)
          go_roundw
          case rel => exact ⟨k + 1, 0, xs ++ [x - cc - y], by omega, by go_num, by go_num, by go_num, HST.out _ _ (by omega) (by omega) (by omega), Row.snoc (by rw [HX.out]; exact hown1) (by omega), (hB.alloc hsz1 _).grown hgrow1 (by simp; omega) (fun k h => by cases h; exact Nat.le_refl _)⟩
          case measure => simp [intOf]; omega
      · have hy0 : y = 0 := by rw [← HYE.out]; simp [List.getD, List.getElem?_eq_none (by have := HN2.out; omega : l2.length ≤ k)]
        have HY0 := Lib.hid hy0
        clear hy0
        by_cases hneg : (x : Int) - cc < 0
        · go_wp2_with (at_builtin; refine wpList_append_fits _ rfl (.tmp 39) (.tmp 42) 84 rfl w.heap.size 143 i0 1 Tryz.underlying84 hi hz1 w.heap.size k n1 _ rfl (hown.alloc _) ⟨wr.heap.size, 0, none⟩ 1 1 [.int .u32 ((x : Int) - cc + 1000000000)] rfl rfl (cell_new_u32 _ _ _) (by intro u hu; simp at hu; subst hu; rfl) (by omega) ?_; intro w1 hown1 hgrow1)
          go_roundw
          case rel => exact ⟨k + 1, 1, xs ++ [x + 1000000000 - cc], by omega, by go_num, by go_num, by go_num, HST.out _ _ (by have := HY0.out; omega) (by omega) (by omega), Row.snoc (by rw [HX.out]; exact hown1) (by omega), (hB.alloc hsz1 _).grown hgrow1 (by simp; omega) (fun k h => by cases h; exact Nat.le_refl _)⟩
          case measure => simp [intOf]; omega
        · go_wp2_with (at_builtin; refine wpList_append_fits _ rfl (.tmp 39) (.tmp 42) 84 rfl w.heap.size 143 i0 1 Tryz.underlying84 hi hz1 w.heap.size k n1 _ rfl (hown.alloc _) ⟨wr.heap.size, 0, none⟩ 1 1 [.int .u32 ((x : Int) - cc)] rfl rfl (cell_new_u32 _ _ _) (by intro u hu; simp at hu; subst hu; rfl) (by omega) ?_; intro w1 hown1 hgrow1)
          go_roundw
          case rel => exact ⟨k + 1, 0, xs ++ [x - cc], by omega, by go_num, by go_num, by go_num, HST.out _ _ (by have := HY0.out; omega) (by omega) (by omega), Row.snoc (by rw [HX.out]; exact hown1) (by omega), (hB.alloc hsz1 _).grown hgrow1 (by simp; omega) (fun k h => by cases h; exact Nat.le_refl _)⟩
          case measure => simp [intOf]; omega
    · obtain rfl : k = n1 := by omega
      have hfin := (HN1.out ▸ hP : MinusRel l1 l2 l1.length cc xs).done (by have := HN1.out; have := HN2.out; omega) HV.out
      have HF := Lib.hid hfin
      have HP := Lib.hid hP
      clear hfin hP
      go_wp2
      go_ret
      exact ⟨_, xs, rfl, hrow.lim, HP.out.2.1, HF.out, hB⟩

end Go.Proofs.YtpmlmibceiolpaaGreatDoor

/- The contracts of Whole.Sign, Whole.Neg, Whole.Sub .. of the package exact: the small methods. -/
set_option linter.unusedSimpArgs false
set_option linter.unusedVariables false
namespace Go.Proofs.YtpmlmibceiolpaaGreatDoor
open Go.RowKit

/-- What a function hands back: this value; what was there is as it was. -/
def RetV (w : World) (v : Value) (e : Ending) (w' : World) : Prop := e = .returned v ∧ Below w.heap.size w w'

/-- The value of an integer, opened. -/
theorem Wh.form {w : World} {v : Value} {n : Int} (h : Wh w v n) : ∃ a cap, v = .agg #[.bool (decide (n < 0)), .slice a (limbs n.natAbs).length cap] ∧ Lim w (.slice a (limbs n.natAbs).length cap) (limbs n.natAbs) := by
  obtain ⟨sv, rfl, hl⟩ := h
  obtain ⟨a, cap, rfl, h1⟩ := id hl
  exact ⟨a, cap, rfl, hl⟩

theorem Wh.two {w : World} {v : Value} {n : Int} {g : Nat} {t : TypeId} {u0 u1 : Value} (h : Wh w v n) (hb : Blk w g t #[u0, u1]) (ht : t ≠ 143) (x y : Value) : Wh ((w.setCell ⟨g, 0, none⟩ x).setCell ⟨g, 1, none⟩ y) v n := by
  obtain ⟨sv, hv, hl⟩ := h
  exact ⟨sv, hv, (hl.far hb ht x).far (hb.set_ 0 x) ht y⟩

theorem below_two {B : Nat} {a w : World} {g : Nat} (h : Below B a w) (hg : B ≤ g) (x y : Value) : Below B a ((w.setCell ⟨g, 0, none⟩ x).setCell ⟨g, 1, none⟩ y) :=
  (h.setCell (p := ⟨g, 0, none⟩) hg x).setCell (p := ⟨g, 1, none⟩) hg y

theorem sign_any {w : World} {v : Value} {n : Int} (h : Wh w v n) : Calls Tryz.prog 140 #[v] w (RetV w (.int .i64 n.sign)) := by
  obtain ⟨a, cap, rfl, hl⟩ := h.form
  clear h
  rcases Int.lt_trichotomy n 0 with h0 | h0 | h0
  · have e1 : n.sign = -1 := Int.sign_eq_neg_one_of_neg h0
    have e2 : decide (n < 0) = true := by simp [h0]
    have hlen : 0 < (limbs n.natAbs).length := limbs_length_pos (by omega)
    rw [e1, e2]
    generalize (limbs n.natAbs).length = k at *
    have hk : ((k : Int) == 0) = false := by simp; omega
    clear e1 e2 h0 hl
    go_enter Tryz.func140, Tryz.ntmps140
    go_wp2
    go_ret
    exact ⟨rfl, (Below.refl _ _).alloc (Nat.le_refl _) _⟩
  · subst h0
    have e3 : (limbs (0 : Int).natAbs).length = 0 := rfl
    have e1 : (0 : Int).sign = 0 := rfl
    rw [e1, e3]
    clear e1 e3 hl
    go_enter Tryz.func140, Tryz.ntmps140
    go_wp2
    go_ret
    exact ⟨rfl, (Below.refl _ _).alloc (Nat.le_refl _) _⟩
  · have e1 : n.sign = 1 := Int.sign_eq_one_of_pos h0
    have e2 : decide (n < 0) = false := by simp; omega
    have hlen : 0 < (limbs n.natAbs).length := limbs_length_pos (by omega)
    rw [e1, e2]
    generalize (limbs n.natAbs).length = k at *
    have hk : ((k : Int) == 0) = false := by simp; omega
    clear e1 e2 h0 hl
    go_enter Tryz.func140, Tryz.ntmps140
    go_wp2
    go_ret
    exact ⟨rfl, (Below.refl _ _).alloc (Nat.le_refl _) _⟩

theorem sg_not (n : Int) : sg (!decide (n < 0)) n.natAbs = -n := by
  by_cases h : n < 0 <;> simp [sg, h] <;> omega
theorem sg_self (n : Int) : sg (decide (n < 0)) n.natAbs = n := by
  by_cases h : n < 0 <;> simp [sg, h] <;> omega

theorem neg_any {w : World} {v : Value} {n : Int} (h : Wh w v n) : Calls Tryz.prog 116 #[v] w (RetW w (-n)) := by
  obtain ⟨a, cap, rfl, hl⟩ := h.form
  clear h
  have e1 := sg_not n
  generalize decide (n < 0) = b at *
  generalize hm : n.natAbs = m at *
  have HE : Hid (sg (!b) (val (limbs m)) = -n) := by rw [val_limbs]; exact e1
  have ho := limbs_ok m
  generalize hL : limbs m = l at *
  clear e1 hm hL
  go_enter Tryz.func116, Tryz.ntmps116
  go_wp2_with fail
  have hB : Below w.heap.size w ((w.alloc (.cells #[.bool b, .slice a l.length cap] 86)).alloc (.cells #[.bool false, .slice none 0 0] 86)) := ((Below.refl _ _).alloc (Nat.le_refl _) _).alloc (by simp) _
  have hB2 : Blk ((w.alloc (.cells #[.bool b, .slice a l.length cap] 86)).alloc (.cells #[.bool false, .slice none 0 0] 86)) (w.heap.size + 1) 86 #[.bool false, .slice none 0 0] := by have := Blk.new (w.alloc (.cells #[.bool b, .slice a l.length cap] 86)) 86 #[.bool false, .slice none 0 0]; simpa using this
  have hl2 := hl.below hB
  generalize ((w.alloc (.cells #[.bool b, .slice a l.length cap] 86)).alloc (.cells #[.bool false, .slice none 0 0] 86)) = W at *
  refine (whole_any _ hl2 ho).mono ?_
  rintro e w1 ⟨r, rfl, hr, hb⟩
  obtain ⟨a', cap', rfl, hl'⟩ := hr.form
  have hB3 := hB2.below hb hB2.lt
  have c0 := hB3.cell0
  have c1 := hB3.cell1
  have f0 := hB3.frozen 0
  have f1 := hB3.frozen 1
  go_wp2
  have hB4 := hB3.two (.bool (decide (sg (!b) (val l) < 0))) (.slice a' (limbs (sg (!b) (val l)).natAbs).length cap')
  have d0 := hB4.cell0
  have d1 := hB4.cell1
  refine bodyPost_ret (v := .agg #[_, _]) (by simp [results, Tryz.results116, go_sem, d0, d1]; exact ⟨rfl, rfl⟩) rfl ⟨_, rfl, ?_, ?_⟩
  · rw [← HE.out]; exact hr.two hB3 (by decide) _ _
  · exact below_two (hB.trans (hb.mono hB.size)) (by omega) _ _

end Go.Proofs.YtpmlmibceiolpaaGreatDoor

/- The contract of Whole.Add: three ways (one sign; two signs, by the greater magnitude). Printed by gen_add.py. -/
set_option linter.unusedSimpArgs false
set_option linter.unusedVariables false
namespace Go.Proofs.YtpmlmibceiolpaaGreatDoor
open Go.RowKit

set_option maxHeartbeats 1000000 in
set_option maxRecDepth 100000 in
theorem add_same {w : World} {a1 a2 : Option Addr} {p1 p2 : Nat} {l1 l2 : List Nat} (b c : Bool) (hbc : (b == c) = true) (hl1 : Lim w (.slice a1 l1.length p1) l1) (hl2 : Lim w (.slice a2 l2.length p2) l2) (o1 : Ok l1) (o2 : Ok l2) (k1 : Last l1) (k2 : Last l2) (s1 : l1.length ≤ 1073741824) (s2 : l2.length ≤ 1073741824) :
    Calls Tryz.prog 79 #[.agg #[.bool b, .slice a1 l1.length p1], .agg #[.bool c, .slice a2 l2.length p2]] w (RetW w (sg b (val l1 + val l2))) := by
  obtain ⟨W, hW, hB, hsz, j1, j2, j3⟩ := ent3 w 86 #[.bool b, .slice a1 l1.length p1] #[.bool c, .slice a2 l2.length p2] #[.bool false, .slice none 0 0]
  have HW := Lib.hid hW
  clear hW
  have hl1' := hl1.below hB
  have hl2' := hl2.below hB
  go_enter Tryz.func79, Tryz.ntmps79
  go_wp2
  rw [← HW.out]
  have hB1 := hB
  have i1 := j1
  have i2 := j2
  have i3 := j3
  have m1 := hl1'
  have m2 := hl2'
  clear j1 j2 j3 hl1' hl2' hB
  have x0 := i1.cell0
  have x1 := i1.cell1
  have y0 := i2.cell0
  have y1 := i2.cell1
  go_region_held3 (fun w' => w'.cell? ⟨w.heap.size, 0, none⟩ = some (.bool b) ∧ w'.cell? ⟨w.heap.size, 1, none⟩ = some (.slice a1 l1.length p1) ∧ w'.cell? ⟨w.heap.size + 1, 0, none⟩ = some (.bool c) ∧ w'.cell? ⟨w.heap.size + 1, 1, none⟩ = some (.slice a2 l2.length p2)) (first | (refine ⟨?_, ?_, ?_, ?_⟩ <;> first | assumption | (rw [two_far] <;> first | assumption | omega)) | go_keep)
    (first | (go_at_call 118; refine (plus_any m1.drew m2.drew o1 o2 s1 s2).mono ?_; rintro e w1 ⟨r, l, rfl, hl3, ho3, hv3, hb⟩; obtain ⟨a3, p3, rfl, hx⟩ := id hl3; have q1 := i1.drew.below hb i1.lt; have q2 := i2.drew.below hb i2.lt; have q3 := i3.drew.below hb i3.lt; have e0 := q1.cell0; have e1 := q1.cell1; have e2 := q2.cell0; have e3 := q2.cell1)
           | (go_at_call 114; refine (whole_any _ hl3 ho3).mono ?_; rintro e w2 ⟨r, rfl, hr, hb2⟩; obtain ⟨a', cap', rfl, hl'⟩ := hr.form; have r1 := q1.below hb2 q1.lt; have r2 := q2.below hb2 q2.lt; have r3 := q3.below hb2 q3.lt; have t0 := r1.cell0; have t1 := r1.cell1; have t2 := r2.cell0; have t3 := r2.cell1; have t4 := r3.cell0; have t5 := r3.cell1; have t6 := r3.frozen 0; have t7 := r3.frozen 1))
  go_wp2
  have hB4 := r3.two (.bool (decide (sg b (val l1 + val l2) < 0))) (.slice a' (limbs (sg b (val l1 + val l2)).natAbs).length cap')
  have d0 := hB4.cell0
  have d1 := hB4.cell1
  refine bodyPost_ret (v := .agg #[.bool (decide (sg b (val l1 + val l2) < 0)), .slice a' (limbs (sg b (val l1 + val l2)).natAbs).length cap']) (by simp [results, Tryz.results79, go_sem, d0, d1]) rfl ⟨_, rfl, ?_, ?_⟩
  · have e : sg b (val l) = sg b (val l1 + val l2) := by rw [hv3]
    rw [← e] at hB4 ⊢; exact hr.two r3 (by decide) _ _
  · exact below_two (((hB1.drew).trans (hb.mono hB1.size)).trans (hb2.mono (by have h1 := hB1.size; have h2 := hb.size; simp at h2; omega))) (by omega) _ _

set_option maxHeartbeats 1000000 in
set_option maxRecDepth 100000 in
theorem add_less {w : World} {a1 a2 : Option Addr} {p1 p2 : Nat} {l1 l2 : List Nat} (b c : Bool) (hbc : (b == c) = false) (hl1 : Lim w (.slice a1 l1.length p1) l1) (hl2 : Lim w (.slice a2 l2.length p2) l2) (o1 : Ok l1) (o2 : Ok l2) (k1 : Last l1) (k2 : Last l2) (s1 : l1.length ≤ 1073741824) (s2 : l2.length ≤ 1073741824) (hcmp : sgn (val l1) (val l2) = -1) (hle : l1.length ≤ l2.length) (hv : val l1 ≤ val l2) :
    Calls Tryz.prog 79 #[.agg #[.bool b, .slice a1 l1.length p1], .agg #[.bool c, .slice a2 l2.length p2]] w (RetW w (sg c (val l2 - val l1))) := by
  obtain ⟨W, hW, hB, hsz, j1, j2, j3⟩ := ent3 w 86 #[.bool b, .slice a1 l1.length p1] #[.bool c, .slice a2 l2.length p2] #[.bool false, .slice none 0 0]
  have HW := Lib.hid hW
  clear hW
  have hl1' := hl1.below hB
  have hl2' := hl2.below hB
  have HCMP := Lib.hid hcmp
  clear hcmp
  go_enter Tryz.func79, Tryz.ntmps79
  go_wp2_with fail
  rw [← HW.out]
  refine (compare_any hl1' hl2' o1 o2 k1 k2).mono ?_
  rintro e W1 ⟨he, hd⟩
  rw [HCMP.out] at he
  subst he
  have hB1 : Below w.heap.size w W1 := hB.trans (hd.below _)
  have i1 := j1.below (hd.below W.heap.size) j1.lt
  have i2 := j2.below (hd.below W.heap.size) j2.lt
  have i3 := j3.below (hd.below W.heap.size) j3.lt
  have m1 := hl1'.drawn hd
  have m2 := hl2'.drawn hd
  clear j1 j2 j3 hl1' hl2' hB
  have x0 := i1.cell0
  have x1 := i1.cell1
  have y0 := i2.cell0
  have y1 := i2.cell1
  go_wp2
  go_region_held3 (fun w' => w'.cell? ⟨w.heap.size, 0, none⟩ = some (.bool b) ∧ w'.cell? ⟨w.heap.size, 1, none⟩ = some (.slice a1 l1.length p1) ∧ w'.cell? ⟨w.heap.size + 1, 0, none⟩ = some (.bool c) ∧ w'.cell? ⟨w.heap.size + 1, 1, none⟩ = some (.slice a2 l2.length p2)) (first | (refine ⟨?_, ?_, ?_, ?_⟩ <;> first | assumption | (rw [two_far] <;> first | assumption | omega)) | go_keep)
    (first | (go_at_call 120; refine (minus_any m2.drew m1.drew o2 o1 s2 hle hv).mono ?_; rintro e w1 ⟨r, l, rfl, hl3, ho3, hv3, hb⟩; obtain ⟨a3, p3, rfl, hx⟩ := id hl3; have q1 := i1.drew.below hb i1.lt; have q2 := i2.drew.below hb i2.lt; have q3 := i3.drew.below hb i3.lt; have e0 := q1.cell0; have e1 := q1.cell1; have e2 := q2.cell0; have e3 := q2.cell1)
           | (go_at_call 114; refine (whole_any _ hl3 ho3).mono ?_; rintro e w2 ⟨r, rfl, hr, hb2⟩; obtain ⟨a', cap', rfl, hl'⟩ := hr.form; have r1 := q1.below hb2 q1.lt; have r2 := q2.below hb2 q2.lt; have r3 := q3.below hb2 q3.lt; have t0 := r1.cell0; have t1 := r1.cell1; have t2 := r2.cell0; have t3 := r2.cell1; have t4 := r3.cell0; have t5 := r3.cell1; have t6 := r3.frozen 0; have t7 := r3.frozen 1))
  go_wp2
  have hB4 := r3.two (.bool (decide (sg c (val l2 - val l1) < 0))) (.slice a' (limbs (sg c (val l2 - val l1)).natAbs).length cap')
  have d0 := hB4.cell0
  have d1 := hB4.cell1
  refine bodyPost_ret (v := .agg #[.bool (decide (sg c (val l2 - val l1) < 0)), .slice a' (limbs (sg c (val l2 - val l1)).natAbs).length cap']) (by simp [results, Tryz.results79, go_sem, d0, d1]) rfl ⟨_, rfl, ?_, ?_⟩
  · have e : sg c (val l) = sg c (val l2 - val l1) := by rw [hv3]
    rw [← e] at hB4 ⊢; exact hr.two r3 (by decide) _ _
  · exact below_two (((hB1.drew).trans (hb.mono hB1.size)).trans (hb2.mono (by have h1 := hB1.size; have h2 := hb.size; simp at h2; omega))) (by omega) _ _

set_option maxHeartbeats 1000000 in
set_option maxRecDepth 100000 in
theorem add_more {w : World} {a1 a2 : Option Addr} {p1 p2 : Nat} {l1 l2 : List Nat} (b c : Bool) (hbc : (b == c) = false) (hl1 : Lim w (.slice a1 l1.length p1) l1) (hl2 : Lim w (.slice a2 l2.length p2) l2) (o1 : Ok l1) (o2 : Ok l2) (k1 : Last l1) (k2 : Last l2) (s1 : l1.length ≤ 1073741824) (s2 : l2.length ≤ 1073741824) (s : Int) (hs : 0 ≤ s) (hs1 : s ≤ 1) (hcmp : sgn (val l1) (val l2) = s) (hle : l2.length ≤ l1.length) (hv : val l2 ≤ val l1) :
    Calls Tryz.prog 79 #[.agg #[.bool b, .slice a1 l1.length p1], .agg #[.bool c, .slice a2 l2.length p2]] w (RetW w (sg b (val l1 - val l2))) := by
  obtain ⟨W, hW, hB, hsz, j1, j2, j3⟩ := ent3 w 86 #[.bool b, .slice a1 l1.length p1] #[.bool c, .slice a2 l2.length p2] #[.bool false, .slice none 0 0]
  have HW := Lib.hid hW
  clear hW
  have hl1' := hl1.below hB
  have hl2' := hl2.below hB
  have HCMP := Lib.hid hcmp
  clear hcmp
  go_enter Tryz.func79, Tryz.ntmps79
  go_wp2_with fail
  rw [← HW.out]
  refine (compare_any hl1' hl2' o1 o2 k1 k2).mono ?_
  rintro e W1 ⟨he, hd⟩
  rw [HCMP.out] at he
  subst he
  have hB1 : Below w.heap.size w W1 := hB.trans (hd.below _)
  have i1 := j1.below (hd.below W.heap.size) j1.lt
  have i2 := j2.below (hd.below W.heap.size) j2.lt
  have i3 := j3.below (hd.below W.heap.size) j3.lt
  have m1 := hl1'.drawn hd
  have m2 := hl2'.drawn hd
  clear j1 j2 j3 hl1' hl2' hB
  have x0 := i1.cell0
  have x1 := i1.cell1
  have y0 := i2.cell0
  have y1 := i2.cell1
  go_wp2
  go_region_held3 (fun w' => w'.cell? ⟨w.heap.size, 0, none⟩ = some (.bool b) ∧ w'.cell? ⟨w.heap.size, 1, none⟩ = some (.slice a1 l1.length p1) ∧ w'.cell? ⟨w.heap.size + 1, 0, none⟩ = some (.bool c) ∧ w'.cell? ⟨w.heap.size + 1, 1, none⟩ = some (.slice a2 l2.length p2)) (first | (refine ⟨?_, ?_, ?_, ?_⟩ <;> first | assumption | (rw [two_far] <;> first | assumption | omega)) | go_keep)
    (first | (go_at_call 120; refine (minus_any m1.drew m2.drew o1 o2 s1 hle hv).mono ?_; rintro e w1 ⟨r, l, rfl, hl3, ho3, hv3, hb⟩; obtain ⟨a3, p3, rfl, hx⟩ := id hl3; have q1 := i1.drew.below hb i1.lt; have q2 := i2.drew.below hb i2.lt; have q3 := i3.drew.below hb i3.lt; have e0 := q1.cell0; have e1 := q1.cell1; have e2 := q2.cell0; have e3 := q2.cell1)
           | (go_at_call 114; refine (whole_any _ hl3 ho3).mono ?_; rintro e w2 ⟨r, rfl, hr, hb2⟩; obtain ⟨a', cap', rfl, hl'⟩ := hr.form; have r1 := q1.below hb2 q1.lt; have r2 := q2.below hb2 q2.lt; have r3 := q3.below hb2 q3.lt; have t0 := r1.cell0; have t1 := r1.cell1; have t2 := r2.cell0; have t3 := r2.cell1; have t4 := r3.cell0; have t5 := r3.cell1; have t6 := r3.frozen 0; have t7 := r3.frozen 1))
  go_wp2
  have hB4 := r3.two (.bool (decide (sg b (val l1 - val l2) < 0))) (.slice a' (limbs (sg b (val l1 - val l2)).natAbs).length cap')
  have d0 := hB4.cell0
  have d1 := hB4.cell1
  refine bodyPost_ret (v := .agg #[.bool (decide (sg b (val l1 - val l2) < 0)), .slice a' (limbs (sg b (val l1 - val l2)).natAbs).length cap']) (by simp [results, Tryz.results79, go_sem, d0, d1]) rfl ⟨_, rfl, ?_, ?_⟩
  · have e : sg b (val l) = sg b (val l1 - val l2) := by rw [hv3]
    rw [← e] at hB4 ⊢; exact hr.two r3 (by decide) _ _
  · exact below_two (((hB1.drew).trans (hb.mono hB1.size)).trans (hb2.mono (by have h1 := hB1.size; have h2 := hb.size; simp at h2; omega))) (by omega) _ _

end Go.Proofs.YtpmlmibceiolpaaGreatDoor
