/- The contracts of croupierref01: plus, minus. -/
import Derived.Test.YtpmlmibceiolpaaGreatDoorR1c
import Derived.Laws.IdiomStrings
set_option linter.unusedSimpArgs false
set_option linter.unusedVariables false
namespace Go.Proofs.YtpmlmibceiolpaaGreatDoor.D4
open Go.RowKit
open Go.Lib (decDigits itoa nDigits)

theorem val_ge {l : List Nat} (hl : Last l) (hne : 0 < l.length) : 10000 ^ (l.length - 1) ≤ val l := by
  have h2 : 0 < l.getD (l.length - 1) 0 := Nat.pos_of_ne_zero (hl (by intro e; subst e; simp at hne))
  rw [val_split l (l.length - 1) (by omega), drop_eq (by omega)]
  simp only [val]
  have h4 : 10000 ^ (l.length - 1) * 1 ≤ 10000 ^ (l.length - 1) * (l.getD (l.length - 1) 0 + 10000 * val (l.drop (l.length - 1 + 1))) := Nat.mul_le_mul_left _ (by omega)
  omega

theorem last_of_ge {l : List Nat} (ho : Ok l) (h : 10000 ^ (l.length - 1) ≤ val l) : Last l := by
  intro hne e
  have h1 := val_dropLast hne e
  have h2 := val_lt (ho.take (l.length - 1))
  have h3 : (l.take (l.length - 1)).length = l.length - 1 := by simp
  rw [h3] at h2
  omega

/-- What holds at the head of a round of plus. -/
def PlusAt (l1 l2 : List Nat) (k c : Nat) (xs : List Nat) : Prop := PlusRel l1 l2 k c xs ∧ (k ≤ max l1.length l2.length ∨ (k = max l1.length l2.length + 1 ∧ 10000 ^ (max l1.length l2.length) ≤ val xs))

theorem PlusAt.start (l1 l2 : List Nat) : PlusAt l1 l2 0 0 [] := ⟨PlusRel.start _ _, .inl (Nat.zero_le _)⟩

theorem take_big (l : List Nat) {k : Nat} (h : l.length ≤ k) : l.take k = l := List.take_of_length_le h

theorem PlusAt.step {l1 l2 : List Nat} (o1 : Ok l1) (o2 : Ok l2) {k c : Nat} {xs : List Nat} (h : PlusAt l1 l2 k c xs) (hgo : k < l1.length ∨ k < l2.length ∨ 0 < c) {n : Nat} (hn : n = c + l1.getD k 0 + l2.getD k 0) : PlusAt l1 l2 (k + 1) (n / 10000) (xs ++ [n % 10000]) := by
  obtain ⟨hP, hk⟩ := h
  refine ⟨hP.step (by omega) (o1.getD k) (o2.getD k), ?_⟩
  by_cases hlt : k < max l1.length l2.length
  · exact .inl (by omega)
  · have hc : 0 < c := by omega
    have hc1 : c = 1 := by have := hP.2.2.1; omega
    have e1 := hP.2.2.2
    rw [take_big l1 (by omega), take_big l2 (by omega), hc1, Nat.mul_one] at e1
    have hb1 := val_lt o1
    have hb2 := val_lt o2
    have p1 : 10000 ^ l1.length ≤ 10000 ^ (max l1.length l2.length) := Nat.pow_le_pow_right (by omega) (by omega)
    have p2 : 10000 ^ l2.length ≤ 10000 ^ (max l1.length l2.length) := Nat.pow_le_pow_right (by omega) (by omega)
    have hk2 : k = max l1.length l2.length := by
      rcases hk with hk | ⟨hk, _⟩
      · omega
      · exfalso
        rw [hk, Nat.pow_succ] at e1
        omega
    refine .inr ⟨by omega, ?_⟩
    have z1 : l1.getD k 0 = 0 := by simp [List.getD, List.getElem?_eq_none (show l1.length ≤ k by omega)]
    have z2 : l2.getD k 0 = 0 := by simp [List.getD, List.getElem?_eq_none (show l2.length ≤ k by omega)]
    have hn1 : n = 1 := by omega
    rw [val_snoc, hP.1, hn1, hk2]
    omega

theorem PlusAt.done {l1 l2 : List Nat} (k1 : Last l1) (k2 : Last l2) {k : Nat} {xs : List Nat} (h : PlusAt l1 l2 k 0 xs) (h1 : l1.length ≤ k) (h2 : l2.length ≤ k) : xs = limbs (val l1 + val l2) ∧ Ok xs := by
  obtain ⟨hP, hk⟩ := h
  have e1 := hP.2.2.2
  rw [take_big l1 h1, take_big l2 h2, Nat.mul_zero, Nat.add_zero] at e1
  refine ⟨?_, hP.2.1⟩
  rw [← e1]
  refine (limbs_val hP.2.1 ?_).symm
  rcases Nat.eq_zero_or_pos k with h0 | h0
  · intro hne; exact absurd (List.length_eq_zero_iff.1 (hP.1.trans h0)) hne
  · apply last_of_ge hP.2.1
    rw [hP.1]
    rcases hk with hk | ⟨hk, hv⟩
    · rcases Nat.lt_or_ge l1.length l2.length with hl | hl
      · have := val_ge k2 (by omega)
        rw [show k - 1 = l2.length - 1 by omega]; omega
      · have := val_ge k1 (by omega)
        rw [show k - 1 = l1.length - 1 by omega]; omega
    · rw [show k - 1 = max l1.length l2.length by omega]; exact hv

set_option maxHeartbeats 2000000 in
set_option maxRecDepth 100000 in
theorem plus_any {w : World} {v1 v2 : Value} {l1 l2 : List Nat} (h1 : Lim w v1 l1) (h2 : Lim w v2 l2) (o1 : Ok l1) (o2 : Ok l2) (k1 : Last l1) (k2 : Last l2) (s1 : l1.length ≤ 1000000) (s2 : l2.length ≤ 1000000) :
    Calls Tryz.prog 88 #[v1, v2] w (RetI w (val l1 + val l2)) := by
  obtain ⟨i0, hi, hz0, hz1, hz2⟩ := info_parts info64
  obtain ⟨a1, c1, rfl, hc1, hm1, h1⟩ := h1
  obtain ⟨a2, c2, rfl, hc2, hm2, h2⟩ := h2
  unfold maxLen at hm1 hm2
  have hstep := fun k c xs (h : PlusAt l1 l2 k c xs) hgo n hn => h.step (n := n) o1 o2 hgo hn
  have hdone := fun k xs (h : PlusAt l1 l2 k 0 xs) q1 q2 => h.done k1 k2 q1 q2
  have hcar := fun k c xs (h : PlusAt l1 l2 k c xs) => h.1.2.2.1
  have hlen := fun k c xs (h : PlusAt l1 l2 k c xs) => h.1.1
  have hlk := fun k c xs (h : PlusAt l1 l2 k c xs) => (show k ≤ max l1.length l2.length + 1 by rcases h.2 with h | h <;> omega)
  have hstart := PlusAt.start l1 l2
  generalize hn1 : l1.length = n1 at *
  generalize hn2 : l2.length = n2 at *
  have HN1 := Lib.hid hn1
  have HN2 := Lib.hid hn2
  have HST := Lib.hid hstep
  have HDO := Lib.hid hdone
  have HCA := Lib.hid hcar
  have HLE := Lib.hid hlen
  have HLK := Lib.hid hlk
  have HSA := Lib.hid hstart
  generalize PlusAt l1 l2 = P at *
  clear hn1 hn2 hstep hdone hcar hlen hlk hstart k1 k2
  go_enter Tryz.func88, Tryz.ntmps88
  go_wp2
  go_loopw [5, 6, 7] (fun u5 u6 u7 wr => ∃ (k c : Nat) (xs : List Nat), u7 = .int .i64 k ∧ u6 = .int .i64 c ∧ c ≤ 1 ∧ k ≤ 1000002 ∧ Hid (P k c xs) ∧ Hid (Row wr w.heap.size u5 xs) ∧ Hid (Below w.heap.size w wr))
    (fun _ u6 u7 _ => 1000003 - (intOf u7).toNat)
  case atStart => exact ⟨0, 0, [], rfl, rfl, by omega, by omega, HSA, Lib.hid (Row.nil _ _), Lib.hid (Below.refl _ _)⟩
  case round =>
    obtain ⟨k, c, xs, rfl, rfl, hc, hk, hP, hR, hB⟩ := hrel
    have hlx := HLE.out _ _ _ hP.out
    obtain ⟨av, cv, hv⟩ := hR.out.len
    rw [hlx] at hv
    subst hv
    have HLX := Lib.hid hlx
    have hown : wr.ownsRow w.heap.size 3 1 (.slice av k cv) k (xs.map fun (x : Nat) => Value.int .i64 x) := by have h := hR.out; unfold Row at h; rwa [HLX.out] at h
    have HOWN := Lib.hid hown
    have hkk := HLK.out _ _ _ hP.out
    clear hlx hown
    by_cases hlt1 : k < n1
    · have e1 : decide ((k : Int) < (n1 : Int)) = true := by simpa using hlt1
      by_cases hlt2 : k < n2
      · have e2 : decide ((k : Int) < (n2 : Int)) = true := by simpa using hlt2
        rcases h1 with h1 | ⟨b1, p1, rfl, hc1'⟩
        · exfalso; have := HN1.out; rw [h1] at this; simp at this; omega
        have g1 : wr.cell? ⟨b1, p1 + k, none⟩ = some (.int .i64 (l1.getD k 0)) := (hB.out.cell (p := ⟨b1, p1 + k, none⟩) hc1'.lt).trans (hc1'.2 k (by have := HN1.out; omega))
        have gx1 := o1.getD k
        have hst := Lib.hid (HST.out _ _ _ hP.out (.inl (by omega)))
        generalize l1.getD k 0 = x at *
        rcases h2 with h2 | ⟨b2, p2, rfl, hc2'⟩
        · exfalso; have := HN2.out; rw [h2] at this; simp at this; omega
        have g2 : wr.cell? ⟨b2, p2 + k, none⟩ = some (.int .i64 (l2.getD k 0)) := (hB.out.cell (p := ⟨b2, p2 + k, none⟩) hc2'.lt).trans (hc2'.2 k (by have := HN2.out; omega))
        have gy1 := o2.getD k
        generalize l2.getD k 0 = y at *
        go_wp2_with (at_builtin; refine wpList_append_own _ rfl (.tmp 46) (.tmp 49) 93 rfl w.heap.size 3 i0 (.int .i64 0) 1 8 Tryz.underlying93 hi hz0 hz1 hz2 rfl (by decide) (.slice av k cv) k _ rfl (HOWN.out.alloc _) ⟨wr.heap.size, 0, none⟩ 1 1 [.int .i64 (((c : Int) + x + y) % 10000)] rfl rfl (cell_new_int _ _ _) (by intro u hu; simp at hu; subst hu; rfl) (by unfold maxLen; omega) (by omega) (by have := hB.out.size; simp; omega) ?_; intro v' w2 hown1 hgrow1 hnil1)
        go_roundw
        case rel =>
          have hr1 : Row w2 w.heap.size v' (xs ++ [(c + x + y) % 10000]) := Row.snoc (by rw [HLX.out]; exact hown1) (by omega)
          exact ⟨k + 1, (c + x + y) / 10000, _, by go_num, by go_num, by omega, by omega, Lib.hid (hst.out _ rfl), Lib.hid hr1, Lib.hid ((hB.out.alloc hB.out.size _).grown hgrow1 (by have := hB.out.size; simp; omega) (fun q hq => (World.ownsRow.lt HOWN.out q hq).1))⟩
        case measure => simp [intOf]; omega
      · have e2 : decide ((k : Int) < (n2 : Int)) = false := by simpa using hlt2
        rcases h1 with h1 | ⟨b1, p1, rfl, hc1'⟩
        · exfalso; have := HN1.out; rw [h1] at this; simp at this; omega
        have g1 : wr.cell? ⟨b1, p1 + k, none⟩ = some (.int .i64 (l1.getD k 0)) := (hB.out.cell (p := ⟨b1, p1 + k, none⟩) hc1'.lt).trans (hc1'.2 k (by have := HN1.out; omega))
        have gx1 := o1.getD k
        have hst := Lib.hid (HST.out _ _ _ hP.out (.inl (by omega)))
        generalize l1.getD k 0 = x at *
        have z2 : l2.getD k 0 = 0 := by simp [List.getD, List.getElem?_eq_none (show l2.length ≤ k by have := HN2.out; omega)]
        rw [z2] at hst
        clear z2
        go_wp2_with (at_builtin; refine wpList_append_own _ rfl (.tmp 46) (.tmp 49) 93 rfl w.heap.size 3 i0 (.int .i64 0) 1 8 Tryz.underlying93 hi hz0 hz1 hz2 rfl (by decide) (.slice av k cv) k _ rfl (HOWN.out.alloc _) ⟨wr.heap.size, 0, none⟩ 1 1 [.int .i64 (((c : Int) + x) % 10000)] rfl rfl (cell_new_int _ _ _) (by intro u hu; simp at hu; subst hu; rfl) (by unfold maxLen; omega) (by omega) (by have := hB.out.size; simp; omega) ?_; intro v' w2 hown1 hgrow1 hnil1)
        go_roundw
        case rel =>
          have hr1 : Row w2 w.heap.size v' (xs ++ [(c + x + 0) % 10000]) := Row.snoc (by rw [HLX.out]; exact hown1) (by omega)
          exact ⟨k + 1, (c + x + 0) / 10000, _, by go_num, by go_num, by omega, by omega, Lib.hid (hst.out _ rfl), Lib.hid hr1, Lib.hid ((hB.out.alloc hB.out.size _).grown hgrow1 (by have := hB.out.size; simp; omega) (fun q hq => (World.ownsRow.lt HOWN.out q hq).1))⟩
        case measure => simp [intOf]; omega
    · have e1 : decide ((k : Int) < (n1 : Int)) = false := by simpa using hlt1
      by_cases hlt2 : k < n2
      · have e2 : decide ((k : Int) < (n2 : Int)) = true := by simpa using hlt2
        have z1 : l1.getD k 0 = 0 := by simp [List.getD, List.getElem?_eq_none (show l1.length ≤ k by have := HN1.out; omega)]
        have hst := Lib.hid (HST.out _ _ _ hP.out (.inr (.inl (by omega))))
        rw [z1] at hst
        clear z1
        rcases h2 with h2 | ⟨b2, p2, rfl, hc2'⟩
        · exfalso; have := HN2.out; rw [h2] at this; simp at this; omega
        have g2 : wr.cell? ⟨b2, p2 + k, none⟩ = some (.int .i64 (l2.getD k 0)) := (hB.out.cell (p := ⟨b2, p2 + k, none⟩) hc2'.lt).trans (hc2'.2 k (by have := HN2.out; omega))
        have gy1 := o2.getD k
        generalize l2.getD k 0 = y at *
        go_wp2_with (at_builtin; refine wpList_append_own _ rfl (.tmp 46) (.tmp 49) 93 rfl w.heap.size 3 i0 (.int .i64 0) 1 8 Tryz.underlying93 hi hz0 hz1 hz2 rfl (by decide) (.slice av k cv) k _ rfl (HOWN.out.alloc _) ⟨wr.heap.size, 0, none⟩ 1 1 [.int .i64 (((c : Int) + y) % 10000)] rfl rfl (cell_new_int _ _ _) (by intro u hu; simp at hu; subst hu; rfl) (by unfold maxLen; omega) (by omega) (by have := hB.out.size; simp; omega) ?_; intro v' w2 hown1 hgrow1 hnil1)
        go_roundw
        case rel =>
          have hr1 : Row w2 w.heap.size v' (xs ++ [(c + 0 + y) % 10000]) := Row.snoc (by rw [HLX.out]; exact hown1) (by omega)
          exact ⟨k + 1, (c + 0 + y) / 10000, _, by go_num, by go_num, by omega, by omega, Lib.hid (hst.out _ rfl), Lib.hid hr1, Lib.hid ((hB.out.alloc hB.out.size _).grown hgrow1 (by have := hB.out.size; simp; omega) (fun q hq => (World.ownsRow.lt HOWN.out q hq).1))⟩
        case measure => simp [intOf]; omega
      · have e2 : decide ((k : Int) < (n2 : Int)) = false := by simpa using hlt2
        by_cases hcc : 0 < c
        · have e3 : decide ((0 : Int) < (c : Int)) = true := by simpa using hcc
          have z1 : l1.getD k 0 = 0 := by simp [List.getD, List.getElem?_eq_none (show l1.length ≤ k by have := HN1.out; omega)]
          have hst := Lib.hid (HST.out _ _ _ hP.out (.inr (.inr (by omega))))
          rw [z1] at hst
          clear z1
          have z2 : l2.getD k 0 = 0 := by simp [List.getD, List.getElem?_eq_none (show l2.length ≤ k by have := HN2.out; omega)]
          rw [z2] at hst
          clear z2
          go_wp2_with (at_builtin; refine wpList_append_own _ rfl (.tmp 46) (.tmp 49) 93 rfl w.heap.size 3 i0 (.int .i64 0) 1 8 Tryz.underlying93 hi hz0 hz1 hz2 rfl (by decide) (.slice av k cv) k _ rfl (HOWN.out.alloc _) ⟨wr.heap.size, 0, none⟩ 1 1 [.int .i64 (((c : Int)) % 10000)] rfl rfl (cell_new_int _ _ _) (by intro u hu; simp at hu; subst hu; rfl) (by unfold maxLen; omega) (by omega) (by have := hB.out.size; simp; omega) ?_; intro v' w2 hown1 hgrow1 hnil1)
          go_roundw
          case rel =>
            have hr1 : Row w2 w.heap.size v' (xs ++ [(c + 0 + 0) % 10000]) := Row.snoc (by rw [HLX.out]; exact hown1) (by omega)
            exact ⟨k + 1, (c + 0 + 0) / 10000, _, by go_num, by go_num, by omega, by omega, Lib.hid (hst.out _ rfl), Lib.hid hr1, Lib.hid ((hB.out.alloc hB.out.size _).grown hgrow1 (by have := hB.out.size; simp; omega) (fun q hq => (World.ownsRow.lt HOWN.out q hq).1))⟩
          case measure => simp [intOf]; omega
        · obtain rfl : c = 0 := by omega
          have hd := Lib.hid (HDO.out _ _ hP.out (by omega) (by omega))
          go_wp2
          go_ret
          refine ⟨_, rfl, ?_, Above.row hR.out, hB.out⟩
          rw [← hd.out.1]
          exact hR.out.lim

set_option maxHeartbeats 2000000 in
set_option maxRecDepth 100000 in
theorem minus_any {w : World} {v1 v2 : Value} {l1 l2 : List Nat} (h1 : Lim w v1 l1) (h2 : Lim w v2 l2) (o1 : Ok l1) (o2 : Ok l2) (hle : l2.length ≤ l1.length) (hv : val l2 ≤ val l1) (s1 : l1.length ≤ 1000000) :
    Calls Tryz.prog 90 #[v1, v2] w (RetI w (val l1 - val l2)) := by
  obtain ⟨i0, hi, hz0, hz1, hz2⟩ := info_parts info64
  obtain ⟨a1, c1, rfl, hc1, hm1, h1⟩ := h1
  obtain ⟨a2, c2, rfl, hc2, hm2, h2⟩ := h2
  unfold maxLen at hm1 hm2
  have hdone := fun c xs (h : MinusRel l1 l2 l1.length c xs) => h.done hle hv
  generalize hn1 : l1.length = n1 at *
  generalize hn2 : l2.length = n2 at *
  have HN1 := Lib.hid hn1
  have HN2 := Lib.hid hn2
  have HDO := Lib.hid hdone
  clear hn1 hn2 hdone hv
  go_enter Tryz.func90, Tryz.ntmps90
  go_wp2
  go_loopw [5, 6, 7] (fun u5 u6 u7 wr => ∃ (k c : Nat) (xs : List Nat), u7 = .int .i64 k ∧ u6 = .int .i64 c ∧ c ≤ 1 ∧ k ≤ n1 ∧ Hid (MinusRel l1 l2 k c xs) ∧ Hid (Row wr w.heap.size u5 xs) ∧ Hid (Below w.heap.size w wr))
    (fun _ u6 u7 _ => n1 - (intOf u7).toNat)
  case atStart => exact ⟨0, 0, [], rfl, rfl, by omega, by omega, Lib.hid (MinusRel.start _ _), Lib.hid (Row.nil _ _), Lib.hid (Below.refl _ _)⟩
  case round =>
    obtain ⟨k, c, xs, rfl, rfl, hc, hk, hP, hR, hB⟩ := hrel
    have hlx := hP.out.1
    obtain ⟨av, cv, hv⟩ := hR.out.len
    rw [hlx] at hv
    subst hv
    have HLX := Lib.hid hlx
    have hown : wr.ownsRow w.heap.size 3 1 (.slice av k cv) k (xs.map fun (x : Nat) => Value.int .i64 x) := by have h := hR.out; unfold Row at h; rwa [HLX.out] at h
    have HOWN := Lib.hid hown
    clear hlx hown
    by_cases hlt1 : k < n1
    · have hst := Lib.hid (fun n c' hn => hP.out.step (n := n) (c' := c') hn)
      rcases h1 with h1 | ⟨b1, p1, rfl, hc1'⟩
      · exfalso; have := HN1.out; rw [h1] at this; simp at this; omega
      have g1 : wr.cell? ⟨b1, p1 + k, none⟩ = some (.int .i64 (l1.getD k 0)) := (hB.out.cell (p := ⟨b1, p1 + k, none⟩) hc1'.lt).trans (hc1'.2 k (by have := HN1.out; omega))
      have gx1 := o1.getD k
      generalize l1.getD k 0 = x at *
      by_cases hlt2 : k < n2
      case' pos =>
        have e2 : decide ((k : Int) < (n2 : Int)) = true := by simpa using hlt2
        rcases h2 with h2 | ⟨b2, p2, rfl, hc2'⟩
        · exfalso; have := HN2.out; rw [h2] at this; simp at this; omega
        have g2 : wr.cell? ⟨b2, p2 + k, none⟩ = some (.int .i64 (l2.getD k 0)) := (hB.out.cell (p := ⟨b2, p2 + k, none⟩) hc2'.lt).trans (hc2'.2 k (by have := HN2.out; omega))
        have gy1 := o2.getD k
        generalize l2.getD k 0 = y at *
        by_cases hneg : (x : Int) - c - y < 0
        · skip
          have e3 : decide ((x : Int) - c - y < 0) = true := by simp; omega
          obtain ⟨z, hz⟩ : ∃ z : Nat, (x : Int) - c - y + 10000 = z := ⟨((x : Int) - c - y + 10000).toNat, by omega⟩
          have HZ := Lib.hid hz
          clear hz
          go_wp2_with (at_builtin; refine wpList_append_own _ rfl (.tmp 35) (.tmp 37) 93 rfl w.heap.size 3 i0 (.int .i64 0) 1 8 Tryz.underlying93 hi hz0 hz1 hz2 rfl (by decide) (.slice av k cv) k _ rfl (HOWN.out.alloc _) ⟨wr.heap.size, 0, none⟩ 1 1 [.int .i64 ((x : Int) - c - y + 10000)] rfl rfl (cell_new_int _ _ _) (by intro u hu; simp at hu; subst hu; rfl) (by unfold maxLen; omega) (by omega) (by have := hB.out.size; simp; omega) ?_; intro v' w2 hown1 hgrow1 hnil1)
          go_roundw
          case rel =>
            have hr1 : Row w2 w.heap.size v' (xs ++ [z]) := Row.snoc (by rw [HLX.out]; exact hown1) HZ.out
            exact ⟨k + 1, 1, _, by go_num, rfl, by omega, by omega, Lib.hid (hst.out z 1 (by have := HZ.out; omega) (by have := HZ.out; omega) (by omega)), Lib.hid hr1, Lib.hid ((hB.out.alloc hB.out.size _).grown hgrow1 (by have := hB.out.size; simp; omega) (fun q hq => (World.ownsRow.lt HOWN.out q hq).1))⟩
          case measure => simp [intOf]; omega
        · skip
          have e3 : decide ((x : Int) - c - y < 0) = false := by simp; omega
          obtain ⟨z, hz⟩ : ∃ z : Nat, (x : Int) - c - y = z := ⟨((x : Int) - c - y).toNat, by omega⟩
          have HZ := Lib.hid hz
          clear hz
          go_wp2_with (at_builtin; refine wpList_append_own _ rfl (.tmp 35) (.tmp 37) 93 rfl w.heap.size 3 i0 (.int .i64 0) 1 8 Tryz.underlying93 hi hz0 hz1 hz2 rfl (by decide) (.slice av k cv) k _ rfl (HOWN.out.alloc _) ⟨wr.heap.size, 0, none⟩ 1 1 [.int .i64 ((x : Int) - c - y)] rfl rfl (cell_new_int _ _ _) (by intro u hu; simp at hu; subst hu; rfl) (by unfold maxLen; omega) (by omega) (by have := hB.out.size; simp; omega) ?_; intro v' w2 hown1 hgrow1 hnil1)
          go_roundw
          case rel =>
            have hr1 : Row w2 w.heap.size v' (xs ++ [z]) := Row.snoc (by rw [HLX.out]; exact hown1) HZ.out
            exact ⟨k + 1, 0, _, by go_num, rfl, by omega, by omega, Lib.hid (hst.out z 0 (by have := HZ.out; omega) (by have := HZ.out; omega) (by omega)), Lib.hid hr1, Lib.hid ((hB.out.alloc hB.out.size _).grown hgrow1 (by have := hB.out.size; simp; omega) (fun q hq => (World.ownsRow.lt HOWN.out q hq).1))⟩
          case measure => simp [intOf]; omega
      case' neg =>
        have e2 : decide ((k : Int) < (n2 : Int)) = false := by simpa using hlt2
        have z2 : l2.getD k 0 = 0 := by simp [List.getD, List.getElem?_eq_none (show l2.length ≤ k by have := HN2.out; omega)]
        rw [z2] at hst
        clear z2
        by_cases hneg : (x : Int) - c < 0
        · skip
          have e3 : decide ((x : Int) - c < 0) = true := by simp; omega
          obtain ⟨z, hz⟩ : ∃ z : Nat, (x : Int) - c + 10000 = z := ⟨((x : Int) - c + 10000).toNat, by omega⟩
          have HZ := Lib.hid hz
          clear hz
          go_wp2_with (at_builtin; refine wpList_append_own _ rfl (.tmp 35) (.tmp 37) 93 rfl w.heap.size 3 i0 (.int .i64 0) 1 8 Tryz.underlying93 hi hz0 hz1 hz2 rfl (by decide) (.slice av k cv) k _ rfl (HOWN.out.alloc _) ⟨wr.heap.size, 0, none⟩ 1 1 [.int .i64 ((x : Int) - c + 10000)] rfl rfl (cell_new_int _ _ _) (by intro u hu; simp at hu; subst hu; rfl) (by unfold maxLen; omega) (by omega) (by have := hB.out.size; simp; omega) ?_; intro v' w2 hown1 hgrow1 hnil1)
          go_roundw
          case rel =>
            have hr1 : Row w2 w.heap.size v' (xs ++ [z]) := Row.snoc (by rw [HLX.out]; exact hown1) HZ.out
            exact ⟨k + 1, 1, _, by go_num, rfl, by omega, by omega, Lib.hid (hst.out z 1 (by have := HZ.out; omega) (by have := HZ.out; omega) (by omega)), Lib.hid hr1, Lib.hid ((hB.out.alloc hB.out.size _).grown hgrow1 (by have := hB.out.size; simp; omega) (fun q hq => (World.ownsRow.lt HOWN.out q hq).1))⟩
          case measure => simp [intOf]; omega
        · skip
          have e3 : decide ((x : Int) - c < 0) = false := by simp; omega
          obtain ⟨z, hz⟩ : ∃ z : Nat, (x : Int) - c = z := ⟨((x : Int) - c).toNat, by omega⟩
          have HZ := Lib.hid hz
          clear hz
          go_wp2_with (at_builtin; refine wpList_append_own _ rfl (.tmp 35) (.tmp 37) 93 rfl w.heap.size 3 i0 (.int .i64 0) 1 8 Tryz.underlying93 hi hz0 hz1 hz2 rfl (by decide) (.slice av k cv) k _ rfl (HOWN.out.alloc _) ⟨wr.heap.size, 0, none⟩ 1 1 [.int .i64 ((x : Int) - c)] rfl rfl (cell_new_int _ _ _) (by intro u hu; simp at hu; subst hu; rfl) (by unfold maxLen; omega) (by omega) (by have := hB.out.size; simp; omega) ?_; intro v' w2 hown1 hgrow1 hnil1)
          go_roundw
          case rel =>
            have hr1 : Row w2 w.heap.size v' (xs ++ [z]) := Row.snoc (by rw [HLX.out]; exact hown1) HZ.out
            exact ⟨k + 1, 0, _, by go_num, rfl, by omega, by omega, Lib.hid (hst.out z 0 (by have := HZ.out; omega) (by have := HZ.out; omega) (by omega)), Lib.hid hr1, Lib.hid ((hB.out.alloc hB.out.size _).grown hgrow1 (by have := hB.out.size; simp; omega) (fun q hq => (World.ownsRow.lt HOWN.out q hq).1))⟩
          case measure => simp [intOf]; omega
    · obtain rfl : k = n1 := by omega
      have hd := Lib.hid (HDO.out _ _ hP.out)
      have HC := Lib.hid (cut_any hR.out.lim hP.out.2.1)
      go_wp2_with (go_at_call 125; refine HC.out.mono ?_; rintro e w1 ⟨r, rfl, hr, hab, hb1⟩)
      go_ret
      rw [← hd.out]
      exact ⟨_, rfl, hr, hab _ (Above.row hR.out), next_below hB.out hb1⟩

end Go.Proofs.YtpmlmibceiolpaaGreatDoor.D4

/- The contract of croupierref01.write. -/
set_option linter.unusedSimpArgs false
set_option linter.unusedVariables false
namespace Go.Proofs.YtpmlmibceiolpaaGreatDoor.D4
open Go.RowKit
open Go.Lib (decDigits itoa nDigits)

/-- The digits of a number, none for nought. -/
def shown (m : Nat) : List UInt8 := if m = 0 then [] else decDigits m

theorem shown_step (m c : Nat) (hc : c < 10) : shown (m * 10 + c) = if 0 < (shown m).length ∨ c ≠ 0 then shown m ++ [UInt8.ofNat (48 + c)] else [] := by
  unfold shown
  by_cases hm : m = 0
  · subst hm
    by_cases h0 : c = 0
    · subst h0; simp
    · rw [if_neg (by omega), if_pos (.inr h0), if_pos rfl, List.nil_append]
      rw [Nat.zero_mul, Nat.zero_add]
      exact decDigits_small hc
  · rw [if_neg (by omega), if_neg hm, if_pos (.inl (decDigits_length_pos m))]
    by_cases h1 : m * 10 + c < 10
    · omega
    · rw [decDigits_big h1, show (m * 10 + c) / 10 = m by omega, show (m * 10 + c) % 10 = c by omega]

/-- A slice of bytes of the call's own. -/
def BRow (w : World) (B : Nat) (v : Value) (l : List UInt8) : Prop := w.ownsRow B 5 1 v l.length (l.map fun (x : UInt8) => Value.int .u8 x.toNat)
theorem BRow.len {w : World} {B : Nat} {v : Value} {l : List UInt8} (h : BRow w B v l) : ∃ a, ∃ c : Nat, v = .slice a l.length c := by
  obtain ⟨hl, h⟩ := h
  rcases h with ⟨rfl, h0⟩ | ⟨g, cap, cur, rfl, _⟩
  · exact ⟨none, 0, by rw [h0]⟩
  · exact ⟨_, cap, rfl⟩
theorem BRow.nil (w : World) (B : Nat) : BRow w B (.slice none 0 0) [] := World.ownsRow_nil _ _ _ _
theorem BRow.snoc {w : World} {B : Nat} {v : Value} {l : List UInt8} {c : UInt8} {z : Int} (h : w.ownsRow B 5 1 v (l.length + 1) (l.map (fun (x : UInt8) => Value.int .u8 x.toNat) ++ [.int .u8 z])) (hz : z = c.toNat) : BRow w B v (l ++ [c]) := by
  subst hz
  unfold BRow
  simpa using h
theorem info8 : (Tryz.prog.info? 5).map (fun i => (i.zero, i.size, i.bytes)) = some (some (.int .u8 0), 1, 1) := by kernel_rfl
theorem cell_new_u8 (w : World) (t : TypeId) (x : Int) : ∀ j u, [Value.int .u8 x][j]? = some u → (w.alloc (.cells #[.int .u8 x] t)).cell? ((⟨w.heap.size, 0, none⟩ : Addr).add j) = some u := by
  intro j u hj
  match j, hj with
  | 0, hj => simp at hj; subst hj; simp [Addr.add]
theorem BRow.text {w : World} {B : Nat} {v : Value} {l : List UInt8} (h : BRow w B v l) (h0 : l ≠ []) : (convert 22 9 v).run Tryz.prog w = .ok (.string ⟨l.toArray⟩) w := by
  obtain ⟨hl, h⟩ := h
  rcases h with ⟨rfl, e0⟩ | ⟨g, cap, cur, rfl, hB, hg, hn, hm, hc, ht⟩
  · exact absurd (List.length_eq_zero_iff.1 e0) h0
  · refine run_convert_bytes_back w 22 9 5 ⟨g, 0, none⟩ cap l Tryz.underlying22 Tryz.underlying5 Tryz.underlying9 (fun j hj => ?_)
    have h3 := World.ownsRow.cells (w := w) (base := B) (e := 5) (size := 1) (v := .slice (some ⟨g, 0, none⟩) l.length cap) (n := l.length) ⟨hl, .inr ⟨g, cap, cur, rfl, hB, hg, hn, hm, hc, ht⟩⟩ (g := g) rfl j (.int .u8 (l[j].toNat : Int)) (by simp [List.getElem?_eq_getElem hj])
    exact h3

/-- The unit behind t places. -/
def unit4 (t : Nat) : Nat := if t < 4 then 10 ^ (3 - t) else 0
theorem unit4_next (t : Nat) (h : t < 4) : unit4 t / 10 = unit4 (t + 1) := by
  match t, h with
  | 0, _ => decide
  | 1, _ => decide
  | 2, _ => decide
  | 3, _ => decide
theorem unit4_pos (t : Nat) (h : t < 4) : 0 < unit4 t ∧ unit4 t ≤ 1000 := by
  match t, h with
  | 0, _ => decide
  | 1, _ => decide
  | 2, _ => decide
  | 3, _ => decide
theorem unit4_digit (M x t : Nat) (h : t < 4) : M * 10 ^ (t + 1) + x / 10 ^ (4 - (t + 1)) = (M * 10 ^ t + x / 10 ^ (4 - t)) * 10 + x / unit4 t % 10 := by
  have e : unit4 t = 10 ^ (3 - t) := by unfold unit4; rw [if_pos h]
  rw [e]
  have e1 : 4 - (t + 1) = 3 - t := by omega
  have e2 : 10 ^ (4 - t) = 10 ^ (3 - t) * 10 := by rw [← Nat.pow_succ]; congr 1; omega
  rw [e1, e2, ← Nat.div_div_eq_div_mul, Nat.pow_succ]
  generalize x / 10 ^ (3 - t) = y
  rw [Nat.add_mul, Nat.mul_assoc]
  omega

/-- The head of a round of the inner loop of write. -/
def WrAt (M x t m : Nat) : Prop := m = M * 10 ^ t + x / 10 ^ (4 - t)

theorem WrAt.start (M x : Nat) (hx : x < 10000) : WrAt M x 0 M := by
  unfold WrAt
  rw [Nat.pow_zero, Nat.mul_one, Nat.sub_zero, Nat.div_eq_of_lt (by omega)]
  rfl

theorem WrAt.done {M x m : Nat} (h : WrAt M x 4 m) : m = x + 10000 * M := by
  unfold WrAt at h
  rw [h]; omega

theorem dig_u8 {d : Nat} (h : d < 10) : (48 + (d : Int)) = ((UInt8.ofNat (48 + d)).toNat : Int) := by
  rw [dig_one h]; omega

set_option maxHeartbeats 4000000 in
set_option maxRecDepth 100000 in
theorem write_any {w : World} (neg : Bool) {v : Value} {n : Nat} (h : Lim w v (limbs n)) (hn : (limbs n).length ≤ 1000000) : Calls Tryz.prog 87 #[.bool neg, v] w (RetV w (.string ⟨(itoa (sg neg n)).toArray⟩)) := by
  obtain ⟨i0, hi, hz0, hz1, hz2⟩ := info_parts info8
  have hok := limbs_ok n
  have hvl := val_limbs n
  obtain ⟨l, hl⟩ : ∃ l, limbs n = l := ⟨_, rfl⟩
  rw [hl] at h hn hok hvl
  obtain ⟨a, cap, rfl, hcap, hm, h3⟩ := h
  unfold maxLen at hm
  by_cases hn0 : n = 0
  · subst hn0
    have : l = [] := by rw [← hl]; rfl
    subst this
    have e : itoa (sg neg 0) = [48] := by cases neg <;> decide +kernel
    rw [e]
    clear h3 hl hok hvl
    go_enter Tryz.func87, Tryz.ntmps87
    go_wp2
    go_ret
    exact ⟨rfl, Below.refl _ _⟩
  · have hlen0 : 0 < l.length := by
      rcases Nat.eq_zero_or_pos l.length with e | e
      · rw [List.length_eq_zero_iff.1 e] at hvl
        exact absurd hvl.symm hn0
      · exact e
    have hres : itoa (sg neg n) = (if neg then [45] else []) ++ shown n := by
      rw [itoa_sgnd]
      unfold sgnd shown
      rw [sg_natAbs, sg_neg, if_neg hn0]
      have : decide (0 < n) = true := by simp; omega
      rw [this, Bool.and_true]
    rw [hres]
    obtain ⟨R, hRR⟩ : ∃ R, R = (if neg then [45] else []) ++ shown n := ⟨_, rfl⟩
    rw [← hRR]
    have HRR := Lib.hid hRR
    clear hRR
    have hsn : shown n ≠ [] := by unfold shown; rw [if_neg hn0]; exact decDigits_ne _
    generalize hL : l.length = L at *
    have HL := Lib.hid hL
    have HOK := Lib.hid hok
    have HVL := Lib.hid hvl
    have HSN := Lib.hid hsn
    have H3 := Lib.hid h3
    clear hL hok hvl hres hl hn0 hsn h3
    have hq0 : ((L : Int) == 0) = false := by simp; omega
    go_enter Tryz.func87, Tryz.ntmps87
    go_wp2
    go_loopw [5, 6] (fun u5 u6 wr => ∃ k q : Nat, u6 = .int .i64 ((k : Int) - 1) ∧ k ≤ L ∧ q ≤ 4 * (L - k) ∧ Hid (BRow wr w.heap.size u5 (shown (val (l.drop k)))) ∧ Hid ((shown (val (l.drop k))).length = q) ∧ Hid (Below w.heap.size w wr)) (fun _ u6 _ => (intOf u6 + 1).toNat)
    case atStart => exact ⟨L, 0, rfl, Nat.le_refl _, by omega, Lib.hid (by rw [← HL.out, List.drop_length]; exact BRow.nil _ _), Lib.hid (by rw [← HL.out, List.drop_length]; rfl), Lib.hid (Below.refl _ _)⟩
    case round =>
      obtain ⟨k, q, rfl, hk, hq, hR, hQ, hB⟩ := hrel
      by_cases hk0 : 0 < k
      · obtain ⟨j, rfl⟩ : ∃ j, k = j + 1 := ⟨k - 1, by omega⟩
        have hj : ((j + 1 : Nat) : Int) - 1 = (j : Int) := by omega
        rw [hj]
        clear hj
        have hx := HOK.out.getD j
        have hdr : val (l.drop j) = l.getD j 0 + 10000 * val (l.drop (j + 1)) := by rw [drop_eq (by have := HL.out; omega)]; rfl
        have HDR := Lib.hid hdr
        clear hdr
        rcases H3.out with h3 | ⟨b, o, rfl, hc⟩
        · exfalso; have := HL.out; rw [h3] at this; simp at this; omega
        have hcl := hc.2 j (by have := HL.out; omega)
        have hblt := hc.lt
        generalize hxe : l.getD j 0 = x at *
        have HXE := Lib.hid hxe
        have HCL := Lib.hid hcl
        clear hxe hcl
        generalize val (l.drop (j + 1)) = M at *
        have hji : ((0 : Int) ≤ j) := by omega
        go_wp2
        obtain ⟨wo, rfl⟩ : ∃ wo : World, wo = wr := ⟨_, rfl⟩
        go_loopw [5, 7, 8] (fun u5 u7 _ wi => ∃ t q' m : Nat, t ≤ 4 ∧ u7 = .int .i64 (unit4 t : Nat) ∧ q' ≤ 4 * (L - (j + 1)) + t ∧ Hid (WrAt M x t m) ∧ Hid (BRow wi w.heap.size u5 (shown m)) ∧ Hid ((shown m).length = q') ∧ Hid (Below w.heap.size w wi)) (fun _ u7 _ _ => (intOf u7).toNat)
        case atStart => exact ⟨0, q, M, by omega, rfl, by omega, Lib.hid (WrAt.start M x hx), hR, hQ, hB⟩
        case round =>
          obtain ⟨t, q', m, ht, rfl, hq', hW, hR2, hQ2, hB2⟩ := hrel
          by_cases ht4 : t < 4
          · obtain ⟨hu1, hu2⟩ := unit4_pos t ht4
            have hun := unit4_next t ht4
            have hdg := unit4_digit M x t ht4
            rw [← show m = M * 10 ^ t + x / 10 ^ (4 - t) from hW.out] at hdg
            generalize unit4 t = u at *
            obtain ⟨d, hd⟩ : ∃ d : Nat, x / u % 10 = d := ⟨_, rfl⟩
            rw [hd] at hdg
            have hd10 : d < 10 := by omega
            obtain ⟨y, hy⟩ : ∃ y : Nat, x / u = y := ⟨_, rfl⟩
            have hyb : y ≤ 9999 := by rw [← hy]; exact Nat.le_trans (Nat.div_le_self _ _) (by omega)
            have hxu : (x : Int) / (u : Int) = (y : Int) := by rw [← hy]; push_cast; rfl
            rw [hy] at hd
            have hdi : (y : Int) % 10 = (d : Int) := by omega
            have huni : (u : Int) / 10 = (unit4 (t + 1) : Nat) := by rw [← hun]; push_cast; rfl
            have hsh := Lib.hid (shown_step m d hd10)
            have HDG := Lib.hid hdg
            have hu8 := Lib.hid (dig_u8 hd10)
            generalize hu' : unit4 (t + 1) = u' at *
            have HU := Lib.hid hu'
            clear hu'
            have hcell : wr.cell? ⟨b, o + j, none⟩ = some (.int .i64 (x : Nat)) := (hB2.out.cell (p := ⟨b, o + j, none⟩) hblt).trans HCL.out
            obtain ⟨av, cv, hv⟩ := hR2.out.len
            rw [hQ2.out] at hv
            subst hv
            have hown : wr.ownsRow w.heap.size 5 1 (.slice av q' cv) q' ((shown m).map fun (x : UInt8) => Value.int .u8 x.toNat) := by have h := hR2.out; unfold BRow at h; rwa [hQ2.out] at h
            have HOWN := Lib.hid hown
            clear hown hun hd hdg hy
            have hmeas : u' < u := by omega
            by_cases hq0' : 0 < q'
            · have e1 : decide ((0 : Int) < (q' : Int)) = true := by simpa using hq0'
              go_wp2_with (at_builtin; refine wpList_append_own _ rfl (.tmp 39) (.tmp 41) 22 rfl w.heap.size 5 i0 (.int .u8 0) 1 1 Tryz.underlying22 hi hz0 hz1 hz2 rfl (by decide) (.slice av q' cv) q' _ rfl (HOWN.out.alloc _) ⟨wr.heap.size, 0, none⟩ 1 1 [.int .u8 (48 + (d : Int))] rfl rfl (cell_new_u8 _ _ _) (by intro u hu; simp at hu; subst hu; rfl) (by unfold maxLen; omega) (by omega) (by have := hB2.out.size; simp; omega) ?_; intro v' w2 hown1 hgrow1 hnil1)
              go_roundw
              case rel =>
                have e4 : shown (m * 10 + d) = shown m ++ [UInt8.ofNat (48 + d)] := by rw [hsh.out, hQ2.out, if_pos (.inl hq0')]
                have hr1 : BRow w2 w.heap.size v' (shown m ++ [UInt8.ofNat (48 + d)]) := BRow.snoc (by rw [hQ2.out]; exact hown1) hu8.out
                exact ⟨t + 1, q' + 1, m * 10 + d, by omega, by rw [HU.out], by omega, Lib.hid HDG.out.symm, Lib.hid (by rw [e4]; exact hr1), Lib.hid (by rw [e4, List.length_append, hQ2.out]; rfl), Lib.hid ((hB2.out.alloc hB2.out.size _).grown hgrow1 (by have := hB2.out.size; simp; omega) (fun q hq => (World.ownsRow.lt HOWN.out q hq).1))⟩
              case measure => simp [intOf]; omega
            · have e1 : decide ((0 : Int) < (q' : Int)) = false := by simpa using hq0'
              by_cases hd0 : d = 0
              · have e2 : ((48 + (d : Int)) != 48) = false := by simp; omega
                go_wp2
                go_roundw
                case rel =>
                  have e4 : shown (m * 10 + d) = [] := by rw [hsh.out, hQ2.out, if_neg (by omega)]
                  have e5 : shown m = [] := List.length_eq_zero_iff.1 (by rw [hQ2.out]; omega)
                  exact ⟨t + 1, q', m * 10 + d, by omega, by rw [HU.out], by omega, Lib.hid HDG.out.symm, Lib.hid (by rw [e4, ← e5]; exact hR2.out), Lib.hid (by rw [e4]; simp; omega), hB2⟩
                case measure => simp [intOf]; omega
              · have e2 : ((48 + (d : Int)) != 48) = true := by simp; omega
                go_wp2_with (at_builtin; refine wpList_append_own _ rfl (.tmp 39) (.tmp 41) 22 rfl w.heap.size 5 i0 (.int .u8 0) 1 1 Tryz.underlying22 hi hz0 hz1 hz2 rfl (by decide) (.slice av q' cv) q' _ rfl (HOWN.out.alloc _) ⟨wr.heap.size, 0, none⟩ 1 1 [.int .u8 (48 + (d : Int))] rfl rfl (cell_new_u8 _ _ _) (by intro u hu; simp at hu; subst hu; rfl) (by unfold maxLen; omega) (by omega) (by have := hB2.out.size; simp; omega) ?_; intro v' w2 hown1 hgrow1 hnil1)
                go_roundw
                case rel =>
                  have e4 : shown (m * 10 + d) = shown m ++ [UInt8.ofNat (48 + d)] := by rw [hsh.out, hQ2.out, if_pos (.inr hd0)]
                  have hr1 : BRow w2 w.heap.size v' (shown m ++ [UInt8.ofNat (48 + d)]) := BRow.snoc (by rw [hQ2.out]; exact hown1) hu8.out
                  exact ⟨t + 1, q' + 1, m * 10 + d, by omega, by rw [HU.out], by omega, Lib.hid HDG.out.symm, Lib.hid (by rw [e4]; exact hr1), Lib.hid (by rw [e4, List.length_append, hQ2.out]; rfl), Lib.hid ((hB2.out.alloc hB2.out.size _).grown hgrow1 (by have := hB2.out.size; simp; omega) (fun q hq => (World.ownsRow.lt HOWN.out q hq).1))⟩
                case measure => simp [intOf]; omega
          · obtain rfl : t = 4 := by omega
            have hu0 : unit4 4 = 0 := rfl
            rw [hu0]
            have hmm := hW.out.done
            rw [← HDR.out] at hmm
            clear hu0
            go_wp2
            go_roundw
            case rel => exact ⟨j, q', by first | rfl | go_num, by omega, by omega, Lib.hid (by rw [← hmm]; exact hR2.out), Lib.hid (by rw [← hmm]; exact hQ2.out), hB2⟩
            case measure => simp [intOf]
      · obtain rfl : k = 0 := by omega
        have hRn := hR.out
        rw [List.drop_zero, HVL.out] at hRn
        have hconv := Lib.hid (hRn.text HSN.out)
        have hb := hB.out
        cases neg with
        | true =>
          have hres := Lib.hid (show R = 45 :: shown n from HRR.out)
          have hadd : (⟨#[45]⟩ : ByteArray) ++ ⟨(shown n).toArray⟩ = ⟨(45 :: shown n).toArray⟩ := by apply ba_ext; simp
          have hcv := hconv.out
          have hS1 : (⟨(shown n).toArray⟩ : ByteArray).size ≤ 4000000 := by
            rw [ba_size]
            have h := hQ.out
            rw [List.drop_zero, HVL.out] at h
            omega
          generalize (⟨(shown n).toArray⟩ : ByteArray) = S1 at *
          go_wp2
          go_ret
          exact ⟨by rw [hres.out]; simp [hadd], hb⟩
        | false =>
          have hres := Lib.hid (show R = shown n from HRR.out)
          have hcv := hconv.out
          go_wp2
          go_ret
          exact ⟨by rw [hres.out]; rfl, hb⟩

end Go.Proofs.YtpmlmibceiolpaaGreatDoor.D4

/- The contract of croupierref01.times. -/
set_option linter.unusedSimpArgs false
set_option linter.unusedVariables false
namespace Go.Proofs.YtpmlmibceiolpaaGreatDoor.D4
open Go.RowKit
open Go.Lib (decDigits itoa nDigits)

/-- Behind i rounds of the outer loop. -/
def MulOut (l1 l2 : List Nat) (i : Nat) (A : List Nat) : Prop :=
  A.length = l1.length + l2.length ∧ Ok A ∧ val A = val (l1.take i) * val l2 ∧ ∀ j, i + l2.length ≤ j → A.getD j 0 = 0

/-- Behind k rounds of the inner loop. -/
def MulIn (l1 l2 : List Nat) (i k : Nat) (A : List Nat) (c : Nat) : Prop :=
  A.length = l1.length + l2.length ∧ Ok A ∧ c < 10000 ∧ val A + 10000 ^ (i + k) * c = val (l1.take i) * val l2 + 10000 ^ i * (l1.getD i 0 * val (l2.take k)) ∧ ∀ j, i + l2.length ≤ j → A.getD j 0 = 0

theorem MulOut.start (l1 l2 : List Nat) : MulOut l1 l2 0 (List.replicate (l1.length + l2.length) 0) :=
  ⟨by simp, Ok.zeros _, by simp [val, val_zeros], fun j _ => by simp [List.getD, List.getElem?_replicate]; split <;> rfl⟩

theorem MulOut.inner {l1 l2 : List Nat} {i : Nat} {A : List Nat} (h : MulOut l1 l2 i A) : MulIn l1 l2 i 0 A 0 :=
  ⟨h.1, h.2.1, by omega, by simp [val, h.2.2.1], h.2.2.2⟩

theorem MulIn.step {l1 l2 : List Nat} {i k : Nat} {A : List Nat} {c : Nat} (h : MulIn l1 l2 i k A c) (hi : i < l1.length) (hk : k < l2.length) {n : Nat} (hn : n = l1.getD i 0 * l2.getD k 0 + A.getD (i + k) 0 + c) (hd : n / 10000 < 10000) :
    MulIn l1 l2 i (k + 1) (A.set (i + k) (n % 10000)) (n / 10000) := by
  obtain ⟨h1, h2, h3, h4, h5⟩ := h
  refine ⟨by simp [h1], h2.set _ _ (Nat.mod_lt _ (by omega)), hd, ?_, fun j hj => ?_⟩
  · have e1 := val_put (A := A) (j := i + k) (x := n % 10000) (by omega)
    have e2 : 10000 ^ (i + k) * (n % 10000 + 10000 * (n / 10000)) = 10000 ^ (i + k) * (l1.getD i 0 * l2.getD k 0 + A.getD (i + k) 0 + c) := by rw [Nat.mod_add_div, hn]
    rw [val_take_succ, ← Nat.add_assoc, Nat.pow_succ, Nat.mul_assoc (10000 ^ (i + k)) 10000, Nat.mul_add (l1.getD i 0), Nat.mul_add (10000 ^ i)]
    have e3 : 10000 ^ i * (l1.getD i 0 * (10000 ^ k * l2.getD k 0)) = 10000 ^ (i + k) * (l1.getD i 0 * l2.getD k 0) := by
      rw [Nat.pow_add, Nat.mul_left_comm (l1.getD i 0), Nat.mul_assoc]
    rw [e3]
    simp only [Nat.mul_add] at e2
    omega
  · rw [getD_put (by omega)]; exact h5 j hj

theorem MulIn.outer {l1 l2 : List Nat} {i : Nat} {A : List Nat} {c : Nat} (h : MulIn l1 l2 i l2.length A c) (hi : i < l1.length) : MulOut l1 l2 (i + 1) (A.set (i + l2.length) c) := by
  obtain ⟨h1, h2, h3, h4, h5⟩ := h
  refine ⟨by simp [h1], h2.set _ _ h3, ?_, fun j hj => ?_⟩
  · have e1 := val_put (A := A) (j := i + l2.length) (x := c) (by omega)
    rw [h5 _ (Nat.le_refl _), Nat.mul_zero] at e1
    rw [List.take_length] at h4
    rw [val_take_succ, Nat.add_mul, Nat.mul_assoc]
    omega
  · rw [getD_put (by omega)]; exact h5 j (by omega)

theorem MulOut.done {l1 l2 : List Nat} {A : List Nat} (h : MulOut l1 l2 l1.length A) : val A = val l1 * val l2 := by
  have := h.2.2.1
  rwa [List.take_length] at this

theorem set_same {A : List Nat} {j : Nat} (h : A.getD j 0 = 0) : A.set j 0 = A := by
  apply List.ext_getElem (by simp)
  intro i h1 h2
  rw [List.getElem_set]
  split
  · rename_i e
    subst e
    simp [List.getD, List.getElem?_eq_getElem h2] at h
    exact h.symm
  · rfl

/-- Digits, or one number that is the base itself. -/
def Mild (l : List Nat) : Prop := Ok l ∨ ∃ m, l = [m] ∧ m ≤ 10000
theorem Mild.getD {l : List Nat} (h : Mild l) (k : Nat) : l.getD k 0 ≤ 10000 := by
  rcases h with h | ⟨m, rfl, hm⟩
  · have := h.getD k; omega
  · cases k with
    | zero => simpa using hm
    | succ k => simp

/-- The head of a round of the inner loop of times. -/
def TmIn (l1 l2 : List Nat) (i k c : Nat) (A : List Nat) : Prop := (k ≤ l2.length ∧ (k = 0 → c = 0) ∧ MulIn l1 l2 i k A c) ∨ (k = l2.length + 1 ∧ c = 0 ∧ MulOut l1 l2 (i + 1) A)
theorem TmIn.len {l1 l2 : List Nat} {i k c : Nat} {A : List Nat} (h : TmIn l1 l2 i k c A) : A.length = l1.length + l2.length := by
  rcases h with ⟨_, _, h⟩ | ⟨_, _, h⟩ <;> exact h.1
theorem TmIn.le {l1 l2 : List Nat} {i k c : Nat} {A : List Nat} (h : TmIn l1 l2 i k c A) : k ≤ l2.length + 1 ∧ c < 10000 ∧ Ok A := by
  rcases h with ⟨h0, _, h⟩ | ⟨h0, h1, h⟩
  · exact ⟨by omega, h.2.2.1, h.2.1⟩
  · exact ⟨by omega, by omega, h.2.1⟩
theorem TmIn.start {l1 l2 : List Nat} {i : Nat} {A : List Nat} (h : MulOut l1 l2 i A) : TmIn l1 l2 i 0 0 A := .inl ⟨Nat.zero_le _, fun _ => rfl, h.inner⟩
theorem TmIn.step {l1 l2 : List Nat} {i k c : Nat} {A : List Nat} (o1 : Ok l1) (o2 : Mild l2) (h : TmIn l1 l2 i k c A) (hi : i < l1.length) (hk : k < l2.length) {n : Nat} (hn : n = A.getD (i + k) 0 + c + l1.getD i 0 * l2.getD k 0) : TmIn l1 l2 i (k + 1) (n / 10000) (A.set (i + k) (n % 10000)) := by
  rcases h with ⟨h0, hz, h⟩ | ⟨h0, h1, h⟩
  · refine .inl ⟨by omega, fun e => absurd e (by omega), h.step hi hk (by omega) ?_⟩
    have h1 := o1.getD i
    have h3 := h.2.1.getD (i + k)
    have h4 := h.2.2.1
    rcases o2 with o2 | ⟨m, rfl, hm⟩
    · have h2 := o2.getD k
      have h5 : l1.getD i 0 * l2.getD k 0 ≤ 9999 * 9999 := Nat.mul_le_mul (by omega) (by omega)
      omega
    · obtain rfl : k = 0 := by simp at hk; exact hk
      have hc0 := hz rfl
      have h2 : ([m] : List Nat).getD 0 0 = m := rfl
      have h5 : l1.getD i 0 * ([m] : List Nat).getD 0 0 ≤ 9999 * 10000 := Nat.mul_le_mul (by omega) (by rw [h2]; exact hm)
      omega
  · omega
theorem TmIn.more {l1 l2 : List Nat} {i k c : Nat} {A : List Nat} (h : TmIn l1 l2 i k c A) (hi : i < l1.length) (hk : ¬ k < l2.length) (hc : 0 < c) : k = l2.length ∧ A.getD (i + k) 0 = 0 ∧ TmIn l1 l2 i (k + 1) 0 (A.set (i + k) c) := by
  rcases h with ⟨h0, _, h⟩ | ⟨h0, h1, h⟩
  · obtain rfl : k = l2.length := by omega
    exact ⟨rfl, h.2.2.2.2 _ (Nat.le_refl _), .inr ⟨rfl, rfl, h.outer hi⟩⟩
  · omega
theorem TmIn.done {l1 l2 : List Nat} {i k : Nat} {A : List Nat} (h : TmIn l1 l2 i k 0 A) (hi : i < l1.length) (hk : ¬ k < l2.length) : MulOut l1 l2 (i + 1) A := by
  rcases h with ⟨h0, _, h⟩ | ⟨h0, h1, h⟩
  · obtain rfl : k = l2.length := by omega
    have := h.outer hi
    rwa [set_same (h.2.2.2.2 _ (Nat.le_refl _))] at this
  · exact h

set_option maxHeartbeats 2000000 in
set_option maxRecDepth 100000 in
theorem times_any {w : World} {v1 v2 : Value} {l1 l2 : List Nat} (h1 : Lim w v1 l1) (h2 : Lim w v2 l2) (o1 : Ok l1) (o2 : Mild l2) (s1 : l1.length ≤ 1000000) (s2 : l2.length ≤ 1000000) :
    Calls Tryz.prog 95 #[v1, v2] w (RetI w (val l1 * val l2)) := by
  obtain ⟨i0, hi, hz0, hz1, hz2⟩ := info_parts info64
  obtain ⟨a1, c1, rfl, hc1, hm1, h1⟩ := h1
  obtain ⟨a2, c2, rfl, hc2, hm2, h2⟩ := h2
  unfold maxLen at hm1 hm2
  have HS := Lib.hid (MulOut.start l1 l2)
  generalize hn1 : l1.length = n1 at *
  generalize hn2 : l2.length = n2 at *
  have HN1 := Lib.hid hn1
  have HN2 := Lib.hid hn2
  clear hn1 hn2
  obtain ⟨N, hN⟩ : ∃ N, N = n1 + n2 := ⟨_, rfl⟩
  rw [← hN] at HS
  have hmk : ∀ w : World, (Instr.makeSlice 93 (.int .i64 ((n1 : Int) + n2)) (.int .i64 ((n1 : Int) + n2))).run Tryz.prog w = .ok (.slice (some ⟨w.heap.size, 0, none⟩) N N) (w.alloc (.cells (arr (List.replicate N 0)) 3)) := by
    intro w
    have e : (n1 : Int) + n2 = (N : Int) := by omega
    rw [e]
    have := run_make (P := Tryz.prog) w 93 3 i0 (.int .i64 0) Tryz.underlying93 hi hz0 .i64 .i64 N N (by omega) (by omega) (by rw [hz2]; omega) (by omega)
    simp only [Int.toNat_natCast, hz1] at this
    rw [this, madeZeros]
  have HNN := Lib.hid hN
  have hNle : N ≤ 2000000 := by omega
  have hN1 : (n1 : Int) + n2 ≤ N := by omega
  have hN2 : (N : Int) ≤ (n1 : Int) + n2 := by omega
  have H1 := Lib.hid h1
  have H2 := Lib.hid h2
  clear hN h1 h2
  go_enter Tryz.func95, Tryz.ntmps95
  go_wp2
  have hmk' := Lib.hid hmk
  clear hmk
  have HST : Hid (Below w.heap.size w (w.alloc (.cells (arr (List.replicate N 0)) 3))) := Lib.hid ((Below.refl _ _).alloc (Nat.le_refl _) _)
  have HBL : Hid (Blk (w.alloc (.cells (arr (List.replicate N 0)) 3)) w.heap.size 3 (arr (List.replicate N 0))) := Lib.hid (Blk.new _ _ _)
  go_loopw [6] (fun u6 wr => ∃ (i : Nat) (A : List Nat), i ≤ n1 ∧ u6 = .int .i64 i ∧ Hid (MulOut l1 l2 i A) ∧ Hid (Below w.heap.size w wr) ∧ Hid (Blk wr w.heap.size 3 (arr A))) (fun u6 _ => n1 - (intOf u6).toNat)
  case atStart => exact ⟨0, _, Nat.zero_le _, rfl, HS, HST, HBL⟩
  case round =>
    obtain ⟨i, A, hi, rfl, hP, hK, hBl⟩ := hrel
    by_cases hlt : i < n1
    · rcases H1.out with q1 | ⟨g1, p1, rfl, hcell⟩
      · exfalso; have := HN1.out; rw [q1] at this; simp at this; omega
      have hx := o1.getD i
      have hcx := Lib.hid (hcell.2 i (by have := HN1.out; omega))
      have hg1 := hcell.lt
      obtain ⟨x, hxe⟩ : ∃ x, x = l1.getD i 0 := ⟨_, rfl⟩
      rw [← hxe] at hx hcx
      have HX := Lib.hid hxe
      clear hxe
      go_wp2
      obtain ⟨wo, rfl⟩ : ∃ wo : World, wo = wr := ⟨_, rfl⟩
      go_loopw [7, 8] (fun u7 u8 wi => ∃ (k c : Nat) (A' : List Nat), u8 = .int .i64 k ∧ u7 = .int .i64 c ∧ k ≤ n2 + 1 ∧ c < 10000 ∧ Hid (TmIn l1 l2 i k c A') ∧ Hid (Below w.heap.size w wi) ∧ Hid (Blk wi w.heap.size 3 (arr A'))) (fun _ u8 _ => n2 + 2 - (intOf u8).toNat)
      case atStart => exact ⟨0, 0, A, rfl, rfl, by omega, by omega, Lib.hid (TmIn.start hP.out), hK, hBl⟩
      case round =>
        obtain ⟨k, c, A', rfl, rfl, hk, hc, hI, hK2, hBl2⟩ := hrel
        have hlA : A'.length = N := by rw [hI.out.len, HN1.out, HN2.out, HNN.out]
        have HLA := Lib.hid hlA
        clear hlA
        by_cases hlt2 : k < n2
        · have e1 : decide ((k : Int) < (n2 : Int)) = true := by simpa using hlt2
          rcases H2.out with q2 | ⟨g2, p2, rfl, hcell2⟩
          · exfalso; have := HN2.out; rw [q2] at this; simp at this; omega
          have gx : wr.cell? ⟨g1, p1 + i, none⟩ = some (.int .i64 (x : Nat)) := (hK2.out.cell (p := ⟨g1, p1 + i, none⟩) hg1).trans hcx.out
          have gy : wr.cell? ⟨g2, p2 + k, none⟩ = some (.int .i64 (l2.getD k 0)) := (hK2.out.cell (p := ⟨g2, p2 + k, none⟩) hcell2.lt).trans (hcell2.2 k (by have := HN2.out; omega))
          have gz : wr.cell? ⟨w.heap.size, i + k, none⟩ = some (.int .i64 (A'.getD (i + k) 0 : Nat)) := blk_at_ hBl2.out (by have := HLA.out; omega)
          have f0 := hBl2.out.frozen (i + k)
          have hy := o2.getD k
          have hz := hI.out.le.2.2.getD (i + k)
          have hst := fun n hn => hI.out.step (n := n) o1 o2 (by rw [HN1.out]; exact hlt) (by rw [HN2.out]; exact hlt2) hn
          rw [← HX.out] at hst
          generalize l2.getD k 0 = y at gy hy hst
          generalize A'.getD (i + k) 0 = z at gz hz hst
          have hxy : x * y ≤ 99990000 := Nat.mul_le_mul (show x ≤ 9999 by omega) (show y ≤ 10000 by omega)
          obtain ⟨p, hp⟩ : ∃ p, p = x * y := ⟨_, rfl⟩
          rw [← hp] at hxy hst
          have hxz : (x : Int) * (y : Int) = (p : Int) := by rw [hp]; simp
          have HST2 := Lib.hid hst
          have d3 : (i : Int) + (k : Int) < (N : Int) := by omega
          have d2 : ((i : Int) + (k : Int)).toNat = i + k := by omega
          have d4 : (0 : Int) ≤ (i : Int) + (k : Int) := by omega
          clear hst hp
          go_wp2
          go_quiet (fail)
          go_wp2
          go_roundw
          case rel => exact ⟨k + 1, (z + c + p) / 10000, A'.set (i + k) ((z + c + p) % 10000), by go_num, by go_num, by omega, (HST2.out _ rfl).le.2.1, Lib.hid (HST2.out _ rfl), Lib.hid ((hK2.out.trans ((Drawn.of _ _).below _)).setCell (Nat.le_refl _) _), Lib.hid (blk_put (hBl2.out.drewN _) _ _ (by omega))⟩
          case measure => simp [intOf]; omega
        · have e1 : decide ((k : Int) < (n2 : Int)) = false := by simpa using hlt2
          by_cases hcc : 0 < c
          · have e2 : decide ((0 : Int) < (c : Int)) = true := by simpa using hcc
            have hmo := hI.out.more (by rw [HN1.out]; exact hlt) (by rw [HN2.out]; exact hlt2) hcc
            have hkn : k = n2 := hmo.1.trans HN2.out
            have gz : wr.cell? ⟨w.heap.size, i + k, none⟩ = some (.int .i64 (A'.getD (i + k) 0 : Nat)) := blk_at_ hBl2.out (by have := HLA.out; have := HNN.out; omega)
            rw [hmo.2.1] at gz
            have f0 := hBl2.out.frozen (i + k)
            have HMO := Lib.hid hmo.2.2
            have d3 : (i : Int) + (k : Int) < (N : Int) := by have := HNN.out; omega
            have d2 : ((i : Int) + (k : Int)).toNat = i + k := by omega
            have d4 : (0 : Int) ≤ (i : Int) + (k : Int) := by omega
            have hcd : (c : Int) % 10000 = c := by omega
            have hce : (c : Int) / 10000 = 0 := by omega
            have HKN := Lib.hid hkn
            clear hmo hkn
            go_wp2
            go_roundw
            case rel => exact ⟨k + 1, 0, A'.set (i + k) c, by go_num, by first | rfl | go_num, by have := HKN.out; omega, by omega, HMO, Lib.hid (hK2.out.setCell (Nat.le_refl _) _), Lib.hid (blk_put hBl2.out _ _ rfl)⟩
            case measure => simp [intOf]; omega
          · obtain rfl : c = 0 := by omega
            have hdo := Lib.hid (hI.out.done (by rw [HN1.out]; exact hlt) (by rw [HN2.out]; exact hlt2))
            go_wp2
            go_roundw
            case rel => exact ⟨i + 1, A', by omega, by go_num, hdo, hK2, hBl2⟩
            case measure => simp [intOf]; omega
    · obtain rfl : i = n1 := by omega
      have hlA : A.length = N := by rw [hP.out.1, HN1.out, HN2.out, HNN.out]
      have hv : val A = val l1 * val l2 := by have h := hP.out; rw [← HN1.out] at h; exact h.done
      have hl : Lim wr (.slice (some ⟨w.heap.size, 0, none⟩) N N) A := by have := blk_lim hBl.out (by omega); rwa [hlA] at this
      have HC := Lib.hid (cut_any hl hP.out.2.1)
      have HV := Lib.hid hv
      clear hv hlA hl
      go_wp2_with (go_at_call 125; refine HC.out.mono ?_; rintro e w1 ⟨r, rfl, hr, hab, hb1⟩)
      go_ret
      rw [← HV.out]
      exact ⟨_, rfl, hr, hab _ (fun a k c e => by cases e; exact Nat.le_refl _), next_below hK.out hb1⟩

end Go.Proofs.YtpmlmibceiolpaaGreatDoor.D4
