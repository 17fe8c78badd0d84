/- The contract of croupierref01.divide. -/
import Derived.Test.YtpmlmibceiolpaaGreatDoorR1c
import Derived.Test.YtpmlmibceiolpaaGreatDoorR1f
set_option linter.unusedSimpArgs false
set_option linter.unusedVariables false
namespace Go.Proofs.YtpmlmibceiolpaaGreatDoor.D4
open Go.RowKit
open Go.Lib (decDigits itoa nDigits)

theorem limbs_getD : ∀ (k x : Nat), (limbs x).getD k 0 = x / 10000 ^ k % 10000
  | k, 0 => by rw [limbs_zero, Nat.zero_div]; simp
  | 0, x + 1 => by rw [limbs_pos (by omega)]; simp
  | k + 1, x + 1 => by
    rw [limbs_pos (by omega), List.getD_cons_succ, limbs_getD k, Nat.pow_succ, Nat.mul_comm (10000 ^ k), ← Nat.div_div_eq_div_mul]

theorem head_step (x k : Nat) : x / 10000 ^ (k + 1) * 10000 + x / 10000 ^ k % 10000 = x / 10000 ^ k := by
  rw [Nat.pow_succ, ← Nat.div_div_eq_div_mul]
  generalize x / 10000 ^ k = y
  omega

theorem quo_low {r b D : Nat} (hD : 0 < D) (hb : 0 < b) : r / D / (b / D + 1) ≤ r / b := by
  rw [Nat.le_div_iff_mul_le hb]
  generalize ht : b / D = t
  have h1 : b < (t + 1) * D := by
    have := Nat.lt_mul_div_succ b hD
    rw [ht, Nat.mul_comm] at this
    exact this
  have h2 : r / D / (t + 1) * (t + 1) ≤ r / D := Nat.div_mul_le_self _ _
  have h3 : r / D * D ≤ r := Nat.div_mul_le_self _ _
  have h4 : r / D / (t + 1) * b ≤ r / D / (t + 1) * ((t + 1) * D) := Nat.mul_le_mul_left _ (Nat.le_of_lt h1)
  rw [← Nat.mul_assoc] at h4
  have h5 : r / D / (t + 1) * (t + 1) * D ≤ r / D * D := Nat.mul_le_mul_right _ h2
  omega

theorem quo_high {r b D : Nat} (hD : 0 < D) (hb : 0 < b) (ht : 0 < b / D) : r / b ≤ r / D / (b / D) := by
  rw [Nat.le_div_iff_mul_le ht]
  have h1 : r / b * b ≤ r := Nat.div_mul_le_self _ _
  have h2 : b / D * D ≤ b := Nat.div_mul_le_self _ _
  have h3 : r / b * (b / D * D) ≤ r / b * b := Nat.mul_le_mul_left _ h2
  rw [← Nat.mul_assoc] at h3
  rw [Nat.le_div_iff_mul_le hD]
  omega

theorem quo_small {r b D : Nat} (hD : 0 < D) (h : r < 10000 * b) (ht : D = 1 ∨ 10000 ≤ b / D) (hb : 0 < b) : r / D / (b / D) ≤ 10000 := by
  rcases ht with ht | ht
  · subst ht
    rw [Nat.div_one, Nat.div_one]
    have : r / b < 10000 := (Nat.div_lt_iff_lt_mul hb).2 h
    omega
  · generalize he : b / D = t at *
    have h1 : b < (t + 1) * D := by
      have := Nat.lt_mul_div_succ b hD
      rw [he, Nat.mul_comm] at this
      exact this
    have h2 : r / D < 10000 * (t + 1) := by
      rw [Nat.div_lt_iff_lt_mul hD, Nat.mul_assoc]
      exact Nat.lt_of_lt_of_le h (Nat.mul_le_mul_left _ (Nat.le_of_lt h1))
    have h3 : r / D / t < 10001 := by
      rw [Nat.div_lt_iff_lt_mul (by omega)]
      omega
    omega

/-- What holds at the head of a round of divide: j digits are to come. -/
def DvAt (na nb j r : Nat) (Q : List Nat) : Prop := val ((limbs na).drop j) = val (Q.drop j) * nb + r ∧ r < nb ∧ Ok Q ∧ Q.length + (limbs nb).length = (limbs na).length + 1

theorem Last.drop {l : List Nat} (h : Last l) (k : Nat) : Last (l.drop k) := by
  intro hne
  have hl : k < l.length := by
    rcases Nat.lt_or_ge k l.length with h1 | h1
    · exact h1
    · exact absurd (List.drop_eq_nil_of_le h1) hne
  have := h (by intro e; subst e; simp at hl)
  intro e
  apply this
  have e2 : k + ((l.drop k).length - 1) = l.length - 1 := by simp; omega
  simp only [List.getD, List.getElem?_drop] at e
  rw [e2] at e
  simpa [List.getD] using e

theorem DvAt.start {na nb : Nat} (hb : 0 < nb) (hl : (limbs nb).length ≤ (limbs na).length) :
    DvAt na nb ((limbs na).length + 1 - (limbs nb).length) (val ((limbs na).drop ((limbs na).length + 1 - (limbs nb).length))) (List.replicate ((limbs na).length + 1 - (limbs nb).length) 0) := by
  have hp := limbs_length_pos hb
  refine ⟨?_, ?_, Ok.zeros _, by simp; omega⟩
  · have e : (List.replicate ((limbs na).length + 1 - (limbs nb).length) 0).drop ((limbs na).length + 1 - (limbs nb).length) = [] := List.drop_eq_nil_of_le (by simp)
    rw [e]; simp [val]
  · have h1 := val_lt ((limbs_ok na).drop ((limbs na).length + 1 - (limbs nb).length))
    have h2 : ((limbs na).drop ((limbs na).length + 1 - (limbs nb).length)).length = (limbs nb).length - 1 := by simp; omega
    rw [h2] at h1
    exact Nat.lt_of_lt_of_le h1 (pow_le_of_len hb)

theorem DvAt.step {na nb j r : Nat} {Q : List Nat} (h : DvAt na nb (j + 1) r Q) (hj : j < Q.length) (hb : 0 < nb) : DvAt na nb j (((limbs na).getD j 0 + 10000 * r) % nb) (Q.set j (((limbs na).getD j 0 + 10000 * r) / nb)) := by
  obtain ⟨h1, h2, h3, h4⟩ := h
  have hlp := limbs_length_pos hb
  have hx := (limbs_ok na).getD j
  have hq : ((limbs na).getD j 0 + 10000 * r) / nb < 10000 := by
    rw [Nat.div_lt_iff_lt_mul hb]; omega
  refine ⟨?_, Nat.mod_lt _ hb, h3.set _ _ hq, by simpa using h4⟩
  rw [drop_eq (by omega), drop_eq (l := Q.set j _) (by simpa using hj)]
  simp only [val]
  rw [List.drop_set_of_lt (by omega), h1]
  have e : (Q.set j (((limbs na).getD j 0 + 10000 * r) / nb)).getD j 0 = ((limbs na).getD j 0 + 10000 * r) / nb := by simp [List.getD, hj]
  rw [e]
  have e2 := Nat.div_add_mod ((limbs na).getD j 0 + 10000 * r) nb
  generalize ((limbs na).getD j 0 + 10000 * r) / nb = q at *
  generalize ((limbs na).getD j 0 + 10000 * r) % nb = s at *
  generalize val (Q.drop (j + 1)) = v at *
  rw [Nat.add_mul, Nat.mul_assoc]
  rw [Nat.mul_comm q nb]
  omega

theorem DvAt.done {na nb r : Nat} {Q : List Nat} (h : DvAt na nb 0 r Q) : val Q = na / nb ∧ r = na % nb := by
  obtain ⟨h1, h2, h3, h4⟩ := h
  rw [List.drop_zero, List.drop_zero, val_limbs] at h1
  have hb : 0 < nb := by omega
  constructor
  · rw [h1, Nat.add_comm, Nat.add_mul_div_right _ _ hb, Nat.div_eq_of_lt h2]; omega
  · rw [h1, Nat.add_comm, Nat.add_mul_mod_self_right, Nat.mod_eq_of_lt h2]

theorem len_two {r nb : Nat} (h : r < 10000 * nb) : (limbs r).length ≤ (limbs nb).length + 1 := by
  apply limbs_len_le
  have := limbs_lt_pow nb
  rw [Nat.pow_succ]; omega

theorem head_small {r nb k : Nat} (h : r < 10000 * nb) (hk : (limbs nb).length ≤ k + 1) : r / 10000 ^ k < 100000000 := by
  rw [Nat.div_lt_iff_lt_mul (Nat.pow_pos (by omega))]
  have h1 := limbs_lt_pow nb
  have h2 : 10000 ^ (limbs nb).length ≤ 10000 ^ (k + 1) := Nat.pow_le_pow_right (by omega) hk
  rw [Nat.pow_succ] at h2
  omega
theorem top_small {nb k : Nat} (hk : (limbs nb).length ≤ k + 1) : nb / 10000 ^ k < 10000 := by
  rw [Nat.div_lt_iff_lt_mul (Nat.pow_pos (by omega))]
  have h1 := limbs_lt_pow nb
  have h2 : 10000 ^ (limbs nb).length ≤ 10000 ^ (k + 1) := Nat.pow_le_pow_right (by omega) hk
  rw [Nat.pow_succ] at h2
  omega
theorem top_big {nb : Nat} (hb : 0 < nb) : 10000 ^ ((limbs nb).length - 1 - 1) = 1 ∨ 10000 ≤ nb / 10000 ^ ((limbs nb).length - 1 - 1) := by
  rcases Nat.lt_or_ge 1 ((limbs nb).length - 1) with h | h
  · right
    rw [Nat.le_div_iff_mul_le (Nat.pow_pos (by omega)), Nat.mul_comm]
    have := pow_le_of_len hb
    rw [show (limbs nb).length - 1 = ((limbs nb).length - 1 - 1) + 1 by omega, Nat.pow_succ] at this
    exact this
  · left
    rw [show (limbs nb).length - 1 - 1 = 0 by omega, Nat.pow_zero]
theorem top_pos {nb : Nat} (hb : 0 < nb) : 0 < nb / 10000 ^ ((limbs nb).length - 1 - 1) := by
  apply Nat.div_pos _ (Nat.pow_pos (by omega))
  exact Nat.le_trans (Nat.pow_le_pow_right (by omega) (by omega)) (pow_le_of_len hb)

theorem sgn_le {x y : Nat} : sgn x y ≤ 0 ↔ x ≤ y := by
  unfold sgn
  split
  · constructor <;> intro _ <;> omega
  · split
    · constructor <;> intro _ <;> omega
    · constructor <;> intro _ <;> omega

end Go.Proofs.YtpmlmibceiolpaaGreatDoor.D4

/- The contract of croupierref01.divide, walked. -/
set_option linter.unusedSimpArgs false
set_option linter.unusedVariables false
namespace Go.Proofs.YtpmlmibceiolpaaGreatDoor.D4
open Go.RowKit
open Go.Lib (decDigits itoa nDigits)

theorem Lim.put {w : World} {v u : Value} {l : List Nat} {g i : Nat} (h : Lim w v l) (ha : Above (g + 1) v) : Lim (w.setCell ⟨g, i, none⟩ u) v l := by
  obtain ⟨a, cap, rfl, h1, h2, h3⟩ := h
  refine ⟨a, cap, rfl, h1, h2, h3.imp id ?_⟩
  rintro ⟨b, o, rfl, ⟨cs, f, hb⟩, hc⟩
  have hne : b ≠ g := by have := ha _ _ _ rfl; simp at this; omega
  refine ⟨b, o, rfl, ⟨cs, f, (Below.heap_setCell w ⟨g, i, none⟩ u b hne).trans hb⟩, fun k hk => ?_⟩
  rw [← hc k hk]
  exact World.cell?_of_block (w := w) (Below.heap_setCell w ⟨g, i, none⟩ u b hne)
theorem one_row (w : World) (x : Int) : (w.alloc (.cells #[.int .i64 x] 3)).ownsRow w.heap.size 3 1 (.slice (some ⟨w.heap.size, 0, none⟩) 1 1) 1 [.int .i64 x] :=
  ⟨rfl, .inr ⟨w.heap.size, 1, #[.int .i64 x], rfl, Nat.le_refl _, heap_alloc_new w _, Nat.le_refl _, by unfold maxLen; omega, rfl, rfl⟩⟩
theorem one_lim (w : World) (x : Nat) : Lim (w.alloc (.cells #[.int .i64 (x : Int)] 3)) (.slice (some ⟨w.heap.size, 0, none⟩) 1 1) [x] := by
  have h : Row (w.alloc (.cells #[.int .i64 (x : Int)] 3)) w.heap.size (.slice (some ⟨w.heap.size, 0, none⟩) 1 1) [x] := one_row w x
  exact h.lim
theorem Lim.tail {w : World} {b o m c k : Nat} {l : List Nat} (h : Cells w b o l) (hm : l.length = m) (hc : m ≤ c) (hcm : c ≤ maxLen) (hk : k ≤ m) : Lim w (.slice (some ⟨b, o + k, none⟩) (m - k) (c - k)) (l.drop k) := by
  have hl : (l.drop k).length = m - k := by simp; omega
  unfold maxLen at hcm
  refine ⟨_, c - k, by rw [hl], by omega, by unfold maxLen; omega, .inr ⟨b, o + k, rfl, h.1, fun i hi => ?_⟩⟩
  rw [hl] at hi
  rw [Nat.add_assoc, h.2 (k + i) (by omega)]
  simp [List.getD, List.getElem?_drop]
theorem Row.cons {w : World} {B : Nat} {v : Value} {x n : Nat} {l : List Nat} (h : w.ownsRow B 3 1 v n ([.int .i64 (x : Int)] ++ l.map fun (x : Nat) => Value.int .i64 x)) (hn : n = (x :: l).length) : Row w B v (x :: l) := by
  subst hn; simpa [Row] using h

/-- Two lists of digits. -/
def RetI2 (w : World) (m n : Nat) (e : Ending) (w' : World) : Prop := ∃ r s, e = .returned (.tuple #[r, s]) ∧ Lim w' r (limbs m) ∧ Lim w' s (limbs n) ∧ Below w.heap.size w w'

theorem empty_row (w : World) : (w.alloc (.cells #[] 3)).ownsRow w.heap.size 3 1 (.slice (some ⟨w.heap.size, 0, none⟩) 0 0) 0 [] :=
  ⟨rfl, .inr ⟨w.heap.size, 0, #[], rfl, Nat.le_refl _, heap_alloc_new w _, Nat.le_refl _, by unfold maxLen; omega, rfl, rfl⟩⟩
theorem Lim.more {w : World} {v : Value} {l : List Nat} (h : Lim w v l) (o : Obj) : Lim (w.alloc o) v l := h.below ((Below.refl _ _).alloc (Nat.le_refl _) o)
theorem row_of_own {w : World} {B : Nat} {v : Value} {l : List Nat} {n : Nat} (h : w.ownsRow B 3 1 v n ([] ++ l.map fun (x : Nat) => Value.int .i64 x)) (hn : n = l.length) : Row w B v l := by
  subst hn; simpa [Row] using h

set_option maxHeartbeats 4000000 in
set_option maxRecDepth 100000 in
theorem divide_small {w : World} {v1 v2 : Value} {na nb : Nat} (h1 : Lim w v1 (limbs na)) (h2 : Lim w v2 (limbs nb)) (hlt : (limbs na).length < (limbs nb).length) (s2 : (limbs nb).length ≤ 1000000) :
    Calls Tryz.prog 126 #[v1, v2] w (RetI2 w (na / nb) (na % nb)) := by
  obtain ⟨a1, c1, rfl, hc1, hm1, -⟩ := id h1
  obtain ⟨a2, c2, rfl, hc2, hm2, -⟩ := id h2
  have hv : na < nb := by
    have := val_lt_len (limbs_ok na) (limbs_last nb) hlt
    rwa [val_limbs, val_limbs] at this
  rw [Nat.div_eq_of_lt hv, Nat.mod_eq_of_lt hv]
  unfold maxLen at hm1 hm2
  generalize hn1 : (limbs na).length = m at *
  generalize hn2 : (limbs nb).length = n at *
  have HN1 := Lib.hid hn1
  have H1 := Lib.hid h1
  clear h2 hn2 hv hn1 h1
  have e1 : decide ((m : Int) ≤ (n : Int) - 1) = true := by simp; omega
  go_enter Tryz.func126, Tryz.ntmps126
  go_upto_region 3 with fail
  go_wp2_with (at_builtin; refine wpList_append_lim rfl (.tmp 23) (.tmp 24) rfl w.heap.size (.slice (some ⟨w.heap.size, 0, none⟩) 0 0) 0 [] rfl (empty_row w) (.slice a1 m c1) (limbs na) rfl (H1.out.more _) (by have := HN1.out; omega) (by simp) ?_; intro v' w2 hown hgrow)
  go_ret2
  have hr : Row w2 w.heap.size v' (limbs na) := row_of_own hown (by omega)
  exact ⟨_, _, rfl, Lim.nil _, hr.lim, ((Below.refl _ _).alloc (Nat.le_refl _) _).grown hgrow (by simp) (fun q hq => by cases hq; exact Nat.le_refl _)⟩

set_option maxHeartbeats 4000000 in
set_option maxRecDepth 100000 in
theorem divide_main {w : World} {v1 v2 : Value} {na nb : Nat} (h1 : Lim w v1 (limbs na)) (h2 : Lim w v2 (limbs nb)) (hb : 0 < nb) (hge : (limbs nb).length ≤ (limbs na).length) (s1 : (limbs na).length ≤ 999999) :
    Calls Tryz.prog 126 #[v1, v2] w (RetI2 w (na / nb) (na % nb)) := by
  obtain ⟨i0, hi, hz0, hz1, hz2⟩ := info_parts info64
  have hst := DvAt.start (na := na) hb hge
  have hnl := limbs_length_pos hb
  have hlt := limbs_last na
  have hoa := limbs_ok na
  obtain ⟨a1, c1, rfl, hc1, hm1, h3⟩ := id h1
  obtain ⟨a2, c2, rfl, hc2, hm2, -⟩ := id h2
  unfold maxLen at hm1 hm2
  obtain ⟨b1, o1, rfl, hcell⟩ : ∃ b o, a1 = some ⟨b, o, none⟩ ∧ Cells w b o (limbs na) := by
    rcases h3 with h3 | h3
    · exfalso; rw [h3, List.length_nil] at hge; omega
    · exact h3
  clear h3
  generalize hn1 : (limbs na).length = m at *
  generalize hn2 : (limbs nb).length = n at *
  obtain ⟨M, hM⟩ : ∃ M, M = m + 1 - n := ⟨_, rfl⟩
  rw [← hM] at hst
  have hMi : (m : Int) - ((n : Int) - 1) = (M : Int) := by omega
  have hM1 : 1 ≤ M := by omega
  have hMm : M ≤ m := by omega
  have e1 : decide ((m : Int) ≤ (n : Int) - 1) = false := by simp; omega
  have hmk : ∀ w : World, (Instr.makeSlice 93 (.int .i64 (M : Int)) (.int .i64 (M : Int))).run Tryz.prog w = .ok (.slice (some ⟨w.heap.size, 0, none⟩) M M) (w.alloc (.cells (arr (List.replicate M 0)) 3)) := by
    intro w
    have := run_make (P := Tryz.prog) w 93 3 i0 (.int .i64 0) Tryz.underlying93 hi hz0 .i64 .i64 M M (by omega) (by omega) (by rw [hz2]; omega) (by omega)
    simp only [Int.toNat_natCast, hz1] at this
    rw [this, madeZeros]
  have HN1 := Lib.hid hn1
  have HN2 := Lib.hid hn2
  have HM := Lib.hid hM
  have H1 := Lib.hid h1
  have H2 := Lib.hid h2
  have HST := Lib.hid hst
  have HCE := Lib.hid hcell
  have HLA := Lib.hid hlt
  have HOA := Lib.hid hoa
  clear hn1 hn2 hM h1 h2 hst hcell hlt hoa
  have hlim0 : Hid (Lim w (if c1 = M then .slice (some ⟨b1, o1, none⟩) (m - M) (c1 - M) else .slice (some ⟨b1, o1 + M, none⟩) (m - M) (c1 - M)) ((limbs na).drop M)) := by
    refine Lib.hid ?_
    have h := HCE.out
    by_cases hcM : c1 = M
    · rw [if_pos hcM]
      have e : (limbs na).drop M = [] := List.drop_eq_nil_of_le (by have := HN1.out; omega)
      rw [e]
      exact ⟨_, _, by rw [show m - M = 0 by omega]; rfl, by simp, by unfold maxLen; omega, .inl rfl⟩
    · rw [if_neg hcM]
      exact Lim.tail h HN1.out hc1 (by unfold maxLen; omega) hMm
  by_cases hcM : c1 = M
  case' pos =>
    have hcM' := hcM.symm
    subst hcM'
    rw [if_pos rfl] at hlim0
    have HE : Hid ((limbs na).drop M = []) := Lib.hid (List.drop_eq_nil_of_le (by have := HN1.out; omega))
    clear hlim0
    go_enter Tryz.func126, Tryz.ntmps126
    go_upto_region 6 with fail
    have hf : Lim ((w.alloc (.cells (arr (List.replicate M 0)) 3)).alloc (.cells #[] 3)) (.slice (some ⟨w.heap.size + 1, 0, none⟩) 0 0) ((limbs na).drop M) := by
      rw [HE.out]; exact ⟨_, _, rfl, Nat.le_refl _, by unfold maxLen; omega, .inl rfl⟩
    have hab : Above (w.heap.size + 1) (.slice (some ⟨w.heap.size + 1, 0, none⟩) 0 0) := fun a k c e => by cases e; exact Nat.le_refl _
    have hbl : Blk ((w.alloc (.cells (arr (List.replicate M 0)) 3)).alloc (.cells #[] 3)) w.heap.size 3 (arr (List.replicate M 0)) := (Blk.new _ _ _).alloc _
    have hbw : Below w.heap.size w ((w.alloc (.cells (arr (List.replicate M 0)) 3)).alloc (.cells #[] 3)) := ((Below.refl _ _).alloc (Nat.le_refl _) _).alloc (by simp) _
    have hsz : w.heap.size + 1 ≤ ((w.alloc (.cells (arr (List.replicate M 0)) 3)).alloc (.cells #[] 3)).heap.size := by simp
    clear HE
    generalize ((w.alloc (.cells (arr (List.replicate M 0)) 3)).alloc (.cells #[] 3)) = w2 at *
    generalize (Value.slice (some ⟨w.heap.size + 1, 0, none⟩) 0 0) = v' at hf hab
  case' neg =>
    rw [if_neg hcM] at hlim0
    go_enter Tryz.func126, Tryz.ntmps126
    go_upto_region 5 with fail
    go_upto_region 6 with (at_builtin; refine wpList_append_lim rfl (.tmp 31) (.tmp 37) rfl (w.heap.size + 1) (.slice (some ⟨w.heap.size + 1, 0, none⟩) 0 0) 0 [] rfl (by have h := empty_row (w.alloc (.cells (arr (List.replicate M 0)) 3)); simpa using h) _ ((limbs na).drop M) rfl ((hlim0.out.more _).more _) (by simp; have := HN1.out; omega) (by simp) ?_; intro v' w2 hown hgrow)
    have hrow : Row w2 (w.heap.size + 1) v' ((limbs na).drop M) := row_of_own hown (by simp)
    have hf := hrow.lim
    have hab : Above (w.heap.size + 1) v' := Above.row hrow
    have hbl : Blk w2 w.heap.size 3 (arr (List.replicate M 0)) := ((Blk.new w 3 (arr (List.replicate M 0))).alloc _).grown hgrow (by simp [Value.ownBlock])
    have hbw : Below w.heap.size w w2 := (((Below.refl _ _).alloc (Nat.le_refl _) _).alloc (by simp) _).grown hgrow (by simp only [hs_alloc]; omega) (fun q hq => by cases hq; exact Nat.le_succ _)
    have hsz : w.heap.size + 1 ≤ w2.heap.size := by have := hgrow.size; simp at this; omega
    clear hown hgrow hrow hlim0
  all_goals
    have HF := Lib.hid (And.intro hf (And.intro hab (And.intro hbl hbw)))
    have HSZ := Lib.hid hsz
    clear hf hab hbl hbw hsz hcM
    have hmk' := Lib.hid hmk
    clear hmk
    go_wp2
    go_loopw [8, 9] (fun u8 u9 wr => ∃ (j r : Nat) (Q : List Nat), u9 = .int .i64 ((j : Int) - 1) ∧ j ≤ M ∧ Hid (DvAt na nb j r Q) ∧ Hid (Lim wr u8 (limbs r)) ∧ Hid (Above (w.heap.size + 1) u8) ∧ Hid (Blk wr w.heap.size 3 (arr Q)) ∧ Hid (Below w.heap.size w wr) ∧ Hid (w.heap.size + 1 ≤ wr.heap.size)) (fun _ u9 _ => (intOf u9 + 1).toNat)
    case atStart =>
      exact ⟨M, val ((limbs na).drop M), _, rfl, Nat.le_refl _, HST, Lib.hid (by rw [limbs_val (HOA.out.drop _) (HLA.out.drop _)]; exact HF.out.1), Lib.hid HF.out.2.1, Lib.hid HF.out.2.2.1, Lib.hid HF.out.2.2.2, HSZ⟩
    case round =>
      obtain ⟨j, r, Q, rfl, hj, hD, hL, hAb, hBl, hK, hSz⟩ := hrel
      have hQl : Q.length = M := by have := hD.out.2.2.2; have := HN1.out; have := HN2.out; have := HM.out; omega
      have HQL := Lib.hid hQl
      clear hQl
      by_cases hj0 : 0 < j
      · obtain ⟨i, rfl⟩ : ∃ i, j = i + 1 := ⟨j - 1, by omega⟩
        have hji : ((i + 1 : Nat) : Int) - 1 = (i : Int) := by omega
        rw [hji]
        clear hji
        have him : i < m := by omega
        have hiM : (i : Int) < (M : Int) := by omega
        have hi0 : (0 : Int) ≤ (i : Int) := by omega
        have gx : wr.cell? ⟨b1, o1 + i, none⟩ = some (.int .i64 ((limbs na).getD i 0)) := (hK.out.cell (p := ⟨b1, o1 + i, none⟩) HCE.out.lt).trans (HCE.out.2 i (by have := HN1.out; omega))
        have hx := HOA.out.getD i
        have hstep := hD.out.step (by rw [HQL.out]; omega) hb
        have hrb := hD.out.2.1
        generalize (limbs na).getD i 0 = x at *
        obtain ⟨r', hr'⟩ : ∃ r', r' = x + 10000 * r := ⟨_, rfl⟩
        rw [← hr'] at hstep
        have hr'b : r' < 10000 * nb := by omega
        obtain ⟨q, hq⟩ : ∃ q, q = r' / nb := ⟨_, rfl⟩
        rw [← hq] at hstep
        have hlr : (limbs r).length ≤ n := by have := limbs_len_mono (Nat.le_of_lt hrb); have := HN2.out; omega
        have hlr' : (limbs r').length ≤ n + 1 := by have := len_two hr'b; have := HN2.out; omega
        have hvx : val (x :: limbs r) = r' := by rw [val, val_limbs, hr']
        have HVX := Lib.hid hvx
        have HRB := Lib.hid hr'b
        have HQ := Lib.hid hq
        have HSTEP := Lib.hid hstep
        have HLR := Lib.hid hlr'
        have hok : Ok (x :: limbs r) := Ok.cons hx (limbs_ok r)
        have HOK := Lib.hid hok
        obtain ⟨ar, cr, rfl, -, -, -⟩ := id hL.out
        generalize hkr : (limbs r).length = kr at *
        have HKR := Lib.hid hkr
        clear hstep hr' hq hvx hok hkr hrb hr'b hlr'
        go_upto_region 10 with (first
          | (at_builtin; refine wpList_append_lim rfl (.tmp 50) (.tmp 51) rfl wr.heap.size (.slice (some ⟨wr.heap.size, 0, none⟩) 1 1) 1 [.int .i64 (x : Int)] rfl (one_row wr x) (.slice ar kr cr) (limbs r) rfl (hL.out.more _) (by have := HKR.out; omega) (by simp) ?_; intro v3 w3 hown3 hgrow3; have hrow3 : Row w3 wr.heap.size v3 (x :: limbs r) := Row.cons hown3 (by have := HKR.out; simp; omega))
          | (go_at_call 125; refine (cut_any hrow3.lim HOK.out).mono ?_; rintro e w4 ⟨v4, rfl, hl4, hab4, hb4⟩))
        have hb3 : Below wr.heap.size wr w3 := ((Below.refl _ _).alloc (Nat.le_refl _) _).grown hgrow3 (by simp) (fun g hg => by cases hg; exact Nat.le_refl _)
        have hb34 := next_below hb3 hb4
        have hlim4 : Lim w4 v4 (limbs r') := by have h := hl4; rwa [HVX.out] at h
        have hab4' : Above (w.heap.size + 1) v4 := (hab4 _ (Above.row hrow3)).mono hSz.out
        have hBl4 := hBl.out.next hb34
        have hK4 := next_below hK.out hb34
        have hS4 : w.heap.size + 1 ≤ w4.heap.size := Nat.le_trans hSz.out hb34.size
        have W4 := Lib.hid (And.intro hlim4 (And.intro hab4' (And.intro hBl4 (And.intro hK4 hS4))))
        clear hown3 hgrow3 hrow3 hl4 hab4 hb4 hb3 hb34 hlim4 hab4' hBl4 hK4 hS4 gx hSz hK hBl hAb hL
        obtain ⟨d, hd⟩ : ∃ d, d = n - 1 - 1 := ⟨_, rfl⟩
        have hmx1 : max (0 : Int) ((n : Int) - 1 - 1) = (d : Int) := by omega
        have hmx2 : max (0 : Int) ((n : Int) - 2) = (d : Int) := by omega
        have htp := top_pos hb
        have htb := top_big hb
        rw [HN2.out, ← hd] at htp htb
        have HTP := Lib.hid (And.intro htp htb)
        have HDD := Lib.hid hd
        have hdn : n ≤ d + 2 := by omega
        have hdn2 : d ≤ n := by omega
        have hlr' := HLR.out
        clear htp htb hd
        go_wp2
        obtain ⟨a4, c4, hv4, hcap4, hmx4, hl4c⟩ := id W4.out.1
        obtain ⟨a2', c2', hv2, -, -, h2c⟩ := id H2.out
        injection hv2 with ha2 hx1 hx2
        subst ha2
        clear hx1 hx2
        subst hv4
        unfold maxLen at hmx4
        generalize hkr4 : (limbs r').length = kr4 at *
        have HKR4 := Lib.hid hkr4
        clear hkr4
        go_loop [10, 11, 12] (fun u10 u11 u12 => ∃ kk : Nat, d ≤ kk ∧ kk ≤ n + 1 ∧ u12 = .int .i64 ((kk : Int) - 1) ∧ u11 = .int .i64 (r' / 10000 ^ kk : Nat) ∧ u10 = .int .i64 (nb / 10000 ^ kk : Nat)) (fun _ _ u12 => (intOf u12 + 1).toNat)
        case atStart =>
          refine ⟨n + 1, by omega, Nat.le_refl _, by go_num, ?_, ?_⟩
          · rw [Nat.div_eq_of_lt (Nat.lt_of_lt_of_le (limbs_lt_pow r') (Nat.pow_le_pow_right (by omega) (by have := HKR4.out; omega)))]; rfl
          · rw [Nat.div_eq_of_lt (Nat.lt_of_lt_of_le (limbs_lt_pow nb) (Nat.pow_le_pow_right (by omega) (by have := HN2.out; omega)))]; rfl
        case round =>
          obtain ⟨kk, hdk, hkn, rfl, rfl, rfl⟩ := hrel
          by_cases hkd : d < kk
          · obtain ⟨t, rfl⟩ : ∃ t, kk = t + 1 := ⟨kk - 1, by omega⟩
            have htj : ((t + 1 : Nat) : Int) - 1 = (t : Int) := by omega
            rw [htj]
            clear htj
            have hdt : d ≤ t := by omega
            have hbF := head_small HRB.out (k := t + 1) (by have := HN2.out; omega)
            have hbT := top_small (nb := nb) (k := t + 1) (by have := HN2.out; omega)
            have e4 : decide ((d : Int) ≤ (t : Int)) = true := by simp; omega
            by_cases hlt1 : t < kr4
            · by_cases hlt2 : t < n
              · skip
                rcases hl4c with hl4c | ⟨b4, o4, rfl, hc4⟩
                · exfalso; rw [← HKR4.out, hl4c] at hlt1; simp at hlt1
                have g4 : w4.cell? ⟨b4, o4 + t, none⟩ = some (.int .i64 ((limbs r').getD t 0)) := hc4.2 t (by rw [HKR4.out]; exact hlt1)
                have gy := (limbs_ok r').getD t
                rw [limbs_getD] at g4 gy
                have hf := head_step r' t
                generalize r' / 10000 ^ t % 10000 = y at *
                rcases h2c with h2c | ⟨b2, o2, rfl, hc2'⟩
                · exfalso; have := HN2.out; rw [h2c] at this; simp at this; omega
                have g2 : w4.cell? ⟨b2, o2 + t, none⟩ = some (.int .i64 ((limbs nb).getD t 0)) := (W4.out.2.2.2.1.cell (p := ⟨b2, o2 + t, none⟩) hc2'.lt).trans (hc2'.2 t (by have := HN2.out; omega))
                have gz := (limbs_ok nb).getD t
                rw [limbs_getD] at g2 gz
                have hg := head_step nb t
                generalize nb / 10000 ^ t % 10000 = z at *
                have e6 : decide ((t : Int) ≤ (n : Int) - 1) = true := by simp; omega
                generalize r' / 10000 ^ (t + 1) = F at *
                generalize nb / 10000 ^ (t + 1) = T at *
                have HFE := Lib.hid hf
                have HGE := Lib.hid hg
                clear hf hg
                have e5 : decide ((t : Int) < (kr4 : Int)) = true := by simp; omega
                go_wp2
                go_round
                case rel => exact ⟨t, hdt, by omega, by first | rfl | go_num, by rw [← HFE.out]; go_num, by rw [← HGE.out]; go_num⟩
                case measure => simp [intOf]
              · skip
                rcases hl4c with hl4c | ⟨b4, o4, rfl, hc4⟩
                · exfalso; rw [← HKR4.out, hl4c] at hlt1; simp at hlt1
                have g4 : w4.cell? ⟨b4, o4 + t, none⟩ = some (.int .i64 ((limbs r').getD t 0)) := hc4.2 t (by rw [HKR4.out]; exact hlt1)
                have gy := (limbs_ok r').getD t
                rw [limbs_getD] at g4 gy
                have hf := head_step r' t
                generalize r' / 10000 ^ t % 10000 = y at *
                have hg := head_step nb t
                have hz0 : nb / 10000 ^ t % 10000 = 0 := by rw [← limbs_getD]; simp [List.getD, List.getElem?_eq_none (show (limbs nb).length ≤ t by have := HN2.out; omega)]
                have hz1' : nb / 10000 ^ (t + 1) = 0 := Nat.div_eq_of_lt (Nat.lt_of_lt_of_le (limbs_lt_pow nb) (Nat.pow_le_pow_right (by omega) (by have := HN2.out; omega)))
                rw [hz0, hz1', Nat.zero_mul, Nat.add_zero] at hg
                have e6 : decide ((t : Int) ≤ (n : Int) - 1) = false := by simp; omega
                generalize r' / 10000 ^ (t + 1) = F at *
                rw [hz1']
                clear hz1' hz0 hbT
                have HFE := Lib.hid hf
                have HGE := Lib.hid hg
                clear hf hg
                have e5 : decide ((t : Int) < (kr4 : Int)) = true := by simp; omega
                go_wp2
                go_round
                case rel => exact ⟨t, hdt, by omega, by first | rfl | go_num, by rw [← HFE.out]; go_num, by rw [← HGE.out]⟩
                case measure => simp [intOf]
            · by_cases hlt2 : t < n
              · skip
                have hf := head_step r' t
                have hy0 : r' / 10000 ^ t % 10000 = 0 := by rw [← limbs_getD]; simp [List.getD, List.getElem?_eq_none (show (limbs r').length ≤ t by rw [HKR4.out]; omega)]
                rw [hy0, Nat.add_zero] at hf
                rcases h2c with h2c | ⟨b2, o2, rfl, hc2'⟩
                · exfalso; have := HN2.out; rw [h2c] at this; simp at this; omega
                have g2 : w4.cell? ⟨b2, o2 + t, none⟩ = some (.int .i64 ((limbs nb).getD t 0)) := (W4.out.2.2.2.1.cell (p := ⟨b2, o2 + t, none⟩) hc2'.lt).trans (hc2'.2 t (by have := HN2.out; omega))
                have gz := (limbs_ok nb).getD t
                rw [limbs_getD] at g2 gz
                have hg := head_step nb t
                generalize nb / 10000 ^ t % 10000 = z at *
                have e6 : decide ((t : Int) ≤ (n : Int) - 1) = true := by simp; omega
                generalize r' / 10000 ^ (t + 1) = F at *
                generalize nb / 10000 ^ (t + 1) = T at *
                clear hy0
                have HFE := Lib.hid hf
                have HGE := Lib.hid hg
                clear hf hg
                have e5 : decide ((t : Int) < (kr4 : Int)) = false := by simp; omega
                go_wp2
                go_round
                case rel => exact ⟨t, hdt, by omega, by first | rfl | go_num, by rw [← HFE.out]; go_num, by rw [← HGE.out]; go_num⟩
                case measure => simp [intOf]
              · skip
                have hf := head_step r' t
                have hy0 : r' / 10000 ^ t % 10000 = 0 := by rw [← limbs_getD]; simp [List.getD, List.getElem?_eq_none (show (limbs r').length ≤ t by rw [HKR4.out]; omega)]
                rw [hy0, Nat.add_zero] at hf
                have hg := head_step nb t
                have hz0 : nb / 10000 ^ t % 10000 = 0 := by rw [← limbs_getD]; simp [List.getD, List.getElem?_eq_none (show (limbs nb).length ≤ t by have := HN2.out; omega)]
                have hz1' : nb / 10000 ^ (t + 1) = 0 := Nat.div_eq_of_lt (Nat.lt_of_lt_of_le (limbs_lt_pow nb) (Nat.pow_le_pow_right (by omega) (by have := HN2.out; omega)))
                rw [hz0, hz1', Nat.zero_mul, Nat.add_zero] at hg
                have e6 : decide ((t : Int) ≤ (n : Int) - 1) = false := by simp; omega
                generalize r' / 10000 ^ (t + 1) = F at *
                rw [hz1']
                clear hz1' hz0 hbT
                clear hy0
                have HFE := Lib.hid hf
                have HGE := Lib.hid hg
                clear hf hg
                have e5 : decide ((t : Int) < (kr4 : Int)) = false := by simp; omega
                go_wp2
                go_round
                case rel => exact ⟨t, hdt, by omega, by first | rfl | go_num, by rw [← HFE.out]; go_num, by rw [← HGE.out]⟩
                case measure => simp [intOf]
          · obtain rfl : kk = d := by omega
            have hql := quo_low (r := r') (D := 10000 ^ kk) (Nat.pow_pos (by omega)) hb
            have hqh := quo_high (r := r') (D := 10000 ^ kk) (Nat.pow_pos (by omega)) hb HTP.out.1
            have hqs := quo_small (Nat.pow_pos (by omega)) HRB.out HTP.out.2 hb
            have hT0 := HTP.out.1
            have hFb : r' / 10000 ^ kk < 1000000000000 := by
              rw [← head_step r' kk]
              have := head_small HRB.out (k := kk + 1) (by have := HN2.out; omega)
              have := Nat.mod_lt (r' / 10000 ^ kk) (show 0 < 10000 by omega)
              omega
            have hTb : nb / 10000 ^ kk < 100000000 := by
              rw [← head_step nb kk]
              have := top_small (nb := nb) (k := kk + 1) (by have := HN2.out; omega)
              have := Nat.mod_lt (nb / 10000 ^ kk) (show 0 < 10000 by omega)
              omega
            rw [← HQ.out] at hql hqh
            have hmx3 : decide ((kk : Int) ≤ (kk : Int) - 1) = false := by simp; omega
            generalize r' / 10000 ^ kk = F at *
            generalize nb / 10000 ^ kk = T at *
            obtain ⟨lo, hlo⟩ : ∃ lo, F / (T + 1) = lo := ⟨_, rfl⟩
            obtain ⟨hi', hhi⟩ : ∃ hi', F / T = hi' := ⟨_, rfl⟩
            rw [hlo] at hql
            rw [hhi] at hqh hqs
            have hlo1 : (F : Int) / ((T : Int) + 1) = (lo : Int) := by rw [← hlo]; push_cast; rfl
            have hhi1 : (F : Int) / (T : Int) = (hi' : Int) := by rw [← hhi]; push_cast; rfl
            have hlo2 : (F : Int).tdiv ((T : Int) + 1) = (lo : Int) := by rw [Int.tdiv_eq_ediv_of_nonneg (by omega)]; exact hlo1
            have hhi2 : (F : Int).tdiv (T : Int) = (hi' : Int) := by rw [Int.tdiv_eq_ediv_of_nonneg (by omega)]; exact hhi1
            have hw1 : IntKind.i64.wrap ((T : Int) + 1) = (T : Int) + 1 := IntWalk.i64_in _ (by omega)
            have hw2 : IntKind.i64.wrap (lo : Int) = (lo : Int) := IntWalk.i64_in _ (by omega)
            have hw3 : IntKind.i64.wrap (hi' : Int) = (hi' : Int) := IntWalk.i64_in _ (by omega)
            have hnz1 : ((T : Int) + 1 == 0) = false := by simp; omega
            have hnz2 : ((T : Int) == 0) = false := by simp; omega
            clear hlo hhi
            go_upto_region 19 with fail
            go_quiet (fail)
            have W5 : Hid (Lim (w4.drewN nq) (.slice a4 kr4 c4) (limbs r') ∧ Above (w.heap.size + 1) (.slice a4 kr4 c4) ∧ Blk (w4.drewN nq) w.heap.size 3 (arr Q) ∧ Below w.heap.size w (w4.drewN nq) ∧ w.heap.size + 1 ≤ (w4.drewN nq).heap.size) :=
              Lib.hid ⟨W4.out.1.drawn (Drawn.of _ _), W4.out.2.1, W4.out.2.2.1.drewN _, W4.out.2.2.2.1.trans ((Drawn.of _ _).below _), W4.out.2.2.2.2⟩
            clear W4 hl4c h2c
            generalize w4.drewN nq = w5 at *
            clear hlo1 hhi1 hlo2 hhi2 hw1 hw2 hw3 hnz1 hnz2 hmx3 hT0 hFb hTb
            go_wp2
            go_loopw [13, 14] (fun u13 u14 wi => ∃ l1 h1 : Nat, u13 = .int .i64 l1 ∧ u14 = .int .i64 h1 ∧ l1 ≤ q ∧ q ≤ h1 ∧ h1 ≤ 10000 ∧ Hid (Below w5.heap.size w5 wi)) (fun u13 u14 _ => (intOf u14).toNat - (intOf u13).toNat)
            case atStart => exact ⟨lo, hi', rfl, rfl, hql, hqh, hqs, Lib.hid (Below.refl _ _)⟩
            case round =>
              obtain ⟨l1, h1, rfl, rfl, hlq, hqh', hh1, hKb⟩ := hrel
              by_cases hlh : l1 < h1
              · obtain ⟨mid, hmid⟩ : ∃ mid, (l1 + h1 + 1) / 2 = mid := ⟨_, rfl⟩
                have hm1' : l1 < mid := by omega
                have hm2' : mid ≤ h1 := by omega
                have hmi : ((l1 : Int) + h1 + 1).tdiv 2 = mid := by rw [Int.tdiv_eq_ediv_of_nonneg (by omega)]; omega
                have hmi2 : ((l1 : Int) + h1 + 1) / 2 = mid := by omega
                have hlti : ((l1 : Int) < h1) := by omega
                have hL2 : Lim (wr.alloc (.cells #[.int .i64 (mid : Int)] 3)) (.slice a2 n c2) (limbs nb) := (H2.out.below (next_below W5.out.2.2.2.1 hKb.out)).more _
                have ht := times_any hL2 (one_lim wr mid) (limbs_ok nb) (.inr ⟨mid, rfl, by omega⟩) (by have := HN2.out; omega) (by simp)
                have evm : val [mid] = mid := by simp [val]
                rw [val_limbs, evm] at ht
                have hlim5 := Lib.hid (W5.out.1.below hKb.out)
                have hsg := sgn_le (x := nb * mid) (y := r')
                have hle : nb * mid ≤ r' ↔ mid ≤ q := by rw [HQ.out, Nat.le_div_iff_mul_le hb, Nat.mul_comm]
                have hcm := fun (V : World) (v : Value) (hl : Lim V v (limbs (nb * mid))) (hr : Lim V (.slice a4 kr4 c4) (limbs r')) => compare_any hl hr (limbs_ok _) (limbs_ok _) (limbs_last _) (limbs_last _)
                simp only [val_limbs] at hcm
                generalize sgn (nb * mid) r' = sg' at *
                have HT := Lib.hid ht
                have HCM := Lib.hid hcm
                have HMID := Lib.hid hmid
                have hsz5 := hKb.out.size
                clear ht hL2 evm hcm hmid
                by_cases hmq : mid ≤ q
                · have hsb : decide (sg' ≤ 0) = true := by simpa using hsg.2 (hle.2 hmq)
                  clear hsg hle
                  go_wp2_with (first
                    | (go_at_call 95; refine HT.out.mono ?_; rintro e w6 ⟨v6, rfl, hl6, hab6, hb6⟩)
                    | (go_at_call 89; refine (HCM.out _ _ hl6 ((hlim5.out.more (.cells #[.int .i64 (mid : Int)] 3)).below hb6)).mono ?_; rintro e w7 ⟨rfl, hb7⟩))
                  go_roundw
                  case rel => exact ⟨mid, h1, rfl, rfl, hmq, hqh', hh1, Lib.hid (next_below (next_below (hKb.out.alloc hKb.out.size _) hb6) hb7)⟩
                  case measure => simp [intOf]; omega
                · have hsb : decide (sg' ≤ 0) = false := by rw [decide_eq_false_iff_not]; intro h; exact hmq (hle.1 (hsg.1 h))
                  obtain ⟨m1, hm1''⟩ : ∃ m1 : Nat, (mid : Int) - 1 = m1 := ⟨mid - 1, by omega⟩
                  clear hsg hle
                  go_wp2_with (first
                    | (go_at_call 95; refine HT.out.mono ?_; rintro e w6 ⟨v6, rfl, hl6, hab6, hb6⟩)
                    | (go_at_call 89; refine (HCM.out _ _ hl6 ((hlim5.out.more (.cells #[.int .i64 (mid : Int)] 3)).below hb6)).mono ?_; rintro e w7 ⟨rfl, hb7⟩))
                  go_roundw
                  case rel => exact ⟨l1, m1, rfl, by first | rfl | go_num, hlq, by omega, by omega, Lib.hid (next_below (next_below (hKb.out.alloc hKb.out.size _) hb6) hb7)⟩
                  case measure => simp [intOf]; omega
              · obtain rfl : l1 = q := by omega
                obtain rfl : l1 = h1 := by omega
                have W6 : Hid (Lim wr (.slice a4 kr4 c4) (limbs r') ∧ Blk wr w.heap.size 3 (arr Q) ∧ Below w.heap.size w wr ∧ w.heap.size + 1 ≤ wr.heap.size) :=
                  Lib.hid ⟨W5.out.1.below hKb.out, W5.out.2.2.1.next hKb.out, next_below W5.out.2.2.2.1 hKb.out, Nat.le_trans W5.out.2.2.2.2 hKb.out.size⟩
                have HAB := Lib.hid W5.out.2.1
                have hf0 := W6.out.2.1.frozen i
                have hc0 : wr.cell? ⟨w.heap.size, i, none⟩ = some (.int .i64 (Q.getD i 0 : Nat)) := blk_at_ W6.out.2.1 (by rw [HQL.out]; omega)
                have hlim7 := Lib.hid (W6.out.1.put (u := .int .i64 (l1 : Int)) (i := i) HAB.out)
                have hbl7 := Lib.hid (blk_put W6.out.2.1 i l1 (z := (l1 : Int)) rfl)
                have hbw7 := Lib.hid (W6.out.2.2.1.setCell (p := ⟨w.heap.size, i, none⟩) (Nat.le_refl _) (.int .i64 (l1 : Int)))
                have hsz7 : Hid (w.heap.size + 1 ≤ (wr.setCell ⟨w.heap.size, i, none⟩ (.int .i64 (l1 : Int))).heap.size) := Lib.hid (by simp [World.setCell]; exact W6.out.2.2.2)
                have hrm : r' % nb = r' - nb * l1 := by rw [HQ.out]; have := Nat.div_add_mod r' nb; omega
                have hql2 : nb * l1 ≤ r' := by rw [HQ.out]; exact Nat.mul_div_le _ _
                have HRM := Lib.hid (And.intro hrm hql2)
                clear hrm hql2 W5 hKb
                by_cases hqp : 0 < l1
                · have e8 : decide ((0 : Int) < (l1 : Int)) = true := by simpa using hqp
                  go_upto_region 27 with fail
                  have hlim7' := hlim7.out
                  have hbw7' := hbw7.out
                  generalize wr.setCell ⟨w.heap.size, i, none⟩ (.int .i64 (l1 : Int)) = w7 at *
                  have hL2 : Lim (w7.alloc (.cells #[.int .i64 (l1 : Int)] 3)) (.slice a2 n c2) (limbs nb) := (H2.out.below hbw7').more _
                  have ht := times_any hL2 (one_lim w7 l1) (limbs_ok nb) (.inr ⟨l1, rfl, by omega⟩) (by have := HN2.out; omega) (by simp)
                  have evm : val [l1] = l1 := by simp [val]
                  rw [val_limbs, evm] at ht
                  have hmn := fun (V : World) (v : Value) (hr : Lim V (.slice a4 kr4 c4) (limbs r')) (hl : Lim V v (limbs (nb * l1))) => minus_any hr hl (limbs_ok _) (limbs_ok _) (limbs_len_mono HRM.out.2) (by rw [val_limbs, val_limbs]; exact HRM.out.2) (by have := HKR4.out; omega)
                  simp only [val_limbs] at hmn
                  rw [← HRM.out.1] at hmn
                  have HT := Lib.hid ht
                  have HMN := Lib.hid hmn
                  have HL7 := Lib.hid hlim7'
                  clear ht hL2 evm hmn hlim7' hbw7'
                  go_wp2_with (first
                    | (go_at_call 95; refine HT.out.mono ?_; rintro e w8 ⟨v8, rfl, hl8, hab8, hb8⟩)
                    | (go_at_call 90; refine (HMN.out _ _ ((HL7.out.more (.cells #[.int .i64 (l1 : Int)] 3)).below hb8) hl8).mono ?_; rintro e w9 ⟨v9, rfl, hl9, hab9, hb9⟩))
                  go_roundw
                  case rel =>
                    have hb1 : Below w7.heap.size w7 (w7.alloc (.cells #[.int .i64 (l1 : Int)] 3)) := (Below.refl _ _).alloc (Nat.le_refl _) _
                    have hb79 := next_below (next_below hb1 hb8) hb9
                    exact ⟨i, _, _, rfl, by omega, HSTEP, Lib.hid hl9, Lib.hid (hab9.mono (Nat.le_trans hsz7.out (next_below hb1 hb8).size)), Lib.hid (hbl7.out.next hb79), Lib.hid (next_below hbw7.out hb79), Lib.hid (Nat.le_trans hsz7.out hb79.size)⟩
                  case measure => simp [intOf]
                · obtain rfl : l1 = 0 := by omega
                  have hrm0 : r' % nb = r' := by have := HRM.out.1; omega
                  have HR0 := Lib.hid hrm0
                  clear hrm0
                  go_wp2
                  go_roundw
                  case rel => exact ⟨i, _, _, rfl, by omega, HSTEP, Lib.hid (by rw [HR0.out]; exact hlim7.out), HAB, hbl7, hbw7, hsz7⟩
                  case measure => simp [intOf]
      · obtain rfl : j = 0 := by omega
        have hdo := Lib.hid hD.out.done
        have hlq : Lim wr (.slice (some ⟨w.heap.size, 0, none⟩) M M) Q := by have := blk_lim hBl.out (by rw [HQL.out]; omega); rwa [HQL.out] at this
        have HC := Lib.hid (cut_any hlq hD.out.2.2.1)
        clear hlq
        go_wp2_with (go_at_call 125; refine HC.out.mono ?_; rintro e w9 ⟨v9, rfl, hl9, hab9, hb9⟩)
        go_ret2
        refine ⟨_, _, rfl, ?_, ?_, next_below hK.out hb9⟩
        · rw [← hdo.out.1]; exact hl9
        · rw [← hdo.out.2]; exact hL.out.below hb9

theorem divide_any {w : World} {v1 v2 : Value} {na nb : Nat} (h1 : Lim w v1 (limbs na)) (h2 : Lim w v2 (limbs nb)) (hb : 0 < nb) (s1 : (limbs na).length ≤ 999999) (s2 : (limbs nb).length ≤ 999999) :
    Calls Tryz.prog 126 #[v1, v2] w (RetI2 w (na / nb) (na % nb)) := by
  rcases Nat.lt_or_ge (limbs na).length (limbs nb).length with h | h
  · exact divide_small h1 h2 h (by omega)
  · exact divide_main h1 h2 hb h s1

end Go.Proofs.YtpmlmibceiolpaaGreatDoor.D4
