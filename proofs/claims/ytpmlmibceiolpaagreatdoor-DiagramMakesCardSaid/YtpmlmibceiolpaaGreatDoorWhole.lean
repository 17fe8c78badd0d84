/- The contracts of comparisons of machine integers (package cmp of the library), over this seat's program. -/
import Derived.Test.YtpmlmibceiolpaaGreatDoorProg
import Derived.WalkKit
import Derived.Test.YtpmlmibceiolpaaGreatDoorRep
import Derived.Deep.Draws
import Derived.Deep.QuietTactic
import Derived.BigQuiet
import Derived.Outline
set_option linter.unusedSimpArgs false
set_option linter.unusedVariables false
namespace Go.Proofs.YtpmlmibceiolpaaGreatDoor
open Go.RowKit

/-- The sign of a comparison. -/
def sgn (a b : Nat) : Int := if a < b then -1 else if b < a then 1 else 0

theorem isNaN32 (a : Nat) (w : World) : Calls Tryz.prog 162 #[.int .u32 a] w fun e w' => e = .returned (.bool false) ∧ w = w' := by
  go_enter Tryz.func162, Tryz.ntmps162
  go_wp2
  go_ret
  exact ⟨rfl, rfl⟩

theorem isNaNint (a : Int) (w : World) : Calls Tryz.prog 161 #[.int .i64 a] w fun e w' => e = .returned (.bool false) ∧ w = w' := by
  go_enter Tryz.func161, Tryz.ntmps161
  go_wp2
  go_ret
  exact ⟨rfl, rfl⟩

theorem compare32 (a b : Nat) (w : World) : Calls Tryz.prog 143 #[.int .u32 a, .int .u32 b] w fun e w' => e = .returned (.int .i64 (sgn a b)) ∧ w = w' := by
  unfold sgn
  by_cases h : a < b
  all_goals by_cases h2 : b < a
  · omega
  all_goals
    go_enter Tryz.func143, Tryz.ntmps143
    go_wp2
    go_ret
    exact ⟨by simp [h, h2], rfl⟩

theorem compareint (a b : Nat) (w : World) : Calls Tryz.prog 142 #[.int .i64 a, .int .i64 b] w fun e w' => e = .returned (.int .i64 (sgn a b)) ∧ w = w' := by
  unfold sgn
  by_cases h : a < b
  all_goals by_cases h2 : b < a
  · omega
  all_goals
    go_enter Tryz.func142, Tryz.ntmps142
    go_wp2
    go_ret
    exact ⟨by simp [h, h2], rfl⟩

end Go.Proofs.YtpmlmibceiolpaaGreatDoor

/- The contract of limbs.compare: the sign of the difference of the values. -/
set_option linter.unusedSimpArgs false
set_option linter.unusedVariables false
namespace Go.Proofs.YtpmlmibceiolpaaGreatDoor
open Go.RowKit

theorem drop_eq {l : List Nat} {k : Nat} (h : k < l.length) : l.drop k = l.getD k 0 :: l.drop (k + 1) := by
  rw [List.drop_eq_getElem_cons h]; simp [List.getD, List.getElem?_eq_getElem h]

theorem val_split (l : List Nat) (k : Nat) (h : k ≤ l.length) : val l = val (l.take k) + 1000000000 ^ k * val (l.drop k) := by
  conv => lhs; rw [← List.take_append_drop k l]
  rw [val_append]; simp [Nat.min_eq_left h]

theorem val_lt_at {a b : List Nat} {k : Nat} (ha : Ok a) (hb : Ok b) (hk : k < a.length) (hl : a.length = b.length) (hd : a.drop (k + 1) = b.drop (k + 1)) (h : a.getD k 0 < b.getD k 0) : val a < val b := by
  rw [val_split a k (by omega), val_split b k (by omega), drop_eq hk, drop_eq (by omega : k < b.length), hd]
  simp only [val]
  have h1 := val_lt (ha.take k)
  have e : (a.take k).length = k := by simp; omega
  rw [e] at h1
  have h2 : 1000000000 ^ k * (a.getD k 0 + 1000000000 * val (b.drop (k + 1)) + 1) ≤ 1000000000 ^ k * (b.getD k 0 + 1000000000 * val (b.drop (k + 1))) := Nat.mul_le_mul_left _ (by omega)
  rw [Nat.mul_add (1000000000 ^ k) _ 1] at h2
  omega

theorem val_lt_len {a b : List Nat} (ha : Ok a) (hb : Last b) (h : a.length < b.length) : val a < val b := by
  have h1 := val_lt ha
  have h2 : 0 < b.getD (b.length - 1) 0 := Nat.pos_of_ne_zero (hb (by intro e; subst e; simp at h))
  rw [val_split b (b.length - 1) (by omega), drop_eq (by omega)]
  simp only [val]
  have h3 : 1000000000 ^ a.length ≤ 1000000000 ^ (b.length - 1) := Nat.pow_le_pow_right (by omega) (by omega)
  have h4 : 1000000000 ^ (b.length - 1) * 1 ≤ 1000000000 ^ (b.length - 1) * (b.getD (b.length - 1) 0 + 1000000000 * val (b.drop (b.length - 1 + 1))) := Nat.mul_le_mul_left _ (by omega)
  omega

theorem sgn_lt {a b : Nat} (h : a < b) : sgn a b = -1 := by simp [sgn, h]
theorem sgn_gt {a b : Nat} (h : b < a) : sgn a b = 1 := by simp [sgn, h]; omega
theorem sgn_self (a : Nat) : sgn a a = 0 := by simp [sgn]
theorem sgn_zero {a b : Nat} (h : sgn a b = 0) : a = b := by unfold sgn at h; split at h; omega; split at h <;> omega

theorem ret_int {k : IntKind} {a b : Int} (h : a = b) : Ending.returned (.int k a) = .returned (.int k b) := by rw [h]

/-- What the lengths decide. -/
theorem sgn_len {a b : List Nat} (ha : Ok a) (hb : Ok b) (la : Last a) (lb : Last b) (h : sgn a.length b.length ≠ 0) : sgn (val a) (val b) = sgn a.length b.length := by
  unfold sgn at h
  rcases Nat.lt_trichotomy a.length b.length with h1 | h1 | h1
  · rw [sgn_lt h1, sgn_lt (val_lt_len ha lb h1)]
  · simp [h1] at h
  · rw [sgn_gt h1, sgn_gt (val_lt_len hb la h1)]

theorem sgn_at {a b : List Nat} {k : Nat} (ha : Ok a) (hb : Ok b) (hk : k < a.length) (hl : a.length = b.length) (hd : a.drop (k + 1) = b.drop (k + 1)) (h : sgn (a.getD k 0) (b.getD k 0) ≠ 0) : sgn (val a) (val b) = sgn (a.getD k 0) (b.getD k 0) := by
  rcases Nat.lt_trichotomy (a.getD k 0) (b.getD k 0) with h1 | h1 | h1
  · rw [sgn_lt h1, sgn_lt (val_lt_at ha hb hk hl hd h1)]
  · rw [h1, sgn_self] at h; exact absurd rfl h
  · rw [sgn_gt h1, sgn_gt (val_lt_at hb ha (by omega) hl.symm hd.symm h1)]

theorem drop_all {l : List Nat} : l.drop l.length = [] := List.drop_length

set_option maxHeartbeats 400000 in
theorem compare_any {w : World} {v1 v2 : Value} {l1 l2 : List Nat} (h1 : Lim w v1 l1) (h2 : Lim w v2 l2) (o1 : Ok l1) (o2 : Ok l2) (k1 : Last l1) (k2 : Last l2) :
    Calls Tryz.prog 119 #[v1, v2] w fun e w' => e = .returned (.int .i64 (sgn (val l1) (val l2))) ∧ Drawn w w' := by
  obtain ⟨a1, c1, rfl, hc1, hm1, h1⟩ := h1
  obtain ⟨a2, c2, rfl, hc2, hm2, h2⟩ := h2
  unfold maxLen at hm1 hm2
  by_cases hz : sgn l1.length l2.length = 0
  · have hl := sgn_zero hz
    rw [← hl] at hc2 hz ⊢
    generalize hn : l1.length = n at *
    have HN := Lib.hid hn
    have HL := Lib.hid hl
    clear hn hl
    have hz2 : (sgn n n != 0) = false := by simp [hz]
    go_enter Tryz.func119, Tryz.ntmps119
    go_wp2_with (go_at_call 142; refine (compareint _ _ _).mono ?_; rintro e w' ⟨rfl, rfl⟩)
    go_loopw [6] (fun i wr => ∃ k : Nat, k ≤ n ∧ i = .int .i64 ((k : Int) - 1) ∧ l1.drop k = l2.drop k ∧ Drawn w wr) (fun i _ => (intOf i + 1).toNat)
    case atStart => exact ⟨n, Nat.le_refl _, rfl, by rw [← HN.out, List.drop_length, HN.out, HL.out, List.drop_length], Drawn.refl _⟩
    case round =>
      obtain ⟨k, hk, rfl, hd, hw⟩ := hrel
      by_cases hk0 : 0 < k
      · obtain ⟨j, rfl⟩ : ∃ j, k = j + 1 := ⟨k - 1, by omega⟩
        have HD := Lib.hid hd
        clear hd
        have hj : ((j + 1 : Nat) : Int) - 1 = (j : Int) := by omega
        rw [hj]
        clear hj
        rcases h1 with h1 | ⟨b1, p1, rfl, hc⟩
        · exfalso; have := HN.out; rw [h1] at this; simp at this; omega
        rcases h2 with h2 | ⟨b2, p2, rfl, hc'⟩
        · exfalso; have := HL.out; rw [h2] at this; simp at this; omega
        have g1 : wr.cell? ⟨b1, p1 + j, none⟩ = some (.int .u32 (l1.getD j 0)) := (hw.cell _).trans <| hc.2 j (by have := HN.out; omega)
        have g2 : wr.cell? ⟨b2, p2 + j, none⟩ = some (.int .u32 (l2.getD j 0)) := (hw.cell _).trans <| hc'.2 j (by have := HL.out; omega)
        generalize hx : l1.getD j 0 = x at g1
        generalize hy : l2.getD j 0 = y at g2
        have HX := Lib.hid hx
        have HY := Lib.hid hy
        clear hx hy
        by_cases hs : sgn x y = 0
        · have HS := Lib.hid (sgn_zero hs)
          have hs2 : (sgn x y != 0) = false := by simp [hs]
          have hi1 : (j : Int) < (n : Int) := by omega
          go_wp2_with fail
          go_quiet ((go_at_call 143; exact quiet_left (compare32 _ _ _)))
          go_wp2
          go_roundw
          case rel => exact ⟨j, by omega, by go_num, by rw [drop_eq (by have := HN.out; omega), drop_eq (l := l2) (by have := HL.out; omega), HX.out, HY.out, HD.out, HS.out], hw.more _⟩
          case measure => simp [intOf]
        · have hs2 : (sgn x y != 0) = true := by simp [hs]
          have hfin : sgn (val l1) (val l2) = sgn x y := by
            rw [← HX.out, ← HY.out]
            exact sgn_at o1 o2 (by have := HN.out; omega) (HN.out.trans HL.out) HD.out (by rw [HX.out, HY.out]; exact hs)
          have HF := Lib.hid hfin
          clear hfin hs
          have hi1 : (j : Int) < (n : Int) := by omega
          go_wp2_with fail
          go_quiet ((go_at_call 143; exact quiet_left (compare32 _ _ _)))
          go_wp2
          go_ret
          exact ⟨ret_int HF.out.symm, hw.more _⟩
      · obtain rfl : k = 0 := by omega
        have hfin : sgn (val l1) (val l2) = 0 := by
          simp only [List.drop_zero] at hd
          rw [hd, sgn_self]
        have HF := Lib.hid hfin
        clear hfin hd
        go_wp2
        go_ret
        exact ⟨ret_int HF.out.symm, hw⟩
  · have hfin := sgn_len o1 o2 k1 k2 hz
    generalize hs : sgn l1.length l2.length = s at *
    have HF := Lib.hid hfin
    have HS := Lib.hid hs
    have hz2 : (s != 0) = true := by simp [hz]
    clear hfin hz h1 h2
    go_enter Tryz.func119, Tryz.ntmps119
    go_wp2_with (go_at_call 142; refine (compareint _ _ _).mono ?_; rintro e w' ⟨rfl, rfl⟩; rw [HS.out]; clear hs)
    go_ret
    exact ⟨ret_int HF.out.symm, Drawn.refl _⟩

end Go.Proofs.YtpmlmibceiolpaaGreatDoor

/- The contract of exact.whole: zeros at the end go, and the sign of nought. -/
set_option linter.unusedSimpArgs false
set_option linter.unusedVariables false
namespace Go.Proofs.YtpmlmibceiolpaaGreatDoor
open Go.RowKit

/-- An integer of the package exact. -/
def Wh (w : World) (v : Value) (n : Int) : Prop := ∃ sv, v = .agg #[.bool (decide (n < 0)), sv] ∧ Lim w sv (limbs n.natAbs)

theorem Wh.below {w w' : World} {v : Value} {n : Int} (h : Wh w v n) (hb : Below w.heap.size w w') : Wh w' v n := by
  obtain ⟨sv, h1, h2⟩ := h
  exact ⟨sv, h1, h2.below hb⟩

/-- The integer of a sign and a magnitude. -/
def sg (neg : Bool) (n : Nat) : Int := if neg then -(n : Int) else n

theorem sg_natAbs (neg : Bool) (n : Nat) : (sg neg n).natAbs = n := by cases neg <;> simp [sg]
theorem sg_neg (neg : Bool) (n : Nat) : decide (sg neg n < 0) = (neg && decide (0 < n)) := by
  cases neg <;> simp [sg]

theorem take_pred {l : List Nat} {k : Nat} (h : k + 1 ≤ l.length) (hz : l.getD k 0 = 0) : val (l.take k) = val (l.take (k + 1)) := by
  have h1 := val_dropLast (l := l.take (k + 1)) (by intro e; have := congrArg List.length e; simp at this; rw [this] at h; simp at h) (by
    have e : (l.take (k + 1)).length - 1 = k := by simp; omega
    rw [e]; simpa [List.getD] using hz)
  have e : (l.take (k + 1)).length - 1 = k := by simp; omega
  rw [e, List.take_take, Nat.min_eq_left (by omega)] at h1
  exact h1.symm

/-- A list without zeros at its end is that of its value. -/
theorem limbs_take {l : List Nat} {k : Nat} (ho : Ok l) (hk : k ≤ l.length) (hv : val (l.take k) = val l) (hz : 0 < k → l.getD (k - 1) 0 ≠ 0) : limbs (val l) = l.take k := by
  rw [← hv]
  refine limbs_val (ho.take k) ?_
  intro hne
  have e : (l.take k).length = k := by simp; omega
  have hk0 : 0 < k := by
    rcases Nat.eq_zero_or_pos k with h0 | h0
    · subst h0; simp at hne
    · exact h0
  rw [e]
  have h1 := hz hk0
  have e2 : (l.take k).getD (k - 1) 0 = l.getD (k - 1) 0 := by simp only [List.getD, List.getElem?_take]; rw [if_pos (by omega)]
  rw [e2]; exact h1

theorem Cells.take {w : World} {b o : Nat} {l : List Nat} (h : Cells w b o l) (k : Nat) : Cells w b o (l.take k) := by
  refine ⟨h.1, fun i hi => ?_⟩
  have h1 : i < l.length := by simp at hi; omega
  have h2 : i < k := by simp at hi; omega
  rw [h.2 i h1]
  simp only [List.getD, List.getElem?_take]; rw [if_pos h2]

theorem limbs_zero_iff {n : Nat} : decide (0 < n) = decide (0 < (limbs n).length) := by
  rcases Nat.eq_zero_or_pos n with h | h
  · subst h; rfl
  · simp [h, limbs_length_pos h]

/-- What a function hands back that makes an integer: it, in new memory or old; what was there is as it was. -/
def RetW (w : World) (n : Int) (e : Ending) (w' : World) : Prop := ∃ r, e = .returned r ∧ Wh w' r n ∧ Below w.heap.size w w'

def sliceLen : Value → Nat | .slice _ k _ => k | _ => 0

theorem whole_end {w w' : World} {a : Option Addr} {c k : Nat} {l : List Nat} (neg b : Bool) (hcap : l.length ≤ c) (hm : c ≤ 9223372036854775807) (h : l = [] ∨ ∃ b o, a = some ⟨b, o, none⟩ ∧ Cells w b o l) (ho : Ok l) (hk : k ≤ l.length) (hv : val (l.take k) = val l) (hz : 0 < k → l.getD (k - 1) 0 ≠ 0)
    (hb : b = (neg && decide (0 < k))) (hw : Below w.heap.size w w') : RetW w (sg neg (val l)) (.returned (.agg #[.bool b, .slice a k c])) w' := by
  have e := limbs_take ho hk hv hz
  refine ⟨_, rfl, ⟨.slice a k c, ?_, ?_⟩, hw⟩
  · rw [sg_neg, limbs_zero_iff, e, hb]
    simp [Nat.min_eq_left hk]
  · rw [sg_natAbs, e]
    refine ⟨a, c, by simp [Nat.min_eq_left hk], by simp; omega, by unfold maxLen; omega, ?_⟩
    rcases h with h | ⟨b, o, ha, h⟩
    · subst h; left; simp
    · exact .inr ⟨b, o, ha, (h.below hw h.lt).take k⟩

set_option maxHeartbeats 400000 in
theorem whole_any {w : World} {v : Value} {l : List Nat} (neg : Bool) (h : Lim w v l) (ho : Ok l) :
    Calls Tryz.prog 114 #[.bool neg, v] w (RetW w (sg neg (val l))) := by
  obtain ⟨a, c, rfl, hc, hm, h⟩ := h
  unfold maxLen at hm
  generalize hn : l.length = n at *
  have HN := Lib.hid hn
  clear hn
  go_enter Tryz.func114, Tryz.ntmps114
  go_wp2
  go_loop [1] (fun m => ∃ k : Nat, k ≤ n ∧ m = .slice a k c ∧ val (l.take k) = val l) sliceLen
  case atStart => exact ⟨n, Nat.le_refl _, rfl, by rw [← HN.out, List.take_length]⟩
  case round =>
    obtain ⟨k, hk, rfl, hv⟩ := hrel
    have HV := Lib.hid hv
    clear hv
    rcases k with _ | j
    · cases neg
      all_goals
        go_wp2
        exact bodyPost_ret (v := .agg #[.bool false, .slice a 0 c]) (by simp [results, Tryz.results114, go_sem]) rfl
          (whole_end _ _ (by rw [HN.out]; exact hc) hm h ho (Nat.zero_le _) HV.out (by omega) (by simp) ((Below.refl _ _).alloc (Nat.le_refl _) _))
    · rcases h with h | ⟨b, o, rfl, hcell⟩
      · exfalso; have := HN.out; rw [h] at this; simp at this; omega
      have g : w.cell? ⟨b, o + j, none⟩ = some (.int .u32 (l.getD j 0)) := hcell.2 j (by have := HN.out; omega)
      generalize hx : l.getD j 0 = x at g
      have HX := Lib.hid hx
      clear hx
      have hb := hcell.lt
      have g' : (w.alloc (.cells #[.bool false, .slice none 0 0] 86)).cell? ⟨b, o + j, none⟩ = some (.int .u32 x) := (World.cell?_alloc_lt w _ ⟨b, o + j, none⟩ hb).trans g
      clear g
      have hj : ((j + 1 : Nat) : Int) - 1 = (j : Int) := by omega
      by_cases hx0 : x = 0
      · subst hx0
        go_wp2
        go_round
        case rel => exact ⟨j, by omega, by go_num, by rw [take_pred (by have := HN.out; omega) HX.out]; exact HV.out⟩
        case measure => simp [sliceLen]
      · have hx1 : ((x : Int) == 0) = false := by simp; omega
        have hend := fun (ng b1 : Bool) (hb1 : b1 = (ng && decide (0 < j + 1))) => whole_end (w := w) (w' := w.alloc (.cells #[.bool b1, .slice (some ⟨b, o, none⟩) ((j + 1 : Nat)) c] 86)) (a := some ⟨b, o, none⟩) (c := c) (k := j + 1) ng b1 (by rw [HN.out]; exact hc) hm (.inr ⟨b, o, rfl, hcell⟩) ho (by rw [HN.out]; exact hk) HV.out (by intro _; simp only [Nat.add_sub_cancel]; rw [HX.out]; exact hx0) hb1 ((Below.refl _ _).alloc (Nat.le_refl _) _)
        have HE := Lib.hid hend
        clear hend
        cases neg
        · go_wp2
          exact bodyPost_ret (v := .agg #[.bool false, .slice (some ⟨b, o, none⟩) ((j + 1 : Nat)) c]) (by simp [results, Tryz.results114, go_sem]) rfl (HE.out _ _ rfl)
        · go_wp2
          exact bodyPost_ret (v := .agg #[.bool true, .slice (some ⟨b, o, none⟩) ((j + 1 : Nat)) c]) (by simp [results, Tryz.results114, go_sem]) rfl (HE.out _ _ rfl)

end Go.Proofs.YtpmlmibceiolpaaGreatDoor
