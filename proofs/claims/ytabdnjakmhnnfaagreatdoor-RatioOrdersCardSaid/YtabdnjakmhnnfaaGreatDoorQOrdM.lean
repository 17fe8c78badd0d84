/- RatioOrders: order, roundings and the digits of a decimal, without the walk. -/
import Derived.Test.YtabdnjakmhnnfaaGreatDoorQShelf2
import Derived.Test.YtabdnjakmhnnfaaGreatDoorQRefs
import Derived.Test.YtabdnjakmhnnfaaGreatDoorQWholeS
import Derived.Test.YtabdnjakmhnnfaaGreatDoorQField
set_option linter.unusedSimpArgs false
set_option linter.unusedVariables false
namespace Go.Proofs.YtabdnjakmhnnfaaGreatDoor
open Go.RowKit
open Go.Lib (decDigits itoa nDigits)
open D4 (rt it Mid)

theorem dot_none : ∀ (l : List UInt8), (∀ c ∈ l, c ≠ 46) → Lib.index l [46] = -1 := by
  intro l
  induction l with
  | nil => intro _; rfl
  | cons c r ih =>
    intro h
    have h1 := ih (fun x hx => h x (List.mem_cons_of_mem _ hx))
    have h2 := h c (List.mem_cons_self ..)
    simp only [Lib.index, h1]
    have : ([46] : List UInt8).isPrefixOf (c :: r) = false := by
      simp only [List.isPrefixOf, Bool.and_eq_false_iff]
      left; rw [beq_eq_false_iff_ne]; exact fun e => h2 e.symm
    rw [this]; rfl
theorem dot_some : ∀ (a b : List UInt8), (∀ c ∈ a, c ≠ 46) → Lib.index (a ++ 46 :: b) [46] = a.length := by
  intro a
  induction a with
  | nil => intro b _; simp [Lib.index, List.isPrefixOf]
  | cons c r ih =>
    intro b h
    have h1 := ih b (fun x hx => h x (List.mem_cons_of_mem _ hx))
    have h2 := h c (List.mem_cons_self ..)
    simp only [List.cons_append, Lib.index, h1]
    have : ([46] : List UInt8).isPrefixOf (c :: (r ++ 46 :: b)) = false := by
      simp only [List.isPrefixOf, Bool.and_eq_false_iff]
      left; rw [beq_eq_false_iff_ne]; exact fun e => h2 e.symm
    rw [this]
    have : ((r.length : Int) == -1) = false := by rw [beq_eq_false_iff_ne]; omega
    rw [this]; simp
theorem rep_none {l : List UInt8} (h : ∀ c ∈ l, c ≠ 46) : Lib.replace l [46] [] 1 = l := by
  unfold Lib.replace Lib.replaceNum
  rw [if_neg (by decide), Lib.count_miss (dot_none l h), if_pos (.inr (by decide))]
  rfl
theorem rep_some {a b : List UInt8} (h : ∀ c ∈ a, c ≠ 46) : Lib.replace (a ++ 46 :: b) [46] [] 1 = a ++ b := by
  have hi := dot_some a b h
  have hc := Lib.count_hit (s := a ++ 46 :: b) (sub := [46]) (by simp) hi
  unfold Lib.replace Lib.replaceNum
  rw [if_neg (by decide), if_neg (by rw [hc]; omega), show (1 : Int).toNat = 0 + 1 from rfl, Lib.replaceK_hit [46] [] 0 _ _ hi]
  show List.take a.length (a ++ 46 :: b) ++ [] ++ Lib.replaceK [46] [] 0 (List.drop (a.length + 1) (a ++ 46 :: b)) = a ++ b
  rw [List.take_left, Lib.replaceK, List.append_nil]
  congr 1
  rw [List.drop_append]
  simp

/-- The digits of a decimal, filled up. -/
def fillL (m p : Nat) : List UInt8 := List.replicate (p + 1 - (decDigits m).length) 48 ++ decDigits m
theorem fillL_dig (m p : Nat) : Dig (fillL m p) := by
  intro c hc
  rcases List.mem_append.1 hc with h | h
  · rw [(List.mem_replicate.1 h).2]; decide
  · exact decDigits_dig m c h
theorem dig_ne {l : List UInt8} (h : Dig l) : ∀ c ∈ l, c ≠ 46 := by
  intro c hc e
  have := h c hc
  subst e
  revert this
  decide
/-- The text of a decimal as a list. -/
def decL (M : Int) (p : Nat) : List UInt8 := (if decide (M < 0) then [45] else []) ++ (if p = 0 then fillL M.natAbs p else (fillL M.natAbs p).take ((fillL M.natAbs p).length - p) ++ 46 :: (fillL M.natAbs p).drop ((fillL M.natAbs p).length - p))
theorem decT_list (x : Rat) (p : Nat) : decT x p = ⟨(decL (decM x p) p).toArray⟩ := by
  have e : decD (decM x p).natAbs p = ⟨(fillL (decM x p).natAbs p).toArray⟩ := rfl
  unfold decT decL decP
  rw [e, ba_size]
  generalize fillL (decM x p).natAbs p = F
  by_cases hm : decM x p < 0
  · rw [if_pos hm, decide_eq_true hm, if_pos rfl]
    by_cases hp : p = 0
    · rw [if_pos hp, if_pos hp]; apply ByteArray.ext; simp [ByteArray.data_append]
    · rw [if_neg hp, if_neg hp, extract_list, extract_list]
      apply ByteArray.ext
      simp [ByteArray.data_append]
  · rw [if_neg hm, decide_eq_false hm]
    by_cases hp : p = 0
    · rw [if_pos hp, if_pos hp]; apply ByteArray.ext; simp
    · rw [if_neg hp, if_neg hp, extract_list, extract_list]
      apply ByteArray.ext
      simp [ByteArray.data_append]
theorem sgn_ne (b : Bool) : ∀ c ∈ (if b then [45] else [] : List UInt8), c ≠ 46 := by
  cases b
  · intro c hc; simp at hc
  · intro c hc; simp at hc; subst hc; decide
theorem decL_rep (M : Int) (p : Nat) : Lib.replace (decL M p) [46] [] 1 = sgnd (decide (M < 0)) (fillL M.natAbs p) := by
  unfold decL sgnd
  by_cases hp : p = 0
  · rw [if_pos hp]
    exact rep_none (fun c hc => (List.mem_append.1 hc).elim (sgn_ne _ c) (dig_ne (fillL_dig _ _) c))
  · rw [if_neg hp, ← List.append_assoc, rep_some]
    · rw [List.append_assoc, List.take_append_drop]
    · intro c hc
      exact (List.mem_append.1 hc).elim (sgn_ne _ c) (fun h => dig_ne (fillL_dig M.natAbs p) c (List.mem_of_mem_take h))
theorem decDigits_first : ∀ (n u : Nat), u < n → 0 < u → ∃ c r, decDigits u = c :: r ∧ c ≠ 48 := by
  intro n
  induction n with
  | zero => intro u h; omega
  | succ n ih =>
    intro u hu h0
    by_cases h : u < 10
    · refine ⟨_, [], Lib.decDigits_one h, ?_⟩
      have h10 : u = 1 ∨ u = 2 ∨ u = 3 ∨ u = 4 ∨ u = 5 ∨ u = 6 ∨ u = 7 ∨ u = 8 ∨ u = 9 := by omega
      rcases h10 with rfl | rfl | rfl | rfl | rfl | rfl | rfl | rfl | rfl <;> decide
    · obtain ⟨c, r, e, hc⟩ := ih (u / 10) (by omega) (by omega)
      refine ⟨c, r ++ [UInt8.ofNat (48 + u % 10)], ?_, hc⟩
      rw [decDigits, dif_neg h, e]; rfl
theorem dropWhile_rep (k : Nat) (l : List UInt8) : (List.replicate k 48 ++ l).dropWhile (· == 48) = l.dropWhile (· == 48) := by
  induction k with
  | zero => simp
  | succ k ih => rw [List.replicate_succ, List.cons_append, List.dropWhile_cons_of_pos (by decide), ih]
theorem fillL_trim (m p : Nat) : Lib.trimLeftB (fillL m p) 48 = if m = 0 then [] else decDigits m := by
  unfold Lib.trimLeftB fillL
  rw [dropWhile_rep]
  by_cases h : m = 0
  · rw [if_pos h, h]; decide +kernel
  · obtain ⟨c, r, e, hc⟩ := decDigits_first (m + 1) m (by omega) (by omega)
    rw [if_neg h, e, List.dropWhile_cons_of_neg]
    simpa using hc
theorem fillL_len (m p : Nat) : (fillL m p).length ≤ p + 1 + (decDigits m).length := by unfold fillL; rw [List.length_append, List.length_replicate]; omega
theorem decL_len (M : Int) (p : Nat) : (decL M p).length ≤ p + 3 + (decDigits M.natAbs).length := by
  have h := fillL_len M.natAbs p
  unfold decL
  rw [List.length_append]
  have h1 : (if decide (M < 0) then [45] else [] : List UInt8).length ≤ 1 := by split <;> simp
  generalize (if decide (M < 0) then [45] else [] : List UInt8) = S at *
  by_cases hp : p = 0
  · rw [if_pos hp]; omega
  · rw [if_neg hp, List.length_append, List.length_cons, List.length_take, List.length_drop]; omega

theorem rcmp_lt {x y : Rat} (h : x < y) : rcmp x y = -1 := by
  have h1 := rcmp_neg.2 h
  unfold rcmp at *
  rcases Int.sign_trichotomy (x.num * y.den - y.num * x.den) with h | h | h <;> omega
theorem rcmp_gt {x y : Rat} (h : y < x) : rcmp x y = 1 := by
  have h1 := rcmp_pos.2 h
  unfold rcmp at *
  rcases Int.sign_trichotomy (x.num * y.den - y.num * x.den) with h | h | h <;> omega
theorem rcmp_self (x : Rat) : rcmp x x = 0 := rcmp_zero.2 rfl
theorem rcmp_ge {x y : Rat} (h : y ≤ x) : rcmp x y = 0 ∨ rcmp x y = 1 := by
  by_cases e : x = y
  · exact .inl (rcmp_zero.2 e)
  · exact .inr (rcmp_gt (by grind))

theorem rt_int (m : Int) : rt (m : Rat) = it m := by
  have h := D4.rt_one (x := (m : Rat)) (by simp)
  rwa [Rat.num_intCast] at h
theorem wsub_it {w : World} {m n : Int} (hm : nDigits m.natAbs ≤ 2000) (hn : nDigits n.natAbs ≤ 2000) (hz : nDigits (m - n).natAbs ≤ 2000) (hg : Good w) : Calls Tryz.prog 56 #[.string (it m), .string (it n)] w (RetV w (.tuple #[.string (it (m - n)), .int .i64 0])) := by
  have h := wsub_any (w := w) (la := itoa m) (lb := itoa n) (it_len hm) (it_len hn) hg
  have e1 : wcheck (itoa m) = 0 := by rw [wcheck_itoa, if_neg (by omega)]
  have e2 : wcheck (itoa n) = 0 := by rw [wcheck_itoa, if_neg (by omega)]
  have e : wopE (m - n) (itoa m) (itoa n) = 0 := by
    unfold wopE werr werr werr
    rw [if_pos e1, if_pos e2, if_pos rfl, if_pos hz]
  have e3 : wopT (m - n) (itoa m) (itoa n) = itoa (m - n) := by unfold wopT; rw [if_pos e]
  rw [sread_itoa, sread_itoa, e, e3] at h
  exact h

/-- The comparisons of two numbers. -/
theorem cmp_parts {a b : Rat} (ha : fitsD 240 a) (hb : fitsD 240 b) : ∃ (D : ByteArray) (C B : Int),
    Hid (∀ V : World, Good V → Calls Tryz.prog 27 #[.string (rt a), .string (rt b)] V (RetV V (.tuple #[.string D, .int .i64 0]))) ∧
    Hid (∀ V : World, Good V → Calls Tryz.prog 48 #[.string (rt a), .string (rt b)] V (RetV V (.tuple #[.int .i64 C, .int .i64 0]))) ∧
    Hid (∀ V : World, Good V → Calls Tryz.prog 48 #[.string D, .string ⟨#[48]⟩] V (RetV V (.tuple #[.int .i64 C, .int .i64 0]))) ∧
    Hid (∀ V : World, Good V → Calls Tryz.prog 48 #[.string (rt b), .string (rt a)] V (RetV V (.tuple #[.int .i64 B, .int .i64 0]))) ∧
    ((C = 0 ∧ B = 0 ∧ rt a = rt b) ∨ (C = 1 ∧ B = -1 ∧ rt a ≠ rt b) ∨ (C = -1 ∧ B = 1 ∧ rt a ≠ rt b)) := by
  have fa := fits_up (k := 2000) ha (by omega)
  have fb := fits_up (k := 2000) hb (by omega)
  have fn : fitsD 240 (-b) := ⟨by rw [Rat.neg_num, Int.natAbs_neg]; exact hb.1, by rw [Rat.neg_den]; exact hb.2⟩
  have fd : fitsD 2000 (a - b) := by rw [Rat.sub_eq_add_neg]; exact fits_up (fits_add ha fn) (by omega)
  have ez : (⟨#[48]⟩ : ByteArray) = rt 0 := by decide +kernel
  have f0 : fitsD 2000 0 := by decide +kernel
  have ec : rcmp (a - b) 0 = rcmp a b := by
    by_cases h : a = b
    · subst h; rw [rcmp_zero.2 (show a - a = 0 by grind), rcmp_self]
    · by_cases h2 : a < b
      · rw [rcmp_lt h2, rcmp_lt (show a - b < 0 by grind)]
      · rw [rcmp_gt (show b < a by grind), rcmp_gt (show 0 < a - b by grind)]
  refine ⟨rt (a - b), rcmp a b, rcmp b a, Lib.hid (fun V hV => rsub_rt fa fb fd hV), Lib.hid (fun V hV => rcmp_rt fa fb hV), Lib.hid (fun V hV => ?_), Lib.hid (fun V hV => rcmp_rt fb fa hV), ?_⟩
  · rw [ez, ← ec]; exact rcmp_rt fd f0 hV
  · have hne : a ≠ b → rt a ≠ rt b := fun h e => h (ratText_inj (by have := congrArg ByteArray.toList e; rwa [show (rt a).toList = ratText a from ba_list _, show (rt b).toList = ratText b from ba_list _] at this))
    by_cases h : a = b
    · subst h; exact .inl ⟨rcmp_self _, rcmp_self _, rfl⟩
    · by_cases h2 : a < b
      · exact .inr (.inr ⟨rcmp_lt h2, rcmp_gt h2, hne h⟩)
      · have h3 : b < a := by grind
        exact .inr (.inl ⟨rcmp_gt h3, rcmp_lt h3, hne h⟩)

/-- The roundings of a number. -/
theorem round_parts {a : Rat} (ha : fitsD 240 a) : ∃ (L H O : ByteArray) (P Q : Int),
    Hid (∀ V : World, Good V → Calls Tryz.prog 39 #[.string (rt a)] V (RetV V (.tuple #[.string L, .int .i64 0]))) ∧
    Hid (∀ V : World, Good V → Calls Tryz.prog 40 #[.string (rt a)] V (RetV V (.tuple #[.string H, .int .i64 0]))) ∧
    Hid (∀ V : World, Good V → Calls Tryz.prog 56 #[.string H, .string L] V (RetV V (.tuple #[.string O, .int .i64 0]))) ∧
    Hid (∀ V : World, Good V → Calls Tryz.prog 48 #[.string L, .string (rt a)] V (RetV V (.tuple #[.int .i64 P, .int .i64 0]))) ∧
    Hid (∀ V : World, Good V → Calls Tryz.prog 48 #[.string H, .string (rt a)] V (RetV V (.tuple #[.int .i64 Q, .int .i64 0]))) ∧
    ((P = 0 ∧ Q = 0 ∧ O = ⟨#[48]⟩ ∧ L = rt a) ∨ (P = -1 ∧ Q = 1 ∧ O = ⟨#[49]⟩ ∧ L ≠ rt a)) := by
  have fa := fits_up (k := 2000) ha (by omega)
  have fn : fitsD 240 (-a) := ⟨by rw [Rat.neg_num, Int.natAbs_neg]; exact ha.1, by rw [Rat.neg_den]; exact ha.2⟩
  have d1 := floor_digits ha
  have d2 : nDigits (-((-a).floor)).natAbs ≤ 240 := by rw [Int.natAbs_neg]; exact floor_digits fn
  have fz : ∀ {m : Int}, nDigits m.natAbs ≤ 240 → fitsD 2000 (m : Rat) := fun h => ⟨by rw [Rat.num_intCast]; omega, by rw [Rat.den_intCast]; decide +kernel⟩
  have l1 : (a.floor : Rat) ≤ a := Rat.floor_le a
  have l2 : a < (a.floor : Rat) + 1 := by have h := Rat.lt_floor_add_one a; rwa [Rat.intCast_add] at h
  have l3 : ((-a).floor : Rat) ≤ -a := Rat.floor_le (-a)
  have l4 : -a < ((-a).floor : Rat) + 1 := by have h := Rat.lt_floor_add_one (-a); rwa [Rat.intCast_add] at h
  have key : (a = (a.floor : Rat) ∧ -((-a).floor) = a.floor) ∨ ((a.floor : Rat) < a ∧ -((-a).floor) = a.floor + 1) := by
    by_cases h : a = (a.floor : Rat)
    · refine .inl ⟨h, ?_⟩
      have h1 : ((-a).floor : Rat) ≤ ((-a.floor : Int) : Rat) := by rw [Rat.intCast_neg]; grind
      have h2 : ((-a.floor : Int) : Rat) < (((-a).floor + 1 : Int) : Rat) := by rw [Rat.intCast_neg, Rat.intCast_add]; grind
      have h3 := Rat.intCast_le_intCast.1 h1
      have h4 := Rat.intCast_lt_intCast.1 h2
      omega
    · refine .inr ⟨by grind, ?_⟩
      have h1 : ((-a).floor : Rat) < ((-a.floor : Int) : Rat) := by rw [Rat.intCast_neg]; grind
      have h2 : ((-a.floor - 1 : Int) : Rat) < (((-a).floor + 1 : Int) : Rat) := by rw [Rat.intCast_sub, Rat.intCast_neg, Rat.intCast_add]; grind
      have h3 := Rat.intCast_lt_intCast.1 h1
      have h4 := Rat.intCast_lt_intCast.1 h2
      omega
  have hne : ∀ {x y : Rat}, x ≠ y → rt x ≠ rt y := fun {x y} h e => h (ratText_inj (by have := congrArg ByteArray.toList e; rwa [show (rt x).toList = ratText x from ba_list _, show (rt y).toList = ratText y from ba_list _] at this))
  have do_ : nDigits (-((-a).floor) - a.floor).natAbs ≤ 2000 := by
    rcases key with ⟨_, h⟩ | ⟨_, h⟩
    · rw [h, show a.floor - a.floor = 0 by omega]; decide +kernel
    · rw [h, show a.floor + 1 - a.floor = 1 by omega]; decide +kernel
  refine ⟨it a.floor, it (-((-a).floor)), it (-((-a).floor) - a.floor), rcmp (a.floor : Rat) a, rcmp ((-((-a).floor) : Int) : Rat) a, Lib.hid (fun V hV => rfloor_rt fa hV), Lib.hid (fun V hV => rceil_rt fa hV), Lib.hid (fun V hV => wsub_it (Nat.le_trans d2 (by omega)) (Nat.le_trans d1 (by omega)) do_ hV), Lib.hid (fun V hV => ?_), Lib.hid (fun V hV => ?_), ?_⟩
  · rw [← rt_int]; exact rcmp_rt (fz d1) fa hV
  · rw [← rt_int]; exact rcmp_rt (fz d2) fa hV
  · rcases key with ⟨h1, h2⟩ | ⟨h1, h2⟩
    · refine .inl ⟨rcmp_zero.2 h1.symm, ?_, ?_, ?_⟩
      · rw [h2]; exact rcmp_zero.2 h1.symm
      · rw [h2, show a.floor - a.floor = 0 by omega]; decide +kernel
      · rw [← rt_int, ← h1]
    · refine .inr ⟨rcmp_lt h1, ?_, ?_, ?_⟩
      · rw [h2]; exact rcmp_gt (by rw [Rat.intCast_add]; grind)
      · rw [h2, show a.floor + 1 - a.floor = 1 by omega]; decide +kernel
      · rw [← rt_int]; exact hne (by grind)

/-- The decimal of a number, taken apart. -/
theorem decimal_parts {a : Rat} (ha : fitsD 240 a) (p : Nat) (hp : p < 20) : ∃ (T R LB TB Z NE FA U : ByteArray) (ng zb : Bool) (LE : Int),
    Hid (∀ V : World, Good V → Calls Tryz.prog 23 #[.string (rt a), .int .i64 (p : Int)] V (RetV V (.tuple #[.string T, .int .i64 0]))) ∧
    Hid (∀ V : World, Good V → Calls Tryz.prog 58 #[.string T, .string ⟨#[46]⟩, .string ⟨#[]⟩, .int .i64 1] V (RetV V (.string R))) ∧
    Hid (∀ V : World, Good V → Calls Tryz.prog 57 #[.string R, .string ⟨#[45]⟩] V (RetV V (.tuple #[.string LB, .bool ng]))) ∧
    Hid (∀ V : World, Good V → Calls Tryz.prog 59 #[.string LB, .string ⟨#[48]⟩] V (RetV V (.string TB))) ∧
    Hid (∀ V : World, Good V → Calls Tryz.prog 13 #[.string ⟨#[48]⟩, .int .i64 (p : Int)] V (RetV V (.string Z))) ∧
    Hid (∀ V : World, Good V → Calls Tryz.prog 27 #[.string (rt a), .string NE] V (RetV V (.tuple #[.string FA, .int .i64 0]))) ∧
    Hid (∀ V : World, Good V → Calls Tryz.prog 16 #[.string FA, .string (⟨#[49]⟩ ++ Z)] V (RetV V (.tuple #[.string U, .int .i64 0]))) ∧
    Hid (∀ V : World, Good V → Calls Tryz.prog 48 #[.string U, .string ⟨#[49]⟩] V (RetV V (.tuple #[.int .i64 (-1), .int .i64 0]))) ∧
    Hid (∀ V : World, Good V → Calls Tryz.prog 48 #[.string U, .string ⟨#[48]⟩] V (RetV V (.tuple #[.int .i64 LE, .int .i64 0]))) ∧
    0 ≤ LE ∧ Z.size ≤ 1000 ∧ TB.size ≤ 1000 ∧
    ((ng = false ∧ (TB.toList == []) = true ∧ Hid (∀ V : World, Good V → Calls Tryz.prog 21 #[.string ⟨#[48]⟩, .string (⟨#[49]⟩ ++ Z)] V (RetV V (.tuple #[.string NE, .int .i64 0])))) ∨
      (ng = false ∧ (TB.toList == []) = false ∧ Hid (∀ V : World, Good V → Calls Tryz.prog 21 #[.string TB, .string (⟨#[49]⟩ ++ Z)] V (RetV V (.tuple #[.string NE, .int .i64 0])))) ∨
      (ng = true ∧ (TB.toList == []) = false ∧ Hid (∀ V : World, Good V → Calls Tryz.prog 21 #[.string (⟨#[45]⟩ ++ TB), .string (⟨#[49]⟩ ++ Z)] V (RetV V (.tuple #[.string NE, .int .i64 0]))))) := by
  have fa := fits_up (k := 2000) ha (by omega)
  have e10 : 10 ^ p < 10 ^ (20 + 1) := Nat.pow_lt_pow_right (by omega) (by omega)
  have ft : fitsD 21 ((10 ^ p : Nat) : Rat) := by
    refine ⟨?_, ?_⟩
    · rw [show ((10 ^ p : Nat) : Rat).num = ((10 ^ p : Nat) : Int) by simp, Int.natAbs_natCast]
      exact D4.nDigits_le (d := 20) e10
    · rw [show ((10 ^ p : Nat) : Rat).den = 1 by simp]; decide +kernel
  have fm : fitsD 261 (a * ((10 ^ p : Nat) : Rat)) := fits_mul ha ft
  have dM : nDigits (decM a p).natAbs ≤ 261 := floor_digits fm
  have hpos : (0 : Rat) < ((10 ^ p : Nat) : Rat) := by exact_mod_cast Nat.pow_pos (by omega)
  have hten0 : ((10 ^ p : Nat) : Rat) ≠ 0 := by grind
  have hti : ((10 ^ p : Nat) : Int) ≠ 0 := by have := Nat.pow_pos (n := p) (show 0 < 10 by omega); omega
  have dT : nDigits ((10 ^ p : Nat) : Int).natAbs ≤ 21 := by rw [Int.natAbs_natCast]; exact D4.nDigits_le (d := 20) e10
  obtain ⟨near, hnear⟩ : ∃ near : Rat, near = Rat.divInt (decM a p) ((10 ^ p : Nat) : Int) := ⟨_, rfl⟩
  have hnear2 : near = (decM a p : Rat) / ((10 ^ p : Nat) : Rat) := by rw [hnear, divInt_div]; norm_cast
  have fne : fitsD 261 near := by
    rw [hnear]
    exact ⟨Nat.le_trans (D4.nDigits_mono (D4.divInt_num_le _ _)) dM, Nat.le_trans (D4.nDigits_mono (D4.divInt_den_le _ hti)) (Nat.le_trans dT (by omega))⟩
  have fnn : fitsD 261 (-near) := ⟨by rw [Rat.neg_num, Int.natAbs_neg]; exact fne.1, by rw [Rat.neg_den]; exact fne.2⟩
  have ffar : fitsD 523 (a - near) := by rw [Rat.sub_eq_add_neg]; exact fits_add (fits_up ha (by omega)) fnn
  have fu : fitsD 544 ((a - near) * ((10 ^ p : Nat) : Rat)) := fits_mul ffar ft
  have hu : (a - near) * ((10 ^ p : Nat) : Rat) = a * ((10 ^ p : Nat) : Rat) - (decM a p : Rat) := by
    rw [hnear2, Rat.sub_eq_add_neg, Rat.add_mul, Rat.neg_mul, Rat.div_mul_cancel hten0, ← Rat.sub_eq_add_neg]
  have u0 : 0 ≤ (a - near) * ((10 ^ p : Nat) : Rat) := by
    rw [hu]; have := Rat.floor_le (a * ((10 ^ p : Nat) : Rat)); unfold decM; grind
  have u1 : (a - near) * ((10 ^ p : Nat) : Rat) < 1 := by
    rw [hu]; have h := Rat.lt_floor_add_one (a * ((10 ^ p : Nat) : Rat)); rw [Rat.intCast_add] at h; unfold decM; grind
  have e1 : (⟨#[49]⟩ : ByteArray) = rt 1 := by decide +kernel
  have e0 : (⟨#[48]⟩ : ByteArray) = rt 0 := by decide +kernel
  have hZ : (⟨#[49]⟩ : ByteArray) ++ ⟨(Lib.repeatL [48] p).toArray⟩ = tenB p := by
    rw [repeat_zero]; apply ByteArray.ext; simp [ByteArray.data_append, tenB]
  have hZr : (⟨#[49]⟩ : ByteArray) ++ ⟨(Lib.repeatL [48] p).toArray⟩ = rt ((10 ^ p : Nat) : Rat) := by rw [hZ, tenB_rt]
  have hZi : (⟨#[49]⟩ : ByteArray) ++ ⟨(Lib.repeatL [48] p).toArray⟩ = it ((10 ^ p : Nat) : Int) := by
    rw [hZr, ← rt_int]; norm_cast
  have hdec := fun (V : World) (hV : Good V) => dec_any (w := V) (ratText a) (p : Int) (text_len fa) hV
  have ede : decE (ratText a) (p : Int) = 0 := by unfold decE; rw [rerr_fit fa, if_pos rfl, if_neg (by omega)]
  have eds : decS (ratText a) (p : Int) = decT a p := by unfold decS; rw [ede, if_pos rfl, rval_ratText, Int.toNat_natCast]
  rw [ede, eds] at hdec
  have hmk := fun (V : World) (hV : Good V) => rmk_any (w := V) (n := decM a p) (d := ((10 ^ p : Nat) : Int)) (Nat.le_trans dM (by omega)) (Nat.le_trans dT (by omega)) hti hV
  rw [← hnear, ← hZi] at hmk
  have hlen : (decDigits (decM a p).natAbs).length ≤ 261 := by rw [Lib.decDigits_length]; exact dM
  have hTsz : (decT a p).size ≤ 1000 := by rw [decT_list, ba_size]; have := decL_len (decM a p) p; omega
  refine ⟨decT a p, ⟨(sgnd (decide (decM a p < 0)) (fillL (decM a p).natAbs p)).toArray⟩, ⟨(fillL (decM a p).natAbs p).toArray⟩, ⟨(Lib.trimLeftB (fillL (decM a p).natAbs p) 48).toArray⟩, ⟨(Lib.repeatL [48] p).toArray⟩, rt near, rt (a - near), rt ((a - near) * ((10 ^ p : Nat) : Rat)), decide (decM a p < 0), decide (decM a p = 0), rcmp ((a - near) * ((10 ^ p : Nat) : Rat)) 0,
    Lib.hid hdec, Lib.hid (fun V hV => ?_), Lib.hid (fun V hV => ?_), Lib.hid (fun V hV => ?_), Lib.hid (fun V hV => repeat_any p (by omega)), Lib.hid (fun V hV => rsub_rt fa (fits_up fne (by omega)) (fits_up ffar (by omega)) hV), Lib.hid (fun V hV => ?_), Lib.hid (fun V hV => ?_), Lib.hid (fun V hV => ?_), ?_, ?_, ?_, ?_⟩
  · obtain ⟨_, m, hm⟩ := hV
    refine (Tryz.strings_Replace (decT a p) ⟨#[46]⟩ ⟨#[]⟩ 1 m V (by omega) hm (by show 1 ≤ 1; omega) (by show _ + _ * 0 ≤ _; omega)).mono ?_
    rintro e w' ⟨rfl, hb⟩
    refine ⟨?_, hb⟩
    rw [← decL_rep, decT_list]
  · refine (Tryz.strings_CutPrefix ⟨(sgnd (decide (decM a p < 0)) (fillL (decM a p).natAbs p)).toArray⟩ ⟨#[45]⟩ V).mono ?_
    rintro e w' ⟨rfl, rfl⟩
    refine ⟨?_, Below.refl _ _⟩
    have h1 : Lib.trimPrefix (sgnd (decide (decM a p < 0)) (fillL (decM a p).natAbs p)) [45] = fillL (decM a p).natAbs p := unsgn_sgnd (fillL_dig _ _)
    have h2 : Lib.hasPrefix (sgnd (decide (decM a p < 0)) (fillL (decM a p).natAbs p)) [45] = decide (decM a p < 0) := hasPrefix_sgnd (fillL_dig _ _)
    show Ending.returned (.tuple #[.string ⟨(Lib.trimPrefix (sgnd (decide (decM a p < 0)) (fillL (decM a p).natAbs p)) [45]).toArray⟩, .bool (Lib.hasPrefix (sgnd (decide (decM a p < 0)) (fillL (decM a p).natAbs p)) [45])]) = _
    rw [h1, h2]
  · refine (Tryz.strings_TrimLeft_one ⟨(fillL (decM a p).natAbs p).toArray⟩ 48 (by decide) V).mono ?_
    rintro e w' ⟨rfl, rfl⟩
    exact ⟨rfl, Below.refl _ _⟩
  · rw [hZr]; exact rmul_rt (fits_up ffar (by omega)) (fits_up ft (by omega)) (fits_up fu (by omega)) hV
  · have h := rcmp_rt (w := V) (fits_up (k := 2000) fu (by omega)) (fits_up (k := 2000) (show fitsD 1 1 by decide +kernel) (by omega)) hV
    rw [rcmp_lt u1, ← e1] at h
    exact h
  · rw [e0]; exact rcmp_rt (fits_up fu (by omega)) (by decide +kernel) hV
  · rcases rcmp_ge u0 with h | h <;> rw [h] <;> decide
  · rw [ba_size, Lib.repeatL_length]; simp; omega
  · rw [ba_size, fillL_trim]; split
    · simp
    · omega
  · rw [ba_list, fillL_trim]
    by_cases hz : decM a p = 0
    · refine .inl ⟨by rw [hz]; rfl, by rw [hz]; rfl, Lib.hid ?_⟩
      have e : it 0 = ⟨#[48]⟩ := by decide +kernel
      rw [hz, e] at hmk
      exact hmk
    · have hna : ¬ (decM a p).natAbs = 0 := by omega
      rw [if_neg hna]
      obtain ⟨c, r, hcr, hc⟩ := decDigits_first _ (decM a p).natAbs (Nat.lt_succ_self _) (by omega)
      have hb : (decDigits (decM a p).natAbs == []) = false := by rw [hcr]; rfl
      by_cases hn : decM a p < 0
      · refine .inr (.inr ⟨decide_eq_true hn, hb, Lib.hid ?_⟩)
        have e : it (decM a p) = (⟨#[45]⟩ : ByteArray) ++ ⟨(decDigits (decM a p).natAbs).toArray⟩ := by
          unfold it itoa; rw [if_pos hn]; apply ByteArray.ext; simp [ByteArray.data_append]
        rw [e] at hmk
        exact hmk
      · refine .inr (.inl ⟨decide_eq_false hn, hb, Lib.hid ?_⟩)
        have e : it (decM a p) = ⟨(decDigits (decM a p).natAbs).toArray⟩ := by
          unfold it itoa; rw [if_neg hn, show (decM a p).toNat = (decM a p).natAbs by omega]
        rw [e] at hmk
        exact hmk
end Go.Proofs.YtabdnjakmhnnfaaGreatDoor
