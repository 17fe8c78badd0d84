/- Diagrams of computed numbers: plain laws of sums, products, fixed variables. -/
import Derived.Test.YtpmlmibceiolpaaGreatDoorGLaws
set_option linter.unusedSimpArgs false
set_option linter.unusedVariables false
namespace Go.Proofs.YtpmlmibceiolpaaGreatDoor
open Go.RowKit

/-- The diagram of a function of the values. -/
def dgV (h : Nat → Rat) (n : Nat) : List Nd := madeN (fun y => ratText (h y)) n
/-- A function whose numbers are short. -/
structure Vl (h : Nat → Rat) (n k : Nat) : Prop where
  n6 : n ≤ 6
  kk : k ≤ 900
  fit : ∀ y, y < 2 ^ n → fitsD k (h y)
theorem Vl.rerr {h : Nat → Rat} {n k : Nat} (H : Vl h n k) : ∀ y, y < 2 ^ n → rerr (ratText (h y)) = 0 := fun y hy => rerr_fit (fits_up (H.fit y hy) (by have := H.kk; omega))
theorem Vl.vld {h : Nat → Rat} {n k : Nat} (H : Vl h n k) : vldN (n : Int) (dgV h n) = true := vldN_made H.n6 H.rerr
theorem Vl.evD {h : Nat → Rat} {n k y : Nat} (H : Vl h n k) (hy : y < 2 ^ n) : evD n (dgV h n) y = ratText (h y) := made_at _ n hy
theorem Vl.valD {h : Nat → Rat} {n k y : Nat} (H : Vl h n k) (hy : y < 2 ^ n) : valD n (dgV h n) y = h y := by
  unfold Proofs.YtpmlmibceiolpaaGreatDoor.valD
  rw [H.evD hy, rval_ratText]
/-- The table of such a diagram. -/
def tabV (h : Nat → Rat) (n : Nat) : List (List UInt8) := (List.range (2 ^ n)).map fun y => ratText (h y)
theorem tabV_at {h : Nat → Rat} {n y : Nat} (hy : y < 2 ^ n) : (tabV h n).getD y [] = ratText (h y) := by
  unfold tabV
  rw [List.getD_eq_getElem?_getD, List.getElem?_map, List.getElem?_range hy]; rfl
theorem Vl.tbl {h : Nat → Rat} {n k : Nat} (H : Vl h n k) : Tbl (tabV h n) n := by
  refine ⟨H.n6, by simp [tabV], fun q hq => ?_, fun q hq => ?_⟩
  all_goals
    obtain ⟨y, hy, rfl⟩ := List.mem_map.1 hq
    rw [List.mem_range] at hy
  · exact H.rerr y hy
  · have := text_lenK (H.fit y hy)
    have := H.kk
    omega
theorem Vl.dg {h : Nat → Rat} {n k : Nat} (H : Vl h n k) : dgN (tabV h n) n = dgV h n := madeN_congr fun y hy => tabV_at hy
theorem Vl.size {h : Nat → Rat} {n k : Nat} (H : Vl h n k) : (dgV h n).length ≤ 127 := H.dg ▸ H.tbl.size
theorem Vl.leaf {h : Nat → Rat} {n k : Nat} (H : Vl h n k) : ∀ x ∈ dgV h n, x.2.2.2.length ≤ 268435000 := H.dg ▸ H.tbl.leaf
theorem dgV_congr {h g : Nat → Rat} {n : Nat} (e : ∀ y, y < 2 ^ n → h y = g y) : dgV h n = dgV g n := madeN_congr fun y hy => by rw [e y hy]

theorem cmbR_small {h : Nat → Rat} {n k : Nat} (H : Vl h n k) : cmbR h n = ((n : Int), dgV h n, 0) := by
  have hb : bigB h n = false := by
    unfold bigB
    rw [List.any_eq_false]
    intro y hy
    rw [List.mem_range] at hy
    have h1 : fitsD 2000 (h y) := fits_up (H.fit y hy) (by have := H.kk; omega)
    simp [h1]
  unfold cmbR
  rw [hb]; rfl
theorem cmbR_congr {h g : Nat → Rat} {n : Nat} (e : ∀ y, y < 2 ^ n → h y = g y) : cmbR h n = cmbR g n := by
  have hb : bigB h n = bigB g n := by
    unfold bigB
    refine Bool.eq_iff_iff.2 ?_
    rw [List.any_eq_true, List.any_eq_true]
    constructor
    · rintro ⟨y, hy, h1⟩; exact ⟨y, hy, by rw [← e y (List.mem_range.1 hy)]; exact h1⟩
    · rintro ⟨y, hy, h1⟩; exact ⟨y, hy, by rw [e y (List.mem_range.1 hy)]; exact h1⟩
  unfold cmbR
  rw [hb, madeN_congr (f := fun y => ratText (h y)) (g := fun y => ratText (g y)) (fun y hy => by rw [e y hy])]

theorem opR_fitK (op : Int) {x y : Rat} {j k : Nat} (hx : fitsD j x) (hy : fitsD k y) : fitsD (j + k + 1) (opR op x y) := by
  have hn : fitsD k (-y) := by
    have h1 := hy.1; have h2 := hy.2
    exact ⟨by rw [Rat.neg_num, Int.natAbs_neg]; exact h1, by rw [Rat.neg_den]; exact h2⟩
  have ha := fits_add2 hx hy
  have hs := fits_add2 hx hn
  have hm := fits_up (fits_mul hx hy) (show j + k ≤ j + k + 1 by omega)
  have h1 := fits_up hx (show j ≤ j + k + 1 by omega)
  have h2 := fits_up hy (show k ≤ j + k + 1 by omega)
  unfold opR
  split
  · exact ha
  · split
    · rw [Rat.sub_eq_add_neg]; exact hs
    · split
      · exact hm
      · split
        · split
          · exact h2
          · exact h1
        · split
          · exact h2
          · exact h1
/-- Two functions combined. -/
def opF (op : Int) (h g : Nat → Rat) : Nat → Rat := fun y => opR op (h y) (g y)
def fixF (v b : Nat) (h : Nat → Rat) : Nat → Rat := fun y => h (setB y v b)
def sumF (v : Nat) (h : Nat → Rat) : Nat → Rat := fun y => h (setB y v 0) + h (setB y v 1)
theorem Vl.op {h g : Nat → Rat} {n j k : Nat} (op : Int) (H : Vl h n j) (G : Vl g n k) (hk : j + k + 1 ≤ 900) : Vl (opF op h g) n (j + k + 1) := ⟨H.n6, hk, fun y hy => opR_fitK op (H.fit y hy) (G.fit y hy)⟩
theorem Vl.fix {h : Nat → Rat} {n k v b : Nat} (H : Vl h n k) (hv : v < n) (hb : b ≤ 1) : Vl (fixF v b h) n k := ⟨H.n6, H.kk, fun y hy => H.fit _ (setB_lt H.n6 hy hv hb)⟩
theorem Vl.sum {h : Nat → Rat} {n k v : Nat} (H : Vl h n k) (hv : v < n) (hk : k + k + 1 ≤ 900) : Vl (sumF v h) n (k + k + 1) :=
  ⟨H.n6, hk, fun y hy => fits_add2 (H.fit _ (setB_lt (b := 0) H.n6 hy hv (by omega))) (H.fit _ (setB_lt (b := 1) H.n6 hy hv (by omega)))⟩
theorem applyR_v {h g : Nat → Rat} {n j k : Nat} {op : Int} (H : Vl h n j) (G : Vl g n k) (h1 : 1 ≤ op) (h5 : op ≤ 5) (hk : j + k + 1 ≤ 900) : applyR op n (dgV h n) n (dgV g n) = ((n : Int), dgV (opF op h g) n, 0) := by
  unfold applyR
  rw [H.vld, G.vld, Bool.and_self, if_pos rfl, if_pos ⟨h1, h5, rfl⟩, Int.toNat_natCast, ← cmbR_small (H.op op G hk)]
  exact cmbR_congr fun y hy => by rw [H.valD hy, G.valD hy]; rfl
theorem fixR_v {h : Nat → Rat} {n k v b : Nat} (H : Vl h n k) (hv : v < n) (hb : b ≤ 1) : fixR (v : Int) (b : Int) n (dgV h n) = ((n : Int), dgV (fixF v b h) n, 0) := by
  unfold fixR
  rw [H.vld, if_pos rfl, if_pos ⟨by omega, by omega, by omega, by omega⟩, Int.toNat_natCast, Int.toNat_natCast, Int.toNat_natCast]
  have e : madeN (fun y => Proofs.YtpmlmibceiolpaaGreatDoor.evD n (dgV h n) (setB y v b)) n = dgV (fixF v b h) n := madeN_congr fun y hy => H.evD (setB_lt H.n6 hy hv hb)
  rw [e]
theorem sumR_v {h : Nat → Rat} {n k v : Nat} (H : Vl h n k) (hv : v < n) (hk : k + k + 1 ≤ 900) : sumR (v : Int) n (dgV h n) = ((n : Int), dgV (sumF v h) n, 0) := by
  unfold sumR
  rw [H.vld, if_pos rfl, if_pos ⟨by omega, by omega⟩, Int.toNat_natCast, Int.toNat_natCast, ← cmbR_small (H.sum hv hk)]
  exact cmbR_congr fun y hy => by rw [H.valD (setB_lt H.n6 hy hv (by omega)), H.valD (setB_lt H.n6 hy hv (by omega))]; rfl

/-- A draft's numbers. -/
def dtV (kd : Nat) (zs : List Nat) (y : Nat) : Rat := rval (dtN kd zs y)
theorem dtN_text (kd : Nat) (zs : List Nat) (i : Nat) : dtN kd zs i = ratText (dtV kd zs i) := rerr_canon (by rw [(dtN_ok kd zs i).1]; omega)
theorem tabD_at {kd n y : Nat} {zs : List Nat} (hy : y < 2 ^ n) : (tabD kd zs n).getD y [] = dtN kd zs y := by
  unfold tabD
  rw [List.getD_eq_getElem?_getD, List.getElem?_map, List.getElem?_range hy]; rfl
theorem tabD_dg (kd n : Nat) (zs : List Nat) : dgN (tabD kd zs n) n = dgV (dtV kd zs) n := madeN_congr fun y hy => by rw [tabD_at hy, dtN_text]
theorem fits_text {l : List UInt8} (h : rerr l = 0) (k : Nat) (hk : l.length ≤ k) : fitsD k (rval l) := by
  have h1 := rerr_canon (l := l) (by omega)
  generalize rval l = x at *
  subst h1
  have hn : Lib.nDigits x.num.natAbs ≤ (Lib.itoa x.num).length := by
    unfold Lib.itoa
    split
    · rw [List.length_cons, Lib.decDigits_length]; omega
    · rw [Lib.decDigits_length, show x.num.natAbs = x.num.toNat by omega]; exact Nat.le_refl _
  unfold ratText at hk
  rw [List.length_append] at hk
  refine ⟨by omega, ?_⟩
  split at hk
  · rename_i h2
    rw [h2]
    have : Lib.nDigits 1 = 1 := by decide +kernel
    have h3 := Lib.nDigits_pos x.num.natAbs
    omega
  · rw [List.length_cons, Lib.decDigits_length] at hk
    omega
theorem dtV_vl (kd n : Nat) (zs : List Nat) (hn : n ≤ 6) : Vl (dtV kd zs) n 4 := ⟨hn, by omega, fun y _ => fits_text (dtN_ok kd zs y).1 4 (dtN_ok kd zs y).2⟩

/-! The laws. -/
theorem op_comm {op : Int} (h : op = 1 ∨ op = 3) (f g : Nat → Rat) : opF op f g = opF op g f := by
  funext y
  rcases h with rfl | rfl
  · exact Rat.add_comm ..
  · exact Rat.mul_comm ..
theorem op_assoc {op : Int} (h : op = 1 ∨ op = 3) (f g u : Nat → Rat) : opF op (opF op f g) u = opF op f (opF op g u) := by
  funext y
  rcases h with rfl | rfl
  · exact Rat.add_assoc ..
  · exact Rat.mul_assoc ..
theorem op_undo (f g : Nat → Rat) : opF 2 (opF 1 f g) g = f := by
  funext y
  show f y + g y - g y = f y
  rw [Rat.sub_eq_add_neg, Rat.add_assoc, Rat.add_neg_cancel, Rat.add_zero]
theorem sum_both (v : Nat) (f : Nat → Rat) : opF 1 (fixF v 0 f) (fixF v 1 f) = sumF v f := rfl
theorem pow6 {n : Nat} (h : n ≤ 6) : 2 ^ n ≤ 64 := Nat.pow_le_pow_right (show 2 > 0 by omega) h
theorem sum_swap {n i j : Nat} (hn : n ≤ 6) (hi : i < n) (hj : j < n) (f : Nat → Rat) : dgV (sumF j (sumF i f)) n = dgV (sumF i (sumF j f)) n := by
  by_cases e : i = j
  · rw [e]
  refine dgV_congr fun y hy => ?_
  have h6 : y < 64 := Nat.lt_of_lt_of_le hy (pow6 hn)
  have c := fun a b (ha : a < 2) (hb : b < 2) => setB_comm6 (i := i) (j := j) (a := a) (b := b) h6 (by omega) (by omega) e ha hb
  unfold sumF
  rw [c 0 0 (by omega) (by omega), c 1 0 (by omega) (by omega), c 0 1 (by omega) (by omega), c 1 1 (by omega) (by omega)]
  rw [Rat.add_assoc, Rat.add_assoc]
  congr 1
  rw [← Rat.add_assoc, ← Rat.add_assoc]
  congr 1
  exact Rat.add_comm ..
theorem fix_free {n v b : Nat} (hn : n ≤ 6) (hv : v < n) (hb : b ≤ 1) (f : Nat → Rat) {i : Nat} (hi : i < (dgV (fixF v b f) n).length) : ((dgV (fixF v b f) n).getD i nd0).1 ≠ (v : Int) :=
  made_free hv (fun y hy ht => by
    have h6 : y < 64 := Nat.lt_of_lt_of_le hy (pow6 hn)
    unfold fixF
    rw [setB_free6 y h6 v (by omega) ht b (by omega)]) hi
theorem sum_free {n v : Nat} (hn : n ≤ 6) (hv : v < n) (f : Nat → Rat) {i : Nat} (hi : i < (dgV (sumF v f) n).length) : ((dgV (sumF v f) n).getD i nd0).1 ≠ (v : Int) :=
  made_free hv (fun y hy ht => by
    have h6 : y < 64 := Nat.lt_of_lt_of_le hy (pow6 hn)
    unfold sumF
    rw [setB_free6 y h6 v (by omega) ht 0 (by omega), setB_free6 y h6 v (by omega) ht 1 (by omega)]) hi
end Go.Proofs.YtpmlmibceiolpaaGreatDoor
