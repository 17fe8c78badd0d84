/- The known answers on diagrams, reckoned: the chapter's examples, the errors, the limit of numbers. -/
import Derived.Test.YtpmlmibceiolpaaGreatDoorGVals
set_option linter.unusedSimpArgs false
set_option linter.unusedVariables false
namespace Go.Proofs.YtpmlmibceiolpaaGreatDoor
open Go.RowKit
open Go.Lib (decDigits itoa nDigits)

def TE : List (List UInt8) := [[53], [53]]
def LE : List Nd := [(1, 0, 0, [53])]
def TF : List (List UInt8) := [[55]]
def LF : List Nd := [(0, 0, 0, [55])]
def TH : List (List UInt8) := [[48], [49]]
def TR : List (List UInt8) := [[48], [48, 48]]
def T1 : List (List UInt8) := [[49, 48], [49]]
theorem kn_e : ofR 1 TE = (1, LE, 0) := Prod.ext (by decide +kernel) (Prod.ext (by decide +kernel) (by decide +kernel))
theorem kn_f : ofR 0 TF = (0, LF, 0) := Prod.ext (by decide +kernel) (Prod.ext (by decide +kernel) (by decide +kernel))
theorem kn_s : sumR 0 2 LD = (2, LC, 0) := Prod.ext (by decide +kernel) (Prod.ext (by decide +kernel) (by decide +kernel))
theorem kn_h : ofR 2 TH = (0, [], 2) := Prod.ext (by decide +kernel) (Prod.ext (by decide +kernel) (by decide +kernel))
theorem kn_i : applyR 6 2 LD 2 LD = (0, [], 2) := Prod.ext (by decide +kernel) (Prod.ext (by decide +kernel) (by decide +kernel))
theorem kn_j : applyR 0 2 LD 2 LD = (0, [], 2) := Prod.ext (by decide +kernel) (Prod.ext (by decide +kernel) (by decide +kernel))
theorem kn_k : fixR 2 0 2 LD = (0, [], 2) := Prod.ext (by decide +kernel) (Prod.ext (by decide +kernel) (by decide +kernel))
theorem kn_l : fixR 0 2 2 LD = (0, [], 2) := Prod.ext (by decide +kernel) (Prod.ext (by decide +kernel) (by decide +kernel))
theorem kn_m : sumR (-1) 2 LD = (0, [], 2) := Prod.ext (by decide +kernel) (Prod.ext (by decide +kernel) (by decide +kernel))
theorem kn_n : applyR 1 2 LD 1 LE = (0, [], 2) := Prod.ext (by decide +kernel) (Prod.ext (by decide +kernel) (by decide +kernel))
theorem kn_o : evalR 2 LD 4 = ([], 2) := by decide +kernel
theorem kn_p : ofR (-1) [] = (0, [], 2) := Prod.ext (by decide +kernel) (Prod.ext (by decide +kernel) (by decide +kernel))
theorem kn_q : ofR 7 (List.replicate 128 []) = (0, [], 2) := Prod.ext (by decide +kernel) (Prod.ext (by decide +kernel) (by decide +kernel))
theorem kn_r : ofR 1 TR = (0, [], 5) := Prod.ext (by decide +kernel) (Prod.ext (by decide +kernel) (by decide +kernel))
theorem kn_z : evalR 2 LD 2 = ([48], 0) := by decide +kernel

/-! Diagrams that are none. -/
def LX1 : List Nd := [(0, 0, 0, [])]
def LX2 : List Nd := [(1, 0, 0, [48]), (1, 0, 0, [49])]
def LX3 : List Nd := [(1, 0, 0, [48]), (0, 0, 0, [])]
def LX4 : List Nd := [(1, 0, 0, [49]), (1, 0, 0, [48]), (0, 1, 0, [])]
def LX5 : List Nd := [(1, 0, 0, [48]), (1, 0, 0, [49]), (0, 0, 2, [])]
def LX6 : List Nd := [(7, 0, 0, [48])]
def LX7 : List Nd := [(-1, 0, 0, [48])]
theorem kx0 : vldN 0 [] = false := by decide +kernel
theorem kx1 : vldN 0 LX1 = false := by decide +kernel
theorem kx2 : vldN 1 LX2 = false := by decide +kernel
theorem kx3 : vldN 1 LX3 = false := by decide +kernel
theorem kx4 : vldN 1 LX4 = false := by decide +kernel
theorem kx5 : vldN 1 LX5 = false := by decide +kernel
theorem kx6 : vldN 7 LX6 = false := by decide +kernel
theorem kx7 : vldN (-1) LX7 = false := by decide +kernel
theorem bad_apply {op m m' : Int} {l l' : List Nd} (h : vldN m l = false) : applyR op m l m' l' = (0, [], 260) := by unfold applyR; rw [h]; rfl
theorem bad_apply2 {op m m' : Int} {l l' : List Nd} (h : vldN m' l' = false) : applyR op m l m' l' = (0, [], 260) := by unfold applyR; rw [h, Bool.and_false]; rfl
theorem bad_fix {v b m : Int} {l : List Nd} (h : vldN m l = false) : fixR v b m l = (0, [], 260) := by unfold fixR; rw [h]; rfl

/-! A number of 2000 digits. -/
def xP (k : Nat) : Rat := ((10 ^ k : Nat) : Rat)
def xB : Rat := xP 1999
def BIG : List UInt8 := 49 :: List.replicate 1999 48
def S1 : List (List UInt8) := [BIG, [49, 48]]
theorem nd_pow (k : Nat) : nDigits (10 ^ k) = k + 1 := Lib.nDigits_unique k (10 ^ k) (Nat.le_refl _) (by rw [Nat.pow_succ]; have := Nat.pow_pos (n := k) (show 0 < 10 by omega); omega)
theorem dec_pow : ∀ k : Nat, decDigits (10 ^ k) = 49 :: List.replicate k 48
  | 0 => by decide +kernel
  | k + 1 => by
    have hp := Nat.pow_pos (n := k) (show 0 < 10 by omega)
    rw [decDigits, dif_neg (by rw [Nat.pow_succ]; omega), Nat.pow_succ, Nat.mul_div_cancel _ (by omega), Nat.mul_mod_left, dec_pow k, List.replicate_succ']
    rfl
theorem xP_num (k : Nat) : (xP k).num = ((10 ^ k : Nat) : Int) ∧ (xP k).den = 1 := ⟨Rat.num_natCast _, Rat.den_natCast _⟩
theorem xP_text (k : Nat) : ratText (xP k) = 49 :: List.replicate k 48 := by
  obtain ⟨h1, h2⟩ := xP_num k
  unfold ratText
  rw [if_pos h2, h1, List.append_nil]
  unfold itoa
  rw [if_neg (Int.not_lt.2 (Int.natCast_nonneg _)), Int.toNat_natCast, dec_pow]
theorem xP_fit (k : Nat) : fitsD (k + 1) (xP k) := by
  obtain ⟨h1, h2⟩ := xP_num k
  refine ⟨?_, ?_⟩
  · rw [h1, Int.natAbs_natCast, nd_pow]; exact Nat.le_refl _
  · rw [h2, Lib.nDigits_small (by omega)]; omega
theorem xP_nofit (k : Nat) : ¬ fitsD (k + 1) (xP (k + 1)) := by
  intro h
  have h1 := h.1
  rw [(xP_num (k + 1)).1, Int.natAbs_natCast, nd_pow] at h1
  omega
theorem xP_ten (k : Nat) : xP k * 10 = xP (k + 1) := by
  unfold xP
  rw [Nat.pow_succ, Rat.natCast_mul]; rfl
theorem xP_gt (k : Nat) : (10 : Rat) < xP (k + 2) := by
  have h : ((10 : Nat) : Rat) < ((10 ^ (k + 2) : Nat) : Rat) := by
    rw [Rat.natCast_lt_natCast]
    have hp := Nat.pow_pos (n := k) (show 0 < 10 by omega)
    rw [Nat.pow_succ, Nat.pow_succ]; omega
  exact h
theorem big_text : ratText xB = BIG := xP_text 1999
theorem big_fit : fitsD 2000 xB := xP_fit 1999
theorem big_ok : rerr BIG = 0 := by rw [← big_text]; exact rerr_fit big_fit
theorem big_len : BIG.length = 2000 := by unfold BIG; rw [List.length_cons, List.length_replicate]
theorem big_val : rval BIG = xB := by rw [← big_text, rval_ratText]
theorem ten_val : rval [49, 48] = 10 := by decide +kernel
theorem one_val : rval [49] = 1 := by decide +kernel
theorem S1_tbl : Tbl S1 1 := ⟨by omega, rfl, fun q hq => by
    rcases List.mem_cons.1 hq with rfl | hq
    · exact big_ok
    · rw [List.mem_singleton] at hq; subst hq; decide +kernel,
  fun q hq => by
    rcases List.mem_cons.1 hq with rfl | hq
    · rw [big_len]; omega
    · rw [List.mem_singleton] at hq; subst hq; decide⟩
theorem T1_tbl : Tbl T1 1 := ⟨by omega, rfl, by decide +kernel, by decide +kernel⟩
theorem top_val {y : Nat} (hy : y < 2 ^ 1) : valD 1 (dgN S1 1) y = if y = 0 then xB else 10 := by
  unfold valD
  rw [S1_tbl.evD hy]
  have : y = 0 ∨ y = 1 := by omega
  rcases this with rfl | rfl
  · exact big_val
  · exact ten_val
theorem ten_vals {y : Nat} (hy : y < 2 ^ 1) : valD 1 (dgN T1 1) y = if y = 0 then 10 else 1 := by
  unfold valD
  rw [T1_tbl.evD hy]
  have : y = 0 ∨ y = 1 := by omega
  rcases this with rfl | rfl
  · exact ten_val
  · exact one_val
theorem big_nofit : ¬ fitsD 2000 (xB * 10) := by
  unfold xB
  rw [xP_ten]; exact xP_nofit 1999
theorem big_gt : (10 : Rat) < xB := xP_gt 1997
theorem kn_over : applyR 3 1 (dgN S1 1) 1 (dgN T1 1) = (0, [], 6) := by
  have hv := S1_tbl.vld
  have hw := T1_tbl.vld
  unfold applyR
  rw [show vldN 1 (dgN S1 1) = true from hv, show vldN 1 (dgN T1 1) = true from hw, Bool.and_self, if_pos rfl, if_pos ⟨by omega, by omega, rfl⟩]
  unfold cmbR
  rw [if_pos]
  unfold bigB
  rw [List.any_eq_true]
  refine ⟨0, List.mem_range.2 (by decide), ?_⟩
  have h1 : valD 1 (dgN S1 1) 0 = xB := top_val (by omega)
  have h2 : valD 1 (dgN T1 1) 0 = 10 := ten_vals (by omega)
  show (!decide (fitsD 2000 (opR 3 (valD 1 (dgN S1 1) 0) (valD 1 (dgN T1 1) 0)))) = true
  rw [h1, h2, decide_eq_false (show ¬ fitsD 2000 (opR 3 xB 10) from big_nofit)]; rfl
theorem opR5 (x y : Rat) : opR 5 x y = if y < x then y else x := rfl
theorem kn_least : applyR 5 1 (dgN S1 1) 1 (dgN T1 1) = (1, dgN T1 1, 0) := by
  have hv := S1_tbl.vld
  have hw := T1_tbl.vld
  unfold applyR
  rw [show vldN 1 (dgN S1 1) = true from hv, show vldN 1 (dgN T1 1) = true from hw, Bool.and_self, if_pos rfl, if_pos ⟨by omega, by omega, rfl⟩]
  have hc := cmbR_congr (n := 1) (h := fun y => opR 5 (valD 1 (dgN S1 1) y) (valD 1 (dgN T1 1) y)) (g := fun y => rval (T1.getD y [])) (fun y hy => by
    rw [top_val hy, ten_vals hy]
    have : y = 0 ∨ y = 1 := by omega
    rcases this with rfl | rfl
    · rw [if_pos rfl, if_pos rfl, opR5, if_pos big_gt]
      exact ten_val.symm
    · rw [if_neg (by omega), if_neg (by omega), opR5, if_pos (by decide +kernel)]
      exact one_val.symm)
  have hV : Vl (fun y => rval (T1.getD y [])) 1 2 := ⟨by omega, by omega, fun y hy => by
    have : y = 0 ∨ y = 1 := by omega
    rcases this with rfl | rfl
    · exact fits_text (l := [49, 48]) (by decide +kernel) 2 (by decide)
    · exact fits_text (l := [49]) (by decide +kernel) 2 (by decide)⟩
  have e : dgV (fun y => rval (T1.getD y [])) 1 = dgN T1 1 := madeN_congr fun y hy => (rerr_canon (l := T1.getD y []) (by rw [T1_tbl.ok _ (T1_tbl.at hy)]; omega)).symm
  have h3 := hc.trans (cmbR_small hV)
  rw [e] at h3
  exact h3
theorem rep_big : (49 : UInt8) :: Lib.repeatL [48] 1999 = BIG := by
  have h := Lib.repeatL_replicate 48 1 1999
  unfold BIG
  rw [← h]; rfl
end Go.Proofs.YtpmlmibceiolpaaGreatDoor
