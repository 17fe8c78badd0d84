/- The reference's quotient, its roundings and its decimal, and the check of an integer's text. -/
import Derived.Test.YtabdnjakmhnnfaaGreatDoorQFull
import Derived.Test.YtabdnjakmhnnfaaGreatDoorQField
import Derived.Test.YtabdnjakmhnnfaaGreatDoorR2c
set_option linter.unusedSimpArgs false
set_option linter.unusedVariables false
namespace Go.Proofs.YtabdnjakmhnnfaaGreatDoor
open Go.RowKit
open Go.Lib (decDigits itoa nDigits)
open D4 (rt it Mid Sm)

theorem inv_make (x : Rat) : Rat.divInt x.den x.num = 1 / x := by rw [Rat.div_def, Rat.one_mul, Rat.inv_def]
theorem inv_fits {k : Nat} {x : Rat} (hx : fitsD k x) (h0 : x.num ≠ 0) : fitsD k (1 / x) := by
  rw [← inv_make]
  exact ⟨Nat.le_trans (D4.nDigits_mono (D4.divInt_num_le _ _)) (by rw [Int.natAbs_natCast]; exact hx.2), Nat.le_trans (D4.nDigits_mono (D4.divInt_den_le _ h0)) hx.1⟩
theorem floor_digits {k : Nat} {x : Rat} (hx : fitsD k x) : nDigits x.floor.natAbs ≤ k := by
  rw [← rat_floor]
  refine Nat.le_trans (D4.nDigits_mono ?_) hx.1
  rw [Int.fdiv_eq_ediv_of_nonneg _ (show (0 : Int) ≤ (x.den : Int) by omega)]
  exact Int.natAbs_ediv_le_natAbs _ _

set_option maxHeartbeats 4000000 in
theorem div2_rt {w : World} {x y : Rat} (hx : Mid x) (hy : Mid y) (h0 : y ≠ 0) (hg : Good w) : Calls Tryz.prog 33 #[.string (rt x), .string (rt y)] w (RetV w (.string (rt (x / y)))) := by
  have hn : y.num ≠ 0 := fun h => h0 (by rwa [Rat.num_eq_zero] at h)
  have H1 := Lib.hid (fun (V : World) => D4.parts_rt (w := V) hy.big)
  have H2 := Lib.hid (fun (V : World) (hV : Good V) => D4.rmake_any (w := V) (y.den : Int) y.num (by rw [Int.natAbs_natCast]; exact hy.big.2) hy.big.1 hn hV)
  rw [inv_make] at H2
  have H3 := Lib.hid (fun (V : World) (hV : Good V) => D4.mul_rt (w := V) hx (show Mid (1 / y) from inv_fits hy hn) hV)
  have e : x * (1 / y) = x / y := by rw [Rat.div_def, Rat.one_mul, Rat.div_def]
  rw [e] at H3
  have HG := Lib.hid (fun (V : World) (hV : Below w.heap.size w V) => hg.below hV)
  have HB0 := Lib.hid (Below.refl w.heap.size w)
  generalize rt (x / y) = R at *
  generalize rt (1 / y) = Q at *
  generalize it y.num = A at *
  generalize it (y.den : Int) = B at *
  generalize rt x = S at *
  generalize rt y = T at *
  clear hx hy hg e hn h0
  go_enter Tryz.func33, Tryz.ntmps33
  go_wp2_with fail
  refine (H1.out _).mono ?_
  rintro e V ⟨rfl, kk⟩
  have K1 := Lib.hid (next_below HB0.out kk)
  clear kk
  go_wp2_with fail
  refine (H2.out _ (HG.out _ K1.out)).mono ?_
  rintro e V ⟨rfl, kk⟩
  have K2 := Lib.hid (next_below K1.out kk)
  clear kk
  go_wp2_with fail
  refine (H3.out _ (HG.out _ K2.out)).mono ?_
  rintro e V ⟨rfl, kk⟩
  have K3 := Lib.hid (next_below K2.out kk)
  clear kk
  go_wp2
  go_ret
  exact ⟨rfl, K3.out⟩

set_option maxHeartbeats 4000000 in
theorem floor2_rt {w : World} {x : Rat} (hx : fitsD 40000 x) (hg : Good w) : Calls Tryz.prog 41 #[.string (rt x)] w (RetV w (.string (it x.floor))) := by
  have H1 := Lib.hid (fun (V : World) => D4.parts_rt (w := V) hx)
  have H2 := Lib.hid (fun (V : World) (hV : Good V) => D4.div_it (w := V) x.num x.den hx.1 (D4.den_fit x hx) (den_ne x) hV)
  rw [rat_floor] at H2
  have HG := Lib.hid (fun (V : World) (hV : Below w.heap.size w V) => hg.below hV)
  have HB0 := Lib.hid (Below.refl w.heap.size w)
  generalize it x.floor = R at *
  generalize it (x.num.fmod x.den) = Q at *
  generalize it x.num = A at *
  generalize it (x.den : Int) = B at *
  generalize rt x = S at *
  clear hx hg
  go_enter Tryz.func41, Tryz.ntmps41
  go_wp2_with fail
  refine (H1.out _).mono ?_
  rintro e V ⟨rfl, kk⟩
  have K1 := Lib.hid (next_below HB0.out kk)
  clear kk
  go_wp2_with fail
  refine (H2.out _ (HG.out _ K1.out)).mono ?_
  rintro e V ⟨rfl, kk⟩
  have K2 := Lib.hid (next_below K1.out kk)
  clear kk
  go_wp2
  go_ret
  exact ⟨rfl, K2.out⟩

set_option maxHeartbeats 4000000 in
theorem ceil2_rt {w : World} {x : Rat} (hx : fitsD 40000 x) (hg : Good w) : Calls Tryz.prog 42 #[.string (rt x)] w (RetV w (.string (it (-((-x).floor))))) := by
  have hn : fitsD 40000 (-x) := ⟨by rw [Rat.neg_num, Int.natAbs_neg]; exact hx.1, by rw [Rat.neg_den]; exact hx.2⟩
  have hd := floor_digits hn
  have H1 := Lib.hid (fun (V : World) (hV : Good V) => D4.neg_rt (w := V) hx hV)
  have H2 := Lib.hid (fun (V : World) (hV : Good V) => floor2_rt (w := V) hn hV)
  have H3 := Lib.hid (fun (V : World) => D4.neg_it (w := V) ((-x).floor) (Nat.le_trans hd (by omega)))
  have HG := Lib.hid (fun (V : World) (hV : Below w.heap.size w V) => hg.below hV)
  have HB0 := Lib.hid (Below.refl w.heap.size w)
  generalize it (-((-x).floor)) = R at *
  generalize it ((-x).floor) = Q at *
  generalize rt (-x) = A at *
  generalize rt x = S at *
  clear hx hg hn hd
  go_enter Tryz.func42, Tryz.ntmps42
  go_wp2_with fail
  refine (H1.out _ (HG.out _ HB0.out)).mono ?_
  rintro e V ⟨rfl, kk⟩
  have K1 := Lib.hid (next_below HB0.out kk)
  clear kk
  go_wp2_with fail
  refine (H2.out _ (HG.out _ K1.out)).mono ?_
  rintro e V ⟨rfl, kk⟩
  have K2 := Lib.hid (next_below K1.out kk)
  clear kk
  go_wp2_with fail
  refine (H3.out _).mono ?_
  rintro e V ⟨rfl, kk⟩
  have K3 := Lib.hid (next_below K2.out kk)
  clear kk
  go_wp2
  go_ret
  exact ⟨rfl, K3.out⟩

set_option maxHeartbeats 4000000 in
theorem check1_any {w : World} (l : List UInt8) (hl : l.length ≤ 39000) : Calls Tryz.prog 45 #[.string ⟨l.toArray⟩] w (RetV w (.int .i64 (wcheck l))) := by
  have H1 := Lib.hid (D4.right1_any (w := w) l (by omega))
  have HB0 := Lib.hid (Below.refl w.heap.size w)
  rcases wcheck_vals l with h5 | ⟨n, hn, hs, he⟩
  · rw [h5] at H1 ⊢
    rw [show decide ((5 : Int) ≠ 5) = false from rfl] at H1
    clear hl h5
    generalize (⟨l.toArray⟩ : ByteArray) = S at *
    go_enter Tryz.func45, Tryz.ntmps45
    go_wp2_with fail
    refine (H1.out).mono ?_
    rintro e V ⟨rfl, kk⟩
    have K1 := Lib.hid (next_below HB0.out kk)
    clear kk
    go_wp2
    go_ret
    exact ⟨rfl, K1.out⟩
  · have hd : nDigits n.natAbs ≤ 39000 := by
      have h1 := D4.itoa_len2 n
      rw [← hn] at h1
      omega
    have e : decide (wcheck l ≠ 5) = true := by rw [he]; split <;> simp
    rw [e] at H1
    rw [he]
    have H2 := Lib.hid (fun (V : World) => D4.digits_it (w := V) n (show nDigits n.natAbs ≤ 100000 by omega))
    have hs2 : (⟨l.toArray⟩ : ByteArray) = it n := by rw [hn]; rfl
    rw [hs2] at H1 ⊢
    generalize nDigits n.natAbs = d at *
    generalize it n = S at *
    clear hl hn hs he e hs2
    by_cases hb : 2000 < d
    · rw [if_pos hb]
      have hb2 : (2000 : Int) < (d : Int) := by omega
      go_enter Tryz.func45, Tryz.ntmps45
      go_wp2_with fail
      refine (H1.out).mono ?_
      rintro e V ⟨rfl, kk⟩
      have K1 := Lib.hid (next_below HB0.out kk)
      clear kk
      go_wp2_with fail
      refine (H2.out _).mono ?_
      rintro e V ⟨rfl, kk⟩
      have K2 := Lib.hid (next_below K1.out kk)
      clear kk
      go_wp2
      go_ret
      exact ⟨rfl, K2.out⟩
    · rw [if_neg hb]
      have hb2 : ¬ ((2000 : Int) < (d : Int)) := by omega
      go_enter Tryz.func45, Tryz.ntmps45
      go_wp2_with fail
      refine (H1.out).mono ?_
      rintro e V ⟨rfl, kk⟩
      have K1 := Lib.hid (next_below HB0.out kk)
      clear kk
      go_wp2_with fail
      refine (H2.out _).mono ?_
      rintro e V ⟨rfl, kk⟩
      have K2 := Lib.hid (next_below K1.out kk)
      clear kk
      go_wp2
      go_ret
      exact ⟨rfl, K2.out⟩

theorem nil_app (x : ByteArray) : (⟨#[]⟩ : ByteArray) ++ x = x := by apply ByteArray.ext; simp [ByteArray.data_append]
/-- One and noughts. -/
def tenB (i : Nat) : ByteArray := ⟨(49 :: List.replicate i 48).toArray⟩
theorem tenB_size (i : Nat) : (tenB i).size = i + 1 := by unfold tenB; rw [ba_size]; simp
theorem tenB_succ (i : Nat) : tenB i ++ ⟨#[48]⟩ = tenB (i + 1) := by
  apply ByteArray.ext
  simp [ByteArray.data_append, tenB, List.replicate_succ']
theorem tenB_rt (p : Nat) : tenB p = rt ((10 ^ p : Nat) : Rat) := by
  have h1 : tenB p = ⟨(sgnd false (49 :: List.replicate p 48)).toArray⟩ := by rw [← ten_text, repeat_zero]; apply ByteArray.ext; simp [ByteArray.data_append, tenB]
  have h2 : wcheck (49 :: List.replicate p 48) ≠ 5 := by
    have hc := D4.wcheck_ok (l := 49 :: List.replicate p 48) (by simp) (c := 49) (r := List.replicate p 48) (D4.unsgn_plain (by decide)) (by decide)
    rw [all_dig (dig_ten p)] at hc
    simpa using hc
  have h3 := wcheck_canon h2
  have h4 : sread (49 :: List.replicate p 48) = ((10 ^ p : Nat) : Int) := by
    have := sread_sgnd (neg := false) (dig_ten p)
    rw [rd_ten] at this
    exact this
  rw [h4] at h3
  rw [D4.rt_one (by simp)]
  unfold tenB it
  rw [h3]
  simp
/-- Noughts ahead of digits. -/
def padB (m j : Nat) : ByteArray := ⟨(List.replicate j 48 ++ decDigits m).toArray⟩
theorem padB_size (m j : Nat) : (padB m j).size = j + (decDigits m).length := by unfold padB; rw [ba_size]; simp
theorem padB_succ (m j : Nat) : (⟨#[48]⟩ : ByteArray) ++ padB m j = padB m (j + 1) := by
  apply ByteArray.ext
  simp [ByteArray.data_append, padB, List.replicate_succ]
theorem it_pos {n : Int} (h : ¬ n < 0) : it n = padB n.natAbs 0 := by
  have e : n = ((n.natAbs : Nat) : Int) := by omega
  unfold it padB
  conv => lhs; rw [e, itoa_nat]
  simp
theorem it_neg {n : Int} (h : n < 0) : it (-n) = padB n.natAbs 0 := by
  rw [it_pos (by omega), Int.natAbs_neg]


set_option maxHeartbeats 16000000 in
set_option maxRecDepth 100000 in
theorem dec2_rt {w : World} {x : Rat} (p : Nat) (hp : p ≤ 100) (hx : fitsD 2000 x) (hg : Good w) : Calls Tryz.prog 43 #[.string (rt x), .int .i64 p] w (RetV w (.string (decT x p))) := by
  have ft : fitsD 101 ((10 ^ p : Nat) : Rat) := by
    have hlt : 10 ^ p < 10 ^ (100 + 1) := Nat.pow_lt_pow_right (by omega) (by omega)
    refine ⟨?_, ?_⟩
    · rw [show ((10 ^ p : Nat) : Rat).num = ((10 ^ p : Nat) : Int) by simp, Int.natAbs_natCast]
      exact D4.nDigits_le (d := 100) hlt
    · rw [show ((10 ^ p : Nat) : Rat).den = 1 by simp]; decide +kernel
  have hm : Mid x := ⟨Nat.le_trans hx.1 (by omega), Nat.le_trans hx.2 (by omega)⟩
  have ht : Mid ((10 ^ p : Nat) : Rat) := ⟨Nat.le_trans ft.1 (by omega), Nat.le_trans ft.2 (by omega)⟩
  have fm : fitsD 2101 (x * ((10 ^ p : Nat) : Rat)) := fits_up (fits_mul hx ft) (by omega)
  have H1 := Lib.hid (fun (V : World) (hV : Good V) => D4.mul_rt (w := V) hm ht hV)
  rw [← tenB_rt] at H1
  have H2 := Lib.hid (fun (V : World) (hV : Good V) => floor2_rt (w := V) (x := x * ((10 ^ p : Nat) : Rat)) ⟨Nat.le_trans fm.1 (by omega), Nat.le_trans fm.2 (by omega)⟩ hV)
  have hd := floor_digits fm
  have hM : (x * ((10 ^ p : Nat) : Rat)).floor = decM x p := rfl
  rw [hM] at H2 hd
  have H3 := Lib.hid (fun (V : World) => D4.sign_it (w := V) (decM x p))
  have H4 := Lib.hid (fun (V : World) => D4.neg_it (w := V) (decM x p) (show nDigits _ ≤ 100000 by omega))
  have HG := Lib.hid (fun (V : World) (hV : Below w.heap.size w V) => hg.below hV)
  have HB0 := Lib.hid (Below.refl w.heap.size w)
  have hdl : (decDigits (decM x p).natAbs).length ≤ 2101 := by rw [Lib.decDigits_length]; exact hd
  obtain ⟨c2, hc2⟩ : ∃ c2, c2 = p + 1 - (decDigits (decM x p).natAbs).length := ⟨_, rfl⟩
  have hc3 : p + 1 ≤ c2 + (decDigits (decM x p).natAbs).length := by omega
  have hc4 : c2 = 0 ∨ c2 + (decDigits (decM x p).natAbs).length ≤ p + 1 := by omega
  have PS := Lib.hid (padB_size (decM x p).natAbs)
  have PN := Lib.hid (padB_succ (decM x p).natAbs)
  have TS := Lib.hid tenB_size
  have TN := Lib.hid tenB_succ
  have T0 := Lib.hid (show tenB 0 = ⟨#[49]⟩ from rfl)
  have hpad : decD (decM x p).natAbs p = padB (decM x p).natAbs c2 := by unfold decD padB; rw [hc2]
  clear hc2
  have hres : decT x p = if decM x p < 0 then ⟨#[45]⟩ ++ decP (padB (decM x p).natAbs c2) p else decP (padB (decM x p).natAbs c2) p := by unfold decT; rw [hpad]
  have ep := @it_pos (decM x p)
  have en := @it_neg (decM x p)
  generalize (decDigits (decM x p).natAbs).length = dl at *
  generalize padB (decM x p).natAbs = PAD at *
  generalize tenB = TEN at *
  generalize rt (x * ((10 ^ p : Nat) : Rat)) = XT at *
  generalize rt x = S at *
  by_cases hneg : decM x p < 0
  · rw [if_pos hneg] at hres
    have hs : (decM x p).sign = -1 := Int.sign_eq_neg_one_of_neg hneg
    rw [hs] at H3
    rw [en hneg] at H4
    rw [hres]
    unfold decP
    obtain ⟨RES, hRES⟩ : ∃ RES : ByteArray, RES = (⟨#[45]⟩ : ByteArray) ++ (if p = 0 then PAD c2 else (PAD c2).extract 0 ((PAD c2).size - p) ++ ⟨#[46]⟩ ++ (PAD c2).extract ((PAD c2).size - p) (PAD c2).size) := ⟨_, rfl⟩
    rw [← hRES]
    have HRS := Lib.hid hRES
    generalize it (decM x p) = M at *
    clear hRES hres hs ep en hpad hM hd fm ft hm ht hx hg hneg
    go_enter Tryz.func43, Tryz.ntmps43
    go_upto_region 3 with fail
    rw [← T0.out]
    go_loopg [5, 6] p (fun gk u5 u6 wr => ∃ i : Nat, u5 = .string (TEN i) ∧ u6 = .int .i64 (i : Int) ∧ i + gk = p ∧ Hid (Below w.heap.size w wr))
    case atStart => exact ⟨0, rfl, rfl, by omega, HB0⟩
    case round =>
      obtain ⟨i, rfl, rfl, hi, hK⟩ := hrel
      by_cases hz : i < p
      · have hz2 : (i : Int) < (p : Int) := by omega
        have z1 : (TEN i).size ≤ 1000000 := by rw [TS.out]; omega
        have TNI := Lib.hid (TN.out i)
        go_wp2
        go_roundg (gk - 1)
        case rel => exact ⟨i + 1, by rw [← TNI.out], by go_num, by omega, hK⟩
        case measure => omega
      · obtain rfl : p = i := by omega
        clear hz T0 TN TS
        have hB := hK
        go_wp2_with fail
        refine (H1.out _ (HG.out _ hB.out)).mono ?_
        rintro e V ⟨rfl, kk⟩
        have K1 := Lib.hid (next_below hB.out kk)
        clear kk H1
        go_wp2_with fail
        refine (H2.out _ (HG.out _ K1.out)).mono ?_
        rintro e V ⟨rfl, kk⟩
        have K2 := Lib.hid (next_below K1.out kk)
        clear kk H2
        go_wp2_with fail
        refine (H3.out _).mono ?_
        rintro e V ⟨rfl, kk⟩
        have K3 := Lib.hid (next_below K2.out kk)
        clear kk H3 hK hB hi HG HB0 K1 K2
        go_upto_region 10 with fail
        go_wp2_with fail
        refine (H4.out _).mono ?_
        rintro e V ⟨rfl, kk⟩
        have K4 := Lib.hid (next_below K3.out kk)
        clear kk H4
        go_upto_region 11 with fail
        go_loopg [7] c2 (fun gk u7 wr => ∃ j : Nat, u7 = .string (PAD j) ∧ j + gk = c2 ∧ Hid (Below w.heap.size w wr))
        case atStart => exact ⟨0, rfl, by omega, K4⟩
        case round =>
          obtain ⟨j, rfl, hj, hK⟩ := hrel
          have z1 := PS.out j
          by_cases hjc : j < c2
          · have z2 : ((PAD j).size : Int) ≤ (p : Int) := by omega
            have z3 : (PAD j).size ≤ 1000000 := by omega
            have PSN := Lib.hid (PN.out j)
            clear z1
            go_wp2
            go_roundg (gk - 1)
            case rel => exact ⟨j + 1, by rw [← PSN.out], by omega, hK⟩
            case measure => omega
          · obtain rfl : c2 = j := by omega
            have z2 : ¬ (((PAD c2).size : Int) ≤ (p : Int)) := by omega
            have HR := HRS.out
            have z4 : (PAD c2).size = c2 + dl := z1
            clear z1
            rcases Nat.eq_zero_or_pos p with hz | hz
            · subst hz
              have z5 : (PAD c2).size ≤ 2000000 := by omega
              have z6 : ¬ (((PAD c2).size : Int) ≤ 0) := by omega
              have z7 : (PAD c2).size ≠ 0 := by omega
              clear z2
              have HR2 := Lib.hid HR
              have Z4 := Lib.hid z4
              clear HR z4
              go_wp2
              go_ret
              exact ⟨by rw [HR2.out]; simp [nil_app], hK.out⟩
            · have hz1 : (0 : Int) < (p : Int) := by omega
              have hz2 : p ≠ 0 := by omega
              rw [if_neg hz2] at HR
              generalize PAD c2 = E2 at *
              obtain ⟨kk, hkk⟩ : ∃ kk, kk = E2.size - p := ⟨_, rfl⟩
              rw [← hkk] at HR
              have HR2 := Lib.hid HR
              have hk1 : (E2.size : Int) - (p : Int) = (kk : Int) := by omega
              have hk2 : kk ≤ E2.size := by omega
              have hk3 : E2.size ≤ 2000000 := by omega
              clear z4 hkk HR
              have hX1 : (E2.extract 0 kk).size ≤ 2000000 := by rw [ByteArray.size_extract]; omega
              have hX2 : (E2.extract kk E2.size).size ≤ 2000000 := by rw [ByteArray.size_extract]; omega
              go_upto_region 15 with fail
              have hB0 : Below wr.heap.size wr wr.drew := (Below.refl _ _).drew
              have hX3 : ((⟨#[45]⟩ : ByteArray) ++ E2.extract 0 kk).size ≤ 2000001 := by simp only [ByteArray.size_append]; have h1 : (⟨#[45]⟩ : ByteArray).size = 1 := rfl; have h0 : (⟨#[]⟩ : ByteArray).size = 0 := rfl; omega
              have hX4 : (((⟨#[45]⟩ : ByteArray) ++ E2.extract 0 kk) ++ ⟨#[46]⟩).size ≤ 2000002 := by rw [ByteArray.size_append]; have h1 : (⟨#[46]⟩ : ByteArray).size = 1 := rfl; omega
              refine wp_region_list 16 (by kernel_rfl) (by kernel_rfl) [] [fun v _ => v = .string ⟨#[45]⟩, fun v _ => v = .string E2, fun v _ => v = .string E2, fun v _ => v = .int .i64 (E2.size : Int), fun v _ => v = .int .i64 (p : Int), fun v _ => v = .int .i64 (kk : Int), fun v _ => v = .string (E2.extract 0 kk), fun v _ => v = .string ((⟨#[45]⟩ : ByteArray) ++ E2.extract 0 kk), fun v _ => v = .string (((⟨#[45]⟩ : ByteArray) ++ E2.extract 0 kk) ++ ⟨#[46]⟩), fun v _ => v = .string E2, fun v _ => v = .string E2, fun v _ => v = .int .i64 (E2.size : Int), fun v _ => v = .int .i64 (p : Int), fun v _ => v = .int .i64 (kk : Int), fun v _ => v = .string (E2.extract kk E2.size), fun v _ => v = .string ((((⟨#[45]⟩ : ByteArray) ++ E2.extract 0 kk) ++ ⟨#[46]⟩) ++ E2.extract kk E2.size)] (by simp only [List.take_succ_cons, List.take_zero]; rfl) (by simp only [List.drop_succ_cons, List.drop_zero]; rfl) (fun vals => by simp only [fam, Act.put, List.setIfInBounds_toArray, List.set_cons_zero, List.set_cons_succ, if_true]; rfl) (by repeat' (first | exact Stab.eq _ _ | exact Stab.wh _ _ | exact Stab.nm _ _ | exact Stab.new _ _ | exact Stab.newn _ _ | exact Stab.tw _ _ _ | exact Stab.lm _ _ _ | exact Stab.onet _ _ _ | exact trivial | apply And.intro)) trivial ?_ ?_
              · refine ⟨?_, ?_, ?_, ?_, ?_, ?_, ?_, ?_, ?_, ?_, ?_, ?_, ?_, ?_, ?_, ?_, trivial⟩
                all_goals
                  intro vals w3 hB hp
                  dsimp only
                  (try simp [preOk, Region.binds, q_anygc, q_anytext] at hp)
                case refine_4 =>
                  have a0 := hp
                  generalize vals 2 = v2 at *
                  subst a0
                  go_wp2
                  (first | exact ⟨rfl, _, rfl, rfl, Below.refl _ _, trivial⟩ | (refine ⟨rfl, _, ?_, rfl, Below.refl _ _, trivial⟩; simp only [Act.put, List.setIfInBounds_toArray, List.set_cons_zero, List.set_cons_succ, hp]))
                case refine_6 =>
                  obtain ⟨a0, a1⟩ := hp
                  generalize vals 3 = v3 at *
                  subst a0
                  generalize vals 4 = v4 at *
                  subst a1
                  go_wp2
                  (first | exact ⟨rfl, _, rfl, rfl, Below.refl _ _, trivial⟩ | (refine ⟨rfl, _, ?_, rfl, Below.refl _ _, trivial⟩; simp only [Act.put, List.setIfInBounds_toArray, List.set_cons_zero, List.set_cons_succ, hp]))
                case refine_7 =>
                  obtain ⟨a0, a1⟩ := hp
                  generalize vals 1 = v1 at *
                  subst a0
                  generalize vals 5 = v5 at *
                  subst a1
                  go_wp2
                  (first | exact ⟨rfl, _, rfl, rfl, Below.refl _ _, trivial⟩ | (refine ⟨rfl, _, ?_, rfl, Below.refl _ _, trivial⟩; simp only [Act.put, List.setIfInBounds_toArray, List.set_cons_zero, List.set_cons_succ, hp]))
                case refine_8 =>
                  obtain ⟨a0, a1⟩ := hp
                  generalize vals 0 = v0 at *
                  subst a0
                  generalize vals 6 = v6 at *
                  subst a1
                  go_wp2
                  (first | exact ⟨rfl, _, rfl, rfl, Below.refl _ _, trivial⟩ | (refine ⟨rfl, _, ?_, rfl, Below.refl _ _, trivial⟩; simp only [Act.put, List.setIfInBounds_toArray, List.set_cons_zero, List.set_cons_succ, hp]))
                case refine_9 =>
                  have a0 := hp
                  generalize vals 7 = v7 at *
                  subst a0
                  go_wp2
                  (first | exact ⟨rfl, _, rfl, rfl, Below.refl _ _, trivial⟩ | (refine ⟨rfl, _, ?_, rfl, Below.refl _ _, trivial⟩; simp only [Act.put, List.setIfInBounds_toArray, List.set_cons_zero, List.set_cons_succ, hp]))
                case refine_12 =>
                  have a0 := hp
                  generalize vals 10 = v10 at *
                  subst a0
                  go_wp2
                  (first | exact ⟨rfl, _, rfl, rfl, Below.refl _ _, trivial⟩ | (refine ⟨rfl, _, ?_, rfl, Below.refl _ _, trivial⟩; simp only [Act.put, List.setIfInBounds_toArray, List.set_cons_zero, List.set_cons_succ, hp]))
                case refine_14 =>
                  obtain ⟨a0, a1⟩ := hp
                  generalize vals 11 = v11 at *
                  subst a0
                  generalize vals 12 = v12 at *
                  subst a1
                  go_wp2
                  (first | exact ⟨rfl, _, rfl, rfl, Below.refl _ _, trivial⟩ | (refine ⟨rfl, _, ?_, rfl, Below.refl _ _, trivial⟩; simp only [Act.put, List.setIfInBounds_toArray, List.set_cons_zero, List.set_cons_succ, hp]))
                case refine_15 =>
                  obtain ⟨a0, a1⟩ := hp
                  generalize vals 9 = v9 at *
                  subst a0
                  generalize vals 13 = v13 at *
                  subst a1
                  go_wp2
                  (first | exact ⟨rfl, _, rfl, rfl, Below.refl _ _, trivial⟩ | (refine ⟨rfl, _, ?_, rfl, Below.refl _ _, trivial⟩; simp only [Act.put, List.setIfInBounds_toArray, List.set_cons_zero, List.set_cons_succ, hp]))
                case refine_16 =>
                  obtain ⟨a0, a1⟩ := hp
                  generalize vals 8 = v8 at *
                  subst a0
                  generalize vals 14 = v14 at *
                  subst a1
                  go_wp2
                  (first | exact ⟨rfl, _, rfl, rfl, Below.refl _ _, trivial⟩ | (refine ⟨rfl, _, ?_, rfl, Below.refl _ _, trivial⟩; simp only [Act.put, List.setIfInBounds_toArray, List.set_cons_zero, List.set_cons_succ, hp]))
                all_goals
                  go_wp2
                  (first | exact ⟨rfl, _, rfl, rfl, Below.refl _ _, trivial⟩ | (refine ⟨rfl, _, ?_, rfl, Below.refl _ _, trivial⟩; simp only [Act.put, List.setIfInBounds_toArray, List.set_cons_zero, List.set_cons_succ, hp]))
              · rintro vals w3 hB ⟨p0, p1, p2, p3, p4, p5, p6, p7, p8, p9, p10, p11, p12, p13, p14, p15, _⟩ hne
                have K10 := Lib.hid (next_below hK.out (next_below hB0 hB))
                have z := p15
                generalize vals 15 = v15 at *
                subst z
                clear hne p0 p1 p2 p3 p4 p5 p6 p7 p8 p9 p10 p11 p12 p13 p14 p15 hB hB0
                go_wp2
                go_ret
                exact ⟨by rw [HR2.out]; first | rfl | (congr 2; done) | (congr 2; apply ByteArray.ext; simp [ByteArray.data_append, Array.append_assoc]) | (simp [nil_app, ByteArray.append_assoc]), K10.out⟩
  · rw [if_neg hneg] at hres
    have hs : ¬ ((decM x p).sign < 0) := by have h := Int.sign_trichotomy (decM x p); rcases h with h | h | h <;> rw [h] <;> first | decide | (exfalso; have := (Int.sign_eq_neg_one_iff_neg).1 h; omega)
    obtain ⟨sg, hsg⟩ : ∃ sg, sg = (decM x p).sign := ⟨_, rfl⟩
    rw [← hsg] at H3 hs
    rw [ep hneg] at H2 H3
    rw [hres]
    unfold decP
    obtain ⟨RES, hRES⟩ : ∃ RES : ByteArray, RES = (if p = 0 then PAD c2 else (PAD c2).extract 0 ((PAD c2).size - p) ++ ⟨#[46]⟩ ++ (PAD c2).extract ((PAD c2).size - p) (PAD c2).size) := ⟨_, rfl⟩
    rw [← hRES]
    have HRS := Lib.hid hRES
    clear hRES hres ep en hpad hM hd fm ft hm ht hx hg hneg hsg H4
    go_enter Tryz.func43, Tryz.ntmps43
    go_upto_region 3 with fail
    rw [← T0.out]
    go_loopg [5, 6] p (fun gk u5 u6 wr => ∃ i : Nat, u5 = .string (TEN i) ∧ u6 = .int .i64 (i : Int) ∧ i + gk = p ∧ Hid (Below w.heap.size w wr))
    case atStart => exact ⟨0, rfl, rfl, by omega, HB0⟩
    case round =>
      obtain ⟨i, rfl, rfl, hi, hK⟩ := hrel
      by_cases hz : i < p
      · have hz2 : (i : Int) < (p : Int) := by omega
        have z1 : (TEN i).size ≤ 1000000 := by rw [TS.out]; omega
        have TNI := Lib.hid (TN.out i)
        go_wp2
        go_roundg (gk - 1)
        case rel => exact ⟨i + 1, by rw [← TNI.out], by go_num, by omega, hK⟩
        case measure => omega
      · obtain rfl : p = i := by omega
        clear hz T0 TN TS
        have hB := hK
        go_wp2_with fail
        refine (H1.out _ (HG.out _ hB.out)).mono ?_
        rintro e V ⟨rfl, kk⟩
        have K1 := Lib.hid (next_below hB.out kk)
        clear kk H1
        go_wp2_with fail
        refine (H2.out _ (HG.out _ K1.out)).mono ?_
        rintro e V ⟨rfl, kk⟩
        have K2 := Lib.hid (next_below K1.out kk)
        clear kk H2
        go_wp2_with fail
        refine (H3.out _).mono ?_
        rintro e V ⟨rfl, kk⟩
        have K3 := Lib.hid (next_below K2.out kk)
        clear kk H3 hK hB hi HG HB0 K1 K2
        go_upto_region 11 with fail
        go_loopg [7] c2 (fun gk u7 wr => ∃ j : Nat, u7 = .string (PAD j) ∧ j + gk = c2 ∧ Hid (Below w.heap.size w wr))
        case atStart => exact ⟨0, rfl, by omega, K3⟩
        case round =>
          obtain ⟨j, rfl, hj, hK⟩ := hrel
          have z1 := PS.out j
          by_cases hjc : j < c2
          · have z2 : ((PAD j).size : Int) ≤ (p : Int) := by omega
            have z3 : (PAD j).size ≤ 1000000 := by omega
            have PSN := Lib.hid (PN.out j)
            clear z1
            go_wp2
            go_roundg (gk - 1)
            case rel => exact ⟨j + 1, by rw [← PSN.out], by omega, hK⟩
            case measure => omega
          · obtain rfl : c2 = j := by omega
            have z2 : ¬ (((PAD c2).size : Int) ≤ (p : Int)) := by omega
            have HR := HRS.out
            have z4 : (PAD c2).size = c2 + dl := z1
            clear z1
            rcases Nat.eq_zero_or_pos p with hz | hz
            · subst hz
              have z5 : (PAD c2).size ≤ 2000000 := by omega
              have z6 : ¬ (((PAD c2).size : Int) ≤ 0) := by omega
              have z7 : (PAD c2).size ≠ 0 := by omega
              clear z2
              have HR2 := Lib.hid HR
              have Z4 := Lib.hid z4
              clear HR z4
              go_wp2
              go_ret
              exact ⟨by rw [HR2.out]; simp [nil_app], hK.out⟩
            · have hz1 : (0 : Int) < (p : Int) := by omega
              have hz2 : p ≠ 0 := by omega
              rw [if_neg hz2] at HR
              generalize PAD c2 = E2 at *
              obtain ⟨kk, hkk⟩ : ∃ kk, kk = E2.size - p := ⟨_, rfl⟩
              rw [← hkk] at HR
              have HR2 := Lib.hid HR
              have hk1 : (E2.size : Int) - (p : Int) = (kk : Int) := by omega
              have hk2 : kk ≤ E2.size := by omega
              have hk3 : E2.size ≤ 2000000 := by omega
              clear z4 hkk HR
              have hX1 : (E2.extract 0 kk).size ≤ 2000000 := by rw [ByteArray.size_extract]; omega
              have hX2 : (E2.extract kk E2.size).size ≤ 2000000 := by rw [ByteArray.size_extract]; omega
              go_upto_region 15 with fail
              have hB0 : Below wr.heap.size wr wr.drew := (Below.refl _ _).drew
              have hX3 : ((⟨#[]⟩ : ByteArray) ++ E2.extract 0 kk).size ≤ 2000001 := by simp only [ByteArray.size_append]; have h1 : (⟨#[45]⟩ : ByteArray).size = 1 := rfl; have h0 : (⟨#[]⟩ : ByteArray).size = 0 := rfl; omega
              have hX4 : (((⟨#[]⟩ : ByteArray) ++ E2.extract 0 kk) ++ ⟨#[46]⟩).size ≤ 2000002 := by rw [ByteArray.size_append]; have h1 : (⟨#[46]⟩ : ByteArray).size = 1 := rfl; omega
              refine wp_region_list 16 (by kernel_rfl) (by kernel_rfl) [] [fun v _ => v = .string ⟨#[]⟩, fun v _ => v = .string E2, fun v _ => v = .string E2, fun v _ => v = .int .i64 (E2.size : Int), fun v _ => v = .int .i64 (p : Int), fun v _ => v = .int .i64 (kk : Int), fun v _ => v = .string (E2.extract 0 kk), fun v _ => v = .string ((⟨#[]⟩ : ByteArray) ++ E2.extract 0 kk), fun v _ => v = .string (((⟨#[]⟩ : ByteArray) ++ E2.extract 0 kk) ++ ⟨#[46]⟩), fun v _ => v = .string E2, fun v _ => v = .string E2, fun v _ => v = .int .i64 (E2.size : Int), fun v _ => v = .int .i64 (p : Int), fun v _ => v = .int .i64 (kk : Int), fun v _ => v = .string (E2.extract kk E2.size), fun v _ => v = .string ((((⟨#[]⟩ : ByteArray) ++ E2.extract 0 kk) ++ ⟨#[46]⟩) ++ E2.extract kk E2.size)] (by simp only [List.take_succ_cons, List.take_zero]; rfl) (by simp only [List.drop_succ_cons, List.drop_zero]; rfl) (fun vals => by simp only [fam, Act.put, List.setIfInBounds_toArray, List.set_cons_zero, List.set_cons_succ, if_true]; rfl) (by repeat' (first | exact Stab.eq _ _ | exact Stab.wh _ _ | exact Stab.nm _ _ | exact Stab.new _ _ | exact Stab.newn _ _ | exact Stab.tw _ _ _ | exact Stab.lm _ _ _ | exact Stab.onet _ _ _ | exact trivial | apply And.intro)) trivial ?_ ?_
              · refine ⟨?_, ?_, ?_, ?_, ?_, ?_, ?_, ?_, ?_, ?_, ?_, ?_, ?_, ?_, ?_, ?_, trivial⟩
                all_goals
                  intro vals w3 hB hp
                  dsimp only
                  (try simp [preOk, Region.binds, q_anygc, q_anytext] at hp)
                case refine_4 =>
                  have a0 := hp
                  generalize vals 2 = v2 at *
                  subst a0
                  go_wp2
                  (first | exact ⟨rfl, _, rfl, rfl, Below.refl _ _, trivial⟩ | (refine ⟨rfl, _, ?_, rfl, Below.refl _ _, trivial⟩; simp only [Act.put, List.setIfInBounds_toArray, List.set_cons_zero, List.set_cons_succ, hp]))
                case refine_6 =>
                  obtain ⟨a0, a1⟩ := hp
                  generalize vals 3 = v3 at *
                  subst a0
                  generalize vals 4 = v4 at *
                  subst a1
                  go_wp2
                  (first | exact ⟨rfl, _, rfl, rfl, Below.refl _ _, trivial⟩ | (refine ⟨rfl, _, ?_, rfl, Below.refl _ _, trivial⟩; simp only [Act.put, List.setIfInBounds_toArray, List.set_cons_zero, List.set_cons_succ, hp]))
                case refine_7 =>
                  obtain ⟨a0, a1⟩ := hp
                  generalize vals 1 = v1 at *
                  subst a0
                  generalize vals 5 = v5 at *
                  subst a1
                  go_wp2
                  (first | exact ⟨rfl, _, rfl, rfl, Below.refl _ _, trivial⟩ | (refine ⟨rfl, _, ?_, rfl, Below.refl _ _, trivial⟩; simp only [Act.put, List.setIfInBounds_toArray, List.set_cons_zero, List.set_cons_succ, hp]))
                case refine_8 =>
                  obtain ⟨a0, a1⟩ := hp
                  generalize vals 0 = v0 at *
                  subst a0
                  generalize vals 6 = v6 at *
                  subst a1
                  go_wp2
                  (first | exact ⟨rfl, _, rfl, rfl, Below.refl _ _, trivial⟩ | (refine ⟨rfl, _, ?_, rfl, Below.refl _ _, trivial⟩; simp only [Act.put, List.setIfInBounds_toArray, List.set_cons_zero, List.set_cons_succ, hp]))
                case refine_9 =>
                  have a0 := hp
                  generalize vals 7 = v7 at *
                  subst a0
                  go_wp2
                  (first | exact ⟨rfl, _, rfl, rfl, Below.refl _ _, trivial⟩ | (refine ⟨rfl, _, ?_, rfl, Below.refl _ _, trivial⟩; simp only [Act.put, List.setIfInBounds_toArray, List.set_cons_zero, List.set_cons_succ, hp]))
                case refine_12 =>
                  have a0 := hp
                  generalize vals 10 = v10 at *
                  subst a0
                  go_wp2
                  (first | exact ⟨rfl, _, rfl, rfl, Below.refl _ _, trivial⟩ | (refine ⟨rfl, _, ?_, rfl, Below.refl _ _, trivial⟩; simp only [Act.put, List.setIfInBounds_toArray, List.set_cons_zero, List.set_cons_succ, hp]))
                case refine_14 =>
                  obtain ⟨a0, a1⟩ := hp
                  generalize vals 11 = v11 at *
                  subst a0
                  generalize vals 12 = v12 at *
                  subst a1
                  go_wp2
                  (first | exact ⟨rfl, _, rfl, rfl, Below.refl _ _, trivial⟩ | (refine ⟨rfl, _, ?_, rfl, Below.refl _ _, trivial⟩; simp only [Act.put, List.setIfInBounds_toArray, List.set_cons_zero, List.set_cons_succ, hp]))
                case refine_15 =>
                  obtain ⟨a0, a1⟩ := hp
                  generalize vals 9 = v9 at *
                  subst a0
                  generalize vals 13 = v13 at *
                  subst a1
                  go_wp2
                  (first | exact ⟨rfl, _, rfl, rfl, Below.refl _ _, trivial⟩ | (refine ⟨rfl, _, ?_, rfl, Below.refl _ _, trivial⟩; simp only [Act.put, List.setIfInBounds_toArray, List.set_cons_zero, List.set_cons_succ, hp]))
                case refine_16 =>
                  obtain ⟨a0, a1⟩ := hp
                  generalize vals 8 = v8 at *
                  subst a0
                  generalize vals 14 = v14 at *
                  subst a1
                  go_wp2
                  (first | exact ⟨rfl, _, rfl, rfl, Below.refl _ _, trivial⟩ | (refine ⟨rfl, _, ?_, rfl, Below.refl _ _, trivial⟩; simp only [Act.put, List.setIfInBounds_toArray, List.set_cons_zero, List.set_cons_succ, hp]))
                all_goals
                  go_wp2
                  (first | exact ⟨rfl, _, rfl, rfl, Below.refl _ _, trivial⟩ | (refine ⟨rfl, _, ?_, rfl, Below.refl _ _, trivial⟩; simp only [Act.put, List.setIfInBounds_toArray, List.set_cons_zero, List.set_cons_succ, hp]))
              · rintro vals w3 hB ⟨p0, p1, p2, p3, p4, p5, p6, p7, p8, p9, p10, p11, p12, p13, p14, p15, _⟩ hne
                have K10 := Lib.hid (next_below hK.out (next_below hB0 hB))
                have z := p15
                generalize vals 15 = v15 at *
                subst z
                clear hne p0 p1 p2 p3 p4 p5 p6 p7 p8 p9 p10 p11 p12 p13 p14 p15 hB hB0
                go_wp2
                go_ret
                exact ⟨by rw [HR2.out]; first | rfl | (congr 2; done) | (congr 2; apply ByteArray.ext; simp [ByteArray.data_append, Array.append_assoc]) | (simp [nil_app, ByteArray.append_assoc]), K10.out⟩
end Go.Proofs.YtabdnjakmhnnfaaGreatDoor
