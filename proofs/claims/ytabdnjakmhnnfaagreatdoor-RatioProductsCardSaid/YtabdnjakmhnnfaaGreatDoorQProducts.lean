/- RatioProducts: the walk. -/
import Derived.Test.YtabdnjakmhnnfaaGreatDoorQProdM
import Derived.Deep.CutRange
import Derived.Deep.DeepCutAuto
set_option linter.unusedSimpArgs false
set_option linter.unusedVariables false
namespace Go.Proofs.YtabdnjakmhnnfaaGreatDoor
open Go.RowKit
open Go.Lib (decDigits itoa nDigits)
open D4 (rt it Mid)

theorem ixo0 (X : World) : (Instr.index 54 (.agg #[.string ⟨#[48]⟩, .string ⟨#[49]⟩, .string ⟨#[45, 49]⟩]) (.int .u8 0)).run Tryz.prog X = .ok (.string (oneB 0)) X := by kernel_rfl
theorem ixo1 (X : World) : (Instr.index 54 (.agg #[.string ⟨#[48]⟩, .string ⟨#[49]⟩, .string ⟨#[45, 49]⟩]) (.int .u8 1)).run Tryz.prog X = .ok (.string (oneB 1)) X := by kernel_rfl
theorem ixo2 (X : World) : (Instr.index 54 (.agg #[.string ⟨#[48]⟩, .string ⟨#[49]⟩, .string ⟨#[45, 49]⟩]) (.int .u8 2)).run Tryz.prog X = .ok (.string (oneB 2)) X := by kernel_rfl

set_option maxHeartbeats 32000000 in
set_option maxRecDepth 100000 in
theorem products_walk {w : World} (A B : ByteArray) (x y : Rat) (n1x n2x : Bool) (a1x a2x : Option Addr) (k1x c1x k2x c2x : Nat) (t1x t2x : Int) (n1y n2y : Bool) (a1y a2y : Option Addr) (k1y c1y k2y c2y : Nat) (t1y t2y : Int)(n k : Int) (n0 : -9223372036854775808 ≤ n) (n1 : n ≤ 9223372036854775807) (k0 : -128 ≤ k) (k1 : k ≤ 127) (fx : fitsD 240 x) (fy : fitsD 240 y)
    (hx : ∀ V : World, Below w.heap.size w V → Calls Tryz.prog 36 #[.agg #[.bool n1x, .slice a1x k1x c1x, .int .u8 t1x, .bool n2x, .slice a2x k2x c2x, .int .u8 t2x]] V (RetV V (.string (rt x))))
    (hy : ∀ V : World, Below w.heap.size w V → Calls Tryz.prog 36 #[.agg #[.bool n1y, .slice a1y k1y c1y, .int .u8 t1y, .bool n2y, .slice a2y k2y c2y, .int .u8 t2y]] V (RetV V (.string (rt y)))) (hg : Good w) :
    Calls Tryz.prog 5 #[.string A, .string B, .agg #[.bool n1x, .slice a1x k1x c1x, .int .u8 t1x, .bool n2x, .slice a2x k2x c2x, .int .u8 t2x], .agg #[.bool n1y, .slice a1y k1y c1y, .int .u8 t1y, .bool n2y, .slice a2y k2y c2y, .int .u8 t2y], .int .i64 n, .int .i8 k] w (RetV w (.bool true)) := by
  have la : (A.data.toList.take 60).length ≤ 600 := by rw [List.length_take]; omega
  have lb : (B.data.toList.take 60).length ≤ 600 := by rw [List.length_take]; omega
  have lx : (ratText x).length ≤ 600 := Nat.le_trans (text_le fx) (by omega)
  have ly : (ratText y).length ≤ 600 := Nat.le_trans (text_le fy) (by omega)
  have HCUT := Lib.hid (fun (V : World) => lcut_any (w := V) A)
  obtain ⟨W, hW, hB, hsz, jx, jy⟩ := entB w 44 44 #[.bool n1x, .slice a1x k1x c1x, .int .u8 t1x, .bool n2x, .slice a2x k2x c2x, .int .u8 t2x] #[.bool n1y, .slice a1y k1y c1y, .int .u8 t1y, .bool n2y, .slice a2y k2y c2y, .int .u8 t2y]
  have HW := Lib.hid hW
  have JX := Lib.hid jx
  have JY := Lib.hid jy
  have HB := Lib.hid hB
  have HG := Lib.hid (fun (V : World) (hV : Below W.heap.size W V) => (hg.below hB).below hV)
  have hxq := fun (V' : World) (hV' : Below W.heap.size W V') => hx V' (hB.trans (hV'.mono hB.size))
  have HX9 := Lib.hid hxq
  clear hxq
  have H1 := Lib.hid (fun (V : World) (hV : Good V) => works_any hV)
  have H4 := Lib.hid (fun (V : World) (hV : Below W.heap.size W V) => four_any (w := V) A B (rt x) (rt y) _ _ _ _ _ _ _ _ _ _ _ _ _ _ _ _ _ _ _ _ (fun V' hV' => hx V' ((hB.trans (hV.mono hB.size)).trans (hV'.mono (hB.trans (hV.mono hB.size)).size))) (fun V' hV' => hy V' ((hB.trans (hV.mono hB.size)).trans (hV'.mono (hB.trans (hV.mono hB.size)).size))))
  have erx : rt x = ⟨(ratText x).toArray⟩ := rfl
  have ery : rt y = ⟨(ratText y).toArray⟩ := rfl
  rw [erx, ery] at H4
  have LA := Lib.hid la
  have LB := Lib.hid lb
  have LX := Lib.hid lx
  have LY := Lib.hid ly
  clear la lb lx ly erx ery hx hy hg hW hB hsz jx jy

  have JX9 := JX
  have erx : rt x = ⟨(ratText x).toArray⟩ := rfl
  obtain ⟨FB, hFB⟩ : ∃ FB, FB = (decide (nDigits x.num.natAbs ≤ 20) && decide (nDigits x.den ≤ 20)) := ⟨_, rfl⟩
  obtain ⟨XZ, hXZ⟩ : ∃ XZ, XZ = decide (x = 0) := ⟨_, rfl⟩
  have hzx := rt_zero_iff x
  rw [← hXZ] at hzx
  have hfx := fun (V : World) => D4.fits_rt (w := V) (x := x) 20 (fits_up fx (by omega))
  rw [← hFB] at hfx
  obtain ⟨ZB, hZB⟩ : ∃ ZB, ZB = (!FB || XZ) := ⟨_, rfl⟩
  obtain ⟨z, hy20, hy0, hyt⟩ : ∃ z : Rat, fitsD 20 z ∧ z ≠ 0 ∧ (ZB = false → rt z = rt x) ∧ (ZB = true → rt z = ⟨#[45, 50, 47, 51]⟩) := by
    cases hz : ZB
    · rw [hz] at hZB
      simp at hZB
      obtain ⟨h1, h2⟩ := hZB
      subst h1 h2
      have hFB2 := hFB.symm
      have hXZ2 := hXZ.symm
      rw [Bool.and_eq_true, decide_eq_true_eq, decide_eq_true_eq] at hFB2
      rw [decide_eq_false_iff_not] at hXZ2
      exact ⟨x, ⟨hFB2.1, hFB2.2⟩, hXZ2, fun _ => rfl, fun h => absurd h (by decide)⟩
    · exact ⟨-2 / 3, by decide +kernel, by decide +kernel, fun h => absurd h (by decide), fun _ => by decide +kernel⟩
  have hkt : -30 < k.tmod 30 ∧ k.tmod 30 < 30 := by
    have h1 := Int.tmod_lt_of_pos k (show (0 : Int) < 30 by decide)
    have h2 := Int.lt_tmod_of_pos k (show (0 : Int) < 30 by decide)
    omega
  have hpy := small_pows hy20 hy0 hkt.1 hkt.2
  generalize hYT : rt z = YT at *
  rw [erx] at HX9 hzx hfx hyt
  rw [ba_list] at hzx
  have HPY := Lib.hid hpy
  have HZX := Lib.hid hzx
  have HFX := Lib.hid hfx
  have HZB := Lib.hid hZB
  have HYT := Lib.hid hyt
  clear erx hpy hzx hfx hZB hyt hYT hy20 hy0 hkt hFB hXZ
  generalize (A.data.toList.take 60) = la at *
  generalize (B.data.toList.take 60) = lb at *
  generalize ratText x = lx at *
  generalize ratText y = ly at *
  go_enter Tryz.func5, Tryz.ntmps5
  go_upto_region 1 with fail
  rw [← HW.out]
  clear HW
  go_wp2_with fail
  refine (H1.out _ (HG.out _ (Below.refl _ _))).mono ?_
  rintro e wn ⟨rfl, b1⟩
  have B1 := Lib.hid b1
  have JX1 := Lib.hid (JX.out.next b1)
  have JY1 := Lib.hid (JY.out.next b1)
  obtain ⟨x0, x1, x2, x3, x4, x5⟩ := JX1.out.at6
  obtain ⟨y0, y1, y2, y3, y4, y5⟩ := JY1.out.at6
  clear b1 H1 JX JY
  go_wp2_with fail
  refine (H4.out _ B1.out).mono ?_
  rintro e wn2 ⟨rfl, b2⟩
  have B2 := Lib.hid (next_below B1.out b2)
  have JX2 := Lib.hid (JX1.out.next b2)
  have JY2 := Lib.hid (JY1.out.next b2)
  clear b2 x0 x1 x2 x3 x4 x5 y0 y1 y2 y3 y4 y5 H4 JX1 JY1 B1
  clear JX2 JY2
  go_wp2
  go_loopg [34] 4 (fun gk u34 wr => ∃ i : Nat, u34 = .int .i64 (i : Int) ∧ i + gk = 4 ∧ Hid (Below W.heap.size W wr))
  case atStart => exact ⟨0, rfl, rfl, B2⟩
  case round =>
    obtain ⟨i, rfl, hi, hK⟩ := hrel
    by_cases hi4 : i < 4
    · have hi5 : (i : Int) < 4 := by omega
      obtain ⟨l0, l1, P0, P1, hP0, hP1, hx, hl0, hl1⟩ : ∃ (l0 l1 : List UInt8) (P0 P1 : ByteArray), P0 = ⟨l0.toArray⟩ ∧ P1 = ⟨l1.toArray⟩ ∧ (∀ X, (Instr.index 46 (.agg #[.string ⟨la.toArray⟩, .string ⟨lb.toArray⟩, .string ⟨la.toArray⟩, .string ⟨ly.toArray⟩, .string ⟨lx.toArray⟩, .string ⟨lb.toArray⟩, .string ⟨lx.toArray⟩, .string ⟨ly.toArray⟩]) (.int .i64 (i : Int))).run Tryz.prog X = .ok (.agg #[.string P0, .string P1]) X) ∧ Hid (l0.length ≤ 600) ∧ Hid (l1.length ≤ 600) := by
        obtain rfl | rfl | rfl | rfl : i = 0 ∨ i = 1 ∨ i = 2 ∨ i = 3 := by omega
        · exact ⟨la, lb, _, _, rfl, rfl, fun X => ixa _ _ _ _ _ _ _ _ X, LA, LB⟩
        · exact ⟨la, ly, _, _, rfl, rfl, fun X => ixb _ _ _ _ _ _ _ _ X, LA, LY⟩
        · exact ⟨lx, lb, _, _, rfl, rfl, fun X => ixc _ _ _ _ _ _ _ _ X, LX, LB⟩
        · exact ⟨lx, ly, _, _, rfl, rfl, fun X => ixd _ _ _ _ _ _ _ _ X, LX, LY⟩
      obtain ⟨Wx, hWx, hBx, hszx, jx⟩ := entA wr 45 #[.string P0, .string P1]
      have K0 := Lib.hid (next_below hK.out hBx)
      have J0 := Lib.hid jx
      have HWX := Lib.hid hWx
      have c0 := jx.cell0
      have c1 := jx.cell1
      have HP0 := Lib.hid hP0
      have HP1 := Lib.hid hP1
      clear hBx hszx jx hWx hP0 hP1
      obtain ⟨T1, T2, RM, RD, E1, E2, F, HA, HS, HF, hc⟩ := pair_products l0 l1 hl0.out hl1.out
      rw [← HP0.out, ← HP1.out] at HA HS HF hc
      clear HP0 HP1 hl0 hl1 LA LB LX LY
      have HC := Lib.hid hc
      clear hc HPY HZX HFX HZB HYT HX9 JX9 HCUT
      go_upto_region 6 with fail
      rw [← HWX.out]
      generalize wr.heap.size = gx at *
      clear HWX hK hx
      go_wp2_with fail
      refine (HA.out _ (HG.out _ K0.out)).mono ?_
      rintro e V ⟨rfl, kk⟩
      have K1 := Lib.hid (next_below K0.out kk)
      have J1 := Lib.hid (J0.out.next kk)
      clear kk c0 c1
      have c0 := J1.out.cell0
      have c1 := J1.out.cell1
      go_wp2_with fail
      refine (HS.out _ (HG.out _ K1.out)).mono ?_
      rintro e V ⟨rfl, kk⟩
      have K2 := Lib.hid (next_below K1.out kk)
      have J2 := Lib.hid (J1.out.next kk)
      clear kk c0 c1
      have c0 := J2.out.cell0
      have c1 := J2.out.cell1
      go_wp2_with fail
      refine (HF.out _ (HG.out _ K2.out)).mono ?_
      rintro e V ⟨rfl, kk⟩
      have K3 := Lib.hid (next_below K2.out kk)
      have J3 := Lib.hid (J2.out.next kk)
      clear kk c0 c1
      have c0 := J3.out.cell0
      have c1 := J3.out.cell1
      rcases HC.out with ⟨f0, h1, h2, h3, h4⟩ | ⟨f0, H1, H2, ⟨hz, h1, h2⟩ | ⟨hz, H3, H4⟩⟩
      · clear HC HA HS HF
        subst h1 h2 h3 h4
        go_wp2
        go_roundg (gk - 1)
        case rel => exact ⟨i + 1, by go_num, by omega, K3⟩
        case measure => omega
      · clear HC HA HS HF
        subst f0 h1 h2
        go_wp2_with fail
        refine (H1.out _ (HG.out _ K3.out)).mono ?_
        rintro e V ⟨rfl, kk⟩
        have K4 := Lib.hid (next_below K3.out kk)
        have J4 := Lib.hid (J3.out.next kk)
        clear kk c0 c1
        have c0 := J4.out.cell0
        have c1 := J4.out.cell1
        go_wp2_with fail
        refine (H2.out _ (HG.out _ K4.out)).mono ?_
        rintro e V ⟨rfl, kk⟩
        have K5 := Lib.hid (next_below K4.out kk)
        have J5 := Lib.hid (J4.out.next kk)
        clear kk c0 c1
        have c0 := J5.out.cell0
        have c1 := J5.out.cell1
        go_wp2
        go_roundg (gk - 1)
        case rel => exact ⟨i + 1, by go_num, by omega, K5⟩
        case measure => omega
      · clear HC HA HS HF
        subst f0
        go_wp2_with fail
        refine (H1.out _ (HG.out _ K3.out)).mono ?_
        rintro e V ⟨rfl, kk⟩
        have K4 := Lib.hid (next_below K3.out kk)
        have J4 := Lib.hid (J3.out.next kk)
        clear kk c0 c1
        have c0 := J4.out.cell0
        have c1 := J4.out.cell1
        go_wp2_with fail
        refine (H2.out _ (HG.out _ K4.out)).mono ?_
        rintro e V ⟨rfl, kk⟩
        have K5 := Lib.hid (next_below K4.out kk)
        have J5 := Lib.hid (J4.out.next kk)
        clear kk c0 c1
        have c0 := J5.out.cell0
        have c1 := J5.out.cell1
        go_wp2_with fail
        refine (H3.out _ (HG.out _ K5.out)).mono ?_
        rintro e V ⟨rfl, kk⟩
        have K6 := Lib.hid (next_below K5.out kk)
        have J6 := Lib.hid (J5.out.next kk)
        clear kk c0 c1
        have c0 := J6.out.cell0
        have c1 := J6.out.cell1
        go_wp2_with fail
        refine (H4.out _ (HG.out _ K6.out)).mono ?_
        rintro e V ⟨rfl, kk⟩
        have K7 := Lib.hid (next_below K6.out kk)
        have J7 := Lib.hid (J6.out.next kk)
        clear kk c0 c1
        have c0 := J7.out.cell0
        have c1 := J7.out.cell1
        go_wp2
        go_roundg (gk - 1)
        case rel => exact ⟨i + 1, by go_num, by omega, K7⟩
        case measure => omega
    · obtain rfl : i = 4 := by omega
      have K0 := hK
      obtain ⟨PT, PE, PR, HP, HR, hpr⟩ := pow_raw la n LA.out
      have HPR := Lib.hid hpr
      clear hpr LB LX LY hK hi hi4
      go_wp2_with fail
      refine (HCUT.out _).mono ?_
      rintro e V ⟨rfl, kk⟩
      have K1 := Lib.hid (next_below K0.out kk)
      clear kk
      go_wp2_with fail
      refine (HP.out _ (HG.out _ K1.out)).mono ?_
      rintro e V ⟨rfl, kk⟩
      have K2 := Lib.hid (next_below K1.out kk)
      clear kk
      go_wp2_with fail
      refine (HCUT.out _).mono ?_
      rintro e V ⟨rfl, kk⟩
      have K3 := Lib.hid (next_below K2.out kk)
      clear kk
      go_wp2_with fail
      refine (HR.out _ (HG.out _ K3.out)).mono ?_
      rintro e V ⟨rfl, kk⟩
      have K4 := Lib.hid (next_below K3.out kk)
      clear kk
      go_upto_region 22 with fail
      go_cut [124] from 999 to 999 (fun c wx => c = .bool false ∧ Hid (Below W.heap.size W wx))
      case first =>
        rcases HPR.out with h0 | ⟨h0, h1, h2⟩
        · subst h0
          go_wp2
          go_meet
          case rel => exact ⟨rfl, K4⟩
        · subst h1 h2
          go_wp2
          go_meet
          case rel => exact ⟨rfl, K4⟩
      case rest =>
        obtain ⟨rfl, C1⟩ := hcut
        clear HPR HP HR HCUT K4
        obtain ⟨j, hj, hjx, hj3⟩ : ∃ j : Nat, Hid (k % 256 % 3 = (j : Int)) ∧ (∀ X, (Instr.index 54 (.agg #[.string ⟨#[48]⟩, .string ⟨#[49]⟩, .string ⟨#[45, 49]⟩]) (.int .u8 (k % 256 % 3))).run Tryz.prog X = .ok (.string (oneB j)) X) ∧ j < 3 := by
          rcases (show k % 256 % 3 = 0 ∨ k % 256 % 3 = 1 ∨ k % 256 % 3 = 2 by omega) with h | h | h
          · exact ⟨0, Lib.hid h, fun X => by rw [h]; exact ixo0 X, by omega⟩
          · exact ⟨1, Lib.hid h, fun X => by rw [h]; exact ixo1 X, by omega⟩
          · exact ⟨2, Lib.hid h, fun X => by rw [h]; exact ixo2 X, by omega⟩
        have HP1 := Lib.hid (fun (V : World) (hV : Good V) => one_pow j n hV)
        have bj : ((oneB j).toList == [45, 49]) = decide (2 ≤ j) := by
          rcases (show j = 0 ∨ j = 1 ∨ j = 2 by omega) with rfl | rfl | rfl <;> decide +kernel
        have bz : ((oneB j).toList == [48]) = decide (j = 0) := by
          rcases (show j = 0 ∨ j = 1 ∨ j = 2 by omega) with rfl | rfl | rfl <;> decide +kernel
        obtain ⟨WB, hWB⟩ : ∃ WB, WB = wantB j n := ⟨_, rfl⟩
        obtain ⟨BD, hBD⟩ : ∃ BD, BD = badB j n := ⟨_, rfl⟩
        have HRES : Hid ((BD = true → powT (oneL j) n = ⟨#[]⟩ ∧ powE (oneL j) n = 2) ∧ (BD = false → powT (oneL j) n = (if WB then ⟨#[49]⟩ else oneB j) ∧ powE (oneL j) n = 0)) := Lib.hid (by
          rw [hBD, hWB]; exact ⟨one_pow_bad, one_pow_good⟩)
        have HBD := Lib.hid hBD
        have HWB := Lib.hid hWB
        have BZ := Lib.hid bz
        have BJ := Lib.hid bj
        clear hWB hBD bz bj
        generalize powT (oneL j) n = T1 at *
        generalize powE (oneL j) n = E1 at *
        generalize oneB j = OB at *
        go_upto_region 25 with fail
        clear hjx
        go_wp2_with fail
        refine (HP1.out _ (HG.out _ C1.out)).mono ?_
        rintro e V ⟨rfl, kk⟩
        have C2 := Lib.hid (next_below C1.out kk)
        clear kk HP1
        go_upto_region 27 with fail
        go_cut [147] from 999 to 999 (fun c wx => c = .bool WB ∧ Hid (Below W.heap.size W wx))
        case first =>
          have bj := BJ.out
          have hpar : n.tmod 2 = 0 ↔ n % 2 = 0 := by rw [← Int.dvd_iff_tmod_eq_zero, Int.dvd_iff_emod_eq_zero]
          go_wp2
          all_goals
            go_meet
            case rel => exact ⟨by rw [HWB.out]; congr 1; rw [Bool.eq_iff_iff]; simp [wantB]; omega, C2⟩
        case rest =>
          obtain ⟨rfl, C3⟩ := hcut
          clear C2 HWB BJ
          obtain ⟨WT, hWT⟩ : ∃ WT : ByteArray, WT = if WB = true then ⟨#[49]⟩ else OB := ⟨_, rfl⟩
          have HWT := Lib.hid hWT
          have HRES2 : Hid ((BD = true → T1 = ⟨#[]⟩ ∧ E1 = 2) ∧ (BD = false → T1 = WT ∧ E1 = 0)) := Lib.hid (by rw [hWT]; exact HRES.out)
          clear hWT HRES
          go_upto_if 147 with fail
          go_cut [24] from 999 to 999 (fun u wx => u = .string WT ∧ Hid (Below W.heap.size W wx))
          case first =>
            cases WB
            · go_wp2
              go_meet
              case rel => exact ⟨by rw [HWT.out]; rfl, C3⟩
            · go_wp2
              go_meet
              case rel => exact ⟨by rw [HWT.out]; rfl, C3⟩
          case rest =>
            obtain ⟨rfl, C31⟩ := hcut
            clear C3 HWT
            go_upto_region 29 with fail
            go_cut [161] from 999 to 999 (fun c wx => c = .bool BD ∧ Hid (Below W.heap.size W wx))
            case first =>
              have bz := BZ.out
              go_wp2
              all_goals
                go_meet
                case rel => exact ⟨by rw [HBD.out]; congr 1; rw [Bool.eq_iff_iff]; simp [badB]; omega, C31⟩
            case rest =>
              obtain ⟨rfl, C4⟩ := hcut
              clear C31 HBD BZ
              go_upto_if 161 with fail
              go_cut [] from 999 to 999 (fun wx => Hid (Below W.heap.size W wx))
              case first =>
                cases BD
                · obtain ⟨h1, h2⟩ := HRES2.out.2 rfl
                  subst h1 h2
                  clear HRES2
                  go_wp2
                  go_meet
                  case rel => exact C4
                · obtain ⟨h1, h2⟩ := HRES2.out.1 rfl
                  subst h1 h2
                  clear HRES2
                  go_wp2
                  go_meet
                  case rel => exact C4
              case rest =>
                have C5 := hcut
                clear hcut C4 HRES2
                obtain ⟨x0, x1, x2, x3, x4, x5⟩ := (JX9.out.next C5.out).at6
                go_wp2_with fail
                refine (HX9.out _ C5.out).mono ?_
                rintro e V ⟨rfl, kk⟩
                have C6 := Lib.hid (next_below C5.out kk)
                clear kk x0 x1 x2 x3 x4 x5 HX9 JX9 C5
                go_upto_region 35 with fail
                go_cut [183] from 999 to 999 (fun c wx => c = .bool ZB ∧ Hid (Below W.heap.size W wx))
                case first =>
                  have zx := HZX.out
                  go_wp2_with fail
                  refine (HFX.out _).mono ?_
                  rintro e V ⟨rfl, kk⟩
                  have C7 := Lib.hid (next_below C6.out kk)
                  clear kk
                  cases FB
                  · go_wp2
                    go_meet
                    case rel => exact ⟨by rw [HZB.out]; rfl, C7⟩
                  · cases XZ
                    · go_wp2
                      go_meet
                      case rel => exact ⟨by rw [HZB.out]; rfl, C7⟩
                    · go_wp2
                      go_meet
                      case rel => exact ⟨by rw [HZB.out]; rfl, C7⟩
                case rest =>
                  obtain ⟨rfl, C8⟩ := hcut
                  clear C6 HFX HZX HZB
                  go_upto_if 183 with fail
                  go_cut [25] from 999 to 999 (fun u wx => u = .string YT ∧ Hid (Below W.heap.size W wx))
                  case first =>
                    cases ZB
                    · have h := HYT.out.1 rfl
                      subst h
                      go_wp2
                      go_meet
                      case rel => exact ⟨rfl, C8⟩
                    · have h := HYT.out.2 rfl
                      subst h
                      go_wp2
                      go_meet
                      case rel => exact ⟨rfl, C8⟩
                  case rest =>
                    obtain ⟨rfl, C9⟩ := hcut
                    clear C8 HYT
                    rcases HPY.out with ⟨m, hm, hm30, T, R, E, G1, G2, G3⟩ | ⟨m, hm, hm0, hm30, T, P, R, E, G1, G2, G3, G4⟩
                    · have hkm := hm
                      have hb1 : (m : Int) < 30 := by omega
                      have hb2 : (0 : Int) ≤ (m : Int) := by omega
                      clear hm hm30
                      go_wp2_with fail
                      refine (G1.out _ (HG.out _ C9.out)).mono ?_
                      rintro e V ⟨rfl, kk⟩
                      have C10 := Lib.hid (next_below C9.out kk)
                      clear kk
                      go_wp2_with fail
                      refine (G2.out _ (HG.out _ C10.out)).mono ?_
                      rintro e V ⟨rfl, kk⟩
                      have C11 := Lib.hid (next_below C10.out kk)
                      clear kk
                      go_wp2_with fail
                      refine (G3.out _ (HG.out _ C11.out)).mono ?_
                      rintro e V ⟨rfl, kk⟩
                      have C12 := Lib.hid (next_below C11.out kk)
                      clear kk
                      go_wp2
                      go_ret
                      exact ⟨rfl, HB.out.trans (C12.out.mono HB.out.size)⟩
                    · have hkm := hm
                      have hb1 : -(m : Int) < 0 := by omega
                      have hb2 : -30 < -(m : Int) := by omega
                      have hb3 : (m : Int) < 30 := by omega
                      clear hm hm30
                      go_wp2_with fail
                      refine (G1.out _ (HG.out _ C9.out)).mono ?_
                      rintro e V ⟨rfl, kk⟩
                      have C10 := Lib.hid (next_below C9.out kk)
                      clear kk
                      go_wp2_with fail
                      refine (G2.out _ (HG.out _ C10.out)).mono ?_
                      rintro e V ⟨rfl, kk⟩
                      have C11 := Lib.hid (next_below C10.out kk)
                      clear kk
                      go_wp2_with fail
                      refine (G3.out _ (HG.out _ C11.out)).mono ?_
                      rintro e V ⟨rfl, kk⟩
                      have C12 := Lib.hid (next_below C11.out kk)
                      clear kk
                      go_wp2_with fail
                      refine (G4.out _ (HG.out _ C12.out)).mono ?_
                      rintro e V ⟨rfl, kk⟩
                      have C13 := Lib.hid (next_below C12.out kk)
                      clear kk
                      go_wp2
                      go_ret
                      exact ⟨rfl, HB.out.trans (C13.out.mono HB.out.size)⟩
      

theorem products_law {w : World} (A B : ByteArray) {v1 v2 : Value} (h1 : DraftAt w v1) (h2 : DraftAt w v2) (n k : Int) (n0 : -9223372036854775808 ≤ n) (n1 : n ≤ 9223372036854775807) (k0 : -128 ≤ k) (k1 : k ≤ 127) (hg : Good w) : Calls Tryz.prog 5 #[.string A, .string B, v1, v2, .int .i64 n, .int .i8 k] w (RetV w (.bool true)) := by
  obtain ⟨n1x, n2x, a1x, a2x, k1x, c1x, k2x, c2x, t1x, t2x, x, rfl, fx, hx⟩ := h1.q
  obtain ⟨n1y, n2y, a1y, a2y, k1y, c1y, k2y, c2y, t1y, t2y, y, rfl, fy, hy⟩ := h2.q
  exact products_walk A B x y _ _ _ _ _ _ _ _ _ _ _ _ _ _ _ _ _ _ _ _ n k n0 n1 k0 k1 fx fy (fun V hV => hx V hV (hg.below hV)) (fun V hV => hy V hV (hg.below hV)) hg
end Go.Proofs.YtabdnjakmhnnfaaGreatDoor
