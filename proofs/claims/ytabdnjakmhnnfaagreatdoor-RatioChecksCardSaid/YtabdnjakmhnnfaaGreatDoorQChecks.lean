/- RatioChecks: the walk. -/
import Derived.Test.YtabdnjakmhnnfaaGreatDoorQSums
import Derived.Test.YtabdnjakmhnnfaaGreatDoorQParts
set_option linter.unusedSimpArgs false
set_option linter.unusedVariables false
namespace Go.Proofs.YtabdnjakmhnnfaaGreatDoor
open Go.RowKit
open Go.Lib (decDigits itoa nDigits)
open D4 (rt it Mid)

theorem ix20 (A B : ByteArray) (X : World) : (Instr.index 45 (.agg #[.string A, .string B]) (.int .i64 0)).run Tryz.prog X = .ok (.string A) X := by kernel_rfl
theorem ix21 (A B : ByteArray) (X : World) : (Instr.index 45 (.agg #[.string A, .string B]) (.int .i64 1)).run Tryz.prog X = .ok (.string B) X := by kernel_rfl
theorem cmpE_fail (la lb : List UInt8) : cmpE la lb = failE la lb := by
  unfold cmpE failE
  rfl

/-- What the comparison of two texts is. -/
theorem pair_checks (l0 l1 : List UInt8) (h0 : l0.length ≤ 600) (h1 : l1.length ≤ 600) : ∃ (C E F : Int),
    Hid (∀ V : World, Good V → Calls Tryz.prog 48 #[.string ⟨l0.toArray⟩, .string ⟨l1.toArray⟩] V (RetV V (.tuple #[.int .i64 C, .int .i64 E]))) ∧
    Hid (∀ V : World, Good V → Calls Tryz.prog 28 #[.string ⟨l0.toArray⟩, .string ⟨l1.toArray⟩] V (RetV V (.int .i64 F))) ∧
    ((F ≠ 0 ∧ C = 0 ∧ E = F) ∨
      (F = 0 ∧ E = 0 ∧ Hid (∀ V : World, Good V → Calls Tryz.prog 49 #[.string ⟨l0.toArray⟩, .string ⟨l1.toArray⟩] V (RetV V (.int .i64 C))))) := by
  refine ⟨cmpR l0 l1, cmpE l0 l1, failE l0 l1, Lib.hid (fun V hV => rcmp_any (by omega) (by omega) hV), Lib.hid (fun V hV => failed_any l0 l1 (by omega) (by omega) hV), ?_⟩
  have hv := cmp_val l0 l1
  by_cases hF : failE l0 l1 = 0
  · obtain ⟨g0, g1⟩ := pair_good hF
    have m0 : Mid (rval l0) := fits_up (rerr_fits g0) (by omega)
    have m1 : Mid (rval l1) := fits_up (rerr_fits g1) (by omega)
    rw [if_pos g0, if_pos g1] at hv
    have hR : rcmp (rval l0) (rval l1) = cmpR l0 l1 := by simp at hv; exact hv.1
    refine .inr ⟨hF, by rw [cmpE_fail, hF], Lib.hid (fun V hV => ?_)⟩
    rw [canon_rt g0, canon_rt g1, ← hR]; exact D4.cmp_rt m0 m1 hV
  · refine .inl ⟨hF, ?_, cmpE_fail l0 l1⟩
    unfold failE at hF
    by_cases g0 : rerr l0 = 0
    · rw [if_pos g0] at hF
      rw [if_pos g0, if_neg hF] at hv
      simp at hv; exact hv.1.symm
    · rw [if_neg g0] at hv
      simp at hv; exact hv.1.symm
/-- What the checks of a text are. -/
theorem one_checks (l : List UInt8) (hl : l.length ≤ 600) : ∃ (N D : ByteArray) (E : Int) (B : Bool),
    Hid (∀ V : World, Good V → Calls Tryz.prog 50 #[.string ⟨l.toArray⟩] V (RetV V (.tuple #[.string N, .string D, .int .i64 E]))) ∧
    Hid (∀ V : World, Good V → Calls Tryz.prog 35 #[.string ⟨l.toArray⟩] V (RetV V (.int .i64 E))) ∧
    Hid (∀ V : World, Good V → Calls Tryz.prog 14 #[.string ⟨l.toArray⟩] V (RetV V (.int .i64 E))) ∧
    Hid (∀ V : World, Good V → Calls Tryz.prog 24 #[.string ⟨l.toArray⟩] V (RetV V (.bool B))) ∧
    Hid (∀ V : World, Good V → Calls Tryz.prog 51 #[.string ⟨l.toArray⟩] V (RetV V (.bool B))) ∧
    ((E ≠ 0 ∧ N = ⟨#[]⟩ ∧ D = ⟨#[]⟩) ∨
      (E = 0 ∧ Hid (∀ V : World, Good V → Calls Tryz.prog 52 #[.string ⟨l.toArray⟩] V (RetV V (.tuple #[.string N, .string D]))))) := by
  by_cases h0 : rerr l = 0
  · have hf := rerr_fits h0
    refine ⟨it (rval l).num, it ((rval l).den : Int), rerr l, rshort l, Lib.hid (fun V hV => ?_), Lib.hid (fun V hV => D4.check2_any l (by omega) hV), Lib.hid (fun V hV => rcheck_any l (by omega) hV), Lib.hid (fun V hV => rshort_any l (by omega) hV), Lib.hid (fun V hV => D4.short2_any l (by omega) hV), .inr ⟨h0, Lib.hid (fun V hV => ?_)⟩⟩
    · rw [h0, canon_rt h0]; exact rparts_rt hf hV
    · rw [canon_rt h0]; exact D4.parts_rt (fits_up hf (by omega))
  · exact ⟨⟨#[]⟩, ⟨#[]⟩, rerr l, rshort l, Lib.hid (fun V hV => parts_form l (by omega) h0 hV), Lib.hid (fun V hV => D4.check2_any l (by omega) hV), Lib.hid (fun V hV => rcheck_any l (by omega) hV), Lib.hid (fun V hV => rshort_any l (by omega) hV), Lib.hid (fun V hV => D4.short2_any l (by omega) hV), .inl ⟨h0, rfl, rfl⟩⟩

set_option maxHeartbeats 32000000 in
set_option maxRecDepth 100000 in
theorem checks_walk {w : World} (A B : ByteArray) (x y : Rat) (n1x n2x : Bool) (a1x a2x : Option Addr) (k1x c1x k2x c2x : Nat) (t1x t2x : Int) (n1y n2y : Bool) (a1y a2y : Option Addr) (k1y c1y k2y c2y : Nat) (t1y t2y : Int) (fx : fitsD 240 x) (fy : fitsD 240 y)
    (hx : ∀ V : World, Below w.heap.size w V → Calls Tryz.prog 36 #[.agg #[.bool n1x, .slice a1x k1x c1x, .int .u8 t1x, .bool n2x, .slice a2x k2x c2x, .int .u8 t2x]] V (RetV V (.string (rt x))))
    (hy : ∀ V : World, Below w.heap.size w V → Calls Tryz.prog 36 #[.agg #[.bool n1y, .slice a1y k1y c1y, .int .u8 t1y, .bool n2y, .slice a2y k2y c2y, .int .u8 t2y]] V (RetV V (.string (rt y)))) (hg : Good w) :
    Calls Tryz.prog 9 #[.string A, .string B, .agg #[.bool n1x, .slice a1x k1x c1x, .int .u8 t1x, .bool n2x, .slice a2x k2x c2x, .int .u8 t2x], .agg #[.bool n1y, .slice a1y k1y c1y, .int .u8 t1y, .bool n2y, .slice a2y k2y c2y, .int .u8 t2y]] w (RetV w (.bool true)) := by
  have la : (A.data.toList.take 60).length ≤ 600 := by rw [List.length_take]; omega
  have lb : (B.data.toList.take 60).length ≤ 600 := by rw [List.length_take]; omega
  have lx : (ratText x).length ≤ 600 := Nat.le_trans (text_le fx) (by omega)
  have ly : (ratText y).length ≤ 600 := Nat.le_trans (text_le fy) (by omega)
  obtain ⟨W, hW, hB, hsz, jx, jy⟩ := entB w 44 44 #[.bool n1x, .slice a1x k1x c1x, .int .u8 t1x, .bool n2x, .slice a2x k2x c2x, .int .u8 t2x] #[.bool n1y, .slice a1y k1y c1y, .int .u8 t1y, .bool n2y, .slice a2y k2y c2y, .int .u8 t2y]
  have HW := Lib.hid hW
  have JX := Lib.hid jx
  have JY := Lib.hid jy
  have HB := Lib.hid hB
  have HG := Lib.hid (fun (V : World) (hV : Below W.heap.size W V) => (hg.below hB).below hV)
  have H1 := Lib.hid (fun (V : World) (hV : Good V) => works_any hV)
  have H4 := Lib.hid (fun (V : World) (hV : Below W.heap.size W V) => four_any (w := V) A B (rt x) (rt y) _ _ _ _ _ _ _ _ _ _ _ _ _ _ _ _ _ _ _ _ (fun V' hV' => hx V' ((hB.trans (hV.mono hB.size)).trans (hV'.mono (hB.trans (hV.mono hB.size)).size))) (fun V' hV' => hy V' ((hB.trans (hV.mono hB.size)).trans (hV'.mono (hB.trans (hV.mono hB.size)).size))))
  have erx : rt x = ⟨(ratText x).toArray⟩ := rfl
  have ery : rt y = ⟨(ratText y).toArray⟩ := rfl
  rw [erx, ery] at H4
  have LA := Lib.hid la
  have LB := Lib.hid lb
  have LX := Lib.hid lx
  have LY := Lib.hid ly
  clear la lb lx ly erx ery hx hy hg hW hB hsz jx jy

  generalize (A.data.toList.take 60) = la at *
  generalize (B.data.toList.take 60) = lb at *
  generalize ratText x = lx at *
  generalize ratText y = ly at *
  go_enter Tryz.func9, Tryz.ntmps9
  go_upto_region 1 with fail
  rw [← HW.out]
  clear HW
  go_wp2_with fail
  refine (H1.out _ (HG.out _ (Below.refl _ _))).mono ?_
  rintro e wn ⟨rfl, b1⟩
  have B1 := Lib.hid b1
  have JX1 := Lib.hid (JX.out.next b1)
  have JY1 := Lib.hid (JY.out.next b1)
  obtain ⟨x0, x1, x2, x3, x4, x5⟩ := JX1.out.at6
  obtain ⟨y0, y1, y2, y3, y4, y5⟩ := JY1.out.at6
  clear b1 H1 JX JY
  go_wp2_with fail
  refine (H4.out _ B1.out).mono ?_
  rintro e wn2 ⟨rfl, b2⟩
  have B2 := Lib.hid (next_below B1.out b2)
  have JX2 := Lib.hid (JX1.out.next b2)
  have JY2 := Lib.hid (JY1.out.next b2)
  clear b2 x0 x1 x2 x3 x4 x5 y0 y1 y2 y3 y4 y5 H4 JX1 JY1 B1
  clear JX2 JY2
  go_wp2
  go_loopg [29] 4 (fun gk u29 wr => ∃ i : Nat, u29 = .int .i64 (i : Int) ∧ i + gk = 4 ∧ Hid (Below W.heap.size W wr))
  case atStart => exact ⟨0, rfl, rfl, B2⟩
  case round =>
    obtain ⟨i, rfl, hi, hK⟩ := hrel
    by_cases hi4 : i < 4
    · have hi5 : (i : Int) < 4 := by omega
      obtain ⟨l0, l1, P0, P1, hP0, hP1, hx, hl0, hl1⟩ : ∃ (l0 l1 : List UInt8) (P0 P1 : ByteArray), P0 = ⟨l0.toArray⟩ ∧ P1 = ⟨l1.toArray⟩ ∧ (∀ X, (Instr.index 46 (.agg #[.string ⟨la.toArray⟩, .string ⟨lb.toArray⟩, .string ⟨la.toArray⟩, .string ⟨ly.toArray⟩, .string ⟨lx.toArray⟩, .string ⟨lb.toArray⟩, .string ⟨lx.toArray⟩, .string ⟨ly.toArray⟩]) (.int .i64 (i : Int))).run Tryz.prog X = .ok (.agg #[.string P0, .string P1]) X) ∧ Hid (l0.length ≤ 600) ∧ Hid (l1.length ≤ 600) := by
        obtain rfl | rfl | rfl | rfl : i = 0 ∨ i = 1 ∨ i = 2 ∨ i = 3 := by omega
        · exact ⟨la, lb, _, _, rfl, rfl, fun X => ixa _ _ _ _ _ _ _ _ X, LA, LB⟩
        · exact ⟨la, ly, _, _, rfl, rfl, fun X => ixb _ _ _ _ _ _ _ _ X, LA, LY⟩
        · exact ⟨lx, lb, _, _, rfl, rfl, fun X => ixc _ _ _ _ _ _ _ _ X, LX, LB⟩
        · exact ⟨lx, ly, _, _, rfl, rfl, fun X => ixd _ _ _ _ _ _ _ _ X, LX, LY⟩
      obtain ⟨Wx, hWx, hBx, hszx, jx⟩ := entA wr 45 #[.string P0, .string P1]
      have K0 := Lib.hid (next_below hK.out hBx)
      have J0 := Lib.hid jx
      have HWX := Lib.hid hWx
      have c0 := jx.cell0
      have c1 := jx.cell1
      have HP0 := Lib.hid hP0
      have HP1 := Lib.hid hP1
      clear hBx hszx jx hWx hP0 hP1
      obtain ⟨C, E, F, HA, HF, hc⟩ := pair_checks l0 l1 hl0.out hl1.out
      rw [← HP0.out, ← HP1.out] at HA HF hc
      clear LA LB LX LY
      have HC := Lib.hid hc
      clear hc
      go_upto_region 6 with fail
      rw [← HWX.out]
      generalize wr.heap.size = gx at *
      clear HWX hK hx
      go_wp2_with fail
      refine (HA.out _ (HG.out _ K0.out)).mono ?_
      rintro e V ⟨rfl, kk⟩
      have K1 := Lib.hid (next_below K0.out kk)
      have J1 := Lib.hid (J0.out.next kk)
      clear kk c0 c1
      have c0 := J1.out.cell0
      have c1 := J1.out.cell1
      go_wp2_with fail
      refine (HF.out _ (HG.out _ K1.out)).mono ?_
      rintro e V ⟨rfl, kk⟩
      have K2 := Lib.hid (next_below K1.out kk)
      have J2 := Lib.hid (J1.out.next kk)
      clear kk c0 c1
      have c0 := J2.out.cell0
      have c1 := J2.out.cell1
      rcases HC.out with ⟨f0, h1, h2⟩ | ⟨f0, h1, H3⟩
      · clear HC HA HF
        subst h1 h2
        go_upto_region 11 with fail
        clear c0 c1
        generalize gk = go at *
        go_loopg [70] 2 (fun gk u70 ws => ∃ j : Nat, u70 = .int .i64 (j : Int) ∧ j + gk = 2 ∧ Hid (Below W.heap.size W ws))
        case atStart => exact ⟨0, rfl, rfl, K2⟩
        case round =>
          obtain ⟨j, rfl, hj, hM⟩ := hrel
          by_cases hj2 : j < 2
          · have hj3 : (j : Int) < 2 := by omega
            obtain ⟨l, PQ, hPQ, hix, hlq⟩ : ∃ (l : List UInt8) (PQ : ByteArray), PQ = ⟨l.toArray⟩ ∧ (∀ X, (Instr.index 45 (.agg #[.string P0, .string P1]) (.int .i64 (j : Int))).run Tryz.prog X = .ok (.string PQ) X) ∧ Hid (l.length ≤ 600) := by
              obtain rfl | rfl : j = 0 ∨ j = 1 := by omega
              · exact ⟨l0, P0, HP0.out, fun X => ix20 _ _ X, hl0⟩
              · exact ⟨l1, P1, HP1.out, fun X => ix21 _ _ X, hl1⟩
            obtain ⟨N, D, E2, B2', HPA, HRC, HCH, HSH, HRS, hone⟩ := one_checks l hlq.out
            rw [← hPQ] at HPA HRC HCH HSH HRS hone
            have HONE := Lib.hid hone
            clear hPQ hlq hone HP0 HP1 hl0 hl1
            have M0 := hM
            go_wp2_with fail
            refine (HPA.out _ (HG.out _ M0.out)).mono ?_
            rintro e V ⟨rfl, kk⟩
            have M1 := Lib.hid (next_below M0.out kk)
            clear kk
            go_wp2_with fail
            refine (HRC.out _ (HG.out _ M1.out)).mono ?_
            rintro e V ⟨rfl, kk⟩
            have M2 := Lib.hid (next_below M1.out kk)
            clear kk
            go_wp2_with fail
            refine (HCH.out _ (HG.out _ M2.out)).mono ?_
            rintro e V ⟨rfl, kk⟩
            have M3 := Lib.hid (next_below M2.out kk)
            clear kk
            go_wp2_with fail
            refine (HSH.out _ (HG.out _ M3.out)).mono ?_
            rintro e V ⟨rfl, kk⟩
            have M4 := Lib.hid (next_below M3.out kk)
            clear kk
            go_wp2_with fail
            refine (HRS.out _ (HG.out _ M4.out)).mono ?_
            rintro e V ⟨rfl, kk⟩
            have M5 := Lib.hid (next_below M4.out kk)
            clear kk
            rcases HONE.out with ⟨e0, h1, h2⟩ | ⟨e0, H1⟩
            · clear HONE HPA HRC HCH HSH HRS
              subst h1 h2
              go_wp2
              go_roundg (gk - 1)
              case rel => exact ⟨j + 1, by go_num, by omega, M5⟩
              case measure => omega
            · clear HONE HPA HRC HCH HSH HRS
              subst e0
              go_wp2_with fail
              refine (H1.out _ (HG.out _ M5.out)).mono ?_
              rintro e V ⟨rfl, kk⟩
              have M6 := Lib.hid (next_below M5.out kk)
              clear kk
              go_wp2
              go_roundg (gk - 1)
              case rel => exact ⟨j + 1, by go_num, by omega, M6⟩
              case measure => omega
          · obtain rfl : j = 2 := by omega
            go_wp2
            go_roundg (go - 1)
            case rel => exact ⟨i + 1, by go_num, by omega, hM⟩
            case measure => omega
      · clear HC HA HF
        subst f0 h1
        go_wp2_with fail
        refine (H3.out _ (HG.out _ K2.out)).mono ?_
        rintro e V ⟨rfl, kk⟩
        have K3 := Lib.hid (next_below K2.out kk)
        have J3 := Lib.hid (J2.out.next kk)
        clear kk c0 c1
        have c0 := J3.out.cell0
        have c1 := J3.out.cell1
        go_upto_region 11 with fail
        clear c0 c1
        generalize gk = go at *
        go_loopg [70] 2 (fun gk u70 ws => ∃ j : Nat, u70 = .int .i64 (j : Int) ∧ j + gk = 2 ∧ Hid (Below W.heap.size W ws))
        case atStart => exact ⟨0, rfl, rfl, K3⟩
        case round =>
          obtain ⟨j, rfl, hj, hM⟩ := hrel
          by_cases hj2 : j < 2
          · have hj3 : (j : Int) < 2 := by omega
            obtain ⟨l, PQ, hPQ, hix, hlq⟩ : ∃ (l : List UInt8) (PQ : ByteArray), PQ = ⟨l.toArray⟩ ∧ (∀ X, (Instr.index 45 (.agg #[.string P0, .string P1]) (.int .i64 (j : Int))).run Tryz.prog X = .ok (.string PQ) X) ∧ Hid (l.length ≤ 600) := by
              obtain rfl | rfl : j = 0 ∨ j = 1 := by omega
              · exact ⟨l0, P0, HP0.out, fun X => ix20 _ _ X, hl0⟩
              · exact ⟨l1, P1, HP1.out, fun X => ix21 _ _ X, hl1⟩
            obtain ⟨N, D, E2, B2', HPA, HRC, HCH, HSH, HRS, hone⟩ := one_checks l hlq.out
            rw [← hPQ] at HPA HRC HCH HSH HRS hone
            have HONE := Lib.hid hone
            clear hPQ hlq hone HP0 HP1 hl0 hl1
            have M0 := hM
            go_wp2_with fail
            refine (HPA.out _ (HG.out _ M0.out)).mono ?_
            rintro e V ⟨rfl, kk⟩
            have M1 := Lib.hid (next_below M0.out kk)
            clear kk
            go_wp2_with fail
            refine (HRC.out _ (HG.out _ M1.out)).mono ?_
            rintro e V ⟨rfl, kk⟩
            have M2 := Lib.hid (next_below M1.out kk)
            clear kk
            go_wp2_with fail
            refine (HCH.out _ (HG.out _ M2.out)).mono ?_
            rintro e V ⟨rfl, kk⟩
            have M3 := Lib.hid (next_below M2.out kk)
            clear kk
            go_wp2_with fail
            refine (HSH.out _ (HG.out _ M3.out)).mono ?_
            rintro e V ⟨rfl, kk⟩
            have M4 := Lib.hid (next_below M3.out kk)
            clear kk
            go_wp2_with fail
            refine (HRS.out _ (HG.out _ M4.out)).mono ?_
            rintro e V ⟨rfl, kk⟩
            have M5 := Lib.hid (next_below M4.out kk)
            clear kk
            rcases HONE.out with ⟨e0, h1, h2⟩ | ⟨e0, H1⟩
            · clear HONE HPA HRC HCH HSH HRS
              subst h1 h2
              go_wp2
              go_roundg (gk - 1)
              case rel => exact ⟨j + 1, by go_num, by omega, M5⟩
              case measure => omega
            · clear HONE HPA HRC HCH HSH HRS
              subst e0
              go_wp2_with fail
              refine (H1.out _ (HG.out _ M5.out)).mono ?_
              rintro e V ⟨rfl, kk⟩
              have M6 := Lib.hid (next_below M5.out kk)
              clear kk
              go_wp2
              go_roundg (gk - 1)
              case rel => exact ⟨j + 1, by go_num, by omega, M6⟩
              case measure => omega
          · obtain rfl : j = 2 := by omega
            go_wp2
            go_roundg (go - 1)
            case rel => exact ⟨i + 1, by go_num, by omega, hM⟩
            case measure => omega
    · obtain rfl : i = 4 := by omega
      go_wp2
      go_ret
      exact ⟨rfl, HB.out.trans (hK.out.mono HB.out.size)⟩
theorem checks_law {w : World} (A B : ByteArray) {v1 v2 : Value} (h1 : DraftAt w v1) (h2 : DraftAt w v2) (hg : Good w) : Calls Tryz.prog 9 #[.string A, .string B, v1, v2] w (RetV w (.bool true)) := by
  obtain ⟨n1x, n2x, a1x, a2x, k1x, c1x, k2x, c2x, t1x, t2x, x, rfl, fx, hx⟩ := h1.q
  obtain ⟨n1y, n2y, a1y, a2y, k1y, c1y, k2y, c2y, t1y, t2y, y, rfl, fy, hy⟩ := h2.q
  exact checks_walk A B x y _ _ _ _ _ _ _ _ _ _ _ _ _ _ _ _ _ _ _ _ fx fy (fun V hV => hx V hV (hg.below hV)) (fun V hV => hy V hV (hg.below hV)) hg
end Go.Proofs.YtabdnjakmhnnfaaGreatDoor
