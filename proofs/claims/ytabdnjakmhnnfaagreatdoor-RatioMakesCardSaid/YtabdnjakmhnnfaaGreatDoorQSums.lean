/- RatioSums: the walk. -/
import Derived.Test.YtabdnjakmhnnfaaGreatDoorQLaw
import Derived.Test.YtabdnjakmhnnfaaGreatDoorQOpen
set_option linter.unusedSimpArgs false
set_option linter.unusedVariables false
namespace Go.Proofs.YtabdnjakmhnnfaaGreatDoor
open Go.RowKit
open Go.Lib (decDigits itoa nDigits)
open D4 (rt it Mid)

theorem ixa (A B C D E F G H : ByteArray) (X : World) : (Instr.index 46 (.agg #[.string A, .string B, .string C, .string D, .string E, .string F, .string G, .string H]) (.int .i64 0)).run Tryz.prog X = .ok (.agg #[.string A, .string B]) X := by kernel_rfl
theorem ixb (A B C D E F G H : ByteArray) (X : World) : (Instr.index 46 (.agg #[.string A, .string B, .string C, .string D, .string E, .string F, .string G, .string H]) (.int .i64 1)).run Tryz.prog X = .ok (.agg #[.string C, .string D]) X := by kernel_rfl
theorem ixc (A B C D E F G H : ByteArray) (X : World) : (Instr.index 46 (.agg #[.string A, .string B, .string C, .string D, .string E, .string F, .string G, .string H]) (.int .i64 2)).run Tryz.prog X = .ok (.agg #[.string E, .string F]) X := by kernel_rfl
theorem ixd (A B C D E F G H : ByteArray) (X : World) : (Instr.index 46 (.agg #[.string A, .string B, .string C, .string D, .string E, .string F, .string G, .string H]) (.int .i64 3)).run Tryz.prog X = .ok (.agg #[.string G, .string H]) X := by kernel_rfl
theorem text_le {k : Nat} {x : Rat} (h : fitsD k x) : (ratText x).length ≤ k + k + 2 := by
  unfold ratText
  rw [List.length_append]
  have h1 := itoa_len x.num
  have h2 := h.1
  have h3 := h.2
  have h4 := Lib.decDigits_length x.den
  split
  · simp; omega
  · simp; omega
theorem pair_good {la lb : List UInt8} (h : failE la lb = 0) : rerr la = 0 ∧ rerr lb = 0 := by
  unfold failE at h
  by_cases h0 : rerr la = 0
  · rw [if_pos h0] at h; exact ⟨h0, h⟩
  · rw [if_neg h0] at h; exact absurd h h0
theorem pair_bad {la lb : List UInt8} (z : Rat) (h : failE la lb ≠ 0) : opE z la lb = failE la lb ∧ opT z la lb = [] := by
  have h1 : opE z la lb = failE la lb := by
    unfold failE at h ⊢
    unfold opE
    by_cases h0 : rerr la = 0
    · rw [if_pos h0] at h ⊢; rw [if_pos h0, if_neg h]
    · rw [if_neg h0, if_neg h0]
  exact ⟨h1, by unfold opT; rw [if_neg (by rw [h1]; exact h)]⟩
theorem op_tell {la lb : List UInt8} (z : Rat) (h : failE la lb = 0) : (.tuple #[.string ⟨(opT z la lb).toArray⟩, .int .i64 (opE z la lb)] : Value) = tellV z := by
  have hh := op_val z la lb
  rw [if_pos (pair_good h).1, if_pos (pair_good h).2] at hh
  exact hh.symm
theorem canon_rt {l : List UInt8} (h : rerr l = 0) : (⟨l.toArray⟩ : ByteArray) = rt (rval l) := by
  have hl := rerr_canon (l := l) (by omega)
  conv => lhs; rw [hl]
  rfl

/-- What the sums of two texts are. -/
theorem pair_sums (l0 l1 : List UInt8) (h0 : l0.length ≤ 600) (h1 : l1.length ≤ 600) : ∃ (T1 T2 RS RD : ByteArray) (E1 E2 F : Int),
    Hid (∀ V : World, Good V → Calls Tryz.prog 19 #[.string ⟨l0.toArray⟩, .string ⟨l1.toArray⟩] V (RetV V (.tuple #[.string T1, .int .i64 E1]))) ∧
    Hid (∀ V : World, Good V → Calls Tryz.prog 27 #[.string ⟨l0.toArray⟩, .string ⟨l1.toArray⟩] V (RetV V (.tuple #[.string T2, .int .i64 E2]))) ∧
    Hid (∀ V : World, Good V → Calls Tryz.prog 28 #[.string ⟨l0.toArray⟩, .string ⟨l1.toArray⟩] V (RetV V (.int .i64 F))) ∧
    ((F ≠ 0 ∧ T1 = ⟨#[]⟩ ∧ T2 = ⟨#[]⟩ ∧ E1 = F ∧ E2 = F) ∨
      (F = 0 ∧ Hid (∀ V : World, Good V → Calls Tryz.prog 30 #[.string ⟨l0.toArray⟩, .string ⟨l1.toArray⟩] V (RetV V (.string RS))) ∧
        Hid (∀ V : World, Good V → Calls Tryz.prog 31 #[.string ⟨l0.toArray⟩, .string ⟨l1.toArray⟩] V (RetV V (.string RD))) ∧
        Hid (∀ V : World, Good V → Calls Tryz.prog 29 #[.string T1, .int .i64 E1, .string RS] V (RetV V (.bool true))) ∧
        Hid (∀ V : World, Good V → Calls Tryz.prog 29 #[.string T2, .int .i64 E2, .string RD] V (RetV V (.bool true))))) := by
  refine ⟨⟨(opT (rval l0 + rval l1) l0 l1).toArray⟩, ⟨(opT (rval l0 - rval l1) l0 l1).toArray⟩, rt (rval l0 + rval l1), rt (rval l0 - rval l1), opE (rval l0 + rval l1) l0 l1, opE (rval l0 - rval l1) l0 l1, failE l0 l1,
    Lib.hid (fun V hV => radd_any (by omega) (by omega) hV), Lib.hid (fun V hV => rsub_any (by omega) (by omega) hV), Lib.hid (fun V hV => failed_any l0 l1 (by omega) (by omega) hV), ?_⟩
  by_cases hF : failE l0 l1 = 0
  · obtain ⟨g0, g1⟩ := pair_good hF
    have f0 := rerr_fits g0
    have f1 := rerr_fits g1
    have m0 : Mid (rval l0) := fits_up f0 (by omega)
    have m1 : Mid (rval l1) := fits_up f1 (by omega)
    have fs : fitsD 40000 (rval l0 + rval l1) := fits_up (fits_add f0 f1) (by omega)
    have fn1 : fitsD 2000 (-rval l1) := ⟨by rw [Rat.neg_num, Int.natAbs_neg]; exact f1.1, by rw [Rat.neg_den]; exact f1.2⟩
    have fd : fitsD 40000 (rval l0 - rval l1) := by
      rw [Rat.sub_eq_add_neg]; exact fits_up (fits_add f0 fn1) (by omega)
    refine .inr ⟨hF, Lib.hid (fun V hV => ?_), Lib.hid (fun V hV => ?_), Lib.hid (fun V hV => ltold_any fs (op_tell _ hF)), Lib.hid (fun V hV => ltold_any fd (op_tell _ hF))⟩
    · rw [canon_rt g0, canon_rt g1]; exact D4.add_rt m0 m1 hV
    · rw [canon_rt g0, canon_rt g1]; exact D4.sub_rt m0 m1 hV
  · exact .inl ⟨hF, by rw [(pair_bad _ hF).2], by rw [(pair_bad _ hF).2], (pair_bad _ hF).1, (pair_bad _ hF).1⟩

set_option maxHeartbeats 32000000 in
set_option maxRecDepth 100000 in
theorem sums_walk {w : World} (A B : ByteArray) (x y : Rat) (n1x n2x : Bool) (a1x a2x : Option Addr) (k1x c1x k2x c2x : Nat) (t1x t2x : Int) (n1y n2y : Bool) (a1y a2y : Option Addr) (k1y c1y k2y c2y : Nat) (t1y t2y : Int) (fx : fitsD 240 x) (fy : fitsD 240 y)
    (hx : ∀ V : World, Below w.heap.size w V → Calls Tryz.prog 36 #[.agg #[.bool n1x, .slice a1x k1x c1x, .int .u8 t1x, .bool n2x, .slice a2x k2x c2x, .int .u8 t2x]] V (RetV V (.string (rt x))))
    (hy : ∀ V : World, Below w.heap.size w V → Calls Tryz.prog 36 #[.agg #[.bool n1y, .slice a1y k1y c1y, .int .u8 t1y, .bool n2y, .slice a2y k2y c2y, .int .u8 t2y]] V (RetV V (.string (rt y)))) (hg : Good w) :
    Calls Tryz.prog 4 #[.string A, .string B, .agg #[.bool n1x, .slice a1x k1x c1x, .int .u8 t1x, .bool n2x, .slice a2x k2x c2x, .int .u8 t2x], .agg #[.bool n1y, .slice a1y k1y c1y, .int .u8 t1y, .bool n2y, .slice a2y k2y c2y, .int .u8 t2y]] w (RetV w (.bool true)) := by
  have la : (A.data.toList.take 60).length ≤ 600 := by rw [List.length_take]; omega
  have lb : (B.data.toList.take 60).length ≤ 600 := by rw [List.length_take]; omega
  have lx : (ratText x).length ≤ 600 := Nat.le_trans (text_le fx) (by omega)
  have ly : (ratText y).length ≤ 600 := Nat.le_trans (text_le fy) (by omega)
  obtain ⟨W, hW, hB, hsz, jx, jy⟩ := entB w 44 44 #[.bool n1x, .slice a1x k1x c1x, .int .u8 t1x, .bool n2x, .slice a2x k2x c2x, .int .u8 t2x] #[.bool n1y, .slice a1y k1y c1y, .int .u8 t1y, .bool n2y, .slice a2y k2y c2y, .int .u8 t2y]
  have HW := Lib.hid hW
  have JX := Lib.hid jx
  have JY := Lib.hid jy
  have HB := Lib.hid hB
  have HG := Lib.hid (fun (V : World) (hV : Below W.heap.size W V) => (hg.below hB).below hV)
  have H1 := Lib.hid (fun (V : World) (hV : Good V) => works_any hV)
  have H4 := Lib.hid (fun (V : World) (hV : Below W.heap.size W V) => four_any (w := V) A B (rt x) (rt y) _ _ _ _ _ _ _ _ _ _ _ _ _ _ _ _ _ _ _ _ (fun V' hV' => hx V' ((hB.trans (hV.mono hB.size)).trans (hV'.mono (hB.trans (hV.mono hB.size)).size))) (fun V' hV' => hy V' ((hB.trans (hV.mono hB.size)).trans (hV'.mono (hB.trans (hV.mono hB.size)).size))))
  have erx : rt x = ⟨(ratText x).toArray⟩ := rfl
  have ery : rt y = ⟨(ratText y).toArray⟩ := rfl
  rw [erx, ery] at H4
  have LA := Lib.hid la
  have LB := Lib.hid lb
  have LX := Lib.hid lx
  have LY := Lib.hid ly
  clear la lb lx ly erx ery hx hy hg hW hB hsz jx jy

  generalize (A.data.toList.take 60) = la at *
  generalize (B.data.toList.take 60) = lb at *
  generalize ratText x = lx at *
  generalize ratText y = ly at *
  go_enter Tryz.func4, Tryz.ntmps4
  go_upto_region 1 with fail
  rw [← HW.out]
  clear HW
  go_wp2_with fail
  refine (H1.out _ (HG.out _ (Below.refl _ _))).mono ?_
  rintro e wn ⟨rfl, b1⟩
  have B1 := Lib.hid b1
  have JX1 := Lib.hid (JX.out.next b1)
  have JY1 := Lib.hid (JY.out.next b1)
  obtain ⟨x0, x1, x2, x3, x4, x5⟩ := JX1.out.at6
  obtain ⟨y0, y1, y2, y3, y4, y5⟩ := JY1.out.at6
  clear b1 H1 JX JY
  go_wp2_with fail
  refine (H4.out _ B1.out).mono ?_
  rintro e wn2 ⟨rfl, b2⟩
  have B2 := Lib.hid (next_below B1.out b2)
  have JX2 := Lib.hid (JX1.out.next b2)
  have JY2 := Lib.hid (JY1.out.next b2)
  clear b2 x0 x1 x2 x3 x4 x5 y0 y1 y2 y3 y4 y5 H4 JX1 JY1 B1
  clear JX2 JY2
  go_wp2
  go_loopg [23] 4 (fun gk u23 wr => ∃ i : Nat, u23 = .int .i64 (i : Int) ∧ i + gk = 4 ∧ Hid (Below W.heap.size W wr))
  case atStart => exact ⟨0, rfl, rfl, B2⟩
  case round =>
    obtain ⟨i, rfl, hi, hK⟩ := hrel
    by_cases hi4 : i < 4
    · have hi5 : (i : Int) < 4 := by omega
      obtain ⟨l0, l1, P0, P1, hP0, hP1, hx, hl0, hl1⟩ : ∃ (l0 l1 : List UInt8) (P0 P1 : ByteArray), P0 = ⟨l0.toArray⟩ ∧ P1 = ⟨l1.toArray⟩ ∧ (∀ X, (Instr.index 46 (.agg #[.string ⟨la.toArray⟩, .string ⟨lb.toArray⟩, .string ⟨la.toArray⟩, .string ⟨ly.toArray⟩, .string ⟨lx.toArray⟩, .string ⟨lb.toArray⟩, .string ⟨lx.toArray⟩, .string ⟨ly.toArray⟩]) (.int .i64 (i : Int))).run Tryz.prog X = .ok (.agg #[.string P0, .string P1]) X) ∧ Hid (l0.length ≤ 600) ∧ Hid (l1.length ≤ 600) := by
        obtain rfl | rfl | rfl | rfl : i = 0 ∨ i = 1 ∨ i = 2 ∨ i = 3 := by omega
        · exact ⟨la, lb, _, _, rfl, rfl, fun X => ixa _ _ _ _ _ _ _ _ X, LA, LB⟩
        · exact ⟨la, ly, _, _, rfl, rfl, fun X => ixb _ _ _ _ _ _ _ _ X, LA, LY⟩
        · exact ⟨lx, lb, _, _, rfl, rfl, fun X => ixc _ _ _ _ _ _ _ _ X, LX, LB⟩
        · exact ⟨lx, ly, _, _, rfl, rfl, fun X => ixd _ _ _ _ _ _ _ _ X, LX, LY⟩
      obtain ⟨Wx, hWx, hBx, hszx, jx⟩ := entA wr 45 #[.string P0, .string P1]
      have K0 := Lib.hid (next_below hK.out hBx)
      have J0 := Lib.hid jx
      have HWX := Lib.hid hWx
      have c0 := jx.cell0
      have c1 := jx.cell1
      have HP0 := Lib.hid hP0
      have HP1 := Lib.hid hP1
      clear hBx hszx jx hWx hP0 hP1
      obtain ⟨T1, T2, RS, RD, E1, E2, F, HA, HS, HF, hc⟩ := pair_sums l0 l1 hl0.out hl1.out
      rw [← HP0.out, ← HP1.out] at HA HS HF hc
      clear HP0 HP1 hl0 hl1 LA LB LX LY
      have HC := Lib.hid hc
      clear hc
      go_upto_region 6 with fail
      rw [← HWX.out]
      generalize wr.heap.size = gx at *
      clear HWX hK hx
      go_wp2_with fail
      refine (HA.out _ (HG.out _ K0.out)).mono ?_
      rintro e V ⟨rfl, kk⟩
      have K1 := Lib.hid (next_below K0.out kk)
      have J1 := Lib.hid (J0.out.next kk)
      clear kk c0 c1
      have c0 := J1.out.cell0
      have c1 := J1.out.cell1
      go_wp2_with fail
      refine (HS.out _ (HG.out _ K1.out)).mono ?_
      rintro e V ⟨rfl, kk⟩
      have K2 := Lib.hid (next_below K1.out kk)
      have J2 := Lib.hid (J1.out.next kk)
      clear kk c0 c1
      have c0 := J2.out.cell0
      have c1 := J2.out.cell1
      go_wp2_with fail
      refine (HF.out _ (HG.out _ K2.out)).mono ?_
      rintro e V ⟨rfl, kk⟩
      have K3 := Lib.hid (next_below K2.out kk)
      have J3 := Lib.hid (J2.out.next kk)
      clear kk c0 c1
      have c0 := J3.out.cell0
      have c1 := J3.out.cell1
      rcases HC.out with ⟨f0, h1, h2, h3, h4⟩ | ⟨f0, H1, H2, H3, H4⟩
      · clear HC HA HS HF
        subst h1 h2 h3 h4
        go_wp2
        go_roundg (gk - 1)
        case rel => exact ⟨i + 1, by go_num, by omega, K3⟩
        case measure => omega
      · clear HC HA HS HF
        subst f0
        go_wp2_with fail
        refine (H1.out _ (HG.out _ K3.out)).mono ?_
        rintro e V ⟨rfl, kk⟩
        have K4 := Lib.hid (next_below K3.out kk)
        have J4 := Lib.hid (J3.out.next kk)
        clear kk c0 c1
        have c0 := J4.out.cell0
        have c1 := J4.out.cell1
        go_wp2_with fail
        refine (H3.out _ (HG.out _ K4.out)).mono ?_
        rintro e V ⟨rfl, kk⟩
        have K5 := Lib.hid (next_below K4.out kk)
        have J5 := Lib.hid (J4.out.next kk)
        clear kk c0 c1
        have c0 := J5.out.cell0
        have c1 := J5.out.cell1
        go_wp2_with fail
        refine (H2.out _ (HG.out _ K5.out)).mono ?_
        rintro e V ⟨rfl, kk⟩
        have K6 := Lib.hid (next_below K5.out kk)
        have J6 := Lib.hid (J5.out.next kk)
        clear kk c0 c1
        have c0 := J6.out.cell0
        have c1 := J6.out.cell1
        go_wp2_with fail
        refine (H4.out _ (HG.out _ K6.out)).mono ?_
        rintro e V ⟨rfl, kk⟩
        have K7 := Lib.hid (next_below K6.out kk)
        have J7 := Lib.hid (J6.out.next kk)
        clear kk c0 c1
        have c0 := J7.out.cell0
        have c1 := J7.out.cell1
        go_wp2
        go_roundg (gk - 1)
        case rel => exact ⟨i + 1, by go_num, by omega, K7⟩
        case measure => omega
    · obtain rfl : i = 4 := by omega
      go_wp2
      go_ret
      exact ⟨rfl, HB.out.trans (hK.out.mono HB.out.size)⟩
theorem sums_law {w : World} (A B : ByteArray) {v1 v2 : Value} (h1 : DraftAt w v1) (h2 : DraftAt w v2) (hg : Good w) : Calls Tryz.prog 4 #[.string A, .string B, v1, v2] w (RetV w (.bool true)) := by
  obtain ⟨n1x, n2x, a1x, a2x, k1x, c1x, k2x, c2x, t1x, t2x, x, rfl, fx, hx⟩ := h1.q
  obtain ⟨n1y, n2y, a1y, a2y, k1y, c1y, k2y, c2y, t1y, t2y, y, rfl, fy, hy⟩ := h2.q
  exact sums_walk A B x y _ _ _ _ _ _ _ _ _ _ _ _ _ _ _ _ _ _ _ _ fx fy (fun V hV => hx V hV (hg.below hV)) (fun V hV => hy V hV (hg.below hV)) hg
end Go.Proofs.YtabdnjakmhnnfaaGreatDoor
