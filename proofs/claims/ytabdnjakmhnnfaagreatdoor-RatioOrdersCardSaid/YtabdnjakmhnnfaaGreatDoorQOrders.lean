/- RatioOrders: the walk. -/
import Derived.Test.YtabdnjakmhnnfaaGreatDoorQOrdM
import Derived.Test.YtabdnjakmhnnfaaGreatDoorQOpen
import Derived.Deep.CutRange
set_option linter.unusedSimpArgs false
set_option linter.unusedVariables false
namespace Go.Proofs.YtabdnjakmhnnfaaGreatDoor
open Go.RowKit
open Go.Lib (decDigits itoa nDigits)
open D4 (rt it)

theorem ba_inj {a b : ByteArray} (h : a.toList = b.toList) : a = b := by
  have e : ∀ x : ByteArray, x.toList = x.data.toList := fun x => by have := ba_list x.data.toList; simpa using this
  exact ba_ext (by rw [← e, ← e]; exact h)
set_option maxHeartbeats 32000000 in
set_option maxRecDepth 100000 in
theorem orders_walk {w : World} (x y : Rat) (n1x n2x : Bool) (a1x a2x : Option Addr) (k1x c1x k2x c2x : Nat) (t1x t2x : Int) (n1y n2y : Bool) (a1y a2y : Option Addr) (k1y c1y k2y c2y : Nat) (t1y t2y : Int) (k : Int) (k0 : 0 ≤ k) (k1 : k ≤ 255) (fx : fitsD 240 x) (fy : fitsD 240 y)
    (hx : ∀ V : World, Below w.heap.size w V → Good V → Calls Tryz.prog 36 #[.agg #[.bool n1x, .slice a1x k1x c1x, .int .u8 t1x, .bool n2x, .slice a2x k2x c2x, .int .u8 t2x]] V (RetV V (.string (rt x))))
    (hy : ∀ V : World, Below w.heap.size w V → Good V → Calls Tryz.prog 36 #[.agg #[.bool n1y, .slice a1y k1y c1y, .int .u8 t1y, .bool n2y, .slice a2y k2y c2y, .int .u8 t2y]] V (RetV V (.string (rt y)))) (hg : Good w) :
    Calls Tryz.prog 11 #[.agg #[.bool n1x, .slice a1x k1x c1x, .int .u8 t1x, .bool n2x, .slice a2x k2x c2x, .int .u8 t2x], .agg #[.bool n1y, .slice a1y k1y c1y, .int .u8 t1y, .bool n2y, .slice a2y k2y c2y, .int .u8 t2y], .int .u8 k] w (RetV w (.bool true)) := by
  obtain ⟨W, hW, hB, hsz, jx, jy⟩ := entB w 44 44 #[.bool n1x, .slice a1x k1x c1x, .int .u8 t1x, .bool n2x, .slice a2x k2x c2x, .int .u8 t2x] #[.bool n1y, .slice a1y k1y c1y, .int .u8 t1y, .bool n2y, .slice a2y k2y c2y, .int .u8 t2y]
  have HW := Lib.hid hW
  have JX := Lib.hid jx
  have JY := Lib.hid jy
  have HB := Lib.hid hB
  have HG := Lib.hid (fun (V : World) (hV : Below W.heap.size W V) => (hg.below hB).below hV)
  have H1 := Lib.hid (fun (V : World) (hV : Good V) => works_any hV)
  have HX := Lib.hid (fun (V : World) (hV : Below W.heap.size W V) => hx V (hB.trans (hV.mono hB.size)) ((hg.below hB).below hV))
  have HY := Lib.hid (fun (V : World) (hV : Below W.heap.size W V) => hy V (hB.trans (hV.mono hB.size)) ((hg.below hB).below hV))
  obtain ⟨p, hp⟩ := Int.eq_ofNat_of_zero_le (show 0 ≤ k % 20 by omega)
  have hp20 : p < 20 := by omega
  obtain ⟨D, C, B, S1, S2, S3, S4, hc1⟩ := cmp_parts fx fy
  obtain ⟨L, H, O, Pv, Qv, R1, R2, R3, R4, R5, hc2⟩ := round_parts fx
  obtain ⟨T, R, LB, TB, Z, NE, FA, U, ng, zb, LE, D1, D2, D3, D4_, D5, D6, D7, D8, D9, hle, hzs, htb, hc3⟩ := decimal_parts fx p hp20
  have HC1 := Lib.hid hc1
  have HC2 := Lib.hid hc2
  have HC3 := Lib.hid hc3
  have HP := Lib.hid hp
  generalize rt x = RX at *
  generalize rt y = RY at *
  clear hW hB jx jy hx hy hg hsz fx fy hc1 hc2 hc3 hp
  go_enter Tryz.func11, Tryz.ntmps11
  go_upto_region 1 with fail
  rw [← HW.out]
  clear HW
  go_upto_region 3 with (go_at_call 12; refine (H1.out _ (HG.out _ (Below.refl _ _))).mono ?_; rintro e V ⟨rfl, kk⟩)
  have K1 := Lib.hid kk
  have JX1 := Lib.hid (JX.out.next kk)
  have JY1 := Lib.hid (JY.out.next kk)
  clear kk
  have hB0 : Below V.heap.size V V.drew := (Below.refl _ _).drew
  refine wp_region_list 4 (by kernel_rfl) (by kernel_rfl) [] [fun v _ => v = .agg #[.bool n1x, .slice a1x k1x c1x, .int .u8 t1x, .bool n2x, .slice a2x k2x c2x, .int .u8 t2x], fun v _ => v = .string RX, fun v _ => v = .agg #[.bool n1y, .slice a1y k1y c1y, .int .u8 t1y, .bool n2y, .slice a2y k2y c2y, .int .u8 t2y], fun v _ => v = .string RY] (by simp only [List.take_succ_cons, List.take_zero]; rfl) (by simp only [List.drop_succ_cons, List.drop_zero]; rfl) (fun vals => by simp only [fam, Act.put, List.setIfInBounds_toArray, List.set_cons_zero, List.set_cons_succ, if_true]; rfl) (by repeat' (first | exact Stab.eq _ _ | exact Stab.wh _ _ | exact Stab.nm _ _ | exact Stab.new _ _ | exact Stab.newn _ _ | exact Stab.tw _ _ _ | exact Stab.lm _ _ _ | exact Stab.onet _ _ _ | exact trivial | apply And.intro)) trivial ?_ ?_
  · refine ⟨?_, ?_, ?_, ?_, trivial⟩
    all_goals
      intro vals w1 hB1 hp
      dsimp only
      (try simp [preOk, Region.binds, D4.anygc, D4.anytext] at hp)
      have hb := next_below hB0 hB1
      have kb := next_below K1.out hb
      clear hB1
    case refine_1 =>
      obtain ⟨y0, y1, y2, y3, y4, y5⟩ := (JX1.out.next hb).at6
      go_wp2
      (first | exact ⟨rfl, _, rfl, rfl, Below.refl _ _, trivial⟩ | (refine ⟨rfl, _, ?_, rfl, Below.refl _ _, trivial⟩; simp only [Act.put, List.setIfInBounds_toArray, List.set_cons_zero, List.set_cons_succ, hp]))
    case refine_2 =>
      have a0 : vals 0 = .agg #[.bool n1x, .slice a1x k1x c1x, .int .u8 t1x, .bool n2x, .slice a2x k2x c2x, .int .u8 t2x] := by first | exact hp.1 | exact hp
      clear hp
      generalize vals 0 = z0 at *
      subst a0
      go_wp2_with (go_at_call 36; refine (HX.out _ kb).mono ?_; rintro e w5 ⟨rfl, hb5⟩)
      exact ⟨rfl, _, rfl, rfl, hb5, trivial⟩
    case refine_3 =>
      obtain ⟨y0, y1, y2, y3, y4, y5⟩ := (JY1.out.next hb).at6
      go_wp2
      (first | exact ⟨rfl, _, rfl, rfl, Below.refl _ _, trivial⟩ | (refine ⟨rfl, _, ?_, rfl, Below.refl _ _, trivial⟩; simp only [Act.put, List.setIfInBounds_toArray, List.set_cons_zero, List.set_cons_succ, hp]))
    case refine_4 =>
      have a0 : vals 2 = .agg #[.bool n1y, .slice a1y k1y c1y, .int .u8 t1y, .bool n2y, .slice a2y k2y c2y, .int .u8 t2y] := by first | exact hp.1 | exact hp
      clear hp
      generalize vals 2 = z2 at *
      subst a0
      go_wp2_with (go_at_call 36; refine (HY.out _ kb).mono ?_; rintro e w5 ⟨rfl, hb5⟩)
      exact ⟨rfl, _, rfl, rfl, hb5, trivial⟩
  · rintro vals w1 hB1 ⟨z0, z1, z2, z3, _⟩ hne
    have hG := Lib.hid (next_below K1.out (next_below hB0 hB1))
    have y1 := z1
    have y3 := z3
    (try dsimp only at y1 y3)
    generalize vals 1 = v1 at *
    subst y1
    generalize vals 3 = v3 at *
    subst y3


    clear hne z0 z1 z2 z3 hB1 hB0 K1 JX JY JX1 JY1 HX HY H1
    go_wp2_with fail
    refine (S1.out _ (HG.out _ hG.out)).mono ?_; rintro e wn ⟨rfl, hb⟩; replace hG := Lib.hid (next_below hG.out hb); clear hb S1
    go_wp2_with fail
    refine (S2.out _ (HG.out _ hG.out)).mono ?_; rintro e wn ⟨rfl, hb⟩; replace hG := Lib.hid (next_below hG.out hb); clear hb S2
    go_wp2_with fail
    refine (S3.out _ (HG.out _ hG.out)).mono ?_; rintro e wn ⟨rfl, hb⟩; replace hG := Lib.hid (next_below hG.out hb); clear hb S3
    go_wp2_with fail
    refine (S4.out _ (HG.out _ hG.out)).mono ?_; rintro e wn ⟨rfl, hb⟩; replace hG := Lib.hid (next_below hG.out hb); clear hb S4
    go_upto_region 8 with fail
    go_cut [104] from 999 to 999 (fun c wx => c = .bool false ∧ Hid (Below W.heap.size W wx))
    case first =>
      rcases HC1.out with ⟨h1, h2, h3⟩ | ⟨h1, h2, h3⟩ | ⟨h1, h2, h3⟩
      · subst h1 h2 h3
        go_wp2
        go_meet
        case rel => exact ⟨rfl, hG⟩
      · subst h1 h2
        have h4 : (RX.toList == RY.toList) = false := by
          rw [beq_eq_false_iff_ne]; intro e
          exact h3 (ba_inj e)
        go_wp2
        go_meet
        case rel => exact ⟨rfl, hG⟩
      · subst h1 h2
        have h4 : (RX.toList == RY.toList) = false := by
          rw [beq_eq_false_iff_ne]; intro e
          exact h3 (ba_inj e)
        go_wp2
        go_meet
        case rel => exact ⟨rfl, hG⟩
    case rest =>
      obtain ⟨rfl, hG2⟩ := hcut
      replace hG := hG2
      clear hG2 HC1
      go_wp2_with fail
      refine (R1.out _ (HG.out _ hG.out)).mono ?_; rintro e wn ⟨rfl, hb⟩; replace hG := Lib.hid (next_below hG.out hb); clear hb R1
      go_wp2_with fail
      refine (R2.out _ (HG.out _ hG.out)).mono ?_; rintro e wn ⟨rfl, hb⟩; replace hG := Lib.hid (next_below hG.out hb); clear hb R2
      go_wp2_with fail
      refine (R3.out _ (HG.out _ hG.out)).mono ?_; rintro e wn ⟨rfl, hb⟩; replace hG := Lib.hid (next_below hG.out hb); clear hb R3
      go_wp2_with fail
      refine (R4.out _ (HG.out _ hG.out)).mono ?_; rintro e wn ⟨rfl, hb⟩; replace hG := Lib.hid (next_below hG.out hb); clear hb R4
      go_wp2_with fail
      refine (R5.out _ (HG.out _ hG.out)).mono ?_; rintro e wn ⟨rfl, hb⟩; replace hG := Lib.hid (next_below hG.out hb); clear hb R5
      go_upto_region 15 with fail
      go_cut [174] from 999 to 999 (fun c wx => c = .bool false ∧ Hid (Below W.heap.size W wx))
      case first =>
        rcases HC2.out with ⟨h1, h2, h3, h4⟩ | ⟨h1, h2, h3, h4⟩
        · subst h1 h2 h3 h4
          go_wp2
          go_meet
          case rel => exact ⟨rfl, hG⟩
        · subst h1 h2 h3
          have h5 : (L.toList == RX.toList) = false := by
            rw [beq_eq_false_iff_ne]; intro e
            exact h4 (ba_inj e)
          go_wp2
          go_meet
          case rel => exact ⟨rfl, hG⟩
      case rest =>
        obtain ⟨rfl, hG2⟩ := hcut
        replace hG := hG2
        clear hG2 HC2
        have hkp := HP.out
        have hp30 : (p : Int) < 20 := by omega
        go_wp2_with fail
        refine (D1.out _ (HG.out _ hG.out)).mono ?_; rintro e wn ⟨rfl, hb⟩; replace hG := Lib.hid (next_below hG.out hb); clear hb D1
        go_wp2_with fail
        refine (D2.out _ (HG.out _ hG.out)).mono ?_; rintro e wn ⟨rfl, hb⟩; replace hG := Lib.hid (next_below hG.out hb); clear hb D2
        go_wp2_with fail
        refine (D3.out _ (HG.out _ hG.out)).mono ?_; rintro e wn ⟨rfl, hb⟩; replace hG := Lib.hid (next_below hG.out hb); clear hb D3
        go_wp2_with fail
        refine (D4_.out _ (HG.out _ hG.out)).mono ?_; rintro e wn ⟨rfl, hb⟩; replace hG := Lib.hid (next_below hG.out hb); clear hb D4_
        rcases HC3.out with ⟨h1, h2, HM⟩ | ⟨h1, h2, HM⟩ | ⟨h1, h2, HM⟩
        · clear HC3
          subst h1
          have hnil := h2
          go_wp2_with fail
          refine (D5.out _ (HG.out _ hG.out)).mono ?_; rintro e wn ⟨rfl, hb⟩; replace hG := Lib.hid (next_below hG.out hb); clear hb D5
          go_wp2_with fail
          refine (HM.out _ (HG.out _ hG.out)).mono ?_; rintro e wn ⟨rfl, hb⟩; replace hG := Lib.hid (next_below hG.out hb); clear hb HM
          go_wp2_with fail
          refine (D6.out _ (HG.out _ hG.out)).mono ?_; rintro e wn ⟨rfl, hb⟩; replace hG := Lib.hid (next_below hG.out hb); clear hb D6
          go_wp2_with fail
          refine (D7.out _ (HG.out _ hG.out)).mono ?_; rintro e wn ⟨rfl, hb⟩; replace hG := Lib.hid (next_below hG.out hb); clear hb D7
          go_wp2_with fail
          refine (D8.out _ (HG.out _ hG.out)).mono ?_; rintro e wn ⟨rfl, hb⟩; replace hG := Lib.hid (next_below hG.out hb); clear hb D8
          go_wp2_with fail
          refine (D9.out _ (HG.out _ hG.out)).mono ?_; rintro e wn ⟨rfl, hb⟩; replace hG := Lib.hid (next_below hG.out hb); clear hb D9
          go_wp2
          go_ret
          exact ⟨rfl, HB.out.trans (hG.out.mono HB.out.size)⟩
        · clear HC3
          subst h1
          have hnil := h2
          go_wp2_with fail
          refine (D5.out _ (HG.out _ hG.out)).mono ?_; rintro e wn ⟨rfl, hb⟩; replace hG := Lib.hid (next_below hG.out hb); clear hb D5
          go_wp2_with fail
          refine (HM.out _ (HG.out _ hG.out)).mono ?_; rintro e wn ⟨rfl, hb⟩; replace hG := Lib.hid (next_below hG.out hb); clear hb HM
          go_wp2_with fail
          refine (D6.out _ (HG.out _ hG.out)).mono ?_; rintro e wn ⟨rfl, hb⟩; replace hG := Lib.hid (next_below hG.out hb); clear hb D6
          go_wp2_with fail
          refine (D7.out _ (HG.out _ hG.out)).mono ?_; rintro e wn ⟨rfl, hb⟩; replace hG := Lib.hid (next_below hG.out hb); clear hb D7
          go_wp2_with fail
          refine (D8.out _ (HG.out _ hG.out)).mono ?_; rintro e wn ⟨rfl, hb⟩; replace hG := Lib.hid (next_below hG.out hb); clear hb D8
          go_wp2_with fail
          refine (D9.out _ (HG.out _ hG.out)).mono ?_; rintro e wn ⟨rfl, hb⟩; replace hG := Lib.hid (next_below hG.out hb); clear hb D9
          go_wp2
          go_ret
          exact ⟨rfl, HB.out.trans (hG.out.mono HB.out.size)⟩
        · clear HC3
          subst h1
          have hnil := h2
          go_wp2_with fail
          refine (D5.out _ (HG.out _ hG.out)).mono ?_; rintro e wn ⟨rfl, hb⟩; replace hG := Lib.hid (next_below hG.out hb); clear hb D5
          go_wp2_with fail
          refine (HM.out _ (HG.out _ hG.out)).mono ?_; rintro e wn ⟨rfl, hb⟩; replace hG := Lib.hid (next_below hG.out hb); clear hb HM
          go_wp2_with fail
          refine (D6.out _ (HG.out _ hG.out)).mono ?_; rintro e wn ⟨rfl, hb⟩; replace hG := Lib.hid (next_below hG.out hb); clear hb D6
          go_wp2_with fail
          refine (D7.out _ (HG.out _ hG.out)).mono ?_; rintro e wn ⟨rfl, hb⟩; replace hG := Lib.hid (next_below hG.out hb); clear hb D7
          go_wp2_with fail
          refine (D8.out _ (HG.out _ hG.out)).mono ?_; rintro e wn ⟨rfl, hb⟩; replace hG := Lib.hid (next_below hG.out hb); clear hb D8
          go_wp2_with fail
          refine (D9.out _ (HG.out _ hG.out)).mono ?_; rintro e wn ⟨rfl, hb⟩; replace hG := Lib.hid (next_below hG.out hb); clear hb D9
          go_wp2
          go_ret
          exact ⟨rfl, HB.out.trans (hG.out.mono HB.out.size)⟩
theorem orders_law {w : World} {v1 v2 : Value} (h1 : DraftAt w v1) (h2 : DraftAt w v2) (k : Int) (k0 : 0 ≤ k) (k1 : k ≤ 255) (hg : Good w) : Calls Tryz.prog 11 #[v1, v2, .int .u8 k] w (RetV w (.bool true)) := by
  obtain ⟨n1x, n2x, a1x, a2x, k1x, c1x, k2x, c2x, t1x, t2x, x, rfl, fx, hx⟩ := h1.q
  obtain ⟨n1y, n2y, a1y, a2y, k1y, c1y, k2y, c2y, t1y, t2y, y, rfl, fy, hy⟩ := h2.q
  exact orders_walk x y _ _ _ _ _ _ _ _ _ _ _ _ _ _ _ _ _ _ _ _ k k0 k1 fx fy hx hy hg
end Go.Proofs.YtabdnjakmhnnfaaGreatDoor
