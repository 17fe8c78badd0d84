/- RatioRounds: the walk. -/
import Derived.Test.YtabdnjakmhnnfaaGreatDoorQSums
import Derived.Test.YtabdnjakmhnnfaaGreatDoorQParts
import Derived.Test.YtabdnjakmhnnfaaGreatDoorQRefs
set_option linter.unusedSimpArgs false
set_option linter.unusedVariables false
namespace Go.Proofs.YtabdnjakmhnnfaaGreatDoor
open Go.RowKit
open Go.Lib (decDigits itoa nDigits)
open D4 (rt it Mid)

theorem ix20 (A B : ByteArray) (X : World) : (Instr.index 45 (.agg #[.string A, .string B]) (.int .i64 0)).run Tryz.prog X = .ok (.string A) X := by kernel_rfl
theorem ix21 (A B : ByteArray) (X : World) : (Instr.index 45 (.agg #[.string A, .string B]) (.int .i64 1)).run Tryz.prog X = .ok (.string B) X := by kernel_rfl
theorem ixi0 (a b : Int) (X : World) : (Instr.index 61 (.agg #[.int .i64 a, .int .i64 b]) (.int .i64 0)).run Tryz.prog X = .ok (.int .i64 a) X := by kernel_rfl
theorem ixi1 (a b : Int) (X : World) : (Instr.index 61 (.agg #[.int .i64 a, .int .i64 b]) (.int .i64 1)).run Tryz.prog X = .ok (.int .i64 b) X := by kernel_rfl
/-- What the roundings of a text are. -/
theorem text_rounds (l : List UInt8) (hl : l.length ≤ 600) : ∃ (F C : ByteArray) (E R : Int),
    Hid (∀ V : World, Good V → Calls Tryz.prog 39 #[.string ⟨l.toArray⟩] V (RetV V (.tuple #[.string F, .int .i64 E]))) ∧
    Hid (∀ V : World, Good V → Calls Tryz.prog 40 #[.string ⟨l.toArray⟩] V (RetV V (.tuple #[.string C, .int .i64 E]))) ∧
    Hid (∀ V : World, Good V → Calls Tryz.prog 35 #[.string ⟨l.toArray⟩] V (RetV V (.int .i64 R))) ∧
    ((R ≠ 0 ∧ F = ⟨#[]⟩ ∧ C = ⟨#[]⟩ ∧ E = R) ∨
      (R = 0 ∧ E = 0 ∧ Hid (∀ V : World, Good V → Calls Tryz.prog 41 #[.string ⟨l.toArray⟩] V (RetV V (.string F))) ∧ Hid (∀ V : World, Good V → Calls Tryz.prog 42 #[.string ⟨l.toArray⟩] V (RetV V (.string C))))) ∧
    (∀ n : Int, ∃ (S : ByteArray) (H : Int), Hid (∀ V : World, Good V → Calls Tryz.prog 23 #[.string ⟨l.toArray⟩, .int .i64 n] V (RetV V (.tuple #[.string S, .int .i64 H]))) ∧
      ((R ≠ 0 ∧ S = ⟨#[]⟩ ∧ H = R) ∨ (R = 0 ∧ (n < 0 ∨ (0 ≤ n ∧ 100 < n)) ∧ S = ⟨#[]⟩ ∧ H = 2) ∨
        (R = 0 ∧ 0 ≤ n ∧ n ≤ 100 ∧ H = 0 ∧ Hid (∀ V : World, Good V → Calls Tryz.prog 43 #[.string ⟨l.toArray⟩, .int .i64 n] V (RetV V (.string S)))))) := by
  have hd : ∀ n : Int, ∃ (S : ByteArray) (H : Int), Hid (∀ V : World, Good V → Calls Tryz.prog 23 #[.string ⟨l.toArray⟩, .int .i64 n] V (RetV V (.tuple #[.string S, .int .i64 H]))) ∧
      ((rerr l ≠ 0 ∧ S = ⟨#[]⟩ ∧ H = rerr l) ∨ (rerr l = 0 ∧ (n < 0 ∨ (0 ≤ n ∧ 100 < n)) ∧ S = ⟨#[]⟩ ∧ H = 2) ∨
        (rerr l = 0 ∧ 0 ≤ n ∧ n ≤ 100 ∧ H = 0 ∧ Hid (∀ V : World, Good V → Calls Tryz.prog 43 #[.string ⟨l.toArray⟩, .int .i64 n] V (RetV V (.string S))))) := by
    intro n
    refine ⟨decS l n, decE l n, Lib.hid (fun V hV => dec_any l n (by omega) hV), ?_⟩
    by_cases h0 : rerr l = 0
    · by_cases hn : n < 0 ∨ 100 < n
      · have e : decE l n = 2 := by unfold decE; rw [if_pos h0, if_pos hn]
        exact .inr (.inl ⟨h0, by omega, by unfold decS; rw [e]; rfl, e⟩)
      · have e : decE l n = 0 := by unfold decE; rw [if_pos h0, if_neg hn]
        obtain ⟨p, rfl⟩ := Int.eq_ofNat_of_zero_le (show 0 ≤ n by omega)
        refine .inr (.inr ⟨h0, by omega, by omega, e, Lib.hid (fun V hV => ?_)⟩)
        have es : decS l (p : Int) = decT (rval l) p := by unfold decS; rw [e, if_pos rfl, Int.toNat_natCast]
        rw [es, canon_rt h0]
        exact dec2_rt p (by omega) (rerr_fits h0) hV
    · have e : decE l n = rerr l := by unfold decE; rw [if_neg h0]
      exact .inl ⟨h0, by unfold decS; rw [e, if_neg h0], e⟩
  by_cases h0 : rerr l = 0
  · have hf := rerr_fits h0
    refine ⟨it (rval l).floor, it (-((-(rval l)).floor)), 0, rerr l, Lib.hid (fun V hV => ?_), Lib.hid (fun V hV => ?_), Lib.hid (fun V hV => D4.check2_any l (by omega) hV), .inr ⟨h0, rfl, Lib.hid (fun V hV => ?_), Lib.hid (fun V hV => ?_)⟩, hd⟩
    · rw [canon_rt h0]; exact rfloor_rt hf hV
    · rw [canon_rt h0]; exact rceil_rt hf hV
    · rw [canon_rt h0]; exact floor2_rt (fits_up hf (by omega)) hV
    · rw [canon_rt h0]; exact ceil2_rt (fits_up hf (by omega)) hV
  · exact ⟨⟨#[]⟩, ⟨#[]⟩, rerr l, rerr l, Lib.hid (fun V hV => floor_form l (by omega) h0 hV), Lib.hid (fun V hV => ceil_form l (by omega) h0 hV), Lib.hid (fun V hV => D4.check2_any l (by omega) hV), .inl ⟨h0, rfl, rfl, rfl⟩, hd⟩

set_option maxHeartbeats 32000000 in
set_option maxRecDepth 100000 in
theorem rounds_walk {w : World} (A : ByteArray) (x : Rat) (n1x n2x : Bool) (a1x a2x : Option Addr) (k1x c1x k2x c2x : Nat) (t1x t2x : Int) (n k : Int) (n0 : -9223372036854775808 ≤ n) (n1 : n ≤ 9223372036854775807) (k0 : 0 ≤ k) (k1 : k ≤ 255) (fx : fitsD 240 x)
    (hx : ∀ V : World, Below w.heap.size w V → Calls Tryz.prog 36 #[.agg #[.bool n1x, .slice a1x k1x c1x, .int .u8 t1x, .bool n2x, .slice a2x k2x c2x, .int .u8 t2x]] V (RetV V (.string (rt x)))) (hg : Good w) :
    Calls Tryz.prog 6 #[.string A, .agg #[.bool n1x, .slice a1x k1x c1x, .int .u8 t1x, .bool n2x, .slice a2x k2x c2x, .int .u8 t2x], .int .i64 n, .int .u8 k] w (RetV w (.bool true)) := by
  have la : (A.data.toList.take 60).length ≤ 600 := by rw [List.length_take]; omega
  have lx : (ratText x).length ≤ 600 := Nat.le_trans (text_le fx) (by omega)
  have HCUT := Lib.hid (fun (V : World) => lcut_any (w := V) A)
  obtain ⟨W, hW, hB, hsz, jx⟩ := entA w 44 #[.bool n1x, .slice a1x k1x c1x, .int .u8 t1x, .bool n2x, .slice a2x k2x c2x, .int .u8 t2x]
  have HW := Lib.hid hW
  have JX := Lib.hid jx
  have HB := Lib.hid hB
  have HG := Lib.hid (fun (V : World) (hV : Below W.heap.size W V) => (hg.below hB).below hV)
  have H1 := Lib.hid (fun (V : World) (hV : Good V) => works_any hV)
  have hxq := fun (V' : World) (hV' : Below W.heap.size W V') => hx V' (hB.trans (hV'.mono hB.size))
  have erx : rt x = ⟨(ratText x).toArray⟩ := rfl
  rw [erx] at hxq
  have HX := Lib.hid hxq
  have LA := Lib.hid la
  have LX := Lib.hid lx
  clear la lx erx hx hg hW hB hsz jx hxq
  generalize (A.data.toList.take 60) = la at *
  generalize ratText x = lx at *
  go_enter Tryz.func6, Tryz.ntmps6
  go_upto_region 1 with fail
  rw [← HW.out]
  clear HW
  go_wp2_with fail
  refine (H1.out _ (HG.out _ (Below.refl _ _))).mono ?_
  rintro e wn ⟨rfl, b1⟩
  have B1 := Lib.hid b1
  have JX1 := Lib.hid (JX.out.next b1)
  clear b1 H1 JX
  go_upto_region 3 with fail
  have hB0 : Below wn.heap.size wn wn.drew := (Below.refl _ _).drew
  refine wp_region_list 6 (by kernel_rfl) (by kernel_rfl) [] [fun v _ => v = .string A, fun v _ => v = .string ⟨la.toArray⟩, fun v _ => v = .agg #[.bool n1x, .slice a1x k1x c1x, .int .u8 t1x, .bool n2x, .slice a2x k2x c2x, .int .u8 t2x], fun v _ => v = .string ⟨lx.toArray⟩, fun v _ => v = .agg #[.string ⟨la.toArray⟩, .string ⟨lx.toArray⟩], fun v _ => v = .int .i64 0] (by simp only [List.take_succ_cons, List.take_zero]; rfl) (by simp only [List.drop_succ_cons, List.drop_zero]; rfl) (fun vals => by simp only [fam, Act.put, List.setIfInBounds_toArray, List.set_cons_zero, List.set_cons_succ, if_true]; rfl) (by repeat' (first | exact Stab.eq _ _ | exact Stab.wh _ _ | exact Stab.nm _ _ | exact Stab.new _ _ | exact Stab.newn _ _ | exact Stab.tw _ _ _ | exact Stab.lm _ _ _ | exact Stab.onet _ _ _ | exact trivial | apply And.intro)) trivial ?_ ?_
  · refine ⟨?_, ?_, ?_, ?_, ?_, ?_, trivial⟩
    all_goals
      intro vals w1 hB1 hp
      dsimp only
      (try simp [preOk, Region.binds, D4.anygc, D4.anytext] at hp)
      have hb := next_below hB0 hB1
      have kb := next_below B1.out hb
      clear hB1
    case refine_1 =>
      go_wp2
      (first | exact ⟨rfl, _, rfl, rfl, Below.refl _ _, trivial⟩ | (refine ⟨rfl, _, ?_, rfl, Below.refl _ _, trivial⟩; simp only [Act.put, List.setIfInBounds_toArray, List.set_cons_zero, List.set_cons_succ, hp]))
    case refine_2 =>
      have a0 : vals 0 = .string A := by first | exact hp.1 | exact hp | exact hp.2 | exact hp.2.1 | exact hp.2.2 | simp [hp]
      clear hp
      generalize vals 0 = z0 at *
      subst a0
      go_wp2_with (go_at_call 34; refine (HCUT.out w1).mono ?_; rintro e w5 ⟨rfl, hb5⟩)
      exact ⟨rfl, _, rfl, rfl, hb5, trivial⟩
    case refine_3 =>
      obtain ⟨y0, y1, y2, y3, y4, y5⟩ := (JX1.out.next hb).at6
      go_wp2
      (first | exact ⟨rfl, _, rfl, rfl, Below.refl _ _, trivial⟩ | (refine ⟨rfl, _, ?_, rfl, Below.refl _ _, trivial⟩; simp only [Act.put, List.setIfInBounds_toArray, List.set_cons_zero, List.set_cons_succ, hp]))
    case refine_4 =>
      have a2 : vals 2 = .agg #[.bool n1x, .slice a1x k1x c1x, .int .u8 t1x, .bool n2x, .slice a2x k2x c2x, .int .u8 t2x] := by first | exact hp.1 | exact hp | exact hp.2 | exact hp.2.1 | exact hp.2.2 | simp [hp]
      clear hp
      generalize vals 2 = z2 at *
      subst a2
      go_wp2_with (go_at_call 36; refine (HX.out _ kb).mono ?_; rintro e w5 ⟨rfl, hb5⟩)
      exact ⟨rfl, _, rfl, rfl, hb5, trivial⟩
    case refine_5 =>
      have a1 : vals 1 = .string ⟨la.toArray⟩ := by first | exact hp.1 | exact hp | exact hp.2 | exact hp.2.1 | exact hp.2.2 | simp [hp]
      have a3 : vals 3 = .string ⟨lx.toArray⟩ := by first | exact hp.1 | exact hp | exact hp.2 | exact hp.2.1 | exact hp.2.2 | simp [hp]
      clear hp
      generalize vals 1 = z1 at *
      subst a1
      generalize vals 3 = z3 at *
      subst a3
      go_wp2
      exact ⟨rfl, _, rfl, rfl, Below.refl _ _, trivial⟩
    case refine_6 =>
      go_wp2
      (first | exact ⟨rfl, _, rfl, rfl, Below.refl _ _, trivial⟩ | (refine ⟨rfl, _, ?_, rfl, Below.refl _ _, trivial⟩; simp only [Act.put, List.setIfInBounds_toArray, List.set_cons_zero, List.set_cons_succ, hp]))
  · rintro vals w1 hB1 ⟨z0, z1, z2, z3, z4, z5, _⟩ hne
    have B2 := Lib.hid (next_below B1.out (next_below hB0 hB1))
    have y4 := z4
    have y5 := z5
    clear z0 z1 z2 z3 z4 z5 hne hB1 hB0 HX HCUT JX1 B1
    (try dsimp only at y4 y5)
    generalize vals 4 = v4 at *
    subst y4
    generalize vals 5 = v5 at *
    subst y5
    go_wp2
    go_loopg [27] 2 (fun gk u27 wr => ∃ i : Nat, u27 = .int .i64 (i : Int) ∧ i + gk = 2 ∧ Hid (Below W.heap.size W wr))
    case atStart => exact ⟨0, rfl, rfl, B2⟩
    case round =>
      obtain ⟨i, rfl, hi, hK⟩ := hrel
      by_cases hi2 : i < 2
      · have hi3 : (i : Int) < 2 := by omega
        obtain ⟨l, PQ, hPQ, hix, hlq⟩ : ∃ (l : List UInt8) (PQ : ByteArray), PQ = ⟨l.toArray⟩ ∧ (∀ X, (Instr.index 45 (.agg #[.string ⟨la.toArray⟩, .string ⟨lx.toArray⟩]) (.int .i64 (i : Int))).run Tryz.prog X = .ok (.string PQ) X) ∧ Hid (l.length ≤ 600) := by
          obtain rfl | rfl : i = 0 ∨ i = 1 := by omega
          · exact ⟨la, _, rfl, fun X => ix20 _ _ X, LA⟩
          · exact ⟨lx, _, rfl, fun X => ix21 _ _ X, LX⟩
        obtain ⟨F, C, E, R, HF, HC, HR, hone, hdec⟩ := text_rounds l hlq.out
        simp only [← hPQ] at HF HC HR hone hdec
        have HONE := Lib.hid hone
        have HDEC := Lib.hid hdec
        clear hPQ hlq hone hdec LA LX
        have K0 := hK
        clear hK
        generalize gk = go at *
        go_upto_region 6 with fail
        clear hix
        go_wp2_with fail
        refine (HF.out _ (HG.out _ K0.out)).mono ?_
        rintro e V ⟨rfl, kk⟩
        have K1 := Lib.hid (next_below K0.out kk)
        clear kk
        go_wp2_with fail
        refine (HC.out _ (HG.out _ K1.out)).mono ?_
        rintro e V ⟨rfl, kk⟩
        have K2 := Lib.hid (next_below K1.out kk)
        clear kk
        go_wp2_with fail
        refine (HR.out _ (HG.out _ K2.out)).mono ?_
        rintro e V ⟨rfl, kk⟩
        have K3 := Lib.hid (next_below K2.out kk)
        clear kk
        rcases HONE.out with ⟨f0, h1, h2, h3⟩ | ⟨f0, h1, G1, G2⟩
        · clear HONE HF HC HR
          subst h1 h2 h3
          have fb := bne_iff_ne.2 f0
          go_upto_region 15 with fail
          go_loopg [83] 2 (fun gk u83 ws => ∃ j : Nat, u83 = .int .i64 (j : Int) ∧ j + gk = 2 ∧ Hid (Below W.heap.size W ws))
          case atStart => exact ⟨0, rfl, rfl, K3⟩
          case round =>
            obtain ⟨j, rfl, hj, hM⟩ := hrel
            by_cases hj2 : j < 2
            · have hj3 : (j : Int) < 2 := by omega
              obtain ⟨q, hjx⟩ : ∃ q : Int, (∀ X, (Instr.index 61 (.agg #[.int .i64 n, .int .i64 (k % 102)]) (.int .i64 (j : Int))).run Tryz.prog X = .ok (.int .i64 q) X) := by
                obtain rfl | rfl : j = 0 ∨ j = 1 := by omega
                · exact ⟨_, fun X => ixi0 _ _ X⟩
                · exact ⟨_, fun X => ixi1 _ _ X⟩
              obtain ⟨S, H, HD, hdc⟩ := HDEC.out q
              have HDC := Lib.hid hdc
              clear hdc HDEC
              have M0 := hM
              clear hM
              go_upto_region 17 with fail
              clear hjx
              go_wp2_with fail
              refine (HD.out _ (HG.out _ M0.out)).mono ?_
              rintro e V ⟨rfl, kk⟩
              have M1 := Lib.hid (next_below M0.out kk)
              clear kk
              rcases HDC.out with ⟨r0, h1, h2⟩ | ⟨r0, hq, h1, h2⟩ | ⟨r0, hq0, hq1, h1, HRD⟩
              · clear HDC HD
                subst h1 h2
                go_wp2
                go_roundg (gk - 1)
                case rel => exact ⟨j + 1, by go_num, by omega, M1⟩
                case measure => omega
              · exact absurd r0 f0
              · exact absurd r0 f0
            · obtain rfl : j = 2 := by omega
              go_wp2
              go_roundg (go - 1)
              case rel => exact ⟨i + 1, by go_num, by omega, hM⟩
              case measure => omega
        · clear HONE HF HC HR
          subst f0 h1
          go_wp2_with fail
          refine (G1.out _ (HG.out _ K3.out)).mono ?_
          rintro e V ⟨rfl, kk⟩
          have K4 := Lib.hid (next_below K3.out kk)
          clear kk
          go_wp2_with fail
          refine (G2.out _ (HG.out _ K4.out)).mono ?_
          rintro e V ⟨rfl, kk⟩
          have K5 := Lib.hid (next_below K4.out kk)
          clear kk
          go_upto_region 15 with fail
          go_loopg [83] 2 (fun gk u83 ws => ∃ j : Nat, u83 = .int .i64 (j : Int) ∧ j + gk = 2 ∧ Hid (Below W.heap.size W ws))
          case atStart => exact ⟨0, rfl, rfl, K5⟩
          case round =>
            obtain ⟨j, rfl, hj, hM⟩ := hrel
            by_cases hj2 : j < 2
            · have hj3 : (j : Int) < 2 := by omega
              obtain ⟨q, hjx⟩ : ∃ q : Int, (∀ X, (Instr.index 61 (.agg #[.int .i64 n, .int .i64 (k % 102)]) (.int .i64 (j : Int))).run Tryz.prog X = .ok (.int .i64 q) X) := by
                obtain rfl | rfl : j = 0 ∨ j = 1 := by omega
                · exact ⟨_, fun X => ixi0 _ _ X⟩
                · exact ⟨_, fun X => ixi1 _ _ X⟩
              obtain ⟨S, H, HD, hdc⟩ := HDEC.out q
              have HDC := Lib.hid hdc
              clear hdc HDEC
              have M0 := hM
              clear hM
              go_upto_region 17 with fail
              clear hjx
              go_wp2_with fail
              refine (HD.out _ (HG.out _ M0.out)).mono ?_
              rintro e V ⟨rfl, kk⟩
              have M1 := Lib.hid (next_below M0.out kk)
              clear kk
              rcases HDC.out with ⟨r0, h1, h2⟩ | ⟨r0, hq, h1, h2⟩ | ⟨r0, hq0, hq1, h1, HRD⟩
              · clear HDC HD
                exact absurd rfl r0
              · clear HDC HD r0
                subst h1 h2
                rcases hq with hq | ⟨hq, hq2⟩
                · go_wp2
                  go_roundg (gk - 1)
                  case rel => exact ⟨j + 1, by go_num, by omega, M1⟩
                  case measure => omega
                · go_wp2
                  go_roundg (gk - 1)
                  case rel => exact ⟨j + 1, by go_num, by omega, M1⟩
                  case measure => omega
              · clear HDC HD r0
                subst h1
                go_wp2_with fail
                refine (HRD.out _ (HG.out _ M1.out)).mono ?_
                rintro e V ⟨rfl, kk⟩
                have M2 := Lib.hid (next_below M1.out kk)
                clear kk
                go_wp2
                go_roundg (gk - 1)
                case rel => exact ⟨j + 1, by go_num, by omega, M2⟩
                case measure => omega
            · obtain rfl : j = 2 := by omega
              go_wp2
              go_roundg (go - 1)
              case rel => exact ⟨i + 1, by go_num, by omega, hM⟩
              case measure => omega
      · obtain rfl : i = 2 := by omega
        go_wp2
        go_ret
        exact ⟨rfl, HB.out.trans (hK.out.mono HB.out.size)⟩
theorem rounds_law {w : World} (A : ByteArray) {v1 : Value} (h1 : DraftAt w v1) (n k : Int) (n0 : -9223372036854775808 ≤ n) (n1 : n ≤ 9223372036854775807) (k0 : 0 ≤ k) (k1 : k ≤ 255) (hg : Good w) : Calls Tryz.prog 6 #[.string A, v1, .int .i64 n, .int .u8 k] w (RetV w (.bool true)) := by
  obtain ⟨n1x, n2x, a1x, a2x, k1x, c1x, k2x, c2x, t1x, t2x, x, rfl, fx, hx⟩ := h1.q
  exact rounds_walk A x _ _ _ _ _ _ _ _ _ _ n k n0 n1 k0 k1 fx (fun V hV => hx V hV (hg.below hV)) hg
end Go.Proofs.YtabdnjakmhnnfaaGreatDoor
