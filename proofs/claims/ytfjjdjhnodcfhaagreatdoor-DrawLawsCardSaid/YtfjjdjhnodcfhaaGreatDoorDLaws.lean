/- Law and Left agree with the reference: DrawLaws. -/
import Derived.Test.YtfjjdjhnodcfhaaGreatDoorDFew
import Derived.Test.YtfjjdjhnodcfhaaGreatDoorDOpen
set_option linter.unusedSimpArgs false
set_option linter.unusedVariables false
namespace Go.Proofs.YtfjjdjhnodcfhaaGreatDoor
open Go.RowKit
open Go.Lib (decDigits itoa nDigits)
open D4 (rt it Mid)

theorem ixl0 (A B : Value) (a b : Option Addr) (n c n' c' : Nat) (X : World) : (Instr.index 40 (.agg #[.slice a n c, .slice b n' c']) (.int .i64 0)).run Tryz.prog X = .ok (.slice a n c) X := by kernel_rfl
theorem ixl1 (A B : Value) (a b : Option Addr) (n c n' c' : Nat) (X : World) : (Instr.index 40 (.agg #[.slice a n c, .slice b n' c']) (.int .i64 1)).run Tryz.prog X = .ok (.slice b n' c') X := by kernel_rfl
theorem ixp0 (a b c d e f : Int) (X : World) : (Instr.index 50 (.agg #[.int .i64 a, .int .i64 b, .int .i64 c, .int .i64 d, .int .i64 e, .int .i64 f]) (.int .i64 0)).run Tryz.prog X = .ok (.agg #[.int .i64 a, .int .i64 b]) X := by kernel_rfl
theorem ixp1 (a b c d e f : Int) (X : World) : (Instr.index 50 (.agg #[.int .i64 a, .int .i64 b, .int .i64 c, .int .i64 d, .int .i64 e, .int .i64 f]) (.int .i64 1)).run Tryz.prog X = .ok (.agg #[.int .i64 c, .int .i64 d]) X := by kernel_rfl
theorem ixp2 (a b c d e f : Int) (X : World) : (Instr.index 50 (.agg #[.int .i64 a, .int .i64 b, .int .i64 c, .int .i64 d, .int .i64 e, .int .i64 f]) (.int .i64 2)).run Tryz.prog X = .ok (.agg #[.int .i64 e, .int .i64 f]) X := by kernel_rfl
/-- Is the length out of range; is the outcome? -/
def badN (b : Int) : Bool := decide (b < 0 ∨ 200 < b)
def badI (n : Nat) (a : Int) : Bool := decide (a < 0 ∨ (n : Int) ≤ a)
theorem lawE_is (T : List (List UInt8)) (a b : Int) : (if okW T then (if badI T.length a then 2 else if badN b then 2 else 0) else 100 : Int) = lawE T a b := by
  unfold lawE badI badN
  cases okW T
  · rfl
  · rw [if_pos rfl, if_pos rfl]
    simp only [decide_eq_true_eq]
    split
    · rw [if_neg (by omega)]
    · split
      · rw [if_neg (by omega)]
      · rw [if_pos (by omega)]
theorem lefE_is (T : List (List UInt8)) (b : Int) : (if okW T then (if badN b then 2 else 0) else 100 : Int) = lefE T b := by
  unfold lefE badN
  cases okW T
  · rfl
  · rw [if_pos rfl, if_pos rfl]
    simp only [decide_eq_true_eq]
    split
    · rw [if_neg (by omega)]
    · rw [if_pos (by omega)]
theorem rlaw_all {w : World} {v : Value} (T : List (List UInt8)) (a b : Int) (h : lawE T a b = 0) (hv : Qs w v T) (hg : Good w) : Calls Tryz.prog 23 #[v, .int .i64 a, .int .i64 b] w (RetV w (.string (lawS T a b))) := by
  have hs : lawS T a b = rt (lawR (T.map rval) b.toNat a.toNat) := by unfold lawS; rw [if_pos h]
  rw [hs]
  unfold lawE at h
  cases hok : okW T with
  | false => rw [hok] at h; cases h
  | true =>
    rw [hok, if_pos rfl] at h
    by_cases hr : 0 ≤ a ∧ a < T.length ∧ 0 ≤ b ∧ b ≤ 200
    · obtain ⟨r1, r2, r3, r4⟩ := hr
      obtain ⟨I, rfl⟩ := Int.eq_ofNat_of_zero_le r1
      obtain ⟨N, rfl⟩ := Int.eq_ofNat_of_zero_le r3
      exact rlaw_any T I N hok (by omega) (by omega) hv hg
    · rw [if_neg hr] at h; cases h
theorem rleft_all {w : World} {v : Value} (T : List (List UInt8)) (b : Int) (h : lefE T b = 0) (hv : Qs w v T) (hg : Good w) : Calls Tryz.prog 24 #[v, .int .i64 b] w (RetV w (.string (lefS T b))) := by
  have hs : lefS T b = rt (leftR (T.map rval) b.toNat T.length) := by unfold lefS; rw [if_pos h]
  rw [hs]
  unfold lefE at h
  cases hok : okW T with
  | false => rw [hok] at h; cases h
  | true =>
    rw [hok, if_pos rfl] at h
    by_cases hr : 0 ≤ b ∧ b ≤ 200
    · obtain ⟨r3, r4⟩ := hr
      obtain ⟨N, rfl⟩ := Int.eq_ofNat_of_zero_le r3
      exact rleft_any T N hok (by omega) hv hg
    · rw [if_neg hr] at h; cases h

theorem text_le10 {k : Nat} {x : Rat} (h : fitsD k x) : (ratText x).length ≤ k + k + 2 := by
  unfold ratText
  rw [List.length_append]
  have h1 := itoa_len x.num
  have h2 := h.1
  have h3 := h.2
  have h4 := Lib.decDigits_length x.den
  split
  · simp; omega
  · simp; omega
theorem wts_short2 (zs : List Nat) : ∀ l ∈ wts zs, l.length ≤ 39000 := by
  intro l hl
  by_cases h : (dsO zs).sum = 0
  · unfold wts at hl; rw [if_pos h] at hl; simp at hl; subst hl; show 1 ≤ 39000; omega
  · have hs := sum_le _ (dsO_lt zs)
    have hl2 := dsO_len zs
    unfold wts at hl
    rw [if_neg h] at hl
    obtain ⟨d, hd, rfl⟩ := List.mem_map.1 hl
    have h3 := div_fit h (mem_le_sum _ _ hd) (by omega)
    exact Nat.le_trans (text_le10 h3) (by omega)

set_option maxHeartbeats 16000000 in
set_option maxRecDepth 100000 in
theorem drawLaws_any {w : World} {v vd : Value} (ts : List (List UInt8)) (zs : List Nat) (i n : Int) (k m : Nat) (hts : ∀ l ∈ ts, l.length ≤ maxLen) (hv : Qs w v ts) (hz : ∀ z ∈ zs, z < 256) (hd : U8s w vd zs) (hk : k < 256) (hm : m < 256) (hg : Good w) :
    Calls Tryz.prog 5 #[v, .int .i64 i, .int .i64 n, vd, .int .u8 k, .int .u8 m] w (RetV w (.bool true)) := by
  have HG := Lib.hid (fun (V : World) (hV : Below w.heap.size w V) => hg.below hV)
  have HWK := Lib.hid (works_any hg)
  have HFW := Lib.hid (fun (V : World) (hV : Below w.heap.size w V) => few_any (w := V) ts hts (hv.below hV) (hg.below hV))
  have HWT := Lib.hid (fun (V : World) (hV : Below w.heap.size w V) => weights_any (w := V) zs hz (hd.below hV) (hg.below hV))
  obtain ⟨ao, cap, rfl, -, -, -, -⟩ := hv
  obtain ⟨ad, cad, rfl, -, -, -⟩ := hd.open_
  obtain ⟨K9, hK9⟩ : ∃ K9 : Int, K9 = (k : Int) % 9 := ⟨_, rfl⟩
  obtain ⟨M6, hM6⟩ : ∃ M6 : Int, M6 = (m : Int) % 60 := ⟨_, rfl⟩
  have hk1 : 0 ≤ K9 ∧ K9 < 9 := by omega
  have hm1 : 0 ≤ M6 ∧ M6 < 60 := by omega
  have hK9' := hK9.symm
  have hM6' := hM6.symm
  clear hd hg hz hts hK9 hM6
  have F1 := Lib.hid (show (fewT ts).length ≤ 1000 ∧ ∀ l ∈ fewT ts, l.length ≤ 39000 from ⟨by have := fewT_len ts; omega, fun l hl => by have := fewT_short ts l hl; omega⟩)
  have F2 := Lib.hid (show (wts zs).length ≤ 1000 ∧ ∀ l ∈ wts zs, l.length ≤ 39000 from ⟨by have := wts_len zs; omega, fun l hl => wts_short2 zs l hl⟩)
  generalize fewT ts = T1 at *
  generalize wts zs = T2 at *
  generalize ts.length = tl at *
  generalize zs.length = zl at *
  go_enter Tryz.func5, Tryz.ntmps5
  go_upto_region 3 with (go_at_call 9; refine HWK.out.mono ?_; rintro e w1 ⟨rfl, hb1⟩)
  go_wp2_with fail
  refine (HFW.out _ hb1).mono ?_
  rintro e w2 ⟨v1, rfl, hq1, hb2⟩
  have K2 := Lib.hid (next_below hb1 hb2)
  clear hb1 hb2 HWK HFW
  go_wp2_with fail
  refine (HWT.out _ K2.out).mono ?_
  rintro e w3 ⟨v2, rfl, hq2, hb3⟩
  have K3 := Lib.hid (next_below K2.out hb3)
  have Q1 := Lib.hid (hq1.below hb3)
  have Q2 := Lib.hid hq2
  obtain ⟨a1, c1, rfl, -, -, -, -⟩ := hq1
  obtain ⟨a2, c2, rfl, -, -, -, -⟩ := hq2
  clear hb3 HWT K2
  go_wp2_with fail
  go_loopw [30] (fun u30 wr => ∃ x : Nat, x ≤ 2 ∧ u30 = .int .i64 (x : Int) ∧ Hid (Below w3.heap.size w3 wr)) (fun u30 _ => 2 - (intOf u30).toNat)
  case atStart => exact ⟨0, by omega, rfl, Lib.hid (Below.refl _ _)⟩
  case round =>
    obtain ⟨x, hx2, rfl, hB⟩ := hrel
    by_cases hlt : x < 2
    · have hlti : (x : Int) < 2 := by omega
      obtain ⟨T, ax, cx, hix, FT, QT⟩ : ∃ (T : List (List UInt8)) (ax : Option Addr) (cx : Nat), (∀ X, (Instr.index 40 (.agg #[.slice a1 T1.length c1, .slice a2 T2.length c2]) (.int .i64 (x : Int))).run Tryz.prog X = .ok (.slice ax T.length cx) X) ∧ Hid (T.length ≤ 1000 ∧ ∀ l ∈ T, l.length ≤ 39000) ∧ Hid (Qs w3 (.slice ax T.length cx) T) := by
        rcases (show x = 0 ∨ x = 1 by omega) with rfl | rfl
        · exact ⟨T1, a1, c1, fun X => ixl0 (.bool true) (.bool true) _ _ _ _ _ _ X, F1, Q1⟩
        · exact ⟨T2, a2, c2, fun X => ixl1 (.bool true) (.bool true) _ _ _ _ _ _ X, F2, Q2⟩
      have HRT := Lib.hid (fun (V : World) (hV : Below w3.heap.size w3 V) => rright_any (w := V) T FT.out.1 FT.out.2 (QT.out.below hV) (HG.out _ (next_below K3.out hV)))
      have HLW := Lib.hid (fun (a b : Int) (V : World) (hV : Below w3.heap.size w3 V) => dlaw_any (w := V) T a b FT.out.1 (fun l hl => by have := FT.out.2 l hl; omega) (QT.out.below hV) (HG.out _ (next_below K3.out hV)))
      have HLF := Lib.hid (fun (b : Int) (V : World) (hV : Below w3.heap.size w3 V) => dleft_any (w := V) T b FT.out.1 (fun l hl => by have := FT.out.2 l hl; omega) (QT.out.below hV) (HG.out _ (next_below K3.out hV)))
      have HRL := Lib.hid (fun (a b : Int) (h : lawE T a b = 0) (V : World) (hV : Below w3.heap.size w3 V) => rlaw_all (w := V) T a b h (QT.out.below hV) (HG.out _ (next_below K3.out hV)))
      have HRF := Lib.hid (fun (b : Int) (h : lefE T b = 0) (V : World) (hV : Below w3.heap.size w3 V) => rleft_all (w := V) T b h (QT.out.below hV) (HG.out _ (next_below K3.out hV)))
      have HLE := Lib.hid (fun (a b : Int) => lawE_is T a b)
      have HFE := Lib.hid (fun (b : Int) => lefE_is T b)
      have HLS := Lib.hid (fun (a b : Int) (h : ¬ lawE T a b = 0) => show lawS T a b = ⟨#[]⟩ from by unfold lawS; rw [if_neg h])
      have HFS := Lib.hid (fun (b : Int) (h : ¬ lefE T b = 0) => show lefS T b = ⟨#[]⟩ from by unfold lefS; rw [if_neg h])
      have hN1 : T.length ≤ 1000 := FT.out.1
      clear FT QT
      generalize okW T = OK at *
      generalize T.length = N at *
      generalize hLE : lawE T = LE at *
      generalize hLS : lawS T = LS at *
      generalize hFE : lefE T = FE at *
      generalize hFS : lefS T = FS at *
      clear hLE hLS hFE hFS
      go_upto_region 7 with fail
      clear hK9' hM6'
      go_loopw [49] (fun u49 wr => ∃ y : Nat, y ≤ 3 ∧ u49 = .int .i64 (y : Int) ∧ Hid (Below w3.heap.size w3 wr)) (fun u49 _ => 3 - (intOf u49).toNat)
      case atStart => exact ⟨0, by omega, rfl, hB⟩
      case round =>
        clear hB
        obtain ⟨y, hy3, rfl, hB⟩ := hrel
        by_cases hlt2 : y < 3
        · have hlti2 : (y : Int) < 3 := by omega
          obtain ⟨a, b, hiy⟩ : ∃ (a b : Int), ∀ X, (Instr.index 50 (.agg #[.int .i64 i, .int .i64 n, .int .i64 K9, .int .i64 n, .int .i64 K9, .int .i64 M6]) (.int .i64 (y : Int))).run Tryz.prog X = .ok (.agg #[.int .i64 a, .int .i64 b]) X := by
            rcases (show y = 0 ∨ y = 1 ∨ y = 2 by omega) with rfl | rfl | rfl
            · exact ⟨_, _, fun X => ixp0 _ _ _ _ _ _ X⟩
            · exact ⟨_, _, fun X => ixp1 _ _ _ _ _ _ X⟩
            · exact ⟨_, _, fun X => ixp2 _ _ _ _ _ _ X⟩
          obtain ⟨Wx, hWx, hBx, hszx, jx⟩ := entA wr 49 #[.int .i64 a, .int .i64 b]
          have J0 := Lib.hid jx
          have K0 := Lib.hid (next_below hB.out hBx)
          have HWX := Lib.hid hWx
          have x0 := jx.cell0
          have x1 := jx.cell1
          have HL1 := Lib.hid (HLW.out a b)
          have HL2 := Lib.hid (HLF.out b)
          have HR1 := Lib.hid (HRL.out a b)
          have HR2 := Lib.hid (HRF.out b)
          have E1 := Lib.hid (HLE.out a b)
          have E2 := Lib.hid (HFE.out b)
          have S1 := Lib.hid (HLS.out a b)
          have S2 := Lib.hid (HFS.out b)
          generalize LE a b = e1 at *
          generalize LS a b = s1 at *
          generalize FE b = e2 at *
          generalize FS b = s2 at *
          clear hWx hBx hszx jx
          go_upto_region 9 with fail
          rw [← HWX.out]
          generalize wr.heap.size = gx at *
          clear HWX hB hiy hix
          go_wp2_with fail
          refine (HL1.out _ K0.out).mono ?_
          rintro e V ⟨rfl, kk⟩
          have K1 := Lib.hid (next_below K0.out kk)
          have J1 := Lib.hid (J0.out.next kk)
          clear kk x0 x1 K0 J0
          have x0 := J1.out.cell0
          have x1 := J1.out.cell1
          go_wp2_with fail
          refine (HL2.out _ K1.out).mono ?_
          rintro e V2 ⟨rfl, kk⟩
          have K4 := Lib.hid (next_below K1.out kk)
          have J4 := Lib.hid (J1.out.next kk)
          clear kk x0 x1 K1 J1
          have x0 := J4.out.cell0
          have x1 := J4.out.cell1
          go_upto_region 12 with fail
          go_cut [75] from 999 to 999 (fun c wx => c = .bool (badN b) ∧ V2 = wx)
          case first =>
            by_cases q1 : b < 0
            · go_wp2
              go_meet
              case rel => exact ⟨by unfold badN; simp [q1], rfl⟩
            · by_cases q2 : 200 < b
              · go_wp2
                go_meet
                case rel => exact ⟨by unfold badN; simp [q1, q2], rfl⟩
              · go_wp2
                go_meet
                case rel => exact ⟨by unfold badN; simp [q1, q2], rfl⟩
          case rest =>
            obtain ⟨rfl, rfl⟩ := hcut
            generalize badN b = C1 at *
            go_upto_if 75 with fail
            go_cut [21, 22] from 999 to 999 (fun u1 u2 wx => u1 = .int .i64 (if C1 then 2 else 0) ∧ u2 = .int .i64 (if C1 then 2 else 0) ∧ V2 = wx)
            case first =>
              cases C1
              · go_wp2
                go_meet
                case rel => exact ⟨rfl, rfl, rfl⟩
              · go_wp2
                go_meet
                case rel => exact ⟨rfl, rfl, rfl⟩
            case rest =>
              obtain ⟨rfl, rfl, rfl⟩ := hcut
              obtain ⟨D1, hD1⟩ : ∃ D1 : Int, D1 = if C1 then 2 else 0 := ⟨_, rfl⟩
              simp only [← hD1] at E1 E2 ⊢
              clear hD1
              go_upto_region 14 with fail
              go_cut [85] from 999 to 999 (fun c wx => c = .bool (badI N a) ∧ V2 = wx)
              case first =>
                by_cases q1 : a < 0
                · go_wp2
                  go_meet
                  case rel => exact ⟨by unfold badI; simp [q1], rfl⟩
                · by_cases q2 : (N : Int) ≤ a
                  · go_wp2
                    go_meet
                    case rel => exact ⟨by unfold badI; simp [q1, q2], rfl⟩
                  · go_wp2
                    go_meet
                    case rel => exact ⟨by unfold badI; simp [q1, q2], rfl⟩
              case rest =>
                obtain ⟨rfl, rfl⟩ := hcut
                generalize badI N a = C2 at *
                go_upto_if 85 with fail
                go_cut [21] from 999 to 999 (fun u1 wx => u1 = .int .i64 (if C2 then 2 else D1) ∧ V2 = wx)
                case first =>
                  cases C2
                  · go_wp2
                    go_meet
                    case rel => exact ⟨rfl, rfl⟩
                  · go_wp2
                    go_meet
                    case rel => exact ⟨rfl, rfl⟩
                case rest =>
                  obtain ⟨rfl, rfl⟩ := hcut
                  obtain ⟨D2, hD2⟩ : ∃ D2 : Int, D2 = if C2 then 2 else D1 := ⟨_, rfl⟩
                  simp only [← hD2] at E1 ⊢
                  clear hD2
                  go_upto_if 88 with (go_at_call 19; refine (HRT.out _ K4.out).mono ?_; rintro e V3 ⟨rfl, kk⟩; have K5 := Lib.hid (next_below K4.out kk); have J5 := Lib.hid (J4.out.next kk); clear kk)
                  clear x0 x1 J4 K4
                  go_cut [21, 22] from 999 to 999 (fun u1 u2 wx => u1 = .int .i64 e1 ∧ u2 = .int .i64 e2 ∧ V3 = wx)
                  case first =>
                    cases OK
                    · go_wp2
                      go_meet
                      case rel => exact ⟨by rw [← E1.out]; rfl, by rw [← E2.out]; rfl, rfl⟩
                    · go_wp2
                      go_meet
                      case rel => exact ⟨by rw [← E1.out]; rfl, by rw [← E2.out]; rfl, rfl⟩
                  case rest =>
                    obtain ⟨rfl, rfl, rfl⟩ := hcut
                    clear E1 E2
                    have x0 := J5.out.cell0
                    have x1 := J5.out.cell1
                    have d1 : e1 = 0 ∨ (¬ e1 = 0 ∧ s1 = ⟨#[]⟩) := by
                      by_cases r : e1 = 0
                      · exact .inl r
                      · exact .inr ⟨r, S1.out r⟩
                    have d2 : e2 = 0 ∨ (¬ e2 = 0 ∧ s2 = ⟨#[]⟩) := by
                      by_cases r : e2 = 0
                      · exact .inl r
                      · exact .inr ⟨r, S2.out r⟩
                    rcases d1 with r1 | ⟨r1, rfl⟩ <;> rcases d2 with r2 | ⟨r2, rfl⟩
                    all_goals
                      (try have HC1 := Lib.hid (HR1.out r1))
                      (try have HC2 := Lib.hid (HR2.out r2))
                      clear HR1 HR2 S1 S2
                      go_wp2_with (first
                        | (go_at_call 23; refine (HC1.out _ K5.out).mono ?_; rintro e V4 ⟨rfl, kk⟩; have K6 := Lib.hid (next_below K5.out kk); have J6 := Lib.hid (J5.out.next kk); clear kk x0 x1; have x0 := J6.out.cell0; have x1 := J6.out.cell1)
                        | (go_at_call 24; first | (refine (HC2.out _ K6.out).mono ?_; rintro e V5 ⟨rfl, kk⟩; have K7 := Lib.hid (next_below K6.out kk); clear kk x0 x1) | (refine (HC2.out _ K5.out).mono ?_; rintro e V5 ⟨rfl, kk⟩; have K7 := Lib.hid (next_below K5.out kk); clear kk x0 x1)))
                      go_roundw
                      case rel => exact ⟨y + 1, by omega, by go_num, by first | exact K7 | exact K6 | exact K5⟩
                      case measure => simp [intOf]; omega
        · obtain rfl : y = 3 := by omega
          go_wp2
          go_roundw
          case rel => exact ⟨x + 1, by omega, by go_num, hB⟩
          case measure => simp [intOf]; omega
    · obtain rfl : x = 2 := by omega
      go_wp2
      go_ret
      exact ⟨rfl, next_below K3.out hB.out⟩
theorem drawLaws_at {w : World} {v vd : Value} (ts : List (List UInt8)) (i n : Int) (zs : List Nat) (k m : Nat) (hq : QsIn w v ts) (hz : ∀ z ∈ zs, z < 256) (hd : U8s w vd zs) (hk : k < 256) (hm : m < 256) (hg : Good w) :
    Calls Tryz.prog 5 #[v, .int .i64 i, .int .i64 n, vd, .int .u8 k, .int .u8 m] w (RetV w (.bool true)) := drawLaws_any ts zs i n k m hq.2 hq.1 hz hd hk hm hg
end Go.Proofs.YtfjjdjhnodcfhaaGreatDoor
