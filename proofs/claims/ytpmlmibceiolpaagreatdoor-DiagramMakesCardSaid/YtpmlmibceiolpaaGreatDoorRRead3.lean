/- The contract of ratio.read at texts with a slash. -/
import Derived.Test.YtpmlmibceiolpaaGreatDoorRRead2
set_option linter.unusedSimpArgs false
set_option linter.unusedVariables false
namespace Go.Proofs.YtpmlmibceiolpaaGreatDoor
open Go.RowKit
open Go.Lib (decDigits itoa nDigits)

/-- The error of two integers that are to be a fraction. -/
def fracErr (m n : Int) : Int := if n ≤ 1 ∨ Nat.gcd m.natAbs n.natAbs ≠ 1 then 5 else if 2000 < nDigits m.natAbs ∨ 2000 < nDigits n.natAbs then 6 else 0

set_option maxHeartbeats 2000000 in
set_option maxRecDepth 100000 in
/-- A text with a slash. -/
theorem rread_frac {w : World} {neg neg2 : Bool} {ds es : List UInt8} (hd : Dig ds) (he : Dig es) (hl : ds.length + es.length ≤ 268435000) (hg : Good w) (h5 : wcheck (sgnd neg ds) ≠ 5) (h6 : wcheck (sgnd neg2 es) ≠ 5) :
    Calls Tryz.prog 102 #[.string ⟨(sgnd neg ds ++ 47 :: sgnd neg2 es).toArray⟩] w (RetR w (fracErr (sg neg (rd 0 ds)) (sg neg2 (rd 0 es))) (Rat.divInt (sg neg (rd 0 ds)) (sg neg2 (rd 0 es)))) := by
  obtain ⟨W, hW, hB, hsz, j1⟩ := entA w 150 #[.bool false, .slice none 0 0, .bool false, .slice none 0 0, .int .i64 0]
  have HW := Lib.hid hW
  clear hW hsz
  have hll : (sgnd neg ds).length ≤ 268435001 := by rw [sgnd_len]; cases neg <;> simp <;> omega
  have hll2 : (sgnd neg2 es).length ≤ 268435001 := by rw [sgnd_len]; cases neg2 <;> simp <;> omega
  have hc := cut_any (w := W) (sgnd neg ds ++ 47 :: sgnd neg2 es) (hg.below hB) (by simp only [List.length_append, List.length_cons]; omega) (cut_some (sgnd_no hd))
  have c1 := fun (V : World) => check_any (w := V) (sgnd neg ds) (by omega)
  have c2 := fun (V : World) => check_any (w := V) (sgnd neg2 es) (by omega)
  have cf := fun (V : World) hh => from_frac (w := V) neg neg2 hd he (by omega) ((hg.below hB).below hh)
  have hfm : Fit (sg neg (rd 0 ds)) := Fit.of_len (sg_len hd (show ds.length ≤ 268435000 by omega)) (by omega)
  have hfk : Fit (sg neg2 (rd 0 es)) := Fit.of_len (sg_len he (show es.length ≤ 268435000 by omega)) (by omega)
  have hf1 : Fit (1 : Int) := Nat.le_trans (limbs_len_le (k := 1) (by decide)) (by decide)
  generalize hwn : wcheck (sgnd neg ds) = wn at *
  generalize hwd : wcheck (sgnd neg2 es) = wd at *
  generalize sg neg (rd 0 ds) = m at *
  generalize sg neg2 (rd 0 es) = n at *
  have hw5 : (wn == 5) = false := by simpa using h5
  have hw6 : (wd == 5) = false := by simpa using h6
  obtain ⟨Q, hQ⟩ : ∃ Q : ByteArray, Q = ⟨(sgnd neg ds ++ 47 :: sgnd neg2 es).toArray⟩ := ⟨_, rfl⟩
  obtain ⟨L, hL⟩ : ∃ L : ByteArray, L = ⟨(sgnd neg ds).toArray⟩ := ⟨_, rfl⟩
  obtain ⟨D, hD⟩ : ∃ D : ByteArray, D = ⟨(sgnd neg2 es).toArray⟩ := ⟨_, rfl⟩
  rw [← hQ] at hc cf ⊢
  rw [← hL, ← hD] at hc
  rw [← hL] at c1
  rw [← hD] at c2
  have HC := Lib.hid hc
  have C1 := Lib.hid c1
  have C2 := Lib.hid c2
  have CF := Lib.hid cf
  have HFM := Lib.hid (And.intro hfm (And.intro hfk hf1))
  clear hc c1 c2 cf hfm hfk hf1 hwn hwd hL hD hQ h5 h6
  have HG := Lib.hid (hg.below hB)
  clear hg
  obtain ⟨res, hres⟩ : ∃ res : Int, res = fracErr m n := ⟨_, rfl⟩
  rw [← hres]
  have HRES := Lib.hid hres
  clear hres
  go_enter Tryz.func102, Tryz.ntmps102
  go_upto_region 1 with fail
  rw [← HW.out]
  go_upto_region 6 with (first
    | (go_at_call 74; refine HC.out.mono ?_; rintro e w1 ⟨rfl, hb1⟩)
    | (go_at_call_of 130 (Value.string L); refine (C1.out _).mono ?_; rintro e w2 ⟨rfl, hb2⟩; have tok := hb2)
    | (go_at_call 130; refine (C2.out _).mono ?_; rintro e w3 ⟨rfl, hb3⟩))
  have hb12 := hb1.trans (hb2.mono hb1.size)
  have hb := hb12.trans (hb3.mono hb12.size)
  have i1 := j1.next hb
  clear hb1 hb2 hb3 hb12 tok
  go_upto_region 7 with (go_at_call 43; refine (CF.out _ hb).mono ?_; rintro e w4 ⟨r, rfl, hr, hb4⟩; obtain ⟨b, a, k, p, c, f, l, q, rfl, hn, hdn⟩ := hr.parts)
  have g6 := Blk.new w4 150 #[.bool b, .slice a k p, .bool c, .slice f l q, .int .i64 0]
  have hr6 := hr.below ((Below.refl _ _).alloc (Nat.le_refl _) (.cells #[.bool b, .slice a k p, .bool c, .slice f l q, .int .i64 0] 150))
  have hb6 : Below W.heap.size W (w4.alloc (.cells #[.bool b, .slice a k p, .bool c, .slice f l q, .int .i64 0] 150)) := (next_below hb hb4).alloc (next_below hb hb4).size _
  have i6 := (i1.next hb4).alloc (.cells #[.bool b, .slice a k p, .bool c, .slice f l q, .int .i64 0] 150)
  have hS4 : W.heap.size ≤ w4.heap.size := (next_below hb hb4).size
  generalize w4.heap.size = z6 at *
  generalize (w4.alloc (.cells #[.bool b, .slice a k p, .bool c, .slice f l q, .int .i64 0] 150)) = w6 at *
  obtain ⟨x0, x1, x2, x3, x4⟩ := g6.at5
  go_upto_region 8 with (go_at_call 131; refine (parts_any hr6).mono ?_; rintro e w7 ⟨vq, vr, rfl, hq, hqr, hb7⟩; obtain ⟨bq, aq, kq, pq, rfl⟩ := hq.parts; obtain ⟨bz, az, kz, pz, rfl⟩ := hqr.parts)
  have e7 := (Blk.new w7 86 #[.bool bq, .slice aq kq pq]).alloc (.cells #[.bool bz, .slice az kz pz] 86)
  have e8 := Blk.new2 w7 (.cells #[.bool bq, .slice aq kq pq] 86) 86 #[.bool bz, .slice az kz pz]
  have hq8 := (hq.more (.cells #[.bool bq, .slice aq kq pq] 86)).more (.cells #[.bool bz, .slice az kz pz] 86)
  have hz8 := (hqr.more (.cells #[.bool bq, .slice aq kq pq] 86)).more (.cells #[.bool bz, .slice az kz pz] 86)
  have g8 := ((g6.next hb7).alloc (.cells #[.bool bq, .slice aq kq pq] 86)).alloc (.cells #[.bool bz, .slice az kz pz] 86)
  have i8 := ((i6.next hb7).alloc (.cells #[.bool bq, .slice aq kq pq] 86)).alloc (.cells #[.bool bz, .slice az kz pz] 86)
  have hb8 : Below W.heap.size W ((w7.alloc (.cells #[.bool bq, .slice aq kq pq] 86)).alloc (.cells #[.bool bz, .slice az kz pz] 86)) := ((next_below hb6 hb7).alloc (next_below hb6 hb7).size _).alloc (by have := (next_below hb6 hb7).size; simp; omega) _
  have hr8 := (hr6.below hb7).below (((Below.refl _ _).alloc (Nat.le_refl _) (.cells #[.bool bq, .slice aq kq pq] 86)).alloc (by simp) (.cells #[.bool bz, .slice az kz pz] 86))
  clear x0 x1 x2 x3 x4 hr6 hq hqr g6 i6 hr hn hdn
  generalize ((w7.alloc (.cells #[.bool bq, .slice aq kq pq] 86)).alloc (.cells #[.bool bz, .slice az kz pz] 86)) = w8 at *
  go_upto_region 9 with (go_at_call 76; refine (small_any (n := 1) (by decide) (by decide)).mono ?_; rintro e w9 ⟨rs, rfl, hrs, hb9⟩; obtain ⟨bs, ag, ks, ps, rfl⟩ := hrs.parts)
  have e17 := (e7.next hb9).alloc (.cells #[.bool bs, .slice ag ks ps] 86)
  have e18 := (e8.next hb9).alloc (.cells #[.bool bs, .slice ag ks ps] 86)
  have e19 := Blk.new w9 86 #[.bool bs, .slice ag ks ps]
  have hq10 := (hq8.below hb9).more (.cells #[.bool bs, .slice ag ks ps] 86)
  have hz10 := (hz8.below hb9).more (.cells #[.bool bs, .slice ag ks ps] 86)
  have hs10 := hrs.more (.cells #[.bool bs, .slice ag ks ps] 86)
  have g9 := (g8.next hb9).alloc (.cells #[.bool bs, .slice ag ks ps] 86)
  have i9 := (i8.next hb9).alloc (.cells #[.bool bs, .slice ag ks ps] 86)
  have hb10 : Below W.heap.size W (w9.alloc (.cells #[.bool bs, .slice ag ks ps] 86)) := (next_below hb8 hb9).alloc (next_below hb8 hb9).size _
  have hr9 := (hr8.below hb9).below ((Below.refl _ _).alloc (Nat.le_refl _) (.cells #[.bool bs, .slice ag ks ps] 86))
  clear hr8 hrs g8 i8 e7 e8 hq8 hz8
  generalize (w9.alloc (.cells #[.bool bs, .slice ag ks ps] 86)) = w10 at *
  generalize w9.heap.size = z9 at *
  generalize w7.heap.size = z7 at *
  have a0 := e17.cell0
  have a1 := e17.cell1
  have a2 := e18.cell0
  have a3 := e18.cell1
  have a4 := e19.cell0
  have a5 := e19.cell1
  have t7 := e17.lt
  have t8 := e18.lt
  have t9 := e19.lt
  have hk0 : Below w10.heap.size w10 w10.drew := (Below.refl _ _).drew
  have hB0 : Below w10.heap.size w10 w10.drew := (Below.refl _ _).drew
  have hB0 : Below w10.heap.size w10 w10.drew := (Below.refl _ _).drew
  have hB0 : Below w10.heap.size w10 w10.drew := (Below.refl _ _).drew
  rcases Int.lt_or_le 1 n with h1n | h1n
  · have es : (n - 1).sign = 1 := Int.sign_eq_one_of_pos (by omega)
    have c1 := fun (V : World) h => cmp_any (w := V) (hz10.below h) (hs10.below h)
    rw [es] at c1
    have gc := fun (V : World) h => gcd_any (w := V) (hq10.below h) (hz10.below h) HFM.out.1 HFM.out.2.1
    have hgp : 0 < Nat.gcd m.natAbs n.natAbs := Nat.gcd_pos_of_pos_right _ (by omega)
    have hdet : ∀ g, g = Nat.gcd m.natAbs n.natAbs → res = (if g ≠ 1 then 5 else if 2000 < nDigits m.natAbs ∨ 2000 < nDigits n.natAbs then 6 else 0) := by
      rintro g rfl
      rw [HRES.out]; unfold fracErr
      by_cases hg1 : Nat.gcd m.natAbs n.natAbs ≠ 1
      · rw [if_pos (.inr hg1), if_pos hg1]
      · rw [if_neg (by rintro (h | h); omega; exact hg1 h), if_neg hg1]
    have hnum : ∀ g, g = Nat.gcd m.natAbs n.natAbs → g = 1 → m = (Rat.divInt m n).num ∧ n = ((Rat.divInt m n).den : Int) := by
      rintro g hg rfl
      refine make_one (by omega) ?_
      unfold red
      rw [← hg]
      have : decide (n < 0) = false := by simp; omega
      rw [this]; rfl
    obtain ⟨g, hgg⟩ : ∃ g, g = Nat.gcd m.natAbs n.natAbs := ⟨_, rfl⟩
    have HDET := Lib.hid (hdet g hgg)
    have HNUM := Lib.hid (hnum g hgg)
    rw [← hgg] at gc hgp
    have CC := Lib.hid c1
    have GC := Lib.hid gc
    clear c1 es hdet hnum h1n gc hgg a0 a1 a2 a3 a4 a5
    by_cases hg1 : g = 1
    · have es : ((g : Int) - 1).sign = 0 := by rw [hg1]; rfl
      have ES := Lib.hid es
      have HG1 := Lib.hid hg1
      clear es hg1 hgp
      refine wp_region_list 16 (by kernel_rfl) (by kernel_rfl) [] [fun v _ => v = .bool true, fun v _ => v = .bool true, fun v _ => v = .agg #[.bool bz, .slice az kz pz], fun v _ => v = .agg #[.bool bs, .slice ag ks ps], fun v _ => v = .int .i64 1, fun v _ => v = .bool false, fun v _ => v = .bool false, fun v _ => v = .agg #[.bool bq, .slice aq kq pq], fun v _ => v = .agg #[.bool bz, .slice az kz pz], fun v w' => Wh w' v ((g : Int)), fun v _ => v = .agg #[.bool bs, .slice ag ks ps], fun v _ => v = .int .i64 0, fun v _ => v = .bool false, fun v _ => v = .bool false, fun v _ => v = .bool false, fun v _ => v = .bool false] (by simp only [List.take_succ_cons, List.take_zero]; rfl) (by simp only [List.drop_succ_cons, List.drop_zero]; rfl) (fun vals => by simp only [fam, Act.put, List.setIfInBounds_toArray, List.set_cons_zero, List.set_cons_succ, if_true]; rfl) (by repeat' (first | exact Stab.eq _ _ | exact Stab.wh _ _ | exact Stab.nm _ _ | exact Stab.new _ _ | exact Stab.newn _ _ | exact trivial | apply And.intro)) trivial ?_ ?_
      · refine ⟨?_, ?_, ?_, ?_, ?_, ?_, ?_, ?_, ?_, ?_, ?_, ?_, ?_, ?_, ?_, ?_, trivial⟩
        all_goals
          intro vals wv hBv hp
          dsimp only
          (try simp [preOk, Region.binds] at hp)
          have hb := next_below hB0 hBv
          have hbl0 := e17.next hb
          have hc0_0 := hbl0.cell 0
          have hc0_1 := hbl0.cell 1
          simp at hc0_0 hc0_1
          have hbl1 := e18.next hb
          have hc1_0 := hbl1.cell 0
          have hc1_1 := hbl1.cell 1
          simp at hc1_0 hc1_1
          have hbl2 := e19.next hb
          have hc2_0 := hbl2.cell 0
          have hc2_1 := hbl2.cell 1
          simp at hc2_0 hc2_1
          clear hBv
        case refine_5 =>
          obtain ⟨q0, q1, q2⟩ := hp
          generalize vals 2 = x2 at *
          subst q0
          generalize vals 3 = x3 at *
          subst q1
          generalize vals 1 = x1 at *
          subst q2
          go_wp2_with ((go_at_call 132; refine (CC.out _ hb).mono ?_; rintro e w2 ⟨rfl, hb2⟩))
          exact ⟨rfl, _, rfl, rfl, hb2, trivial⟩
        case refine_10 =>
          obtain ⟨q0, q1, q2⟩ := hp
          generalize vals 7 = x7 at *
          subst q0
          generalize vals 8 = x8 at *
          subst q1
          generalize vals 6 = x6 at *
          subst q2
          go_wp2_with ((go_at_call 115; refine (GC.out _ hb).mono ?_; rintro e w2 ⟨r, rfl, hr, hb2⟩))
          exact ⟨rfl, _, rfl, hr, hb2, trivial⟩
        case refine_12 =>
          obtain ⟨q0, q1, q2, q3⟩ := hp
          generalize vals 10 = x10 at *
          subst q1
          generalize vals 6 = x6 at *
          subst q3
          have hcm := cmp_any q0 (hs10.below hb)
          rw [ES.out] at hcm
          go_wp2_with (go_at_call 132; refine hcm.mono ?_; rintro e w2 ⟨rfl, hb2⟩)
          exact ⟨rfl, _, rfl, rfl, hb2, trivial⟩
        all_goals
          go_wp2
          (first | exact ⟨rfl, _, rfl, rfl, Below.refl _ _, trivial⟩ | (refine ⟨rfl, _, ?_, rfl, Below.refl _ _, trivial⟩; simp only [Act.put, List.setIfInBounds_toArray, List.set_cons_zero, List.set_cons_succ, hp]))
      · rintro vals wv hBv ⟨p0, p1, p2, p3, p4, p5, p6, p7, p8, p9, p10, p11, p12, p13, p14, p15, _⟩ hne
        have hb := next_below hB0 hBv
        simp at p15
        generalize vals 15 = v15 at *
        subst p15
        clear hBv hne p0 p1 p2 p3 p4 p5 p6 p7 p8 p9 p10 p11 p12 p13 p14
        have hkZ := hb
        have i9' := i9.next hkZ
        have g9' := g9.next hkZ
        have hr9' := hr9.below hkZ
        have hb10' := next_below hb10 hkZ
        have hf := fits_any (w := wv) 2000 hr9' HFM.out.1 HFM.out.2.1 (HG.out.below hb10')
        have hdet := HDET.out
        rw [HG1.out, if_neg (by decide)] at hdet
        have hnm := HNUM.out HG1.out
        obtain ⟨x0, x1, x2, x3, x4⟩ := g9'.at5
        by_cases hbig : 2000 < nDigits m.natAbs ∨ 2000 < nDigits n.natAbs
        · have er : res = 6 := by rw [hdet, if_pos hbig]
          have ed : (decide ((nDigits m.natAbs : Int) ≤ 2000) && decide ((nDigits n.natAbs : Int) ≤ 2000)) = false := by
            rcases hbig with h | h
            · have : decide ((nDigits m.natAbs : Int) ≤ 2000) = false := by simp; omega
              rw [this]; rfl
            · have : decide ((nDigits n.natAbs : Int) ≤ 2000) = false := by simp; omega
              rw [this, Bool.and_false]
          rw [ed] at hf
          have HF := Lib.hid hf
          have HER := Lib.hid er
          clear hf ed er hbig hdet hnm
          go_upto_region 12 with (go_at_call 72; refine HF.out.mono ?_; rintro e w12 ⟨rfl, hb12⟩)
          have i12 := i9'.next hb12
          obtain ⟨q0, q1, q2, q3, q4⟩ := i12.at5
          obtain ⟨u0, u1, u2, u3, u4⟩ := i12.fr5
          go_wp2
          have hj := i12.five (.bool false) (.slice none 0 0) (.bool false) (.slice none 0 0) (.int .i64 6)
          obtain ⟨d0, d1, d2, d3, d4⟩ := hj.at5
          refine bodyPost_ret (v := .agg #[.bool false, .slice none 0 0, .bool false, .slice none 0 0, .int .i64 6]) (by simp [results, Tryz.results102, go_sem, d0, d1, d2, d3, d4]) rfl ⟨_, _, _, _, _, _, _, _, by rw [HER.out], fun h => absurd (HER.out.symm.trans h) (by decide), below_five (hB.trans ((next_below hb10' hb12).mono hB.size)) (Nat.le_refl _) _ _ _ _ _⟩
        · have er : res = 0 := by rw [hdet, if_neg hbig]
          have ed : (decide ((nDigits m.natAbs : Int) ≤ 2000) && decide ((nDigits n.natAbs : Int) ≤ 2000)) = true := by
            rw [Bool.and_eq_true, decide_eq_true_eq, decide_eq_true_eq]; omega
          rw [ed] at hf
          have HF := Lib.hid hf
          have HER := Lib.hid er
          have HNM := Lib.hid hnm
          clear hf ed er hbig hdet hnm
          go_upto_region 13 with (go_at_call 72; refine HF.out.mono ?_; rintro e w12 ⟨rfl, hb12⟩)
          have i12 := i9'.next hb12
          have g12 := g9'.next hb12
          have hr12 := hr9'.below hb12
          clear x0 x1 x2 x3 x4
          obtain ⟨x0, x1, x2, x3, x4⟩ := g12.at5
          obtain ⟨q0, q1, q2, q3, q4⟩ := i12.at5
          obtain ⟨u0, u1, u2, u3, u4⟩ := i12.fr5
          go_wp2
          have hj := i12.five (.bool b) (.slice a k p) (.bool c) (.slice f l q) (.int .i64 0)
          obtain ⟨d0, d1, d2, d3, d4⟩ := hj.at5
          refine bodyPost_ret (v := .agg #[.bool b, .slice a k p, .bool c, .slice f l q, .int .i64 0]) (by simp [results, Tryz.results102, go_sem, d0, d1, d2, d3, d4]) rfl ⟨_, _, _, _, _, _, _, _, by rw [HER.out], fun _ => (hr12.nm HNM.out.1 HNM.out.2).five i12 (by decide) _ _ _ _ _, below_five (hB.trans ((next_below hb10' hb12).mono hB.size)) (Nat.le_refl _) _ _ _ _ _⟩
    · have es : ((g : Int) - 1).sign = 1 := Int.sign_eq_one_of_pos (by omega)
      have er : res = 5 := by rw [HDET.out, if_pos hg1]
      have HER := Lib.hid er
      have ES := Lib.hid es
      clear es hg1 hgp er
      refine wp_region_list 16 (by kernel_rfl) (by kernel_rfl) [] [fun v _ => v = .bool true, fun v _ => v = .bool true, fun v _ => v = .agg #[.bool bz, .slice az kz pz], fun v _ => v = .agg #[.bool bs, .slice ag ks ps], fun v _ => v = .int .i64 1, fun v _ => v = .bool false, fun v _ => v = .bool false, fun v _ => v = .agg #[.bool bq, .slice aq kq pq], fun v _ => v = .agg #[.bool bz, .slice az kz pz], fun v w' => Wh w' v ((g : Int)), fun v _ => v = .agg #[.bool bs, .slice ag ks ps], fun v _ => v = .int .i64 1, fun v _ => v = .bool true, fun v _ => v = .bool true, fun v _ => v = .bool true, fun v _ => v = .bool true] (by simp only [List.take_succ_cons, List.take_zero]; rfl) (by simp only [List.drop_succ_cons, List.drop_zero]; rfl) (fun vals => by simp only [fam, Act.put, List.setIfInBounds_toArray, List.set_cons_zero, List.set_cons_succ, if_true]; rfl) (by repeat' (first | exact Stab.eq _ _ | exact Stab.wh _ _ | exact Stab.nm _ _ | exact Stab.new _ _ | exact Stab.newn _ _ | exact trivial | apply And.intro)) trivial ?_ ?_
      · refine ⟨?_, ?_, ?_, ?_, ?_, ?_, ?_, ?_, ?_, ?_, ?_, ?_, ?_, ?_, ?_, ?_, trivial⟩
        all_goals
          intro vals wv hBv hp
          dsimp only
          (try simp [preOk, Region.binds] at hp)
          have hb := next_below hB0 hBv
          have hbl0 := e17.next hb
          have hc0_0 := hbl0.cell 0
          have hc0_1 := hbl0.cell 1
          simp at hc0_0 hc0_1
          have hbl1 := e18.next hb
          have hc1_0 := hbl1.cell 0
          have hc1_1 := hbl1.cell 1
          simp at hc1_0 hc1_1
          have hbl2 := e19.next hb
          have hc2_0 := hbl2.cell 0
          have hc2_1 := hbl2.cell 1
          simp at hc2_0 hc2_1
          clear hBv
        case refine_5 =>
          obtain ⟨q0, q1, q2⟩ := hp
          generalize vals 2 = x2 at *
          subst q0
          generalize vals 3 = x3 at *
          subst q1
          generalize vals 1 = x1 at *
          subst q2
          go_wp2_with ((go_at_call 132; refine (CC.out _ hb).mono ?_; rintro e w2 ⟨rfl, hb2⟩))
          exact ⟨rfl, _, rfl, rfl, hb2, trivial⟩
        case refine_10 =>
          obtain ⟨q0, q1, q2⟩ := hp
          generalize vals 7 = x7 at *
          subst q0
          generalize vals 8 = x8 at *
          subst q1
          generalize vals 6 = x6 at *
          subst q2
          go_wp2_with ((go_at_call 115; refine (GC.out _ hb).mono ?_; rintro e w2 ⟨r, rfl, hr, hb2⟩))
          exact ⟨rfl, _, rfl, hr, hb2, trivial⟩
        case refine_12 =>
          obtain ⟨q0, q1, q2, q3⟩ := hp
          generalize vals 10 = x10 at *
          subst q1
          generalize vals 6 = x6 at *
          subst q3
          have hcm := cmp_any q0 (hs10.below hb)
          rw [ES.out] at hcm
          go_wp2_with (go_at_call 132; refine hcm.mono ?_; rintro e w2 ⟨rfl, hb2⟩)
          exact ⟨rfl, _, rfl, rfl, hb2, trivial⟩
        all_goals
          go_wp2
          (first | exact ⟨rfl, _, rfl, rfl, Below.refl _ _, trivial⟩ | (refine ⟨rfl, _, ?_, rfl, Below.refl _ _, trivial⟩; simp only [Act.put, List.setIfInBounds_toArray, List.set_cons_zero, List.set_cons_succ, hp]))
      · rintro vals wv hBv ⟨p0, p1, p2, p3, p4, p5, p6, p7, p8, p9, p10, p11, p12, p13, p14, p15, _⟩ hne
        have hb := next_below hB0 hBv
        simp at p15
        generalize vals 15 = v15 at *
        subst p15
        clear hBv hne p0 p1 p2 p3 p4 p5 p6 p7 p8 p9 p10 p11 p12 p13 p14
        have hkZ := hb
        go_upto_region 10 with fail
        have i12 := i9.next hkZ
        obtain ⟨q0, q1, q2, q3, q4⟩ := i12.at5
        obtain ⟨u0, u1, u2, u3, u4⟩ := i12.fr5
        go_wp2
        have hj := i12.five (.bool false) (.slice none 0 0) (.bool false) (.slice none 0 0) (.int .i64 5)
        obtain ⟨d0, d1, d2, d3, d4⟩ := hj.at5
        refine bodyPost_ret (v := .agg #[.bool false, .slice none 0 0, .bool false, .slice none 0 0, .int .i64 5]) (by simp [results, Tryz.results102, go_sem, d0, d1, d2, d3, d4]) rfl ⟨_, _, _, _, _, _, _, _, by rw [HER.out], fun h => absurd (HER.out.symm.trans h) (by decide), below_five (hB.trans ((next_below hb10 hkZ).mono hB.size)) (Nat.le_refl _) _ _ _ _ _⟩
  · have er : res = 5 := by rw [HRES.out]; unfold fracErr; rw [if_pos (.inl h1n)]
    have HER := Lib.hid er
    have c1 := fun (V : World) h => cmp_any (w := V) (hz10.below h) (hs10.below h)
    have hs1 : (n - 1).sign ≤ 0 := by rw [← Int.not_lt, Int.sign_pos_iff]; omega
    generalize (n - 1).sign = s1 at *
    have CC := Lib.hid c1
    clear er c1 h1n a0 a1 a2 a3 a4 a5
    refine wp_region_list 16 (by kernel_rfl) (by kernel_rfl) [] [fun v _ => v = .bool true, fun v _ => v = .bool true, fun v _ => v = .agg #[.bool bz, .slice az kz pz], fun v _ => v = .agg #[.bool bs, .slice ag ks ps], fun v _ => v = .int .i64 s1, fun v _ => v = .bool true, fun v _ => v = .bool true, fun v _ => v = undef, fun v _ => v = undef, fun v _ => v = undef, fun v _ => v = undef, fun v _ => v = undef, fun v _ => v = undef, fun v _ => v = .bool true, fun v _ => v = .bool true, fun v _ => v = .bool true] (by simp only [List.take_succ_cons, List.take_zero]; rfl) (by simp only [List.drop_succ_cons, List.drop_zero]; rfl) (fun vals => by simp only [fam, Act.put, List.setIfInBounds_toArray, List.set_cons_zero, List.set_cons_succ, if_true]; rfl) (by repeat' (first | exact Stab.eq _ _ | exact Stab.wh _ _ | exact Stab.nm _ _ | exact Stab.new _ _ | exact Stab.newn _ _ | exact trivial | apply And.intro)) trivial ?_ ?_
    · refine ⟨?_, ?_, ?_, ?_, ?_, ?_, ?_, ?_, ?_, ?_, ?_, ?_, ?_, ?_, ?_, ?_, trivial⟩
      all_goals
        intro vals wv hBv hp
        dsimp only
        (try simp [preOk, Region.binds] at hp)
        have hb := next_below hB0 hBv
        have hbl0 := e17.next hb
        have hc0_0 := hbl0.cell 0
        have hc0_1 := hbl0.cell 1
        simp at hc0_0 hc0_1
        have hbl1 := e18.next hb
        have hc1_0 := hbl1.cell 0
        have hc1_1 := hbl1.cell 1
        simp at hc1_0 hc1_1
        have hbl2 := e19.next hb
        have hc2_0 := hbl2.cell 0
        have hc2_1 := hbl2.cell 1
        simp at hc2_0 hc2_1
        clear hBv
      case refine_5 =>
        obtain ⟨q0, q1, q2⟩ := hp
        generalize vals 2 = x2 at *
        subst q0
        generalize vals 3 = x3 at *
        subst q1
        generalize vals 1 = x1 at *
        subst q2
        go_wp2_with ((go_at_call 132; refine (CC.out _ hb).mono ?_; rintro e w2 ⟨rfl, hb2⟩))
        exact ⟨rfl, _, rfl, rfl, hb2, trivial⟩
      all_goals
        go_wp2
        (first | exact ⟨rfl, _, rfl, rfl, Below.refl _ _, trivial⟩ | (refine ⟨rfl, _, ?_, rfl, Below.refl _ _, trivial⟩; simp only [Act.put, List.setIfInBounds_toArray, List.set_cons_zero, List.set_cons_succ, hp]))
    · rintro vals wv hBv ⟨p0, p1, p2, p3, p4, p5, p6, p7, p8, p9, p10, p11, p12, p13, p14, p15, _⟩ hne
      have hb := next_below hB0 hBv
      simp at p15
      generalize vals 15 = v15 at *
      subst p15
      clear hBv hne p0 p1 p2 p3 p4 p5 p6 p7 p8 p9 p10 p11 p12 p13 p14
      have hkZ := hb
      go_upto_region 10 with fail
      have i12 := i9.next hkZ
      obtain ⟨q0, q1, q2, q3, q4⟩ := i12.at5
      obtain ⟨u0, u1, u2, u3, u4⟩ := i12.fr5
      go_wp2
      have hj := i12.five (.bool false) (.slice none 0 0) (.bool false) (.slice none 0 0) (.int .i64 5)
      obtain ⟨d0, d1, d2, d3, d4⟩ := hj.at5
      refine bodyPost_ret (v := .agg #[.bool false, .slice none 0 0, .bool false, .slice none 0 0, .int .i64 5]) (by simp [results, Tryz.results102, go_sem, d0, d1, d2, d3, d4]) rfl ⟨_, _, _, _, _, _, _, _, by rw [HER.out], fun h => absurd (HER.out.symm.trans h) (by decide), below_five (hB.trans ((next_below hb10 hkZ).mono hB.size)) (Nat.le_refl _) _ _ _ _ _⟩

end Go.Proofs.YtpmlmibceiolpaaGreatDoor
