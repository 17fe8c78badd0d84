/- The contract of ratio.read at well-formed texts. -/
import Derived.Test.YtmhneibcbjgedaaGreatDoorRRead
set_option linter.unusedSimpArgs false
set_option linter.unusedVariables false
namespace Go.Proofs.YtmhneibcbjgedaaGreatDoor
open Go.RowKit
open Go.Lib (decDigits itoa nDigits)

theorem rd_len {ds : List UInt8} (h : Dig ds) {k : Nat} (hk : ds.length ≤ k) : (limbs (rd 0 ds)).length ≤ k := by
  refine Nat.le_trans (limbs_len_le (k := ds.length) ?_) hk
  have h1 := rd_lt h
  have h2 : 10 ^ ds.length ≤ 1000000000 ^ ds.length := Nat.pow_le_pow_left (by omega) _
  omega
theorem sg_len {neg : Bool} {ds : List UInt8} (h : Dig ds) {k : Nat} (hk : ds.length ≤ k) : (limbs (sg neg (rd 0 ds)).natAbs).length ≤ k := by
  rw [sg_natAbs]; exact rd_len h hk

set_option maxHeartbeats 2000000 in
set_option maxRecDepth 100000 in
/-- A text without a slash. -/
theorem rread_int {w : World} {neg : Bool} {ds : List UInt8} (hd : Dig ds) (hl : ds.length ≤ 268435000) (hg : Good w) (h5 : wcheck (sgnd neg ds) ≠ 5) :
    Calls Tryz.prog 80 #[.string ⟨(sgnd neg ds).toArray⟩] w (RetR w (if 2000 < nDigits (sg neg (rd 0 ds)).natAbs then 6 else 0) (sg neg (rd 0 ds) : Int)) := by
  obtain ⟨W, hW, hB, hsz, j1⟩ := entA w 106 #[.bool false, .slice none 0 0, .bool false, .slice none 0 0, .int .i64 0]
  have HW := Lib.hid hW
  clear hW hsz
  have hll : (sgnd neg ds).length ≤ 268435001 := by rw [sgnd_len]; cases neg <;> simp <;> omega
  have hc := cut_any (w := W) (sgnd neg ds) (hg.below hB) (by omega) (cut_none (sgnd_no hd))
  have c1 := fun (V : World) => check_any (w := V) (sgnd neg ds) (by omega)
  have c2 := fun (V : World) => check_any (w := V) [49] (by decide)
  have cf := fun (V : World) hh => from_whole (w := V) neg hd (by omega) ((hg.below hB).below hh)
  have e49 : wcheck [49] = 0 := rfl
  rw [e49] at c2
  clear e49
  have hfm : Fit (sg neg (rd 0 ds)) := Fit.of_len (sg_len hd hl) (by omega)
  have hf1 : Fit (1 : Int) := Nat.le_trans (limbs_len_le (k := 1) (by decide)) (by decide)
  have hx : ((sg neg (rd 0 ds) : Int) : Rat).num = sg neg (rd 0 ds) := Rat.num_intCast _
  have hx2 : ((((sg neg (rd 0 ds) : Int) : Rat).den : Nat) : Int) = 1 := by rw [Rat.den_intCast]; rfl
  generalize hwn : wcheck (sgnd neg ds) = wn at *
  generalize sg neg (rd 0 ds) = m at *
  have hw5 : (wn == 5) = false := by simpa using h5
  obtain ⟨L, hL⟩ : ∃ L : ByteArray, L = ⟨(sgnd neg ds).toArray⟩ := ⟨_, rfl⟩
  rw [← hL] at hc c1 cf ⊢
  have HC := Lib.hid hc
  have C1 := Lib.hid c1
  have C2 := Lib.hid c2
  have CF := Lib.hid cf
  have HX := Lib.hid (And.intro hx hx2)
  have HFM := Lib.hid (And.intro hfm hf1)
  clear hc c1 c2 cf hx hx2 hfm hf1 hwn hL h5
  have HG := Lib.hid (hg.below hB)
  clear hg
  obtain ⟨res, hres⟩ : ∃ res : Int, res = (if 2000 < nDigits m.natAbs then 6 else 0) := ⟨_, rfl⟩
  rw [← hres]
  have HRES := Lib.hid hres
  clear hres
  go_enter Tryz.func80, Tryz.ntmps80
  go_upto_region 1 with fail
  rw [← HW.out]
  go_upto_region 6 with (first
    | (go_at_call 128; refine HC.out.mono ?_; rintro e w1 ⟨rfl, hb1⟩)
    | (go_at_call_of 124 (Value.string L); refine (C1.out _).mono ?_; rintro e w2 ⟨rfl, hb2⟩; have tok := hb2)
    | (go_at_call 124; refine (C2.out _).mono ?_; rintro e w3 ⟨rfl, hb3⟩))
  have hb12 := hb1.trans (hb2.mono hb1.size)
  have hb := hb12.trans (hb3.mono hb12.size)
  have i1 := j1.next hb
  clear hb1 hb2 hb3 hb12 tok
  go_upto_region 7 with (go_at_call 91; refine (CF.out _ hb).mono ?_; rintro e w4 ⟨r, rfl, hr, hb4⟩; obtain ⟨b, a, k, p, c, f, l, q, rfl, hn, hdn⟩ := hr.parts)
  have g6 := Blk.new w4 106 #[.bool b, .slice a k p, .bool c, .slice f l q, .int .i64 0]
  have hr6 := hr.below ((Below.refl _ _).alloc (Nat.le_refl _) (.cells #[.bool b, .slice a k p, .bool c, .slice f l q, .int .i64 0] 106))
  have hb6 : Below W.heap.size W (w4.alloc (.cells #[.bool b, .slice a k p, .bool c, .slice f l q, .int .i64 0] 106)) := (next_below hb hb4).alloc (next_below hb hb4).size _
  have i6 := (i1.next hb4).alloc (.cells #[.bool b, .slice a k p, .bool c, .slice f l q, .int .i64 0] 106)
  have hS4 : W.heap.size ≤ w4.heap.size := (next_below hb hb4).size
  generalize w4.heap.size = z6 at *
  generalize (w4.alloc (.cells #[.bool b, .slice a k p, .bool c, .slice f l q, .int .i64 0] 106)) = w6 at *
  obtain ⟨x0, x1, x2, x3, x4⟩ := g6.at5
  go_upto_region 8 with (go_at_call 95; refine (parts_any hr6).mono ?_; rintro e w7 ⟨vq, vr, rfl, hq, hqr, hb7⟩; obtain ⟨bq, aq, kq, pq, rfl⟩ := hq.parts; obtain ⟨bz, az, kz, pz, rfl⟩ := hqr.parts)
  have g8 := ((g6.next hb7).alloc (.cells #[.bool bq, .slice aq kq pq] 65)).alloc (.cells #[.bool bz, .slice az kz pz] 65)
  have i8 := ((i6.next hb7).alloc (.cells #[.bool bq, .slice aq kq pq] 65)).alloc (.cells #[.bool bz, .slice az kz pz] 65)
  have hb8 : Below W.heap.size W ((w7.alloc (.cells #[.bool bq, .slice aq kq pq] 65)).alloc (.cells #[.bool bz, .slice az kz pz] 65)) := ((next_below hb6 hb7).alloc (next_below hb6 hb7).size _).alloc (by have := (next_below hb6 hb7).size; simp; omega) _
  have hr8 := (hr6.below hb7).below (((Below.refl _ _).alloc (Nat.le_refl _) (.cells #[.bool bq, .slice aq kq pq] 65)).alloc (by simp) (.cells #[.bool bz, .slice az kz pz] 65))
  clear x0 x1 x2 x3 x4 hr6 hq hqr g6 i6 hr hn hdn
  generalize ((w7.alloc (.cells #[.bool bq, .slice aq kq pq] 65)).alloc (.cells #[.bool bz, .slice az kz pz] 65)) = w8 at *
  go_upto_region 9 with (go_at_call 83; refine (small_any (n := 1) (by decide) (by decide)).mono ?_; rintro e w9 ⟨rs, rfl, hrs, hb9⟩; obtain ⟨bs, ag, ks, ps, rfl⟩ := hrs.parts)
  have g9 := (g8.next hb9).alloc (.cells #[.bool bs, .slice ag ks ps] 65)
  have i9 := (i8.next hb9).alloc (.cells #[.bool bs, .slice ag ks ps] 65)
  have hb10 : Below W.heap.size W (w9.alloc (.cells #[.bool bs, .slice ag ks ps] 65)) := (next_below hb8 hb9).alloc (next_below hb8 hb9).size _
  have hr9 := (hr8.below hb9).below ((Below.refl _ _).alloc (Nat.le_refl _) (.cells #[.bool bs, .slice ag ks ps] 65))
  clear hr8 hrs g8 i8
  generalize (w9.alloc (.cells #[.bool bs, .slice ag ks ps] 65)) = w10 at *
  go_quiet (fail)
  rename_i nq
  have hf := fits_any (w := w10.drewN nq) 2000 (hr9.below ((Drawn.of w10 nq).below _)) HFM.out.1 HFM.out.2 ((HG.out.below hb10).below ((Drawn.of w10 nq).below _))
  have hd1 : nDigits (1 : Int).natAbs = 1 := Lib.nDigits_small (by decide)
  rw [hd1] at hf
  have hb10' : Below W.heap.size W (w10.drewN nq) := next_below hb10 ((Drawn.of w10 nq).below _)
  have g9' := g9.drewN nq
  have i9' := i9.drewN nq
  have hr9' := hr9.below ((Drawn.of w10 nq).below _)
  clear g9 i9 hr9 hb10 hd1
  obtain ⟨x0, x1, x2, x3, x4⟩ := g9'.at5
  generalize w10.drewN nq = w11 at *
  by_cases hbig : 2000 < nDigits m.natAbs
  · have er : res = 6 := by rw [HRES.out, if_pos hbig]
    have ed : (decide ((nDigits m.natAbs : Int) ≤ 2000) && decide (((1 : Nat) : Int) ≤ 2000)) = false := by
      have : decide ((nDigits m.natAbs : Int) ≤ 2000) = false := by simp; omega
      rw [this]; rfl
    rw [ed] at hf
    have HF := Lib.hid hf
    have HER := Lib.hid er
    clear hf ed er hbig
    go_upto_region 12 with (go_at_call 127; refine HF.out.mono ?_; rintro e w12 ⟨rfl, hb12⟩)
    have i12 := i9'.next hb12
    obtain ⟨q0, q1, q2, q3, q4⟩ := i12.at5
    obtain ⟨u0, u1, u2, u3, u4⟩ := i12.fr5
    go_wp2
    have hj := i12.five (.bool false) (.slice none 0 0) (.bool false) (.slice none 0 0) (.int .i64 6)
    obtain ⟨d0, d1, d2, d3, d4⟩ := hj.at5
    refine bodyPost_ret (v := .agg #[.bool false, .slice none 0 0, .bool false, .slice none 0 0, .int .i64 6]) (by simp [results, Tryz.results80, go_sem, d0, d1, d2, d3, d4]) rfl ⟨_, _, _, _, _, _, _, _, by rw [HER.out], fun h => absurd (HER.out.symm.trans h) (by decide), below_five (hB.trans ((next_below hb10' hb12).mono hB.size)) (Nat.le_refl _) _ _ _ _ _⟩
  · have er : res = 0 := by rw [HRES.out, if_neg hbig]
    have ed : (decide ((nDigits m.natAbs : Int) ≤ 2000) && decide (((1 : Nat) : Int) ≤ 2000)) = true := by
      have : decide ((nDigits m.natAbs : Int) ≤ 2000) = true := by simp; omega
      rw [this]; rfl
    rw [ed] at hf
    have HF := Lib.hid hf
    have HER := Lib.hid er
    clear hf ed er hbig
    go_upto_region 13 with (go_at_call 127; refine HF.out.mono ?_; rintro e w12 ⟨rfl, hb12⟩)
    have i12 := i9'.next hb12
    have g12 := g9'.next hb12
    have hr12 := hr9'.below hb12
    clear x0 x1 x2 x3 x4
    obtain ⟨x0, x1, x2, x3, x4⟩ := g12.at5
    obtain ⟨q0, q1, q2, q3, q4⟩ := i12.at5
    obtain ⟨u0, u1, u2, u3, u4⟩ := i12.fr5
    go_wp2
    have hj := i12.five (.bool b) (.slice a k p) (.bool c) (.slice f l q) (.int .i64 0)
    obtain ⟨d0, d1, d2, d3, d4⟩ := hj.at5
    refine bodyPost_ret (v := .agg #[.bool b, .slice a k p, .bool c, .slice f l q, .int .i64 0]) (by simp [results, Tryz.results80, go_sem, d0, d1, d2, d3, d4]) rfl ⟨_, _, _, _, _, _, _, _, by rw [HER.out], fun _ => (hr12.nm HX.out.1.symm HX.out.2.symm).five i12 (by decide) _ _ _ _ _, below_five (hB.trans ((next_below hb10' hb12).mono hB.size)) (Nat.le_refl _) _ _ _ _ _⟩

end Go.Proofs.YtmhneibcbjgedaaGreatDoor
