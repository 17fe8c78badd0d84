/- RatioField: the walk, with what the drafts' Q answer. -/
import Derived.Test.YtabdnjakmhnnfaaGreatDoorQKnown0
import Derived.Test.YtabdnjakmhnnfaaGreatDoorQDraftQ
set_option linter.unusedSimpArgs false
set_option linter.unusedVariables false
namespace Go.Proofs.YtabdnjakmhnnfaaGreatDoor
open Go.RowKit
open Go.Lib (decDigits itoa nDigits)
open D4 (rt it)

theorem fits_mul {k l : Nat} {x y : Rat} (hx : fitsD k x) (hy : fitsD l y) : fitsD (k + l) (x * y) := by
  rw [← rat_mul x y]
  refine ⟨Nat.le_trans (D4.nDigits_mono (D4.divInt_num_le _ _)) (D4.nDigits_imul hx.1 hy.1), Nat.le_trans (D4.nDigits_mono (D4.divInt_den_le _ (Int.mul_ne_zero (den_ne x) (den_ne y)))) (D4.nDigits_imul (D4.den_fit x hx) (D4.den_fit y hy))⟩
theorem fits_add {k : Nat} {x y : Rat} (hx : fitsD k x) (hy : fitsD k y) : fitsD (k + k + 1) (x + y) := by
  rw [← rat_add x y]
  refine ⟨Nat.le_trans (D4.nDigits_mono (D4.divInt_num_le _ _)) (D4.nDigits_iadd (D4.nDigits_imul hx.1 (D4.den_fit y hy)) (D4.nDigits_imul hy.1 (D4.den_fit x hx))), Nat.le_trans (D4.nDigits_mono (D4.divInt_den_le _ (Int.mul_ne_zero (den_ne x) (den_ne y)))) (Nat.le_trans (D4.nDigits_imul (D4.den_fit x hx) (D4.den_fit y hy)) (by omega))⟩
theorem fits_up {j k : Nat} {x : Rat} (h : fitsD j x) (hk : j ≤ k) : fitsD k x := ⟨Nat.le_trans h.1 hk, Nat.le_trans h.2 hk⟩
theorem rt_zero_iff (x : Rat) : ((rt x).toList == [48]) = decide (x = 0) := by
  have hl : (rt x).toList = ratText x := ba_list (ratText x)
  have h1 : ratText 0 = [48] := by decide +kernel
  by_cases h : x = 0
  · subst h
    rw [hl, h1]; simp
  · rw [decide_eq_false h, beq_eq_false_iff_ne, hl]
    intro hc
    exact h (ratText_inj (by rw [hc, h1]))

set_option maxHeartbeats 16000000 in
set_option maxRecDepth 100000 in
theorem field_walk {w : World} (n1x n2x : Bool) (a1x a2x : Option Addr) (k1x c1x k2x c2x : Nat) (t1x t2x : Int) (n1y n2y : Bool) (a1y a2y : Option Addr) (k1y c1y k2y c2y : Nat) (t1y t2y : Int) (n1z n2z : Bool) (a1z a2z : Option Addr) (k1z c1z k2z c2z : Nat) (t1z t2z : Int) (a b c : Rat) (ha : fitsD 240 a) (hb : fitsD 240 b) (hc : fitsD 240 c)
    (hx : ∀ V : World, Below w.heap.size w V → Calls Tryz.prog 36 #[.agg #[.bool n1x, .slice a1x k1x c1x, .int .u8 t1x, .bool n2x, .slice a2x k2x c2x, .int .u8 t2x]] V (RetV V (.string (rt a))))
    (hy : ∀ V : World, Below w.heap.size w V → Calls Tryz.prog 36 #[.agg #[.bool n1y, .slice a1y k1y c1y, .int .u8 t1y, .bool n2y, .slice a2y k2y c2y, .int .u8 t2y]] V (RetV V (.string (rt b))))
    (hz : ∀ V : World, Below w.heap.size w V → Calls Tryz.prog 36 #[.agg #[.bool n1z, .slice a1z k1z c1z, .int .u8 t1z, .bool n2z, .slice a2z k2z c2z, .int .u8 t2z]] V (RetV V (.string (rt c)))) (hg : Good w) :
    Calls Tryz.prog 7 #[.agg #[.bool n1x, .slice a1x k1x c1x, .int .u8 t1x, .bool n2x, .slice a2x k2x c2x, .int .u8 t2x], .agg #[.bool n1y, .slice a1y k1y c1y, .int .u8 t1y, .bool n2y, .slice a2y k2y c2y, .int .u8 t2y], .agg #[.bool n1z, .slice a1z k1z c1z, .int .u8 t1z, .bool n2z, .slice a2z k2z c2z, .int .u8 t2z]] w (RetV w (.bool true)) := by
  obtain ⟨W, hW, hB, hsz, jx, jy, jz⟩ := entC w 44 44 44 #[.bool n1x, .slice a1x k1x c1x, .int .u8 t1x, .bool n2x, .slice a2x k2x c2x, .int .u8 t2x] #[.bool n1y, .slice a1y k1y c1y, .int .u8 t1y, .bool n2y, .slice a2y k2y c2y, .int .u8 t2y] #[.bool n1z, .slice a1z k1z c1z, .int .u8 t1z, .bool n2z, .slice a2z k2z c2z, .int .u8 t2z]
  have HW := Lib.hid hW
  have HB := Lib.hid hB
  have JX := Lib.hid jx
  have JY := Lib.hid jy
  have JZ := Lib.hid (show Blk W (w.heap.size + 1 + 1) 44 #[.bool n1z, .slice a1z k1z c1z, .int .u8 t1z, .bool n2z, .slice a2z k2z c2z, .int .u8 t2z] from jz)
  have HG := Lib.hid (fun (V : World) (hV : Below W.heap.size W V) => (hg.below hB).below hV)
  have HX := Lib.hid (fun (V : World) (hV : Below W.heap.size W V) => hx V (hB.trans (hV.mono hB.size)))
  have HY := Lib.hid (fun (V : World) (hV : Below W.heap.size W V) => hy V (hB.trans (hV.mono hB.size)))
  have HZ := Lib.hid (fun (V : World) (hV : Below W.heap.size W V) => hz V (hB.trans (hV.mono hB.size)))
  have fa := fits_up (k := 2000) ha (by omega)
  have fb := fits_up (k := 2000) hb (by omega)
  have fc := fits_up (k := 2000) hc (by omega)
  have fs0 := fits_add hb hc
  have fs := fits_up (k := 2000) fs0 (by omega)
  have fp := fits_up (k := 2000) (fits_mul ha hb) (by omega)
  have fq := fits_up (k := 2000) (fits_mul ha hc) (by omega)
  have fr := fits_up (k := 2000) (fits_mul ha fs0) (by omega)
  have H1 := Lib.hid (fun (V : World) (hV : Good V) => works_any hV)
  have HS := Lib.hid (fun (V : World) (hV : Good V) => radd_rt (w := V) fb fc fs hV)
  have HP := Lib.hid (fun (V : World) (hV : Good V) => rmul_rt (w := V) fa fb fp hV)
  have HQ := Lib.hid (fun (V : World) (hV : Good V) => rmul_rt (w := V) fa fc fq hV)
  have HR := Lib.hid (fun (V : World) (hV : Good V) => rmul_rt (w := V) fa fs fr hV)
  have HDV := Lib.hid (fun (h0 : b ≠ 0) (V : World) (hV : Good V) => by
    have h := rdiv_rt (w := V) (x := a * b) (y := b) fp fb h0 (by rw [Rat.mul_div_cancel h0]; exact fa) hV
    rw [Rat.mul_div_cancel h0] at h
    exact h)
  have HS2 := Lib.hid (fun (V : World) (hV : Good V) => by
    have h := radd_rt (w := V) fc fb (by rw [Rat.add_comm]; exact fs) hV
    rw [Rat.add_comm] at h
    exact h)
  have HP2 := Lib.hid (fun (V : World) (hV : Good V) => by
    have h := rmul_rt (w := V) fb fa (by rw [Rat.mul_comm]; exact fp) hV
    rw [Rat.mul_comm b a] at h
    exact h)
  have eb : b + c - c = b := by grind
  have HSB := Lib.hid (fun (V : World) (hV : Good V) => by
    have h := rsub_rt (w := V) (x := b + c) (y := c) fs fc (by rw [eb]; exact fb) hV
    rw [eb] at h
    exact h)
  have er : a * b + a * c = a * (b + c) := by grind
  have HR2 := Lib.hid (fun (V : World) (hV : Good V) => by
    have h := radd_rt (w := V) (x := a * b) (y := a * c) fp fq (by rw [er]; exact fr) hV
    rw [er] at h
    exact h)
  have hz0 := rt_zero_iff b
  obtain ⟨bz, hbz⟩ : ∃ bz : Bool, bz = decide (b = 0) := ⟨_, rfl⟩
  rw [← hbz] at hz0
  have HDV2 := Lib.hid (fun (h : bz = false) => HDV.out (by rw [hbz] at h; exact of_decide_eq_false h))
  generalize rt (a * (b + c)) = RR at *
  generalize rt (a * c) = RQ at *
  generalize rt (a * b) = RP at *
  generalize rt (b + c) = RS at *
  generalize rt a = RA at *
  generalize rt b = RB at *
  generalize rt c = RC at *
  clear hW hB jx jy jz hx hy hz hg ha hb hc fa fb fc fs0 fs fp fq fr eb er hbz HDV hsz
  obtain ⟨x0, x1, x2, x3, x4, x5⟩ := JX.out.at6
  go_enter Tryz.func7, Tryz.ntmps7
  go_upto_region 1 with fail
  rw [← HW.out]
  clear x0 x1 x2 x3 x4 x5
  go_upto_region 3 with (go_at_call 12; refine (H1.out _ (HG.out _ (Below.refl _ _))).mono ?_; rintro e V ⟨rfl, kk⟩)
  have K1 := Lib.hid kk
  have JX1 := Lib.hid (JX.out.next kk)
  have JY1 := Lib.hid (JY.out.next kk)
  have JZ1 := Lib.hid (JZ.out.next kk)
  clear kk
  have hB0 : Below V.heap.size V V.drew := (Below.refl _ _).drew
  refine wp_region_list 8 (by kernel_rfl) (by kernel_rfl) [] [fun v _ => v = .agg #[.bool n1x, .slice a1x k1x c1x, .int .u8 t1x, .bool n2x, .slice a2x k2x c2x, .int .u8 t2x], fun v _ => v = .string RA, fun v _ => v = .agg #[.bool n1y, .slice a1y k1y c1y, .int .u8 t1y, .bool n2y, .slice a2y k2y c2y, .int .u8 t2y], fun v _ => v = .string RB, fun v _ => v = .agg #[.bool n1z, .slice a1z k1z c1z, .int .u8 t1z, .bool n2z, .slice a2z k2z c2z, .int .u8 t2z], fun v _ => v = .string RC, fun v _ => v = .string RA, fun v _ => v = .string RB] (by simp only [List.take_succ_cons, List.take_zero]; rfl) (by simp only [List.drop_succ_cons, List.drop_zero]; rfl) (fun vals => by simp only [fam, Act.put, List.setIfInBounds_toArray, List.set_cons_zero, List.set_cons_succ, if_true]; rfl) (by repeat' (first | exact Stab.eq _ _ | exact Stab.wh _ _ | exact Stab.nm _ _ | exact Stab.new _ _ | exact Stab.newn _ _ | exact Stab.tw _ _ _ | exact Stab.lm _ _ _ | exact Stab.onet _ _ _ | exact trivial | apply And.intro)) trivial ?_ ?_
  · refine ⟨?_, ?_, ?_, ?_, ?_, ?_, ?_, ?_, trivial⟩
    all_goals
      intro vals w1 hB1 hp
      dsimp only
      (try simp [preOk, Region.binds, D4.anygc, D4.anytext] at hp)
      have hb := next_below hB0 hB1
      have kb := next_below K1.out hb
      clear hB1
    case refine_1 =>
      obtain ⟨y0, y1, y2, y3, y4, y5⟩ := (JX1.out.next hb).at6
      go_wp2
      (first | exact ⟨rfl, _, rfl, rfl, Below.refl _ _, trivial⟩ | (refine ⟨rfl, _, ?_, rfl, Below.refl _ _, trivial⟩; simp only [Act.put, List.setIfInBounds_toArray, List.set_cons_zero, List.set_cons_succ, hp]))
    case refine_2 =>
      have a0 := hp
      generalize vals 0 = z0 at *
      subst a0
      go_wp2_with (go_at_call 36; refine (HX.out _ kb).mono ?_; rintro e w5 ⟨rfl, hb5⟩)
      exact ⟨rfl, _, rfl, rfl, hb5, trivial⟩
    case refine_3 =>
      obtain ⟨y0, y1, y2, y3, y4, y5⟩ := (JY1.out.next hb).at6
      go_wp2
      (first | exact ⟨rfl, _, rfl, rfl, Below.refl _ _, trivial⟩ | (refine ⟨rfl, _, ?_, rfl, Below.refl _ _, trivial⟩; simp only [Act.put, List.setIfInBounds_toArray, List.set_cons_zero, List.set_cons_succ, hp]))
    case refine_4 =>
      have a0 : vals 2 = .agg #[.bool n1y, .slice a1y k1y c1y, .int .u8 t1y, .bool n2y, .slice a2y k2y c2y, .int .u8 t2y] := by first | exact hp.1 | exact hp
      clear hp
      generalize vals 2 = z2 at *
      subst a0
      go_wp2_with (go_at_call 36; refine (HY.out _ kb).mono ?_; rintro e w5 ⟨rfl, hb5⟩)
      exact ⟨rfl, _, rfl, rfl, hb5, trivial⟩
    case refine_5 =>
      obtain ⟨y0, y1, y2, y3, y4, y5⟩ := (JZ1.out.next hb).at6
      go_wp2
      (first | exact ⟨rfl, _, rfl, rfl, Below.refl _ _, trivial⟩ | (refine ⟨rfl, _, ?_, rfl, Below.refl _ _, trivial⟩; simp only [Act.put, List.setIfInBounds_toArray, List.set_cons_zero, List.set_cons_succ, hp]))
    case refine_6 =>
      have a0 : vals 4 = .agg #[.bool n1z, .slice a1z k1z c1z, .int .u8 t1z, .bool n2z, .slice a2z k2z c2z, .int .u8 t2z] := by first | exact hp.1 | exact hp
      clear hp
      generalize vals 4 = z4 at *
      subst a0
      go_wp2_with (go_at_call 36; refine (HZ.out _ kb).mono ?_; rintro e w5 ⟨rfl, hb5⟩)
      exact ⟨rfl, _, rfl, rfl, hb5, trivial⟩
    case refine_7 =>
      have a0 : vals 1 = .string RA := by first | exact hp.1 | exact hp
      clear hp
      generalize vals 1 = z1 at *
      subst a0
      go_wp2
      (first | exact ⟨rfl, _, rfl, rfl, Below.refl _ _, trivial⟩ | (refine ⟨rfl, _, ?_, rfl, Below.refl _ _, trivial⟩; simp only [Act.put, List.setIfInBounds_toArray, List.set_cons_zero, List.set_cons_succ, hp]))
    case refine_8 =>
      have a0 : vals 3 = .string RB := by first | exact hp.1 | exact hp
      clear hp
      generalize vals 3 = z3 at *
      subst a0
      go_wp2
      (first | exact ⟨rfl, _, rfl, rfl, Below.refl _ _, trivial⟩ | (refine ⟨rfl, _, ?_, rfl, Below.refl _ _, trivial⟩; simp only [Act.put, List.setIfInBounds_toArray, List.set_cons_zero, List.set_cons_succ, hp]))
  · rintro vals w1 hB1 ⟨z0, z1, z2, z3, z4, z5, z6, z7, _⟩ hne
    have hG := Lib.hid (next_below K1.out (next_below hB0 hB1))
    simp at z5 z6 z7
    generalize vals 5 = v5 at *
    subst z5
    generalize vals 6 = v6 at *
    subst z6
    generalize vals 7 = v7 at *
    subst z7
    clear hne z0 z1 z2 z3 z4 hB1 hB0 K1 JX JY JZ JX1 JY1 JZ1 HX HY HZ H1
    cases bz
    · have HDV3 := Lib.hid (HDV2.out rfl)
      clear HDV2
      go_wp2_with fail
      refine (HS.out _ (HG.out _ hG.out)).mono ?_; rintro e wn ⟨rfl, hb⟩; replace hG := Lib.hid (next_below hG.out hb); clear hb
      go_wp2_with fail
      refine (HP.out _ (HG.out _ hG.out)).mono ?_; rintro e wn ⟨rfl, hb⟩; replace hG := Lib.hid (next_below hG.out hb); clear hb
      go_wp2_with fail
      refine (HQ.out _ (HG.out _ hG.out)).mono ?_; rintro e wn ⟨rfl, hb⟩; replace hG := Lib.hid (next_below hG.out hb); clear hb
      go_wp2_with fail
      refine (HR.out _ (HG.out _ hG.out)).mono ?_; rintro e wn ⟨rfl, hb⟩; replace hG := Lib.hid (next_below hG.out hb); clear hb
      go_wp2_with fail
      refine (is_any _).mono ?_; rintro e wn ⟨gz, rfl, hz, hb⟩; replace hG := Lib.hid (next_below hG.out hb); clear hb; replace hz := Lib.hid hz
      go_wp2_with fail
      refine (HDV3.out _ (HG.out _ hG.out)).mono ?_; rintro e wn ⟨rfl, hb⟩; replace hG := Lib.hid (next_below hG.out hb); replace hz := Lib.hid (hz.out.next hb); clear hb
      go_wp2_with fail
      refine (is_true hz.out).mono ?_; rintro e wn ⟨rfl, hb⟩; replace hG := Lib.hid (next_below hG.out hb); clear hb hz
      go_wp2_with fail
      refine (is_any _).mono ?_; rintro e wn ⟨gz, rfl, hz, hb⟩; replace hG := Lib.hid (next_below hG.out hb); clear hb; replace hz := Lib.hid hz
      go_wp2_with fail
      refine (HS2.out _ (HG.out _ hG.out)).mono ?_; rintro e wn ⟨rfl, hb⟩; replace hG := Lib.hid (next_below hG.out hb); replace hz := Lib.hid (hz.out.next hb); clear hb
      go_wp2_with fail
      refine (is_true hz.out).mono ?_; rintro e wn ⟨rfl, hb⟩; replace hG := Lib.hid (next_below hG.out hb); clear hb hz
      go_wp2_with fail
      refine (is_any _).mono ?_; rintro e wn ⟨gz, rfl, hz, hb⟩; replace hG := Lib.hid (next_below hG.out hb); clear hb; replace hz := Lib.hid hz
      go_wp2_with fail
      refine (HP2.out _ (HG.out _ hG.out)).mono ?_; rintro e wn ⟨rfl, hb⟩; replace hG := Lib.hid (next_below hG.out hb); replace hz := Lib.hid (hz.out.next hb); clear hb
      go_wp2_with fail
      refine (is_true hz.out).mono ?_; rintro e wn ⟨rfl, hb⟩; replace hG := Lib.hid (next_below hG.out hb); clear hb hz
      go_wp2_with fail
      refine (is_any _).mono ?_; rintro e wn ⟨gz, rfl, hz, hb⟩; replace hG := Lib.hid (next_below hG.out hb); clear hb; replace hz := Lib.hid hz
      go_wp2_with fail
      refine (HSB.out _ (HG.out _ hG.out)).mono ?_; rintro e wn ⟨rfl, hb⟩; replace hG := Lib.hid (next_below hG.out hb); replace hz := Lib.hid (hz.out.next hb); clear hb
      go_wp2_with fail
      refine (is_true hz.out).mono ?_; rintro e wn ⟨rfl, hb⟩; replace hG := Lib.hid (next_below hG.out hb); clear hb hz
      go_wp2_with fail
      refine (is_any _).mono ?_; rintro e wn ⟨gz, rfl, hz, hb⟩; replace hG := Lib.hid (next_below hG.out hb); clear hb; replace hz := Lib.hid hz
      go_wp2_with fail
      refine (HR2.out _ (HG.out _ hG.out)).mono ?_; rintro e wn ⟨rfl, hb⟩; replace hG := Lib.hid (next_below hG.out hb); replace hz := Lib.hid (hz.out.next hb); clear hb
      go_wp2_with fail
      refine (is_true hz.out).mono ?_; rintro e wn ⟨rfl, hb⟩; replace hG := Lib.hid (next_below hG.out hb); clear hb hz
      go_wp2
      go_ret
      exact ⟨rfl, HB.out.trans (hG.out.mono HB.out.size)⟩
    · clear HDV2
      go_wp2_with fail
      refine (HS.out _ (HG.out _ hG.out)).mono ?_; rintro e wn ⟨rfl, hb⟩; replace hG := Lib.hid (next_below hG.out hb); clear hb
      go_wp2_with fail
      refine (HP.out _ (HG.out _ hG.out)).mono ?_; rintro e wn ⟨rfl, hb⟩; replace hG := Lib.hid (next_below hG.out hb); clear hb
      go_wp2_with fail
      refine (HQ.out _ (HG.out _ hG.out)).mono ?_; rintro e wn ⟨rfl, hb⟩; replace hG := Lib.hid (next_below hG.out hb); clear hb
      go_wp2_with fail
      refine (HR.out _ (HG.out _ hG.out)).mono ?_; rintro e wn ⟨rfl, hb⟩; replace hG := Lib.hid (next_below hG.out hb); clear hb
      go_wp2_with fail
      refine (is_any _).mono ?_; rintro e wn ⟨gz, rfl, hz, hb⟩; replace hG := Lib.hid (next_below hG.out hb); clear hb; replace hz := Lib.hid hz
      go_wp2_with fail
      refine (HS2.out _ (HG.out _ hG.out)).mono ?_; rintro e wn ⟨rfl, hb⟩; replace hG := Lib.hid (next_below hG.out hb); replace hz := Lib.hid (hz.out.next hb); clear hb
      go_wp2_with fail
      refine (is_true hz.out).mono ?_; rintro e wn ⟨rfl, hb⟩; replace hG := Lib.hid (next_below hG.out hb); clear hb hz
      go_wp2_with fail
      refine (is_any _).mono ?_; rintro e wn ⟨gz, rfl, hz, hb⟩; replace hG := Lib.hid (next_below hG.out hb); clear hb; replace hz := Lib.hid hz
      go_wp2_with fail
      refine (HP2.out _ (HG.out _ hG.out)).mono ?_; rintro e wn ⟨rfl, hb⟩; replace hG := Lib.hid (next_below hG.out hb); replace hz := Lib.hid (hz.out.next hb); clear hb
      go_wp2_with fail
      refine (is_true hz.out).mono ?_; rintro e wn ⟨rfl, hb⟩; replace hG := Lib.hid (next_below hG.out hb); clear hb hz
      go_wp2_with fail
      refine (is_any _).mono ?_; rintro e wn ⟨gz, rfl, hz, hb⟩; replace hG := Lib.hid (next_below hG.out hb); clear hb; replace hz := Lib.hid hz
      go_wp2_with fail
      refine (HSB.out _ (HG.out _ hG.out)).mono ?_; rintro e wn ⟨rfl, hb⟩; replace hG := Lib.hid (next_below hG.out hb); replace hz := Lib.hid (hz.out.next hb); clear hb
      go_wp2_with fail
      refine (is_true hz.out).mono ?_; rintro e wn ⟨rfl, hb⟩; replace hG := Lib.hid (next_below hG.out hb); clear hb hz
      go_wp2_with fail
      refine (is_any _).mono ?_; rintro e wn ⟨gz, rfl, hz, hb⟩; replace hG := Lib.hid (next_below hG.out hb); clear hb; replace hz := Lib.hid hz
      go_wp2_with fail
      refine (HR2.out _ (HG.out _ hG.out)).mono ?_; rintro e wn ⟨rfl, hb⟩; replace hG := Lib.hid (next_below hG.out hb); replace hz := Lib.hid (hz.out.next hb); clear hb
      go_wp2_with fail
      refine (is_true hz.out).mono ?_; rintro e wn ⟨rfl, hb⟩; replace hG := Lib.hid (next_below hG.out hb); clear hb hz
      go_wp2
      go_ret
      exact ⟨rfl, HB.out.trans (hG.out.mono HB.out.size)⟩
end Go.Proofs.YtabdnjakmhnnfaaGreatDoor
