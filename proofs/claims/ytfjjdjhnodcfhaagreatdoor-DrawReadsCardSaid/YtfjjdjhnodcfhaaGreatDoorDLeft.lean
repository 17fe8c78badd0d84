/- The part of the bit strings that decide an outcome: draw.share. -/
import Derived.Test.YtfjjdjhnodcfhaaGreatDoorDCheck
import Derived.Test.YtfjjdjhnodcfhaaGreatDoorDFirst
import Derived.Test.YtfjjdjhnodcfhaaGreatDoorDCntM
import Derived.Test.YtfjjdjhnodcfhaaGreatDoorSeqR
set_option linter.unusedSimpArgs false
set_option linter.unusedVariables false
namespace Go.Proofs.YtfjjdjhnodcfhaaGreatDoor
open Go.RowKit
open Go.Lib (decDigits itoa nDigits)
open D4 (rt it Mid)
set_option maxHeartbeats 2000000 in
set_option maxRecDepth 100000 in
theorem share_any {w : World} {v : Value} {f t : Rat} (h : Pl w v f t) (s1 : fitsD 80 f) (s2 : fitsD 80 t) (n : Nat) (hn : n ≤ 210) : Calls Tryz.prog 39 #[v, .int .i64 n] w (RetN w (shareR f t n)) := by
  obtain ⟨b, a, k, p, c, e, l, q, b', a', k', p', c', e', l', q', rfl, h1, h2⟩ := h
  obtain ⟨W, hW, hB, hsz, jx, jz⟩ := entB w 92 84 #[.bool b, .slice a k p, .bool c, .slice e l q, .bool b', .slice a' k' p', .bool c', .slice e' l' q'] #[.bool false, .slice none 0 0, .bool false, .slice none 0 0]
  have HW := Lib.hid hW
  have HB := Lib.hid hB
  have HSZ := Lib.hid hsz
  have M1 := Lib.hid (h1.below hB)
  have M2 := Lib.hid (h2.below hB)
  have HPOW := Lib.hid (power_any (w := W) n hn)
  have HMUL := Lib.hid (fun V v1 v2 x (hx : fitsD 80 x) (h1 : Nm V v1 x) (h2 : Nm V v2 ((2 ^ n : Nat) : Rat)) => num_mul (w := V) h1 h2 (fit_sz hx (by omega)) (fit_sz (two_fit (k := n) hn) (by omega)))
  have FM1 := Lib.hid (fits_mul s1 (two_fit (k := n) hn))
  have FM2 := Lib.hid (fits_mul s2 (two_fit (k := n) hn))
  have F1 := Lib.hid s1
  have FN := Lib.hid (show fitsD 150 (-(f * ((2 ^ n : Nat) : Rat))) by have h := FM1.out; unfold fitsD at h ⊢; rw [Rat.neg_num, Rat.neg_den, Int.natAbs_neg]; exact h)
  have FF1 := Lib.hid (show Fit (-((-(f * ((2 ^ n : Nat) : Rat))).floor)) from Fit.of_len (k := 150) (limbs_digits (by rw [Int.natAbs_neg]; exact floor_digits FN.out)) (by omega))
  have FF2 := Lib.hid (show Fit ((t * ((2 ^ n : Nat) : Rat)).floor) from Fit.of_len (k := 150) (limbs_digits (floor_digits FM2.out)) (by omega))
  have FC := Lib.hid (show Fit ((t * ((2 ^ n : Nat) : Rat)).floor - -((-(f * ((2 ^ n : Nat) : Rat))).floor)) from Fit.of_len (k := 151) (by
    rw [Int.sub_eq_add_neg]
    exact len_add (limbs_digits (floor_digits FM2.out)) (by rw [Int.natAbs_neg, Int.natAbs_neg]; exact limbs_digits (floor_digits FN.out))) (by omega))
  have FCL0 := Lib.hid (show (limbs ((t * ((2 ^ n : Nat) : Rat)).floor - -((-(f * ((2 ^ n : Nat) : Rat))).floor)).natAbs).length ≤ 268435456 from Nat.le_trans (show _ ≤ 151 by
    rw [Int.sub_eq_add_neg]
    exact len_add (limbs_digits (floor_digits FM2.out)) (by rw [Int.natAbs_neg, Int.natAbs_neg]; exact limbs_digits (floor_digits FN.out))) (by omega))
  have F2 := Lib.hid s2
  have F2N := Lib.hid (two_fit (k := n) hn)
  have HNZ := Lib.hid (show (((2 ^ n : Nat) : Rat)).num ≠ 0 by rw [show (((2 ^ n : Nat) : Rat)).num = ((2 ^ n : Nat) : Int) by simp]; have := Nat.pow_pos (n := n) (show 0 < 2 by omega); omega)
  have JX := Lib.hid jx
  have JZ := Lib.hid jz
  clear hW hB hsz jx jz h1 h2
  go_enter Tryz.func39, Tryz.ntmps39
  go_upto_region 1 with fail
  rw [← HW.out]
  go_upto_region 2 with (go_at_call 78; refine HPOW.out.mono ?_; rintro ee w1 ⟨v1, rfl, n1, b1⟩; obtain ⟨b7, a7, k7, p7, c7, f7, l7, q7, rfl, -, -⟩ := id n1.parts)
  have jq := Blk.new w1 84 #[.bool b7, .slice a7 k7 p7, .bool c7, .slice f7 l7 q7]
  have bq := Lib.hid (b1.alloc b1.size (.cells #[.bool b7, .slice a7 k7 p7, .bool c7, .slice f7 l7 q7] 84))
  have nq := Lib.hid (n1.below ((Below.refl _ _).alloc (Nat.le_refl _) (.cells #[.bool b7, .slice a7 k7 p7, .bool c7, .slice f7 l7 q7] 84)))
  have HGS := Lib.hid b1.size
  clear n1 b1
  generalize w1.heap.size = gs at *
  generalize w1.alloc (.cells #[.bool b7, .slice a7 k7 p7, .bool c7, .slice f7 l7 q7] 84) = w5 at *
  obtain ⟨x0, x1, x2, x3, x4, x5, x6, x7⟩ := (JX.out.next bq.out).at8
  obtain ⟨o0, o1, o2, o3⟩ := jq.at4
  have N0 := Lib.hid (M1.out.below bq.out)
  go_wp2_with fail
  refine (HMUL.out w5 _ _ f F1.out N0.out nq.out).mono ?_
  rintro ee w2 ⟨v2, rfl, n2, b2⟩
  have N2 := Lib.hid n2
  have B2 := Lib.hid (next_below bq.out b2)
  obtain ⟨b8, a8, k8, p8, c8, f8, l8, q8, rfl, -, -⟩ := id n2.parts
  clear n2
  go_wp2_with fail
  refine (num_neg N2.out).mono ?_
  rintro ee w3 ⟨v3, rfl, n3, b3⟩
  have N3 := Lib.hid n3
  have B3 := Lib.hid (next_below B2.out b3)
  obtain ⟨b9, a9, k9, p9, c9, f9, l9, q9, rfl, -, -⟩ := id n3.parts
  clear n3 N2
  go_wp2_with fail
  refine (num_floor N3.out (fit_sz FN.out (by omega))).mono ?_
  rintro ee w4 ⟨v4, rfl, n4, b4⟩
  have N4 := Lib.hid n4
  have B4 := Lib.hid (next_below B3.out b4)
  obtain ⟨ba, aa, ka, pa, rfl⟩ := n4.parts
  clear n4 N3
  go_wp2_with fail
  refine (neg_any N4.out).mono ?_
  rintro ee w6 ⟨v6, rfl, n6, b6⟩
  obtain ⟨bb, ab, kb, pb, rfl⟩ := n6.parts
  have B6 := Lib.hid (next_below B4.out b6)
  have jl := Blk.new w6 82 #[.bool bb, .slice ab kb pb]
  have nl := Lib.hid (n6.more (.cells #[.bool bb, .slice ab kb pb] 82))
  have bl := Lib.hid (B6.out.alloc B6.out.size (.cells #[.bool bb, .slice ab kb pb] 82))
  have c6 := next_below (next_below (next_below b2 b3) b4) b6
  have cl := Lib.hid (c6.alloc c6.size (.cells #[.bool bb, .slice ab kb pb] 82))
  have HGL := Lib.hid B6.out.size
  clear n6 b2 b3 b4 b6 c6 B2 B3 B4 B6 N4 N0 x0 x1 x2 x3 x4 x5 x6 x7 o0 o1 o2 o3 HPOW
  go_upto_region 3 with fail
  generalize w6.heap.size = gl at *
  generalize w6.alloc (.cells #[.bool bb, .slice ab kb pb] 82) = w7 at *
  obtain ⟨x0, x1, x2, x3, x4, x5, x6, x7⟩ := (JX.out.next bl.out).at8
  have jq' := jq.next cl.out
  have NQ := Lib.hid (nq.out.below cl.out)
  have M2' := Lib.hid (M2.out.below bl.out)
  have JX' := Lib.hid (JX.out.next bl.out)
  have JQ := Lib.hid jq'
  have JL := Lib.hid jl
  have HSW : Hid (w.heap.size + 2 ≤ w7.heap.size) := Lib.hid (by have := bl.out.size; have := HSZ.out; omega)
  clear jq jq' jl nq cl x0 x1 x2 x3 x4 x5 x6 x7
  obtain ⟨lo, hlo⟩ : ∃ lo, lo = -((-(f * ((2 ^ n : Nat) : Rat))).floor) := ⟨_, rfl⟩
  obtain ⟨hi, hhi⟩ : ∃ hi, hi = (t * ((2 ^ n : Nat) : Rat)).floor := ⟨_, rfl⟩
  have HS : Hid (shareR f t n = if hi - lo < 0 then 0 else ((hi - lo : Int) : Rat) / ((2 ^ n : Nat) : Rat)) := Lib.hid (by rw [hlo, hhi]; rfl)
  rw [← hlo] at FF1 FC FCL0 nl
  rw [← hhi] at FF2 FC FCL0
  have HHI := Lib.hid hhi
  clear hlo hhi
  generalize hNN : ((2 ^ n : Nat) : Rat) = NN at *
  clear hNN
  have hB0 : Below w7.heap.size w7 w7.drew := (Below.refl _ _).drew
  refine wp_region_list 9 (by kernel_rfl) (by kernel_rfl) [] [fun v _ => v = .pointer (some ⟨w.heap.size, 0, none⟩), fun v _ => v = .pointer (some ⟨w.heap.size, 4, none⟩), fun v _ => v = .agg #[.bool b', .slice a' k' p', .bool c', .slice e' l' q'], fun v _ => v = .agg #[.bool b7, .slice a7 k7 p7, .bool c7, .slice f7 l7 q7], fun v w' => Nm w' v (t * NN), fun v w' => Wh w' v (hi), fun v _ => v = .agg #[.bool bb, .slice ab kb pb], fun v w' => Wh w' v (hi - lo), NewWh w7] (by simp only [List.take_succ_cons, List.take_zero]; rfl) (by simp only [List.drop_succ_cons, List.drop_zero]; rfl) (fun vals => by simp only [fam, Act.put, List.setIfInBounds_toArray, List.set_cons_zero, List.set_cons_succ, if_true]; rfl) (by repeat' (first | exact Stab.eq _ _ | exact Stab.wh _ _ | exact Stab.nm _ _ | exact Stab.new _ _ | exact Stab.newn _ _ | exact Stab.tw _ _ _ | exact Stab.lm _ _ _ | exact Stab.onet _ _ _ | exact Stab.pl _ _ _ | exact trivial | apply And.intro)) trivial ?_ ?_
  · refine ⟨?_, ?_, ?_, ?_, ?_, ?_, ?_, ?_, ?_, trivial⟩
    all_goals
      intro vals w8 hB1 hp
      dsimp only
      (try simp [preOk, Region.binds, r_anygc, r_anytext] at hp)
      have hb := next_below hB0 hB1
      clear hB1
    case refine_1 =>
      go_wp2
      (first | exact ⟨rfl, _, rfl, rfl, Below.refl _ _, trivial⟩ | (refine ⟨rfl, _, ?_, rfl, Below.refl _ _, trivial⟩; simp only [Act.put, List.setIfInBounds_toArray, List.set_cons_zero, List.set_cons_succ, hp]))
    case refine_2 =>
      have z0 := hp
      generalize vals 0 = v0 at *
      subst z0
      go_wp2
      (first | exact ⟨rfl, _, rfl, rfl, Below.refl _ _, trivial⟩ | (refine ⟨rfl, _, ?_, rfl, Below.refl _ _, trivial⟩; simp only [Act.put, List.setIfInBounds_toArray, List.set_cons_zero, List.set_cons_succ, hp]))
    case refine_3 =>
      have z0 := hp
      generalize vals 1 = v1 at *
      subst z0
      obtain ⟨x0, x1, x2, x3, x4, x5, x6, x7⟩ := (JX'.out.next hb).at8
      go_wp2
      (first | exact ⟨rfl, _, rfl, rfl, Below.refl _ _, trivial⟩ | (refine ⟨rfl, _, ?_, rfl, Below.refl _ _, trivial⟩; simp only [Act.put, List.setIfInBounds_toArray, List.set_cons_zero, List.set_cons_succ, hp]))
    case refine_4 =>
      obtain ⟨o0, o1, o2, o3⟩ := (JQ.out.next hb).at4
      go_wp2
      (first | exact ⟨rfl, _, rfl, rfl, Below.refl _ _, trivial⟩ | (refine ⟨rfl, _, ?_, rfl, Below.refl _ _, trivial⟩; simp only [Act.put, List.setIfInBounds_toArray, List.set_cons_zero, List.set_cons_succ, hp]))
    case refine_5 =>
      obtain ⟨z0, z1⟩ := hp
      generalize vals 2 = v2 at *
      generalize vals 3 = v3 at *
      subst z0 z1
      go_wp2_with (go_at_call 79; refine (HMUL.out _ _ _ _ F2.out (M2'.out.below hb) (NQ.out.below hb)).mono ?_; rintro e w9 ⟨r9, rfl, hr9, hb9⟩)
      exact ⟨rfl, _, rfl, hr9, hb9, trivial⟩
    case refine_6 =>
      have z0 := hp
      generalize vals 4 = v4 at *
      go_wp2_with (go_at_call 81; refine (num_floor z0 (fit_sz FM2.out (by omega))).mono ?_; rintro e w9 ⟨r9, rfl, hr9, hb9⟩)
      rw [← HHI.out] at hr9
      exact ⟨rfl, _, rfl, hr9, hb9, trivial⟩
    case refine_7 =>
      have jl := JL.out.next hb
      have y0 := jl.cell0
      have y1 := jl.cell1
      go_wp2
      (first | exact ⟨rfl, _, rfl, rfl, Below.refl _ _, trivial⟩ | (refine ⟨rfl, _, ?_, rfl, Below.refl _ _, trivial⟩; simp only [Act.put, List.setIfInBounds_toArray, List.set_cons_zero, List.set_cons_succ, hp]))
    case refine_8 =>
      obtain ⟨z0, z1, -⟩ := hp
      generalize vals 5 = v5 at *
      generalize vals 6 = v6 at *
      subst z1
      go_wp2_with (go_at_call 83; refine (sub_any z0 (nl.out.below hb) FF2.out FF1.out).mono ?_; rintro e w9 ⟨r9, rfl, hr9, hb9⟩)
      exact ⟨rfl, _, rfl, hr9, hb9, trivial⟩
    case refine_9 =>
      go_wp2
      exact ⟨rfl, _, rfl, ⟨_, rfl, hb.size, Blk.new _ _ _⟩, (Below.refl _ _).alloc (Nat.le_refl _) _, trivial⟩
  · rintro vals w8 hB1 ⟨p0, p1, p2, p3, p4, p5, p6, p7, p8, _⟩ hne
    have hb := next_below hB0 hB1
    simp at p7 p8
    generalize vals 7 = v7 at *
    generalize vals 8 = v8 at *
    obtain ⟨bc, ac, kc, pc, rfl⟩ := p7.parts
    obtain ⟨g8, rfl, hg8, hB8⟩ := p8
    clear hne p0 p1 p2 p3 p4 p5 p6 hB1 hB0
    generalize vals 0 = t0 at *
    generalize vals 1 = t1 at *
    generalize vals 2 = t2 at *
    generalize vals 3 = t3 at *
    generalize vals 4 = t4 at *
    generalize vals 5 = t5 at *
    generalize vals 6 = t6 at *
    have e0 := hB8.cell0
    have e1 := hB8.cell1
    have e2 := hB8.frozen 0
    have e3 := hB8.frozen 1
    have pb := Lib.hid (hB8.two (.bool bc) (.slice ac kc pc))
    have pn := Lib.hid (p7.two hB8 (by decide) (.bool bc) (.slice ac kc pc))
    have pB := Lib.hid (below_two (g := g8) hb hg8 (.bool bc) (.slice ac kc pc))
    clear hB8 p7 hb
    go_upto_region 4 with fail
    generalize (w8.setCell ⟨g8, 0, none⟩ (.bool bc)).setCell ⟨g8, 1, none⟩ (.slice ac kc pc) = wc at *
    clear e0 e1 e2 e3
    have y0 := pb.out.cell0
    have y1 := pb.out.cell1
    have HPB := Lib.hid pb.out
    have HSG := Lib.hid (sign_any pn.out)
    have BW := Lib.hid (next_below bl.out pB.out)
    by_cases hc : hi - lo < 0
    · have hsg : (hi - lo).sign < 0 := by rw [Int.sign_neg_iff]; exact hc
      have HV := Lib.hid (show shareR f t n = 0 by rw [HS.out, if_pos hc])
      clear hc HS
      generalize (hi - lo).sign = sg at *
      go_wp2_with fail
      refine HSG.out.mono ?_
      rintro ee w9 ⟨rfl, b9⟩
      have B9 := Lib.hid (next_below BW.out b9)
      go_wp2_with fail
      refine zero_any.mono ?_
      rintro ee wz ⟨vz, rfl, nz, bz⟩
      obtain ⟨bq9, aq9, kq9, pq9, cq9, eq9, lq9, qq9, rfl, -, -⟩ := id nz.parts
      have BZ := next_below B9.out bz
      have jr := JZ.out.next BZ
      obtain ⟨r0, r1, r2, r3⟩ := jr.at4
      obtain ⟨u0, u1, u2, u3⟩ := jr.fr4
      obtain ⟨d0, d1, d2, d3⟩ := (jr.four (.bool bq9) (.slice aq9 kq9 pq9) (.bool cq9) (.slice eq9 lq9 qq9)).at4
      have nn := Lib.hid (nz.four jr (by decide) (.bool bq9) (.slice aq9 kq9 pq9) (.bool cq9) (.slice eq9 lq9 qq9))
      have rr := Lib.hid (below_four (HB.out.trans (BZ.mono HB.out.size)) (by omega : w.heap.size ≤ w.heap.size + 1) (.bool bq9) (.slice aq9 kq9 pq9) (.bool cq9) (.slice eq9 lq9 qq9))
      clear jr BZ
      go_wp2
      refine bodyPost_ret (v := .agg #[.bool bq9, .slice aq9 kq9 pq9, .bool cq9, .slice eq9 lq9 qq9]) (by simp [results, Tryz.results39, go_sem, d0, d1, d2, d3]) rfl ⟨_, rfl, (by rw [HV.out]; exact nn.out), rr.out⟩
    · have hsg : ¬ (hi - lo).sign < 0 := by rw [Int.sign_neg_iff]; exact hc
      have HV := Lib.hid (show shareR f t n = _ by rw [HS.out, if_neg hc])
      have HMK := Lib.hid (fun V v1 v2 (h1 : Wh V v1 (hi - lo)) (h2 : Wh V v2 1) => by
        have h := make_any (w := V) h1 h2 FC.out (Fit.of_len (k := 1) (limbs_len_le (by decide)) (by omega)) (by decide)
        rw [show Rat.divInt (hi - lo) 1 = ((hi - lo : Int) : Rat) by rw [divInt_div]; show _ / ((1 : Int) : Rat) = _; rw [show ((1 : Int) : Rat) = 1 from rfl, Rat.div_def, show (1 : Rat)⁻¹ = 1 by decide +kernel, Rat.mul_one]] at h
        exact h)
      have FC0 := FCL0
      have FCR := Lib.hid (show Sz 268435456 (((hi - lo : Int) : Rat)) from ⟨by rw [Rat.num_intCast]; exact FC0.out, by rw [Rat.den_intCast]; exact Nat.le_trans (limbs_len_le (k := 1) (by decide)) (by omega)⟩)
      have HDV := Lib.hid (fun V v1 v2 (h1 : Nm V v1 ((hi - lo : Int) : Rat)) (h2 : Nm V v2 NN) => num_div (w := V) h1 h2 FCR.out (fit_sz F2N.out (by omega)) HNZ.out)
      clear hc HS
      obtain ⟨cc, hcc⟩ : ∃ cc, cc = hi - lo := ⟨_, rfl⟩
      rw [← hcc] at HMK FCR HDV HSG HV pn hsg
      generalize cc.sign = sg at *
      go_wp2_with fail
      refine HSG.out.mono ?_
      rintro ee w9 ⟨rfl, b9⟩
      have B9 := Lib.hid (next_below BW.out b9)
      have HP9 := Lib.hid (HPB.out.next b9)
      have PN9 := Lib.hid (pn.out.below b9)
      have JQ9 := Lib.hid (JQ.out.next (next_below pB.out b9))
      have NQ9 := Lib.hid (NQ.out.below (next_below pB.out b9))
      clear b9
      go_upto_region 6 with fail
      have hB0 : Below w9.heap.size w9 w9.drew := (Below.refl _ _).drew
      refine wp_region_list 5 (by kernel_rfl) (by kernel_rfl) [] [fun v _ => v = .agg #[.bool bc, .slice ac kc pc], fun v w' => Wh w' v (1), fun v w' => Nm w' v ((cc : Int)), fun v _ => v = .agg #[.bool b7, .slice a7 k7 p7, .bool c7, .slice f7 l7 q7], fun v w' => Nm w' v ((cc : Rat) / NN)] (by simp only [List.take_succ_cons, List.take_zero]; rfl) (by simp only [List.drop_succ_cons, List.drop_zero]; rfl) (fun vals => by simp only [fam, Act.put, List.setIfInBounds_toArray, List.set_cons_zero, List.set_cons_succ, if_true]; rfl) (by repeat' (first | exact Stab.eq _ _ | exact Stab.wh _ _ | exact Stab.nm _ _ | exact Stab.new _ _ | exact Stab.newn _ _ | exact Stab.tw _ _ _ | exact Stab.lm _ _ _ | exact Stab.onet _ _ _ | exact Stab.pl _ _ _ | exact trivial | apply And.intro)) trivial ?_ ?_
      · refine ⟨?_, ?_, ?_, ?_, ?_, trivial⟩
        all_goals
          intro vals w8' hB1 hp
          dsimp only
          (try simp [preOk, Region.binds, r_anygc, r_anytext] at hp)
          have hb := next_below hB0 hB1
          clear hB1
        case refine_1 =>
          have jl := HP9.out.next hb
          have z0 := jl.cell0
          have z1 := jl.cell1
          go_wp2
          (first | exact ⟨rfl, _, rfl, rfl, Below.refl _ _, trivial⟩ | (refine ⟨rfl, _, ?_, rfl, Below.refl _ _, trivial⟩; simp only [Act.put, List.setIfInBounds_toArray, List.set_cons_zero, List.set_cons_succ, hp]))
        case refine_2 =>
          go_wp2_with (go_at_call 86; refine (small_any (by decide) (by decide)).mono ?_; rintro e wz ⟨r9, rfl, hr9, hb9⟩)
          exact ⟨rfl, _, rfl, hr9, hb9, trivial⟩
        case refine_3 =>
          obtain ⟨z0, z1⟩ := hp
          generalize vals 0 = v0 at *
          generalize vals 1 = v1 at *
          subst z0
          go_wp2_with (go_at_call 85; refine (HMK.out _ _ _ (PN9.out.below hb) z1).mono ?_; rintro e wz ⟨r9, rfl, hr9, hb9⟩)
          exact ⟨rfl, _, rfl, hr9, hb9, trivial⟩
        case refine_4 =>
          obtain ⟨o0, o1, o2, o3⟩ := (JQ9.out.next hb).at4
          go_wp2
          (first | exact ⟨rfl, _, rfl, rfl, Below.refl _ _, trivial⟩ | (refine ⟨rfl, _, ?_, rfl, Below.refl _ _, trivial⟩; simp only [Act.put, List.setIfInBounds_toArray, List.set_cons_zero, List.set_cons_succ, hp]))
        case refine_5 =>
          obtain ⟨z0, z1, -⟩ := hp
          generalize vals 2 = v2 at *
          generalize vals 3 = v3 at *
          subst z1
          go_wp2_with (go_at_call 87; refine (HDV.out _ _ _ z0 (NQ9.out.below hb)).mono ?_; rintro e wz ⟨r9, rfl, hr9, hb9⟩)
          exact ⟨rfl, _, rfl, hr9, hb9, trivial⟩
      · rintro vals wz hB1 ⟨p0, p1, p2, p3, p4, _⟩ hne
        have hb := next_below hB0 hB1
        simp at p4
        generalize vals 4 = v4 at *
        obtain ⟨bq9, aq9, kq9, pq9, cq9, eq9, lq9, qq9, rfl, -, -⟩ := id p4.parts
        clear hne p0 p1 p2 p3 hB1 hB0
        generalize vals 0 = t0 at *
        generalize vals 1 = t1 at *
        generalize vals 2 = t2 at *
        generalize vals 3 = t3 at *
        have BZ := next_below B9.out hb
        have jr := JZ.out.next BZ
        obtain ⟨r0, r1, r2, r3⟩ := jr.at4
        obtain ⟨u0, u1, u2, u3⟩ := jr.fr4
        have JR := Lib.hid jr
        have nn := Lib.hid (p4.four jr (by decide) (.bool bq9) (.slice aq9 kq9 pq9) (.bool cq9) (.slice eq9 lq9 qq9))
        have rr := Lib.hid (below_four (HB.out.trans (BZ.mono HB.out.size)) (by omega : w.heap.size ≤ w.heap.size + 1) (.bool bq9) (.slice aq9 kq9 pq9) (.bool cq9) (.slice eq9 lq9 qq9))
        clear jr BZ p4 hb
        go_wp2
        obtain ⟨d0, d1, d2, d3⟩ := (JR.out.four (.bool bq9) (.slice aq9 kq9 pq9) (.bool cq9) (.slice eq9 lq9 qq9)).at4
        refine bodyPost_ret (v := .agg #[.bool bq9, .slice aq9 kq9 pq9, .bool cq9, .slice eq9 lq9 qq9]) (by simp [results, Tryz.results39, go_sem, d0, d1, d2, d3]) rfl ⟨_, rfl, (by rw [HV.out]; exact nn.out), rr.out⟩
end Go.Proofs.YtfjjdjhnodcfhaaGreatDoor

/- The part of the bit strings that decide an outcome: draw.Law. -/
set_option linter.unusedSimpArgs false
set_option linter.unusedVariables false
namespace Go.Proofs.YtfjjdjhnodcfhaaGreatDoor
open Go.RowKit Go.Shelf
open Go.Lib (decDigits itoa nDigits)
open D4 (rt it Mid)
attribute [local go_sem] Oper.semAt_some

theorem share_on (f t : Rat) (n : Nat) : On (2 ^ n) (shareR f t n) := by
  rw [shareR_cnt]
  split
  · exact On.zero _
  · exact ⟨cntR f t n, Rat.div_mul_cancel (two_ne n)⟩
theorem law_fit {ws : List Rat} (h : Wok ws ws.length) (h1 : cum ws ws.length = 1) {i : Nat} (hi : i < ws.length) {n : Nat} (hn : n ≤ 210) : fitsD 70 (lawR ws n i) := by
  refine (share_on _ _ n).fit (shareR_nonneg _ _ _) ?_ (Nat.pow_pos (by omega)) (two_lt n hn)
  have h2 := shareR_le (cum_mono h hi) n
  have h3 := cum_one h h1 (i := i + 1) (by omega)
  have h4 := (cum_bounds h i (by omega)).1
  grind
theorem left_on (ws : List Rat) (n : Nat) : ∀ i, On (2 ^ n) (leftR ws n i)
  | 0 => ⟨((2 ^ n : Nat) : Int), by show (1 : Rat) * _ = _; rw [Rat.one_mul]; push_cast; rfl⟩
  | i + 1 => (left_on ws n i).sub (share_on _ _ n)
theorem left_le (ws : List Rat) (n : Nat) : ∀ i, leftR ws n i ≤ 1
  | 0 => by show (1 : Rat) ≤ 1; exact Rat.le_refl
  | i + 1 => by
    have h1 := left_le ws n i
    have h2 := shareR_nonneg (cum ws i) (cum ws (i + 1)) n
    show leftR ws n i - shareR (cum ws i) (cum ws (i + 1)) n ≤ 1
    grind
theorem left_fit {ws : List Rat} (h : Wok ws ws.length) (h1 : cum ws ws.length = 1) {i : Nat} (hi : i ≤ ws.length) {n : Nat} (hn : n ≤ 210) : fitsD 70 (leftR ws n i) := by
  refine (left_on ws n i).fit ?_ (left_le ws n i) (Nat.pow_pos (by omega)) (two_lt n hn)
  have h2 := leftR_ge h n i hi
  have h3 := cum_one h h1 hi
  grind
theorem okW_parts {ts : List (List UInt8)} (h : okW ts = true) : 1 ≤ ts.length ∧ ts.length ≤ 16 ∧ Wok (ts.map rval) (ts.map rval).length ∧ cum (ts.map rval) (ts.map rval).length = 1 := by
  unfold okW at h
  simp only [Bool.and_eq_true, decide_eq_true_eq] at h
  obtain ⟨⟨⟨h1, h2⟩, h3⟩, h4⟩ := h
  refine ⟨h1, h2, ?_, by rw [List.length_map]; exact h4⟩
  rw [List.length_map]
  refine wok_of (Nat.le_refl _) (by omega) (fun i hi => ?_)
  have := List.all_eq_true.1 h3 _ (List.getElem_mem hi)
  rw [List.getD_eq_getElem?_getD, List.getElem?_eq_getElem hi]; exact this
/-- The error of Law, and its text. -/
def lawE (ts : List (List UInt8)) (i n : Int) : Int := if okW ts then (if 0 ≤ i ∧ i < ts.length ∧ 0 ≤ n ∧ n ≤ 200 then 0 else 2) else 100
def lawS (ts : List (List UInt8)) (i n : Int) : ByteArray := if lawE ts i n = 0 then rt (lawR (ts.map rval) n.toNat i.toNat) else ⟨#[]⟩
theorem NBox.own {n0 g : Nat} {A B : World} {x : Rat} (h : Own n0 A B) (hx : NBox A g x) (hg : g < n0) : NBox B g x := by
  obtain ⟨b, a, k, p, c, e, l, q, h1, h2⟩ := hx
  exact ⟨b, a, k, p, c, e, l, q, h.blk h1 hg, h.nm h2⟩

/-- What Law's sum holds before a round. -/
def lawAt (ws : List Rat) (n i j : Nat) : Rat := if i < j then lawR ws n i else 0
/-- What read hands back where all is well. -/
def RetOk (w : World) (xs : List Rat) (e : Ending) (w' : World) : Prop := ∃ g c : Nat, e = .returned (.tuple #[.slice (some ⟨g, 0, none⟩) xs.length c, .int .i64 0]) ∧ xs.length ≤ c ∧ c ≤ maxLen ∧ NumB w' g xs ∧ Below w.heap.size w w'
theorem read_ok {w : World} {v : Value} {xs : List Rat} (h : Calls Tryz.prog 36 #[v] w (RetRd w true xs)) (h0 : xs ≠ []) : Calls Tryz.prog 36 #[v] w (RetOk w xs) := by
  refine h.mono ?_
  rintro e w' ⟨rv, er, rfl, (⟨-, rfl, B, h2⟩ | ⟨h1, -, -⟩), hb⟩
  · obtain ⟨g, c, rfl, h3, h4, h5⟩ := h2.numb h0
    exact ⟨g, c, rfl, h3, h4, h5, hb⟩
  · cases h1

set_option maxRecDepth 100000 in
set_option maxHeartbeats 4000000 in
theorem dlaw_any {w : World} {v : Value} (ts : List (List UInt8)) (i n : Int) (hlen : ts.length ≤ 1000) (hts : ∀ l ∈ ts, l.length ≤ 268435000) (hv : Qs w v ts) (hg : Good w) :
    Calls Tryz.prog 11 #[v, .int .i64 i, .int .i64 n] w (RetV w (.tuple #[.string (lawS ts i n), .int .i64 (lawE ts i n)])) := by
  obtain ⟨W, hW, hB, hsz, j4, j5⟩ := entB w 3 3 #[.int .i64 i] #[.int .i64 n]
  have HW := Lib.hid hW
  have HSZ := Lib.hid hsz
  have HBB := Lib.hid hB
  have HR := Lib.hid (dread_any (w := W) ts hlen hts (hv.below hB) (hg.below hB))
  have hvs := hv
  obtain ⟨ao, cap, rfl, -, -, -, -⟩ := hv
  cases hok : okW ts with
  | false =>
    have e : lawE ts i n = 100 := by unfold lawE; rw [hok]; rfl
    have es : lawS ts i n = ⟨#[]⟩ := by unfold lawS; rw [e]; rfl
    rw [e, es]
    rw [hok] at HR
    clear e es hok hts hvs hlen hW hsz hB
    generalize ts.map rval = xs at *
    go_enter Tryz.func11, Tryz.ntmps11
    go_wp2_with (go_at_call 36; rw [← HW.out]; refine HR.out.mono ?_; rintro e w1 ⟨rv, er, rfl, (⟨h1, -, -⟩ | ⟨-, rfl, rfl⟩), hb⟩; first | cases h1 | skip)
    go_ret2
    exact ⟨rfl, HBB.out.trans (hb.mono HBB.out.size)⟩
  | true =>
    obtain ⟨k1, k2, k3, k4⟩ := okW_parts hok
    rw [hok] at HR
    have hl : (ts.map rval).length = ts.length := by simp
    have HR2 := Lib.hid (read_ok HR.out (by intro h; rw [h] at hl; simp at hl; omega))
    by_cases ha : 0 ≤ i ∧ i < ts.length ∧ 0 ≤ n ∧ n ≤ 200
    · obtain ⟨a1, a2, a3, a4⟩ := ha
      obtain ⟨I, rfl⟩ := Int.eq_ofNat_of_zero_le a1
      obtain ⟨N, rfl⟩ := Int.eq_ofNat_of_zero_le a3
      have e : lawE ts I N = 0 := by unfold lawE; rw [hok, if_pos rfl, if_pos ⟨a1, a2, a3, a4⟩]
      have es : lawS ts I N = rt (lawR (ts.map rval) N I) := by unfold lawS; rw [if_pos e]; rfl
      rw [e, es]
      rw [← hl] at a2
      have HG := Lib.hid (fun (V : World) (hV : Below W.heap.size W V) => (hg.below hB).below hV)
      clear HR e es hok hts hvs hlen hW hl k1 k2 hg
      generalize ts.map rval = xs at *
      clear hsz
      have HSH := Lib.hid (fun (V : World) v (hv : Pl V v (cum xs I) (cum xs (I + 1))) => show Calls Tryz.prog 39 #[v, .int .i64 (N : Int)] V (RetN V (lawR xs N I)) from share_any (w := V) hv (cum_fit k3 (i := I) (by omega)) (cum_fit k3 (i := I + 1) (by omega)) N (by omega))
      have HTX := Lib.hid (fun (V : World) v (hv : Nm V v (lawR xs N I)) (hV : Good V) => show Calls Tryz.prog 40 #[v] V (RetV V (.string (rt (lawR xs N I)))) from num_text (w := V) hv (fit_sz (law_fit k3 k4 (i := I) (by omega) (n := N) (by omega)) (by omega)) hV)
      have hn1 : ¬ ((N : Int) < 0) := by omega
      have hn2 : ¬ ((200 : Int) < (N : Int)) := by omega
      have hi1 : ¬ ((I : Int) < 0) := by omega
      have hi2 : ¬ ((xs.length : Int) ≤ (I : Int)) := by omega
      refine (callsIn_wide (n := 5)).1 ?_
      refine callsIn_of_wp_marks Tryz.func11 rfl trivial ?_ rfl
      simp only [Tryz.ntmps11, List.size_toArray, List.length_cons, List.length_nil, Nat.reduceAdd, Nat.reduceSub, Array.replicate_succ, Array.replicate_zero, List.push_toArray, List.append_toArray, List.nil_append, List.cons_append]
      gi_upto_region 6 with (refine ⟨trivial, ?_⟩; gi_at_call 36; rw [← HW.out]; refine (callsIn_wide.2 HR2.out).mono ?_; rintro o w1 ⟨g, c, rfl, hc1, hc2, hN, hb⟩; have c4 := (j4.next hb).cell 0; have c5 := (j5.next hb).cell 0; simp at c4 c5)
      have HBW := Lib.hid hb
      have HNB := Lib.hid hN
      have J4 := Lib.hid (j4.next hb)
      have J5 := Lib.hid (j5.next hb)
      clear hb hN c4 c5 j4 j5
      gi_wp2_with (first
        | (refine ⟨trivial, ?_⟩; gi_at_call 37; refine (callsIn_wide.2 zero_any).mono ?_; rintro o w2 ⟨r7, rfl, hr7, hb7⟩; obtain ⟨b7, a7, k7, p7, c7, f7, l7, q7, rfl, -, -⟩ := id hr7.parts)
        | (refine ⟨trivial, ?_⟩; gi_at_call 38; refine (callsIn_wide.2 (places_any _ _ _ _)).mono ?_; rintro o w' ⟨rfl, rfl⟩))
      have g7 := Blk.new w2 84 #[.bool b7, .slice a7 k7 p7, .bool c7, .slice f7 l7 q7]
      have m7 := hr7.below ((Below.refl _ _).alloc (Nat.le_refl _) (.cells #[.bool b7, .slice a7 k7 p7, .bool c7, .slice f7 l7 q7] 84))
      have hbL : Below w2.heap.size w2 ((w2.alloc (.cells #[.bool b7, .slice a7 k7 p7, .bool c7, .slice f7 l7 q7] 84)).alloc (.cells #[.slice (some ⟨g, 0, none⟩) xs.length c] 76)) := ((Below.refl _ _).alloc (Nat.le_refl _) _).alloc (by simp) _
      have hbM : Below (w2.heap.size + 1) (w2.alloc (.cells #[.bool b7, .slice a7 k7 p7, .bool c7, .slice f7 l7 q7] 84)) ((w2.alloc (.cells #[.bool b7, .slice a7 k7 p7, .bool c7, .slice f7 l7 q7] 84)).alloc (.cells #[.slice (some ⟨g, 0, none⟩) xs.length c] 76)) := (Below.refl _ _).alloc (by simp) _
      have G7 := g7.next (hbM.mono (by simp))
      have M7 := m7.below (hbM.mono (by simp))
      have mp := Blk.new (w2.alloc (.cells #[.bool b7, .slice a7 k7 p7, .bool c7, .slice f7 l7 q7] 84)) 76 #[.slice (some ⟨g, 0, none⟩) xs.length c]
      simp only [World.size_alloc] at mp
      have hNL := (HNB.out.below hb7).below hbL
      have hgl : g < w2.heap.size := by obtain ⟨cs, h1, -⟩ := HNB.out.below hb7; exact h1.lt
      have HB7 := Lib.hid (next_below HBW.out hb7)
      have J4L := Lib.hid (J4.out.next hb7)
      have J5L := Lib.hid (J5.out.next hb7)
      have hszL : w2.heap.size + 2 = ((w2.alloc (.cells #[.bool b7, .slice a7 k7 p7, .bool c7, .slice f7 l7 q7] 84)).alloc (.cells #[.slice (some ⟨g, 0, none⟩) xs.length c] 76)).heap.size := by simp
      have hws : w.heap.size ≤ w2.heap.size := by have := HBB.out.size; have := HB7.out.size; omega
      clear hbM g7 m7 hr7 hb7
      generalize ((w2.alloc (.cells #[.bool b7, .slice a7 k7 p7, .bool c7, .slice f7 l7 q7] 84)).alloc (.cells #[.slice (some ⟨g, 0, none⟩) xs.length c] 76)) = WL at *
      have hseq := places_seq 4 (by omega) 84 (by decide) w2.heap.size (w2.heap.size + 1) g c xs k3 hc1 hc2 WL ⟨_, G7⟩ (by omega) mp (by omega) hNL
      refine wpIn_rangeFunc_W (by omega) (gf := 77) (lb := #[.pointer (some ⟨w2.heap.size + 1, 0, none⟩)]) rfl (enters_of Tryz.func77 (by kernel_rfl) rfl)
        hseq (Below.refl _ _) Kq.sub (fun V l o o' h ho => Kq.turn o' h ho) (fun A B h => Kq.of_below h) (by rintro i vs V ⟨v, rfl, -⟩; rfl)
        (fun i V => NBox V w2.heap.size (lawAt xs N I i) ∧ Below w2.heap.size w2 V)
        (fun i V => False)
        ?_ ?_ ?_ ?_ ?_ ⟨(by unfold lawAt; rw [if_neg (by omega)]; exact ⟨b7, a7, k7, p7, c7, f7, l7, q7, G7, M7⟩), hbL⟩ ?_ ?_ ?_
      · rintro i A l o o' hl hA ho ⟨h1, h2⟩
        exact ⟨h1.turn o' hA ho, below_turn o' h2 hA (by omega)⟩
      · rintro i A C ⟨h1, h2⟩ h4
        exact ⟨h1.below h4, next_below h2 h4⟩
      · rintro i A C ⟨h1, h2⟩ h4
        exact ⟨h1.own h4 (by omega), h2.trans (h4.1.mono (by omega))⟩
      · rintro i A l o o' hl hA ho h1
        exact h1
      · rintro i A C h1 h4
        exact h1
      · rintro y i vs V ⟨hA, hB⟩ hi ⟨v, rfl, hv⟩
        obtain ⟨xb, xa, xk, xp, xc, xe, xl, xq, yb, ya, yk, yp, yc, ye, yl, yq, rfl⟩ := hv.parts
        gi_wp2
        refine ⟨(Below.refl _ _).alloc (Nat.le_refl _) _, fun j1 o o' hj1 hj2 ho hoc => ?_⟩
        have r4 := ((J4L.out.next hB).alloc (.cells #[.bool xb, .slice xa xk xp, .bool xc, .slice xe xl xq, .bool yb, .slice ya yk yp, .bool yc, .slice ye yl yq] 92)).turn o' ho hoc
        have r5 := ((J5L.out.next hB).alloc (.cells #[.bool xb, .slice xa xk xp, .bool xc, .slice xe xl xq, .bool yb, .slice ya yk yp, .bool yc, .slice ye yl yq] 92)).turn o' ho hoc
        have ra := (hA.below ((Below.refl _ _).alloc (Nat.le_refl _) (.cells #[.bool xb, .slice xa xk xp, .bool xc, .slice xe xl xq, .bool yb, .slice ya yk yp, .bool yc, .slice ye yl yq] 92))).turn o' ho hoc
        have rp := (Blk.new V 92 #[.bool xb, .slice xa xk xp, .bool xc, .slice xe xl xq, .bool yb, .slice ya yk yp, .bool yc, .slice ye yl yq]).turn o' ho hoc
        have sp := (hv.below ((Below.refl _ _).alloc (Nat.le_refl _) (.cells #[.bool xb, .slice xa xk xp, .bool xc, .slice xe xl xq, .bool yb, .slice ya yk yp, .bool yc, .slice ye yl yq] 92))).turn o' ho hoc
        have bV := below_turn o' (hB.alloc hB.size (.cells #[.bool xb, .slice xa xk xp, .bool xc, .slice xe xl xq, .bool yb, .slice ya yk yp, .bool yc, .slice ye yl yq] 92)) ho (by have := hbL.size; omega)
        generalize (V.alloc (.cells #[.bool xb, .slice xa xk xp, .bool xc, .slice xe xl xq, .bool yb, .slice ya yk yp, .bool yc, .slice ye yl yq] 92)).putObj j1 o' = V2 at *
        generalize V.heap.size = z8 at *
        have SP := Lib.hid sp
        have BV := Lib.hid bV
        have RA := Lib.hid ra
        have c4 := r4.cell 0
        have c5 := r5.cell 0
        simp at c4 c5
        obtain ⟨d0, d1, d2, d3, d4, d5, d6, d7⟩ := rp.at8
        clear sp bV ra hA hB hv ho hoc hj1 hj2 G7 M7 mp hNL hseq hbL r4 r5 rp
        by_cases hiI : i = I
        · subst hiI
          have HSV := Lib.hid (HSH.out V2 _ SP.out)
          have HL : Hid (lawAt xs N i (i + 1) = lawR xs N i) := Lib.hid (if_pos (by omega))
          gi_wp2_with (refine ⟨trivial, ?_⟩; gi_at_call 39; refine (CallsIn.inRound y (callsIn_wide.2 HSV.out)).mono ?_; rintro o w5 ⟨r9, rfl, hr9, hb5⟩; obtain ⟨ub, ua, uk, up, uc, ue, ul, uq, rfl, -, -⟩ := id hr9.parts; obtain ⟨sb, sa, sk, sp, sc, se, sl, sq, hbx, -⟩ := RA.out.below hb5; obtain ⟨e0, e1, e2, e3⟩ := hbx.at4; obtain ⟨f0, f1, f2, f3⟩ := hbx.fr4)
          rw [HL.out]
          exact ⟨(KeepsFrom.of_below hb5).trans ((((KeepsOthers.setCell _ _ _).from _).trans ((KeepsOthers.setCell _ _ _).from _)).trans (((KeepsOthers.setCell _ _ _).from _).trans ((KeepsOthers.setCell _ _ _).from _))), (Kq.of_below hb5).trans (Kq.four hbx _ _ _ _), ⟨_, _, _, _, _, _, _, _, hbx.four _ _ _ _, hr9.four hbx (by decide) _ _ _ _⟩, below_four (next_below BV.out hb5) (Nat.le_refl _) _ _ _ _⟩
        · have hiI2 : ¬ ((i : Int) = (I : Int)) := by omega
          have HL : Hid (lawAt xs N I (i + 1) = lawAt xs N I i) := Lib.hid (by
            unfold lawAt
            by_cases h : I < i
            · rw [if_pos h, if_pos (by omega)]
            · rw [if_neg h, if_neg (by omega)])
          gi_wp2
          rw [HL.out]
          exact ⟨KeepsFrom.refl _ _, Kq.refl _ _ _, RA.out, BV.out⟩
      · rintro D V hD ⟨hA, hB⟩ hK
        unfold lawAt at hA
        rw [if_pos (by omega)] at hA
        obtain ⟨sb, sa, sk, sp, sc, se, sl, sq, hbx, hnx⟩ := hA
        obtain ⟨e0, e1, e2, e3⟩ := hbx.at4
        have HT := Lib.hid (HTX.out V _ hnx (HG.out _ (next_below HB7.out hB)))
        have BV := Lib.hid (next_below HB7.out hB)
        have hDl : D < V.heap.size := (Array.getElem?_eq_some_iff.1 hK).1
        have HK := Lib.hid hK
        clear hbx hnx hB hK G7 M7 mp hNL hseq hbL
        gi_wp2_with (refine ⟨trivial, ?_⟩; gi_at_call 40; refine (callsIn_wide.2 HT.out).mono ?_; rintro o w5 ⟨rfl, hb5⟩)
        have hD5 : w5.heap[D]? = some (.deferred (some [])) := (hb5.block D hDl).trans HK.out
        refine ⟨by simp, .inl ⟨_, _, rfl, run_takeDeferred hD5, ?_⟩⟩
        exact ⟨_, results_tmp2 rfl _ _ _, rfl, below_turn _ (HBB.out.trans ((next_below BV.out hb5).mono HBB.out.size)) hD5 (by omega)⟩
      · rintro D i V hD hi h1 hK
        exact h1.elim
    · have e : lawE ts i n = 2 := by unfold lawE; rw [hok, if_pos rfl, if_neg ha]
      have es : lawS ts i n = ⟨#[]⟩ := by unfold lawS; rw [e]; rfl
      rw [e, es]
      rw [← hl] at ha
      clear HR e es hok hts hvs hlen hW hsz hB hl k1 k2 k3 k4 hg
      generalize ts.map rval = xs at *
      by_cases a1 : i < 0
      · go_enter Tryz.func11, Tryz.ntmps11
        go_wp2_with (go_at_call 36; rw [← HW.out]; refine HR2.out.mono ?_; rintro e w1 ⟨g, c, rfl, hc1, hc2, hN, hb⟩; have c4 := (j4.next hb).cell 0; have c5 := (j5.next hb).cell 0; simp at c4 c5)
        go_ret2
        exact ⟨rfl, HBB.out.trans (hb.mono HBB.out.size)⟩
      · by_cases a2 : (xs.length : Int) ≤ i
        · go_enter Tryz.func11, Tryz.ntmps11
          go_wp2_with (go_at_call 36; rw [← HW.out]; refine HR2.out.mono ?_; rintro e w1 ⟨g, c, rfl, hc1, hc2, hN, hb⟩; have c4 := (j4.next hb).cell 0; have c5 := (j5.next hb).cell 0; simp at c4 c5)
          go_ret2
          exact ⟨rfl, HBB.out.trans (hb.mono HBB.out.size)⟩
        · by_cases a3 : n < 0
          · go_enter Tryz.func11, Tryz.ntmps11
            go_wp2_with (go_at_call 36; rw [← HW.out]; refine HR2.out.mono ?_; rintro e w1 ⟨g, c, rfl, hc1, hc2, hN, hb⟩; have c4 := (j4.next hb).cell 0; have c5 := (j5.next hb).cell 0; simp at c4 c5)
            go_ret2
            exact ⟨rfl, HBB.out.trans (hb.mono HBB.out.size)⟩
          · have a4 : 200 < n := by omega
            go_enter Tryz.func11, Tryz.ntmps11
            go_wp2_with (go_at_call 36; rw [← HW.out]; refine HR2.out.mono ?_; rintro e w1 ⟨g, c, rfl, hc1, hc2, hN, hb⟩; have c4 := (j4.next hb).cell 0; have c5 := (j5.next hb).cell 0; simp at c4 c5)
            go_ret2
            exact ⟨rfl, HBB.out.trans (hb.mono HBB.out.size)⟩
end Go.Proofs.YtfjjdjhnodcfhaaGreatDoor

/- The part of the bit strings that decide nothing: draw.Left. -/
set_option linter.unusedSimpArgs false
set_option linter.unusedVariables false
namespace Go.Proofs.YtfjjdjhnodcfhaaGreatDoor
open Go.RowKit Go.Shelf
open Go.Lib (decDigits itoa nDigits)
open D4 (rt it Mid)
attribute [local go_sem] Oper.semAt_some

/-- The error of Left, and its text. -/
def lefE (ts : List (List UInt8)) (n : Int) : Int := if okW ts then (if 0 ≤ n ∧ n ≤ 200 then 0 else 2) else 100
def lefS (ts : List (List UInt8)) (n : Int) : ByteArray := if lefE ts n = 0 then rt (leftR (ts.map rval) n.toNat ts.length) else ⟨#[]⟩
set_option maxRecDepth 100000 in
set_option maxHeartbeats 4000000 in
theorem dleft_any {w : World} {v : Value} (ts : List (List UInt8)) (n : Int) (hlen : ts.length ≤ 1000) (hts : ∀ l ∈ ts, l.length ≤ 268435000) (hv : Qs w v ts) (hg : Good w) :
    Calls Tryz.prog 12 #[v, .int .i64 n] w (RetV w (.tuple #[.string (lefS ts n), .int .i64 (lefE ts n)])) := by
  obtain ⟨W, hW, hB, hsz, j4⟩ := entA w 3 #[.int .i64 n]
  have HW := Lib.hid hW
  have HSZ := Lib.hid hsz
  have HBB := Lib.hid hB
  have HR := Lib.hid (dread_any (w := W) ts hlen hts (hv.below hB) (hg.below hB))
  have hvs := hv
  obtain ⟨ao, cap, rfl, -, -, -, -⟩ := hv
  cases hok : okW ts with
  | false =>
    have e : lefE ts n = 100 := by unfold lefE; rw [hok]; rfl
    have es : lefS ts n = ⟨#[]⟩ := by unfold lefS; rw [e]; rfl
    rw [e, es]
    rw [hok] at HR
    clear e es hok hts hvs hlen hW hsz hB
    generalize ts.map rval = xs at *
    go_enter Tryz.func12, Tryz.ntmps12
    go_wp2_with (go_at_call 36; rw [← HW.out]; refine HR.out.mono ?_; rintro e w1 ⟨rv, er, rfl, (⟨h1, -, -⟩ | ⟨-, rfl, rfl⟩), hb⟩; first | cases h1 | skip)
    go_ret2
    exact ⟨rfl, HBB.out.trans (hb.mono HBB.out.size)⟩
  | true =>
    obtain ⟨k1, k2, k3, k4⟩ := okW_parts hok
    rw [hok] at HR
    have hl : (ts.map rval).length = ts.length := by simp
    have HR2 := Lib.hid (read_ok HR.out (by intro h; rw [h] at hl; simp at hl; omega))
    by_cases ha : 0 ≤ n ∧ n ≤ 200
    · obtain ⟨a3, a4⟩ := ha
      obtain ⟨N, rfl⟩ := Int.eq_ofNat_of_zero_le a3
      have e : lefE ts N = 0 := by unfold lefE; rw [hok, if_pos rfl, if_pos ⟨a3, a4⟩]
      have es : lefS ts N = rt (leftR (ts.map rval) N (ts.map rval).length) := by unfold lefS; rw [if_pos e, List.length_map]; rfl
      rw [e, es]
      have HG := Lib.hid (fun (V : World) (hV : Below W.heap.size W V) => (hg.below hB).below hV)
      clear HR e es hok hts hvs hlen hW hl k1 k2 hg
      generalize ts.map rval = xs at *
      clear hsz
      have HSH := Lib.hid (fun (i : Nat) (hi : i < xs.length) (V : World) v (hv : Pl V v (cum xs i) (cum xs (i + 1))) => show Calls Tryz.prog 39 #[v, .int .i64 (N : Int)] V (RetN V (lawR xs N i)) from share_any (w := V) hv (cum_fit k3 (i := i) (by omega)) (cum_fit k3 (i := i + 1) (by omega)) N (by omega))
      have HSB := Lib.hid (fun (i : Nat) (hi : i < xs.length) (V : World) v1 v2 (h1 : Nm V v1 (leftR xs N i)) (h2 : Nm V v2 (lawR xs N i)) => show Calls Tryz.prog 42 #[v1, v2] V (RetN V (leftR xs N (i + 1))) from num_sub (w := V) h1 h2 (fit_sz (left_fit k3 k4 (by omega) (by omega)) (by omega)) (fit_sz (law_fit k3 k4 hi (by omega)) (by omega)))
      have HTX := Lib.hid (fun (V : World) v (hv : Nm V v (leftR xs N xs.length)) (hV : Good V) => show Calls Tryz.prog 40 #[v] V (RetV V (.string (rt (leftR xs N xs.length)))) from num_text (w := V) hv (fit_sz (left_fit k3 k4 (Nat.le_refl _) (n := N) (by omega)) (by omega)) hV)
      have hn1 : ¬ ((N : Int) < 0) := by omega
      have hn2 : ¬ ((200 : Int) < (N : Int)) := by omega
      refine (callsIn_wide (n := 5)).1 ?_
      refine callsIn_of_wp_marks Tryz.func12 rfl trivial ?_ rfl
      simp only [Tryz.ntmps12, List.size_toArray, List.length_cons, List.length_nil, Nat.reduceAdd, Nat.reduceSub, Array.replicate_succ, Array.replicate_zero, List.push_toArray, List.append_toArray, List.nil_append, List.cons_append]
      gi_upto_region 6 with (refine ⟨trivial, ?_⟩; gi_at_call 36; rw [← HW.out]; refine (callsIn_wide.2 HR2.out).mono ?_; rintro o w1 ⟨g, c, rfl, hc1, hc2, hN, hb⟩; have c4 := (j4.next hb).cell 0; simp at c4)
      have HBW := Lib.hid hb
      have HNB := Lib.hid hN
      have J4 := Lib.hid (j4.next hb)
      clear hb hN c4 j4
      gi_wp2_with (first
        | (refine ⟨trivial, ?_⟩; gi_at_call 41; refine (callsIn_wide.2 one_any).mono ?_; rintro o w2 ⟨r7, rfl, hr7, hb7⟩; obtain ⟨b7, a7, k7, p7, c7, f7, l7, q7, rfl, -, -⟩ := id hr7.parts)
        | (refine ⟨trivial, ?_⟩; gi_at_call 38; refine (callsIn_wide.2 (places_any _ _ _ _)).mono ?_; rintro o w' ⟨rfl, rfl⟩))
      have g7 := Blk.new w2 84 #[.bool b7, .slice a7 k7 p7, .bool c7, .slice f7 l7 q7]
      have m7 := hr7.below ((Below.refl _ _).alloc (Nat.le_refl _) (.cells #[.bool b7, .slice a7 k7 p7, .bool c7, .slice f7 l7 q7] 84))
      have hbL : Below w2.heap.size w2 ((w2.alloc (.cells #[.bool b7, .slice a7 k7 p7, .bool c7, .slice f7 l7 q7] 84)).alloc (.cells #[.slice (some ⟨g, 0, none⟩) xs.length c] 76)) := ((Below.refl _ _).alloc (Nat.le_refl _) _).alloc (by simp) _
      have hbM : Below (w2.heap.size + 1) (w2.alloc (.cells #[.bool b7, .slice a7 k7 p7, .bool c7, .slice f7 l7 q7] 84)) ((w2.alloc (.cells #[.bool b7, .slice a7 k7 p7, .bool c7, .slice f7 l7 q7] 84)).alloc (.cells #[.slice (some ⟨g, 0, none⟩) xs.length c] 76)) := (Below.refl _ _).alloc (by simp) _
      have G7 := g7.next (hbM.mono (by simp))
      have M7 := m7.below (hbM.mono (by simp))
      have mp := Blk.new (w2.alloc (.cells #[.bool b7, .slice a7 k7 p7, .bool c7, .slice f7 l7 q7] 84)) 76 #[.slice (some ⟨g, 0, none⟩) xs.length c]
      simp only [World.size_alloc] at mp
      have hNL := (HNB.out.below hb7).below hbL
      have hgl : g < w2.heap.size := by obtain ⟨cs, h1, -⟩ := HNB.out.below hb7; exact h1.lt
      have HB7 := Lib.hid (next_below HBW.out hb7)
      have J4L := Lib.hid (J4.out.next hb7)
      have hszL : w2.heap.size + 2 = ((w2.alloc (.cells #[.bool b7, .slice a7 k7 p7, .bool c7, .slice f7 l7 q7] 84)).alloc (.cells #[.slice (some ⟨g, 0, none⟩) xs.length c] 76)).heap.size := by simp
      have hws : w.heap.size ≤ w2.heap.size := by have := HBB.out.size; have := HB7.out.size; omega
      clear hbM g7 m7 hr7 hb7
      generalize ((w2.alloc (.cells #[.bool b7, .slice a7 k7 p7, .bool c7, .slice f7 l7 q7] 84)).alloc (.cells #[.slice (some ⟨g, 0, none⟩) xs.length c] 76)) = WL at *
      have hseq := places_seq 4 (by omega) 84 (by decide) w2.heap.size (w2.heap.size + 1) g c xs k3 hc1 hc2 WL ⟨_, G7⟩ (by omega) mp (by omega) hNL
      refine wpIn_rangeFunc_W (by omega) (gf := 77) (lb := #[.pointer (some ⟨w2.heap.size + 1, 0, none⟩)]) rfl (enters_of Tryz.func77 (by kernel_rfl) rfl)
        hseq (Below.refl _ _) Kq.sub (fun V l o o' h ho => Kq.turn o' h ho) (fun A B h => Kq.of_below h) (by rintro i vs V ⟨v, rfl, -⟩; rfl)
        (fun i V => NBox V w2.heap.size (leftR xs N i) ∧ Below w2.heap.size w2 V)
        (fun i V => False)
        ?_ ?_ ?_ ?_ ?_ ⟨⟨b7, a7, k7, p7, c7, f7, l7, q7, G7, M7⟩, hbL⟩ ?_ ?_ ?_
      · rintro i A l o o' hl hA ho ⟨h1, h2⟩
        exact ⟨h1.turn o' hA ho, below_turn o' h2 hA (by omega)⟩
      · rintro i A C ⟨h1, h2⟩ h4
        exact ⟨h1.below h4, next_below h2 h4⟩
      · rintro i A C ⟨h1, h2⟩ h4
        exact ⟨h1.own h4 (by omega), h2.trans (h4.1.mono (by omega))⟩
      · rintro i A l o o' hl hA ho h1
        exact h1
      · rintro i A C h1 h4
        exact h1
      · rintro y i vs V ⟨hA, hB⟩ hi ⟨v, rfl, hv⟩
        obtain ⟨xb, xa, xk, xp, xc, xe, xl, xq, yb, ya, yk, yp, yc, ye, yl, yq, rfl⟩ := hv.parts
        gi_wp2
        refine ⟨(Below.refl _ _).alloc (Nat.le_refl _) _, fun j1 o o' hj1 hj2 ho hoc => ?_⟩
        have r4 := ((J4L.out.next hB).alloc (.cells #[.bool xb, .slice xa xk xp, .bool xc, .slice xe xl xq, .bool yb, .slice ya yk yp, .bool yc, .slice ye yl yq] 92)).turn o' ho hoc
        have ra := (hA.below ((Below.refl _ _).alloc (Nat.le_refl _) (.cells #[.bool xb, .slice xa xk xp, .bool xc, .slice xe xl xq, .bool yb, .slice ya yk yp, .bool yc, .slice ye yl yq] 92))).turn o' ho hoc
        have rp := (Blk.new V 92 #[.bool xb, .slice xa xk xp, .bool xc, .slice xe xl xq, .bool yb, .slice ya yk yp, .bool yc, .slice ye yl yq]).turn o' ho hoc
        have sp := (hv.below ((Below.refl _ _).alloc (Nat.le_refl _) (.cells #[.bool xb, .slice xa xk xp, .bool xc, .slice xe xl xq, .bool yb, .slice ya yk yp, .bool yc, .slice ye yl yq] 92))).turn o' ho hoc
        have bV := below_turn o' (hB.alloc hB.size (.cells #[.bool xb, .slice xa xk xp, .bool xc, .slice xe xl xq, .bool yb, .slice ya yk yp, .bool yc, .slice ye yl yq] 92)) ho (by have := hbL.size; omega)
        generalize (V.alloc (.cells #[.bool xb, .slice xa xk xp, .bool xc, .slice xe xl xq, .bool yb, .slice ya yk yp, .bool yc, .slice ye yl yq] 92)).putObj j1 o' = V2 at *
        generalize V.heap.size = z8 at *
        have SP := Lib.hid sp
        have BV := Lib.hid bV
        have RA := Lib.hid ra
        have c4 := r4.cell 0
        simp at c4
        obtain ⟨d0, d1, d2, d3, d4, d5, d6, d7⟩ := rp.at8
        have rp' := rp
        clear sp bV ra hA hB hv ho hoc hj1 hj2 G7 M7 mp hNL hseq hbL rp
        have R4 := Lib.hid r4
        have RP := Lib.hid rp'
        have HSV := Lib.hid (fun (V : World) v (hv : Pl V v (cum xs i) (cum xs (i + 1))) => HSH.out i hi V v hv)
        have HSS := Lib.hid (HSB.out i hi)
        obtain ⟨sb, sa, sk, sq, sc, se, sl, sr, hbx, hnx⟩ := RA.out
        have HX := Lib.hid hbx
        have HNX := Lib.hid hnx
        clear RA hbx hnx c4 d0 d1 d2 d3 d4 d5 d6 d7 r4 rp' HSH HSB HTX
        gi_upto_region 9 with fail
        have hB0 : Below V2.heap.size V2 V2.drew := (Below.refl _ _).drew
        refine wpIn_region_famR 5 (by kernel_rfl) (by kernel_rfl) (by kernel_rfl) [] [fun v _ => v = .agg #[.bool sb, .slice sa sk sq, .bool sc, .slice se sl sr], fun v _ => v = .agg #[.bool xb, .slice xa xk xp, .bool xc, .slice xe xl xq, .bool yb, .slice ya yk yp, .bool yc, .slice ye yl yq], fun v _ => v = .int .i64 (N : Int), fun v w' => Nm w' v (lawR xs N i), fun v w' => Nm w' v (leftR xs N (i + 1))] (by simp only [List.take_succ_cons, List.take_zero]; rfl) (by simp only [List.drop_succ_cons, List.drop_zero]; rfl) (fun vals => by simp only [fam, Act.put, List.setIfInBounds_toArray, List.set_cons_zero, List.set_cons_succ, if_true]; rfl) (by repeat' (first | exact Stab.eq _ _ | exact Stab.wh _ _ | exact Stab.nm _ _ | exact Stab.new _ _ | exact Stab.newn _ _ | exact Stab.tw _ _ _ | exact Stab.lm _ _ _ | exact Stab.onet _ _ _ | exact Stab.pl _ _ _ | exact trivial | apply And.intro)) trivial ?_ ?_
        · refine ⟨?_, ?_, ?_, ?_, ?_, trivial⟩
          all_goals
            intro vals w8 hB1 hp
            dsimp only
            (try simp [preOk, Region.binds, r_anygc, r_anytext] at hp)
            have hb := next_below hB0 hB1
            clear hB1
          case refine_1 =>
            obtain ⟨e0, e1, e2, e3⟩ := (HX.out.next hb).at4
            go_wp2
            (first | exact ⟨rfl, _, rfl, rfl, Below.refl _ _, trivial⟩ | (refine ⟨rfl, _, ?_, rfl, Below.refl _ _, trivial⟩; simp only [Act.put, List.setIfInBounds_toArray, List.set_cons_zero, List.set_cons_succ, hp]))
          case refine_2 =>
            obtain ⟨d0, d1, d2, d3, d4, d5, d6, d7⟩ := (RP.out.next hb).at8
            go_wp2
            (first | exact ⟨rfl, _, rfl, rfl, Below.refl _ _, trivial⟩ | (refine ⟨rfl, _, ?_, rfl, Below.refl _ _, trivial⟩; simp only [Act.put, List.setIfInBounds_toArray, List.set_cons_zero, List.set_cons_succ, hp]))
          case refine_3 =>
            have c4 := (R4.out.next hb).cell 0
            simp at c4
            go_wp2
            (first | exact ⟨rfl, _, rfl, rfl, Below.refl _ _, trivial⟩ | (refine ⟨rfl, _, ?_, rfl, Below.refl _ _, trivial⟩; simp only [Act.put, List.setIfInBounds_toArray, List.set_cons_zero, List.set_cons_succ, hp]))
          case refine_4 =>
            obtain ⟨z0, z1⟩ := hp
            generalize vals 1 = v1 at *
            generalize vals 2 = v2 at *
            subst z0 z1
            go_wp2_with (go_at_call 39; refine (HSV.out _ _ (SP.out.below hb)).mono ?_; rintro e w9 ⟨r9, rfl, hr9, hb9⟩)
            exact ⟨rfl, _, rfl, hr9, hb9, trivial⟩
          case refine_5 =>
            obtain ⟨z0, z1⟩ := hp
            generalize vals 0 = v0 at *
            generalize vals 3 = v3 at *
            subst z0
            go_wp2_with (go_at_call 42; refine (HSS.out _ _ _ (HNX.out.below hb) z1).mono ?_; rintro e w9 ⟨r9, rfl, hr9, hb9⟩)
            exact ⟨rfl, _, rfl, hr9, hb9, trivial⟩
        · rintro vals w8 hB1 ⟨p0, p1, p2, p3, p4, _⟩ hne
          have hb := next_below hB0 hB1
          simp at p4
          generalize vals 4 = v4 at *
          obtain ⟨ub, ua, uk, up, uc, ue, ul, uq, rfl, -, -⟩ := id p4.parts
          clear hne p0 p1 p2 p3 hB1
          generalize vals 0 = t0 at *
          generalize vals 1 = t1 at *
          generalize vals 2 = t2 at *
          generalize vals 3 = t3 at *
          have hbx := HX.out.next hb
          obtain ⟨e0, e1, e2, e3⟩ := hbx.at4
          obtain ⟨f0, f1, f2, f3⟩ := hbx.fr4
          have HXB := Lib.hid hbx
          have P4 := Lib.hid p4
          have BB := Lib.hid hb
          clear hbx p4 hb hB0
          gi_wp2
          exact ⟨(KeepsFrom.of_below BB.out).trans ((((KeepsOthers.setCell _ _ _).from _).trans ((KeepsOthers.setCell _ _ _).from _)).trans (((KeepsOthers.setCell _ _ _).from _).trans ((KeepsOthers.setCell _ _ _).from _))), (Kq.of_below BB.out).trans (Kq.four HXB.out _ _ _ _), ⟨_, _, _, _, _, _, _, _, HXB.out.four _ _ _ _, P4.out.four HXB.out (by decide) _ _ _ _⟩, below_four (next_below BV.out BB.out) (Nat.le_refl _) _ _ _ _⟩
      · rintro D V hD ⟨hA, hB⟩ hK
        obtain ⟨sb, sa, sk, sp, sc, se, sl, sq, hbx, hnx⟩ := hA
        obtain ⟨e0, e1, e2, e3⟩ := hbx.at4
        have HT := Lib.hid (HTX.out V _ hnx (HG.out _ (next_below HB7.out hB)))
        have BV := Lib.hid (next_below HB7.out hB)
        have hDl : D < V.heap.size := (Array.getElem?_eq_some_iff.1 hK).1
        have HK := Lib.hid hK
        clear hbx hnx hB hK G7 M7 mp hNL hseq hbL
        gi_wp2_with (refine ⟨trivial, ?_⟩; gi_at_call 40; refine (callsIn_wide.2 HT.out).mono ?_; rintro o w5 ⟨rfl, hb5⟩)
        have hD5 : w5.heap[D]? = some (.deferred (some [])) := (hb5.block D hDl).trans HK.out
        refine ⟨by simp, .inl ⟨_, _, rfl, run_takeDeferred hD5, ?_⟩⟩
        exact ⟨_, results_tmp2 rfl _ _ _, rfl, below_turn _ (HBB.out.trans ((next_below BV.out hb5).mono HBB.out.size)) hD5 (by omega)⟩
      · rintro D i V hD hi h1 hK
        exact h1.elim
    · have e : lefE ts n = 2 := by unfold lefE; rw [hok, if_pos rfl, if_neg ha]
      have es : lefS ts n = ⟨#[]⟩ := by unfold lefS; rw [e]; rfl
      rw [e, es]
      clear HR e es hok hts hvs hlen hW hsz hB hl k1 k2 k3 k4 hg
      generalize ts.map rval = xs at *
      by_cases a3 : n < 0
      · go_enter Tryz.func12, Tryz.ntmps12
        go_wp2_with (go_at_call 36; rw [← HW.out]; refine HR2.out.mono ?_; rintro e w1 ⟨g, c, rfl, hc1, hc2, hN, hb⟩; have c4 := (j4.next hb).cell 0; simp at c4)
        go_ret2
        exact ⟨rfl, HBB.out.trans (hb.mono HBB.out.size)⟩
      · have a4 : 200 < n := by omega
        go_enter Tryz.func12, Tryz.ntmps12
        go_wp2_with (go_at_call 36; rw [← HW.out]; refine HR2.out.mono ?_; rintro e w1 ⟨g, c, rfl, hc1, hc2, hN, hb⟩; have c4 := (j4.next hb).cell 0; simp at c4)
        go_ret2
        exact ⟨rfl, HBB.out.trans (hb.mono HBB.out.size)⟩
end Go.Proofs.YtfjjdjhnodcfhaaGreatDoor
