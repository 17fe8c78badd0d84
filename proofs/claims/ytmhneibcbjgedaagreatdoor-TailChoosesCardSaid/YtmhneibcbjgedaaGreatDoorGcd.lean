/- The contract of Whole.Gcd. -/
import Derived.Test.YtmhneibcbjgedaaGreatDoorTool
set_option linter.unusedSimpArgs false
set_option linter.unusedVariables false
namespace Go.Proofs.YtmhneibcbjgedaaGreatDoor
open Go.RowKit

theorem Wh.of_sg {w : World} {v : Value} {k : Nat} (h : Wh w v (sg false k)) : ∃ a cap, v = .agg #[.bool false, .slice a (limbs k).length cap] ∧ Lim w (.slice a (limbs k).length cap) (limbs k) := by
  have e : sg false k = (k : Int) := rfl
  obtain ⟨a, c, h1, h2⟩ := h.form
  rw [e] at h1 h2
  simp only [Int.natAbs_natCast] at h1 h2
  refine ⟨a, c, ?_, h2⟩
  rw [h1]; congr

theorem gcd_swap {x y r g : Nat} (h : Nat.gcd x y = g) (hr : r = x % y) : Nat.gcd y r = g := by
  rw [← h, hr, Nat.gcd_comm x y, Nat.gcd_rec y x, Nat.gcd_comm]

theorem gcd_zero {x y g : Nat} (h : Nat.gcd x y = g) (hy : (limbs y).length = 0) : x = g := by
  have := limbs_eq_nil.1 (List.length_eq_zero_iff.1 hy)
  subst this
  rw [← h, Nat.gcd_zero_right]

theorem pos_of_len {y : Nat} (h : 0 < (limbs y).length) : 0 < y := by
  rcases Nat.eq_zero_or_pos y with h0 | h0
  · subst h0; simp [limbs_zero] at h
  · exact h0

theorem small_of_len {y : Nat} (h : (limbs y).length ≤ 2) : y < 1000000000000000000 := by
  have h1 := limbs_lt_pow y
  have h2 : (1000000000 : Nat) ^ (limbs y).length ≤ 1000000000 ^ 2 := Nat.pow_le_pow_right (by omega) h
  omega

theorem u64_mod {p q : Nat} (hp : p < 18446744073709551616) : IntKind.u64.wrap ((p : Int).tmod (q : Int)) = ((p % q : Nat) : Int) := by
  have e : (p : Int).tmod (q : Int) = ((p % q : Nat) : Int) := by rw [Int.tmod_eq_emod_of_nonneg (by omega)]; simp
  rw [e]
  have h : p % q ≤ p := Nat.mod_le _ _
  exact IntWalk.u64_in _ (by omega)

theorem field_mag (x y : Value) (w : World) : (Instr.field 65 (.agg #[x, y]) 1).run Tryz.prog w = .ok y w := by kernel_rfl

set_option maxHeartbeats 1000000 in
set_option maxRecDepth 100000 in
theorem gcd_any {w : World} {v1 v2 : Value} {m n : Int} (h1 : Wh w v1 m) (h2 : Wh w v2 n) (s1 : Fit m) (s2 : Fit n) :
    Calls Tryz.prog 129 #[v1, v2] w (RetW w (Nat.gcd m.natAbs n.natAbs : Nat)) := by
  obtain ⟨i0, hi, hz0, hz1, hz2⟩ := info_parts info32
  obtain ⟨a1, p1, rfl, g1⟩ := h1.form
  obtain ⟨a2, p2, rfl, g2⟩ := h2.form
  unfold Fit at s1 s2
  clear h1 h2
  generalize decide (m < 0) = b at *
  generalize decide (n < 0) = c at *
  generalize m.natAbs = x at *
  generalize n.natAbs = y at *
  obtain ⟨g, hg⟩ : ∃ g, Nat.gcd x y = g := ⟨_, rfl⟩
  rw [hg]
  have HG := Lib.hid hg
  clear hg
  obtain ⟨W, hW, hB, hsz, j1, j2, j3⟩ := ent3 w 65 #[.bool b, .slice a1 (limbs x).length p1] #[.bool c, .slice a2 (limbs y).length p2] #[.bool false, .slice none 0 0]
  have HW := Lib.hid hW
  have HSZ := Lib.hid hsz
  clear hW hsz
  have m1 := Lib.hid (g1.below hB)
  have m2 := Lib.hid (g2.below hB)
  have S1 := Lib.hid s1
  have S2 := Lib.hid s2
  clear g1 g2 s1 s2
  have x1 := j1.cell1
  have y1 := j2.cell1
  go_enter Tryz.func129, Tryz.ntmps129
  go_upto_region 1 with fail
  rw [← HW.out]
  generalize hk1 : (limbs x).length = k1 at *
  generalize hk2 : (limbs y).length = k2 at *
  have HK1 := Lib.hid hk1
  have HK2 := Lib.hid hk2
  clear hk1 hk2
  have hB0 : Below W.heap.size W W.drew := (Below.refl _ _).drew
  refine wp_region_list 5 (by kernel_rfl) (by kernel_rfl) [] [fun v _ => v = .pointer (some ⟨w.heap.size, 1, none⟩), fun v _ => v = .slice a1 k1 p1, fun v _ => v = .pointer (some ⟨w.heap.size + 1, 1, none⟩), fun v _ => v = .slice a2 k2 p2, fun v _ => v = .slice a1 k1 p1] (by simp only [List.take_succ_cons, List.take_zero]; rfl) (by simp only [List.drop_succ_cons, List.drop_zero]; rfl) (fun vals => by simp only [fam, Act.put, List.setIfInBounds_toArray, List.set_cons_zero, List.set_cons_succ, if_true]; rfl) (by repeat' (first | exact Stab.eq _ _ | exact Stab.wh _ _ | exact Stab.nm _ _ | exact Stab.new _ _ | exact Stab.newn _ _ | exact trivial | apply And.intro)) trivial ?_ ?_
  · refine ⟨?_, ?_, ?_, ?_, ?_, trivial⟩
    all_goals
      intro vals w1 hB hp
      dsimp only
      (try simp [preOk, Region.binds] at hp)
      have hb := next_below hB0 hB
      have x0 := keepc hb j1.cell1 j1.lt
      have y0 := keepc hb j2.cell1 j2.lt
      clear hB
      go_wp2
      (first | exact ⟨rfl, _, rfl, rfl, Below.refl _ _, trivial⟩ | (refine ⟨rfl, _, ?_, rfl, Below.refl _ _, trivial⟩; simp only [Act.put, List.setIfInBounds_toArray, List.set_cons_zero, List.set_cons_succ, hp]))
  · rintro vals w1 hB ⟨p0, p1', p2', p3, p4, _⟩ hne
    have hb := next_below hB0 hB
    simp at p1' p3 p4
    generalize vals 1 = v1 at *
    generalize vals 3 = v3 at *
    generalize vals 4 = v4 at *
    subst p1' p3 p4
    clear hne p0 p2'
    go_wp2
    have q1 := Lib.hid (m1.out.below hb)
    have q2 := Lib.hid (m2.out.below hb)
    clear m1 m2 x1 y1
    have HBB := Lib.hid hb
    clear hb hB0 hB
    go_loopg [5, 6] y (fun gk ua ub wr => ∃ (x' : Nat) (aa ab : Option Addr) (ka kb pa pb : Nat), ua = .slice aa ka pa ∧ ub = .slice ab kb pb ∧ Hid ((limbs x').length = ka ∧ (limbs gk).length = kb ∧ ka ≤ 1073741824 ∧ kb ≤ 1073741824) ∧ Hid (Nat.gcd x' gk = g) ∧ Hid (Lim wr (.slice aa ka pa) (limbs x')) ∧ Hid (Lim wr (.slice ab kb pb) (limbs gk)) ∧ Hid (Below W.heap.size W wr))
    case atStart => exact ⟨x, a1, a2, k1, k2, p1, p2, rfl, rfl, Lib.hid ⟨HK1.out, HK2.out, S1.out, S2.out⟩, HG, q1, q2, HBB⟩
    case round =>
      obtain ⟨x', aa, ab, ka, kb, pa, pb, rfl, rfl, HK, HG', l1, l2, hK⟩ := hrel
      have lka := HK.out.2.2.1
      have lkb := HK.out.2.2.2
      by_cases h2 : 2 < kb
      · have hdv := divided_any l1.out l2.out (limbs_ok _) (limbs_ok _) (limbs_last _) (limbs_last _) (by rw [val_limbs]; exact pos_of_len (by rw [HK.out.2.1]; omega)) (by rw [HK.out.1]; exact lka)
        rw [val_limbs, val_limbs] at hdv
        have HDV := Lib.hid hdv
        have fm := field_mag
        clear hdv
        go_wp2_with (first
          | (go_at_call 130; refine HDV.out.mono ?_; rintro e V ⟨vq, vr, lq, lr, rfl, hq, hr, oq, or, eq, er', hV⟩; have er := Lib.hid er'; clear er' eq)
          | (go_at_call 104; refine (whole_any false hr or).mono ?_; rintro e V2 ⟨r2, rfl, hr2, hV2⟩; obtain ⟨a3, c3, rfl, hl3⟩ := hr2.of_sg))
        go_roundg (val lr)
        case rel => exact ⟨gk, ab, a3, kb, _, pb, c3, rfl, rfl, Lib.hid ⟨HK.out.2.1, rfl, lkb, by
            have h1 := limbs_len_mono (a := val lr) (b := gk) (by rw [er.out]; exact Nat.le_of_lt (Nat.mod_lt _ (pos_of_len (by rw [HK.out.2.1]; omega))))
            have := HK.out.2.1
            omega⟩, Lib.hid (gcd_swap HG'.out er.out), Lib.hid ((l2.out.below hV).below hV2), Lib.hid hl3, Lib.hid (next_below (next_below hK.out hV) hV2)⟩
        case measure => rw [er.out]; exact Nat.mod_lt _ (pos_of_len (by rw [HK.out.2.1]; omega))
      · have h2' : ((kb : Int) > 2) = False := by simp; omega
        by_cases h0 : kb = 0
        · subst h0
          have HX := Lib.hid (gcd_zero HG'.out HK.out.2.1)
          have i3 := j3.below hK.out j3.lt
          go_wp2_with (go_at_call 104; refine (whole_any false l1.out (limbs_ok _)).mono ?_; rintro e V ⟨r, rfl, hr, hV⟩; obtain ⟨b4, a4, k4, p4, rfl⟩ := hr.parts; have o3 := i3.below hV i3.lt; have e0 := o3.cell0; have e1 := o3.cell1; have e2 := o3.frozen 0; have e3 := o3.frozen 1)
          have hB4 := o3.two (.bool b4) (.slice a4 k4 p4)
          have d0 := hB4.cell0
          have d1 := hB4.cell1
          refine bodyPost_ret (v := .agg #[.bool b4, .slice a4 k4 p4]) (by simp [results, Tryz.results129, go_sem, d0, d1]) rfl ⟨_, rfl, ?_, ?_⟩
          · rw [← HX.out]
            have hr' := hr.two o3 (by decide) (.bool b4) (.slice a4 k4 p4)
            rw [val_limbs] at hr'
            exact hr'
          · exact below_two ((hB.trans (hK.out.mono hB.size)).trans (hV.mono (Nat.le_trans hB.size hK.out.size))) (by omega) _ _
        · have hpos : 0 < gk := pos_of_len (by rw [HK.out.2.1]; omega)
          have hsmall : gk < 1000000000000000000 := small_of_len (by rw [HK.out.2.1]; omega)
          have hdv := divided_any l1.out l2.out (limbs_ok _) (limbs_ok _) (limbs_last _) (limbs_last _) (by rw [val_limbs]; exact hpos) (by rw [HK.out.1]; exact lka)
          rw [val_limbs, val_limbs] at hdv
          have HDV := Lib.hid hdv
          have hval := fun (V : World) h => value_any (w := V) (l2.out.below h) (limbs_ok _) (by rw [HK.out.2.1]; omega)
          rw [val_limbs] at hval
          have HVAL := Lib.hid hval
          clear hdv hval
          have fm := field_mag
          go_wp2_with (first
            | (go_at_call 130; refine HDV.out.mono ?_; rintro e V ⟨vq, vr, lq, lr, rfl, hq, hr, oq, or, eq, er', hV⟩; have er := Lib.hid er'; clear er' eq)
            | (go_at_call_of 147 (Value.slice ab kb pb); refine (HVAL.out _ hV).mono ?_; rintro e V1 ⟨rfl, hV1⟩)
            | (go_at_call 104; refine (whole_any false (hr.below hV1) or).mono ?_; rintro e V2 ⟨r2, rfl, hr2, hV2⟩; obtain ⟨a3, c3, rfl, hl3⟩ := hr2.of_sg)
            | (go_at_call 147; refine (value_any hl3 (limbs_ok _) (by
                have h1 := limbs_len_mono (a := val lr) (b := gk) (by rw [er.out]; exact Nat.le_of_lt (Nat.mod_lt _ hpos))
                have := HK.out.2.1
                omega)).mono ?_; rw [val_limbs]; rintro e V3 ⟨rfl, hV3⟩))
          have hK3 := Lib.hid (next_below (next_below (next_below (next_below hK.out hV) hV1) hV2) hV3)
          have HG2 := Lib.hid (gcd_swap HG'.out er.out)
          have hlr : val lr < 1000000000000000000 := by rw [er.out]; have := Nat.mod_lt x' hpos; omega
          clear HG' HDV HVAL fm
          generalize val lr = q0 at *
          generalize hgb : gk = gb at *
          generalize hwb : wr = wb at *
          clear hgb hwb
          go_loopg [11, 12] q0 (fun gk2 u11 u12 wr2 => ∃ (p : Nat), u11 = .int .u64 p ∧ u12 = .int .u64 gk2 ∧ p < 1000000000000000000 ∧ gk2 < 1000000000000000000 ∧ Hid (0 < p) ∧ Hid (Nat.gcd p gk2 = g) ∧ Hid (Below W.heap.size W wr2))
          case atStart => exact ⟨gb, rfl, rfl, hsmall, hlr, Lib.hid hpos, HG2, hK3⟩
          case round =>
            obtain ⟨p, rfl, rfl, hp1, hq1, hp0, HG3, hK4⟩ := hrel
            by_cases hq0 : 0 < gk
            · have hq0' : ((gk : Int) ≠ 0) := by omega
              have hqn : (0 : Int) < gk := by omega
              go_wp2
              have hmod := u64_mod (p := p) (q := gk) (by omega)
              have hq0'' : gk ≠ 0 := by omega
              have hq0b : ((gk : Int) == 0) = false := by simpa using hq0''
              go_region_held3 (fun _ => True) (trivial) (fail)
              all_goals
                go_wp2_with fail
                go_roundg (p % gk)
                case rel => exact ⟨gk, rfl, by go_num, hq1, by have := Nat.mod_lt p hq0; omega, Lib.hid hq0, Lib.hid (gcd_swap HG3.out rfl), Lib.hid hK4.out.drew⟩
                case measure => exact Nat.mod_lt _ hq0
            · have hg : p = g := by
                have h0 : gk = 0 := by omega
                have := HG3.out
                rwa [h0, Nat.gcd_zero_right] at this
              have HPG := Lib.hid hg
              have hpp := hp0.out
              have i3 := j3.below hK4.out j3.lt
              clear hg
              have J3 := Lib.hid i3
              have HS4 := hK4.out.size
              have HSZ2 : w.heap.size + 3 ≤ W.heap.size := by have := HSZ.out; omega
              have hlen3 : (limbs g).length ≤ 3 := limbs_len_le (by rw [← HPG.out]; omega)
              have HL3 := Lib.hid hlen3
              clear hlen3
              generalize hwb : wr = wd at *
              clear hwb
              have hbl : Blk (wd.alloc (.cells #[.bool false, .slice none 0 0] 65)) wd.heap.size 65 #[.bool false, .slice none 0 0] := Blk.new _ _ _
              have HBL := Lib.hid hbl
              have hx0 := hbl.cell0
              have hx1 := hbl.cell1
              have hx2 := hbl.frozen 0
              have hx3 := hbl.frozen 1
              have hKn : Below W.heap.size W (wd.alloc (.cells #[.bool false, .slice none 0 0] 65)) := hK4.out.alloc hK4.out.size _
              have HKn := Lib.hid hKn
              clear hbl hKn
              go_wp2
              have i3' : Blk (wd.alloc (.cells #[.bool false, .slice none 0 0] 65)) (w.heap.size + 1 + 1) 65 #[.bool false, .slice none 0 0] := J3.out.alloc _
              have I3 := Lib.hid i3'
              clear i3' i3 hx0 hx1 hx2 hx3
              have hgo : W.heap.size ≤ wd.heap.size := HS4
              have HSS : Hid (wd.heap.size + 1 ≤ (wd.alloc (.cells #[.bool false, .slice none 0 0] 65)).heap.size) := Lib.hid (by simp)
              have hpb : p ≤ 1000000000000000000 := by omega
              generalize hgo' : wd.heap.size = go at *
              generalize (wd.alloc (.cells #[.bool false, .slice none 0 0] 65)) = we at *
              clear hgo' J3 hK4 HS4
              go_loopw [11] (fun u wr => ∃ (x : Nat) (xs : List Nat) (v : Value), u = .int .u64 x ∧ x ≤ 1000000000000000000 ∧ Hid (limbs g = xs ++ limbs x) ∧ Hid (Row wr (go + 1) v xs) ∧ Hid (Blk wr go 65 #[.bool false, v]) ∧ Hid (Below W.heap.size W wr) ∧ Hid (Blk wr (w.heap.size + 1 + 1) 65 #[.bool false, .slice none 0 0]) ∧ Hid (go + 1 ≤ wr.heap.size)) (fun u _ => (intOf u).toNat)
              case atStart => exact ⟨p, [], _, rfl, hpb, Lib.hid (by rw [HPG.out]; rfl), Lib.hid (Row.nil _ _), HBL, HKn, I3, HSS⟩
              case round =>
                obtain ⟨x, xs, v, rfl, hx, hL, hR, hJ1, hK, hJ2, hS⟩ := hrel
                obtain ⟨a, c, rfl⟩ := hR.out.len
                have hxs : xs.length ≤ 3 := Nat.le_trans (limbs_len_cut hL.out) HL3.out
                have y0 := hJ1.out.cell0
                have y1 := hJ1.out.cell1
                generalize hk : xs.length = k at y1 hxs hR hJ1
                have HKL := Lib.hid hk
                clear hk
                by_cases hx0 : x = 0
                · subst hx0
                  have y2 := hJ2.out.frozen 0
                  have y3 := hJ2.out.frozen 1
                  have y4 := hJ2.out.cell0
                  have y5 := hJ2.out.cell1
                  have z0 : (limbs 0) = [] := limbs_zero
                  go_wp2
                  have hl : xs = limbs g := by have := hL.out; simp [limbs_zero] at this; exact this.symm
                  have hj := hJ2.out.two (.bool false) (.slice a k c)
                  have d0 := hj.cell0
                  have d1 := hj.cell1
                  refine bodyPost_ret (v := .agg #[.bool false, .slice a k c]) (by simp [results, Tryz.results129, go_sem, d0, d1]) rfl ⟨_, rfl, ?_, below_two (hB.trans (hK.out.mono hB.size)) (by omega) _ _⟩
                  refine ⟨.slice a k c, by simp, ?_⟩
                  have hr := hR.out.lim
                  rw [hl] at hr
                  simp only [Int.natAbs_natCast]
                  exact (hr.far hJ2.out (by decide) _).far (hJ2.out.set_ 0 _) (by decide) _
                · have hown : wr.ownsRow (go + 1) 122 1 (.slice a k c) k (xs.map fun (x : Nat) => Value.int .u32 x) := by have h := hR.out; unfold Row at h; rwa [HKL.out] at h
                  have hne : some go ≠ (Value.slice a k c).ownBlock := hR.out.ne (by omega)
                  have hne0 : some (w.heap.size + 1 + 1) ≠ (Value.slice a k c).ownBlock := hR.out.ne (by omega)
                  have hx1 : (0 < (x : Int)) := by omega
                  have HNE := Lib.hid hne
                  have HNE0 := Lib.hid hne0
                  clear hne hne0
                  go_wp2_with (at_builtin; refine wpList_append_own _ rfl (.tmp 60) (.tmp 64) 63 rfl (go + 1) 122 i0 (.int .u32 0) 1 4 Tryz.underlying63 hi hz0 hz1 hz2 rfl (by decide) (.slice a k c) k _ rfl (hown.alloc _) ⟨wr.heap.size, 0, none⟩ 1 1 [.int .u32 ((x : Int) % 1000000000)] rfl rfl (cell_new_u32 _ _ _) (by intro u hu; simp at hu; subst hu; rfl) (by unfold maxLen; omega) (by omega) (by have := hS.out; simp; omega) ?_; intro v' w1 hown1 hgrow1 hnil1; have hr1 : Row w1 (go + 1) v' (xs ++ [x % 1000000000]) := Row.snoc (by rw [HKL.out]; exact hown1) (by omega); obtain ⟨a', c', rfl⟩ := hr1.len; have g1 := ((hJ1.out.alloc _).grown hgrow1 HNE.out).frozen 1; have g2 := ((hJ1.out.alloc _).grown hgrow1 HNE.out).cell1)
                  go_roundw
                  case rel => exact ⟨x / 1000000000, xs ++ [x % 1000000000], _, by go_num, by omega, Lib.hid (limbs_cut hL.out (by omega)), Lib.hid (hr1.far (hr1.ne (by omega))), Lib.hid (by simpa using ((hJ1.out.alloc _).grown hgrow1 HNE.out).set_ 1 (.slice a' (xs ++ [x % 1000000000]).length c')), Lib.hid (((hK.out.alloc (hK.out.size) _).grown hgrow1 (by have := hK.out.size; simp; omega) (fun q hq => by have := World.ownsRow.lt hR.out q hq; omega)).setCell (p := ⟨go, 1, none⟩) (by simp; omega) _), Lib.hid (((hJ2.out.alloc _).grown hgrow1 HNE0.out).far (p := ⟨go, 1, none⟩) (by simp; omega) _), Lib.hid (by have h1 := hgrow1.size; have h2 := hS.out; simp [World.setCell] at h1 ⊢; omega)⟩
                  case measure => simp [intOf]; omega

end Go.Proofs.YtmhneibcbjgedaaGreatDoor
