/- Tools for the walks of integers and numbers: blocks of four cells, new blocks, what goes on holding. -/
import Derived.Test.YtpmlmibceiolpaaGreatDoorDiv
set_option linter.unusedSimpArgs false
set_option linter.unusedVariables false
namespace Go.Proofs.YtpmlmibceiolpaaGreatDoor
open Go.RowKit

/-- A number of the package exact. -/
def Nm (w : World) (v : Value) (x : Rat) : Prop := ∃ a b c d, v = .agg #[a, b, c, d] ∧ Wh w (.agg #[a, b]) x.num ∧ Wh w (.agg #[c, d]) x.den

theorem Nm.below {w w' : World} {v : Value} {x : Rat} (h : Nm w v x) (hb : Below w.heap.size w w') : Nm w' v x := by
  obtain ⟨a, b, c, d, h1, h2, h3⟩ := h
  exact ⟨a, b, c, d, h1, h2.below hb, h3.below hb⟩
theorem Nm.drew {w : World} {v : Value} {x : Rat} (h : Nm w v x) : Nm w.drew v x := by
  obtain ⟨a, b, c, d, h1, h2, h3⟩ := h
  exact ⟨a, b, c, d, h1, h2.drew, h3.drew⟩
theorem Stab.nm (W : World) (x : Rat) : Stab W (fun v w => Nm w v x) := fun v w1 w2 _ h2 h => h.below h2
theorem Nm.mk {w : World} {a b c d : Value} {x : Rat} (h1 : Wh w (.agg #[a, b]) x.num) (h2 : Wh w (.agg #[c, d]) x.den) : Nm w (.agg #[a, b, c, d]) x := ⟨a, b, c, d, rfl, h1, h2⟩

theorem Nm.parts {w : World} {v : Value} {x : Rat} (h : Nm w v x) : ∃ b a, ∃ k p : Nat, ∃ c e, ∃ l q : Nat, v = .agg #[.bool b, .slice a k p, .bool c, .slice e l q] ∧ Wh w (.agg #[.bool b, .slice a k p]) x.num ∧ Wh w (.agg #[.bool c, .slice e l q]) x.den := by
  obtain ⟨v1, v2, v3, v4, rfl, h1, h2⟩ := h
  obtain ⟨b, a, k, p, e1⟩ := h1.parts
  obtain ⟨c, e, l, q, e2⟩ := h2.parts
  injection e1 with e1
  injection e2 with e2
  simp at e1 e2
  obtain ⟨rfl, rfl⟩ := e1
  obtain ⟨rfl, rfl⟩ := e2
  exact ⟨b, a, k, p, c, e, l, q, rfl, h1, h2⟩

/-- Blocks of four cells. -/
theorem Blk.four {w : World} {g : Nat} {t : TypeId} {u0 u1 u2 u3 : Value} (h : Blk w g t #[u0, u1, u2, u3]) (x y z u : Value) : Blk ((((w.setCell ⟨g, 0, none⟩ x).setCell ⟨g, 1, none⟩ y).setCell ⟨g, 2, none⟩ z).setCell ⟨g, 3, none⟩ u) g t #[x, y, z, u] := by
  simpa using (((h.set_ 0 x).set_ 1 y).set_ 2 z).set_ 3 u
theorem Blk.at4 {w : World} {g : Nat} {t : TypeId} {u0 u1 u2 u3 : Value} (h : Blk w g t #[u0, u1, u2, u3]) : w.cell? ⟨g, 0, none⟩ = some u0 ∧ w.cell? ⟨g, 1, none⟩ = some u1 ∧ w.cell? ⟨g, 2, none⟩ = some u2 ∧ w.cell? ⟨g, 3, none⟩ = some u3 :=
  ⟨by simpa using h.cell 0, by simpa using h.cell 1, by simpa using h.cell 2, by simpa using h.cell 3⟩
theorem Blk.fr4 {w : World} {g : Nat} {t : TypeId} {cs : Array Value} (h : Blk w g t cs) : w.frozen? ⟨g, 0, none⟩ = false ∧ w.frozen? ⟨g, 1, none⟩ = false ∧ w.frozen? ⟨g, 2, none⟩ = false ∧ w.frozen? ⟨g, 3, none⟩ = false :=
  ⟨h.frozen 0, h.frozen 1, h.frozen 2, h.frozen 3⟩
theorem below_four {B : Nat} {a w : World} {g : Nat} (h : Below B a w) (hg : B ≤ g) (x y z u : Value) : Below B a ((((w.setCell ⟨g, 0, none⟩ x).setCell ⟨g, 1, none⟩ y).setCell ⟨g, 2, none⟩ z).setCell ⟨g, 3, none⟩ u) :=
  (((h.setCell (p := ⟨g, 0, none⟩) hg x).setCell (p := ⟨g, 1, none⟩) hg y).setCell (p := ⟨g, 2, none⟩) hg z).setCell (p := ⟨g, 3, none⟩) hg u
theorem Wh.four {w : World} {v : Value} {n : Int} {g : Nat} {t : TypeId} {u0 u1 u2 u3 : Value} (h : Wh w v n) (hb : Blk w g t #[u0, u1, u2, u3]) (ht : t ≠ 143) (x y z u : Value) : Wh ((((w.setCell ⟨g, 0, none⟩ x).setCell ⟨g, 1, none⟩ y).setCell ⟨g, 2, none⟩ z).setCell ⟨g, 3, none⟩ u) v n := by
  obtain ⟨sv, hv, hl⟩ := h
  exact ⟨sv, hv, (((hl.far hb ht x).far (hb.set_ 0 x) ht y).far ((hb.set_ 0 x).set_ 1 y) ht z).far (((hb.set_ 0 x).set_ 1 y).set_ 2 z) ht u⟩
theorem Nm.four {w : World} {v : Value} {n : Rat} {g : Nat} {t : TypeId} {u0 u1 u2 u3 : Value} (h : Nm w v n) (hb : Blk w g t #[u0, u1, u2, u3]) (ht : t ≠ 143) (x y z u : Value) : Nm ((((w.setCell ⟨g, 0, none⟩ x).setCell ⟨g, 1, none⟩ y).setCell ⟨g, 2, none⟩ z).setCell ⟨g, 3, none⟩ u) v n := by
  obtain ⟨a, b, c, d, h1, h2, h3⟩ := h
  exact ⟨a, b, c, d, h1, h2.four hb ht x y z u, h3.four hb ht x y z u⟩
theorem Nm.two {w : World} {v : Value} {n : Rat} {g : Nat} {t : TypeId} {u0 u1 : Value} (h : Nm w v n) (hb : Blk w g t #[u0, u1]) (ht : t ≠ 143) (x y : Value) : Nm ((w.setCell ⟨g, 0, none⟩ x).setCell ⟨g, 1, none⟩ y) v n := by
  obtain ⟨a, b, c, d, h1, h2, h3⟩ := h
  exact ⟨a, b, c, d, h1, h2.two hb ht x y, h3.two hb ht x y⟩

/-- A new block of a number, as the zero number. -/
def NewNm (V : World) (v : Value) (w : World) : Prop := ∃ g, v = .pointer (some ⟨g, 0, none⟩) ∧ V.heap.size ≤ g ∧ Blk w g 88 #[.bool false, .slice none 0 0, .bool false, .slice none 0 0]
theorem NewNm.at {V : World} {v : Value} {w : World} (h : NewNm V v w) : ∃ g, v = .pointer (some ⟨g, 0, none⟩) ∧ g < w.heap.size := by
  obtain ⟨g, h1, h2, h3⟩ := h
  exact ⟨g, h1, h3.lt⟩
theorem Stab.newn (W V : World) : Stab W (NewNm V) := fun v w1 w2 _ h2 h => by
  obtain ⟨g, e1, e2, e3⟩ := h
  exact ⟨g, e1, e2, e3.next h2⟩

/-- What a function hands back that makes a number. -/
def RetN (w : World) (x : Rat) (e : Ending) (w' : World) : Prop := ∃ r, e = .returned r ∧ Nm w' r x ∧ Below w.heap.size w w'

/-- A number both of whose parts fit. -/
def FitN (x : Rat) : Prop := Fit x.num ∧ Fit (x.den : Int)

/-- Blocks at the beginning of a call: of any types. -/
theorem entA (w : World) (t : TypeId) (x : Array Value) : ∃ W, W = w.alloc (.cells x t) ∧ Below w.heap.size w W ∧ W.heap.size = w.heap.size + 1 ∧ Blk W w.heap.size t x :=
  ⟨_, rfl, (Below.refl _ _).alloc (Nat.le_refl _) _, by simp, Blk.new _ _ _⟩
theorem entB (w : World) (t s : TypeId) (x y : Array Value) : ∃ W, W = (w.alloc (.cells x t)).alloc (.cells y s) ∧ Below w.heap.size w W ∧ W.heap.size = w.heap.size + 2 ∧ Blk W w.heap.size t x ∧ Blk W (w.heap.size + 1) s y := by
  refine ⟨_, rfl, ((Below.refl _ _).alloc (Nat.le_refl _) _).alloc (by simp) _, by simp, (Blk.new _ _ _).alloc _, ?_⟩
  have := Blk.new (w.alloc (.cells x t)) s y; simpa using this
theorem entC (w : World) (t s r : TypeId) (x y z : Array Value) : ∃ W, W = ((w.alloc (.cells x t)).alloc (.cells y s)).alloc (.cells z r) ∧ Below w.heap.size w W ∧ W.heap.size = w.heap.size + 3 ∧ Blk W w.heap.size t x ∧ Blk W (w.heap.size + 1) s y ∧ Blk W (w.heap.size + 2) r z := by
  obtain ⟨V, hV, hB, hs, j1, j2⟩ := entB w t s x y
  refine ⟨V.alloc (.cells z r), by rw [hV], hB.alloc hB.size _, by simp [hs], j1.alloc _, j2.alloc _, ?_⟩
  have := Blk.new V r z
  rwa [hs] at this

end Go.Proofs.YtpmlmibceiolpaaGreatDoor

/- The contract of Whole.Gcd. -/
set_option linter.unusedSimpArgs false
set_option linter.unusedVariables false
namespace Go.Proofs.YtpmlmibceiolpaaGreatDoor
open Go.RowKit

theorem Wh.of_sg {w : World} {v : Value} {k : Nat} (h : Wh w v (sg false k)) : ∃ a cap, v = .agg #[.bool false, .slice a (limbs k).length cap] ∧ Lim w (.slice a (limbs k).length cap) (limbs k) := by
  have e : sg false k = (k : Int) := rfl
  obtain ⟨a, c, h1, h2⟩ := h.form
  rw [e] at h1 h2
  simp only [Int.natAbs_natCast] at h1 h2
  refine ⟨a, c, ?_, h2⟩
  rw [h1]; congr

theorem gcd_swap {x y r g : Nat} (h : Nat.gcd x y = g) (hr : r = x % y) : Nat.gcd y r = g := by
  rw [← h, hr, Nat.gcd_comm x y, Nat.gcd_rec y x, Nat.gcd_comm]

theorem gcd_zero {x y g : Nat} (h : Nat.gcd x y = g) (hy : (limbs y).length = 0) : x = g := by
  have := limbs_eq_nil.1 (List.length_eq_zero_iff.1 hy)
  subst this
  rw [← h, Nat.gcd_zero_right]

theorem pos_of_len {y : Nat} (h : 0 < (limbs y).length) : 0 < y := by
  rcases Nat.eq_zero_or_pos y with h0 | h0
  · subst h0; simp [limbs_zero] at h
  · exact h0

theorem small_of_len {y : Nat} (h : (limbs y).length ≤ 2) : y < 1000000000000000000 := by
  have h1 := limbs_lt_pow y
  have h2 : (1000000000 : Nat) ^ (limbs y).length ≤ 1000000000 ^ 2 := Nat.pow_le_pow_right (by omega) h
  omega

theorem u64_mod {p q : Nat} (hp : p < 18446744073709551616) : IntKind.u64.wrap ((p : Int).tmod (q : Int)) = ((p % q : Nat) : Int) := by
  have e : (p : Int).tmod (q : Int) = ((p % q : Nat) : Int) := by rw [Int.tmod_eq_emod_of_nonneg (by omega)]; simp
  rw [e]
  have h : p % q ≤ p := Nat.mod_le _ _
  exact IntWalk.u64_in _ (by omega)

theorem field_mag (x y : Value) (w : World) : (Instr.field 86 (.agg #[x, y]) 1).run Tryz.prog w = .ok y w := by kernel_rfl

set_option maxHeartbeats 1000000 in
set_option maxRecDepth 100000 in
theorem gcd_any {w : World} {v1 v2 : Value} {m n : Int} (h1 : Wh w v1 m) (h2 : Wh w v2 n) (s1 : Fit m) (s2 : Fit n) :
    Calls Tryz.prog 115 #[v1, v2] w (RetW w (Nat.gcd m.natAbs n.natAbs : Nat)) := by
  obtain ⟨i0, hi, hz0, hz1, hz2⟩ := info_parts info32
  obtain ⟨a1, p1, rfl, g1⟩ := h1.form
  obtain ⟨a2, p2, rfl, g2⟩ := h2.form
  unfold Fit at s1 s2
  clear h1 h2
  generalize decide (m < 0) = b at *
  generalize decide (n < 0) = c at *
  generalize m.natAbs = x at *
  generalize n.natAbs = y at *
  obtain ⟨g, hg⟩ : ∃ g, Nat.gcd x y = g := ⟨_, rfl⟩
  rw [hg]
  have HG := Lib.hid hg
  clear hg
  obtain ⟨W, hW, hB, hsz, j1, j2, j3⟩ := ent3 w 86 #[.bool b, .slice a1 (limbs x).length p1] #[.bool c, .slice a2 (limbs y).length p2] #[.bool false, .slice none 0 0]
  have HW := Lib.hid hW
  have HSZ := Lib.hid hsz
  clear hW hsz
  have m1 := Lib.hid (g1.below hB)
  have m2 := Lib.hid (g2.below hB)
  have S1 := Lib.hid s1
  have S2 := Lib.hid s2
  clear g1 g2 s1 s2
  have x1 := j1.cell1
  have y1 := j2.cell1
  go_enter Tryz.func115, Tryz.ntmps115
  go_upto_region 1 with fail
  rw [← HW.out]
  generalize hk1 : (limbs x).length = k1 at *
  generalize hk2 : (limbs y).length = k2 at *
  have HK1 := Lib.hid hk1
  have HK2 := Lib.hid hk2
  clear hk1 hk2
  have hB0 : Below W.heap.size W W.drew := (Below.refl _ _).drew
  refine wp_region_list 5 (by kernel_rfl) (by kernel_rfl) [] [fun v _ => v = .pointer (some ⟨w.heap.size, 1, none⟩), fun v _ => v = .slice a1 k1 p1, fun v _ => v = .pointer (some ⟨w.heap.size + 1, 1, none⟩), fun v _ => v = .slice a2 k2 p2, fun v _ => v = .slice a1 k1 p1] (by simp only [List.take_succ_cons, List.take_zero]; rfl) (by simp only [List.drop_succ_cons, List.drop_zero]; rfl) (fun vals => by simp only [fam, Act.put, List.setIfInBounds_toArray, List.set_cons_zero, List.set_cons_succ, if_true]; rfl) (by repeat' (first | exact Stab.eq _ _ | exact Stab.wh _ _ | exact Stab.nm _ _ | exact Stab.new _ _ | exact Stab.newn _ _ | exact trivial | apply And.intro)) trivial ?_ ?_
  · refine ⟨?_, ?_, ?_, ?_, ?_, trivial⟩
    all_goals
      intro vals w1 hB hp
      dsimp only
      (try simp [preOk, Region.binds] at hp)
      have hb := next_below hB0 hB
      have x0 := keepc hb j1.cell1 j1.lt
      have y0 := keepc hb j2.cell1 j2.lt
      clear hB
      go_wp2
      (first | exact ⟨rfl, _, rfl, rfl, Below.refl _ _, trivial⟩ | (refine ⟨rfl, _, ?_, rfl, Below.refl _ _, trivial⟩; simp only [Act.put, List.setIfInBounds_toArray, List.set_cons_zero, List.set_cons_succ, hp]))
  · rintro vals w1 hB ⟨p0, p1', p2', p3, p4, _⟩ hne
    have hb := next_below hB0 hB
    simp at p1' p3 p4
    generalize vals 1 = v1 at *
    generalize vals 3 = v3 at *
    generalize vals 4 = v4 at *
    subst p1' p3 p4
    clear hne p0 p2'
    go_wp2
    have q1 := Lib.hid (m1.out.below hb)
    have q2 := Lib.hid (m2.out.below hb)
    clear m1 m2 x1 y1
    have HBB := Lib.hid hb
    clear hb hB0 hB
    go_loopg [5, 6] y (fun gk ua ub wr => ∃ (x' : Nat) (aa ab : Option Addr) (ka kb pa pb : Nat), ua = .slice aa ka pa ∧ ub = .slice ab kb pb ∧ Hid ((limbs x').length = ka ∧ (limbs gk).length = kb ∧ ka ≤ 1073741824 ∧ kb ≤ 1073741824) ∧ Hid (Nat.gcd x' gk = g) ∧ Hid (Lim wr (.slice aa ka pa) (limbs x')) ∧ Hid (Lim wr (.slice ab kb pb) (limbs gk)) ∧ Hid (Below W.heap.size W wr))
    case atStart => exact ⟨x, a1, a2, k1, k2, p1, p2, rfl, rfl, Lib.hid ⟨HK1.out, HK2.out, S1.out, S2.out⟩, HG, q1, q2, HBB⟩
    case round =>
      obtain ⟨x', aa, ab, ka, kb, pa, pb, rfl, rfl, HK, HG', l1, l2, hK⟩ := hrel
      have lka := HK.out.2.2.1
      have lkb := HK.out.2.2.2
      by_cases h2 : 2 < kb
      · have hdv := divided_any l1.out l2.out (limbs_ok _) (limbs_ok _) (limbs_last _) (limbs_last _) (by rw [val_limbs]; exact pos_of_len (by rw [HK.out.2.1]; omega)) (by rw [HK.out.1]; exact lka)
        rw [val_limbs, val_limbs] at hdv
        have HDV := Lib.hid hdv
        have fm := field_mag
        clear hdv
        go_wp2_with (first
          | (go_at_call 138; refine HDV.out.mono ?_; rintro e V ⟨vq, vr, lq, lr, rfl, hq, hr, oq, or, eq, er', hV⟩; have er := Lib.hid er'; clear er' eq)
          | (go_at_call 114; refine (whole_any false hr or).mono ?_; rintro e V2 ⟨r2, rfl, hr2, hV2⟩; obtain ⟨a3, c3, rfl, hl3⟩ := hr2.of_sg))
        go_roundg (val lr)
        case rel => exact ⟨gk, ab, a3, kb, _, pb, c3, rfl, rfl, Lib.hid ⟨HK.out.2.1, rfl, lkb, by
            have h1 := limbs_len_mono (a := val lr) (b := gk) (by rw [er.out]; exact Nat.le_of_lt (Nat.mod_lt _ (pos_of_len (by rw [HK.out.2.1]; omega))))
            have := HK.out.2.1
            omega⟩, Lib.hid (gcd_swap HG'.out er.out), Lib.hid ((l2.out.below hV).below hV2), Lib.hid hl3, Lib.hid (next_below (next_below hK.out hV) hV2)⟩
        case measure => rw [er.out]; exact Nat.mod_lt _ (pos_of_len (by rw [HK.out.2.1]; omega))
      · have h2' : ((kb : Int) > 2) = False := by simp; omega
        by_cases h0 : kb = 0
        · subst h0
          have HX := Lib.hid (gcd_zero HG'.out HK.out.2.1)
          have i3 := j3.below hK.out j3.lt
          go_wp2_with (go_at_call 114; refine (whole_any false l1.out (limbs_ok _)).mono ?_; rintro e V ⟨r, rfl, hr, hV⟩; obtain ⟨b4, a4, k4, p4, rfl⟩ := hr.parts; have o3 := i3.below hV i3.lt; have e0 := o3.cell0; have e1 := o3.cell1; have e2 := o3.frozen 0; have e3 := o3.frozen 1)
          have hB4 := o3.two (.bool b4) (.slice a4 k4 p4)
          have d0 := hB4.cell0
          have d1 := hB4.cell1
          refine bodyPost_ret (v := .agg #[.bool b4, .slice a4 k4 p4]) (by simp [results, Tryz.results115, go_sem, d0, d1]) rfl ⟨_, rfl, ?_, ?_⟩
          · rw [← HX.out]
            have hr' := hr.two o3 (by decide) (.bool b4) (.slice a4 k4 p4)
            rw [val_limbs] at hr'
            exact hr'
          · exact below_two ((hB.trans (hK.out.mono hB.size)).trans (hV.mono (Nat.le_trans hB.size hK.out.size))) (by omega) _ _
        · have hpos : 0 < gk := pos_of_len (by rw [HK.out.2.1]; omega)
          have hsmall : gk < 1000000000000000000 := small_of_len (by rw [HK.out.2.1]; omega)
          have hdv := divided_any l1.out l2.out (limbs_ok _) (limbs_ok _) (limbs_last _) (limbs_last _) (by rw [val_limbs]; exact hpos) (by rw [HK.out.1]; exact lka)
          rw [val_limbs, val_limbs] at hdv
          have HDV := Lib.hid hdv
          have hval := fun (V : World) h => value_any (w := V) (l2.out.below h) (limbs_ok _) (by rw [HK.out.2.1]; omega)
          rw [val_limbs] at hval
          have HVAL := Lib.hid hval
          clear hdv hval
          have fm := field_mag
          go_wp2_with (first
            | (go_at_call 138; refine HDV.out.mono ?_; rintro e V ⟨vq, vr, lq, lr, rfl, hq, hr, oq, or, eq, er', hV⟩; have er := Lib.hid er'; clear er' eq)
            | (go_at_call_of 139 (Value.slice ab kb pb); refine (HVAL.out _ hV).mono ?_; rintro e V1 ⟨rfl, hV1⟩)
            | (go_at_call 114; refine (whole_any false (hr.below hV1) or).mono ?_; rintro e V2 ⟨r2, rfl, hr2, hV2⟩; obtain ⟨a3, c3, rfl, hl3⟩ := hr2.of_sg)
            | (go_at_call 139; refine (value_any hl3 (limbs_ok _) (by
                have h1 := limbs_len_mono (a := val lr) (b := gk) (by rw [er.out]; exact Nat.le_of_lt (Nat.mod_lt _ hpos))
                have := HK.out.2.1
                omega)).mono ?_; rw [val_limbs]; rintro e V3 ⟨rfl, hV3⟩))
          have hK3 := Lib.hid (next_below (next_below (next_below (next_below hK.out hV) hV1) hV2) hV3)
          have HG2 := Lib.hid (gcd_swap HG'.out er.out)
          have hlr : val lr < 1000000000000000000 := by rw [er.out]; have := Nat.mod_lt x' hpos; omega
          clear HG' HDV HVAL fm
          generalize val lr = q0 at *
          generalize hgb : gk = gb at *
          generalize hwb : wr = wb at *
          clear hgb hwb
          go_loopg [11, 12] q0 (fun gk2 u11 u12 wr2 => ∃ (p : Nat), u11 = .int .u64 p ∧ u12 = .int .u64 gk2 ∧ p < 1000000000000000000 ∧ gk2 < 1000000000000000000 ∧ Hid (0 < p) ∧ Hid (Nat.gcd p gk2 = g) ∧ Hid (Below W.heap.size W wr2))
          case atStart => exact ⟨gb, rfl, rfl, hsmall, hlr, Lib.hid hpos, HG2, hK3⟩
          case round =>
            obtain ⟨p, rfl, rfl, hp1, hq1, hp0, HG3, hK4⟩ := hrel
            by_cases hq0 : 0 < gk
            · have hq0' : ((gk : Int) ≠ 0) := by omega
              have hqn : (0 : Int) < gk := by omega
              go_wp2
              have hmod := u64_mod (p := p) (q := gk) (by omega)
              have hq0'' : gk ≠ 0 := by omega
              have hq0b : ((gk : Int) == 0) = false := by simpa using hq0''
              go_region_held3 (fun _ => True) (trivial) (fail)
              all_goals
                go_wp2_with fail
                go_roundg (p % gk)
                case rel => exact ⟨gk, rfl, by go_num, hq1, by have := Nat.mod_lt p hq0; omega, Lib.hid hq0, Lib.hid (gcd_swap HG3.out rfl), Lib.hid hK4.out.drew⟩
                case measure => exact Nat.mod_lt _ hq0
            · have hg : p = g := by
                have h0 : gk = 0 := by omega
                have := HG3.out
                rwa [h0, Nat.gcd_zero_right] at this
              have HPG := Lib.hid hg
              have hpp := hp0.out
              have i3 := j3.below hK4.out j3.lt
              clear hg
              have J3 := Lib.hid i3
              have HS4 := hK4.out.size
              have HSZ2 : w.heap.size + 3 ≤ W.heap.size := by have := HSZ.out; omega
              have hlen3 : (limbs g).length ≤ 3 := limbs_len_le (by rw [← HPG.out]; omega)
              have HL3 := Lib.hid hlen3
              clear hlen3
              generalize hwb : wr = wd at *
              clear hwb
              have hbl : Blk (wd.alloc (.cells #[.bool false, .slice none 0 0] 86)) wd.heap.size 86 #[.bool false, .slice none 0 0] := Blk.new _ _ _
              have HBL := Lib.hid hbl
              have hx0 := hbl.cell0
              have hx1 := hbl.cell1
              have hx2 := hbl.frozen 0
              have hx3 := hbl.frozen 1
              have hKn : Below W.heap.size W (wd.alloc (.cells #[.bool false, .slice none 0 0] 86)) := hK4.out.alloc hK4.out.size _
              have HKn := Lib.hid hKn
              clear hbl hKn
              go_wp2
              have i3' : Blk (wd.alloc (.cells #[.bool false, .slice none 0 0] 86)) (w.heap.size + 1 + 1) 86 #[.bool false, .slice none 0 0] := J3.out.alloc _
              have I3 := Lib.hid i3'
              clear i3' i3 hx0 hx1 hx2 hx3
              have hgo : W.heap.size ≤ wd.heap.size := HS4
              have HSS : Hid (wd.heap.size + 1 ≤ (wd.alloc (.cells #[.bool false, .slice none 0 0] 86)).heap.size) := Lib.hid (by simp)
              have hpb : p ≤ 1000000000000000000 := by omega
              generalize hgo' : wd.heap.size = go at *
              generalize (wd.alloc (.cells #[.bool false, .slice none 0 0] 86)) = we at *
              clear hgo' J3 hK4 HS4
              go_loopw [11] (fun u wr => ∃ (x : Nat) (xs : List Nat) (v : Value), u = .int .u64 x ∧ x ≤ 1000000000000000000 ∧ Hid (limbs g = xs ++ limbs x) ∧ Hid (Row wr (go + 1) v xs) ∧ Hid (Blk wr go 86 #[.bool false, v]) ∧ Hid (Below W.heap.size W wr) ∧ Hid (Blk wr (w.heap.size + 1 + 1) 86 #[.bool false, .slice none 0 0]) ∧ Hid (go + 1 ≤ wr.heap.size)) (fun u _ => (intOf u).toNat)
              case atStart => exact ⟨p, [], _, rfl, hpb, Lib.hid (by rw [HPG.out]; rfl), Lib.hid (Row.nil _ _), HBL, HKn, I3, HSS⟩
              case round =>
                obtain ⟨x, xs, v, rfl, hx, hL, hR, hJ1, hK, hJ2, hS⟩ := hrel
                obtain ⟨a, c, rfl⟩ := hR.out.len
                have hxs : xs.length ≤ 3 := Nat.le_trans (limbs_len_cut hL.out) HL3.out
                have y0 := hJ1.out.cell0
                have y1 := hJ1.out.cell1
                generalize hk : xs.length = k at y1 hxs hR hJ1
                have HKL := Lib.hid hk
                clear hk
                by_cases hx0 : x = 0
                · subst hx0
                  have y2 := hJ2.out.frozen 0
                  have y3 := hJ2.out.frozen 1
                  have y4 := hJ2.out.cell0
                  have y5 := hJ2.out.cell1
                  have z0 : (limbs 0) = [] := limbs_zero
                  go_wp2
                  have hl : xs = limbs g := by have := hL.out; simp [limbs_zero] at this; exact this.symm
                  have hj := hJ2.out.two (.bool false) (.slice a k c)
                  have d0 := hj.cell0
                  have d1 := hj.cell1
                  refine bodyPost_ret (v := .agg #[.bool false, .slice a k c]) (by simp [results, Tryz.results115, go_sem, d0, d1]) rfl ⟨_, rfl, ?_, below_two (hB.trans (hK.out.mono hB.size)) (by omega) _ _⟩
                  refine ⟨.slice a k c, by simp, ?_⟩
                  have hr := hR.out.lim
                  rw [hl] at hr
                  simp only [Int.natAbs_natCast]
                  exact (hr.far hJ2.out (by decide) _).far (hJ2.out.set_ 0 _) (by decide) _
                · have hown : wr.ownsRow (go + 1) 143 1 (.slice a k c) k (xs.map fun (x : Nat) => Value.int .u32 x) := by have h := hR.out; unfold Row at h; rwa [HKL.out] at h
                  have hne : some go ≠ (Value.slice a k c).ownBlock := hR.out.ne (by omega)
                  have hne0 : some (w.heap.size + 1 + 1) ≠ (Value.slice a k c).ownBlock := hR.out.ne (by omega)
                  have hx1 : (0 < (x : Int)) := by omega
                  have HNE := Lib.hid hne
                  have HNE0 := Lib.hid hne0
                  clear hne hne0
                  go_wp2_with (at_builtin; refine wpList_append_own _ rfl (.tmp 60) (.tmp 64) 84 rfl (go + 1) 143 i0 (.int .u32 0) 1 4 Tryz.underlying84 hi hz0 hz1 hz2 rfl (by decide) (.slice a k c) k _ rfl (hown.alloc _) ⟨wr.heap.size, 0, none⟩ 1 1 [.int .u32 ((x : Int) % 1000000000)] rfl rfl (cell_new_u32 _ _ _) (by intro u hu; simp at hu; subst hu; rfl) (by unfold maxLen; omega) (by omega) (by have := hS.out; simp; omega) ?_; intro v' w1 hown1 hgrow1 hnil1; have hr1 : Row w1 (go + 1) v' (xs ++ [x % 1000000000]) := Row.snoc (by rw [HKL.out]; exact hown1) (by omega); obtain ⟨a', c', rfl⟩ := hr1.len; have g1 := ((hJ1.out.alloc _).grown hgrow1 HNE.out).frozen 1; have g2 := ((hJ1.out.alloc _).grown hgrow1 HNE.out).cell1)
                  go_roundw
                  case rel => exact ⟨x / 1000000000, xs ++ [x % 1000000000], _, by go_num, by omega, Lib.hid (limbs_cut hL.out (by omega)), Lib.hid (hr1.far (hr1.ne (by omega))), Lib.hid (by simpa using ((hJ1.out.alloc _).grown hgrow1 HNE.out).set_ 1 (.slice a' (xs ++ [x % 1000000000]).length c')), Lib.hid (((hK.out.alloc (hK.out.size) _).grown hgrow1 (by have := hK.out.size; simp; omega) (fun q hq => by have := World.ownsRow.lt hR.out q hq; omega)).setCell (p := ⟨go, 1, none⟩) (by simp; omega) _), Lib.hid (((hJ2.out.alloc _).grown hgrow1 HNE0.out).far (p := ⟨go, 1, none⟩) (by simp; omega) _), Lib.hid (by have h1 := hgrow1.size; have h2 := hS.out; simp [World.setCell] at h1 ⊢; omega)⟩
                  case measure => simp [intOf]; omega

end Go.Proofs.YtpmlmibceiolpaaGreatDoor

/- The contract of exact.Make: a fraction in lowest terms. -/
set_option linter.unusedSimpArgs false
set_option linter.unusedVariables false
namespace Go.Proofs.YtpmlmibceiolpaaGreatDoor
open Go.RowKit

/-- What a condition of Make asks: is the divisor not 1? -/
theorem red_one {m n : Int} (hn : n ≠ 0) : 0 < (limbs (red m n).natAbs).length := by
  apply limbs_length_pos
  have := red_ne (n := m) hn
  omega
theorem red_len1 {r : Int} (h0 : r ≠ 0) (h1 : (limbs r.natAbs).length ≤ 1) (hr : ¬ r < 0) : r = ((limbs r.natAbs).getD 0 0 : Nat) ∧ limbs r.natAbs = [(limbs r.natAbs).getD 0 0] := by
  have h2 : 0 < (limbs r.natAbs).length := limbs_length_pos (by omega)
  match hl : limbs r.natAbs, h1, h2 with
  | [x], _, _ =>
    have h3 := val_limbs r.natAbs
    rw [hl] at h3
    simp [val] at h3
    refine ⟨?_, by simp⟩
    simp
    omega

theorem red_fit {m n : Int} (hn : n ≠ 0) (h : Fit n) : Fit (red m n) := by
  refine h.le ?_
  unfold red
  rw [sg_natAbs]
  exact Nat.gcd_le_right _ (by omega)

theorem Lim.at_one {w : World} {a : Option Addr} {k c x : Nat} (h : Lim w (.slice a k c) [x]) : ∃ b o, a = some ⟨b, o, none⟩ ∧ w.cell? ⟨b, o, none⟩ = some (.int .u32 x) := by
  obtain ⟨a', c', e, h1, h2, h3⟩ := h
  injection e with e1 _ _
  subst e1
  rcases h3 with h3 | ⟨b, o, ha, hc⟩
  · cases h3
  · have := hc.2 0 (by simp)
    rw [Nat.add_zero] at this
    exact ⟨b, o, ha, by simpa using this⟩

set_option maxHeartbeats 1000000 in
set_option maxRecDepth 100000 in
theorem make_any {w : World} {v1 v2 : Value} {m n : Int} (h1 : Wh w v1 m) (h2 : Wh w v2 n) (s1 : Fit m) (s2 : Fit n) (hn : n ≠ 0) :
    Calls Tryz.prog 77 #[v1, v2] w (RetN w (Rat.divInt m n)) := by
  obtain ⟨b, a1, k1, p1, rfl⟩ := h1.parts
  obtain ⟨a2, p2, e2, g2⟩ := h2.form
  subst e2
  generalize hk2 : (limbs n.natAbs).length = k2 at *
  clear hk2 g2
  obtain ⟨W, hW, hB, hsz, j1, j2, j3⟩ := entC w 86 86 88 #[.bool b, .slice a1 k1 p1] #[.bool (decide (n < 0)), .slice a2 k2 p2] #[.bool false, .slice none 0 0, .bool false, .slice none 0 0]
  have HW := Lib.hid hW
  have HSZ := Lib.hid hsz
  have HN := Lib.hid hn
  clear hW hsz hn
  have m1 := h1.below hB
  have m2 := h2.below hB
  have x0 := j1.cell0
  have x1 := j1.cell1
  have y0 := j2.cell0
  have y1 := j2.cell1
  clear h1 h2
  have hred : ∀ c, decide (n < 0) = c → (if c then -((Nat.gcd m.natAbs n.natAbs : Nat) : Int) else ((Nat.gcd m.natAbs n.natAbs : Nat) : Int)) = red m n := fun c hc => by unfold red; rw [hc]; cases c <;> simp [sg]
  have HRED := Lib.hid hred
  clear hred
  generalize hc : decide (n < 0) = c at *
  have HC := Lib.hid hc
  clear hc
  go_enter Tryz.func77, Tryz.ntmps77
  go_upto_region 1 with fail
  rw [← HW.out]
  go_upto_if 10 with (go_at_call 115; refine (gcd_any m1 m2 s1 s2).mono ?_; rintro e V ⟨r, rfl, hr, hV⟩; obtain ⟨b3, a3, k3, p3, rfl⟩ := hr.parts; have i1 := j1.next hV; have i2 := j2.next hV; have y0' := (i2.alloc (.cells #[.bool b3, .slice a3 k3 p3] 86)).cell0; have N0 := Blk.new V 86 #[.bool b3, .slice a3 k3 p3]; have n0 := N0.cell0; have n1 := N0.cell1; have n2 := N0.frozen 0; have n3 := N0.frozen 1)
  clear x0 x1 y0 y1
  have HVB := Lib.hid (hB.trans (hV.mono hB.size))
  have hWV := hV.size
  have HRV := Lib.hid (hr.more (.cells #[.bool b3, .slice a3 k3 p3] 86))
  have hVn : Below V.heap.size V (V.alloc (.cells #[.bool b3, .slice a3 k3 p3] 86)) := (Below.refl _ _).alloc (Nat.le_refl _) _
  have HVn := Lib.hid hVn
  clear hVn hr
  generalize (V.alloc (.cells #[.bool b3, .slice a3 k3 p3] 86)) = V1 at *
  go_cut [] (fun wc => ∃ (b5 : Bool) (a5 : Option Addr) (k5 p5 : Nat), Hid (Blk wc V.heap.size 86 #[.bool b5, .slice a5 k5 p5]) ∧ Hid (Wh wc (.agg #[.bool b5, .slice a5 k5 p5]) (red m n)) ∧ Hid (Below V.heap.size V wc))
  case first =>
    cases c
    · have := HRED.out false rfl
      simp at this
      have HR2 := Lib.hid this
      clear this
      go_wp2
      go_meet
      exact ⟨b3, a3, k3, p3, Lib.hid N0, Lib.hid (by rw [← HR2.out]; exact HRV.out), HVn⟩
    · have := HRED.out true rfl
      simp at this
      have HR2 := Lib.hid this
      clear this
      go_wp2_with (go_at_call 116; refine (neg_any HRV.out).mono ?_; rintro e V2 ⟨r4, rfl, hr4, hV4⟩; obtain ⟨b6, a6, k6, p6, rfl⟩ := hr4.parts; have N4 := N0.next hV4; have o0 := N4.cell0; have o1 := N4.cell1; have o2 := N4.frozen 0; have o3 := N4.frozen 1)
      go_meet
      exact ⟨b6, a6, k6, p6, Lib.hid (N4.two _ _), Lib.hid (by rw [← HR2.out]; exact hr4.two N4 (by decide) _ _), Lib.hid (below_two (HVn.out.trans (hV4.mono HVn.out.size)) (Nat.le_refl _) _ _)⟩
  case rest =>
    obtain ⟨b5, a5, k5, p5, hN, hR, hK⟩ := hcut
    have i1' := i1.next hK.out
    have i2' := i2.next hK.out
    have i3' : Blk wc (w.heap.size + 1 + 1) 88 #[.bool false, .slice none 0 0, .bool false, .slice none 0 0] := (j3.next hV).next hK.out
    have hne := red_ne (n := m) HN.out
    have hfit := red_fit (m := m) HN.out s2
    have hKV := HVB.out.trans (hK.out.mono (by have := hWV; have := HSZ.out; omega : w.heap.size ≤ V.heap.size))
    have hsz' : w.heap.size + 3 ≤ V.heap.size := by have := HSZ.out; omega
    have M1 := Lib.hid ((m1.below hV).below hK.out)
    have M2 := Lib.hid ((m2.below hV).below hK.out)
    obtain ⟨a6, p6, e6, hlim⟩ := hR.out.form
    injection e6 with e6
    simp at e6
    obtain ⟨rfl, rfl, rfl, rfl⟩ := e6
    have HNE := Lib.hid hne
    have HFIT := Lib.hid hfit
    have HKV := Lib.hid hKV
    clear hne hfit hKV HRED y0' n0 n1 n2 n3 i1 i2 m1 m2
    have n0 := hN.out.cell0
    have n1 := hN.out.cell1
    by_cases hone : red m n = 1
    · have hm0 := make_one (n := m) HN.out hone
      have HM := Lib.hid hm0
      clear hm0
      have el : (limbs (red m n).natAbs) = [1] := by rw [hone]; rfl
      rw [el] at n1 hlim
      have ed : decide (red m n < 0) = false := by rw [hone]; rfl
      rw [ed] at n0
      obtain ⟨bl, ol, rfl, q0⟩ := hlim.at_one
      have z0 := i1'.cell0
      have z1 := i1'.cell1
      have z2 := i2'.cell0
      have z3 := i2'.cell1
      have z4 := i3'.at4
      have z5 := i3'.fr4
      clear hlim el ed hone
      go_wp2
      have f4 := i3'.four (.bool b) (.slice a1 k1 p1) (.bool c) (.slice a2 k2 p2)
      obtain ⟨d0, d1, d2, d3⟩ := f4.at4
      refine bodyPost_ret (v := .agg #[.bool b, .slice a1 k1 p1, .bool c, .slice a2 k2 p2]) (by simp [results, Tryz.results77, go_sem, d0, d1, d2, d3]) rfl ⟨_, rfl, Nm.mk ?_ ?_, below_four HKV.out (by omega) _ _ _ _⟩
      · rw [← HM.out.1]; exact M1.out.four i3' (by decide) _ _ _ _
      · rw [← HM.out.2]; exact M2.out.four i3' (by decide) _ _ _ _
    · have hne1 : ¬ (red m n < 0) → (limbs (red m n).natAbs).length ≤ 1 → (limbs (red m n).natAbs).getD 0 0 ≠ 1 := fun h1 h2 h3 => hone (by rw [(red_len1 HNE.out h2 h1).1, h3]; rfl)
      have hlp : 0 < (limbs (red m n).natAbs).length := red_one HN.out
      have HDN := Lib.hid (make_num (n := m) HN.out)
      have HDD := Lib.hid (make_den (n := m) HN.out)
      clear hone
      have z0 := i1'.cell0
      have z1 := i1'.cell1
      have z2 := i2'.cell0
      have z3 := i2'.cell1
      have z4 := i3'.at4
      have z5 := i3'.fr4
      have hcell : ∀ x, (limbs (red m n).natAbs) = [x] → ∃ bl ol, a5 = some ⟨bl, ol, none⟩ ∧ wc.cell? ⟨bl, ol, none⟩ = some (.int .u32 x) := fun x hx => by
        rw [hx] at hlim; exact hlim.at_one
      have hone1 := fun h1 h2 => (red_len1 HNE.out h1 h2).2
      have HCELL := Lib.hid (And.intro hcell hone1)
      clear hcell hone1 hlim
      generalize hkr : (limbs (red m n).natAbs).length = kr at *
      have HKR := Lib.hid hkr
      clear hkr
      rcases (show 1 < kr ∨ (kr = 1 ∧ (red m n) < 0) ∨ (kr = 1 ∧ ¬ (red m n < 0)) by omega) with h | ⟨h, h'⟩ | ⟨h, h'⟩
      · have HH : 1 < (kr : Int) := by omega
        generalize decide (red m n < 0) = sr at *
        go_upto_region 5 with fail
        clear HCELL
        go_upto_region 6 with (go_at_call 117; refine (div_any M1.out hR.out s1 HFIT.out HNE.out).mono ?_; rintro e Vd ⟨q, r, rfl, hq, hr, hVd⟩; obtain ⟨bq, aq, kq, pq, rfl⟩ := hq.parts; obtain ⟨bz, az, kz, pz, rfl⟩ := hr.parts; have i1d := i1'.next hVd; have d0 := i1d.cell0; have d1 := i1d.cell1; have d2 := i1d.frozen 0; have d3 := i1d.frozen 1)
        have i2d := (i2'.next hVd)
        have i3d := (i3'.next hVd)
        have iNd := (hN.out.next hVd)
        have e1 := Lib.hid (i1d.two (.bool bq) (.slice aq kq pq))
        have e2 : Blk ((Vd.setCell ⟨w.heap.size, 0, none⟩ (.bool bq)).setCell ⟨w.heap.size, 1, none⟩ (.slice aq kq pq)) (w.heap.size + 1) 86 #[.bool c, .slice a2 k2 p2] := (i2d.away (by omega) _).away (by omega) _
        have e3 : Blk ((Vd.setCell ⟨w.heap.size, 0, none⟩ (.bool bq)).setCell ⟨w.heap.size, 1, none⟩ (.slice aq kq pq)) (w.heap.size + 1 + 1) 88 #[.bool false, .slice none 0 0, .bool false, .slice none 0 0] := (i3d.away (by omega) _).away (by omega) _
        have e4 := (iNd.away (h := w.heap.size) (i := 0) (by omega) (.bool bq)).away (h := w.heap.size) (i := 1) (by omega) (.slice aq kq pq)
        have f1 := Lib.hid (hq.two i1d (by decide) (.bool bq) (.slice aq kq pq))
        have f2 := Lib.hid ((M2.out.below hVd).two i1d (by decide) (.bool bq) (.slice aq kq pq))
        have f3 := Lib.hid ((hR.out.below hVd).two i1d (by decide) (.bool bq) (.slice aq kq pq))
        have f4 := Lib.hid (below_two (g := w.heap.size) (HKV.out.trans (hVd.mono (HKV.out.size))) (Nat.le_refl _) (.bool bq) (.slice aq kq pq))
        clear hq hr d0 d1 d2 d3 z0 z1 z2 z3 z4 z5 n0 n1 i1d i2d i3d iNd
        generalize ((Vd.setCell ⟨w.heap.size, 0, none⟩ (.bool bq)).setCell ⟨w.heap.size, 1, none⟩ (.slice aq kq pq)) = We at *
        have z2 := e2.cell0
        have z3 := e2.cell1
        have n0 := e4.cell0
        have n1 := e4.cell1
        go_upto_region 7 with (go_at_call 117; refine (div_any f2.out f3.out s2 HFIT.out HNE.out).mono ?_; rintro e Vf ⟨q2, r2, rfl, hq2, hr2, hVf⟩; obtain ⟨bq2, aq2, kq2, pq2, rfl⟩ := hq2.parts; obtain ⟨bz2, az2, kz2, pz2, rfl⟩ := hr2.parts; have i2f := e2.next hVf; have d0 := i2f.cell0; have d1 := i2f.cell1; have d2 := i2f.frozen 0; have d3 := i2f.frozen 1)
        have g2 := i2f.two (.bool bq2) (.slice aq2 kq2 pq2)
        have g1 : Blk ((Vf.setCell ⟨w.heap.size + 1, 0, none⟩ (.bool bq2)).setCell ⟨w.heap.size + 1, 1, none⟩ (.slice aq2 kq2 pq2)) w.heap.size 86 #[.bool bq, .slice aq kq pq] := ((e1.out.next hVf).away (by omega) _).away (by omega) _
        have g3 : Blk ((Vf.setCell ⟨w.heap.size + 1, 0, none⟩ (.bool bq2)).setCell ⟨w.heap.size + 1, 1, none⟩ (.slice aq2 kq2 pq2)) (w.heap.size + 1 + 1) 88 #[.bool false, .slice none 0 0, .bool false, .slice none 0 0] := ((e3.next hVf).away (by omega) _).away (by omega) _
        have h1 := Lib.hid ((f1.out.below hVf).two i2f (by decide) (.bool bq2) (.slice aq2 kq2 pq2))
        have h2 := Lib.hid (hq2.two i2f (by decide) (.bool bq2) (.slice aq2 kq2 pq2))
        have h4 := Lib.hid (below_two (g := w.heap.size + 1) (f4.out.trans (hVf.mono (f4.out.size))) (by omega) (.bool bq2) (.slice aq2 kq2 pq2))
        clear hq2 hr2 d0 d1 d2 d3 z2 z3 n0 n1 i2f
        generalize ((Vf.setCell ⟨w.heap.size + 1, 0, none⟩ (.bool bq2)).setCell ⟨w.heap.size + 1, 1, none⟩ (.slice aq2 kq2 pq2)) = Wg at *
        have z0 := g1.cell0
        have z1 := g1.cell1
        have z2 := g2.cell0
        have z3 := g2.cell1
        have z4 := g3.at4
        have z5 := g3.fr4
        go_wp2
        have ff := g3.four (.bool bq) (.slice aq kq pq) (.bool bq2) (.slice aq2 kq2 pq2)
        obtain ⟨d0, d1, d2, d3⟩ := ff.at4
        refine bodyPost_ret (v := .agg #[.bool bq, .slice aq kq pq, .bool bq2, .slice aq2 kq2 pq2]) (by simp [results, Tryz.results77, go_sem, d0, d1, d2, d3]) rfl ⟨_, rfl, Nm.mk ?_ ?_, below_four h4.out (by omega) _ _ _ _⟩
        · rw [← HDN.out]; exact h1.out.four g3 (by decide) _ _ _ _
        · rw [← HDD.out]; exact h2.out.four g3 (by decide) _ _ _ _
      · subst h
        have ed : decide (red m n < 0) = true := by simpa using h'
        clear h'
        generalize decide (red m n < 0) = sr at *
        subst ed
        go_upto_region 5 with fail
        clear HCELL
        go_upto_region 6 with (go_at_call 117; refine (div_any M1.out hR.out s1 HFIT.out HNE.out).mono ?_; rintro e Vd ⟨q, r, rfl, hq, hr, hVd⟩; obtain ⟨bq, aq, kq, pq, rfl⟩ := hq.parts; obtain ⟨bz, az, kz, pz, rfl⟩ := hr.parts; have i1d := i1'.next hVd; have d0 := i1d.cell0; have d1 := i1d.cell1; have d2 := i1d.frozen 0; have d3 := i1d.frozen 1)
        have i2d := (i2'.next hVd)
        have i3d := (i3'.next hVd)
        have iNd := (hN.out.next hVd)
        have e1 := Lib.hid (i1d.two (.bool bq) (.slice aq kq pq))
        have e2 : Blk ((Vd.setCell ⟨w.heap.size, 0, none⟩ (.bool bq)).setCell ⟨w.heap.size, 1, none⟩ (.slice aq kq pq)) (w.heap.size + 1) 86 #[.bool c, .slice a2 k2 p2] := (i2d.away (by omega) _).away (by omega) _
        have e3 : Blk ((Vd.setCell ⟨w.heap.size, 0, none⟩ (.bool bq)).setCell ⟨w.heap.size, 1, none⟩ (.slice aq kq pq)) (w.heap.size + 1 + 1) 88 #[.bool false, .slice none 0 0, .bool false, .slice none 0 0] := (i3d.away (by omega) _).away (by omega) _
        have e4 := (iNd.away (h := w.heap.size) (i := 0) (by omega) (.bool bq)).away (h := w.heap.size) (i := 1) (by omega) (.slice aq kq pq)
        have f1 := Lib.hid (hq.two i1d (by decide) (.bool bq) (.slice aq kq pq))
        have f2 := Lib.hid ((M2.out.below hVd).two i1d (by decide) (.bool bq) (.slice aq kq pq))
        have f3 := Lib.hid ((hR.out.below hVd).two i1d (by decide) (.bool bq) (.slice aq kq pq))
        have f4 := Lib.hid (below_two (g := w.heap.size) (HKV.out.trans (hVd.mono (HKV.out.size))) (Nat.le_refl _) (.bool bq) (.slice aq kq pq))
        clear hq hr d0 d1 d2 d3 z0 z1 z2 z3 z4 z5 n0 n1 i1d i2d i3d iNd
        generalize ((Vd.setCell ⟨w.heap.size, 0, none⟩ (.bool bq)).setCell ⟨w.heap.size, 1, none⟩ (.slice aq kq pq)) = We at *
        have z2 := e2.cell0
        have z3 := e2.cell1
        have n0 := e4.cell0
        have n1 := e4.cell1
        go_upto_region 7 with (go_at_call 117; refine (div_any f2.out f3.out s2 HFIT.out HNE.out).mono ?_; rintro e Vf ⟨q2, r2, rfl, hq2, hr2, hVf⟩; obtain ⟨bq2, aq2, kq2, pq2, rfl⟩ := hq2.parts; obtain ⟨bz2, az2, kz2, pz2, rfl⟩ := hr2.parts; have i2f := e2.next hVf; have d0 := i2f.cell0; have d1 := i2f.cell1; have d2 := i2f.frozen 0; have d3 := i2f.frozen 1)
        have g2 := i2f.two (.bool bq2) (.slice aq2 kq2 pq2)
        have g1 : Blk ((Vf.setCell ⟨w.heap.size + 1, 0, none⟩ (.bool bq2)).setCell ⟨w.heap.size + 1, 1, none⟩ (.slice aq2 kq2 pq2)) w.heap.size 86 #[.bool bq, .slice aq kq pq] := ((e1.out.next hVf).away (by omega) _).away (by omega) _
        have g3 : Blk ((Vf.setCell ⟨w.heap.size + 1, 0, none⟩ (.bool bq2)).setCell ⟨w.heap.size + 1, 1, none⟩ (.slice aq2 kq2 pq2)) (w.heap.size + 1 + 1) 88 #[.bool false, .slice none 0 0, .bool false, .slice none 0 0] := ((e3.next hVf).away (by omega) _).away (by omega) _
        have h1 := Lib.hid ((f1.out.below hVf).two i2f (by decide) (.bool bq2) (.slice aq2 kq2 pq2))
        have h2 := Lib.hid (hq2.two i2f (by decide) (.bool bq2) (.slice aq2 kq2 pq2))
        have h4 := Lib.hid (below_two (g := w.heap.size + 1) (f4.out.trans (hVf.mono (f4.out.size))) (by omega) (.bool bq2) (.slice aq2 kq2 pq2))
        clear hq2 hr2 d0 d1 d2 d3 z2 z3 n0 n1 i2f
        generalize ((Vf.setCell ⟨w.heap.size + 1, 0, none⟩ (.bool bq2)).setCell ⟨w.heap.size + 1, 1, none⟩ (.slice aq2 kq2 pq2)) = Wg at *
        have z0 := g1.cell0
        have z1 := g1.cell1
        have z2 := g2.cell0
        have z3 := g2.cell1
        have z4 := g3.at4
        have z5 := g3.fr4
        go_wp2
        have ff := g3.four (.bool bq) (.slice aq kq pq) (.bool bq2) (.slice aq2 kq2 pq2)
        obtain ⟨d0, d1, d2, d3⟩ := ff.at4
        refine bodyPost_ret (v := .agg #[.bool bq, .slice aq kq pq, .bool bq2, .slice aq2 kq2 pq2]) (by simp [results, Tryz.results77, go_sem, d0, d1, d2, d3]) rfl ⟨_, rfl, Nm.mk ?_ ?_, below_four h4.out (by omega) _ _ _ _⟩
        · rw [← HDN.out]; exact h1.out.four g3 (by decide) _ _ _ _
        · rw [← HDD.out]; exact h2.out.four g3 (by decide) _ _ _ _
      · subst h
        have ed : decide (red m n < 0) = false := by simpa using h'
        have hx1 := hne1 h' (Nat.le_refl _)
        obtain ⟨bl, ol, rfl, hx⟩ := HCELL.out.1 _ (HCELL.out.2 (Nat.le_refl _) h')
        clear h'
        generalize decide (red m n < 0) = sr at *
        subst ed
        generalize (limbs (red m n).natAbs).getD 0 0 = x at *
        have hx2 : ((x : Int) != 1) = true := by simp; omega
        clear hne1
        go_upto_region 5 with fail
        clear HCELL
        go_upto_region 6 with (go_at_call 117; refine (div_any M1.out hR.out s1 HFIT.out HNE.out).mono ?_; rintro e Vd ⟨q, r, rfl, hq, hr, hVd⟩; obtain ⟨bq, aq, kq, pq, rfl⟩ := hq.parts; obtain ⟨bz, az, kz, pz, rfl⟩ := hr.parts; have i1d := i1'.next hVd; have d0 := i1d.cell0; have d1 := i1d.cell1; have d2 := i1d.frozen 0; have d3 := i1d.frozen 1)
        have i2d := (i2'.next hVd)
        have i3d := (i3'.next hVd)
        have iNd := (hN.out.next hVd)
        have e1 := Lib.hid (i1d.two (.bool bq) (.slice aq kq pq))
        have e2 : Blk ((Vd.setCell ⟨w.heap.size, 0, none⟩ (.bool bq)).setCell ⟨w.heap.size, 1, none⟩ (.slice aq kq pq)) (w.heap.size + 1) 86 #[.bool c, .slice a2 k2 p2] := (i2d.away (by omega) _).away (by omega) _
        have e3 : Blk ((Vd.setCell ⟨w.heap.size, 0, none⟩ (.bool bq)).setCell ⟨w.heap.size, 1, none⟩ (.slice aq kq pq)) (w.heap.size + 1 + 1) 88 #[.bool false, .slice none 0 0, .bool false, .slice none 0 0] := (i3d.away (by omega) _).away (by omega) _
        have e4 := (iNd.away (h := w.heap.size) (i := 0) (by omega) (.bool bq)).away (h := w.heap.size) (i := 1) (by omega) (.slice aq kq pq)
        have f1 := Lib.hid (hq.two i1d (by decide) (.bool bq) (.slice aq kq pq))
        have f2 := Lib.hid ((M2.out.below hVd).two i1d (by decide) (.bool bq) (.slice aq kq pq))
        have f3 := Lib.hid ((hR.out.below hVd).two i1d (by decide) (.bool bq) (.slice aq kq pq))
        have f4 := Lib.hid (below_two (g := w.heap.size) (HKV.out.trans (hVd.mono (HKV.out.size))) (Nat.le_refl _) (.bool bq) (.slice aq kq pq))
        clear hq hr d0 d1 d2 d3 z0 z1 z2 z3 z4 z5 n0 n1 i1d i2d i3d iNd
        generalize ((Vd.setCell ⟨w.heap.size, 0, none⟩ (.bool bq)).setCell ⟨w.heap.size, 1, none⟩ (.slice aq kq pq)) = We at *
        have z2 := e2.cell0
        have z3 := e2.cell1
        have n0 := e4.cell0
        have n1 := e4.cell1
        go_upto_region 7 with (go_at_call 117; refine (div_any f2.out f3.out s2 HFIT.out HNE.out).mono ?_; rintro e Vf ⟨q2, r2, rfl, hq2, hr2, hVf⟩; obtain ⟨bq2, aq2, kq2, pq2, rfl⟩ := hq2.parts; obtain ⟨bz2, az2, kz2, pz2, rfl⟩ := hr2.parts; have i2f := e2.next hVf; have d0 := i2f.cell0; have d1 := i2f.cell1; have d2 := i2f.frozen 0; have d3 := i2f.frozen 1)
        have g2 := i2f.two (.bool bq2) (.slice aq2 kq2 pq2)
        have g1 : Blk ((Vf.setCell ⟨w.heap.size + 1, 0, none⟩ (.bool bq2)).setCell ⟨w.heap.size + 1, 1, none⟩ (.slice aq2 kq2 pq2)) w.heap.size 86 #[.bool bq, .slice aq kq pq] := ((e1.out.next hVf).away (by omega) _).away (by omega) _
        have g3 : Blk ((Vf.setCell ⟨w.heap.size + 1, 0, none⟩ (.bool bq2)).setCell ⟨w.heap.size + 1, 1, none⟩ (.slice aq2 kq2 pq2)) (w.heap.size + 1 + 1) 88 #[.bool false, .slice none 0 0, .bool false, .slice none 0 0] := ((e3.next hVf).away (by omega) _).away (by omega) _
        have h1 := Lib.hid ((f1.out.below hVf).two i2f (by decide) (.bool bq2) (.slice aq2 kq2 pq2))
        have h2 := Lib.hid (hq2.two i2f (by decide) (.bool bq2) (.slice aq2 kq2 pq2))
        have h4 := Lib.hid (below_two (g := w.heap.size + 1) (f4.out.trans (hVf.mono (f4.out.size))) (by omega) (.bool bq2) (.slice aq2 kq2 pq2))
        clear hq2 hr2 d0 d1 d2 d3 z2 z3 n0 n1 i2f
        generalize ((Vf.setCell ⟨w.heap.size + 1, 0, none⟩ (.bool bq2)).setCell ⟨w.heap.size + 1, 1, none⟩ (.slice aq2 kq2 pq2)) = Wg at *
        have z0 := g1.cell0
        have z1 := g1.cell1
        have z2 := g2.cell0
        have z3 := g2.cell1
        have z4 := g3.at4
        have z5 := g3.fr4
        go_wp2
        have ff := g3.four (.bool bq) (.slice aq kq pq) (.bool bq2) (.slice aq2 kq2 pq2)
        obtain ⟨d0, d1, d2, d3⟩ := ff.at4
        refine bodyPost_ret (v := .agg #[.bool bq, .slice aq kq pq, .bool bq2, .slice aq2 kq2 pq2]) (by simp [results, Tryz.results77, go_sem, d0, d1, d2, d3]) rfl ⟨_, rfl, Nm.mk ?_ ?_, below_four h4.out (by omega) _ _ _ _⟩
        · rw [← HDN.out]; exact h1.out.four g3 (by decide) _ _ _ _
        · rw [← HDD.out]; exact h2.out.four g3 (by decide) _ _ _ _

end Go.Proofs.YtpmlmibceiolpaaGreatDoor
