/- TailBounds answers true. -/
import Derived.Test.YtmhneibcbjgedaaGreatDoorS9a
set_option linter.unusedSimpArgs false
set_option linter.unusedVariables false
namespace Go.Proofs.YtmhneibcbjgedaaGreatDoor
open Go.RowKit
open Go.Lib (decDigits itoa nDigits)
open D4 (rt it Mid)

theorem wrap_min : wrap64 (-9223372036854775809) = 9223372036854775807 := by first | decide +kernel | rfl | (simp [wrap64])
theorem grid_min : gridErr (-9223372036854775808) = 2 := by decide
theorem limit_min {w : World} {v : Value} (h : Lm 9223372036854775807 999 v w) : Calls Tryz.prog 82 #[v] w (RetV w (.int .i64 2)) := by
  have h2 : Lm (9223372036854775808 - 1) 999 v w := h
  have := limit_any h2
  exact this
theorem err_min (n k : Int) (l : List UInt8) : ¬ errB n k l (-9223372036854775808) = 0 := by
  unfold errB
  split
  · split
    · rw [grid_min]; decide
    · assumption
  · assumption

set_option maxHeartbeats 1000000 in
theorem bound_min {w : World} (n k : Int) (l : List UInt8) (hl : l.length ≤ 268435000) (hg : Good w) :
    Calls Tryz.prog 45 #[.int .i64 n, .int .i64 k, .string ⟨l.toArray⟩, .int .i64 (-9223372036854775808)] w (RetC w (errB n k l (-9223372036854775808)) (rval l)) := by
  obtain ⟨W, hW, hB, hsz, j8⟩ := entA w 69 #[.bool false, .slice none 0 0, .bool false, .slice none 0 0]
  have HW := Lib.hid hW
  have HSZ := Lib.hid hsz
  have HBB := Lib.hid hB
  clear hW hsz
  have hc := counts_any (w := W) n k
  have hch := fun (V : World) hh => chance_any (w := V) l false hl ((hg.below hB).below hh)
  unfold errB
  by_cases h0 : cnt n k = 0
  · rw [h0] at hc ⊢
    rw [if_pos rfl]
    have HC := Lib.hid hc
    by_cases h1 : chErr false l = 0
    · rw [h1] at hch ⊢
      rw [if_pos rfl]
      generalize rval l = x at *
      have HCH := Lib.hid hch
      generalize (⟨l.toArray⟩ : ByteArray) = S at *
      have hlm := fun (V : World) v h => limit_min (w := V) (v := v) h
      rw [grid_min]
      generalize (2 : Int) = er at *
      have HLM := Lib.hid hlm
      clear hc h0 hch hg h1 hl hlm
      go_enter Tryz.func45, Tryz.ntmps45
      go_upto_region 1 with fail
      rw [← HW.out]
      go_upto_region 5 with (first
        | (go_at_call 37; refine HC.out.mono ?_; rintro e w1 ⟨rfl, hb1⟩)
        | (go_at_call 40; refine (HCH.out _ hb1).mono ?_; rintro e w2 ⟨b2, a2, k2, pp2, c2, f2, l2, qq2, rfl, hn, hb2⟩))
      have hx2 := (hn (by first | rfl | trivial)).below ((Below.refl _ _).alloc (Nat.le_refl _) (.cells #[.bool b2, .slice a2 k2 pp2, .bool c2, .slice f2 l2 qq2] 69))
      have g2 := Blk.new w2 69 #[.bool b2, .slice a2 k2 pp2, .bool c2, .slice f2 l2 qq2]
      have j8' := ((j8.next hb1).next hb2).alloc (.cells #[.bool b2, .slice a2 k2 pp2, .bool c2, .slice f2 l2 qq2] 69)
      have hb3 : Below W.heap.size W (w2.alloc (.cells #[.bool b2, .slice a2 k2 pp2, .bool c2, .slice f2 l2 qq2] 69)) := (next_below hb1 hb2).alloc (next_below hb1 hb2).size _
      clear hn hb1 hb2
      generalize w2.heap.size = z9 at *
      generalize (w2.alloc (.cells #[.bool b2, .slice a2 k2 pp2, .bool c2, .slice f2 l2 qq2] 69)) = w3 at *
      obtain ⟨x0, x1, x2, x3⟩ := g2.at4
      go_upto_region 7 with fail
      have HX := Lib.hid hx2
      have hB0 : Below w3.heap.size w3 w3.drew := (Below.refl _ _).drew
      refine wp_region_list 6 (by kernel_rfl) (by kernel_rfl) [] [fun v _ => v = .agg #[.bool b2, .slice a2 k2 pp2, .bool c2, .slice f2 l2 qq2], fun v _ => v = .int .i64 (-9223372036854775808), fun v _ => v = .int .i64 9223372036854775807, fun v _ => v = .agg #[.int .i64 9223372036854775807, .int .i64 999], Lm 9223372036854775807 999, fun v _ => v = .int .i64 er] (by simp only [List.take_succ_cons, List.take_zero]; rfl) (by simp only [List.drop_succ_cons, List.drop_zero]; rfl) (fun vals => by simp only [fam, Act.put, List.setIfInBounds_toArray, List.set_cons_zero, List.set_cons_succ, if_true]; rfl) (by repeat' (first | exact Stab.eq _ _ | exact Stab.wh _ _ | exact Stab.nm _ _ | exact Stab.new _ _ | exact Stab.newn _ _ | exact Stab.tw _ _ _ | exact Stab.lm _ _ _ | exact trivial | apply And.intro)) trivial ?_ ?_
      · refine ⟨?_, ?_, ?_, ?_, ?_, ?_, trivial⟩
        all_goals
          intro vals w4 hB hp
          dsimp only
          (try simp [preOk, Region.binds] at hp)
          have hbb := next_below hB0 hB
          obtain ⟨y0, y1, y2, y3⟩ := (g2.next hbb).at4
          clear hB x0 x1 x2 x3
        case refine_3 =>
          generalize vals 1 = t1 at *
          subst hp
          go_wp2
          exact ⟨rfl, _, rfl, congrArg (Value.int .i64) wrap_min, Below.refl _ _, trivial⟩
        case refine_4 =>
          generalize vals 2 = t2 at *
          subst hp
          go_wp2
          exact ⟨rfl, _, rfl, rfl, Below.refl _ _, trivial⟩
        case refine_5 =>
          generalize vals 3 = t3 at *
          subst hp
          go_wp2
          exact ⟨rfl, _, rfl, ⟨_, rfl, Blk.new _ _ _⟩, (Below.refl _ _).alloc (Nat.le_refl _) _, trivial⟩
        case refine_6 =>
          go_wp2_with (go_at_call 82; refine (HLM.out _ _ hp).mono ?_; rintro e w5 ⟨rfl, hb5⟩)
          exact ⟨rfl, _, rfl, rfl, hb5, trivial⟩
        all_goals
          go_wp2
          (first | exact ⟨rfl, _, rfl, rfl, Below.refl _ _, trivial⟩ | (refine ⟨rfl, _, ?_, rfl, Below.refl _ _, trivial⟩; simp only [Act.put, List.setIfInBounds_toArray, List.set_cons_zero, List.set_cons_succ, hp]))
      · rintro vals w4 hB ⟨p0, p1, p2, p3, p4, p5, _⟩ hne
        have hbb := next_below hB0 hB
        simp at p0 p5
        generalize vals 0 = v0 at *
        subst p0
        generalize vals 5 = v5 at *
        subst p5
        clear hne p1 p2 p3 p4 x0 x1 x2 x3
        have j6 := j8'.next hbb
        obtain ⟨q0, q1, q2, q3⟩ := j6.at4
        obtain ⟨u0, u1, u2, u3⟩ := j6.fr4
        go_wp2
        have hj := j6.four (.bool b2) (.slice a2 k2 pp2) (.bool c2) (.slice f2 l2 qq2)
        obtain ⟨d0, d1, d2, d3⟩ := hj.at4
        refine bodyPost_ret (v := .tuple #[.agg #[.bool b2, .slice a2 k2 pp2, .bool c2, .slice f2 l2 qq2], .int .i64 er]) (by simp [results, Tryz.results45, go_sem, d0, d1, d2, d3]) rfl ⟨_, _, _, _, _, _, _, _, rfl, fun _ => (HX.out.below hbb).four j6 (by decide) _ _ _ _, below_four (HBB.out.trans ((next_below hb3 hbb).mono HBB.out.size)) (Nat.le_refl _) _ _ _ _⟩
    · rw [if_neg h1]
      generalize chErr false l = er at *
      generalize rval l = x at *
      have hb : (er != 0) = true := by simpa using h1
      have HCH := Lib.hid hch
      clear hc hg hch hl
      generalize (⟨l.toArray⟩ : ByteArray) = S at *
      go_enter Tryz.func45, Tryz.ntmps45
      go_upto_region 1 with fail
      rw [← HW.out]
      go_wp2_with (first
        | (go_at_call 37; refine HC.out.mono ?_; rintro e w1 ⟨rfl, hb1⟩)
        | (go_at_call 40; refine (HCH.out _ hb1).mono ?_; rintro e w2 ⟨b2, a2, k2, pp2, c2, f2, l2, qq2, rfl, hn, hb2⟩; clear hn; have j6 := ((j8.next hb1).next hb2).alloc (.cells #[.bool b2, .slice a2 k2 pp2, .bool c2, .slice f2 l2 qq2] 69); obtain ⟨q0, q1, q2, q3⟩ := j6.at4; obtain ⟨u0, u1, u2, u3⟩ := j6.fr4))
      have hj := j6.four (.bool false) (.slice none 0 0) (.bool false) (.slice none 0 0)
      obtain ⟨d0, d1, d2, d3⟩ := hj.at4
      refine bodyPost_ret (v := .tuple #[.agg #[.bool false, .slice none 0 0, .bool false, .slice none 0 0], .int .i64 er]) (by simp [results, Tryz.results45, go_sem, d0, d1, d2, d3]) rfl ⟨_, _, _, _, _, _, _, _, rfl, fun h => absurd h h1, below_four (HBB.out.trans (((next_below hb1 hb2).alloc (next_below hb1 hb2).size _).mono HBB.out.size)) (Nat.le_refl _) _ _ _ _⟩
  · rw [if_neg h0]
    generalize cnt n k = er at *
    generalize rval l = x at *
    have hb : (er != 0) = true := by simpa using h0
    have HC := Lib.hid hc
    clear hc hg hch hl
    generalize (⟨l.toArray⟩ : ByteArray) = S at *
    go_enter Tryz.func45, Tryz.ntmps45
    go_upto_region 1 with fail
    rw [← HW.out]
    go_wp2_with (go_at_call 37; refine HC.out.mono ?_; rintro e w1 ⟨rfl, hb1⟩; have j6 := j8.next hb1; obtain ⟨q0, q1, q2, q3⟩ := j6.at4; obtain ⟨u0, u1, u2, u3⟩ := j6.fr4)
    have hj := j6.four (.bool false) (.slice none 0 0) (.bool false) (.slice none 0 0)
    obtain ⟨d0, d1, d2, d3⟩ := hj.at4
    refine bodyPost_ret (v := .tuple #[.agg #[.bool false, .slice none 0 0, .bool false, .slice none 0 0], .int .i64 er]) (by simp [results, Tryz.results45, go_sem, d0, d1, d2, d3]) rfl ⟨_, _, _, _, _, _, _, _, rfl, fun h => absurd h h0, below_four (HBB.out.trans (hb1.mono HBB.out.size)) (Nat.le_refl _) _ _ _ _⟩

set_option maxHeartbeats 1000000 in
theorem low_min {w : World} (n k : Int) (l : List UInt8) (hl : l.length ≤ 268435000) (hg : Good w) :
    Calls Tryz.prog 15 #[.int .i64 n, .int .i64 k, .string ⟨l.toArray⟩, .int .i64 (-9223372036854775808)] w (RetV w (.tuple #[.string ⟨(if errB n k l (-9223372036854775808) = 0 then [] else []).toArray⟩, .int .i64 (errB n k l (-9223372036854775808))])) := by
  obtain ⟨W, hW, hB, hsz, j4, j5, j7⟩ := entC w 3 3 3 #[.int .i64 n] #[.int .i64 k] #[.int .i64 (-9223372036854775808)]
  have HW := Lib.hid hW
  have HSZ := Lib.hid hsz
  have HBB := Lib.hid hB
  clear hW hsz
  have j7 : Blk W (w.heap.size + 1 + 1) 3 #[.int .i64 (-9223372036854775808)] := j7
  have hbd := bound_min (w := W) n k l hl (hg.below hB)
  have x4 := j4.cell 0
  have x5 := j5.cell 0
  have x7 := j7.cell 0
  simp at x4 x5 x7
  have h0 := err_min n k l
  rw [if_neg h0]
  generalize errB n k l (-9223372036854775808) = er at *
  generalize rval l = x at *
  have hb : (er != 0) = true := by simpa using h0
  have HBD := Lib.hid hbd
  clear hbd hg hl
  generalize (⟨l.toArray⟩ : ByteArray) = S at *
  go_enter Tryz.func15, Tryz.ntmps15
  go_upto_region 1 with fail
  rw [← HW.out]
  go_wp2_with (go_at_call 45; refine HBD.out.mono ?_; rintro e w1 ⟨b2, a2, k2, pp2, c2, f2, l2, qq2, rfl, hn, hb1⟩; clear hn)
  go_ret2
  exact ⟨rfl, HBB.out.trans ((hb1.alloc hb1.size _).mono HBB.out.size)⟩

set_option maxHeartbeats 1000000 in
theorem high_min {w : World} (n k : Int) (l : List UInt8) (hl : l.length ≤ 268435000) (hg : Good w) :
    Calls Tryz.prog 16 #[.int .i64 n, .int .i64 k, .string ⟨l.toArray⟩, .int .i64 (-9223372036854775808)] w (RetV w (.tuple #[.string ⟨(if errB n k l (-9223372036854775808) = 0 then [] else []).toArray⟩, .int .i64 (errB n k l (-9223372036854775808))])) := by
  obtain ⟨W, hW, hB, hsz, j4, j5, j7⟩ := entC w 3 3 3 #[.int .i64 n] #[.int .i64 k] #[.int .i64 (-9223372036854775808)]
  have HW := Lib.hid hW
  have HSZ := Lib.hid hsz
  have HBB := Lib.hid hB
  clear hW hsz
  have j7 : Blk W (w.heap.size + 1 + 1) 3 #[.int .i64 (-9223372036854775808)] := j7
  have hbd := bound_min (w := W) n k l hl (hg.below hB)
  have x4 := j4.cell 0
  have x5 := j5.cell 0
  have x7 := j7.cell 0
  simp at x4 x5 x7
  have h0 := err_min n k l
  rw [if_neg h0]
  generalize errB n k l (-9223372036854775808) = er at *
  generalize rval l = x at *
  have hb : (er != 0) = true := by simpa using h0
  have HBD := Lib.hid hbd
  clear hbd hg hl
  generalize (⟨l.toArray⟩ : ByteArray) = S at *
  go_enter Tryz.func16, Tryz.ntmps16
  go_upto_region 1 with fail
  rw [← HW.out]
  go_wp2_with (go_at_call 45; refine HBD.out.mono ?_; rintro e w1 ⟨b2, a2, k2, pp2, c2, f2, l2, qq2, rfl, hn, hb1⟩; clear hn)
  go_ret2
  exact ⟨rfl, HBB.out.trans ((hb1.alloc hb1.size _).mono HBB.out.size)⟩

theorem low_all {w : World} (n k : Int) (l : List UInt8) (g : Int) (hg1 : -9223372036854775808 ≤ g) (hg2 : g ≤ 9223372036854775807) (hl : l.length ≤ 268435000) (hg : Good w) :
    Calls Tryz.prog 15 #[.int .i64 n, .int .i64 k, .string ⟨l.toArray⟩, .int .i64 g] w (RetV w (.tuple #[.string ⟨(if errB n k l g = 0 then lowT n.toNat k.toNat g.toNat (rval l) else []).toArray⟩, .int .i64 (errB n k l g)])) := by
  by_cases h : g = -9223372036854775808
  · subst h
    have := low_min (w := w) n k l hl hg
    rw [if_neg (err_min n k l)] at this ⊢
    exact this
  · exact low_any n k l g (by omega) hg2 hl hg
theorem high_all {w : World} (n k : Int) (l : List UInt8) (g : Int) (hg1 : -9223372036854775808 ≤ g) (hg2 : g ≤ 9223372036854775807) (hl : l.length ≤ 268435000) (hg : Good w) :
    Calls Tryz.prog 16 #[.int .i64 n, .int .i64 k, .string ⟨l.toArray⟩, .int .i64 g] w (RetV w (.tuple #[.string ⟨(if errB n k l g = 0 then highT n.toNat k.toNat g.toNat (rval l) else []).toArray⟩, .int .i64 (errB n k l g)])) := by
  by_cases h : g = -9223372036854775808
  · subst h
    have := high_min (w := w) n k l hl hg
    rw [if_neg (err_min n k l)] at this ⊢
    exact this
  · exact high_any n k l g (by omega) hg2 hl hg

theorem in_of_err {l : List UInt8} (h : chErr false l = 0) : ∃ x, l = ratText x ∧ 0 < x ∧ x < 1 ∧ fitsD 4 x := by
  have h0 : rerr l = 0 := by
    unfold chErr at h
    by_cases h0 : rerr l = 0
    · exact h0
    · rw [if_neg h0] at h; exact h
  have hl := rerr_canon (l := l) (by omega)
  unfold chErr at h
  rw [if_pos h0] at h
  have hn : noChance (rshort l) false (rval l).num.sign (rcmp (rval l) 1) = false := by
    cases hh : noChance (rshort l) false (rval l).num.sign (rcmp (rval l) 1)
    · rfl
    · rw [hh] at h; simp at h
  generalize hs0 : (rval l).num.sign = s at hn
  generalize hc0 : rcmp (rval l) 1 = c at hn
  unfold noChance at hn
  simp only [Bool.or_eq_false_iff, Bool.and_eq_false_iff, Bool.not_eq_false', decide_eq_false_iff_not, Bool.not_false, Bool.true_eq_false, false_or] at hn
  obtain ⟨⟨⟨hs, h1⟩, h2⟩, h3, h4⟩ := hn
  have hp : 0 < (rval l).num := by
    rcases Int.lt_trichotomy (rval l).num 0 with a | a | a
    · rw [Int.sign_eq_neg_one_of_neg a] at hs0; omega
    · rw [a] at hs0; simp at hs0; omega
    · exact a
  refine ⟨rval l, hl, ?_, rcmp_neg.1 (by omega), ?_⟩
  · refine Rat.lt_of_le_of_ne (Rat.num_nonneg.1 (Int.le_of_lt hp)) ?_
    intro e
    rw [← e] at hp
    exact absurd hp (by decide)
  · unfold rshort at hs
    rw [Int.natAbs_natCast] at hs
    simp at hs
    exact ⟨by omega, by omega⟩
theorem text60b {x : Rat} (h : fitsD 4 x) : (ratText x).length ≤ 60 := by
  unfold ratText
  rw [List.length_append]
  have h1 := itoa_len x.num
  have h2 := h.1
  have h3 := h.2
  have h4 := Lib.decDigits_length x.den
  split
  · simp; omega
  · simp; omega
theorem cut_textb (S : ByteArray) (m : Nat) : S.extract 0 m = ⟨(S.data.toList.take m).toArray⟩ := by
  have h := extract_list S.data.toList 0 m
  simpa using h
theorem bound_ch {n k g : Nat} {x : Rat} (hg : 0 < g) (hg2 : g ≤ 1000) (hk : k ≤ n) (x0 : 0 ≤ x) : Ch (lowV n k g x) ∧ Ch (highV n k g x) := by
  have pt : ∀ {i : Nat}, i ≤ g → Ch (Rat.divInt i g) := fun {i} hi => by
    have h := grid_le (i := i) (j := i) (Nat.le_refl _) hi hg
    exact ⟨h.1, h.2.2, (On.divInt (i : Int) hg).fit (d := 3) h.1 h.2.2 hg (by omega)⟩
  refine ⟨?_, ?_⟩
  · unfold lowV
    by_cases h : k = 0
    · rw [if_pos h, ← grid_zero' g]; exact pt (Nat.zero_le _)
    · rw [if_neg h]
      obtain ⟨L, hL, hLg, _⟩ := last_spec (n := n) (k := k) (g := g) (x := x) hg (by omega) (by omega) x0
      rw [← hL]; exact pt hLg
  · unfold highV
    by_cases h : k = n
    · rw [if_pos h, ← grid_one' hg]; exact pt (Nat.le_refl _)
    · rw [if_neg h]
      obtain ⟨L, hL, hLg, _⟩ := last_spec (n := n) (k := n - k) (g := g) (x := x) hg (by omega) (by omega) x0
      rw [← hL, show (g : Int) - (L : Nat) = ((g - L : Nat) : Int) by omega]; exact pt (by omega)
theorem ib4a (A B C D E F G H M N O P : Int) (S T U V : ByteArray) (X : World) :
    (Instr.index 47 (.agg #[.int .i64 A, .int .i64 E, .string S, .int .i64 M, .int .i64 B, .int .i64 F, .string T, .int .i64 N, .int .i64 C, .int .i64 G, .string U, .int .i64 O, .int .i64 D, .int .i64 H, .string V, .int .i64 P]) (.int .i64 0)).run Tryz.prog X = .ok (.agg #[.int .i64 A, .int .i64 E, .string S, .int .i64 M]) X := by kernel_rfl
theorem ib4b (A B C D E F G H M N O P : Int) (S T U V : ByteArray) (X : World) :
    (Instr.index 47 (.agg #[.int .i64 A, .int .i64 E, .string S, .int .i64 M, .int .i64 B, .int .i64 F, .string T, .int .i64 N, .int .i64 C, .int .i64 G, .string U, .int .i64 O, .int .i64 D, .int .i64 H, .string V, .int .i64 P]) (.int .i64 1)).run Tryz.prog X = .ok (.agg #[.int .i64 B, .int .i64 F, .string T, .int .i64 N]) X := by kernel_rfl
theorem ib4c (A B C D E F G H M N O P : Int) (S T U V : ByteArray) (X : World) :
    (Instr.index 47 (.agg #[.int .i64 A, .int .i64 E, .string S, .int .i64 M, .int .i64 B, .int .i64 F, .string T, .int .i64 N, .int .i64 C, .int .i64 G, .string U, .int .i64 O, .int .i64 D, .int .i64 H, .string V, .int .i64 P]) (.int .i64 2)).run Tryz.prog X = .ok (.agg #[.int .i64 C, .int .i64 G, .string U, .int .i64 O]) X := by kernel_rfl
theorem ib4d (A B C D E F G H M N O P : Int) (S T U V : ByteArray) (X : World) :
    (Instr.index 47 (.agg #[.int .i64 A, .int .i64 E, .string S, .int .i64 M, .int .i64 B, .int .i64 F, .string T, .int .i64 N, .int .i64 C, .int .i64 G, .string U, .int .i64 O, .int .i64 D, .int .i64 H, .string V, .int .i64 P]) (.int .i64 3)).run Tryz.prog X = .ok (.agg #[.int .i64 D, .int .i64 H, .string V, .int .i64 P]) X := by kernel_rfl

set_option maxHeartbeats 16000000 in
set_option maxRecDepth 100000 in
theorem bounds_law {w : World} (n0 k0 : Int) (S0 : ByteArray) (g0 : Int) (n k p dd gr : Int) (gl0 : -9223372036854775808 ≤ g0) (gl1 : g0 ≤ 9223372036854775807) (z0 : 0 ≤ n) (z1 : n ≤ 255) (y0 : 0 ≤ k) (y1 : k ≤ 255) (q0 : 0 ≤ p) (q1 : p ≤ 255) (e0 : 0 ≤ dd) (e1 : dd ≤ 255) (h0 : 0 ≤ gr) (h1 : gr ≤ 255) (hg : Good w) :
    Calls Tryz.prog 6 #[.int .i64 n0, .int .i64 k0, .string S0, .int .i64 g0, .agg #[.int .u8 n, .int .u8 k, .int .u8 p, .int .u8 dd, .int .u8 gr]] w (RetV w (.bool true)) := by
  obtain ⟨N, K, P, D, G, ha, hA⟩ := args_any n k p dd gr z0 z1 y0 y1 q0 q1 e0 e1 h0 h1
  have hd4 : fitsD 4 D := (On.den D).fit (d := 3) (Rat.le_of_lt ha.d0) (Rat.le_of_lt ha.d1) D.den_pos (by have := ha.dd; omega)
  have hG : Hid (-9223372036854775808 ≤ (G : Int) ∧ (G : Int) ≤ 9223372036854775807) := Lib.hid (by have := ha.g1; omega)
  have hG0 : Hid (-9223372036854775808 ≤ g0 ∧ g0 ≤ 9223372036854775807) := Lib.hid ⟨gl0, gl1⟩
  have H1 := Lib.hid (fun (V : World) (hV : Good V) => works_any hV)
  obtain ⟨m, hm⟩ : ∃ m : Nat, m = min S0.size 60 := ⟨_, rfl⟩
  have hmi : min (S0.size : Int) 60 = (m : Int) := by omega
  have hms : m ≤ S0.size := by omega
  have hmS : (m : Int) ≤ (S0.size : Int) := by omega
  obtain ⟨lp, hlp⟩ : ∃ l, l = S0.data.toList.take m := ⟨_, rfl⟩
  have hS : S0.extract 0 m = ⟨lp.toArray⟩ := by rw [cut_textb, ← hlp]
  have hll : lp.length ≤ 60 := by rw [hlp, List.length_take]; omega
  have hql : (ratText D).length ≤ 60 := text60b hd4
  have hrP : rt D = ⟨(ratText D).toArray⟩ := rfl
  rw [hrP] at hA
  have HA := Lib.hid hA
  generalize ratText D = lq at *
  generalize rt P = RP at *
  have HQL := Lib.hid hql
  have HLL := Lib.hid hll
  have HS := Lib.hid hS
  obtain ⟨W, hW, hB, hsz, j⟩ := entA w 36 #[.int .u8 n, .int .u8 k, .int .u8 p, .int .u8 dd, .int .u8 gr]
  have HG := Lib.hid (fun (V : World) (hV : Below W.heap.size W V) => (hg.below hB).below hV)
  have HW := Lib.hid hW
  have HB := Lib.hid hB
  have J := Lib.hid j
  clear hA ha hd4 hrP hlp hS hll hql hm hg hW hB hsz j z0 z1 y0 y1 q0 q1 e0 e1 h0 h1 gl0 gl1
  go_enter Tryz.func6, Tryz.ntmps6
  go_upto_region 1 with fail
  rw [← HW.out]
  go_wp2_with fail
  refine (H1.out _ (HG.out _ (Below.refl _ _))).mono ?_
  rintro e wn ⟨rfl, b1⟩
  have jn := J.out.next b1
  have c0 := jn.cell 0
  have c1 := jn.cell 1
  have c2 := jn.cell 2
  have c3 := jn.cell 3
  have c4 := jn.cell 4
  simp at c0 c1 c2 c3 c4
  have B1 := Lib.hid b1
  clear b1 jn
  go_wp2_with fail
  refine (HA.out _ (HG.out _ B1.out)).mono ?_
  rintro e wn2 ⟨rfl, b2⟩
  have B2 := Lib.hid (next_below B1.out b2)
  clear b2 c0 c1 c2 c3 c4 H1 HA
  go_upto_region 5 with fail
  rw [HS.out]
  generalize (N : Int) = a at *
  generalize (K : Int) = b at *
  generalize (G : Int) = h at *
  clear hmi hms hmS HS
  go_wp2
  go_loopg [59] 4 (fun gk u59 wr => ∃ i : Nat, u59 = .int .i64 (i : Int) ∧ i + gk = 4 ∧ Hid (Below W.heap.size W wr))
  case atStart => exact ⟨0, rfl, rfl, B2⟩
  case round =>
    obtain ⟨i, rfl, hi, hK⟩ := hrel
    by_cases hi4 : i < 4
    · have hi5 : (i : Int) < 4 := by omega
      obtain ⟨ni, ki, gi, l, T, hT, hx, hl, hgi⟩ : ∃ (ni ki gi : Int) (l : List UInt8) (T : ByteArray), T = ⟨l.toArray⟩ ∧ (∀ X, (Instr.index 47 (.agg #[.int .i64 n0, .int .i64 k0, .string ⟨lp.toArray⟩, .int .i64 g0, .int .i64 a, .int .i64 b, .string ⟨lp.toArray⟩, .int .i64 h, .int .i64 a, .int .i64 b, .string ⟨lq.toArray⟩, .int .i64 g0, .int .i64 a, .int .i64 b, .string ⟨lq.toArray⟩, .int .i64 h]) (.int .i64 (i : Int))).run Tryz.prog X = .ok (.agg #[.int .i64 ni, .int .i64 ki, .string T, .int .i64 gi]) X) ∧ Hid (l.length ≤ 60) ∧ Hid (-9223372036854775808 ≤ gi ∧ gi ≤ 9223372036854775807) := by
        obtain rfl | rfl | rfl | rfl : i = 0 ∨ i = 1 ∨ i = 2 ∨ i = 3 := by omega
        · exact ⟨n0, k0, g0, lp, _, rfl, fun X => ib4a _ _ _ _ _ _ _ _ _ _ _ _ _ _ _ _ X, HLL, hG0⟩
        · exact ⟨a, b, h, lp, _, rfl, fun X => ib4b _ _ _ _ _ _ _ _ _ _ _ _ _ _ _ _ X, HLL, hG⟩
        · exact ⟨a, b, g0, lq, _, rfl, fun X => ib4c _ _ _ _ _ _ _ _ _ _ _ _ _ _ _ _ X, HQL, hG0⟩
        · exact ⟨a, b, h, lq, _, rfl, fun X => ib4d _ _ _ _ _ _ _ _ _ _ _ _ _ _ _ _ X, HQL, hG⟩
      clear HLL HQL hG hG0
      have hLT := hl.out
      have hGI := hgi.out
      have fl := fun (V : World) (hV : Good V) => low_all (w := V) ni ki l gi hGI.1 hGI.2 (by omega) hV
      have fh := fun (V : World) (hV : Good V) => high_all (w := V) ni ki l gi hGI.1 hGI.2 (by omega) hV
      have fk := fun (V : World) (hV : Good V) => counts_ref (w := V) ni ki
      have fc := fun (V : World) (hV : Good V) => chance_ref (w := V) l false (by omega) hV
      rw [← hT] at fl fh fc
      have HFL := Lib.hid fl
      have HFH := Lib.hid fh
      have HFK := Lib.hid fk
      have HFC := Lib.hid fc
      obtain ⟨Wx, hWx, hBx, hszx, jx⟩ := entA wr 46 #[.int .i64 ni, .int .i64 ki, .string T, .int .i64 gi]
      have K0 := Lib.hid (next_below hK.out hBx)
      have J0 := Lib.hid jx
      obtain ⟨c0, c1, c2, c3⟩ := jx.at4
      have HWX := Lib.hid hWx
      have HT := Lib.hid hT
      clear hBx hszx jx hWx hl hT hLT hGI hgi fl fh fk fc
      go_upto_region 8 with fail
      rw [← HWX.out]
      have hT := HT.out
      have fl := HFL.out
      have fh := HFH.out
      have fk := HFK.out
      have fc := HFC.out
      clear HT HFL HFH HFK HFC
      generalize wr.heap.size = gx at *
      clear HWX hK hx
      by_cases hc : cnt ni ki = 0
      · have ecnt : decide (cnt ni ki = 0) = true := by rw [hc]; rfl
        rw [ecnt] at fk
        have HK := Lib.hid fk
        by_cases hz : chErr false l = 0
        · rw [hz] at fc
          have HC := Lib.hid fc
          have eB : errB ni ki l gi = gridErr gi := by unfold errB; rw [if_pos hc, if_pos hz]
          rw [eB] at fl fh
          by_cases hgr : 1 ≤ gi ∧ gi ≤ 1000
          · have eG : gridErr gi = 0 := by unfold gridErr; rw [if_pos hgr]
            clear fl fh
            obtain ⟨n', k', rfl, rfl, hn, hk⟩ := cnt_ok hc
            obtain ⟨g', rfl⟩ : ∃ g' : Nat, gi = (g' : Int) := ⟨gi.toNat, by omega⟩
            obtain ⟨x, hxl, x0, x1, xf⟩ := in_of_err hz
            have hTx : rt x = T := by rw [hT, hxl]; rfl
            have hg1 : 1 ≤ g' := by omega
            have hg2 : g' ≤ 1000 := by omega
            obtain ⟨cl, ch⟩ := bound_ch (n := n') (k := k') (g := g') (x := x) hg1 hg2 hk (Rat.le_of_lt x0)
            have f1 := fun (V : World) (hV : Good V) => low_rt (w := V) (n := n') (k := k') (g := g') x0 x1 xf hn hk hg1 hg2 hV
            have f2 := fun (V : World) (hV : Good V) => high_rt (w := V) (n := n') (k := k') (g := g') x0 x1 xf hn hk hg1 hg2 hV
            have g1 := fun (h1 : n' ≤ 10) (h2 : g' ≤ 10) (V : World) (hV : Good V) => low_ref (w := V) (n := n') (k := k') (g := g') x0 x1 xf h1 hk hg1 h2 hV
            have g2 := fun (h1 : n' ≤ 10) (h2 : g' ≤ 10) (V : World) (hV : Good V) => high_ref (w := V) (n := n') (k := k') (g := g') x0 x1 xf h1 hk hg1 h2 hV
            rw [hTx] at f1 f2 g1 g2
            have el : decide (rerr (ratText (lowV n' k' g' x)) ≠ 5) = true := by rw [rerr_fit cl.big]; rfl
            have eh : decide (rerr (ratText (highV n' k' g' x)) ≠ 5) = true := by rw [rerr_fit ch.big]; rfl
            have r1 := fun (V : World) (hV : Good V) => D4.right2_any (w := V) (ratText (lowV n' k' g' x)) (by have := text60b cl.fit; omega) hV
            have r2 := fun (V : World) (hV : Good V) => D4.right2_any (w := V) (ratText (highV n' k' g' x)) (by have := text60b ch.fit; omega) hV
            rw [el] at r1
            rw [eh] at r2
            have R1 := Lib.hid (show ∀ V : World, Good V → Calls Tryz.prog 27 #[.string (rt (lowV n' k' g' x))] V (RetV V (.bool true)) from r1)
            have R2 := Lib.hid (show ∀ V : World, Good V → Calls Tryz.prog 27 #[.string (rt (highV n' k' g' x))] V (RetV V (.bool true)) from r2)
            have R3 := Lib.hid (fun (V : World) (hV : Good V) => D4.sign_rt (w := V) cl.mid.big)
            have r4 := fun (V : World) (hV : Good V) => D4.cmp_rt (w := V) (x := highV n' k' g' x) (y := 1) ch.mid mid_one hV
            rw [rt_one1] at r4
            have R4 := Lib.hid r4
            have hsg : ¬ (lowV n' k' g' x).num.sign < 0 := by
              intro h
              have h1 := Int.sign_neg_iff.1 h
              have h2 := Rat.num_nonneg.2 cl.lo
              omega
            have hcm : ¬ 0 < rcmp (highV n' k' g' x) 1 := by
              intro h
              have h1 := rcmp_le.2 ch.hi
              omega
            generalize (lowV n' k' g' x).num.sign = sg' at *
            generalize rcmp (highV n' k' g' x) 1 = cm at *
            generalize rt (lowV n' k' g' x) = LT at *
            generalize rt (highV n' k' g' x) = HT at *
            have HL := Lib.hid f1
            have HH := Lib.hid f2
            have GL := Lib.hid g1
            have GH := Lib.hid g2
            have i1 : ¬ (g' : Int) < 1 := by omega
            have i2 : ¬ 1000 < (g' : Int) := by omega
            clear f1 f2 g1 g2 el eh r1 r2 r4 cl ch hTx hxl x0 x1 xf hT hz hc ecnt eB eG hgr hg1 hg2 hk hn fk fc
            by_cases h10 : n' ≤ 10
            · have i10 : (n' : Int) ≤ 10 := by omega
              by_cases hg10 : g' ≤ 10
              · have ig : (g' : Int) ≤ 10 := by omega
                have GL2 := Lib.hid (GL.out h10 hg10)
                have GH2 := Lib.hid (GH.out h10 hg10)
                clear GL GH h10 hg10
                generalize (n' : Int) = nn at *
                generalize (k' : Int) = kk' at *
                generalize (g' : Int) = gg' at *
                go_wp2_with fail
                refine (HL.out _ (HG.out _ K0.out)).mono ?_
                rintro e V ⟨rfl, kk⟩
                have K1 := Lib.hid (next_below K0.out kk)
                have J1 := Lib.hid (J0.out.next kk)
                clear kk c0 c1 c2 c3
                obtain ⟨c0, c1, c2, c3⟩ := J1.out.at4
                go_wp2_with fail
                refine (HH.out _ (HG.out _ K1.out)).mono ?_
                rintro e V ⟨rfl, kk⟩
                have K2 := Lib.hid (next_below K1.out kk)
                have J2 := Lib.hid (J1.out.next kk)
                clear kk c0 c1 c2 c3
                obtain ⟨c0, c1, c2, c3⟩ := J2.out.at4
                go_wp2_with fail
                refine (HC.out _ (HG.out _ K2.out)).mono ?_
                rintro e V ⟨rfl, kk⟩
                have K3 := Lib.hid (next_below K2.out kk)
                have J3 := Lib.hid (J2.out.next kk)
                clear kk c0 c1 c2 c3
                obtain ⟨c0, c1, c2, c3⟩ := J3.out.at4
                go_wp2_with fail
                refine (HK.out _ (HG.out _ K3.out)).mono ?_
                rintro e V ⟨rfl, kk⟩
                have K4 := Lib.hid (next_below K3.out kk)
                have J4 := Lib.hid (J3.out.next kk)
                clear kk c0 c1 c2 c3
                obtain ⟨c0, c1, c2, c3⟩ := J4.out.at4
                go_wp2_with fail
                refine (GL2.out _ (HG.out _ K4.out)).mono ?_
                rintro e V ⟨rfl, kk⟩
                have K5 := Lib.hid (next_below K4.out kk)
                have J5 := Lib.hid (J4.out.next kk)
                clear kk c0 c1 c2 c3
                obtain ⟨c0, c1, c2, c3⟩ := J5.out.at4
                go_wp2_with fail
                refine (GH2.out _ (HG.out _ K5.out)).mono ?_
                rintro e V ⟨rfl, kk⟩
                have K6 := Lib.hid (next_below K5.out kk)
                have J6 := Lib.hid (J5.out.next kk)
                clear kk c0 c1 c2 c3
                obtain ⟨c0, c1, c2, c3⟩ := J6.out.at4
                go_wp2_with fail
                refine (R1.out _ (HG.out _ K6.out)).mono ?_
                rintro e V ⟨rfl, kk⟩
                have K7 := Lib.hid (next_below K6.out kk)
                have J7 := Lib.hid (J6.out.next kk)
                clear kk c0 c1 c2 c3
                obtain ⟨c0, c1, c2, c3⟩ := J7.out.at4
                go_wp2_with fail
                refine (R2.out _ (HG.out _ K7.out)).mono ?_
                rintro e V ⟨rfl, kk⟩
                have K8 := Lib.hid (next_below K7.out kk)
                have J8 := Lib.hid (J7.out.next kk)
                clear kk c0 c1 c2 c3
                obtain ⟨c0, c1, c2, c3⟩ := J8.out.at4
                go_wp2_with fail
                refine (R3.out _ (HG.out _ K8.out)).mono ?_
                rintro e V ⟨rfl, kk⟩
                have K9 := Lib.hid (next_below K8.out kk)
                have J9 := Lib.hid (J8.out.next kk)
                clear kk c0 c1 c2 c3
                obtain ⟨c0, c1, c2, c3⟩ := J9.out.at4
                go_wp2_with fail
                refine (R4.out _ (HG.out _ K9.out)).mono ?_
                rintro e V ⟨rfl, kk⟩
                have K10 := Lib.hid (next_below K9.out kk)
                have J10 := Lib.hid (J9.out.next kk)
                clear kk c0 c1 c2 c3
                obtain ⟨c0, c1, c2, c3⟩ := J10.out.at4
                go_wp2
                go_roundg (gk - 1)
                case rel => exact ⟨i + 1, by go_num, by omega, K10⟩
                case measure => omega
              · have ig : ¬ (g' : Int) ≤ 10 := by omega
                clear GL GH h10 hg10
                generalize (n' : Int) = nn at *
                generalize (k' : Int) = kk' at *
                generalize (g' : Int) = gg' at *
                go_wp2_with fail
                refine (HL.out _ (HG.out _ K0.out)).mono ?_
                rintro e V ⟨rfl, kk⟩
                have K1 := Lib.hid (next_below K0.out kk)
                have J1 := Lib.hid (J0.out.next kk)
                clear kk c0 c1 c2 c3
                obtain ⟨c0, c1, c2, c3⟩ := J1.out.at4
                go_wp2_with fail
                refine (HH.out _ (HG.out _ K1.out)).mono ?_
                rintro e V ⟨rfl, kk⟩
                have K2 := Lib.hid (next_below K1.out kk)
                have J2 := Lib.hid (J1.out.next kk)
                clear kk c0 c1 c2 c3
                obtain ⟨c0, c1, c2, c3⟩ := J2.out.at4
                go_wp2_with fail
                refine (HC.out _ (HG.out _ K2.out)).mono ?_
                rintro e V ⟨rfl, kk⟩
                have K3 := Lib.hid (next_below K2.out kk)
                have J3 := Lib.hid (J2.out.next kk)
                clear kk c0 c1 c2 c3
                obtain ⟨c0, c1, c2, c3⟩ := J3.out.at4
                go_wp2_with fail
                refine (HK.out _ (HG.out _ K3.out)).mono ?_
                rintro e V ⟨rfl, kk⟩
                have K4 := Lib.hid (next_below K3.out kk)
                have J4 := Lib.hid (J3.out.next kk)
                clear kk c0 c1 c2 c3
                obtain ⟨c0, c1, c2, c3⟩ := J4.out.at4
                go_wp2_with fail
                refine (R1.out _ (HG.out _ K4.out)).mono ?_
                rintro e V ⟨rfl, kk⟩
                have K5 := Lib.hid (next_below K4.out kk)
                have J5 := Lib.hid (J4.out.next kk)
                clear kk c0 c1 c2 c3
                obtain ⟨c0, c1, c2, c3⟩ := J5.out.at4
                go_wp2_with fail
                refine (R2.out _ (HG.out _ K5.out)).mono ?_
                rintro e V ⟨rfl, kk⟩
                have K6 := Lib.hid (next_below K5.out kk)
                have J6 := Lib.hid (J5.out.next kk)
                clear kk c0 c1 c2 c3
                obtain ⟨c0, c1, c2, c3⟩ := J6.out.at4
                go_wp2_with fail
                refine (R3.out _ (HG.out _ K6.out)).mono ?_
                rintro e V ⟨rfl, kk⟩
                have K7 := Lib.hid (next_below K6.out kk)
                have J7 := Lib.hid (J6.out.next kk)
                clear kk c0 c1 c2 c3
                obtain ⟨c0, c1, c2, c3⟩ := J7.out.at4
                go_wp2_with fail
                refine (R4.out _ (HG.out _ K7.out)).mono ?_
                rintro e V ⟨rfl, kk⟩
                have K8 := Lib.hid (next_below K7.out kk)
                have J8 := Lib.hid (J7.out.next kk)
                clear kk c0 c1 c2 c3
                obtain ⟨c0, c1, c2, c3⟩ := J8.out.at4
                go_wp2
                go_roundg (gk - 1)
                case rel => exact ⟨i + 1, by go_num, by omega, K8⟩
                case measure => omega
            · have i10 : ¬ (n' : Int) ≤ 10 := by omega
              clear GL GH h10
              generalize (n' : Int) = nn at *
              generalize (k' : Int) = kk' at *
              generalize (g' : Int) = gg' at *
              go_wp2_with fail
              refine (HL.out _ (HG.out _ K0.out)).mono ?_
              rintro e V ⟨rfl, kk⟩
              have K1 := Lib.hid (next_below K0.out kk)
              have J1 := Lib.hid (J0.out.next kk)
              clear kk c0 c1 c2 c3
              obtain ⟨c0, c1, c2, c3⟩ := J1.out.at4
              go_wp2_with fail
              refine (HH.out _ (HG.out _ K1.out)).mono ?_
              rintro e V ⟨rfl, kk⟩
              have K2 := Lib.hid (next_below K1.out kk)
              have J2 := Lib.hid (J1.out.next kk)
              clear kk c0 c1 c2 c3
              obtain ⟨c0, c1, c2, c3⟩ := J2.out.at4
              go_wp2_with fail
              refine (HC.out _ (HG.out _ K2.out)).mono ?_
              rintro e V ⟨rfl, kk⟩
              have K3 := Lib.hid (next_below K2.out kk)
              have J3 := Lib.hid (J2.out.next kk)
              clear kk c0 c1 c2 c3
              obtain ⟨c0, c1, c2, c3⟩ := J3.out.at4
              go_wp2_with fail
              refine (HK.out _ (HG.out _ K3.out)).mono ?_
              rintro e V ⟨rfl, kk⟩
              have K4 := Lib.hid (next_below K3.out kk)
              have J4 := Lib.hid (J3.out.next kk)
              clear kk c0 c1 c2 c3
              obtain ⟨c0, c1, c2, c3⟩ := J4.out.at4
              go_wp2_with fail
              refine (R1.out _ (HG.out _ K4.out)).mono ?_
              rintro e V ⟨rfl, kk⟩
              have K5 := Lib.hid (next_below K4.out kk)
              have J5 := Lib.hid (J4.out.next kk)
              clear kk c0 c1 c2 c3
              obtain ⟨c0, c1, c2, c3⟩ := J5.out.at4
              go_wp2_with fail
              refine (R2.out _ (HG.out _ K5.out)).mono ?_
              rintro e V ⟨rfl, kk⟩
              have K6 := Lib.hid (next_below K5.out kk)
              have J6 := Lib.hid (J5.out.next kk)
              clear kk c0 c1 c2 c3
              obtain ⟨c0, c1, c2, c3⟩ := J6.out.at4
              go_wp2_with fail
              refine (R3.out _ (HG.out _ K6.out)).mono ?_
              rintro e V ⟨rfl, kk⟩
              have K7 := Lib.hid (next_below K6.out kk)
              have J7 := Lib.hid (J6.out.next kk)
              clear kk c0 c1 c2 c3
              obtain ⟨c0, c1, c2, c3⟩ := J7.out.at4
              go_wp2_with fail
              refine (R4.out _ (HG.out _ K7.out)).mono ?_
              rintro e V ⟨rfl, kk⟩
              have K8 := Lib.hid (next_below K7.out kk)
              have J8 := Lib.hid (J7.out.next kk)
              clear kk c0 c1 c2 c3
              obtain ⟨c0, c1, c2, c3⟩ := J8.out.at4
              go_wp2
              go_roundg (gk - 1)
              case rel => exact ⟨i + 1, by go_num, by omega, K8⟩
              case measure => omega
          · have eG : gridErr gi = 2 := by unfold gridErr; rw [if_neg hgr]
            rw [eG, if_neg (by decide)] at fl fh
            have HL := Lib.hid (show ∀ V : World, Good V → Calls Tryz.prog 15 #[.int .i64 ni, .int .i64 ki, .string T, .int .i64 gi] V (RetV V (.tuple #[.string ⟨#[]⟩, .int .i64 2])) from fl)
            have HH := Lib.hid (show ∀ V : World, Good V → Calls Tryz.prog 16 #[.int .i64 ni, .int .i64 ki, .string T, .int .i64 gi] V (RetV V (.tuple #[.string ⟨#[]⟩, .int .i64 2])) from fh)
            clear fl fh fk fc hT hz hc ecnt eB eG
            by_cases hg1 : gi < 1
            · clear hgr
              go_wp2_with fail
              refine (HL.out _ (HG.out _ K0.out)).mono ?_
              rintro e V ⟨rfl, kk⟩
              have K1 := Lib.hid (next_below K0.out kk)
              have J1 := Lib.hid (J0.out.next kk)
              clear kk c0 c1 c2 c3
              obtain ⟨c0, c1, c2, c3⟩ := J1.out.at4
              go_wp2_with fail
              refine (HH.out _ (HG.out _ K1.out)).mono ?_
              rintro e V ⟨rfl, kk⟩
              have K2 := Lib.hid (next_below K1.out kk)
              have J2 := Lib.hid (J1.out.next kk)
              clear kk c0 c1 c2 c3
              obtain ⟨c0, c1, c2, c3⟩ := J2.out.at4
              go_wp2_with fail
              refine (HC.out _ (HG.out _ K2.out)).mono ?_
              rintro e V ⟨rfl, kk⟩
              have K3 := Lib.hid (next_below K2.out kk)
              have J3 := Lib.hid (J2.out.next kk)
              clear kk c0 c1 c2 c3
              obtain ⟨c0, c1, c2, c3⟩ := J3.out.at4
              go_wp2_with fail
              refine (HK.out _ (HG.out _ K3.out)).mono ?_
              rintro e V ⟨rfl, kk⟩
              have K4 := Lib.hid (next_below K3.out kk)
              have J4 := Lib.hid (J3.out.next kk)
              clear kk c0 c1 c2 c3
              obtain ⟨c0, c1, c2, c3⟩ := J4.out.at4
              go_wp2
              go_roundg (gk - 1)
              case rel => exact ⟨i + 1, by go_num, by omega, K4⟩
              case measure => omega
            · have hg2 : 1000 < gi := by omega
              clear hgr
              go_wp2_with fail
              refine (HL.out _ (HG.out _ K0.out)).mono ?_
              rintro e V ⟨rfl, kk⟩
              have K1 := Lib.hid (next_below K0.out kk)
              have J1 := Lib.hid (J0.out.next kk)
              clear kk c0 c1 c2 c3
              obtain ⟨c0, c1, c2, c3⟩ := J1.out.at4
              go_wp2_with fail
              refine (HH.out _ (HG.out _ K1.out)).mono ?_
              rintro e V ⟨rfl, kk⟩
              have K2 := Lib.hid (next_below K1.out kk)
              have J2 := Lib.hid (J1.out.next kk)
              clear kk c0 c1 c2 c3
              obtain ⟨c0, c1, c2, c3⟩ := J2.out.at4
              go_wp2_with fail
              refine (HC.out _ (HG.out _ K2.out)).mono ?_
              rintro e V ⟨rfl, kk⟩
              have K3 := Lib.hid (next_below K2.out kk)
              have J3 := Lib.hid (J2.out.next kk)
              clear kk c0 c1 c2 c3
              obtain ⟨c0, c1, c2, c3⟩ := J3.out.at4
              go_wp2_with fail
              refine (HK.out _ (HG.out _ K3.out)).mono ?_
              rintro e V ⟨rfl, kk⟩
              have K4 := Lib.hid (next_below K3.out kk)
              have J4 := Lib.hid (J3.out.next kk)
              clear kk c0 c1 c2 c3
              obtain ⟨c0, c1, c2, c3⟩ := J4.out.at4
              go_wp2
              go_roundg (gk - 1)
              case rel => exact ⟨i + 1, by go_num, by omega, K4⟩
              case measure => omega
        · have eB : errB ni ki l gi = chErr false l := by unfold errB; rw [if_pos hc, if_neg hz]
          rw [eB, if_neg hz] at fl fh
          have hzb : (chErr false l == 0) = false := by rw [beq_eq_false_iff_ne]; exact hz
          generalize chErr false l = er at *
          have HL := Lib.hid (show ∀ V : World, Good V → Calls Tryz.prog 15 #[.int .i64 ni, .int .i64 ki, .string T, .int .i64 gi] V (RetV V (.tuple #[.string ⟨#[]⟩, .int .i64 er])) from fl)
          have HH := Lib.hid (show ∀ V : World, Good V → Calls Tryz.prog 16 #[.int .i64 ni, .int .i64 ki, .string T, .int .i64 gi] V (RetV V (.tuple #[.string ⟨#[]⟩, .int .i64 er])) from fh)
          have HC := Lib.hid fc
          clear fl fh fk fc hT hc ecnt eB
          go_wp2_with fail
          refine (HL.out _ (HG.out _ K0.out)).mono ?_
          rintro e V ⟨rfl, kk⟩
          have K1 := Lib.hid (next_below K0.out kk)
          have J1 := Lib.hid (J0.out.next kk)
          clear kk c0 c1 c2 c3
          obtain ⟨c0, c1, c2, c3⟩ := J1.out.at4
          go_wp2_with fail
          refine (HH.out _ (HG.out _ K1.out)).mono ?_
          rintro e V ⟨rfl, kk⟩
          have K2 := Lib.hid (next_below K1.out kk)
          have J2 := Lib.hid (J1.out.next kk)
          clear kk c0 c1 c2 c3
          obtain ⟨c0, c1, c2, c3⟩ := J2.out.at4
          go_wp2_with fail
          refine (HC.out _ (HG.out _ K2.out)).mono ?_
          rintro e V ⟨rfl, kk⟩
          have K3 := Lib.hid (next_below K2.out kk)
          have J3 := Lib.hid (J2.out.next kk)
          clear kk c0 c1 c2 c3
          obtain ⟨c0, c1, c2, c3⟩ := J3.out.at4
          go_wp2_with fail
          refine (HK.out _ (HG.out _ K3.out)).mono ?_
          rintro e V ⟨rfl, kk⟩
          have K4 := Lib.hid (next_below K3.out kk)
          have J4 := Lib.hid (J3.out.next kk)
          clear kk c0 c1 c2 c3
          obtain ⟨c0, c1, c2, c3⟩ := J4.out.at4
          go_wp2
          go_roundg (gk - 1)
          case rel => exact ⟨i + 1, by go_num, by omega, K4⟩
          case measure => omega
      · have e2 : cnt ni ki = 2 := by
          unfold cnt at hc ⊢
          by_cases h : 0 ≤ ni ∧ ni ≤ 200 ∧ 0 ≤ ki ∧ ki ≤ ni
          · rw [if_pos h] at hc; exact absurd rfl hc
          · rw [if_neg h]
        have eB : errB ni ki l gi = 2 := by unfold errB; rw [if_neg hc, e2]
        have ecnt : decide (cnt ni ki = 0) = false := by rw [e2]; rfl
        rw [eB, if_neg (by decide)] at fl fh
        rw [ecnt] at fk
        generalize chErr false l = er at *
        have HL := Lib.hid (show ∀ V : World, Good V → Calls Tryz.prog 15 #[.int .i64 ni, .int .i64 ki, .string T, .int .i64 gi] V (RetV V (.tuple #[.string ⟨#[]⟩, .int .i64 2])) from fl)
        have HH := Lib.hid (show ∀ V : World, Good V → Calls Tryz.prog 16 #[.int .i64 ni, .int .i64 ki, .string T, .int .i64 gi] V (RetV V (.tuple #[.string ⟨#[]⟩, .int .i64 2])) from fh)
        have HC := Lib.hid fc
        have HK := Lib.hid fk
        clear fl fh fk fc hT e2 eB ecnt hc
        go_wp2_with fail
        refine (HL.out _ (HG.out _ K0.out)).mono ?_
        rintro e V ⟨rfl, kk⟩
        have K1 := Lib.hid (next_below K0.out kk)
        have J1 := Lib.hid (J0.out.next kk)
        clear kk c0 c1 c2 c3
        obtain ⟨c0, c1, c2, c3⟩ := J1.out.at4
        go_wp2_with fail
        refine (HH.out _ (HG.out _ K1.out)).mono ?_
        rintro e V ⟨rfl, kk⟩
        have K2 := Lib.hid (next_below K1.out kk)
        have J2 := Lib.hid (J1.out.next kk)
        clear kk c0 c1 c2 c3
        obtain ⟨c0, c1, c2, c3⟩ := J2.out.at4
        go_wp2_with fail
        refine (HC.out _ (HG.out _ K2.out)).mono ?_
        rintro e V ⟨rfl, kk⟩
        have K3 := Lib.hid (next_below K2.out kk)
        have J3 := Lib.hid (J2.out.next kk)
        clear kk c0 c1 c2 c3
        obtain ⟨c0, c1, c2, c3⟩ := J3.out.at4
        go_wp2_with fail
        refine (HK.out _ (HG.out _ K3.out)).mono ?_
        rintro e V ⟨rfl, kk⟩
        have K4 := Lib.hid (next_below K3.out kk)
        have J4 := Lib.hid (J3.out.next kk)
        clear kk c0 c1 c2 c3
        obtain ⟨c0, c1, c2, c3⟩ := J4.out.at4
        go_wp2
        go_roundg (gk - 1)
        case rel => exact ⟨i + 1, by go_num, by omega, K4⟩
        case measure => omega
    · obtain rfl : i = 4 := by omega
      go_wp2
      go_ret
      exact ⟨rfl, HB.out.trans (hK.out.mono HB.out.size)⟩
end Go.Proofs.YtmhneibcbjgedaaGreatDoor
