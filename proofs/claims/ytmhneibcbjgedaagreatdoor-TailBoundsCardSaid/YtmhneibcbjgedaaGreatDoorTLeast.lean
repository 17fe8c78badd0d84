/- The contracts of tail.Choose, tail.Least and tail.Mass. -/
import Derived.Test.YtmhneibcbjgedaaGreatDoorTUpper
set_option linter.unusedSimpArgs false
set_option linter.unusedVariables false
namespace Go.Proofs.YtmhneibcbjgedaaGreatDoor
open Go.RowKit
open Go.Lib (decDigits itoa nDigits)

theorem cnt_ok {n k : Int} (h : cnt n k = 0) : ∃ a b : Nat, n = a ∧ k = b ∧ a ≤ 200 ∧ b ≤ a := by
  unfold cnt at h
  split at h
  · rename_i hr
    obtain ⟨a, rfl⟩ := Int.eq_ofNat_of_zero_le hr.1
    obtain ⟨b, rfl⟩ := Int.eq_ofNat_of_zero_le hr.2.2.1
    exact ⟨a, b, rfl, rfl, by omega, by omega⟩
  · exact absurd h (by decide)

set_option maxHeartbeats 1000000 in
theorem choose_any {w : World} (n k : Int) (hg : Good w) : Calls Tryz.prog 11 #[.int .i64 n, .int .i64 k] w
    (RetV w (.tuple #[.string ⟨(if cnt n k = 0 then itoa (chz n k.toNat) else []).toArray⟩, .int .i64 (cnt n k)])) := by
  have hc := counts_any (w := w) n k
  by_cases h0 : cnt n k = 0
  · obtain ⟨a, b, rfl, rfl, ha, hb⟩ := cnt_ok h0
    rw [h0] at hc ⊢
    rw [if_pos rfl, Int.toNat_natCast]
    have HC := Lib.hid hc
    have hz := (chz_len (n := a) (by omega) b hb).2
    have ht := fun (V : World) v h hh => text_any (w := V) (v := v) (n := chz a b) h (Fit.of_len hz (by omega)) (hg.below hh)
    have HT := Lib.hid ht
    have hch := fun (V : World) => choices_any (w := V) a b (by omega) hb
    have HCH := Lib.hid hch
    generalize chz a b = z at *
    generalize (⟨(itoa z).toArray⟩ : ByteArray) = T at *
    clear hc ht h0 hz hch hg
    go_enter Tryz.func11, Tryz.ntmps11
    go_wp2_with (first
      | (go_at_call 37; refine HC.out.mono ?_; rintro e w1 ⟨rfl, hb1⟩)
      | (go_at_call 38; refine (HCH.out _).mono ?_; rintro e w2 ⟨r, rfl, hr, hb2⟩)
      | (go_at_call 39; refine (HT.out _ _ hr (next_below hb1 hb2)).mono ?_; rintro e w3 ⟨rfl, hb3⟩))
    go_ret2
    exact ⟨rfl, next_below (next_below hb1 hb2) hb3⟩
  · rw [if_neg h0]
    generalize cnt n k = er at *
    have hb : (er != 0) = true := by simpa using h0
    have HC := Lib.hid hc
    clear hc hg
    go_enter Tryz.func11, Tryz.ntmps11
    go_wp2_with (go_at_call 37; refine HC.out.mono ?_; rintro e w1 ⟨rfl, hb1⟩)
    go_ret2
    exact ⟨rfl, hb1⟩

/-- The upper tail. -/
def UV (n k : Nat) (x : Rat) : Rat := Rat.divInt (sumz (fun i => massz n x.num x.den (k + i)) (n + 1 - k)) ((x.den : Int) ^ n)

/-- Both parts of a number are short. -/
def OneLimb (x : Rat) : Prop := (limbs x.num.natAbs).length ≤ 1 ∧ (limbs (x.den : Int).natAbs).length ≤ 1

theorem uv_sz {n k : Nat} {x : Rat} (hn : n ≤ 1000) (h : OneLimb x) : Sz 10000 (UV n k x) := by
  have hfl : ∀ i, i < n + 1 - k → (limbs (massz n x.num x.den (k + i)).natAbs).length ≤ 5000 := fun i hi => massz_len hn h.1 h.2 _ (by omega)
  have h1 := sumz_len (f := fun i => massz n x.num x.den (k + i)) (by omega) hfl (n + 1 - k) (Nat.le_refl _)
  have h2 := len_pow h.2 n
  exact Sz.make (Int.pow_ne_zero (den_ne x)) (Nat.le_trans h1 (by omega)) (Nat.le_trans h2 (by omega))

theorem sz_sub {k : Nat} {x y : Rat} (hx : Sz k x) (hy : Sz k y) : Sz (k + k + 1) (x - y) := by
  rw [Rat.sub_eq_add_neg]; exact hx.add hy.neg

theorem limb_of_digits {m : Nat} (h : nDigits m ≤ 4) : (limbs m).length ≤ 1 := by
  have h1 := Go.Lib.lt_pow_nDigits m
  have h2 : 10 ^ nDigits m ≤ 10 ^ 4 := Nat.pow_le_pow_right (by omega) h
  have h3 := limbs_len_mono (a := m) (b := 9999) (by omega)
  have h4 : (limbs 9999).length = 1 := by decide +kernel
  omega

theorem chErr_ok {ends : Bool} {l : List UInt8} (h : chErr ends l = 0) : OneLimb (rval l) := by
  unfold chErr at h
  split at h
  · split at h
    · exact absurd h (by decide)
    · rename_i h1 h2
      have hs : rshort l = true := by
        cases hs : rshort l
        · rw [hs] at h2; simp [noChance] at h2
        · rfl
      unfold rshort at hs
      simp only [Bool.and_eq_true, decide_eq_true_eq] at hs
      exact ⟨limb_of_digits (by omega), limb_of_digits (by omega)⟩
  · rename_i h1; exact absurd h h1

/-- The error of Mass and Least. -/
def errM (n k : Int) (l : List UInt8) : Int := if cnt n k = 0 then chErr true l else cnt n k

set_option maxHeartbeats 1000000 in
theorem least_any {w : World} (n k : Int) (l : List UInt8) (hl : l.length ≤ 268435000) (hg : Good w) : Calls Tryz.prog 14 #[.int .i64 n, .int .i64 k, .string ⟨l.toArray⟩] w
    (RetV w (.tuple #[.string ⟨(if errM n k l = 0 then ratText (UV n.toNat k.toNat (rval l)) else []).toArray⟩, .int .i64 (errM n k l)])) := by
  have hc := counts_any (w := w) n k
  have hch := fun (V : World) hh => chance_any (w := V) l true hl (hg.below hh)
  unfold errM
  by_cases h0 : cnt n k = 0
  · obtain ⟨a, b, rfl, rfl, ha, hb⟩ := cnt_ok h0
    rw [h0] at hc ⊢
    rw [if_pos rfl, Int.toNat_natCast, Int.toNat_natCast]
    have HC := Lib.hid hc
    by_cases h1 : chErr true l = 0
    · have ho := chErr_ok h1
      rw [h1] at hch ⊢
      rw [if_pos rfl]
      have hsz := uv_sz (n := a) (k := b) (by omega) ho
      have hup := fun (V : World) v h => upper_any (w := V) (v := v) (x := rval l) a b (by omega) (by omega) ho.1 ho.2 h
      have hup : ∀ (V : World) v, Nm V v (rval l) → Calls Tryz.prog 41 #[.int .i64 a, .int .i64 b, v] V (RetN V (UV a b (rval l))) := hup
      generalize UV a b (rval l) = u at *
      generalize rval l = x at *
      have ht := fun (V : World) v h hh => num_text (w := V) (v := v) (x := u) h (hsz.mono (by omega)) (hg.below hh)
      have HT := Lib.hid ht
      have HCH := Lib.hid hch
      have HUP := Lib.hid hup
      generalize (⟨(ratText u).toArray⟩ : ByteArray) = T at *
      generalize (⟨l.toArray⟩ : ByteArray) = S at *
      clear hc ht h0 hsz hch hg hup ho h1 hl
      go_enter Tryz.func14, Tryz.ntmps14
      go_upto_region 5 with (first
        | (go_at_call 37; refine HC.out.mono ?_; rintro e w1 ⟨rfl, hb1⟩)
        | (go_at_call 40; refine (HCH.out _ hb1).mono ?_; rintro e w2 ⟨b2, a2, k2, p2, c2, f2, l2, q2, rfl, hn, hb2⟩))
      have hx2 := (hn (by first | rfl | trivial)).below ((Below.refl _ _).alloc (Nat.le_refl _) (.cells #[.bool b2, .slice a2 k2 p2, .bool c2, .slice f2 l2 q2] 69))
      have g2 := Blk.new w2 69 #[.bool b2, .slice a2 k2 p2, .bool c2, .slice f2 l2 q2]
      have hb3 : Below w.heap.size w (w2.alloc (.cells #[.bool b2, .slice a2 k2 p2, .bool c2, .slice f2 l2 q2] 69)) := (next_below hb1 hb2).alloc (next_below hb1 hb2).size _
      clear hn hb1 hb2
      generalize w2.heap.size = z9 at *
      generalize (w2.alloc (.cells #[.bool b2, .slice a2 k2 p2, .bool c2, .slice f2 l2 q2] 69)) = w3 at *
      obtain ⟨x0, x1, x2, x3⟩ := g2.at4
      go_wp2_with (first
        | (go_at_call 41; refine (HUP.out _ _ hx2).mono ?_; rintro e w4 ⟨r, rfl, hr, hb4⟩)
        | (go_at_call 43; refine (HT.out _ _ hr (next_below hb3 hb4)).mono ?_; rintro e w5 ⟨rfl, hb5⟩))
      go_ret2
      exact ⟨rfl, next_below (next_below hb3 hb4) hb5⟩
    · rw [if_neg h1]
      generalize chErr true l = er at *
      generalize rval l = x at *
      have hb : (er != 0) = true := by simpa using h1
      have HCH := Lib.hid hch
      clear hc hg hch hl
      generalize (⟨l.toArray⟩ : ByteArray) = S at *
      go_enter Tryz.func14, Tryz.ntmps14
      go_wp2_with (first
        | (go_at_call 37; refine HC.out.mono ?_; rintro e w1 ⟨rfl, hb1⟩)
        | (go_at_call 40; refine (HCH.out _ hb1).mono ?_; rintro e w2 ⟨b2, a2, k2, p2, c2, f2, l2, q2, rfl, hn, hb2⟩; clear hn))
      go_ret2
      exact ⟨rfl, (next_below hb1 hb2).alloc (next_below hb1 hb2).size _⟩
  · rw [if_neg h0, if_neg h0]
    generalize cnt n k = er at *
    have hb : (er != 0) = true := by simpa using h0
    have HC := Lib.hid hc
    clear hc hg hch hl
    generalize (⟨l.toArray⟩ : ByteArray) = S at *
    go_enter Tryz.func14, Tryz.ntmps14
    go_wp2_with (go_at_call 37; refine HC.out.mono ?_; rintro e w1 ⟨rfl, hb1⟩)
    go_ret2
    exact ⟨rfl, hb1⟩

set_option maxHeartbeats 1000000 in
theorem mass_any {w : World} (n k : Int) (l : List UInt8) (hl : l.length ≤ 268435000) (hg : Good w) : Calls Tryz.prog 12 #[.int .i64 n, .int .i64 k, .string ⟨l.toArray⟩] w
    (RetV w (.tuple #[.string ⟨(if errM n k l = 0 then ratText (UV n.toNat k.toNat (rval l) - UV n.toNat (k.toNat + 1) (rval l)) else []).toArray⟩, .int .i64 (errM n k l)])) := by
  have hc := counts_any (w := w) n k
  have hch := fun (V : World) hh => chance_any (w := V) l true hl (hg.below hh)
  unfold errM
  by_cases h0 : cnt n k = 0
  · obtain ⟨a, b, rfl, rfl, ha, hb⟩ := cnt_ok h0
    rw [h0] at hc ⊢
    rw [if_pos rfl, Int.toNat_natCast, Int.toNat_natCast]
    have HC := Lib.hid hc
    by_cases h1 : chErr true l = 0
    · have ho := chErr_ok h1
      rw [h1] at hch ⊢
      rw [if_pos rfl]
      have hsz := uv_sz (n := a) (k := b) (by omega) ho
      have hsz2 := uv_sz (n := a) (k := b + 1) (by omega) ho
      have hup := fun (V : World) v h => upper_any (w := V) (v := v) (x := rval l) a b (by omega) (by omega) ho.1 ho.2 h
      have hup : ∀ (V : World) v, Nm V v (rval l) → Calls Tryz.prog 41 #[.int .i64 a, .int .i64 b, v] V (RetN V (UV a b (rval l))) := hup
      have hup2 := fun (V : World) v h => upper_any (w := V) (v := v) (x := rval l) a (b + 1) (by omega) (by omega) ho.1 ho.2 h
      have hup2 : ∀ (V : World) v, Nm V v (rval l) → Calls Tryz.prog 41 #[.int .i64 a, .int .i64 (b + 1 : Nat), v] V (RetN V (UV a (b + 1) (rval l))) := hup2
      rw [Int.natCast_add, show ((1 : Nat) : Int) = 1 from rfl] at hup2
      generalize UV a b (rval l) = u at *
      generalize UV a (b + 1) (rval l) = u2 at *
      have HS := Lib.hid (And.intro hsz hsz2)
      generalize rval l = x at *
      have ht := fun (V : World) v h hh => num_text (w := V) (v := v) (x := u - u2) h ((sz_sub hsz hsz2).mono (by omega)) (hg.below hh)
      have HT := Lib.hid ht
      have HCH := Lib.hid hch
      have HUP := Lib.hid hup
      generalize (⟨(ratText (u - u2)).toArray⟩ : ByteArray) = T at *
      have HUP2 := Lib.hid hup2
      generalize (⟨l.toArray⟩ : ByteArray) = S at *
      clear hc ht h0 hsz hsz2 hch hg hup hup2 ho h1 hl
      go_enter Tryz.func12, Tryz.ntmps12
      go_upto_region 5 with (first
        | (go_at_call 37; refine HC.out.mono ?_; rintro e w1 ⟨rfl, hb1⟩)
        | (go_at_call 40; refine (HCH.out _ hb1).mono ?_; rintro e w2 ⟨b2, a2, k2, p2, c2, f2, l2, q2, rfl, hn, hb2⟩))
      have hx2 := (hn (by first | rfl | trivial)).below ((Below.refl _ _).alloc (Nat.le_refl _) (.cells #[.bool b2, .slice a2 k2 p2, .bool c2, .slice f2 l2 q2] 69))
      have g2 := Blk.new w2 69 #[.bool b2, .slice a2 k2 p2, .bool c2, .slice f2 l2 q2]
      have hb3 : Below w.heap.size w (w2.alloc (.cells #[.bool b2, .slice a2 k2 p2, .bool c2, .slice f2 l2 q2] 69)) := (next_below hb1 hb2).alloc (next_below hb1 hb2).size _
      clear hn hb1 hb2
      generalize w2.heap.size = z9 at *
      generalize (w2.alloc (.cells #[.bool b2, .slice a2 k2 p2, .bool c2, .slice f2 l2 q2] 69)) = w3 at *
      obtain ⟨x0, x1, x2, x3⟩ := g2.at4
      go_upto_region 7 with fail
      have HX := Lib.hid hx2
      have hB0 : Below w3.heap.size w3 w3.drew := (Below.refl _ _).drew
      refine wp_region_list 11 (by kernel_rfl) (by kernel_rfl) [] [fun v _ => v = .int .i64 a, fun v _ => v = .int .i64 b, fun v _ => v = .agg #[.bool b2, .slice a2 k2 p2, .bool c2, .slice f2 l2 q2], fun v w' => Nm w' v (u), fun v _ => v = .int .i64 a, fun v _ => v = .int .i64 b, fun v _ => v = .int .i64 ((b : Int) + 1), fun v _ => v = .agg #[.bool b2, .slice a2 k2 p2, .bool c2, .slice f2 l2 q2], fun v w' => Nm w' v (u2), fun v w' => Nm w' v (u - u2), fun v _ => v = .string T] (by simp only [List.take_succ_cons, List.take_zero]; rfl) (by simp only [List.drop_succ_cons, List.drop_zero]; rfl) (fun vals => by simp only [fam, Act.put, List.setIfInBounds_toArray, List.set_cons_zero, List.set_cons_succ, if_true]; rfl) (by repeat' (first | exact Stab.eq _ _ | exact Stab.wh _ _ | exact Stab.nm _ _ | exact Stab.new _ _ | exact Stab.newn _ _ | exact Stab.tw _ _ _ | exact trivial | apply And.intro)) trivial ?_ ?_
      · refine ⟨?_, ?_, ?_, ?_, ?_, ?_, ?_, ?_, ?_, ?_, ?_, trivial⟩
        all_goals
          intro vals w4 hB hp
          dsimp only
          (try simp [preOk, Region.binds] at hp)
          have hbb := next_below hB0 hB
          obtain ⟨y0, y1, y2, y3⟩ := (g2.next hbb).at4
          clear hB x0 x1 x2 x3
        case refine_4 =>
          obtain ⟨q0, q1, q2⟩ := hp
          generalize vals 0 = t0 at *
          subst q0
          generalize vals 1 = t1 at *
          subst q1
          generalize vals 2 = t2 at *
          subst q2
          go_wp2_with (go_at_call 41; refine (HUP.out _ _ (HX.out.below hbb)).mono ?_; rintro e w5 ⟨r, rfl, hr, hb5⟩)
          exact ⟨rfl, _, rfl, hr, hb5, trivial⟩
        case refine_7 =>
          generalize vals 5 = t5 at *
          subst hp
          go_wp2
          exact ⟨rfl, _, rfl, rfl, Below.refl _ _, trivial⟩
        case refine_9 =>
          obtain ⟨q0, q1, q2, q3⟩ := hp
          generalize vals 4 = t0 at *
          subst q0
          generalize vals 6 = t1 at *
          subst q1
          generalize vals 7 = t2 at *
          subst q2
          go_wp2_with (go_at_call 41; refine (HUP2.out _ _ (HX.out.below hbb)).mono ?_; rintro e w5 ⟨r, rfl, hr, hb5⟩)
          exact ⟨rfl, _, rfl, hr, hb5, trivial⟩
        case refine_10 =>
          obtain ⟨q0, q1⟩ := hp
          go_wp2_with (go_at_call 42; refine (num_sub q0 q1 (HS.out.1.mono (by omega)) (HS.out.2.mono (by omega))).mono ?_; rintro e w5 ⟨r, rfl, hr, hb5⟩)
          exact ⟨rfl, _, rfl, hr, hb5, trivial⟩
        case refine_11 =>
          go_wp2_with (go_at_call 43; refine (HT.out _ _ hp (next_below hb3 hbb)).mono ?_; rintro e w5 ⟨rfl, hb5⟩)
          exact ⟨rfl, _, rfl, rfl, hb5, trivial⟩
        all_goals
          go_wp2
          (first | exact ⟨rfl, _, rfl, rfl, Below.refl _ _, trivial⟩ | (refine ⟨rfl, _, ?_, rfl, Below.refl _ _, trivial⟩; simp only [Act.put, List.setIfInBounds_toArray, List.set_cons_zero, List.set_cons_succ, hp]))
      · rintro vals w4 hB ⟨p0, p1, p2, p3, p4, p5, p6, p7, p8, p9, p10, _⟩ hne
        have hbb := next_below hB0 hB
        simp at p10
        generalize vals 10 = v10 at *
        subst p10
        clear hne p0 p1 p2 p3 p4 p5 p6 p7 p8 p9 x0 x1 x2 x3
        go_wp2
        go_ret2
        exact ⟨rfl, next_below hb3 hbb⟩
    · rw [if_neg h1]
      generalize chErr true l = er at *
      generalize rval l = x at *
      have hb : (er != 0) = true := by simpa using h1
      have HCH := Lib.hid hch
      clear hc hg hch hl
      generalize (⟨l.toArray⟩ : ByteArray) = S at *
      go_enter Tryz.func12, Tryz.ntmps12
      go_wp2_with (first
        | (go_at_call 37; refine HC.out.mono ?_; rintro e w1 ⟨rfl, hb1⟩)
        | (go_at_call 40; refine (HCH.out _ hb1).mono ?_; rintro e w2 ⟨b2, a2, k2, p2, c2, f2, l2, q2, rfl, hn, hb2⟩; clear hn))
      go_ret2
      exact ⟨rfl, (next_below hb1 hb2).alloc (next_below hb1 hb2).size _⟩
  · rw [if_neg h0, if_neg h0]
    generalize cnt n k = er at *
    have hb : (er != 0) = true := by simpa using h0
    have HC := Lib.hid hc
    clear hc hg hch hl
    generalize (⟨l.toArray⟩ : ByteArray) = S at *
    go_enter Tryz.func12, Tryz.ntmps12
    go_wp2_with (go_at_call 37; refine HC.out.mono ?_; rintro e w1 ⟨rfl, hb1⟩)
    go_ret2
    exact ⟨rfl, hb1⟩

end Go.Proofs.YtmhneibcbjgedaaGreatDoor
