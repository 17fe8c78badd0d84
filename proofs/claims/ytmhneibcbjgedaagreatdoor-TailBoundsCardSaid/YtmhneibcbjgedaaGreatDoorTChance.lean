/- The contracts of tail.counts and tail.chance. -/
import Derived.Test.YtmhneibcbjgedaaGreatDoorTPow
import Derived.Test.YtmhneibcbjgedaaGreatDoorCanon
set_option linter.unusedSimpArgs false
set_option linter.unusedVariables false
namespace Go.Proofs.YtmhneibcbjgedaaGreatDoor
open Go.RowKit

/-- The error of trials and successes. -/
def cnt (n k : Int) : Int := if 0 ≤ n ∧ n ≤ 200 ∧ 0 ≤ k ∧ k ≤ n then 0 else 2

set_option maxHeartbeats 1000000 in
theorem counts_any {w : World} (n k : Int) : Calls Tryz.prog 37 #[.int .i64 n, .int .i64 k] w (RetV w (.int .i64 (cnt n k))) := by
  have e : cnt n k = (if ([(n, 200), (k, n)] : List (Int × Int)).all inLim then 0 else 2) := by
    unfold cnt inLim
    simp only [List.all_cons, List.all_nil, Bool.and_true, Bool.and_eq_true, decide_eq_true_eq, and_assoc]
  rw [e]
  have hb := Blk.new w 111 #[.int .i64 n, .int .i64 200, .int .i64 k, .int .i64 n]
  have ht := tcheck_any (w := w.alloc (.cells #[.int .i64 n, .int .i64 200, .int .i64 k, .int .i64 n] 111)) (b := w.heap.size) (cap := 2) [(n, 200), (k, n)] 2 rfl (by omega) (fun i hi => by
    have h0 := hb.cell 0
    have h1 := hb.cell 1
    have h2 := hb.cell 2
    have h3 := hb.cell 3
    match i, hi with
    | 0, _ => exact ⟨h0, h1⟩
    | 1, _ => exact ⟨h2, h3⟩)
  generalize (if ([(n, 200), (k, n)] : List (Int × Int)).all inLim then (0 : Int) else 2) = res at *
  have HT := Lib.hid ht
  clear ht hb e
  go_enter Tryz.func37, Tryz.ntmps37
  go_wp2_with (go_at_call 82; refine HT.out.mono ?_; rintro e w1 ⟨rfl, hb1⟩)
  go_ret
  exact ⟨rfl, next_below ((Below.refl _ _).alloc (Nat.le_refl _) _) hb1⟩

theorem divInt_red {m n : Int} (hn : 1 < n) (hg : Nat.gcd m.natAbs n.natAbs = 1) : m = (Rat.divInt m n).num ∧ n = (Rat.divInt m n).den := by
  have h1 : Int.gcd n m = 1 := by unfold Int.gcd; rw [Nat.gcd_comm]; exact hg
  have h2 : n.sign = 1 := Int.sign_eq_one_of_pos (by omega)
  refine ⟨?_, ?_⟩
  · rw [Rat.num_divInt, h1, h2]; simp
  · rw [Rat.den_divInt, if_neg (by omega), h1]; simp; omega

theorem nm_int {w : World} {v : Value} {m : Int} (h : Pr w v m 1) : Nm w v (m : Rat) := h.nm (by simp) (by simp)

/-- exact.From at a text that is a number. -/
theorem from_any {w : World} (l : List UInt8) (hl : l.length ≤ 268435000) (h0 : rerr l = 0) (hg : Good w) :
    Calls Tryz.prog 91 #[.string ⟨l.toArray⟩] w (RetN w (rval l)) := by
  unfold rerr at h0
  unfold rval
  rcases cut_cases l with hc | ⟨n, d, hc, hs⟩
  · rw [hc] at h0 ⊢
    simp only [Bool.false_eq_true, if_false] at h0 ⊢
    by_cases h5 : wcheck l = 5
    · rw [if_pos h5] at h0; exact absurd h0 (by decide)
    · obtain ⟨neg, ds, e1, e2, e3, e4⟩ := wcheck_form h5
      rw [e4]
      have a1 := sgnd_ge neg ds
      rw [← e1] at a1
      have h := from_whole (w := w) neg e2 (by omega) hg
      rw [← e1] at h
      exact h.mono fun e w' ⟨r, h1, h2, h3⟩ => ⟨r, h1, nm_int h2, h3⟩
  · rw [hc] at h0 ⊢
    simp only [if_true] at h0 ⊢
    have hln : n.length + d.length ≤ 268435000 := by rw [hs] at hl; simp at hl; omega
    by_cases h5 : wcheck n = 5 ∨ wcheck d = 5
    · rw [if_pos h5] at h0; exact absurd h0 (by decide)
    · rw [if_neg h5] at h0
      obtain ⟨h1, h2⟩ := not_or.1 h5
      obtain ⟨neg, ds, e1, e2, e3, e4⟩ := wcheck_form h1
      obtain ⟨neg2, es, f1, f2, f3, f4⟩ := wcheck_form h2
      have a1 := sgnd_ge neg ds
      have a2 := sgnd_ge neg2 es
      rw [← e1] at a1
      rw [← f1] at a2
      by_cases hd : sread d ≤ 1 ∨ Nat.gcd (sread n).natAbs (sread d).natAbs ≠ 1
      · rw [if_pos hd] at h0; exact absurd h0 (by decide)
      · have hd1 : ¬ sread d ≤ 1 := fun h => hd (.inl h)
        have hd2 : Nat.gcd (sread n).natAbs (sread d).natAbs = 1 := Classical.byContradiction fun h => hd (.inr h)
        have h := from_frac (w := w) neg neg2 e2 f2 (by omega) hg
        rw [← e1, ← f1, ← hs, ← e4, ← f4] at h
        have h3 := divInt_red (by omega) hd2
        exact h.mono fun e w' ⟨r, g1, g2, g3⟩ => ⟨r, g1, g2.nm h3.1 h3.2, g3⟩

/-- Is a number no chance? -/
def noChance (sh ends : Bool) (s c : Int) : Bool := !sh || decide (s < 0) || decide (0 < c) || (!ends && (decide (s = 0) || decide (c = 0)))

/-- The error of a chance. -/
def chErr (ends : Bool) (l : List UInt8) : Int :=
  if rerr l = 0 then (if noChance (rshort l) ends (rval l).num.sign (rcmp (rval l) 1) then 2 else 0) else rerr l

/-- What chance hands back. -/
def RetC (w : World) (err : Int) (x : Rat) (e : Ending) (w' : World) : Prop :=
  ∃ b a, ∃ k p : Nat, ∃ c f, ∃ l q : Nat, e = .returned (.tuple #[.agg #[.bool b, .slice a k p, .bool c, .slice f l q], .int .i64 err]) ∧ (err = 0 → Nm w' (.agg #[.bool b, .slice a k p, .bool c, .slice f l q]) x) ∧ Below w.heap.size w w'

theorem sz_one : Sz 268435456 1 := ⟨Nat.le_trans (limbs_len_le (k := 1) (by decide)) (by omega), Nat.le_trans (limbs_len_le (k := 1) (by decide)) (by omega)⟩

set_option maxHeartbeats 2000000 in
set_option maxRecDepth 100000 in
theorem chance_any {w : World} (l : List UInt8) (ends : Bool) (hl : l.length ≤ 268435000) (hg : Good w) :
    Calls Tryz.prog 40 #[.string ⟨l.toArray⟩, .bool ends] w (RetC w (chErr ends l) (rval l)) := by
  obtain ⟨W, hW, hB, hsz, j4⟩ := entA w 69 #[.bool false, .slice none 0 0, .bool false, .slice none 0 0]
  have HW := Lib.hid hW
  have HSZ := Lib.hid hsz
  have HBB := Lib.hid hB
  clear hW hsz
  have hc := rcheck_any (w := W) l hl (hg.below hB)
  have hf := fun (V : World) hb h0 => from_any (w := V) l hl h0 ((hg.below hB).below hb)
  have hs := fun (V : World) hb => rshort_any (w := V) l hl ((hg.below hB).below hb)
  have hz := fun h0 => rval_sz (l := l) hl h0
  unfold chErr
  generalize rerr l = er at *
  generalize rval l = x at *
  generalize rshort l = sh at *
  generalize (⟨l.toArray⟩ : ByteArray) = S at *
  have HC := Lib.hid hc
  clear hc hl hg
  by_cases h0 : er = 0
  · rw [if_pos h0]
    subst h0
    have hz := hz rfl
    have HF := Lib.hid (fun (V : World) hb => hf V hb rfl)
    have HS := Lib.hid hs
    have HZ := Lib.hid hz
    clear hf hs hz
    obtain ⟨sx, hsx⟩ : ∃ sx, x.num.sign = sx := ⟨_, rfl⟩
    obtain ⟨cx, hcx⟩ : ∃ cx, rcmp x 1 = cx := ⟨_, rfl⟩
    have hsg := fun (V : World) v h => num_sign (w := V) (v := v) (x := x) h
    have hcm := fun (V : World) v u h1 h2 => num_cmp (w := V) (v0 := v) (v1 := u) (x := x) (y := 1) h1 h2 HZ.out sz_one
    rw [hsx] at hsg
    rw [hcx] at hcm
    rw [hsx, hcx]
    have HSG := Lib.hid hsg
    have HCM := Lib.hid hcm
    clear hsx hcx hsg hcm
    obtain ⟨res, hres⟩ : ∃ res : Int, res = (if noChance sh ends sx cx then 2 else 0) := ⟨_, rfl⟩
    rw [← hres]
    have HRES := Lib.hid hres
    clear hres
    go_enter Tryz.func40, Tryz.ntmps40
    go_upto_region 1 with fail
    rw [← HW.out]
    go_upto_region 5 with (first
      | (go_at_call 90; refine HC.out.mono ?_; rintro e w1 ⟨rfl, hb1⟩)
      | (go_at_call 91; refine (HF.out _ hb1).mono ?_; rintro e w2 ⟨r, rfl, hr, hb2⟩; obtain ⟨b, a, k, p, c, f, l, q, rfl, n0, d0⟩ := hr.parts))
    have j4' := (j4.next hb1).next hb2
    have g7 := Blk.new w2 69 #[.bool b, .slice a k p, .bool c, .slice f l q]
    have hb7 : Below W.heap.size W (w2.alloc (.cells #[.bool b, .slice a k p, .bool c, .slice f l q] 69)) := (next_below hb1 hb2).alloc (next_below hb1 hb2).size _
    have j7 := j4'.alloc (.cells #[.bool b, .slice a k p, .bool c, .slice f l q] 69)
    have hn := hr.below ((Below.refl _ _).alloc (Nat.le_refl _) (.cells #[.bool b, .slice a k p, .bool c, .slice f l q] 69))
    have HN := Lib.hid hn
    have hz7 := (next_below hb1 hb2).size
    clear hr n0 d0 hn hb1 hb2 j4'
    generalize w2.heap.size = z7 at *
    generalize (w2.alloc (.cells #[.bool b, .slice a k p, .bool c, .slice f l q] 69)) = w3 at *
    obtain ⟨y0, y1, y2, y3⟩ := g7.at4
    have hB0 : Below w3.heap.size w3 w3.drew := (Below.refl _ _).drew
    refine wp_region_list 5 (by kernel_rfl) (by kernel_rfl) [] [fun v _ => v = .agg #[.bool b, .slice a k p, .bool c, .slice f l q], fun v _ => v = .int .i64 sx, fun v _ => v = .agg #[.bool b, .slice a k p, .bool c, .slice f l q], fun v w' => Nm w' v (1), fun v _ => v = .int .i64 cx] (by simp only [List.take_succ_cons, List.take_zero]; rfl) (by simp only [List.drop_succ_cons, List.drop_zero]; rfl) (fun vals => by simp only [fam, Act.put, List.setIfInBounds_toArray, List.set_cons_zero, List.set_cons_succ, if_true]; rfl) (by repeat' (first | exact Stab.eq _ _ | exact Stab.wh _ _ | exact Stab.nm _ _ | exact Stab.new _ _ | exact Stab.newn _ _ | exact Stab.tw _ _ _ | exact trivial | apply And.intro)) trivial ?_ ?_
    · refine ⟨?_, ?_, ?_, ?_, ?_, trivial⟩
      all_goals
        intro vals w4 hB hp
        dsimp only
        (try simp [preOk, Region.binds] at hp)
        have hb := next_below hB0 hB
        obtain ⟨x0, x1, x2, x3⟩ := (g7.next hb).at4
        clear hB y0 y1 y2 y3
      case refine_2 =>
        generalize vals 0 = x0 at *
        subst hp
        go_wp2_with (go_at_call 77; refine (HSG.out _ _ (HN.out.below hb)).mono ?_; rintro e w5 ⟨rfl, hb5⟩)
        exact ⟨rfl, _, rfl, rfl, hb5, trivial⟩
      case refine_4 =>
        generalize vals 1 = x1 at *
        subst hp
        go_wp2_with (go_at_call 92; refine one_any.mono ?_; rintro e w5 ⟨r, rfl, hr, hb5⟩)
        exact ⟨rfl, _, rfl, hr, hb5, trivial⟩
      case refine_5 =>
        obtain ⟨q0, q1⟩ := hp
        generalize vals 2 = x2 at *
        subst q0
        go_wp2_with (go_at_call 49; refine (HCM.out _ _ _ (HN.out.below hb) q1).mono ?_; rintro e w5 ⟨rfl, hb5⟩)
        exact ⟨rfl, _, rfl, rfl, hb5, trivial⟩
      all_goals
        go_wp2
        (first | exact ⟨rfl, _, rfl, rfl, Below.refl _ _, trivial⟩ | (refine ⟨rfl, _, ?_, rfl, Below.refl _ _, trivial⟩; simp only [Act.put, List.setIfInBounds_toArray, List.set_cons_zero, List.set_cons_succ, hp]))
    · rintro vals w4 hB ⟨p0, p1, p2, p3, p4, _⟩ hne
      have hb := next_below hB0 hB
      simp at p1 p4
      generalize vals 1 = v1 at *
      generalize vals 4 = v4 at *
      subst p1
      subst p4
      have j9 := j7.next hb
      have g9 := g7.next hb
      have HK := Lib.hid (next_below hb7 hb)
      have HN9 := Lib.hid (HN.out.below hb)
      clear hne p0 p2 p3 y0 y1 y2 y3 hb hB hB0
      generalize vals 0 = v0 at *
      generalize vals 2 = v2 at *
      generalize vals 3 = v3 at *
      have hsh := HS.out _ HK.out
      rcases sh with _ | _
      · have hr2 : res = 2 := by rw [HRES.out]; simp [noChance, *]
        have HR2 := Lib.hid hr2
        clear hr2 HRES
        go_wp2_with (go_at_call 93; refine hsh.mono ?_; rintro e w6 ⟨rfl, hb6⟩; have j6 := j9.next hb6; obtain ⟨q0, q1, q2, q3⟩ := j6.at4; obtain ⟨u0, u1, u2, u3⟩ := j6.fr4)
        have hj := j6.four (.bool false) (.slice none 0 0) (.bool false) (.slice none 0 0)
        obtain ⟨d0, d1, d2, d3⟩ := hj.at4
        refine bodyPost_ret (v := .tuple #[.agg #[.bool false, .slice none 0 0, .bool false, .slice none 0 0], .int .i64 2]) (by simp [results, Tryz.results40, go_sem, d0, d1, d2, d3]) rfl ⟨_, _, _, _, _, _, _, _, by rw [HR2.out], fun h => absurd (HR2.out.symm.trans h) (by decide), below_four (HBB.out.trans ((next_below HK.out hb6).mono HBB.out.size)) (Nat.le_refl _) _ _ _ _⟩
      · by_cases h1 : sx < 0
        · have h1b : decide (sx < 0) = true := by simpa using h1
          have hr2 : res = 2 := by rw [HRES.out]; simp [noChance, *]
          have HR2 := Lib.hid hr2
          clear hr2 HRES
          go_wp2_with (go_at_call 93; refine hsh.mono ?_; rintro e w6 ⟨rfl, hb6⟩; have j6 := j9.next hb6; obtain ⟨q0, q1, q2, q3⟩ := j6.at4; obtain ⟨u0, u1, u2, u3⟩ := j6.fr4)
          have hj := j6.four (.bool false) (.slice none 0 0) (.bool false) (.slice none 0 0)
          obtain ⟨d0, d1, d2, d3⟩ := hj.at4
          refine bodyPost_ret (v := .tuple #[.agg #[.bool false, .slice none 0 0, .bool false, .slice none 0 0], .int .i64 2]) (by simp [results, Tryz.results40, go_sem, d0, d1, d2, d3]) rfl ⟨_, _, _, _, _, _, _, _, by rw [HR2.out], fun h => absurd (HR2.out.symm.trans h) (by decide), below_four (HBB.out.trans ((next_below HK.out hb6).mono HBB.out.size)) (Nat.le_refl _) _ _ _ _⟩
        · by_cases h2 : 0 < cx
          · have h2b : decide (0 < cx) = true := by simpa using h2
            have hr2 : res = 2 := by rw [HRES.out]; simp [noChance, *]
            have HR2 := Lib.hid hr2
            clear hr2 HRES
            go_wp2_with (go_at_call 93; refine hsh.mono ?_; rintro e w6 ⟨rfl, hb6⟩; have j6 := j9.next hb6; obtain ⟨q0, q1, q2, q3⟩ := j6.at4; obtain ⟨u0, u1, u2, u3⟩ := j6.fr4)
            have hj := j6.four (.bool false) (.slice none 0 0) (.bool false) (.slice none 0 0)
            obtain ⟨d0, d1, d2, d3⟩ := hj.at4
            refine bodyPost_ret (v := .tuple #[.agg #[.bool false, .slice none 0 0, .bool false, .slice none 0 0], .int .i64 2]) (by simp [results, Tryz.results40, go_sem, d0, d1, d2, d3]) rfl ⟨_, _, _, _, _, _, _, _, by rw [HR2.out], fun h => absurd (HR2.out.symm.trans h) (by decide), below_four (HBB.out.trans ((next_below HK.out hb6).mono HBB.out.size)) (Nat.le_refl _) _ _ _ _⟩
          · rcases ends with _ | _
            · by_cases h3 : sx = 0
              · have h3b : (sx == 0) = true := by simpa using h3
                have hr2 : res = 2 := by rw [HRES.out]; simp [noChance, *]
                have HR2 := Lib.hid hr2
                clear hr2 HRES
                go_wp2_with (go_at_call 93; refine hsh.mono ?_; rintro e w6 ⟨rfl, hb6⟩; have j6 := j9.next hb6; obtain ⟨q0, q1, q2, q3⟩ := j6.at4; obtain ⟨u0, u1, u2, u3⟩ := j6.fr4)
                have hj := j6.four (.bool false) (.slice none 0 0) (.bool false) (.slice none 0 0)
                obtain ⟨d0, d1, d2, d3⟩ := hj.at4
                refine bodyPost_ret (v := .tuple #[.agg #[.bool false, .slice none 0 0, .bool false, .slice none 0 0], .int .i64 2]) (by simp [results, Tryz.results40, go_sem, d0, d1, d2, d3]) rfl ⟨_, _, _, _, _, _, _, _, by rw [HR2.out], fun h => absurd (HR2.out.symm.trans h) (by decide), below_four (HBB.out.trans ((next_below HK.out hb6).mono HBB.out.size)) (Nat.le_refl _) _ _ _ _⟩
              · have h3b : (sx == 0) = false := by simpa using h3
                by_cases h4 : cx = 0
                · have h4b : (cx == 0) = true := by simpa using h4
                  have hr2 : res = 2 := by rw [HRES.out]; simp [noChance, *]
                  have HR2 := Lib.hid hr2
                  clear hr2 HRES
                  go_wp2_with (go_at_call 93; refine hsh.mono ?_; rintro e w6 ⟨rfl, hb6⟩; have j6 := j9.next hb6; obtain ⟨q0, q1, q2, q3⟩ := j6.at4; obtain ⟨u0, u1, u2, u3⟩ := j6.fr4)
                  have hj := j6.four (.bool false) (.slice none 0 0) (.bool false) (.slice none 0 0)
                  obtain ⟨d0, d1, d2, d3⟩ := hj.at4
                  refine bodyPost_ret (v := .tuple #[.agg #[.bool false, .slice none 0 0, .bool false, .slice none 0 0], .int .i64 2]) (by simp [results, Tryz.results40, go_sem, d0, d1, d2, d3]) rfl ⟨_, _, _, _, _, _, _, _, by rw [HR2.out], fun h => absurd (HR2.out.symm.trans h) (by decide), below_four (HBB.out.trans ((next_below HK.out hb6).mono HBB.out.size)) (Nat.le_refl _) _ _ _ _⟩
                · have h4b : (cx == 0) = false := by simpa using h4
                  have hr2 : res = 0 := by rw [HRES.out]; simp [noChance, *]
                  have HR2 := Lib.hid hr2
                  clear hr2 HRES
                  go_wp2_with (go_at_call 93; refine hsh.mono ?_; rintro e w6 ⟨rfl, hb6⟩; have j6 := j9.next hb6; have g6 := g9.next hb6; obtain ⟨r0, r1, r2, r3⟩ := g6.at4; obtain ⟨q0, q1, q2, q3⟩ := j6.at4; obtain ⟨u0, u1, u2, u3⟩ := j6.fr4)
                  have hj := j6.four (.bool b) (.slice a k p) (.bool c) (.slice f l q)
                  obtain ⟨d0, d1, d2, d3⟩ := hj.at4
                  refine bodyPost_ret (v := .tuple #[.agg #[.bool b, .slice a k p, .bool c, .slice f l q], .int .i64 0]) (by simp [results, Tryz.results40, go_sem, d0, d1, d2, d3]) rfl ⟨_, _, _, _, _, _, _, _, by rw [HR2.out], fun _ => (HN9.out.below hb6).four j6 (by decide) _ _ _ _, below_four (HBB.out.trans ((next_below HK.out hb6).mono HBB.out.size)) (Nat.le_refl _) _ _ _ _⟩
            · have hr2 : res = 0 := by rw [HRES.out]; simp [noChance, *]
              have HR2 := Lib.hid hr2
              clear hr2 HRES
              go_wp2_with (go_at_call 93; refine hsh.mono ?_; rintro e w6 ⟨rfl, hb6⟩; have j6 := j9.next hb6; have g6 := g9.next hb6; obtain ⟨r0, r1, r2, r3⟩ := g6.at4; obtain ⟨q0, q1, q2, q3⟩ := j6.at4; obtain ⟨u0, u1, u2, u3⟩ := j6.fr4)
              have hj := j6.four (.bool b) (.slice a k p) (.bool c) (.slice f l q)
              obtain ⟨d0, d1, d2, d3⟩ := hj.at4
              refine bodyPost_ret (v := .tuple #[.agg #[.bool b, .slice a k p, .bool c, .slice f l q], .int .i64 0]) (by simp [results, Tryz.results40, go_sem, d0, d1, d2, d3]) rfl ⟨_, _, _, _, _, _, _, _, by rw [HR2.out], fun _ => (HN9.out.below hb6).four j6 (by decide) _ _ _ _, below_four (HBB.out.trans ((next_below HK.out hb6).mono HBB.out.size)) (Nat.le_refl _) _ _ _ _⟩
  · have h0' : (er != 0) = true := by simpa using h0
    rw [if_neg h0]
    clear hf hs hz
    go_enter Tryz.func40, Tryz.ntmps40
    go_upto_region 1 with fail
    rw [← HW.out]
    go_wp2_with (go_at_call 90; refine HC.out.mono ?_; rintro e w1 ⟨rfl, hb1⟩; have j6 := j4.next hb1; obtain ⟨q0, q1, q2, q3⟩ := j6.at4; obtain ⟨u0, u1, u2, u3⟩ := j6.fr4)
    have hj := j6.four (.bool false) (.slice none 0 0) (.bool false) (.slice none 0 0)
    obtain ⟨d0, d1, d2, d3⟩ := hj.at4
    refine bodyPost_ret (v := .tuple #[.agg #[.bool false, .slice none 0 0, .bool false, .slice none 0 0], .int .i64 er]) (by simp [results, Tryz.results40, go_sem, d0, d1, d2, d3]) rfl ⟨_, _, _, _, _, _, _, _, rfl, fun h => absurd h h0, below_four (HBB.out.trans (hb1.mono HBB.out.size)) (Nat.le_refl _) _ _ _ _⟩

end Go.Proofs.YtmhneibcbjgedaaGreatDoor
