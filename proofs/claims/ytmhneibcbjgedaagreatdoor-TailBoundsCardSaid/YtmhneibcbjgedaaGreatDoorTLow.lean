/- The contracts of tail.bound and of the closures of Low and High. -/
import Derived.Test.YtmhneibcbjgedaaGreatDoorTLeast
set_option linter.unusedSimpArgs false
set_option linter.unusedVariables false
namespace Go.Proofs.YtmhneibcbjgedaaGreatDoor
open Go.RowKit
open Go.Lib (decDigits itoa nDigits)

/-- A list of one limit. -/
def Lm (m t : Int) (v : Value) (w : World) : Prop := ∃ g : Nat, v = .slice (some ⟨g, 0, none⟩) 1 1 ∧ Blk w g 111 #[.int .i64 m, .int .i64 t]
theorem Stab.lm (W : World) (m t : Int) : Stab W (Lm m t) := fun v w1 w2 _ h2 ⟨g, h, b⟩ => ⟨g, h, b.next h2⟩

/-- The error of the limit of a grid. -/
def gridErr (g : Int) : Int := if 1 ≤ g ∧ g ≤ 1000 then 0 else 2

/-- The error of bound. -/
def errB (n k : Int) (l : List UInt8) (g : Int) : Int := if cnt n k = 0 then (if chErr false l = 0 then gridErr g else chErr false l) else cnt n k

theorem limit_any {w : World} {v : Value} {g : Int} (h : Lm (g - 1) 999 v w) : Calls Tryz.prog 82 #[v] w (RetV w (.int .i64 (gridErr g))) := by
  obtain ⟨b, rfl, hb⟩ := h
  have e : gridErr g = (if ([(g - 1, 999)] : List (Int × Int)).all inLim then 0 else 2) := by
    unfold gridErr inLim
    simp only [List.all_cons, List.all_nil, Bool.and_true, Bool.and_eq_true, decide_eq_true_eq]
    congr 1
    apply propext
    omega
  rw [e]
  exact tcheck_any (w := w) (b := b) (cap := 1) [(g - 1, 999)] 1 rfl (by omega) (fun i hi => by
    have h0 := hb.cell 0
    have h1 := hb.cell 1
    match i, hi with
    | 0, _ => exact ⟨h0, h1⟩)

set_option maxHeartbeats 1000000 in
theorem bound_any {w : World} (n k : Int) (l : List UInt8) (g : Int) (hg1 : -9223372036854775808 < g) (hg2 : g ≤ 9223372036854775807) (hl : l.length ≤ 268435000) (hg : Good w) :
    Calls Tryz.prog 45 #[.int .i64 n, .int .i64 k, .string ⟨l.toArray⟩, .int .i64 g] w (RetC w (errB n k l g) (rval l)) := by
  obtain ⟨W, hW, hB, hsz, j8⟩ := entA w 69 #[.bool false, .slice none 0 0, .bool false, .slice none 0 0]
  have HW := Lib.hid hW
  have HSZ := Lib.hid hsz
  have HBB := Lib.hid hB
  clear hW hsz
  have hc := counts_any (w := W) n k
  have hch := fun (V : World) hh => chance_any (w := V) l false hl ((hg.below hB).below hh)
  unfold errB
  by_cases h0 : cnt n k = 0
  · rw [h0] at hc ⊢
    rw [if_pos rfl]
    have HC := Lib.hid hc
    by_cases h1 : chErr false l = 0
    · rw [h1] at hch ⊢
      rw [if_pos rfl]
      generalize rval l = x at *
      have HCH := Lib.hid hch
      generalize (⟨l.toArray⟩ : ByteArray) = S at *
      have hlm := fun (V : World) v h => limit_any (w := V) (v := v) (g := g) h
      generalize gridErr g = er at *
      have HLM := Lib.hid hlm
      clear hc h0 hch hg h1 hl hlm
      go_enter Tryz.func45, Tryz.ntmps45
      go_upto_region 1 with fail
      rw [← HW.out]
      go_upto_region 5 with (first
        | (go_at_call 37; refine HC.out.mono ?_; rintro e w1 ⟨rfl, hb1⟩)
        | (go_at_call 40; refine (HCH.out _ hb1).mono ?_; rintro e w2 ⟨b2, a2, k2, pp2, c2, f2, l2, qq2, rfl, hn, hb2⟩))
      have hx2 := (hn (by first | rfl | trivial)).below ((Below.refl _ _).alloc (Nat.le_refl _) (.cells #[.bool b2, .slice a2 k2 pp2, .bool c2, .slice f2 l2 qq2] 69))
      have g2 := Blk.new w2 69 #[.bool b2, .slice a2 k2 pp2, .bool c2, .slice f2 l2 qq2]
      have j8' := ((j8.next hb1).next hb2).alloc (.cells #[.bool b2, .slice a2 k2 pp2, .bool c2, .slice f2 l2 qq2] 69)
      have hb3 : Below W.heap.size W (w2.alloc (.cells #[.bool b2, .slice a2 k2 pp2, .bool c2, .slice f2 l2 qq2] 69)) := (next_below hb1 hb2).alloc (next_below hb1 hb2).size _
      clear hn hb1 hb2
      generalize w2.heap.size = z9 at *
      generalize (w2.alloc (.cells #[.bool b2, .slice a2 k2 pp2, .bool c2, .slice f2 l2 qq2] 69)) = w3 at *
      obtain ⟨x0, x1, x2, x3⟩ := g2.at4
      go_upto_region 7 with fail
      have HX := Lib.hid hx2
      have hB0 : Below w3.heap.size w3 w3.drew := (Below.refl _ _).drew
      refine wp_region_list 6 (by kernel_rfl) (by kernel_rfl) [] [fun v _ => v = .agg #[.bool b2, .slice a2 k2 pp2, .bool c2, .slice f2 l2 qq2], fun v _ => v = .int .i64 g, fun v _ => v = .int .i64 (g - 1), fun v _ => v = .agg #[.int .i64 (g - 1), .int .i64 999], Lm (g - 1) 999, fun v _ => v = .int .i64 er] (by simp only [List.take_succ_cons, List.take_zero]; rfl) (by simp only [List.drop_succ_cons, List.drop_zero]; rfl) (fun vals => by simp only [fam, Act.put, List.setIfInBounds_toArray, List.set_cons_zero, List.set_cons_succ, if_true]; rfl) (by repeat' (first | exact Stab.eq _ _ | exact Stab.wh _ _ | exact Stab.nm _ _ | exact Stab.new _ _ | exact Stab.newn _ _ | exact Stab.tw _ _ _ | exact Stab.lm _ _ _ | exact trivial | apply And.intro)) trivial ?_ ?_
      · refine ⟨?_, ?_, ?_, ?_, ?_, ?_, trivial⟩
        all_goals
          intro vals w4 hB hp
          dsimp only
          (try simp [preOk, Region.binds] at hp)
          have hbb := next_below hB0 hB
          obtain ⟨y0, y1, y2, y3⟩ := (g2.next hbb).at4
          clear hB x0 x1 x2 x3
        case refine_3 =>
          generalize vals 1 = t1 at *
          subst hp
          go_wp2
          exact ⟨rfl, _, rfl, rfl, Below.refl _ _, trivial⟩
        case refine_4 =>
          generalize vals 2 = t2 at *
          subst hp
          go_wp2
          exact ⟨rfl, _, rfl, rfl, Below.refl _ _, trivial⟩
        case refine_5 =>
          generalize vals 3 = t3 at *
          subst hp
          go_wp2
          exact ⟨rfl, _, rfl, ⟨_, rfl, Blk.new _ _ _⟩, (Below.refl _ _).alloc (Nat.le_refl _) _, trivial⟩
        case refine_6 =>
          go_wp2_with (go_at_call 82; refine (HLM.out _ _ hp).mono ?_; rintro e w5 ⟨rfl, hb5⟩)
          exact ⟨rfl, _, rfl, rfl, hb5, trivial⟩
        all_goals
          go_wp2
          (first | exact ⟨rfl, _, rfl, rfl, Below.refl _ _, trivial⟩ | (refine ⟨rfl, _, ?_, rfl, Below.refl _ _, trivial⟩; simp only [Act.put, List.setIfInBounds_toArray, List.set_cons_zero, List.set_cons_succ, hp]))
      · rintro vals w4 hB ⟨p0, p1, p2, p3, p4, p5, _⟩ hne
        have hbb := next_below hB0 hB
        simp at p0 p5
        generalize vals 0 = v0 at *
        subst p0
        generalize vals 5 = v5 at *
        subst p5
        clear hne p1 p2 p3 p4 x0 x1 x2 x3
        have j6 := j8'.next hbb
        obtain ⟨q0, q1, q2, q3⟩ := j6.at4
        obtain ⟨u0, u1, u2, u3⟩ := j6.fr4
        go_wp2
        have hj := j6.four (.bool b2) (.slice a2 k2 pp2) (.bool c2) (.slice f2 l2 qq2)
        obtain ⟨d0, d1, d2, d3⟩ := hj.at4
        refine bodyPost_ret (v := .tuple #[.agg #[.bool b2, .slice a2 k2 pp2, .bool c2, .slice f2 l2 qq2], .int .i64 er]) (by simp [results, Tryz.results45, go_sem, d0, d1, d2, d3]) rfl ⟨_, _, _, _, _, _, _, _, rfl, fun _ => (HX.out.below hbb).four j6 (by decide) _ _ _ _, below_four (HBB.out.trans ((next_below hb3 hbb).mono HBB.out.size)) (Nat.le_refl _) _ _ _ _⟩
    · rw [if_neg h1]
      generalize chErr false l = er at *
      generalize rval l = x at *
      have hb : (er != 0) = true := by simpa using h1
      have HCH := Lib.hid hch
      clear hc hg hch hl
      generalize (⟨l.toArray⟩ : ByteArray) = S at *
      go_enter Tryz.func45, Tryz.ntmps45
      go_upto_region 1 with fail
      rw [← HW.out]
      go_wp2_with (first
        | (go_at_call 37; refine HC.out.mono ?_; rintro e w1 ⟨rfl, hb1⟩)
        | (go_at_call 40; refine (HCH.out _ hb1).mono ?_; rintro e w2 ⟨b2, a2, k2, pp2, c2, f2, l2, qq2, rfl, hn, hb2⟩; clear hn; have j6 := ((j8.next hb1).next hb2).alloc (.cells #[.bool b2, .slice a2 k2 pp2, .bool c2, .slice f2 l2 qq2] 69); obtain ⟨q0, q1, q2, q3⟩ := j6.at4; obtain ⟨u0, u1, u2, u3⟩ := j6.fr4))
      have hj := j6.four (.bool false) (.slice none 0 0) (.bool false) (.slice none 0 0)
      obtain ⟨d0, d1, d2, d3⟩ := hj.at4
      refine bodyPost_ret (v := .tuple #[.agg #[.bool false, .slice none 0 0, .bool false, .slice none 0 0], .int .i64 er]) (by simp [results, Tryz.results45, go_sem, d0, d1, d2, d3]) rfl ⟨_, _, _, _, _, _, _, _, rfl, fun h => absurd h h1, below_four (HBB.out.trans (((next_below hb1 hb2).alloc (next_below hb1 hb2).size _).mono HBB.out.size)) (Nat.le_refl _) _ _ _ _⟩
  · rw [if_neg h0]
    generalize cnt n k = er at *
    generalize rval l = x at *
    have hb : (er != 0) = true := by simpa using h0
    have HC := Lib.hid hc
    clear hc hg hch hl
    generalize (⟨l.toArray⟩ : ByteArray) = S at *
    go_enter Tryz.func45, Tryz.ntmps45
    go_upto_region 1 with fail
    rw [← HW.out]
    go_wp2_with (go_at_call 37; refine HC.out.mono ?_; rintro e w1 ⟨rfl, hb1⟩; have j6 := j8.next hb1; obtain ⟨q0, q1, q2, q3⟩ := j6.at4; obtain ⟨u0, u1, u2, u3⟩ := j6.fr4)
    have hj := j6.four (.bool false) (.slice none 0 0) (.bool false) (.slice none 0 0)
    obtain ⟨d0, d1, d2, d3⟩ := hj.at4
    refine bodyPost_ret (v := .tuple #[.agg #[.bool false, .slice none 0 0, .bool false, .slice none 0 0], .int .i64 er]) (by simp [results, Tryz.results45, go_sem, d0, d1, d2, d3]) rfl ⟨_, _, _, _, _, _, _, _, rfl, fun h => absurd h h0, below_four (HBB.out.trans (hb1.mono HBB.out.size)) (Nat.le_refl _) _ _ _ _⟩

/-- Does the tail at i parts of a grid of g stay within x? -/
def within (n k g : Nat) (x : Rat) (i : Nat) : Bool := decide (rcmp (UV n k (Rat.divInt i g)) x ≤ 0)

theorem grid_limb {i g : Nat} (hi : i ≤ 1000) (hg : g ≤ 1000) (h0 : 0 < g) : OneLimb (Rat.divInt i g) := by
  have h4 : (limbs 1000).length = 1 := by decide +kernel
  have h1 : (limbs (i : Int).natAbs).length ≤ 1 := by
    have := limbs_len_mono (a := (i : Int).natAbs) (b := 1000) (by omega)
    omega
  have h2 : (limbs (g : Int).natAbs).length ≤ 1 := by
    have := limbs_len_mono (a := (g : Int).natAbs) (b := 1000) (by omega)
    omega
  have := Sz.make (m := i) (n := g) (j := 1) (by omega) h1 h2
  exact ⟨this.1, this.den⟩

set_option maxHeartbeats 1000000 in
theorem lowin_any {w : World} (n k g i : Nat) (hn : n ≤ 200) (hk : k ≤ n) (hg : g ≤ 1000) (hg0 : 0 < g) (hi : i ≤ g) {nb kb gb db : Nat} {b : Bool} {a : Option Addr} {ka pa : Nat} {c : Bool} {f : Option Addr} {lf qf : Nat} {x : Rat}
    (h1 : Blk w nb 3 #[.int .i64 n]) (h2 : Blk w kb 3 #[.int .i64 k]) (h3 : Blk w gb 3 #[.int .i64 g]) (h4 : Blk w db 69 #[.bool b, .slice a ka pa, .bool c, .slice f lf qf]) (hx : Nm w (.agg #[.bool b, .slice a ka pa, .bool c, .slice f lf qf]) x) (hs : Sz 268435456 x) :
    Calls Tryz.prog 47 #[.int .i64 i, .pointer (some ⟨nb, 0, none⟩), .pointer (some ⟨kb, 0, none⟩), .pointer (some ⟨gb, 0, none⟩), .pointer (some ⟨db, 0, none⟩)] w (RetV w (.bool (within n k g x i))) := by
  have ho := grid_limb (i := i) (g := g) (by omega) hg hg0
  have hu := fun (V : World) v h => upper_any (w := V) (v := v) (x := Rat.divInt i g) n k (by omega) (by omega) ho.1 ho.2 h
  have hu : ∀ (V : World) v, Nm V v (Rat.divInt i g) → Calls Tryz.prog 41 #[.int .i64 n, .int .i64 k, v] V (RetN V (UV n k (Rat.divInt i g))) := hu
  have hsz := uv_sz (n := n) (k := k) (by omega) ho
  unfold within
  generalize UV n k (Rat.divInt i g) = u at *
  have HU := Lib.hid hu
  have hcm := fun (V : World) v1 v2 q1 q2 => num_cmp (w := V) (v0 := v1) (v1 := v2) (x := u) (y := x) q1 q2 (hsz.mono (by omega)) hs
  generalize rcmp u x = cx at *
  have HCM := Lib.hid hcm
  have HX := Lib.hid hx
  clear hu hsz hcm hs hx ho
  go_enter Tryz.func47, Tryz.ntmps47
  go_upto_region 1 with fail
  have hB0 : Below w.heap.size w w.drew := (Below.refl _ _).drew
  refine wp_region_list 9 (by kernel_rfl) (by kernel_rfl) [] [fun v _ => v = .int .i64 n, fun v _ => v = .int .i64 k, fun v _ => v = .int .i64 i, fun v _ => v = .int .i64 g, fun v w' => Nm w' v (Rat.divInt i g), fun v w' => Nm w' v (u), fun v _ => v = .agg #[.bool b, .slice a ka pa, .bool c, .slice f lf qf], fun v _ => v = .int .i64 cx, fun v _ => v = .bool (decide (cx ≤ 0))] (by simp only [List.take_succ_cons, List.take_zero]; rfl) (by simp only [List.drop_succ_cons, List.drop_zero]; rfl) (fun vals => by simp only [fam, Act.put, List.setIfInBounds_toArray, List.set_cons_zero, List.set_cons_succ, if_true]; rfl) (by repeat' (first | exact Stab.eq _ _ | exact Stab.wh _ _ | exact Stab.nm _ _ | exact Stab.new _ _ | exact Stab.newn _ _ | exact Stab.tw _ _ _ | exact Stab.lm _ _ _ | exact trivial | apply And.intro)) trivial ?_ ?_
  · refine ⟨?_, ?_, ?_, ?_, ?_, ?_, ?_, ?_, ?_, trivial⟩
    all_goals
      intro vals w4 hB hp
      dsimp only
      (try simp [preOk, Region.binds] at hp)
      have hbb := next_below hB0 hB
      have c1 := (h1.next hbb).cell 0
      have c2 := (h2.next hbb).cell 0
      have c3 := (h3.next hbb).cell 0
      simp at c1 c2 c3
      obtain ⟨y0, y1, y2, y3⟩ := (h4.next hbb).at4
      clear hB
    case refine_5 =>
      obtain ⟨q0, q1⟩ := hp
      generalize vals 2 = t2 at *
      subst q0
      generalize vals 3 = t3 at *
      subst q1
      go_wp2_with (go_at_call 48; refine (num_of (by omega) (by omega) (by omega) (by omega) (by omega)).mono ?_; rintro e w5 ⟨r, rfl, hr, hb5⟩)
      exact ⟨rfl, _, rfl, hr, hb5, trivial⟩
    case refine_6 =>
      obtain ⟨q0, q1, q2⟩ := hp
      generalize vals 0 = t2 at *
      subst q0
      generalize vals 1 = t3 at *
      subst q1
      go_wp2_with (go_at_call 41; refine (HU.out _ _ q2).mono ?_; rintro e w5 ⟨r, rfl, hr, hb5⟩)
      exact ⟨rfl, _, rfl, hr, hb5, trivial⟩
    case refine_8 =>
      obtain ⟨q0, q1, q2⟩ := hp
      generalize vals 6 = t3 at *
      subst q1
      go_wp2_with (go_at_call 49; refine (HCM.out _ _ _ q0 (HX.out.below hbb)).mono ?_; rintro e w5 ⟨rfl, hb5⟩)
      exact ⟨rfl, _, rfl, rfl, hb5, trivial⟩
    case refine_9 =>
      generalize vals 7 = t3 at *
      subst hp
      go_wp2
      exact ⟨rfl, _, rfl, rfl, Below.refl _ _, trivial⟩
    all_goals
      go_wp2
      (first | exact ⟨rfl, _, rfl, rfl, Below.refl _ _, trivial⟩ | (refine ⟨rfl, _, ?_, rfl, Below.refl _ _, trivial⟩; simp only [Act.put, List.setIfInBounds_toArray, List.set_cons_zero, List.set_cons_succ, hp]))
  · rintro vals w4 hB ⟨p0, p1, p2, p3, p4, p5, p6, p7, p8, _⟩ hne
    have hbb := next_below hB0 hB
    simp at p8
    generalize vals 8 = v8 at *
    subst p8
    clear hne p0 p1 p2 p3 p4 p5 p6 p7
    go_wp2
    go_ret
    exact ⟨rfl, hbb⟩

set_option maxHeartbeats 1000000 in
theorem highin_any {w : World} (n k g i : Nat) (hn : n ≤ 200) (hk : k ≤ n) (hg : g ≤ 1000) (hg0 : 0 < g) (hi : i ≤ g) {nb kb gb db : Nat} {b : Bool} {a : Option Addr} {ka pa : Nat} {c : Bool} {f : Option Addr} {lf qf : Nat} {x : Rat}
    (h1 : Blk w nb 3 #[.int .i64 n]) (h2 : Blk w kb 3 #[.int .i64 k]) (h3 : Blk w gb 3 #[.int .i64 g]) (h4 : Blk w db 69 #[.bool b, .slice a ka pa, .bool c, .slice f lf qf]) (hx : Nm w (.agg #[.bool b, .slice a ka pa, .bool c, .slice f lf qf]) x) (hs : Sz 268435456 x) :
    Calls Tryz.prog 50 #[.int .i64 i, .pointer (some ⟨nb, 0, none⟩), .pointer (some ⟨kb, 0, none⟩), .pointer (some ⟨gb, 0, none⟩), .pointer (some ⟨db, 0, none⟩)] w (RetV w (.bool (within n (n - k) g x i))) := by
  have ho := grid_limb (i := i) (g := g) (by omega) hg hg0
  have hu := fun (V : World) v h => upper_any (w := V) (v := v) (x := Rat.divInt i g) n (n - k) (by omega) (by omega) ho.1 ho.2 h
  have hu : ∀ (V : World) v, Nm V v (Rat.divInt i g) → Calls Tryz.prog 41 #[.int .i64 n, .int .i64 (n - k : Nat), v] V (RetN V (UV n (n - k) (Rat.divInt i g))) := hu
  rw [Int.natCast_sub hk] at hu
  have hsz := uv_sz (n := n) (k := n - k) (by omega) ho
  unfold within
  generalize UV n (n - k) (Rat.divInt i g) = u at *
  have HU := Lib.hid hu
  have hcm := fun (V : World) v1 v2 q1 q2 => num_cmp (w := V) (v0 := v1) (v1 := v2) (x := u) (y := x) q1 q2 (hsz.mono (by omega)) hs
  generalize rcmp u x = cx at *
  have HCM := Lib.hid hcm
  have HX := Lib.hid hx
  clear hu hsz hcm hs hx ho
  go_enter Tryz.func50, Tryz.ntmps50
  go_upto_region 1 with fail
  have hB0 : Below w.heap.size w w.drew := (Below.refl _ _).drew
  refine wp_region_list 11 (by kernel_rfl) (by kernel_rfl) [] [fun v _ => v = .int .i64 n, fun v _ => v = .int .i64 n, fun v _ => v = .int .i64 k, fun v _ => v = .int .i64 ((n : Int) - k), fun v _ => v = .int .i64 i, fun v _ => v = .int .i64 g, fun v w' => Nm w' v (Rat.divInt i g), fun v w' => Nm w' v (u), fun v _ => v = .agg #[.bool b, .slice a ka pa, .bool c, .slice f lf qf], fun v _ => v = .int .i64 cx, fun v _ => v = .bool (decide (cx ≤ 0))] (by simp only [List.take_succ_cons, List.take_zero]; rfl) (by simp only [List.drop_succ_cons, List.drop_zero]; rfl) (fun vals => by simp only [fam, Act.put, List.setIfInBounds_toArray, List.set_cons_zero, List.set_cons_succ, if_true]; rfl) (by repeat' (first | exact Stab.eq _ _ | exact Stab.wh _ _ | exact Stab.nm _ _ | exact Stab.new _ _ | exact Stab.newn _ _ | exact Stab.tw _ _ _ | exact Stab.lm _ _ _ | exact trivial | apply And.intro)) trivial ?_ ?_
  · refine ⟨?_, ?_, ?_, ?_, ?_, ?_, ?_, ?_, ?_, ?_, ?_, trivial⟩
    all_goals
      intro vals w4 hB hp
      dsimp only
      (try simp [preOk, Region.binds] at hp)
      have hbb := next_below hB0 hB
      have c1 := (h1.next hbb).cell 0
      have c2 := (h2.next hbb).cell 0
      have c3 := (h3.next hbb).cell 0
      simp at c1 c2 c3
      obtain ⟨y0, y1, y2, y3⟩ := (h4.next hbb).at4
      clear hB
    case refine_4 =>
      obtain ⟨q0, q1⟩ := hp
      generalize vals 1 = t2 at *
      subst q0
      generalize vals 2 = t3 at *
      subst q1
      go_wp2
      exact ⟨rfl, _, rfl, rfl, Below.refl _ _, trivial⟩
    case refine_7 =>
      obtain ⟨q0, q1⟩ := hp
      generalize vals 4 = t2 at *
      subst q0
      generalize vals 5 = t3 at *
      subst q1
      go_wp2_with (go_at_call 48; refine (num_of (by omega) (by omega) (by omega) (by omega) (by omega)).mono ?_; rintro e w5 ⟨r, rfl, hr, hb5⟩)
      exact ⟨rfl, _, rfl, hr, hb5, trivial⟩
    case refine_8 =>
      obtain ⟨q0, q1, q2⟩ := hp
      generalize vals 0 = t2 at *
      subst q0
      generalize vals 3 = t3 at *
      subst q1
      go_wp2_with (go_at_call 41; refine (HU.out _ _ q2).mono ?_; rintro e w5 ⟨r, rfl, hr, hb5⟩)
      exact ⟨rfl, _, rfl, hr, hb5, trivial⟩
    case refine_10 =>
      obtain ⟨q0, q1, q2⟩ := hp
      generalize vals 8 = t3 at *
      subst q1
      go_wp2_with (go_at_call 49; refine (HCM.out _ _ _ q0 (HX.out.below hbb)).mono ?_; rintro e w5 ⟨rfl, hb5⟩)
      exact ⟨rfl, _, rfl, rfl, hb5, trivial⟩
    case refine_11 =>
      generalize vals 9 = t3 at *
      subst hp
      go_wp2
      exact ⟨rfl, _, rfl, rfl, Below.refl _ _, trivial⟩
    all_goals
      go_wp2
      (first | exact ⟨rfl, _, rfl, rfl, Below.refl _ _, trivial⟩ | (refine ⟨rfl, _, ?_, rfl, Below.refl _ _, trivial⟩; simp only [Act.put, List.setIfInBounds_toArray, List.set_cons_zero, List.set_cons_succ, hp]))
  · rintro vals w4 hB ⟨p0, p1, p2, p3, p4, p5, p6, p7, p8, p9, p10, _⟩ hne
    have hbb := next_below hB0 hB
    simp at p10
    generalize vals 10 = v8 at *
    subst p10
    clear hne p0 p1 p2 p3 p4 p5 p6 p7 p8 p9
    go_wp2
    go_ret
    exact ⟨rfl, hbb⟩

end Go.Proofs.YtmhneibcbjgedaaGreatDoor

/- The contract of tail.last. -/
set_option linter.unusedSimpArgs false
set_option linter.unusedVariables false
namespace Go.Proofs.YtmhneibcbjgedaaGreatDoor
open Go.RowKit

/-- The search for the last number for which something holds. -/
def lastF (h : Nat → Bool) : Nat → Nat → Nat → Nat
  | 0, lo, _ => lo
  | f + 1, lo, hi => if lo < hi then (if h ((lo + hi + 1) / 2) then lastF h f ((lo + hi + 1) / 2) hi else lastF h f lo ((lo + hi + 1) / 2 - 1)) else lo

theorem lastF_end (h : Nat → Bool) (f lo hi : Nat) (e : ¬ lo < hi) : lastF h f lo hi = lo := by
  cases f with
  | zero => rfl
  | succ f => unfold lastF; rw [if_neg e]

set_option maxHeartbeats 1000000 in
theorem last_low {w : World} (h : Nat → Bool) (n : Nat) (hn : n ≤ 1000) (c1 c2 c3 c4 : Value) (hh : ∀ (V : World) (i : Nat), Below w.heap.size w V → i ≤ n → Calls Tryz.prog 47 #[.int .i64 i, c1, c2, c3, c4] V (RetV V (.bool (h i)))) :
    Calls Tryz.prog 46 #[.int .i64 n, .func (.func 47) #[] #[c1, c2, c3, c4]] w (RetV w (.int .i64 (lastF h n 0 n : Nat))) := by
  obtain ⟨R, hR⟩ : ∃ R, lastF h n 0 n = R := ⟨_, rfl⟩
  rw [hR]
  have HR := Lib.hid hR
  have HH := Lib.hid hh
  clear hR hh
  go_enter Tryz.func46, Tryz.ntmps46
  go_wp2
  go_loopw [5, 6] (fun u5 u6 wr => ∃ lo hi f : Nat, u5 = .int .i64 lo ∧ u6 = .int .i64 hi ∧ lo ≤ hi ∧ hi ≤ n ∧ Hid (hi - lo ≤ f) ∧ Hid (lastF h f lo hi = R) ∧ Hid (Below w.heap.size w wr)) (fun u5 u6 _ => (intOf u6).toNat - (intOf u5).toNat)
  case atStart => exact ⟨0, n, n, rfl, rfl, by omega, by omega, Lib.hid (by omega), HR, Lib.hid (Below.refl _ _)⟩
  case round =>
    obtain ⟨lo, hi, f, rfl, rfl, hlh, hhn, hf, hF, hB⟩ := hrel
    by_cases hlt : lo < hi
    · obtain ⟨mid, hmid⟩ : ∃ mid, (lo + hi + 1) / 2 = mid := ⟨_, rfl⟩
      have hm1 : lo < mid := by omega
      have hm2 : mid ≤ hi := by omega
      have hmi : ((lo : Int) + hi + 1).tdiv 2 = mid := by rw [Int.tdiv_eq_ediv_of_nonneg (by omega)]; omega
      have hf1 := hf.out
      obtain ⟨f', rfl⟩ : ∃ f', f = f' + 1 := ⟨f - 1, by omega⟩
      have hF' := hF.out
      unfold lastF at hF'
      rw [if_pos hlt, hmid] at hF'
      have hc := HH.out wr mid hB.out (by omega)
      have HC := Lib.hid hc
      have HF2 := Lib.hid hF'
      clear hF' hc hF
      have hlti : ((lo : Int) < hi) := by omega
      go_upto_region 4 with fail
      generalize h mid = hb at *
      cases hb with
      | true =>
        go_wp2_with (go_at_call 47; refine HC.out.mono ?_; rintro e w5 ⟨rfl, hb5⟩)
        go_roundw
        case rel => exact ⟨mid, hi, f', rfl, rfl, hm2, hhn, Lib.hid (by omega), Lib.hid (by have := HF2.out; simpa using this), Lib.hid (next_below hB.out hb5)⟩
        case measure => simp [intOf]; omega
      | false =>
        obtain ⟨m1, hm1'⟩ : ∃ m1 : Nat, (mid : Int) - 1 = m1 := ⟨mid - 1, by omega⟩
        have hm2' : mid - 1 = m1 := by omega
        rw [hm2'] at HF2
        go_wp2_with (go_at_call 47; refine HC.out.mono ?_; rintro e w5 ⟨rfl, hb5⟩)
        go_roundw
        case rel => exact ⟨lo, m1, f', rfl, rfl, by omega, by omega, Lib.hid (by omega), Lib.hid (by have := HF2.out; simpa using this), Lib.hid (next_below hB.out hb5)⟩
        case measure => simp [intOf]; omega
    · have hlo : lo = R := by rw [← hF.out, lastF_end _ _ _ _ hlt]
      have HL := Lib.hid hlo
      clear hlo
      have hlti : ¬ ((lo : Int) < hi) := by omega
      go_wp2
      go_ret
      exact ⟨ret_int (by rw [HL.out]), hB.out⟩

set_option maxHeartbeats 1000000 in
theorem last_high {w : World} (h : Nat → Bool) (n : Nat) (hn : n ≤ 1000) (c1 c2 c3 c4 : Value) (hh : ∀ (V : World) (i : Nat), Below w.heap.size w V → i ≤ n → Calls Tryz.prog 50 #[.int .i64 i, c1, c2, c3, c4] V (RetV V (.bool (h i)))) :
    Calls Tryz.prog 46 #[.int .i64 n, .func (.func 50) #[] #[c1, c2, c3, c4]] w (RetV w (.int .i64 (lastF h n 0 n : Nat))) := by
  obtain ⟨R, hR⟩ : ∃ R, lastF h n 0 n = R := ⟨_, rfl⟩
  rw [hR]
  have HR := Lib.hid hR
  have HH := Lib.hid hh
  clear hR hh
  go_enter Tryz.func46, Tryz.ntmps46
  go_wp2
  go_loopw [5, 6] (fun u5 u6 wr => ∃ lo hi f : Nat, u5 = .int .i64 lo ∧ u6 = .int .i64 hi ∧ lo ≤ hi ∧ hi ≤ n ∧ Hid (hi - lo ≤ f) ∧ Hid (lastF h f lo hi = R) ∧ Hid (Below w.heap.size w wr)) (fun u5 u6 _ => (intOf u6).toNat - (intOf u5).toNat)
  case atStart => exact ⟨0, n, n, rfl, rfl, by omega, by omega, Lib.hid (by omega), HR, Lib.hid (Below.refl _ _)⟩
  case round =>
    obtain ⟨lo, hi, f, rfl, rfl, hlh, hhn, hf, hF, hB⟩ := hrel
    by_cases hlt : lo < hi
    · obtain ⟨mid, hmid⟩ : ∃ mid, (lo + hi + 1) / 2 = mid := ⟨_, rfl⟩
      have hm1 : lo < mid := by omega
      have hm2 : mid ≤ hi := by omega
      have hmi : ((lo : Int) + hi + 1).tdiv 2 = mid := by rw [Int.tdiv_eq_ediv_of_nonneg (by omega)]; omega
      have hf1 := hf.out
      obtain ⟨f', rfl⟩ : ∃ f', f = f' + 1 := ⟨f - 1, by omega⟩
      have hF' := hF.out
      unfold lastF at hF'
      rw [if_pos hlt, hmid] at hF'
      have hc := HH.out wr mid hB.out (by omega)
      have HC := Lib.hid hc
      have HF2 := Lib.hid hF'
      clear hF' hc hF
      have hlti : ((lo : Int) < hi) := by omega
      go_upto_region 4 with fail
      generalize h mid = hb at *
      cases hb with
      | true =>
        go_wp2_with (go_at_call 50; refine HC.out.mono ?_; rintro e w5 ⟨rfl, hb5⟩)
        go_roundw
        case rel => exact ⟨mid, hi, f', rfl, rfl, hm2, hhn, Lib.hid (by omega), Lib.hid (by have := HF2.out; simpa using this), Lib.hid (next_below hB.out hb5)⟩
        case measure => simp [intOf]; omega
      | false =>
        obtain ⟨m1, hm1'⟩ : ∃ m1 : Nat, (mid : Int) - 1 = m1 := ⟨mid - 1, by omega⟩
        have hm2' : mid - 1 = m1 := by omega
        rw [hm2'] at HF2
        go_wp2_with (go_at_call 50; refine HC.out.mono ?_; rintro e w5 ⟨rfl, hb5⟩)
        go_roundw
        case rel => exact ⟨lo, m1, f', rfl, rfl, by omega, by omega, Lib.hid (by omega), Lib.hid (by have := HF2.out; simpa using this), Lib.hid (next_below hB.out hb5)⟩
        case measure => simp [intOf]; omega
    · have hlo : lo = R := by rw [← hF.out, lastF_end _ _ _ _ hlt]
      have HL := Lib.hid hlo
      clear hlo
      have hlti : ¬ ((lo : Int) < hi) := by omega
      go_wp2
      go_ret
      exact ⟨ret_int (by rw [HL.out]), hB.out⟩

end Go.Proofs.YtmhneibcbjgedaaGreatDoor

/- The contracts of tail.Low and tail.High. -/
set_option linter.unusedSimpArgs false
set_option linter.unusedVariables false
namespace Go.Proofs.YtmhneibcbjgedaaGreatDoor
open Go.RowKit
open Go.Lib (decDigits itoa nDigits)

theorem lastF_le (h : Nat → Bool) : ∀ (f lo hi : Nat), lo ≤ hi → lastF h f lo hi ≤ hi
  | 0, lo, hi, e => e
  | f + 1, lo, hi, e => by
    unfold lastF
    split
    · split
      · exact lastF_le h f _ _ (by omega)
      · exact Nat.le_trans (lastF_le h f _ _ (by omega)) (by omega)
    · exact e

theorem errB_ok {n k g : Int} {l : List UInt8} (h : errB n k l g = 0) : ∃ a b c : Nat, n = a ∧ k = b ∧ g = c ∧ a ≤ 200 ∧ b ≤ a ∧ 1 ≤ c ∧ c ≤ 1000 ∧ rerr l = 0 := by
  unfold errB at h
  split at h
  · rename_i h0
    split at h
    · rename_i h1
      obtain ⟨a, b, rfl, rfl, ha, hb⟩ := cnt_ok h0
      unfold gridErr at h
      split at h
      · rename_i hr
        obtain ⟨c, rfl⟩ := Int.eq_ofNat_of_zero_le (show 0 ≤ g by omega)
        refine ⟨a, b, c, rfl, rfl, rfl, ha, hb, by omega, by omega, ?_⟩
        unfold chErr at h1
        split at h1
        · assumption
        · exact h1
      · exact absurd h (by decide)
    · rename_i h1; exact absurd h h1
  · rename_i h0; exact absurd h h0

/-- What Low returns. -/
def lowT (n k g : Nat) (x : Rat) : List UInt8 := if k = 0 then [48] else ratText (Rat.divInt (lastF (within n k g x) g 0 g : Nat) g)

set_option maxHeartbeats 1000000 in
theorem low_any {w : World} (n k : Int) (l : List UInt8) (g : Int) (hg1 : -9223372036854775808 < g) (hg2 : g ≤ 9223372036854775807) (hl : l.length ≤ 268435000) (hg : Good w) :
    Calls Tryz.prog 15 #[.int .i64 n, .int .i64 k, .string ⟨l.toArray⟩, .int .i64 g] w (RetV w (.tuple #[.string ⟨(if errB n k l g = 0 then lowT n.toNat k.toNat g.toNat (rval l) else []).toArray⟩, .int .i64 (errB n k l g)])) := by
  obtain ⟨W, hW, hB, hsz, j4, j5, j7⟩ := entC w 3 3 3 #[.int .i64 n] #[.int .i64 k] #[.int .i64 g]
  have HW := Lib.hid hW
  have HSZ := Lib.hid hsz
  have HBB := Lib.hid hB
  clear hW hsz
  have j7 : Blk W (w.heap.size + 1 + 1) 3 #[.int .i64 g] := j7
  have hbd := bound_any (w := W) n k l g hg1 hg2 hl (hg.below hB)
  have x4 := j4.cell 0
  have x5 := j5.cell 0
  have x7 := j7.cell 0
  simp at x4 x5 x7
  by_cases h0 : errB n k l g = 0
  · obtain ⟨a, b, c, rfl, rfl, rfl, ha, hb, hc1, hc2, hre⟩ := errB_ok h0
    rw [h0] at hbd ⊢
    rw [if_pos rfl, Int.toNat_natCast, Int.toNat_natCast, Int.toNat_natCast]
    have hs := rval_sz hl hre
    generalize rval l = x at *
    have HBD := Lib.hid hbd
    generalize (⟨l.toArray⟩ : ByteArray) = S at *
    clear hbd h0 hre
    have HG := Lib.hid (hg.below hB)
    have HS := Lib.hid hs
    clear hg hs
    by_cases hk : b = 0
    · have e0 : lowT a b c x = [48] := by unfold lowT; rw [if_pos hk]
      have hkb : ((b : Int) == 0) = true := by simpa using hk
      rw [e0]
      clear e0 hk
      go_enter Tryz.func15, Tryz.ntmps15
      go_upto_region 1 with fail
      rw [← HW.out]
      go_wp2_with (go_at_call 45; refine HBD.out.mono ?_; rintro e w1 ⟨b2, a2, k2, pp2, c2, f2, l2, qq2, rfl, hn, hb1⟩; clear hn; have i5 := (j5.next hb1).alloc (.cells #[.bool b2, .slice a2 k2 pp2, .bool c2, .slice f2 l2 qq2] 69); have y5 := i5.cell 0; simp at y5)
      go_ret2
      exact ⟨rfl, HBB.out.trans ((hb1.alloc hb1.size _).mono HBB.out.size)⟩
    · obtain ⟨T, hT⟩ : ∃ T : ByteArray, T = ⟨(lowT a b c x).toArray⟩ := ⟨_, rfl⟩
      rw [← hT]
      unfold lowT at hT
      rw [if_neg hk] at hT
      have hle := lastF_le (within a b c x) c 0 c (by omega)
      have hin := fun (V : World) (i : Nat) nb kb gb db bb aa ka pa cc ff lf qf h1 h2 h3 h4 hx hi => lowin_any (w := V) a b c i ha hb hc2 (by omega) hi (nb := nb) (kb := kb) (gb := gb) (db := db) (b := bb) (a := aa) (ka := ka) (pa := pa) (c := cc) (f := ff) (lf := lf) (qf := qf) (x := x) h1 h2 h3 h4 hx HS.out
      generalize within a b c x = h at *
      generalize hR : lastF h c 0 c = R at *
      have hol := grid_limb (i := R) (g := c) (by omega) hc2 (by omega)
      have ht2 := fun (V : World) v q hh => num_text (w := V) (v := v) (x := Rat.divInt R c) q ⟨Nat.le_trans hol.1 (by omega), Nat.le_trans (by have := hol.2; simpa using this) (by omega)⟩ (HG.out.below hh)
      rw [← hT] at ht2
      have HT2 := Lib.hid ht2
      clear ht2 hol
      have HIN := Lib.hid hin
      have HT := Lib.hid hT
      have hkb : ((b : Int) == 0) = false := by simpa using hk
      clear hin hT
      go_enter Tryz.func15, Tryz.ntmps15
      go_upto_region 1 with fail
      rw [← HW.out]
      go_upto_region 2 with (go_at_call 45; refine HBD.out.mono ?_; rintro e w1 ⟨b2, a2, k2, pp2, c2, f2, l2, qq2, rfl, hn, hb1⟩)
      have hn' := (hn (by first | rfl | trivial)).below ((Below.refl _ _).alloc (Nat.le_refl _) (.cells #[.bool b2, .slice a2 k2 pp2, .bool c2, .slice f2 l2 qq2] 69))
      have g10 := Blk.new w1 69 #[.bool b2, .slice a2 k2 pp2, .bool c2, .slice f2 l2 qq2]
      have i4 := (j4.next hb1).alloc (.cells #[.bool b2, .slice a2 k2 pp2, .bool c2, .slice f2 l2 qq2] 69)
      have i5 := (j5.next hb1).alloc (.cells #[.bool b2, .slice a2 k2 pp2, .bool c2, .slice f2 l2 qq2] 69)
      have i7 := (j7.next hb1).alloc (.cells #[.bool b2, .slice a2 k2 pp2, .bool c2, .slice f2 l2 qq2] 69)
      have hb2 : Below W.heap.size W (w1.alloc (.cells #[.bool b2, .slice a2 k2 pp2, .bool c2, .slice f2 l2 qq2] 69)) := hb1.alloc hb1.size _
      have HX := Lib.hid hn'
      clear hn hn' hb1 x4 x5 x7
      generalize w1.heap.size = z10 at *
      generalize (w1.alloc (.cells #[.bool b2, .slice a2 k2 pp2, .bool c2, .slice f2 l2 qq2] 69)) = w2 at *
      have hlast := last_low (w := w2) h c hc2 (.pointer (some ⟨w.heap.size, 0, none⟩)) (.pointer (some ⟨w.heap.size + 1, 0, none⟩)) (.pointer (some ⟨w.heap.size + 1 + 1, 0, none⟩)) (.pointer (some ⟨z10, 0, none⟩)) (fun V i hV hi => HIN.out V i _ _ _ _ _ _ _ _ _ _ _ _ (i4.next hV) (i5.next hV) (i7.next hV) (g10.next hV) (HX.out.below hV) hi)
      rw [hR] at hlast
      have HL := Lib.hid hlast
      clear hlast
      have y5 := i5.cell 0
      have y7 := i7.cell 0
      simp at y5 y7
      go_wp2_with (first
        | (go_at_call 46; refine HL.out.mono ?_; rintro e w3 ⟨rfl, hb3⟩; have m7 := i7.next hb3; have v7 := m7.cell 0; simp at v7)
        | (go_at_call 48; refine (num_of (by omega) (by omega) (by omega) (by omega) (by omega)).mono ?_; rintro e w4 ⟨r, rfl, hr, hb4⟩)
        | (go_at_call 43; refine (HT2.out _ _ hr (next_below (next_below hb2 hb3) hb4)).mono ?_; rintro e w5 ⟨rfl, hb5⟩))
      go_ret2
      exact ⟨rfl, HBB.out.trans ((next_below (next_below (next_below hb2 hb3) hb4) hb5).mono HBB.out.size)⟩
  · rw [if_neg h0]
    generalize errB n k l g = er at *
    generalize rval l = x at *
    have hb : (er != 0) = true := by simpa using h0
    have HBD := Lib.hid hbd
    clear hbd hg hl
    generalize (⟨l.toArray⟩ : ByteArray) = S at *
    go_enter Tryz.func15, Tryz.ntmps15
    go_upto_region 1 with fail
    rw [← HW.out]
    go_wp2_with (go_at_call 45; refine HBD.out.mono ?_; rintro e w1 ⟨b2, a2, k2, pp2, c2, f2, l2, qq2, rfl, hn, hb1⟩; clear hn)
    go_ret2
    exact ⟨rfl, HBB.out.trans ((hb1.alloc hb1.size _).mono HBB.out.size)⟩

/-- What High returns. -/
def highT (n k g : Nat) (x : Rat) : List UInt8 := if k = n then [49] else ratText (Rat.divInt ((g : Int) - (lastF (within n (n - k) g x) g 0 g : Nat)) g)

set_option maxHeartbeats 1000000 in
theorem high_any {w : World} (n k : Int) (l : List UInt8) (g : Int) (hg1 : -9223372036854775808 < g) (hg2 : g ≤ 9223372036854775807) (hl : l.length ≤ 268435000) (hg : Good w) :
    Calls Tryz.prog 16 #[.int .i64 n, .int .i64 k, .string ⟨l.toArray⟩, .int .i64 g] w (RetV w (.tuple #[.string ⟨(if errB n k l g = 0 then highT n.toNat k.toNat g.toNat (rval l) else []).toArray⟩, .int .i64 (errB n k l g)])) := by
  obtain ⟨W, hW, hB, hsz, j4, j5, j7⟩ := entC w 3 3 3 #[.int .i64 n] #[.int .i64 k] #[.int .i64 g]
  have HW := Lib.hid hW
  have HSZ := Lib.hid hsz
  have HBB := Lib.hid hB
  clear hW hsz
  have j7 : Blk W (w.heap.size + 1 + 1) 3 #[.int .i64 g] := j7
  have hbd := bound_any (w := W) n k l g hg1 hg2 hl (hg.below hB)
  have x4 := j4.cell 0
  have x5 := j5.cell 0
  have x7 := j7.cell 0
  simp at x4 x5 x7
  by_cases h0 : errB n k l g = 0
  · obtain ⟨a, b, c, rfl, rfl, rfl, ha, hb, hc1, hc2, hre⟩ := errB_ok h0
    rw [h0] at hbd ⊢
    rw [if_pos rfl, Int.toNat_natCast, Int.toNat_natCast, Int.toNat_natCast]
    have hs := rval_sz hl hre
    generalize rval l = x at *
    have HBD := Lib.hid hbd
    generalize (⟨l.toArray⟩ : ByteArray) = S at *
    clear hbd h0 hre
    have HG := Lib.hid (hg.below hB)
    have HS := Lib.hid hs
    clear hg hs
    by_cases hk : b = a
    · have e0 : highT a b c x = [49] := by unfold highT; rw [if_pos hk]
      have hkb : ((b : Int) == a) = true := by simp; omega
      rw [e0]
      clear e0 hk
      go_enter Tryz.func16, Tryz.ntmps16
      go_upto_region 1 with fail
      rw [← HW.out]
      go_wp2_with (go_at_call 45; refine HBD.out.mono ?_; rintro e w1 ⟨b2, a2, k2, pp2, c2, f2, l2, qq2, rfl, hn, hb1⟩; clear hn; have i5 := (j5.next hb1).alloc (.cells #[.bool b2, .slice a2 k2 pp2, .bool c2, .slice f2 l2 qq2] 69); have i4 := (j4.next hb1).alloc (.cells #[.bool b2, .slice a2 k2 pp2, .bool c2, .slice f2 l2 qq2] 69); have y5 := i5.cell 0; have y4 := i4.cell 0; simp at y5 y4)
      go_ret2
      exact ⟨rfl, HBB.out.trans ((hb1.alloc hb1.size _).mono HBB.out.size)⟩
    · obtain ⟨T, hT⟩ : ∃ T : ByteArray, T = ⟨(highT a b c x).toArray⟩ := ⟨_, rfl⟩
      rw [← hT]
      unfold highT at hT
      rw [if_neg hk] at hT
      have hle := lastF_le (within a (a - b) c x) c 0 c (by omega)
      have hin := fun (V : World) (i : Nat) nb kb gb db bb aa ka pa cc ff lf qf h1 h2 h3 h4 hx hi => highin_any (w := V) a b c i ha hb hc2 (by omega) hi (nb := nb) (kb := kb) (gb := gb) (db := db) (b := bb) (a := aa) (ka := ka) (pa := pa) (c := cc) (f := ff) (lf := lf) (qf := qf) (x := x) h1 h2 h3 h4 hx HS.out
      generalize within a (a - b) c x = h at *
      generalize hR : lastF h c 0 c = R at *
      obtain ⟨r, hr⟩ : ∃ r : Nat, (c : Int) - R = r := ⟨c - R, by omega⟩
      rw [hr] at hT
      have hol := grid_limb (i := r) (g := c) (by omega) hc2 (by omega)
      have ht2 := fun (V : World) v q hh => num_text (w := V) (v := v) (x := Rat.divInt r c) q ⟨Nat.le_trans hol.1 (by omega), Nat.le_trans (by have := hol.2; simpa using this) (by omega)⟩ (HG.out.below hh)
      rw [← hT] at ht2
      have HT2 := Lib.hid ht2
      clear ht2 hol
      have HIN := Lib.hid hin
      have HT := Lib.hid hT
      have hkb : ((b : Int) == a) = false := by simp; omega
      clear hin hT
      go_enter Tryz.func16, Tryz.ntmps16
      go_upto_region 1 with fail
      rw [← HW.out]
      go_upto_region 2 with (go_at_call 45; refine HBD.out.mono ?_; rintro e w1 ⟨b2, a2, k2, pp2, c2, f2, l2, qq2, rfl, hn, hb1⟩)
      have hn' := (hn (by first | rfl | trivial)).below ((Below.refl _ _).alloc (Nat.le_refl _) (.cells #[.bool b2, .slice a2 k2 pp2, .bool c2, .slice f2 l2 qq2] 69))
      have g10 := Blk.new w1 69 #[.bool b2, .slice a2 k2 pp2, .bool c2, .slice f2 l2 qq2]
      have i4 := (j4.next hb1).alloc (.cells #[.bool b2, .slice a2 k2 pp2, .bool c2, .slice f2 l2 qq2] 69)
      have i5 := (j5.next hb1).alloc (.cells #[.bool b2, .slice a2 k2 pp2, .bool c2, .slice f2 l2 qq2] 69)
      have i7 := (j7.next hb1).alloc (.cells #[.bool b2, .slice a2 k2 pp2, .bool c2, .slice f2 l2 qq2] 69)
      have hb2 : Below W.heap.size W (w1.alloc (.cells #[.bool b2, .slice a2 k2 pp2, .bool c2, .slice f2 l2 qq2] 69)) := hb1.alloc hb1.size _
      have HX := Lib.hid hn'
      clear hn hn' hb1 x4 x5 x7
      generalize w1.heap.size = z10 at *
      generalize (w1.alloc (.cells #[.bool b2, .slice a2 k2 pp2, .bool c2, .slice f2 l2 qq2] 69)) = w2 at *
      have hlast := last_high (w := w2) h c hc2 (.pointer (some ⟨w.heap.size, 0, none⟩)) (.pointer (some ⟨w.heap.size + 1, 0, none⟩)) (.pointer (some ⟨w.heap.size + 1 + 1, 0, none⟩)) (.pointer (some ⟨z10, 0, none⟩)) (fun V i hV hi => HIN.out V i _ _ _ _ _ _ _ _ _ _ _ _ (i4.next hV) (i5.next hV) (i7.next hV) (g10.next hV) (HX.out.below hV) hi)
      rw [hR] at hlast
      have HL := Lib.hid hlast
      clear hlast
      have y5 := i5.cell 0
      have y7 := i7.cell 0
      have y4 := i4.cell 0
      simp at y4 y5 y7
      go_wp2_with (first
        | (go_at_call 46; refine HL.out.mono ?_; rintro e w3 ⟨rfl, hb3⟩; have m7 := i7.next hb3; have v7 := m7.cell 0; simp at v7)
        | (go_at_call 48; refine (num_of (by omega) (by omega) (by omega) (by omega) (by omega)).mono ?_; rintro e w4 ⟨rv, rfl, hrv, hb4⟩)
        | (go_at_call 43; refine (HT2.out _ _ hrv (next_below (next_below hb2 hb3) hb4)).mono ?_; rintro e w5 ⟨rfl, hb5⟩))
      go_ret2
      exact ⟨rfl, HBB.out.trans ((next_below (next_below (next_below hb2 hb3) hb4) hb5).mono HBB.out.size)⟩
  · rw [if_neg h0]
    generalize errB n k l g = er at *
    generalize rval l = x at *
    have hb : (er != 0) = true := by simpa using h0
    have HBD := Lib.hid hbd
    clear hbd hg hl
    generalize (⟨l.toArray⟩ : ByteArray) = S at *
    go_enter Tryz.func16, Tryz.ntmps16
    go_upto_region 1 with fail
    rw [← HW.out]
    go_wp2_with (go_at_call 45; refine HBD.out.mono ?_; rintro e w1 ⟨b2, a2, k2, pp2, c2, f2, l2, qq2, rfl, hn, hb1⟩; clear hn)
    go_ret2
    exact ⟨rfl, HBB.out.trans ((hb1.alloc hb1.size _).mono HBB.out.size)⟩

end Go.Proofs.YtmhneibcbjgedaaGreatDoor
