/- The contracts of tail.bound and of the closures of Low and High. -/
import Derived.Test.YtmhneibcbjgedaaGreatDoorTLeast
set_option linter.unusedSimpArgs false
set_option linter.unusedVariables false
namespace Go.Proofs.YtmhneibcbjgedaaGreatDoor
open Go.RowKit
open Go.Lib (decDigits itoa nDigits)

/-- A list of one limit. -/
def Lm (m t : Int) (v : Value) (w : World) : Prop := ∃ g : Nat, v = .slice (some ⟨g, 0, none⟩) 1 1 ∧ Blk w g 111 #[.int .i64 m, .int .i64 t]
theorem Stab.lm (W : World) (m t : Int) : Stab W (Lm m t) := fun v w1 w2 _ h2 ⟨g, h, b⟩ => ⟨g, h, b.next h2⟩

/-- The error of the limit of a grid. -/
def gridErr (g : Int) : Int := if 1 ≤ g ∧ g ≤ 1000 then 0 else 2

/-- The error of bound. -/
def errB (n k : Int) (l : List UInt8) (g : Int) : Int := if cnt n k = 0 then (if chErr false l = 0 then gridErr g else chErr false l) else cnt n k

theorem limit_any {w : World} {v : Value} {g : Int} (h : Lm (g - 1) 999 v w) : Calls Tryz.prog 82 #[v] w (RetV w (.int .i64 (gridErr g))) := by
  obtain ⟨b, rfl, hb⟩ := h
  have e : gridErr g = (if ([(g - 1, 999)] : List (Int × Int)).all inLim then 0 else 2) := by
    unfold gridErr inLim
    simp only [List.all_cons, List.all_nil, Bool.and_true, Bool.and_eq_true, decide_eq_true_eq]
    congr 1
    apply propext
    omega
  rw [e]
  exact tcheck_any (w := w) (b := b) (cap := 1) [(g - 1, 999)] 1 rfl (by omega) (fun i hi => by
    have h0 := hb.cell 0
    have h1 := hb.cell 1
    match i, hi with
    | 0, _ => exact ⟨h0, h1⟩)

set_option maxHeartbeats 1000000 in
theorem bound_any {w : World} (n k : Int) (l : List UInt8) (g : Int) (hg1 : -9223372036854775808 < g) (hg2 : g ≤ 9223372036854775807) (hl : l.length ≤ 268435000) (hg : Good w) :
    Calls Tryz.prog 45 #[.int .i64 n, .int .i64 k, .string ⟨l.toArray⟩, .int .i64 g] w (RetC w (errB n k l g) (rval l)) := by
  obtain ⟨W, hW, hB, hsz, j8⟩ := entA w 69 #[.bool false, .slice none 0 0, .bool false, .slice none 0 0]
  have HW := Lib.hid hW
  have HSZ := Lib.hid hsz
  have HBB := Lib.hid hB
  clear hW hsz
  have hc := counts_any (w := W) n k
  have hch := fun (V : World) hh => chance_any (w := V) l false hl ((hg.below hB).below hh)
  unfold errB
  by_cases h0 : cnt n k = 0
  · rw [h0] at hc ⊢
    rw [if_pos rfl]
    have HC := Lib.hid hc
    by_cases h1 : chErr false l = 0
    · rw [h1] at hch ⊢
      rw [if_pos rfl]
      generalize rval l = x at *
      have HCH := Lib.hid hch
      generalize (⟨l.toArray⟩ : ByteArray) = S at *
      have hlm := fun (V : World) v h => limit_any (w := V) (v := v) (g := g) h
      generalize gridErr g = er at *
      have HLM := Lib.hid hlm
      clear hc h0 hch hg h1 hl hlm
      go_enter Tryz.func45, Tryz.ntmps45
      go_upto_region 1 with fail
      rw [← HW.out]
      go_upto_region 5 with (first
        | (go_at_call 37; refine HC.out.mono ?_; rintro e w1 ⟨rfl, hb1⟩)
        | (go_at_call 40; refine (HCH.out _ hb1).mono ?_; rintro e w2 ⟨b2, a2, k2, pp2, c2, f2, l2, qq2, rfl, hn, hb2⟩))
      have hx2 := (hn (by first | rfl | trivial)).below ((Below.refl _ _).alloc (Nat.le_refl _) (.cells #[.bool b2, .slice a2 k2 pp2, .bool c2, .slice f2 l2 qq2] 69))
      have g2 := Blk.new w2 69 #[.bool b2, .slice a2 k2 pp2, .bool c2, .slice f2 l2 qq2]
      have j8' := ((j8.next hb1).next hb2).alloc (.cells #[.bool b2, .slice a2 k2 pp2, .bool c2, .slice f2 l2 qq2] 69)
      have hb3 : Below W.heap.size W (w2.alloc (.cells #[.bool b2, .slice a2 k2 pp2, .bool c2, .slice f2 l2 qq2] 69)) := (next_below hb1 hb2).alloc (next_below hb1 hb2).size _
      clear hn hb1 hb2
      generalize w2.heap.size = z9 at *
      generalize (w2.alloc (.cells #[.bool b2, .slice a2 k2 pp2, .bool c2, .slice f2 l2 qq2] 69)) = w3 at *
      obtain ⟨x0, x1, x2, x3⟩ := g2.at4
      go_upto_region 7 with fail
      have HX := Lib.hid hx2
      have hB0 : Below w3.heap.size w3 w3.drew := (Below.refl _ _).drew
      refine wp_region_list 6 (by kernel_rfl) (by kernel_rfl) [] [fun v _ => v = .agg #[.bool b2, .slice a2 k2 pp2, .bool c2, .slice f2 l2 qq2], fun v _ => v = .int .i64 g, fun v _ => v = .int .i64 (g - 1), fun v _ => v = .agg #[.int .i64 (g - 1), .int .i64 999], Lm (g - 1) 999, fun v _ => v = .int .i64 er] (by simp only [List.take_succ_cons, List.take_zero]; rfl) (by simp only [List.drop_succ_cons, List.drop_zero]; rfl) (fun vals => by simp only [fam, Act.put, List.setIfInBounds_toArray, List.set_cons_zero, List.set_cons_succ, if_true]; rfl) (by repeat' (first | exact Stab.eq _ _ | exact Stab.wh _ _ | exact Stab.nm _ _ | exact Stab.new _ _ | exact Stab.newn _ _ | exact Stab.tw _ _ _ | exact Stab.lm _ _ _ | exact trivial | apply And.intro)) trivial ?_ ?_
      · refine ⟨?_, ?_, ?_, ?_, ?_, ?_, trivial⟩
        all_goals
          intro vals w4 hB hp
          dsimp only
          (try simp [preOk, Region.binds] at hp)
          have hbb := next_below hB0 hB
          obtain ⟨y0, y1, y2, y3⟩ := (g2.next hbb).at4
          clear hB x0 x1 x2 x3
        case refine_3 =>
          generalize vals 1 = t1 at *
          subst hp
          go_wp2
          exact ⟨rfl, _, rfl, rfl, Below.refl _ _, trivial⟩
        case refine_4 =>
          generalize vals 2 = t2 at *
          subst hp
          go_wp2
          exact ⟨rfl, _, rfl, rfl, Below.refl _ _, trivial⟩
        case refine_5 =>
          generalize vals 3 = t3 at *
          subst hp
          go_wp2
          exact ⟨rfl, _, rfl, ⟨_, rfl, Blk.new _ _ _⟩, (Below.refl _ _).alloc (Nat.le_refl _) _, trivial⟩
        case refine_6 =>
          go_wp2_with (go_at_call 82; refine (HLM.out _ _ hp).mono ?_; rintro e w5 ⟨rfl, hb5⟩)
          exact ⟨rfl, _, rfl, rfl, hb5, trivial⟩
        all_goals
          go_wp2
          (first | exact ⟨rfl, _, rfl, rfl, Below.refl _ _, trivial⟩ | (refine ⟨rfl, _, ?_, rfl, Below.refl _ _, trivial⟩; simp only [Act.put, List.setIfInBounds_toArray, List.set_cons_zero, List.set_cons_succ, hp]))
      · rintro vals w4 hB ⟨p0, p1, p2, p3, p4, p5, _⟩ hne
        have hbb := next_below hB0 hB
        simp at p0 p5
        generalize vals 0 = v0 at *
        subst p0
        generalize vals 5 = v5 at *
        subst p5
        clear hne p1 p2 p3 p4 x0 x1 x2 x3
        have j6 := j8'.next hbb
        obtain ⟨q0, q1, q2, q3⟩ := j6.at4
        obtain ⟨u0, u1, u2, u3⟩ := j6.fr4
        go_wp2
        have hj := j6.four (.bool b2) (.slice a2 k2 pp2) (.bool c2) (.slice f2 l2 qq2)
        obtain ⟨d0, d1, d2, d3⟩ := hj.at4
        refine bodyPost_ret (v := .tuple #[.agg #[.bool b2, .slice a2 k2 pp2, .bool c2, .slice f2 l2 qq2], .int .i64 er]) (by simp [results, Tryz.results45, go_sem, d0, d1, d2, d3]) rfl ⟨_, _, _, _, _, _, _, _, rfl, fun _ => (HX.out.below hbb).four j6 (by decide) _ _ _ _, below_four (HBB.out.trans ((next_below hb3 hbb).mono HBB.out.size)) (Nat.le_refl _) _ _ _ _⟩
    · rw [if_neg h1]
      generalize chErr false l = er at *
      generalize rval l = x at *
      have hb : (er != 0) = true := by simpa using h1
      have HCH := Lib.hid hch
      clear hc hg hch hl
      generalize (⟨l.toArray⟩ : ByteArray) = S at *
      go_enter Tryz.func45, Tryz.ntmps45
      go_upto_region 1 with fail
      rw [← HW.out]
      go_wp2_with (first
        | (go_at_call 37; refine HC.out.mono ?_; rintro e w1 ⟨rfl, hb1⟩)
        | (go_at_call 40; refine (HCH.out _ hb1).mono ?_; rintro e w2 ⟨b2, a2, k2, pp2, c2, f2, l2, qq2, rfl, hn, hb2⟩; clear hn; have j6 := ((j8.next hb1).next hb2).alloc (.cells #[.bool b2, .slice a2 k2 pp2, .bool c2, .slice f2 l2 qq2] 69); obtain ⟨q0, q1, q2, q3⟩ := j6.at4; obtain ⟨u0, u1, u2, u3⟩ := j6.fr4))
      have hj := j6.four (.bool false) (.slice none 0 0) (.bool false) (.slice none 0 0)
      obtain ⟨d0, d1, d2, d3⟩ := hj.at4
      refine bodyPost_ret (v := .tuple #[.agg #[.bool false, .slice none 0 0, .bool false, .slice none 0 0], .int .i64 er]) (by simp [results, Tryz.results45, go_sem, d0, d1, d2, d3]) rfl ⟨_, _, _, _, _, _, _, _, rfl, fun h => absurd h h1, below_four (HBB.out.trans (((next_below hb1 hb2).alloc (next_below hb1 hb2).size _).mono HBB.out.size)) (Nat.le_refl _) _ _ _ _⟩
  · rw [if_neg h0]
    generalize cnt n k = er at *
    generalize rval l = x at *
    have hb : (er != 0) = true := by simpa using h0
    have HC := Lib.hid hc
    clear hc hg hch hl
    generalize (⟨l.toArray⟩ : ByteArray) = S at *
    go_enter Tryz.func45, Tryz.ntmps45
    go_upto_region 1 with fail
    rw [← HW.out]
    go_wp2_with (go_at_call 37; refine HC.out.mono ?_; rintro e w1 ⟨rfl, hb1⟩; have j6 := j8.next hb1; obtain ⟨q0, q1, q2, q3⟩ := j6.at4; obtain ⟨u0, u1, u2, u3⟩ := j6.fr4)
    have hj := j6.four (.bool false) (.slice none 0 0) (.bool false) (.slice none 0 0)
    obtain ⟨d0, d1, d2, d3⟩ := hj.at4
    refine bodyPost_ret (v := .tuple #[.agg #[.bool false, .slice none 0 0, .bool false, .slice none 0 0], .int .i64 er]) (by simp [results, Tryz.results45, go_sem, d0, d1, d2, d3]) rfl ⟨_, _, _, _, _, _, _, _, rfl, fun h => absurd h h0, below_four (HBB.out.trans (hb1.mono HBB.out.size)) (Nat.le_refl _) _ _ _ _⟩

/-- Does the tail at i parts of a grid of g stay within x? -/
def within (n k g : Nat) (x : Rat) (i : Nat) : Bool := decide (rcmp (UV n k (Rat.divInt i g)) x ≤ 0)

theorem grid_limb {i g : Nat} (hi : i ≤ 1000) (hg : g ≤ 1000) (h0 : 0 < g) : OneLimb (Rat.divInt i g) := by
  have h4 : (limbs 1000).length = 1 := by decide +kernel
  have h1 : (limbs (i : Int).natAbs).length ≤ 1 := by
    have := limbs_len_mono (a := (i : Int).natAbs) (b := 1000) (by omega)
    omega
  have h2 : (limbs (g : Int).natAbs).length ≤ 1 := by
    have := limbs_len_mono (a := (g : Int).natAbs) (b := 1000) (by omega)
    omega
  have := Sz.make (m := i) (n := g) (j := 1) (by omega) h1 h2
  exact ⟨this.1, this.den⟩

set_option maxHeartbeats 1000000 in
theorem lowin_any {w : World} (n k g i : Nat) (hn : n ≤ 200) (hk : k ≤ n) (hg : g ≤ 1000) (hg0 : 0 < g) (hi : i ≤ g) {nb kb gb db : Nat} {b : Bool} {a : Option Addr} {ka pa : Nat} {c : Bool} {f : Option Addr} {lf qf : Nat} {x : Rat}
    (h1 : Blk w nb 3 #[.int .i64 n]) (h2 : Blk w kb 3 #[.int .i64 k]) (h3 : Blk w gb 3 #[.int .i64 g]) (h4 : Blk w db 69 #[.bool b, .slice a ka pa, .bool c, .slice f lf qf]) (hx : Nm w (.agg #[.bool b, .slice a ka pa, .bool c, .slice f lf qf]) x) (hs : Sz 268435456 x) :
    Calls Tryz.prog 47 #[.int .i64 i, .pointer (some ⟨nb, 0, none⟩), .pointer (some ⟨kb, 0, none⟩), .pointer (some ⟨gb, 0, none⟩), .pointer (some ⟨db, 0, none⟩)] w (RetV w (.bool (within n k g x i))) := by
  have ho := grid_limb (i := i) (g := g) (by omega) hg hg0
  have hu := fun (V : World) v h => upper_any (w := V) (v := v) (x := Rat.divInt i g) n k (by omega) (by omega) ho.1 ho.2 h
  have hu : ∀ (V : World) v, Nm V v (Rat.divInt i g) → Calls Tryz.prog 41 #[.int .i64 n, .int .i64 k, v] V (RetN V (UV n k (Rat.divInt i g))) := hu
  have hsz := uv_sz (n := n) (k := k) (by omega) ho
  unfold within
  generalize UV n k (Rat.divInt i g) = u at *
  have HU := Lib.hid hu
  have hcm := fun (V : World) v1 v2 q1 q2 => num_cmp (w := V) (v0 := v1) (v1 := v2) (x := u) (y := x) q1 q2 (hsz.mono (by omega)) hs
  generalize rcmp u x = cx at *
  have HCM := Lib.hid hcm
  have HX := Lib.hid hx
  clear hu hsz hcm hs hx ho
  go_enter Tryz.func47, Tryz.ntmps47
  go_upto_region 1 with fail
  have hB0 : Below w.heap.size w w.drew := (Below.refl _ _).drew
  refine wp_region_list 9 (by kernel_rfl) (by kernel_rfl) [] [fun v _ => v = .int .i64 n, fun v _ => v = .int .i64 k, fun v _ => v = .int .i64 i, fun v _ => v = .int .i64 g, fun v w' => Nm w' v (Rat.divInt i g), fun v w' => Nm w' v (u), fun v _ => v = .agg #[.bool b, .slice a ka pa, .bool c, .slice f lf qf], fun v _ => v = .int .i64 cx, fun v _ => v = .bool (decide (cx ≤ 0))] (by simp only [List.take_succ_cons, List.take_zero]; rfl) (by simp only [List.drop_succ_cons, List.drop_zero]; rfl) (fun vals => by simp only [fam, Act.put, List.setIfInBounds_toArray, List.set_cons_zero, List.set_cons_succ, if_true]; rfl) (by repeat' (first | exact Stab.eq _ _ | exact Stab.wh _ _ | exact Stab.nm _ _ | exact Stab.new _ _ | exact Stab.newn _ _ | exact Stab.tw _ _ _ | exact Stab.lm _ _ _ | exact trivial | apply And.intro)) trivial ?_ ?_
  · refine ⟨?_, ?_, ?_, ?_, ?_, ?_, ?_, ?_, ?_, trivial⟩
    all_goals
      intro vals w4 hB hp
      dsimp only
      (try simp [preOk, Region.binds] at hp)
      have hbb := next_below hB0 hB
      have c1 := (h1.next hbb).cell 0
      have c2 := (h2.next hbb).cell 0
      have c3 := (h3.next hbb).cell 0
      simp at c1 c2 c3
      obtain ⟨y0, y1, y2, y3⟩ := (h4.next hbb).at4
      clear hB
    case refine_5 =>
      obtain ⟨q0, q1⟩ := hp
      generalize vals 2 = t2 at *
      subst q0
      generalize vals 3 = t3 at *
      subst q1
      go_wp2_with (go_at_call 48; refine (num_of (by omega) (by omega) (by omega) (by omega) (by omega)).mono ?_; rintro e w5 ⟨r, rfl, hr, hb5⟩)
      exact ⟨rfl, _, rfl, hr, hb5, trivial⟩
    case refine_6 =>
      obtain ⟨q0, q1, q2⟩ := hp
      generalize vals 0 = t2 at *
      subst q0
      generalize vals 1 = t3 at *
      subst q1
      go_wp2_with (go_at_call 41; refine (HU.out _ _ q2).mono ?_; rintro e w5 ⟨r, rfl, hr, hb5⟩)
      exact ⟨rfl, _, rfl, hr, hb5, trivial⟩
    case refine_8 =>
      obtain ⟨q0, q1, q2⟩ := hp
      generalize vals 6 = t3 at *
      subst q1
      go_wp2_with (go_at_call 49; refine (HCM.out _ _ _ q0 (HX.out.below hbb)).mono ?_; rintro e w5 ⟨rfl, hb5⟩)
      exact ⟨rfl, _, rfl, rfl, hb5, trivial⟩
    case refine_9 =>
      generalize vals 7 = t3 at *
      subst hp
      go_wp2
      exact ⟨rfl, _, rfl, rfl, Below.refl _ _, trivial⟩
    all_goals
      go_wp2
      (first | exact ⟨rfl, _, rfl, rfl, Below.refl _ _, trivial⟩ | (refine ⟨rfl, _, ?_, rfl, Below.refl _ _, trivial⟩; simp only [Act.put, List.setIfInBounds_toArray, List.set_cons_zero, List.set_cons_succ, hp]))
  · rintro vals w4 hB ⟨p0, p1, p2, p3, p4, p5, p6, p7, p8, _⟩ hne
    have hbb := next_below hB0 hB
    simp at p8
    generalize vals 8 = v8 at *
    subst p8
    clear hne p0 p1 p2 p3 p4 p5 p6 p7
    go_wp2
    go_ret
    exact ⟨rfl, hbb⟩

set_option maxHeartbeats 1000000 in
theorem highin_any {w : World} (n k g i : Nat) (hn : n ≤ 200) (hk : k ≤ n) (hg : g ≤ 1000) (hg0 : 0 < g) (hi : i ≤ g) {nb kb gb db : Nat} {b : Bool} {a : Option Addr} {ka pa : Nat} {c : Bool} {f : Option Addr} {lf qf : Nat} {x : Rat}
    (h1 : Blk w nb 3 #[.int .i64 n]) (h2 : Blk w kb 3 #[.int .i64 k]) (h3 : Blk w gb 3 #[.int .i64 g]) (h4 : Blk w db 69 #[.bool b, .slice a ka pa, .bool c, .slice f lf qf]) (hx : Nm w (.agg #[.bool b, .slice a ka pa, .bool c, .slice f lf qf]) x) (hs : Sz 268435456 x) :
    Calls Tryz.prog 50 #[.int .i64 i, .pointer (some ⟨nb, 0, none⟩), .pointer (some ⟨kb, 0, none⟩), .pointer (some ⟨gb, 0, none⟩), .pointer (some ⟨db, 0, none⟩)] w (RetV w (.bool (within n (n - k) g x i))) := by
  have ho := grid_limb (i := i) (g := g) (by omega) hg hg0
  have hu := fun (V : World) v h => upper_any (w := V) (v := v) (x := Rat.divInt i g) n (n - k) (by omega) (by omega) ho.1 ho.2 h
  have hu : ∀ (V : World) v, Nm V v (Rat.divInt i g) → Calls Tryz.prog 41 #[.int .i64 n, .int .i64 (n - k : Nat), v] V (RetN V (UV n (n - k) (Rat.divInt i g))) := hu
  rw [Int.natCast_sub hk] at hu
  have hsz := uv_sz (n := n) (k := n - k) (by omega) ho
  unfold within
  generalize UV n (n - k) (Rat.divInt i g) = u at *
  have HU := Lib.hid hu
  have hcm := fun (V : World) v1 v2 q1 q2 => num_cmp (w := V) (v0 := v1) (v1 := v2) (x := u) (y := x) q1 q2 (hsz.mono (by omega)) hs
  generalize rcmp u x = cx at *
  have HCM := Lib.hid hcm
  have HX := Lib.hid hx
  clear hu hsz hcm hs hx ho
  go_enter Tryz.func50, Tryz.ntmps50
  go_upto_region 1 with fail
  have hB0 : Below w.heap.size w w.drew := (Below.refl _ _).drew
  refine wp_region_list 11 (by kernel_rfl) (by kernel_rfl) [] [fun v _ => v = .int .i64 n, fun v _ => v = .int .i64 n, fun v _ => v = .int .i64 k, fun v _ => v = .int .i64 ((n : Int) - k), fun v _ => v = .int .i64 i, fun v _ => v = .int .i64 g, fun v w' => Nm w' v (Rat.divInt i g), fun v w' => Nm w' v (u), fun v _ => v = .agg #[.bool b, .slice a ka pa, .bool c, .slice f lf qf], fun v _ => v = .int .i64 cx, fun v _ => v = .bool (decide (cx ≤ 0))] (by simp only [List.take_succ_cons, List.take_zero]; rfl) (by simp only [List.drop_succ_cons, List.drop_zero]; rfl) (fun vals => by simp only [fam, Act.put, List.setIfInBounds_toArray, List.set_cons_zero, List.set_cons_succ, if_true]; rfl) (by repeat' (first | exact Stab.eq _ _ | exact Stab.wh _ _ | exact Stab.nm _ _ | exact Stab.new _ _ | exact Stab.newn _ _ | exact Stab.tw _ _ _ | exact Stab.lm _ _ _ | exact trivial | apply And.intro)) trivial ?_ ?_
  · refine ⟨?_, ?_, ?_, ?_, ?_, ?_, ?_, ?_, ?_, ?_, ?_, trivial⟩
    all_goals
      intro vals w4 hB hp
      dsimp only
      (try simp [preOk, Region.binds] at hp)
      have hbb := next_below hB0 hB
      have c1 := (h1.next hbb).cell 0
      have c2 := (h2.next hbb).cell 0
      have c3 := (h3.next hbb).cell 0
      simp at c1 c2 c3
      obtain ⟨y0, y1, y2, y3⟩ := (h4.next hbb).at4
      clear hB
    case refine_4 =>
      obtain ⟨q0, q1⟩ := hp
      generalize vals 1 = t2 at *
      subst q0
      generalize vals 2 = t3 at *
      subst q1
      go_wp2
      exact ⟨rfl, _, rfl, rfl, Below.refl _ _, trivial⟩
    case refine_7 =>
      obtain ⟨q0, q1⟩ := hp
      generalize vals 4 = t2 at *
      subst q0
      generalize vals 5 = t3 at *
      subst q1
      go_wp2_with (go_at_call 48; refine (num_of (by omega) (by omega) (by omega) (by omega) (by omega)).mono ?_; rintro e w5 ⟨r, rfl, hr, hb5⟩)
      exact ⟨rfl, _, rfl, hr, hb5, trivial⟩
    case refine_8 =>
      obtain ⟨q0, q1, q2⟩ := hp
      generalize vals 0 = t2 at *
      subst q0
      generalize vals 3 = t3 at *
      subst q1
      go_wp2_with (go_at_call 41; refine (HU.out _ _ q2).mono ?_; rintro e w5 ⟨r, rfl, hr, hb5⟩)
      exact ⟨rfl, _, rfl, hr, hb5, trivial⟩
    case refine_10 =>
      obtain ⟨q0, q1, q2⟩ := hp
      generalize vals 8 = t3 at *
      subst q1
      go_wp2_with (go_at_call 49; refine (HCM.out _ _ _ q0 (HX.out.below hbb)).mono ?_; rintro e w5 ⟨rfl, hb5⟩)
      exact ⟨rfl, _, rfl, rfl, hb5, trivial⟩
    case refine_11 =>
      generalize vals 9 = t3 at *
      subst hp
      go_wp2
      exact ⟨rfl, _, rfl, rfl, Below.refl _ _, trivial⟩
    all_goals
      go_wp2
      (first | exact ⟨rfl, _, rfl, rfl, Below.refl _ _, trivial⟩ | (refine ⟨rfl, _, ?_, rfl, Below.refl _ _, trivial⟩; simp only [Act.put, List.setIfInBounds_toArray, List.set_cons_zero, List.set_cons_succ, hp]))
  · rintro vals w4 hB ⟨p0, p1, p2, p3, p4, p5, p6, p7, p8, p9, p10, _⟩ hne
    have hbb := next_below hB0 hB
    simp at p10
    generalize vals 10 = v8 at *
    subst p10
    clear hne p0 p1 p2 p3 p4 p5 p6 p7 p8 p9
    go_wp2
    go_ret
    exact ⟨rfl, hbb⟩

end Go.Proofs.YtmhneibcbjgedaaGreatDoor
