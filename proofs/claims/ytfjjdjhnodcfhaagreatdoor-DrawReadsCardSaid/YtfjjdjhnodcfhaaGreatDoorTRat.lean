/- The contracts of ratio.both, apply, Add, Sub, Mul, Div, Cmp over texts. -/
import Derived.Test.YtfjjdjhnodcfhaaGreatDoorCanon
set_option linter.unusedSimpArgs false
set_option linter.unusedVariables false
namespace Go.Proofs.YtfjjdjhnodcfhaaGreatDoor
open Go.RowKit
open Go.Lib (decDigits itoa nDigits)

/-- What told makes of a number. -/
def tellV (x : Rat) : Value := if fitsD 2000 x then .tuple #[.string ⟨(ratText x).toArray⟩, .int .i64 0] else .tuple #[.string ⟨#[]⟩, .int .i64 6]

theorem tellV_form (x : Rat) : ∃ T e, tellV x = .tuple #[.string T, .int .i64 e] := by
  unfold tellV
  split
  · exact ⟨_, _, rfl⟩
  · exact ⟨_, _, rfl⟩

theorem tell_any {w : World} {v : Value} {x : Rat} (h : Nm w v x) (s : Sz 268435456 x) (hg : Good w) : Calls Tryz.prog 105 #[v] w (RetV w (tellV x)) := by
  have h := told_any h s hg
  unfold tellV
  by_cases hf : fitsD 2000 x
  · rw [if_pos hf]; rw [if_pos (show _ ∧ _ from hf)] at h; exact h
  · rw [if_neg hf]; rw [if_neg (show ¬ (_ ∧ _) from hf)] at h; exact h

set_option maxHeartbeats 1000000 in
set_option maxRecDepth 100000 in
theorem apply1_add {w : World} {g : Nat} {v0 v1 : Value} {x y : Rat} (h0 : Nm w v0 x) (h1 : Nm w v1 y) (s0 : Sz 2000 x) (s1 : Sz 2000 y) (hg : Blk w g 115 #[.func (.func 65) #[] #[]]) (hgd : Good w) :
    Calls Tryz.prog 110 #[v0, v1, .pointer (some ⟨g, 0, none⟩)] w (RetV w (tellV (x + y))) := by
  obtain ⟨bn0, an0, kn0, pn0, bd0, ad0, kd0, pd0, rfl, n0, d0⟩ := h0.parts
  obtain ⟨bn1, an1, kn1, pn1, bd1, ad1, kd1, pd1, rfl, n1, d1⟩ := h1.parts
  obtain ⟨W, hW, hB, hsz, j0, j1⟩ := entB w 84 84 #[.bool bn0, .slice an0 kn0 pn0, .bool bd0, .slice ad0 kd0 pd0] #[.bool bn1, .slice an1 kn1 pn1, .bool bd1, .slice ad1 kd1 pd1]
  have HW := Lib.hid hW
  have HBB := Lib.hid hB
  have ho := num_add (w := W) (h0.below hB) (h1.below hB) (s0.mono (by omega)) (s1.mono (by omega))
  have hz : Sz 268435456 (x + y) := (s0.add s1).mono (by omega)
  generalize x + y = z at *
  have ht : ∀ (V : World) v, Nm V v z → Below W.heap.size W V → Calls Tryz.prog 105 #[v] V (RetV V (tellV z)) := fun V v q hh => tell_any q hz (hgd.below (next_below hB hh))
  obtain ⟨T, er, hT⟩ := tellV_form z
  rw [hT] at ht ⊢
  have HO := Lib.hid ho
  have HT := Lib.hid ht
  obtain ⟨x0, x1, x2, x3⟩ := j0.at4
  obtain ⟨y0, y1, y2, y3⟩ := j1.at4
  have g1 := (hg.next hB).cell 0
  simp at g1
  clear ho ht hT n0 d0 n1 d1 h0 h1 hW hsz hB hg s0 s1
  go_enter Tryz.func110, Tryz.ntmps110
  go_upto_region 1 with fail
  rw [← HW.out]
  go_wp2_with (first
    | (go_at_call 65; refine HO.out.mono ?_; rintro e w1 ⟨r, rfl, hr, hb1⟩)
    | (go_at_call 105; refine (HT.out _ _ hr hb1).mono ?_; rintro e w2 ⟨rfl, hb2⟩))
  go_ret2
  exact ⟨rfl, HBB.out.trans ((next_below hb1 hb2).mono HBB.out.size)⟩

set_option maxHeartbeats 1000000 in
set_option maxRecDepth 100000 in
theorem apply1_sub {w : World} {g : Nat} {v0 v1 : Value} {x y : Rat} (h0 : Nm w v0 x) (h1 : Nm w v1 y) (s0 : Sz 2000 x) (s1 : Sz 2000 y) (hg : Blk w g 115 #[.func (.func 42) #[] #[]]) (hgd : Good w) :
    Calls Tryz.prog 110 #[v0, v1, .pointer (some ⟨g, 0, none⟩)] w (RetV w (tellV (x - y))) := by
  obtain ⟨bn0, an0, kn0, pn0, bd0, ad0, kd0, pd0, rfl, n0, d0⟩ := h0.parts
  obtain ⟨bn1, an1, kn1, pn1, bd1, ad1, kd1, pd1, rfl, n1, d1⟩ := h1.parts
  obtain ⟨W, hW, hB, hsz, j0, j1⟩ := entB w 84 84 #[.bool bn0, .slice an0 kn0 pn0, .bool bd0, .slice ad0 kd0 pd0] #[.bool bn1, .slice an1 kn1 pn1, .bool bd1, .slice ad1 kd1 pd1]
  have HW := Lib.hid hW
  have HBB := Lib.hid hB
  have ho := num_sub (w := W) (h0.below hB) (h1.below hB) (s0.mono (by omega)) (s1.mono (by omega))
  have hz : Sz 268435456 (x - y) := by rw [Rat.sub_eq_add_neg]; exact (s0.add s1.neg).mono (by omega)
  generalize x - y = z at *
  have ht : ∀ (V : World) v, Nm V v z → Below W.heap.size W V → Calls Tryz.prog 105 #[v] V (RetV V (tellV z)) := fun V v q hh => tell_any q hz (hgd.below (next_below hB hh))
  obtain ⟨T, er, hT⟩ := tellV_form z
  rw [hT] at ht ⊢
  have HO := Lib.hid ho
  have HT := Lib.hid ht
  obtain ⟨x0, x1, x2, x3⟩ := j0.at4
  obtain ⟨y0, y1, y2, y3⟩ := j1.at4
  have g1 := (hg.next hB).cell 0
  simp at g1
  clear ho ht hT n0 d0 n1 d1 h0 h1 hW hsz hB hg s0 s1
  go_enter Tryz.func110, Tryz.ntmps110
  go_upto_region 1 with fail
  rw [← HW.out]
  go_wp2_with (first
    | (go_at_call 42; refine HO.out.mono ?_; rintro e w1 ⟨r, rfl, hr, hb1⟩)
    | (go_at_call 105; refine (HT.out _ _ hr hb1).mono ?_; rintro e w2 ⟨rfl, hb2⟩))
  go_ret2
  exact ⟨rfl, HBB.out.trans ((next_below hb1 hb2).mono HBB.out.size)⟩

set_option maxHeartbeats 1000000 in
set_option maxRecDepth 100000 in
theorem apply1_mul {w : World} {g : Nat} {v0 v1 : Value} {x y : Rat} (h0 : Nm w v0 x) (h1 : Nm w v1 y) (s0 : Sz 2000 x) (s1 : Sz 2000 y) (hg : Blk w g 115 #[.func (.func 79) #[] #[]]) (hgd : Good w) :
    Calls Tryz.prog 110 #[v0, v1, .pointer (some ⟨g, 0, none⟩)] w (RetV w (tellV (x * y))) := by
  obtain ⟨bn0, an0, kn0, pn0, bd0, ad0, kd0, pd0, rfl, n0, d0⟩ := h0.parts
  obtain ⟨bn1, an1, kn1, pn1, bd1, ad1, kd1, pd1, rfl, n1, d1⟩ := h1.parts
  obtain ⟨W, hW, hB, hsz, j0, j1⟩ := entB w 84 84 #[.bool bn0, .slice an0 kn0 pn0, .bool bd0, .slice ad0 kd0 pd0] #[.bool bn1, .slice an1 kn1 pn1, .bool bd1, .slice ad1 kd1 pd1]
  have HW := Lib.hid hW
  have HBB := Lib.hid hB
  have ho := num_mul (w := W) (h0.below hB) (h1.below hB) (s0.mono (by omega)) (s1.mono (by omega))
  have hz : Sz 268435456 (x * y) := (s0.mul s1).mono (by omega)
  generalize x * y = z at *
  have ht : ∀ (V : World) v, Nm V v z → Below W.heap.size W V → Calls Tryz.prog 105 #[v] V (RetV V (tellV z)) := fun V v q hh => tell_any q hz (hgd.below (next_below hB hh))
  obtain ⟨T, er, hT⟩ := tellV_form z
  rw [hT] at ht ⊢
  have HO := Lib.hid ho
  have HT := Lib.hid ht
  obtain ⟨x0, x1, x2, x3⟩ := j0.at4
  obtain ⟨y0, y1, y2, y3⟩ := j1.at4
  have g1 := (hg.next hB).cell 0
  simp at g1
  clear ho ht hT n0 d0 n1 d1 h0 h1 hW hsz hB hg s0 s1
  go_enter Tryz.func110, Tryz.ntmps110
  go_upto_region 1 with fail
  rw [← HW.out]
  go_wp2_with (first
    | (go_at_call 79; refine HO.out.mono ?_; rintro e w1 ⟨r, rfl, hr, hb1⟩)
    | (go_at_call 105; refine (HT.out _ _ hr hb1).mono ?_; rintro e w2 ⟨rfl, hb2⟩))
  go_ret2
  exact ⟨rfl, HBB.out.trans ((next_below hb1 hb2).mono HBB.out.size)⟩

set_option maxHeartbeats 1000000 in
set_option maxRecDepth 100000 in
theorem cmp1_any {w : World} {v0 v1 : Value} {x y : Rat} (h0 : Nm w v0 x) (h1 : Nm w v1 y) (s0 : Sz 2000 x) (s1 : Sz 2000 y) :
    Calls Tryz.prog 108 #[v0, v1] w (RetV w (.tuple #[.int .i64 (rcmp x y), .int .i64 0])) := by
  obtain ⟨bn0, an0, kn0, pn0, bd0, ad0, kd0, pd0, rfl, n0, d0⟩ := h0.parts
  obtain ⟨bn1, an1, kn1, pn1, bd1, ad1, kd1, pd1, rfl, n1, d1⟩ := h1.parts
  obtain ⟨W, hW, hB, hsz, j0, j1⟩ := entB w 84 84 #[.bool bn0, .slice an0 kn0 pn0, .bool bd0, .slice ad0 kd0 pd0] #[.bool bn1, .slice an1 kn1 pn1, .bool bd1, .slice ad1 kd1 pd1]
  have HW := Lib.hid hW
  have HBB := Lib.hid hB
  have ho := num_cmp (w := W) (h0.below hB) (h1.below hB) (s0.mono (by omega)) (s1.mono (by omega))
  generalize rcmp x y = z at *
  have HO := Lib.hid ho
  obtain ⟨x0, x1, x2, x3⟩ := j0.at4
  obtain ⟨y0, y1, y2, y3⟩ := j1.at4
  clear ho n0 d0 n1 d1 h0 h1 hW hsz hB s0 s1
  go_enter Tryz.func108, Tryz.ntmps108
  go_upto_region 1 with fail
  rw [← HW.out]
  go_wp2_with (go_at_call 74; refine HO.out.mono ?_; rintro e w1 ⟨rfl, hb1⟩)
  go_ret2
  exact ⟨rfl, HBB.out.trans (hb1.mono HBB.out.size)⟩

set_option maxHeartbeats 2000000 in
set_option maxRecDepth 100000 in
theorem both_apply {w : World} {la lb : List UInt8} (hla : la.length ≤ 268435000) (hlb : lb.length ≤ 268435000) (hgd : Good w) {g : Nat} (r : Value) (er : Int)
    (hdo : rerr la = 0 → rerr lb = 0 → ∀ V v0 v1, Below w.heap.size w V → Nm V v0 (rval la) → Nm V v1 (rval lb) → Calls Tryz.prog 110 #[v0, v1, .pointer (some ⟨g, 0, none⟩)] V (RetV V (.tuple #[r, .int .i64 er]))) :
    Calls Tryz.prog 109 #[.string ⟨la.toArray⟩, .string ⟨lb.toArray⟩, .func (.func 110) #[] #[.pointer (some ⟨g, 0, none⟩)]] w (RetV w (if rerr la = 0 then (if rerr lb = 0 then .tuple #[r, .int .i64 er] else .tuple #[.string ⟨#[]⟩, .int .i64 (rerr lb)]) else .tuple #[.string ⟨#[]⟩, .int .i64 (rerr la)])) := by
  have ha := rread_any (w := w) la hla hgd
  have hb := fun (V : World) (hh : Below w.heap.size w V) => rread_any (w := V) lb hlb (hgd.below hh)
  generalize rerr la = ea at *
  generalize rerr lb = eb at *
  generalize rval la = x at *
  generalize rval lb = y at *
  have HA := Lib.hid ha
  have HB := Lib.hid hb
  have HD := Lib.hid hdo
  generalize (⟨la.toArray⟩ : ByteArray) = SA at *
  generalize (⟨lb.toArray⟩ : ByteArray) = SB at *
  clear ha hb hdo hla hlb hgd
  by_cases h0 : ea = 0
  · rw [if_pos h0]
    subst h0
    by_cases h1 : eb = 0
    · rw [if_pos h1]
      subst h1
      go_enter Tryz.func109, Tryz.ntmps109
      go_upto_region 2 with fail
      go_wp2_with fail
      refine HA.out.mono ?_
      rintro e w1 ⟨b1, a1, k1, p1, c1, f1, l1, q1, rfl, hn1, hb1⟩
      go_wp2_with fail
      refine (HB.out _ hb1).mono ?_
      rintro e w2 ⟨b2, a2, k2, p2, c2, f2, l2, q2, rfl, hn2, hb2⟩
      have hx1 := (hn1 (by first | rfl | trivial)).below hb2
      have hx2 := hn2 (by first | rfl | trivial)
      have hbb := next_below hb1 hb2
      have i1 := (Blk.new w2 153 #[.bool b1, .slice a1 k1 p1, .bool c1, .slice f1 l1 q1, .int .i64 0]).alloc (.cells #[.bool b2, .slice a2 k2 p2, .bool c2, .slice f2 l2 q2, .int .i64 0] 153)
      have i2 := Blk.new2 w2 (.cells #[.bool b1, .slice a1 k1 p1, .bool c1, .slice f1 l1 q1, .int .i64 0] 153) 153 #[.bool b2, .slice a2 k2 p2, .bool c2, .slice f2 l2 q2, .int .i64 0]
      have hx1' := hx1.below (((Below.refl _ _).alloc (Nat.le_refl _) (.cells #[.bool b1, .slice a1 k1 p1, .bool c1, .slice f1 l1 q1, .int .i64 0] 153)).alloc (by simp) (.cells #[.bool b2, .slice a2 k2 p2, .bool c2, .slice f2 l2 q2, .int .i64 0] 153))
      have hx2' := hx2.below (((Below.refl _ _).alloc (Nat.le_refl _) (.cells #[.bool b1, .slice a1 k1 p1, .bool c1, .slice f1 l1 q1, .int .i64 0] 153)).alloc (by simp) (.cells #[.bool b2, .slice a2 k2 p2, .bool c2, .slice f2 l2 q2, .int .i64 0] 153))
      have hbb' : Below w.heap.size w ((w2.alloc (.cells #[.bool b1, .slice a1 k1 p1, .bool c1, .slice f1 l1 q1, .int .i64 0] 153)).alloc (.cells #[.bool b2, .slice a2 k2 p2, .bool c2, .slice f2 l2 q2, .int .i64 0] 153)) := (hbb.alloc hbb.size _).alloc (by have := hbb.size; simp; omega) _
      clear hn1 hn2 hb1 hb2 hx1 hx2
      go_upto_region 3 with fail
      generalize w2.heap.size = z2 at *
      generalize ((w2.alloc (.cells #[.bool b1, .slice a1 k1 p1, .bool c1, .slice f1 l1 q1, .int .i64 0] 153)).alloc (.cells #[.bool b2, .slice a2 k2 p2, .bool c2, .slice f2 l2 q2, .int .i64 0] 153)) = w3 at *
      have HX := Lib.hid (And.intro hx1' hx2')
      clear hx1' hx2'
      obtain ⟨x0, x1, x2, x3, x4⟩ := i1.at5
      obtain ⟨y0, y1, y2, y3, y4⟩ := i2.at5
      go_wp2_with fail
      refine (HD.out (by first | rfl | trivial) (by first | rfl | trivial) _ _ _ hbb' HX.out.1 HX.out.2).mono ?_
      rintro e w4 ⟨rfl, hb4⟩
      go_wp2
      go_ret2
      exact ⟨rfl, next_below hbb' hb4⟩
    · rw [if_neg h1]
      have hne : (eb != 0) = true := by simpa using h1
      clear h1
      go_enter Tryz.func109, Tryz.ntmps109
      go_upto_region 2 with fail
      go_wp2_with fail
      refine HA.out.mono ?_
      rintro e w1 ⟨b1, a1, k1, p1, c1, f1, l1, q1, rfl, hn1, hb1⟩
      go_wp2_with fail
      refine (HB.out _ hb1).mono ?_
      rintro e w2 ⟨b2, a2, k2, p2, c2, f2, l2, q2, rfl, hn2, hb2⟩
      have hbb := next_below hb1 hb2
      have i1 := (Blk.new w2 153 #[.bool b1, .slice a1 k1 p1, .bool c1, .slice f1 l1 q1, .int .i64 0]).alloc (.cells #[.bool b2, .slice a2 k2 p2, .bool c2, .slice f2 l2 q2, .int .i64 eb] 153)
      have i2 := Blk.new2 w2 (.cells #[.bool b1, .slice a1 k1 p1, .bool c1, .slice f1 l1 q1, .int .i64 0] 153) 153 #[.bool b2, .slice a2 k2 p2, .bool c2, .slice f2 l2 q2, .int .i64 eb]
      have hbb' : Below w.heap.size w ((w2.alloc (.cells #[.bool b1, .slice a1 k1 p1, .bool c1, .slice f1 l1 q1, .int .i64 0] 153)).alloc (.cells #[.bool b2, .slice a2 k2 p2, .bool c2, .slice f2 l2 q2, .int .i64 eb] 153)) := (hbb.alloc hbb.size _).alloc (by have := hbb.size; simp; omega) _
      clear hn1 hn2 hb1 hb2 HA HB HD
      go_upto_region 3 with fail
      generalize w2.heap.size = z2 at *
      generalize ((w2.alloc (.cells #[.bool b1, .slice a1 k1 p1, .bool c1, .slice f1 l1 q1, .int .i64 0] 153)).alloc (.cells #[.bool b2, .slice a2 k2 p2, .bool c2, .slice f2 l2 q2, .int .i64 eb] 153)) = w3 at *
      obtain ⟨x0, x1, x2, x3, x4⟩ := i1.at5
      obtain ⟨y0, y1, y2, y3, y4⟩ := i2.at5
      go_wp2
      go_quiet (fail)
      go_wp2
      go_ret2
      exact ⟨rfl, hbb'.trans ((Drawn.of _ _).below _)⟩
  · rw [if_neg h0]
    have hne : (ea != 0) = true := by simpa using h0
    clear h0
    go_enter Tryz.func109, Tryz.ntmps109
    go_upto_region 2 with fail
    go_wp2_with fail
    refine HA.out.mono ?_
    rintro e w1 ⟨b1, a1, k1, p1, c1, f1, l1, q1, rfl, hn1, hb1⟩
    go_wp2_with fail
    refine (HB.out _ hb1).mono ?_
    rintro e w2 ⟨b2, a2, k2, p2, c2, f2, l2, q2, rfl, hn2, hb2⟩
    have hbb := next_below hb1 hb2
    have i1 := (Blk.new w2 153 #[.bool b1, .slice a1 k1 p1, .bool c1, .slice f1 l1 q1, .int .i64 ea]).alloc (.cells #[.bool b2, .slice a2 k2 p2, .bool c2, .slice f2 l2 q2, .int .i64 eb] 153)
    have i2 := Blk.new2 w2 (.cells #[.bool b1, .slice a1 k1 p1, .bool c1, .slice f1 l1 q1, .int .i64 ea] 153) 153 #[.bool b2, .slice a2 k2 p2, .bool c2, .slice f2 l2 q2, .int .i64 eb]
    have hbb' : Below w.heap.size w ((w2.alloc (.cells #[.bool b1, .slice a1 k1 p1, .bool c1, .slice f1 l1 q1, .int .i64 ea] 153)).alloc (.cells #[.bool b2, .slice a2 k2 p2, .bool c2, .slice f2 l2 q2, .int .i64 eb] 153)) := (hbb.alloc hbb.size _).alloc (by have := hbb.size; simp; omega) _
    clear hn1 hn2 hb1 hb2 HA HB HD
    go_upto_region 3 with fail
    generalize w2.heap.size = z2 at *
    generalize ((w2.alloc (.cells #[.bool b1, .slice a1 k1 p1, .bool c1, .slice f1 l1 q1, .int .i64 ea] 153)).alloc (.cells #[.bool b2, .slice a2 k2 p2, .bool c2, .slice f2 l2 q2, .int .i64 eb] 153)) = w3 at *
    obtain ⟨x0, x1, x2, x3, x4⟩ := i1.at5
    obtain ⟨y0, y1, y2, y3, y4⟩ := i2.at5
    go_wp2
    go_quiet (fail)
    go_wp2
    go_ret2
    exact ⟨rfl, hbb'.trans ((Drawn.of _ _).below _)⟩

set_option maxHeartbeats 2000000 in
set_option maxRecDepth 100000 in
theorem both_cmp {w : World} {la lb : List UInt8} (hla : la.length ≤ 268435000) (hlb : lb.length ≤ 268435000) (hgd : Good w) (r : Value) (er : Int)
    (hdo : rerr la = 0 → rerr lb = 0 → ∀ V v0 v1, Below w.heap.size w V → Nm V v0 (rval la) → Nm V v1 (rval lb) → Calls Tryz.prog 108 #[v0, v1] V (RetV V (.tuple #[r, .int .i64 er]))) :
    Calls Tryz.prog 107 #[.string ⟨la.toArray⟩, .string ⟨lb.toArray⟩, .func (.func 108) #[] #[]] w (RetV w (if rerr la = 0 then (if rerr lb = 0 then .tuple #[r, .int .i64 er] else .tuple #[.int .i64 0, .int .i64 (rerr lb)]) else .tuple #[.int .i64 0, .int .i64 (rerr la)])) := by
  have ha := rread_any (w := w) la hla hgd
  have hb := fun (V : World) (hh : Below w.heap.size w V) => rread_any (w := V) lb hlb (hgd.below hh)
  generalize rerr la = ea at *
  generalize rerr lb = eb at *
  generalize rval la = x at *
  generalize rval lb = y at *
  have HA := Lib.hid ha
  have HB := Lib.hid hb
  have HD := Lib.hid hdo
  generalize (⟨la.toArray⟩ : ByteArray) = SA at *
  generalize (⟨lb.toArray⟩ : ByteArray) = SB at *
  clear ha hb hdo hla hlb hgd
  by_cases h0 : ea = 0
  · rw [if_pos h0]
    subst h0
    by_cases h1 : eb = 0
    · rw [if_pos h1]
      subst h1
      go_enter Tryz.func107, Tryz.ntmps107
      go_upto_region 2 with fail
      go_wp2_with fail
      refine HA.out.mono ?_
      rintro e w1 ⟨b1, a1, k1, p1, c1, f1, l1, q1, rfl, hn1, hb1⟩
      go_wp2_with fail
      refine (HB.out _ hb1).mono ?_
      rintro e w2 ⟨b2, a2, k2, p2, c2, f2, l2, q2, rfl, hn2, hb2⟩
      have hx1 := (hn1 (by first | rfl | trivial)).below hb2
      have hx2 := hn2 (by first | rfl | trivial)
      have hbb := next_below hb1 hb2
      have i1 := (Blk.new w2 153 #[.bool b1, .slice a1 k1 p1, .bool c1, .slice f1 l1 q1, .int .i64 0]).alloc (.cells #[.bool b2, .slice a2 k2 p2, .bool c2, .slice f2 l2 q2, .int .i64 0] 153)
      have i2 := Blk.new2 w2 (.cells #[.bool b1, .slice a1 k1 p1, .bool c1, .slice f1 l1 q1, .int .i64 0] 153) 153 #[.bool b2, .slice a2 k2 p2, .bool c2, .slice f2 l2 q2, .int .i64 0]
      have hx1' := hx1.below (((Below.refl _ _).alloc (Nat.le_refl _) (.cells #[.bool b1, .slice a1 k1 p1, .bool c1, .slice f1 l1 q1, .int .i64 0] 153)).alloc (by simp) (.cells #[.bool b2, .slice a2 k2 p2, .bool c2, .slice f2 l2 q2, .int .i64 0] 153))
      have hx2' := hx2.below (((Below.refl _ _).alloc (Nat.le_refl _) (.cells #[.bool b1, .slice a1 k1 p1, .bool c1, .slice f1 l1 q1, .int .i64 0] 153)).alloc (by simp) (.cells #[.bool b2, .slice a2 k2 p2, .bool c2, .slice f2 l2 q2, .int .i64 0] 153))
      have hbb' : Below w.heap.size w ((w2.alloc (.cells #[.bool b1, .slice a1 k1 p1, .bool c1, .slice f1 l1 q1, .int .i64 0] 153)).alloc (.cells #[.bool b2, .slice a2 k2 p2, .bool c2, .slice f2 l2 q2, .int .i64 0] 153)) := (hbb.alloc hbb.size _).alloc (by have := hbb.size; simp; omega) _
      clear hn1 hn2 hb1 hb2 hx1 hx2
      go_upto_region 3 with fail
      generalize w2.heap.size = z2 at *
      generalize ((w2.alloc (.cells #[.bool b1, .slice a1 k1 p1, .bool c1, .slice f1 l1 q1, .int .i64 0] 153)).alloc (.cells #[.bool b2, .slice a2 k2 p2, .bool c2, .slice f2 l2 q2, .int .i64 0] 153)) = w3 at *
      have HX := Lib.hid (And.intro hx1' hx2')
      clear hx1' hx2'
      obtain ⟨x0, x1, x2, x3, x4⟩ := i1.at5
      obtain ⟨y0, y1, y2, y3, y4⟩ := i2.at5
      go_wp2_with fail
      refine (HD.out (by first | rfl | trivial) (by first | rfl | trivial) _ _ _ hbb' HX.out.1 HX.out.2).mono ?_
      rintro e w4 ⟨rfl, hb4⟩
      go_wp2
      go_ret2
      exact ⟨rfl, next_below hbb' hb4⟩
    · rw [if_neg h1]
      have hne : (eb != 0) = true := by simpa using h1
      clear h1
      go_enter Tryz.func107, Tryz.ntmps107
      go_upto_region 2 with fail
      go_wp2_with fail
      refine HA.out.mono ?_
      rintro e w1 ⟨b1, a1, k1, p1, c1, f1, l1, q1, rfl, hn1, hb1⟩
      go_wp2_with fail
      refine (HB.out _ hb1).mono ?_
      rintro e w2 ⟨b2, a2, k2, p2, c2, f2, l2, q2, rfl, hn2, hb2⟩
      have hbb := next_below hb1 hb2
      have i1 := (Blk.new w2 153 #[.bool b1, .slice a1 k1 p1, .bool c1, .slice f1 l1 q1, .int .i64 0]).alloc (.cells #[.bool b2, .slice a2 k2 p2, .bool c2, .slice f2 l2 q2, .int .i64 eb] 153)
      have i2 := Blk.new2 w2 (.cells #[.bool b1, .slice a1 k1 p1, .bool c1, .slice f1 l1 q1, .int .i64 0] 153) 153 #[.bool b2, .slice a2 k2 p2, .bool c2, .slice f2 l2 q2, .int .i64 eb]
      have hbb' : Below w.heap.size w ((w2.alloc (.cells #[.bool b1, .slice a1 k1 p1, .bool c1, .slice f1 l1 q1, .int .i64 0] 153)).alloc (.cells #[.bool b2, .slice a2 k2 p2, .bool c2, .slice f2 l2 q2, .int .i64 eb] 153)) := (hbb.alloc hbb.size _).alloc (by have := hbb.size; simp; omega) _
      clear hn1 hn2 hb1 hb2 HA HB HD
      go_upto_region 3 with fail
      generalize w2.heap.size = z2 at *
      generalize ((w2.alloc (.cells #[.bool b1, .slice a1 k1 p1, .bool c1, .slice f1 l1 q1, .int .i64 0] 153)).alloc (.cells #[.bool b2, .slice a2 k2 p2, .bool c2, .slice f2 l2 q2, .int .i64 eb] 153)) = w3 at *
      obtain ⟨x0, x1, x2, x3, x4⟩ := i1.at5
      obtain ⟨y0, y1, y2, y3, y4⟩ := i2.at5
      go_wp2
      go_quiet (fail)
      go_wp2
      go_ret2
      exact ⟨rfl, hbb'.trans ((Drawn.of _ _).below _)⟩
  · rw [if_neg h0]
    have hne : (ea != 0) = true := by simpa using h0
    clear h0
    go_enter Tryz.func107, Tryz.ntmps107
    go_upto_region 2 with fail
    go_wp2_with fail
    refine HA.out.mono ?_
    rintro e w1 ⟨b1, a1, k1, p1, c1, f1, l1, q1, rfl, hn1, hb1⟩
    go_wp2_with fail
    refine (HB.out _ hb1).mono ?_
    rintro e w2 ⟨b2, a2, k2, p2, c2, f2, l2, q2, rfl, hn2, hb2⟩
    have hbb := next_below hb1 hb2
    have i1 := (Blk.new w2 153 #[.bool b1, .slice a1 k1 p1, .bool c1, .slice f1 l1 q1, .int .i64 ea]).alloc (.cells #[.bool b2, .slice a2 k2 p2, .bool c2, .slice f2 l2 q2, .int .i64 eb] 153)
    have i2 := Blk.new2 w2 (.cells #[.bool b1, .slice a1 k1 p1, .bool c1, .slice f1 l1 q1, .int .i64 ea] 153) 153 #[.bool b2, .slice a2 k2 p2, .bool c2, .slice f2 l2 q2, .int .i64 eb]
    have hbb' : Below w.heap.size w ((w2.alloc (.cells #[.bool b1, .slice a1 k1 p1, .bool c1, .slice f1 l1 q1, .int .i64 ea] 153)).alloc (.cells #[.bool b2, .slice a2 k2 p2, .bool c2, .slice f2 l2 q2, .int .i64 eb] 153)) := (hbb.alloc hbb.size _).alloc (by have := hbb.size; simp; omega) _
    clear hn1 hn2 hb1 hb2 HA HB HD
    go_upto_region 3 with fail
    generalize w2.heap.size = z2 at *
    generalize ((w2.alloc (.cells #[.bool b1, .slice a1 k1 p1, .bool c1, .slice f1 l1 q1, .int .i64 ea] 153)).alloc (.cells #[.bool b2, .slice a2 k2 p2, .bool c2, .slice f2 l2 q2, .int .i64 eb] 153)) = w3 at *
    obtain ⟨x0, x1, x2, x3, x4⟩ := i1.at5
    obtain ⟨y0, y1, y2, y3, y4⟩ := i2.at5
    go_wp2
    go_quiet (fail)
    go_wp2
    go_ret2
    exact ⟨rfl, hbb'.trans ((Drawn.of _ _).below _)⟩

/-- The error of an operation on two texts, and its text. -/
def opE (z : Rat) (la lb : List UInt8) : Int := if rerr la = 0 then (if rerr lb = 0 then (if fitsD 2000 z then 0 else 6) else rerr lb) else rerr la
def opT (z : Rat) (la lb : List UInt8) : List UInt8 := if opE z la lb = 0 then ratText z else []
theorem op_val (z : Rat) (la lb : List UInt8) : (if rerr la = 0 then (if rerr lb = 0 then tellV z else .tuple #[.string ⟨#[]⟩, .int .i64 (rerr lb)]) else .tuple #[.string ⟨#[]⟩, .int .i64 (rerr la)]) = (.tuple #[.string ⟨(opT z la lb).toArray⟩, .int .i64 (opE z la lb)] : Value) := by
  unfold opT opE tellV
  by_cases h0 : rerr la = 0
  · rw [if_pos h0, if_pos h0]
    by_cases h1 : rerr lb = 0
    · rw [if_pos h1, if_pos h1]
      by_cases hf : fitsD 2000 z
      · rw [if_pos hf, if_pos hf, if_pos rfl]
      · rw [if_neg hf, if_neg hf, if_neg (by decide)]
    · rw [if_neg h1, if_neg h1, if_neg h1]
  · rw [if_neg h0, if_neg h0, if_neg h0]

theorem rerr_sz {l : List UInt8} (h : rerr l = 0) : Sz 2000 (rval l) := sz_of_fits (rerr_fits h)

/-- The error of a quotient, and its text. -/
def divE (la lb : List UInt8) : Int := if rerr la = 0 then (if rerr lb = 0 then (if (rval lb).num = 0 then 2 else if fitsD 2000 (rval la / rval lb) then 0 else 6) else rerr lb) else rerr la
def divT (la lb : List UInt8) : List UInt8 := if divE la lb = 0 then ratText (rval la / rval lb) else []
theorem div_val (la lb : List UInt8) : (if rerr la = 0 then (if rerr lb = 0 then (if (rval lb).num = 0 then .tuple #[.string ⟨#[]⟩, .int .i64 2] else tellV (rval la / rval lb)) else .tuple #[.string ⟨#[]⟩, .int .i64 (rerr lb)]) else .tuple #[.string ⟨#[]⟩, .int .i64 (rerr la)]) = (.tuple #[.string ⟨(divT la lb).toArray⟩, .int .i64 (divE la lb)] : Value) := by
  unfold divT divE tellV
  by_cases h0 : rerr la = 0
  · rw [if_pos h0, if_pos h0]
    by_cases h1 : rerr lb = 0
    · rw [if_pos h1, if_pos h1]
      by_cases h2 : (rval lb).num = 0
      · rw [if_pos h2, if_pos h2, if_neg (by decide)]
      · rw [if_neg h2, if_neg h2]
        by_cases hf : fitsD 2000 (rval la / rval lb)
        · rw [if_pos hf, if_pos hf, if_pos rfl]
        · rw [if_neg hf, if_neg hf, if_neg (by decide)]
    · rw [if_neg h1, if_neg h1, if_neg h1]
  · rw [if_neg h0, if_neg h0, if_neg h0]

/-- The error of a comparison, and its result. -/
def cmpE (la lb : List UInt8) : Int := if rerr la = 0 then rerr lb else rerr la
def cmpR (la lb : List UInt8) : Int := if cmpE la lb = 0 then rcmp (rval la) (rval lb) else 0
theorem cmp_val (la lb : List UInt8) : (if rerr la = 0 then (if rerr lb = 0 then .tuple #[.int .i64 (rcmp (rval la) (rval lb)), .int .i64 0] else .tuple #[.int .i64 0, .int .i64 (rerr lb)]) else .tuple #[.int .i64 0, .int .i64 (rerr la)]) = (.tuple #[.int .i64 (cmpR la lb), .int .i64 (cmpE la lb)] : Value) := by
  unfold cmpR cmpE
  by_cases h0 : rerr la = 0
  · rw [if_pos h0, if_pos h0]
    by_cases h1 : rerr lb = 0
    · rw [if_pos h1, h1, if_pos rfl]
    · rw [if_neg h1, if_neg h1]
  · rw [if_neg h0, if_neg h0, if_neg h0]

set_option maxHeartbeats 1000000 in
set_option maxRecDepth 100000 in
theorem rapply_add {w : World} {la lb : List UInt8} (hla : la.length ≤ 268435000) (hlb : lb.length ≤ 268435000) (hgd : Good w) :
    Calls Tryz.prog 64 #[.string ⟨la.toArray⟩, .string ⟨lb.toArray⟩, .func (.func 65) #[] #[]] w (RetV w (.tuple #[.string ⟨(opT (rval la + rval lb) la lb).toArray⟩, .int .i64 (opE (rval la + rval lb) la lb)])) := by
  rw [← op_val]
  obtain ⟨W, hW, hB, hsz, j0⟩ := entA w 115 #[.func (.func 65) #[] #[]]
  have HW := Lib.hid hW
  have HBB := Lib.hid hB
  obtain ⟨T, er, hT⟩ := tellV_form (rval la + rval lb)
  have hb := both_apply (w := W) (g := w.heap.size) hla hlb (hgd.below hB) (.string T) er (fun h0 h1 V v0 v1 hV n0 n1 => by
    rw [← hT]
    exact apply1_add n0 n1 (rerr_sz h0) (rerr_sz h1) (j0.next hV) ((hgd.below hB).below hV))
  rw [← hT] at hb
  rw [op_val] at hb ⊢
  generalize opT (rval la + rval lb) la lb = R at *
  generalize opE (rval la + rval lb) la lb = E at *
  have HBO := Lib.hid hb
  generalize (⟨la.toArray⟩ : ByteArray) = SA at *
  generalize (⟨lb.toArray⟩ : ByteArray) = SB at *
  generalize (⟨R.toArray⟩ : ByteArray) = SR at *
  clear hb hT hW hB hsz j0 hgd hla hlb
  go_enter Tryz.func64, Tryz.ntmps64
  go_upto_region 1 with fail
  rw [← HW.out]
  go_wp2_with (go_at_call 109; refine HBO.out.mono ?_; rintro e w1 ⟨rfl, hb1⟩)
  go_ret2
  exact ⟨rfl, HBB.out.trans (hb1.mono HBB.out.size)⟩

set_option maxHeartbeats 1000000 in
theorem radd_any {w : World} {la lb : List UInt8} (hla : la.length ≤ 268435000) (hlb : lb.length ≤ 268435000) (hgd : Good w) :
    Calls Tryz.prog 29 #[.string ⟨la.toArray⟩, .string ⟨lb.toArray⟩] w (RetV w (.tuple #[.string ⟨(opT (rval la + rval lb) la lb).toArray⟩, .int .i64 (opE (rval la + rval lb) la lb)])) := by
  have hb := rapply_add (w := w) hla hlb hgd
  generalize opT (rval la + rval lb) la lb = R at *
  generalize opE (rval la + rval lb) la lb = E at *
  have HBO := Lib.hid hb
  generalize (⟨la.toArray⟩ : ByteArray) = SA at *
  generalize (⟨lb.toArray⟩ : ByteArray) = SB at *
  generalize (⟨R.toArray⟩ : ByteArray) = SR at *
  clear hb
  go_enter Tryz.func29, Tryz.ntmps29
  go_wp2_with (go_at_call 64; refine HBO.out.mono ?_; rintro e w1 ⟨rfl, hb1⟩)
  go_ret2
  exact ⟨rfl, hb1⟩

set_option maxHeartbeats 1000000 in
set_option maxRecDepth 100000 in
theorem rapply_sub {w : World} {la lb : List UInt8} (hla : la.length ≤ 268435000) (hlb : lb.length ≤ 268435000) (hgd : Good w) :
    Calls Tryz.prog 64 #[.string ⟨la.toArray⟩, .string ⟨lb.toArray⟩, .func (.func 42) #[] #[]] w (RetV w (.tuple #[.string ⟨(opT (rval la - rval lb) la lb).toArray⟩, .int .i64 (opE (rval la - rval lb) la lb)])) := by
  rw [← op_val]
  obtain ⟨W, hW, hB, hsz, j0⟩ := entA w 115 #[.func (.func 42) #[] #[]]
  have HW := Lib.hid hW
  have HBB := Lib.hid hB
  obtain ⟨T, er, hT⟩ := tellV_form (rval la - rval lb)
  have hb := both_apply (w := W) (g := w.heap.size) hla hlb (hgd.below hB) (.string T) er (fun h0 h1 V v0 v1 hV n0 n1 => by
    rw [← hT]
    exact apply1_sub n0 n1 (rerr_sz h0) (rerr_sz h1) (j0.next hV) ((hgd.below hB).below hV))
  rw [← hT] at hb
  rw [op_val] at hb ⊢
  generalize opT (rval la - rval lb) la lb = R at *
  generalize opE (rval la - rval lb) la lb = E at *
  have HBO := Lib.hid hb
  generalize (⟨la.toArray⟩ : ByteArray) = SA at *
  generalize (⟨lb.toArray⟩ : ByteArray) = SB at *
  generalize (⟨R.toArray⟩ : ByteArray) = SR at *
  clear hb hT hW hB hsz j0 hgd hla hlb
  go_enter Tryz.func64, Tryz.ntmps64
  go_upto_region 1 with fail
  rw [← HW.out]
  go_wp2_with (go_at_call 109; refine HBO.out.mono ?_; rintro e w1 ⟨rfl, hb1⟩)
  go_ret2
  exact ⟨rfl, HBB.out.trans (hb1.mono HBB.out.size)⟩

set_option maxHeartbeats 1000000 in
theorem rsub_any {w : World} {la lb : List UInt8} (hla : la.length ≤ 268435000) (hlb : lb.length ≤ 268435000) (hgd : Good w) :
    Calls Tryz.prog 28 #[.string ⟨la.toArray⟩, .string ⟨lb.toArray⟩] w (RetV w (.tuple #[.string ⟨(opT (rval la - rval lb) la lb).toArray⟩, .int .i64 (opE (rval la - rval lb) la lb)])) := by
  have hb := rapply_sub (w := w) hla hlb hgd
  generalize opT (rval la - rval lb) la lb = R at *
  generalize opE (rval la - rval lb) la lb = E at *
  have HBO := Lib.hid hb
  generalize (⟨la.toArray⟩ : ByteArray) = SA at *
  generalize (⟨lb.toArray⟩ : ByteArray) = SB at *
  generalize (⟨R.toArray⟩ : ByteArray) = SR at *
  clear hb
  go_enter Tryz.func28, Tryz.ntmps28
  go_wp2_with (go_at_call 64; refine HBO.out.mono ?_; rintro e w1 ⟨rfl, hb1⟩)
  go_ret2
  exact ⟨rfl, hb1⟩

set_option maxHeartbeats 1000000 in
theorem rcmp_any {w : World} {la lb : List UInt8} (hla : la.length ≤ 268435000) (hlb : lb.length ≤ 268435000) (hgd : Good w) :
    Calls Tryz.prog 63 #[.string ⟨la.toArray⟩, .string ⟨lb.toArray⟩] w (RetV w (.tuple #[.int .i64 (cmpR la lb), .int .i64 (cmpE la lb)])) := by
  have hb := both_cmp (w := w) hla hlb hgd (.int .i64 (rcmp (rval la) (rval lb))) 0 (fun h0 h1 V v0 v1 hV n0 n1 => cmp1_any n0 n1 (rerr_sz h0) (rerr_sz h1))
  rw [cmp_val] at hb
  generalize cmpR la lb = R at *
  generalize cmpE la lb = E at *
  have HBO := Lib.hid hb
  generalize (⟨la.toArray⟩ : ByteArray) = SA at *
  generalize (⟨lb.toArray⟩ : ByteArray) = SB at *
  clear hb
  go_enter Tryz.func63, Tryz.ntmps63
  go_wp2_with (go_at_call 107; refine HBO.out.mono ?_; rintro e w1 ⟨rfl, hb1⟩)
  go_ret2
  exact ⟨rfl, hb1⟩

end Go.Proofs.YtfjjdjhnodcfhaaGreatDoor
