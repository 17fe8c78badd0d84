/- ratio.Parts, Floor and Ceil at any text. -/
import Derived.Test.YtabdnjakmhnnfaaGreatDoorQFull
set_option linter.unusedSimpArgs false
set_option linter.unusedVariables false
namespace Go.Proofs.YtabdnjakmhnnfaaGreatDoor
open Go.RowKit
open Go.Lib (decDigits itoa nDigits)
open D4 (rt it)

set_option maxHeartbeats 4000000 in
set_option maxRecDepth 100000 in
theorem floor_form {w : World} (ls : List UInt8) (hl : ls.length ≤ 268435000) (h0 : rerr ls ≠ 0) (hg : Good w) : Calls Tryz.prog 39 #[.string ⟨ls.toArray⟩] w (RetV w (.tuple #[.string ⟨#[]⟩, .int .i64 (rerr ls)])) := by
  have hc := rread_any (w := w) ls hl hg
  generalize rval ls = x at *
  have hb0 : (rerr ls == 0) = false := by rw [beq_eq_false_iff_ne]; exact h0
  generalize rerr ls = er at *
  generalize (⟨ls.toArray⟩ : ByteArray) = S at *
  have HC := Lib.hid hc
  clear hc hl hg
  go_enter Tryz.func39, Tryz.ntmps39
  go_upto_region 2 with (go_at_call 65; refine HC.out.mono ?_; rintro e w1 ⟨b, a, k, p, c, f, l, q, rfl, hn, hb⟩)
  have g6' := Blk.new w1 107 #[.bool b, .slice a k p, .bool c, .slice f l q, .int .i64 er]
  have hb6 : Below w.heap.size w (w1.alloc (.cells #[.bool b, .slice a k p, .bool c, .slice f l q, .int .i64 er] 107)) := hb.alloc hb.size _
  have G6 := Lib.hid g6'
  have K2 := Lib.hid hb6
  clear hn hb hb6 g6'
  generalize w1.heap.size = z6 at *
  generalize (w1.alloc (.cells #[.bool b, .slice a k p, .bool c, .slice f l q, .int .i64 er] 107)) = w2 at *
  obtain ⟨x0, x1, x2, x3, x4⟩ := G6.out.at5
  go_upto_region 3 with fail
  have hB0 : Below w2.heap.size w2 w2.drew := (Below.refl _ _).drew
  refine wp_region_list 3 (by kernel_rfl) (by kernel_rfl) [] [fun v _ => v = .pointer (some ⟨z6, 4, none⟩), fun v _ => v = .int .i64 er, fun v _ => v = .string ⟨#[]⟩] (by simp only [List.take_succ_cons, List.take_zero]; rfl) (by simp only [List.drop_succ_cons, List.drop_zero]; rfl) (fun vals => by simp only [fam, Act.put, List.setIfInBounds_toArray, List.set_cons_zero, List.set_cons_succ, if_true]; rfl) (by repeat' (first | exact Stab.eq _ _ | exact Stab.wh _ _ | exact Stab.nm _ _ | exact Stab.new _ _ | exact Stab.newn _ _ | exact Stab.tw _ _ _ | exact Stab.lm _ _ _ | exact Stab.onet _ _ _ | exact trivial | apply And.intro)) trivial ?_ ?_
  · refine ⟨?_, ?_, ?_, trivial⟩
    all_goals
      intro vals w3 hB hp
      dsimp only
      (try simp [preOk, Region.binds, q_anygc, q_anytext] at hp)
      have hbb := next_below hB0 hB
      obtain ⟨y0, y1, y2, y3, y4⟩ := (G6.out.next hbb).at5
      clear hB x0 x1 x2 x3 x4
    case refine_2 =>
      have a0 := hp
      generalize vals 0 = v0 at *
      subst a0
      go_wp2
      (first | exact ⟨rfl, _, rfl, rfl, Below.refl _ _, trivial⟩ | (refine ⟨rfl, _, ?_, rfl, Below.refl _ _, trivial⟩; simp only [Act.put, List.setIfInBounds_toArray, List.set_cons_zero, List.set_cons_succ, hp]))
    all_goals
      go_wp2
      (first | exact ⟨rfl, _, rfl, rfl, Below.refl _ _, trivial⟩ | (refine ⟨rfl, _, ?_, rfl, Below.refl _ _, trivial⟩; simp only [Act.put, List.setIfInBounds_toArray, List.set_cons_zero, List.set_cons_succ, hp]))
  · rintro vals w3 hB ⟨p0, p1, p2, _⟩ hne
    have hbb := Lib.hid (next_below K2.out (next_below hB0 hB))
    simp at p1
    generalize vals 1 = v1 at *
    subst p1
    simp at p2
    generalize vals 2 = v2 at *
    subst p2
    clear hne p0 hB hB0 x0 x1 x2 x3 x4
    go_wp2
    go_ret2
    exact ⟨rfl, hbb.out⟩

set_option maxHeartbeats 4000000 in
set_option maxRecDepth 100000 in
theorem ceil_form {w : World} (ls : List UInt8) (hl : ls.length ≤ 268435000) (h0 : rerr ls ≠ 0) (hg : Good w) : Calls Tryz.prog 40 #[.string ⟨ls.toArray⟩] w (RetV w (.tuple #[.string ⟨#[]⟩, .int .i64 (rerr ls)])) := by
  have hc := rread_any (w := w) ls hl hg
  generalize rval ls = x at *
  have hb0 : (rerr ls == 0) = false := by rw [beq_eq_false_iff_ne]; exact h0
  generalize rerr ls = er at *
  generalize (⟨ls.toArray⟩ : ByteArray) = S at *
  have HC := Lib.hid hc
  clear hc hl hg
  go_enter Tryz.func40, Tryz.ntmps40
  go_upto_region 2 with (go_at_call 65; refine HC.out.mono ?_; rintro e w1 ⟨b, a, k, p, c, f, l, q, rfl, hn, hb⟩)
  have g6' := Blk.new w1 107 #[.bool b, .slice a k p, .bool c, .slice f l q, .int .i64 er]
  have hb6 : Below w.heap.size w (w1.alloc (.cells #[.bool b, .slice a k p, .bool c, .slice f l q, .int .i64 er] 107)) := hb.alloc hb.size _
  have G6 := Lib.hid g6'
  have K2 := Lib.hid hb6
  clear hn hb hb6 g6'
  generalize w1.heap.size = z6 at *
  generalize (w1.alloc (.cells #[.bool b, .slice a k p, .bool c, .slice f l q, .int .i64 er] 107)) = w2 at *
  obtain ⟨x0, x1, x2, x3, x4⟩ := G6.out.at5
  go_upto_region 3 with fail
  have hB0 : Below w2.heap.size w2 w2.drew := (Below.refl _ _).drew
  refine wp_region_list 3 (by kernel_rfl) (by kernel_rfl) [] [fun v _ => v = .pointer (some ⟨z6, 4, none⟩), fun v _ => v = .int .i64 er, fun v _ => v = .string ⟨#[]⟩] (by simp only [List.take_succ_cons, List.take_zero]; rfl) (by simp only [List.drop_succ_cons, List.drop_zero]; rfl) (fun vals => by simp only [fam, Act.put, List.setIfInBounds_toArray, List.set_cons_zero, List.set_cons_succ, if_true]; rfl) (by repeat' (first | exact Stab.eq _ _ | exact Stab.wh _ _ | exact Stab.nm _ _ | exact Stab.new _ _ | exact Stab.newn _ _ | exact Stab.tw _ _ _ | exact Stab.lm _ _ _ | exact Stab.onet _ _ _ | exact trivial | apply And.intro)) trivial ?_ ?_
  · refine ⟨?_, ?_, ?_, trivial⟩
    all_goals
      intro vals w3 hB hp
      dsimp only
      (try simp [preOk, Region.binds, q_anygc, q_anytext] at hp)
      have hbb := next_below hB0 hB
      obtain ⟨y0, y1, y2, y3, y4⟩ := (G6.out.next hbb).at5
      clear hB x0 x1 x2 x3 x4
    case refine_2 =>
      have a0 := hp
      generalize vals 0 = v0 at *
      subst a0
      go_wp2
      (first | exact ⟨rfl, _, rfl, rfl, Below.refl _ _, trivial⟩ | (refine ⟨rfl, _, ?_, rfl, Below.refl _ _, trivial⟩; simp only [Act.put, List.setIfInBounds_toArray, List.set_cons_zero, List.set_cons_succ, hp]))
    all_goals
      go_wp2
      (first | exact ⟨rfl, _, rfl, rfl, Below.refl _ _, trivial⟩ | (refine ⟨rfl, _, ?_, rfl, Below.refl _ _, trivial⟩; simp only [Act.put, List.setIfInBounds_toArray, List.set_cons_zero, List.set_cons_succ, hp]))
  · rintro vals w3 hB ⟨p0, p1, p2, _⟩ hne
    have hbb := Lib.hid (next_below K2.out (next_below hB0 hB))
    simp at p1
    generalize vals 1 = v1 at *
    subst p1
    simp at p2
    generalize vals 2 = v2 at *
    subst p2
    clear hne p0 hB hB0 x0 x1 x2 x3 x4
    go_wp2
    go_ret2
    exact ⟨rfl, hbb.out⟩

set_option maxHeartbeats 4000000 in
set_option maxRecDepth 100000 in
theorem parts_form {w : World} (ls : List UInt8) (hl : ls.length ≤ 268435000) (h0 : rerr ls ≠ 0) (hg : Good w) : Calls Tryz.prog 50 #[.string ⟨ls.toArray⟩] w (RetV w (.tuple #[.string ⟨#[]⟩, .string ⟨#[]⟩, .int .i64 (rerr ls)])) := by
  have hc := rread_any (w := w) ls hl hg
  generalize rval ls = x at *
  have hb0 : (rerr ls == 0) = false := by rw [beq_eq_false_iff_ne]; exact h0
  generalize rerr ls = er at *
  generalize (⟨ls.toArray⟩ : ByteArray) = S at *
  have HC := Lib.hid hc
  clear hc hl hg
  go_enter Tryz.func50, Tryz.ntmps50
  go_upto_region 2 with (go_at_call 65; refine HC.out.mono ?_; rintro e w1 ⟨b, a, k, p, c, f, l, q, rfl, hn, hb⟩)
  have g6' := Blk.new w1 107 #[.bool b, .slice a k p, .bool c, .slice f l q, .int .i64 er]
  have hb6 : Below w.heap.size w (w1.alloc (.cells #[.bool b, .slice a k p, .bool c, .slice f l q, .int .i64 er] 107)) := hb.alloc hb.size _
  have G6 := Lib.hid g6'
  have K2 := Lib.hid hb6
  clear hn hb hb6 g6'
  generalize w1.heap.size = z6 at *
  generalize (w1.alloc (.cells #[.bool b, .slice a k p, .bool c, .slice f l q, .int .i64 er] 107)) = w2 at *
  obtain ⟨x0, x1, x2, x3, x4⟩ := G6.out.at5
  go_upto_region 3 with fail
  have hB0 : Below w2.heap.size w2 w2.drew := (Below.refl _ _).drew
  refine wp_region_list 4 (by kernel_rfl) (by kernel_rfl) [] [fun v _ => v = .pointer (some ⟨z6, 4, none⟩), fun v _ => v = .int .i64 er, fun v _ => v = .string ⟨#[]⟩, fun v _ => v = .string ⟨#[]⟩] (by simp only [List.take_succ_cons, List.take_zero]; rfl) (by simp only [List.drop_succ_cons, List.drop_zero]; rfl) (fun vals => by simp only [fam, Act.put, List.setIfInBounds_toArray, List.set_cons_zero, List.set_cons_succ, if_true]; rfl) (by repeat' (first | exact Stab.eq _ _ | exact Stab.wh _ _ | exact Stab.nm _ _ | exact Stab.new _ _ | exact Stab.newn _ _ | exact Stab.tw _ _ _ | exact Stab.lm _ _ _ | exact Stab.onet _ _ _ | exact trivial | apply And.intro)) trivial ?_ ?_
  · refine ⟨?_, ?_, ?_, ?_, trivial⟩
    all_goals
      intro vals w3 hB hp
      dsimp only
      (try simp [preOk, Region.binds, q_anygc, q_anytext] at hp)
      have hbb := next_below hB0 hB
      obtain ⟨y0, y1, y2, y3, y4⟩ := (G6.out.next hbb).at5
      clear hB x0 x1 x2 x3 x4
    case refine_2 =>
      have a0 := hp
      generalize vals 0 = v0 at *
      subst a0
      go_wp2
      (first | exact ⟨rfl, _, rfl, rfl, Below.refl _ _, trivial⟩ | (refine ⟨rfl, _, ?_, rfl, Below.refl _ _, trivial⟩; simp only [Act.put, List.setIfInBounds_toArray, List.set_cons_zero, List.set_cons_succ, hp]))
    all_goals
      go_wp2
      (first | exact ⟨rfl, _, rfl, rfl, Below.refl _ _, trivial⟩ | (refine ⟨rfl, _, ?_, rfl, Below.refl _ _, trivial⟩; simp only [Act.put, List.setIfInBounds_toArray, List.set_cons_zero, List.set_cons_succ, hp]))
  · rintro vals w3 hB ⟨p0, p1, p2, p3, _⟩ hne
    have hbb := Lib.hid (next_below K2.out (next_below hB0 hB))
    simp at p1
    generalize vals 1 = v1 at *
    subst p1
    simp at p2
    generalize vals 2 = v2 at *
    subst p2
    simp at p3
    generalize vals 3 = v3 at *
    subst p3
    clear hne p0 hB hB0 x0 x1 x2 x3 x4
    go_wp2
    go_ret3
    exact ⟨rfl, hbb.out⟩

set_option maxHeartbeats 8000000 in
set_option maxRecDepth 100000 in
theorem rparts_rt {w : World} {x : Rat} (hx : fitsD 2000 x) (hg : Good w) : Calls Tryz.prog 50 #[.string (rt x)] w (RetV w (.tuple #[.string (it x.num), .string (it (x.den : Int)), .int .i64 0])) := by
  have hc := rread_any (w := w) (ratText x) (text_len hx) hg
  rw [rval_ratText, rerr_fit hx] at hc
  have hs : Sz 268435456 x := (sz_of_fits hx).mono (by omega)
  have f1 : Fit x.num := Fit.of_len hs.1 (by omega)
  have f2 : Fit (x.den : Int) := Fit.of_len (n := (x.den : Int)) (by rw [Int.natAbs_natCast]; exact hs.2) (by omega)
  have HC := Lib.hid hc
  have HP := Lib.hid (fun (V : World) v (q : Nm V v x) => parts_any (w := V) q.pr)
  have HT1 := Lib.hid (fun (V : World) v (q : Wh V v x.num) (hV : Good V) => (show Calls Tryz.prog 87 #[v] V (RetV V (.string (it x.num))) from text_any q f1 hV))
  have HT2 := Lib.hid (fun (V : World) v (q : Wh V v (x.den : Int)) (hV : Good V) => (show Calls Tryz.prog 87 #[v] V (RetV V (.string (it (x.den : Int)))) from text_any q f2 hV))
  have HG := Lib.hid (fun (V : World) (hV : Below w.heap.size w V) => hg.below hV)
  change Hid (Calls _ _ #[.string (rt x)] w _) at HC
  generalize rt x = S at *
  generalize it x.num = N at *
  generalize it (x.den : Int) = D at *
  generalize x.num = xn at *
  generalize (x.den : Int) = xd at *
  clear hc hs f1 f2 hg hx
  go_enter Tryz.func50, Tryz.ntmps50
  go_upto_region 2 with (go_at_call 65; refine HC.out.mono ?_; rintro e w1 ⟨b, a, k, p, c, f, l, q, rfl, hn, hb⟩)
  have g6 := Blk.new w1 107 #[.bool b, .slice a k p, .bool c, .slice f l q, .int .i64 0]
  have hn' := (hn (by first | rfl | trivial)).below ((Below.refl _ _).alloc (Nat.le_refl _) (.cells #[.bool b, .slice a k p, .bool c, .slice f l q, .int .i64 0] 107))
  have hb6 : Below w.heap.size w (w1.alloc (.cells #[.bool b, .slice a k p, .bool c, .slice f l q, .int .i64 0] 107)) := hb.alloc hb.size _
  have HN := Lib.hid hn'
  clear hn hn'
  generalize w1.heap.size = z1 at *
  generalize (w1.alloc (.cells #[.bool b, .slice a k p, .bool c, .slice f l q, .int .i64 0] 107)) = w2 at *
  obtain ⟨x0, x1, x2, x3, x4⟩ := g6.at5
  go_upto_region 5 with (go_at_call 106; refine (HP.out _ _ HN.out).mono ?_; rintro e w3 ⟨r1, r2, rfl, q1, q2, hb3⟩; obtain ⟨b1, a1, k1, p1, rfl⟩ := q1.parts; obtain ⟨b2, a2, k2, p2, rfl⟩ := q2.parts)
  have K3 := Lib.hid (next_below hb6 hb3)
  obtain ⟨W, hW, hB, hsz, j1, j2⟩ := entB w3 103 103 #[.bool b1, .slice a1 k1 p1] #[.bool b2, .slice a2 k2 p2]
  have Q1 := Lib.hid (q1.below hB)
  have Q2 := Lib.hid (q2.below hB)
  have K4 := Lib.hid (next_below K3.out hB)
  have J1 := Lib.hid j1
  have J2 := Lib.hid j2
  rw [← hW]
  clear hW hB hsz j1 j2 q1 q2 hb3 hb6 x0 x1 x2 x3 x4 g6
  generalize w3.heap.size = z3 at *
  have hB0 : Below W.heap.size W W.drew := (Below.refl _ _).drew
  refine wp_region_list 5 (by kernel_rfl) (by kernel_rfl) [] [fun v _ => v = .agg #[.bool b1, .slice a1 k1 p1], fun v _ => v = .string N, fun v _ => v = .agg #[.bool b2, .slice a2 k2 p2], fun v _ => v = .string D, fun v _ => v = .string N] (by simp only [List.take_succ_cons, List.take_zero]; rfl) (by simp only [List.drop_succ_cons, List.drop_zero]; rfl) (fun vals => by simp only [fam, Act.put, List.setIfInBounds_toArray, List.set_cons_zero, List.set_cons_succ, if_true]; rfl) (by repeat' (first | exact Stab.eq _ _ | exact Stab.wh _ _ | exact Stab.nm _ _ | exact Stab.new _ _ | exact Stab.newn _ _ | exact Stab.tw _ _ _ | exact Stab.lm _ _ _ | exact Stab.onet _ _ _ | exact trivial | apply And.intro)) trivial ?_ ?_
  · refine ⟨?_, ?_, ?_, ?_, ?_, trivial⟩
    all_goals
      intro vals w5 hB1 hp
      dsimp only
      (try simp [preOk, Region.binds, q_anygc, q_anytext] at hp)
      have hb := next_below hB0 hB1
      have kb := next_below K4.out hb
      clear hB1
    case refine_1 =>
      have c0 := (J1.out.next hb).cell0
      have c1 := (J1.out.next hb).cell1
      go_wp2
      (first | exact ⟨rfl, _, rfl, rfl, Below.refl _ _, trivial⟩ | (refine ⟨rfl, _, ?_, rfl, Below.refl _ _, trivial⟩; simp only [Act.put, List.setIfInBounds_toArray, List.set_cons_zero, List.set_cons_succ, hp]))
    case refine_2 =>
      have a0 := hp
      generalize vals 0 = v0 at *
      subst a0
      go_wp2_with (go_at_call 87; refine (HT1.out _ _ (Q1.out.below hb) (HG.out _ kb)).mono ?_; rintro e w6 ⟨rfl, hb6⟩)
      exact ⟨rfl, _, rfl, rfl, hb6, trivial⟩
    case refine_3 =>
      have c0 := (J2.out.next hb).cell0
      have c1 := (J2.out.next hb).cell1
      go_wp2
      (first | exact ⟨rfl, _, rfl, rfl, Below.refl _ _, trivial⟩ | (refine ⟨rfl, _, ?_, rfl, Below.refl _ _, trivial⟩; simp only [Act.put, List.setIfInBounds_toArray, List.set_cons_zero, List.set_cons_succ, hp]))
    case refine_4 =>
      have a0 : vals 2 = .agg #[.bool b2, .slice a2 k2 p2] := by first | exact hp.1 | exact hp
      clear hp
      generalize vals 2 = v2 at *
      subst a0
      go_wp2_with (go_at_call 87; refine (HT2.out _ _ (Q2.out.below hb) (HG.out _ kb)).mono ?_; rintro e w6 ⟨rfl, hb6⟩)
      exact ⟨rfl, _, rfl, rfl, hb6, trivial⟩
    case refine_5 =>
      have a0 : vals 1 = .string N := by first | exact hp.1 | exact hp
      clear hp
      generalize vals 1 = v1 at *
      subst a0
      go_wp2
      (first | exact ⟨rfl, _, rfl, rfl, Below.refl _ _, trivial⟩ | (refine ⟨rfl, _, ?_, rfl, Below.refl _ _, trivial⟩; simp only [Act.put, List.setIfInBounds_toArray, List.set_cons_zero, List.set_cons_succ, hp]))
  · rintro vals w5 hB1 ⟨z0, z1, z2, z3, z4, _⟩ hne
    have hbb := Lib.hid (next_below K4.out (next_below hB0 hB1))
    simp at z3 z4
    generalize vals 3 = v3 at *
    subst z3
    generalize vals 4 = v4 at *
    subst z4
    clear hne z0 z1 z2 hB1 hB0
    go_wp2
    go_ret3
    exact ⟨rfl, hbb.out⟩
end Go.Proofs.YtabdnjakmhnnfaaGreatDoor
