/- The contracts of ratio.Decimal at any text, and of ratio.Ceil. -/
import Derived.Test.YtabdnjakmhnnfaaGreatDoorQDec
import Derived.Test.YtabdnjakmhnnfaaGreatDoorTFlo
set_option linter.unusedSimpArgs false
set_option linter.unusedVariables false
namespace Go.Proofs.YtabdnjakmhnnfaaGreatDoor
open Go.RowKit
open Go.Lib (decDigits itoa nDigits)
open D4 (rt it)

set_option maxHeartbeats 4000000 in
set_option maxRecDepth 100000 in
theorem dec_arg {w : World} (ls : List UInt8) (n : Int) (hl : ls.length ≤ 268435000) (h0 : rerr ls = 0) (hne : n < 0 ∨ 100 < n) (hg : Good w) : Calls Tryz.prog 23 #[.string ⟨ls.toArray⟩, .int .i64 n] w (RetV w (.tuple #[.string ⟨#[]⟩, .int .i64 2])) := by
  have hc := rread_any (w := w) ls hl hg
  rw [h0] at hc
  generalize rval ls = x at *
  generalize (⟨ls.toArray⟩ : ByteArray) = S at *
  have HC := Lib.hid hc
  clear hc hg h0 hl
  go_enter Tryz.func23, Tryz.ntmps23
  go_upto_region 2 with (go_at_call 65; refine HC.out.mono ?_; rintro e w1 ⟨b, a, k, p, c, f, l, q, rfl, hn, hb⟩)
  have g6' := Blk.new w1 107 #[.bool b, .slice a k p, .bool c, .slice f l q, .int .i64 0]
  have hb6 : Below w.heap.size w (w1.alloc (.cells #[.bool b, .slice a k p, .bool c, .slice f l q, .int .i64 0] 107)) := hb.alloc hb.size _
  have G6 := Lib.hid g6'
  have K2 := Lib.hid hb6
  clear hn hb hb6 g6'
  generalize w1.heap.size = z6 at *
  generalize (w1.alloc (.cells #[.bool b, .slice a k p, .bool c, .slice f l q, .int .i64 0] 107)) = w2 at *
  obtain ⟨x0, x1, x2, x3, x4⟩ := G6.out.at5
  by_cases h1 : n < 0
  · go_wp2
    go_ret2
    exact ⟨rfl, K2.out⟩
  · have h2 : 100 < n := by omega
    go_wp2
    go_ret2
    exact ⟨rfl, K2.out⟩

set_option maxHeartbeats 4000000 in
set_option maxRecDepth 100000 in
theorem dec_form {w : World} (ls : List UInt8) (n : Int) (hl : ls.length ≤ 268435000) (h0 : rerr ls ≠ 0) (hg : Good w) : Calls Tryz.prog 23 #[.string ⟨ls.toArray⟩, .int .i64 n] w (RetV w (.tuple #[.string ⟨#[]⟩, .int .i64 (rerr ls)])) := by
  have hc := rread_any (w := w) ls hl hg
  generalize rval ls = x at *
  have hb0 : (rerr ls == 0) = false := by rw [beq_eq_false_iff_ne]; exact h0
  generalize rerr ls = er at *
  generalize (⟨ls.toArray⟩ : ByteArray) = S at *
  have HC := Lib.hid hc
  clear hc hl hg
  go_enter Tryz.func23, Tryz.ntmps23
  go_upto_region 2 with (go_at_call 65; refine HC.out.mono ?_; rintro e w1 ⟨b, a, k, p, c, f, l, q, rfl, hn, hb⟩)
  have g6' := Blk.new w1 107 #[.bool b, .slice a k p, .bool c, .slice f l q, .int .i64 er]
  have hb6 : Below w.heap.size w (w1.alloc (.cells #[.bool b, .slice a k p, .bool c, .slice f l q, .int .i64 er] 107)) := hb.alloc hb.size _
  have G6 := Lib.hid g6'
  have K2 := Lib.hid hb6
  clear hn hb hb6 g6'
  generalize w1.heap.size = z6 at *
  generalize (w1.alloc (.cells #[.bool b, .slice a k p, .bool c, .slice f l q, .int .i64 er] 107)) = w2 at *
  obtain ⟨x0, x1, x2, x3, x4⟩ := G6.out.at5
  go_upto_region 3 with fail
  have hB0 : Below w2.heap.size w2 w2.drew := (Below.refl _ _).drew
  refine wp_region_list 3 (by kernel_rfl) (by kernel_rfl) [] [fun v _ => v = .pointer (some ⟨z6, 4, none⟩), fun v _ => v = .int .i64 er, fun v _ => v = .string ⟨#[]⟩] (by simp only [List.take_succ_cons, List.take_zero]; rfl) (by simp only [List.drop_succ_cons, List.drop_zero]; rfl) (fun vals => by simp only [fam, Act.put, List.setIfInBounds_toArray, List.set_cons_zero, List.set_cons_succ, if_true]; rfl) (by repeat' (first | exact Stab.eq _ _ | exact Stab.wh _ _ | exact Stab.nm _ _ | exact Stab.new _ _ | exact Stab.newn _ _ | exact Stab.tw _ _ _ | exact Stab.lm _ _ _ | exact Stab.onet _ _ _ | exact trivial | apply And.intro)) trivial ?_ ?_
  · refine ⟨?_, ?_, ?_, trivial⟩
    all_goals
      intro vals w3 hB hp
      dsimp only
      (try simp [preOk, Region.binds, q_anygc, q_anytext] at hp)
      have hbb := next_below hB0 hB
      obtain ⟨y0, y1, y2, y3, y4⟩ := (G6.out.next hbb).at5
      clear hB x0 x1 x2 x3 x4
    case refine_2 =>
      have a0 := hp
      generalize vals 0 = v0 at *
      subst a0
      go_wp2
      (first | exact ⟨rfl, _, rfl, rfl, Below.refl _ _, trivial⟩ | (refine ⟨rfl, _, ?_, rfl, Below.refl _ _, trivial⟩; simp only [Act.put, List.setIfInBounds_toArray, List.set_cons_zero, List.set_cons_succ, hp]))
    all_goals
      go_wp2
      (first | exact ⟨rfl, _, rfl, rfl, Below.refl _ _, trivial⟩ | (refine ⟨rfl, _, ?_, rfl, Below.refl _ _, trivial⟩; simp only [Act.put, List.setIfInBounds_toArray, List.set_cons_zero, List.set_cons_succ, hp]))
  · rintro vals w3 hB ⟨p0, p1, p2, _⟩ hne
    have hbb := Lib.hid (next_below K2.out (next_below hB0 hB))
    simp at p1 p2
    generalize vals 1 = v1 at *
    subst p1
    generalize vals 2 = v2 at *
    subst p2
    clear hne p0 hB hB0 x0 x1 x2 x3 x4
    go_wp2
    go_ret2
    exact ⟨rfl, hbb.out⟩

theorem dec_any {w : World} (ls : List UInt8) (p : Int) (hl : ls.length ≤ 268435000) (hg : Good w) : Calls Tryz.prog 23 #[.string ⟨ls.toArray⟩, .int .i64 p] w (RetV w (.tuple #[.string (decS ls p), .int .i64 (decE ls p)])) := by
  by_cases h0 : rerr ls = 0
  · by_cases hn : p < 0 ∨ 100 < p
    · have e : decE ls p = 2 := by unfold decE; rw [if_pos h0, if_pos hn]
      have eT : decS ls p = ⟨#[]⟩ := by unfold decS; rw [e]; rfl
      rw [e, eT]
      exact dec_arg ls p hl h0 hn hg
    · have e : decE ls p = 0 := by unfold decE; rw [if_pos h0, if_neg hn]
      have eT : decS ls p = decT (rval ls) p.toNat := by unfold decS; rw [if_pos e]
      rw [e, eT]
      obtain ⟨m, rfl⟩ : ∃ m : Nat, p = (m : Int) := ⟨p.toNat, by omega⟩
      rw [Int.toNat_natCast]
      exact dec_ok ls m (by omega) hl h0 hg
  · have e : decE ls p = rerr ls := by unfold decE; rw [if_neg h0]
    have eT : decS ls p = ⟨#[]⟩ := by unfold decS; rw [e, if_neg h0]
    rw [e, eT]
    exact dec_form ls p hl h0 hg

set_option maxHeartbeats 4000000 in
set_option maxRecDepth 100000 in
theorem rceil_rt {w : World} {x : Rat} (hx : fitsD 2000 x) (hg : Good w) : Calls Tryz.prog 40 #[.string (rt x)] w (RetV w (.tuple #[.string (it (-((-x).floor))), .int .i64 0])) := by
  have hc := rread_any (w := w) (ratText x) (text_len hx) hg
  rw [rval_ratText, rerr_fit hx] at hc
  have hs : Sz 268435456 x := (sz_of_fits hx).mono (by omega)
  have hs2 : Sz 268435456 (-x) := ⟨by rw [Rat.neg_num, Int.natAbs_neg]; exact hs.1, by rw [Rat.neg_den]; exact hs.2⟩
  have ff : Fit (-((-x).floor)) := by
    have h1 : Fit ((-x).floor) := by
      rw [← rat_floor]
      refine (Fit.of_len (n := (-x).num) hs2.1 (by omega)).le ?_
      rw [Int.fdiv_eq_ediv_of_nonneg _ (show (0 : Int) ≤ ((-x).den : Int) by omega)]
      exact Int.natAbs_ediv_le_natAbs _ _
    exact h1.le (by rw [Int.natAbs_neg]; exact Nat.le_refl _)
  have HC := Lib.hid hc
  have HNG := Lib.hid (fun (V : World) v (q : Nm V v x) => num_neg (w := V) q)
  have HF := Lib.hid (fun (V : World) v (q : Nm V v (-x)) => num_floor q hs2)
  have HWN := Lib.hid (fun (V : World) v (q : Wh V v (-x).floor) => neg_any (w := V) q)
  have HT := Lib.hid (fun (V : World) v (q : Wh V v (-((-x).floor))) (hV : Good V) => (show Calls Tryz.prog 87 #[v] V (RetV V (.string (it (-((-x).floor))))) from text_any q ff hV))
  have HG := Lib.hid (fun (V : World) (hV : Below w.heap.size w V) => hg.below hV)
  change Hid (Calls _ _ #[.string (rt x)] w _) at HC
  generalize rt x = S at *
  generalize it (-((-x).floor)) = F at *
  generalize -((-x).floor) = nf at *
  generalize (-x).floor = fl at *
  generalize -x = y at *
  clear hc hs hs2 ff hg hx
  go_enter Tryz.func40, Tryz.ntmps40
  go_upto_region 2 with (go_at_call 65; refine HC.out.mono ?_; rintro e w1 ⟨b, a, k, p, c, f, l, q, rfl, hn, hb⟩)
  have g6 := Blk.new w1 107 #[.bool b, .slice a k p, .bool c, .slice f l q, .int .i64 0]
  have hn' := (hn (by first | rfl | trivial)).below ((Below.refl _ _).alloc (Nat.le_refl _) (.cells #[.bool b, .slice a k p, .bool c, .slice f l q, .int .i64 0] 107))
  have hb6 : Below w.heap.size w (w1.alloc (.cells #[.bool b, .slice a k p, .bool c, .slice f l q, .int .i64 0] 107)) := hb.alloc hb.size _
  have HN := Lib.hid hn'
  clear hn hn'
  generalize w1.heap.size = z1 at *
  generalize (w1.alloc (.cells #[.bool b, .slice a k p, .bool c, .slice f l q, .int .i64 0] 107)) = w2 at *
  obtain ⟨x0, x1, x2, x3, x4⟩ := g6.at5
  go_wp2_with fail
  refine (HNG.out _ _ HN.out).mono ?_
  rintro e wa ⟨ra, rfl, qa, ka⟩
  go_wp2_with fail
  refine (HF.out _ _ qa).mono ?_
  rintro e wb ⟨rb, rfl, qb, kb⟩
  go_wp2_with fail
  refine (HWN.out _ _ qb).mono ?_
  rintro e wc ⟨rc, rfl, qc, kc⟩
  have K := Lib.hid (next_below (next_below (next_below hb6 ka) kb) kc)
  clear x0 x1 x2 x3 x4
  go_wp2_with fail
  refine (HT.out _ _ qc (HG.out _ K.out)).mono ?_
  rintro e wd ⟨rfl, kd⟩
  have K5 := Lib.hid (next_below K.out kd)
  clear ka kb kc kd qa qb qc
  go_wp2
  go_ret2
  exact ⟨rfl, K5.out⟩
end Go.Proofs.YtabdnjakmhnnfaaGreatDoor
