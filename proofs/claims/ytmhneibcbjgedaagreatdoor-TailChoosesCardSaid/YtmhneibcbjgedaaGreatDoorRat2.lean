/- ratio.Short, ratio.told, whole.Of. -/
import Derived.Test.YtmhneibcbjgedaaGreatDoorRat1
set_option linter.unusedSimpArgs false
set_option linter.unusedVariables false
namespace Go.Proofs.YtmhneibcbjgedaaGreatDoor
open Go.RowKit
open Go.Lib (decDigits itoa nDigits)

/-- Is a text a short number? -/
def rshort (l : List UInt8) : Bool := decide (rerr l = 0) && (decide ((nDigits (rval l).num.natAbs : Int) ≤ 4) && decide ((nDigits ((rval l).den : Int).natAbs : Int) ≤ 4))

set_option maxHeartbeats 1000000 in
set_option maxRecDepth 100000 in
theorem rshort_any {w : World} (l : List UInt8) (hl : l.length ≤ 268435000) (hg : Good w) :
    Calls Tryz.prog 93 #[.string ⟨l.toArray⟩] w (RetV w (.bool (rshort l))) := by
  have hc := Lib.hid (rread_any l hl hg)
  have hsz := fun h => rval_sz hl h
  unfold rshort
  generalize rerr l = err at *
  generalize rval l = x at *
  generalize (⟨l.toArray⟩ : ByteArray) = L at *
  have HG := Lib.hid hg
  clear hg
  by_cases h0 : err = 0
  · subst h0
    have hs := hsz rfl
    have hf := fun (V : World) v h h2 => fits_any (w := V) (v := v) 4 (h : Pr V v x.num x.den) (Fit.of_len hs.1 (by omega)) (Fit.of_len hs.den (by omega)) h2
    have HF := Lib.hid hf
    clear hf hsz hs
    have ed : decide ((0 : Int) = 0) = true := rfl
    rw [ed, Bool.true_and]
    generalize (decide ((nDigits x.num.natAbs : Int) ≤ 4) && decide ((nDigits (x.den : Int).natAbs : Int) ≤ 4)) = res at *
    clear ed
    go_enter Tryz.func93, Tryz.ntmps93
    go_upto_region 2 with (go_at_call 80; refine hc.out.mono ?_; rintro e w1 ⟨b, a, k, p, c, f, l, q, rfl, hn, hb⟩)
    have g6 := Blk.new w1 106 #[.bool b, .slice a k p, .bool c, .slice f l q, .int .i64 0]
    have hn' := (hn (by first | rfl | trivial)).pr.below ((Below.refl _ _).alloc (Nat.le_refl _) (.cells #[.bool b, .slice a k p, .bool c, .slice f l q, .int .i64 0] 106))
    have hb6 : Below w.heap.size w (w1.alloc (.cells #[.bool b, .slice a k p, .bool c, .slice f l q, .int .i64 0] 106)) := hb.alloc hb.size _
    have HN := Lib.hid hn'
    clear hn hn'
    generalize w1.heap.size = z1 at *
    generalize (w1.alloc (.cells #[.bool b, .slice a k p, .bool c, .slice f l q, .int .i64 0] 106)) = w2 at *
    obtain ⟨x0, x1, x2, x3, x4⟩ := g6.at5
    go_wp2_with (go_at_call 127; refine (HF.out _ _ HN.out (HG.out.below hb6)).mono ?_; rintro e w3 ⟨rfl, hb3⟩)
    go_ret
    exact ⟨rfl, next_below hb6 hb3⟩
  · have ed : decide (err = 0) = false := by simpa using h0
    rw [ed, Bool.false_and]
    have h0' : (err == 0) = false := by simpa using h0
    clear ed h0 hsz
    go_enter Tryz.func93, Tryz.ntmps93
    go_upto_region 2 with (go_at_call 80; refine hc.out.mono ?_; rintro e w1 ⟨b, a, k, p, c, f, l, q, rfl, hn, hb⟩)
    have g6 := Blk.new w1 106 #[.bool b, .slice a k p, .bool c, .slice f l q, .int .i64 err]
    have hb6 : Below w.heap.size w (w1.alloc (.cells #[.bool b, .slice a k p, .bool c, .slice f l q, .int .i64 err] 106)) := hb.alloc hb.size _
    clear hn
    generalize w1.heap.size = z1 at *
    generalize (w1.alloc (.cells #[.bool b, .slice a k p, .bool c, .slice f l q, .int .i64 err] 106)) = w2 at *
    obtain ⟨x0, x1, x2, x3, x4⟩ := g6.at5
    go_wp2
    go_ret
    exact ⟨rfl, hb6⟩

set_option maxHeartbeats 1000000 in
theorem wof_any {w : World} {n : Int} (h1 : -9223372036854775808 ≤ n) (h2 : n ≤ 9223372036854775807) (hg : Good w) :
    Calls Tryz.prog 73 #[.int .i64 n] w (RetV w (.string ⟨(itoa n).toArray⟩)) := by
  have fm : Fit n := Nat.le_trans (limbs_len_le (k := 3) (by omega)) (by omega)
  have HG := Lib.hid hg
  clear hg
  go_enter Tryz.func73, Tryz.ntmps73
  go_wp2_with (first
    | (go_at_call 83; refine (small_any h1 h2).mono ?_; rintro e w1 ⟨r, rfl, hr, hb⟩)
    | (go_at_call 39; refine (text_any hr fm (HG.out.below hb)).mono ?_; rintro e w2 ⟨rfl, hb2⟩))
  go_ret
  exact ⟨rfl, next_below hb hb2⟩

set_option maxHeartbeats 1000000 in
/-- told: the text, or ErrBig. -/
theorem told_any {w : World} {v : Value} {x : Rat} (h : Nm w v x) (s : Sz 268435456 x) (hg : Good w) :
    Calls Tryz.prog 78 #[v] w (RetV w (if nDigits x.num.natAbs ≤ 2000 ∧ nDigits x.den ≤ 2000 then .tuple #[.string ⟨(ratText x).toArray⟩, .int .i64 0] else .tuple #[.string ⟨#[]⟩, .int .i64 6])) := by
  obtain ⟨b, a, k, p, c, e, l, q, rfl, n0, d0⟩ := h.parts
  obtain ⟨W, hW, hB, hsz, j1⟩ := entA w 69 #[.bool b, .slice a k p, .bool c, .slice e l q]
  have HW := Lib.hid hW
  clear hW
  obtain ⟨x0, x1, x2, x3⟩ := j1.at4
  have hf := fits_any (w := W) 2000 (h.pr.below hB) (Fit.of_len s.1 (by omega)) (Fit.of_len s.den (by omega)) (hg.below hB)
  have ht := fun (V : World) hh => num_text (w := V) (h.below (hB.trans (Below.mono hh hB.size))) s ((hg.below hB).below hh)
  have HT := Lib.hid ht
  clear ht h n0 d0 hg
  by_cases hd : nDigits x.num.natAbs ≤ 2000 ∧ nDigits x.den ≤ 2000
  · rw [if_pos hd]
    have ed : (decide ((nDigits x.num.natAbs : Int) ≤ 2000) && decide ((nDigits (x.den : Int).natAbs : Int) ≤ 2000)) = true := by
      rw [Bool.and_eq_true, decide_eq_true_eq, decide_eq_true_eq]; simp only [Int.natAbs_natCast]; omega
    rw [ed] at hf
    have HF := Lib.hid hf
    clear hf ed hd s
    generalize (⟨(ratText x).toArray⟩ : ByteArray) = T at *
    go_enter Tryz.func78, Tryz.ntmps78
    go_upto_region 1 with fail
    rw [← HW.out]
    go_wp2_with (first
      | (go_at_call 127; refine HF.out.mono ?_; rintro e w1 ⟨rfl, hb1⟩; have i1 := j1.next hb1; obtain ⟨y0, y1, y2, y3⟩ := i1.at4)
      | (go_at_call 43; refine (HT.out _ hb1).mono ?_; rintro e w2 ⟨rfl, hb2⟩))
    go_ret2
    exact ⟨rfl, (hB.trans (hb1.mono hB.size)).trans (hb2.mono (Nat.le_trans hB.size hb1.size))⟩
  · rw [if_neg hd]
    have ed : (decide ((nDigits x.num.natAbs : Int) ≤ 2000) && decide ((nDigits (x.den : Int).natAbs : Int) ≤ 2000)) = false := by
      rw [Bool.and_eq_false_iff, decide_eq_false_iff_not, decide_eq_false_iff_not]; simp only [Int.natAbs_natCast]; omega
    rw [ed] at hf
    have HF := Lib.hid hf
    clear hf ed hd s
    go_enter Tryz.func78, Tryz.ntmps78
    go_upto_region 1 with fail
    rw [← HW.out]
    go_wp2_with (go_at_call 127; refine HF.out.mono ?_; rintro e w1 ⟨rfl, hb1⟩)
    go_ret2
    exact ⟨rfl, hB.trans (hb1.mono hB.size)⟩

end Go.Proofs.YtmhneibcbjgedaaGreatDoor
