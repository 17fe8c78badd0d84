/- The contracts of ratio.Div and ratio.Floor over texts of numbers that fit. -/
import Derived.Test.YtabdnjakmhnnfaaGreatDoorTFit
set_option linter.unusedSimpArgs false
set_option linter.unusedVariables false
namespace Go.Proofs.YtabdnjakmhnnfaaGreatDoor
open Go.RowKit
open Go.Lib (decDigits itoa nDigits)
open D4 (rt it)

theorem rdiv_rt {w : World} {x y : Rat} (hx : fitsD 2000 x) (hy : fitsD 2000 y) (h0 : y ≠ 0) (hz : fitsD 2000 (x / y)) (hg : Good w) : Calls Tryz.prog 18 #[.string (rt x), .string (rt y)] w (RetV w (.tuple #[.string (rt (x / y)), .int .i64 0])) := by
  have h := rdiv_any (w := w) (text_len hx) (text_len hy) hg
  have e : divE (ratText x) (ratText y) = 0 := by
    unfold divE
    rw [if_pos (rerr_fit hx), if_pos (rerr_fit hy), rval_ratText, rval_ratText, if_neg (fun e => h0 (Rat.num_eq_zero.1 e)), if_pos hz]
  have e2 : divT (ratText x) (ratText y) = ratText (x / y) := by unfold divT; rw [if_pos e, rval_ratText, rval_ratText]
  rw [e, e2] at h
  exact h

set_option maxHeartbeats 2000000 in
set_option maxRecDepth 100000 in
theorem rfloor_rt {w : World} {x : Rat} (hx : fitsD 2000 x) (hg : Good w) : Calls Tryz.prog 39 #[.string (rt x)] w (RetV w (.tuple #[.string (it x.floor), .int .i64 0])) := by
  have hc := rread_any (w := w) (ratText x) (text_len hx) hg
  rw [rval_ratText, rerr_fit hx] at hc
  have hs : Sz 268435456 x := (sz_of_fits hx).mono (by omega)
  have ff : Fit x.floor := by
    rw [← rat_floor]
    refine (Fit.of_len (n := x.num) hs.1 (by omega)).le ?_
    rw [Int.fdiv_eq_ediv_of_nonneg _ (show (0 : Int) ≤ (x.den : Int) by omega)]
    exact Int.natAbs_ediv_le_natAbs _ _
  have HC := Lib.hid hc
  have HF := Lib.hid (fun (V : World) v (q : Nm V v x) => num_floor q hs)
  have HT := Lib.hid (fun (V : World) v (q : Wh V v x.floor) (hV : Good V) => (show Calls Tryz.prog 87 #[v] V (RetV V (.string (it x.floor))) from text_any q ff hV))
  have HG := Lib.hid (fun (V : World) (hV : Below w.heap.size w V) => hg.below hV)
  change Hid (Calls _ _ #[.string (rt x)] w _) at HC
  generalize rt x = S at *
  generalize it x.floor = F at *
  clear hc hs hg hx
  go_enter Tryz.func39, Tryz.ntmps39
  go_upto_region 2 with (go_at_call 65; refine HC.out.mono ?_; rintro e w1 ⟨b, a, k, p, c, f, l, q, rfl, hn, hb⟩)
  have g6 := Blk.new w1 107 #[.bool b, .slice a k p, .bool c, .slice f l q, .int .i64 0]
  have hn' := (hn (by first | rfl | trivial)).below ((Below.refl _ _).alloc (Nat.le_refl _) (.cells #[.bool b, .slice a k p, .bool c, .slice f l q, .int .i64 0] 107))
  have hb6 : Below w.heap.size w (w1.alloc (.cells #[.bool b, .slice a k p, .bool c, .slice f l q, .int .i64 0] 107)) := hb.alloc hb.size _
  have HN := Lib.hid hn'
  clear hn hn'
  generalize w1.heap.size = z1 at *
  generalize (w1.alloc (.cells #[.bool b, .slice a k p, .bool c, .slice f l q, .int .i64 0] 107)) = w2 at *
  obtain ⟨x0, x1, x2, x3, x4⟩ := g6.at5
  go_wp2_with fail
  refine (HF.out _ _ HN.out).mono ?_
  rintro e w3 ⟨r3, rfl, q3, hb3⟩
  have K3 := Lib.hid (next_below hb6 hb3)
  clear x0 x1 x2 x3 x4
  go_wp2_with fail
  refine (HT.out _ _ q3 (HG.out _ K3.out)).mono ?_
  rintro e w4 ⟨rfl, hb4⟩
  go_wp2
  go_ret2
  exact ⟨rfl, next_below K3.out hb4⟩
end Go.Proofs.YtabdnjakmhnnfaaGreatDoor
