/- The contracts of tail.Low and tail.High. -/
import Derived.Test.YtmhneibcbjgedaaGreatDoorTLast
set_option linter.unusedSimpArgs false
set_option linter.unusedVariables false
namespace Go.Proofs.YtmhneibcbjgedaaGreatDoor
open Go.RowKit
open Go.Lib (decDigits itoa nDigits)

theorem lastF_le (h : Nat → Bool) : ∀ (f lo hi : Nat), lo ≤ hi → lastF h f lo hi ≤ hi
  | 0, lo, hi, e => e
  | f + 1, lo, hi, e => by
    unfold lastF
    split
    · split
      · exact lastF_le h f _ _ (by omega)
      · exact Nat.le_trans (lastF_le h f _ _ (by omega)) (by omega)
    · exact e

theorem errB_ok {n k g : Int} {l : List UInt8} (h : errB n k l g = 0) : ∃ a b c : Nat, n = a ∧ k = b ∧ g = c ∧ a ≤ 200 ∧ b ≤ a ∧ 1 ≤ c ∧ c ≤ 1000 ∧ rerr l = 0 := by
  unfold errB at h
  split at h
  · rename_i h0
    split at h
    · rename_i h1
      obtain ⟨a, b, rfl, rfl, ha, hb⟩ := cnt_ok h0
      unfold gridErr at h
      split at h
      · rename_i hr
        obtain ⟨c, rfl⟩ := Int.eq_ofNat_of_zero_le (show 0 ≤ g by omega)
        refine ⟨a, b, c, rfl, rfl, rfl, ha, hb, by omega, by omega, ?_⟩
        unfold chErr at h1
        split at h1
        · assumption
        · exact h1
      · exact absurd h (by decide)
    · rename_i h1; exact absurd h h1
  · rename_i h0; exact absurd h h0

/-- What Low returns. -/
def lowT (n k g : Nat) (x : Rat) : List UInt8 := if k = 0 then [48] else ratText (Rat.divInt (lastF (within n k g x) g 0 g : Nat) g)

set_option maxHeartbeats 1000000 in
theorem low_any {w : World} (n k : Int) (l : List UInt8) (g : Int) (hg1 : -9223372036854775808 < g) (hg2 : g ≤ 9223372036854775807) (hl : l.length ≤ 268435000) (hg : Good w) :
    Calls Tryz.prog 15 #[.int .i64 n, .int .i64 k, .string ⟨l.toArray⟩, .int .i64 g] w (RetV w (.tuple #[.string ⟨(if errB n k l g = 0 then lowT n.toNat k.toNat g.toNat (rval l) else []).toArray⟩, .int .i64 (errB n k l g)])) := by
  obtain ⟨W, hW, hB, hsz, j4, j5, j7⟩ := entC w 3 3 3 #[.int .i64 n] #[.int .i64 k] #[.int .i64 g]
  have HW := Lib.hid hW
  have HSZ := Lib.hid hsz
  have HBB := Lib.hid hB
  clear hW hsz
  have j7 : Blk W (w.heap.size + 1 + 1) 3 #[.int .i64 g] := j7
  have hbd := bound_any (w := W) n k l g hg1 hg2 hl (hg.below hB)
  have x4 := j4.cell 0
  have x5 := j5.cell 0
  have x7 := j7.cell 0
  simp at x4 x5 x7
  by_cases h0 : errB n k l g = 0
  · obtain ⟨a, b, c, rfl, rfl, rfl, ha, hb, hc1, hc2, hre⟩ := errB_ok h0
    rw [h0] at hbd ⊢
    rw [if_pos rfl, Int.toNat_natCast, Int.toNat_natCast, Int.toNat_natCast]
    have hs := rval_sz hl hre
    generalize rval l = x at *
    have HBD := Lib.hid hbd
    generalize (⟨l.toArray⟩ : ByteArray) = S at *
    clear hbd h0 hre
    have HG := Lib.hid (hg.below hB)
    have HS := Lib.hid hs
    clear hg hs
    by_cases hk : b = 0
    · have e0 : lowT a b c x = [48] := by unfold lowT; rw [if_pos hk]
      have hkb : ((b : Int) == 0) = true := by simpa using hk
      rw [e0]
      clear e0 hk
      go_enter Tryz.func15, Tryz.ntmps15
      go_upto_region 1 with fail
      rw [← HW.out]
      go_wp2_with (go_at_call 45; refine HBD.out.mono ?_; rintro e w1 ⟨b2, a2, k2, pp2, c2, f2, l2, qq2, rfl, hn, hb1⟩; clear hn; have i5 := (j5.next hb1).alloc (.cells #[.bool b2, .slice a2 k2 pp2, .bool c2, .slice f2 l2 qq2] 69); have y5 := i5.cell 0; simp at y5)
      go_ret2
      exact ⟨rfl, HBB.out.trans ((hb1.alloc hb1.size _).mono HBB.out.size)⟩
    · obtain ⟨T, hT⟩ : ∃ T : ByteArray, T = ⟨(lowT a b c x).toArray⟩ := ⟨_, rfl⟩
      rw [← hT]
      unfold lowT at hT
      rw [if_neg hk] at hT
      have hle := lastF_le (within a b c x) c 0 c (by omega)
      have hin := fun (V : World) (i : Nat) nb kb gb db bb aa ka pa cc ff lf qf h1 h2 h3 h4 hx hi => lowin_any (w := V) a b c i ha hb hc2 (by omega) hi (nb := nb) (kb := kb) (gb := gb) (db := db) (b := bb) (a := aa) (ka := ka) (pa := pa) (c := cc) (f := ff) (lf := lf) (qf := qf) (x := x) h1 h2 h3 h4 hx HS.out
      generalize within a b c x = h at *
      generalize hR : lastF h c 0 c = R at *
      have hol := grid_limb (i := R) (g := c) (by omega) hc2 (by omega)
      have ht2 := fun (V : World) v q hh => num_text (w := V) (v := v) (x := Rat.divInt R c) q ⟨Nat.le_trans hol.1 (by omega), Nat.le_trans (by have := hol.2; simpa using this) (by omega)⟩ (HG.out.below hh)
      rw [← hT] at ht2
      have HT2 := Lib.hid ht2
      clear ht2 hol
      have HIN := Lib.hid hin
      have HT := Lib.hid hT
      have hkb : ((b : Int) == 0) = false := by simpa using hk
      clear hin hT
      go_enter Tryz.func15, Tryz.ntmps15
      go_upto_region 1 with fail
      rw [← HW.out]
      go_upto_region 2 with (go_at_call 45; refine HBD.out.mono ?_; rintro e w1 ⟨b2, a2, k2, pp2, c2, f2, l2, qq2, rfl, hn, hb1⟩)
      have hn' := (hn (by first | rfl | trivial)).below ((Below.refl _ _).alloc (Nat.le_refl _) (.cells #[.bool b2, .slice a2 k2 pp2, .bool c2, .slice f2 l2 qq2] 69))
      have g10 := Blk.new w1 69 #[.bool b2, .slice a2 k2 pp2, .bool c2, .slice f2 l2 qq2]
      have i4 := (j4.next hb1).alloc (.cells #[.bool b2, .slice a2 k2 pp2, .bool c2, .slice f2 l2 qq2] 69)
      have i5 := (j5.next hb1).alloc (.cells #[.bool b2, .slice a2 k2 pp2, .bool c2, .slice f2 l2 qq2] 69)
      have i7 := (j7.next hb1).alloc (.cells #[.bool b2, .slice a2 k2 pp2, .bool c2, .slice f2 l2 qq2] 69)
      have hb2 : Below W.heap.size W (w1.alloc (.cells #[.bool b2, .slice a2 k2 pp2, .bool c2, .slice f2 l2 qq2] 69)) := hb1.alloc hb1.size _
      have HX := Lib.hid hn'
      clear hn hn' hb1 x4 x5 x7
      generalize w1.heap.size = z10 at *
      generalize (w1.alloc (.cells #[.bool b2, .slice a2 k2 pp2, .bool c2, .slice f2 l2 qq2] 69)) = w2 at *
      have hlast := last_low (w := w2) h c hc2 (.pointer (some ⟨w.heap.size, 0, none⟩)) (.pointer (some ⟨w.heap.size + 1, 0, none⟩)) (.pointer (some ⟨w.heap.size + 1 + 1, 0, none⟩)) (.pointer (some ⟨z10, 0, none⟩)) (fun V i hV hi => HIN.out V i _ _ _ _ _ _ _ _ _ _ _ _ (i4.next hV) (i5.next hV) (i7.next hV) (g10.next hV) (HX.out.below hV) hi)
      rw [hR] at hlast
      have HL := Lib.hid hlast
      clear hlast
      have y5 := i5.cell 0
      have y7 := i7.cell 0
      simp at y5 y7
      go_wp2_with (first
        | (go_at_call 46; refine HL.out.mono ?_; rintro e w3 ⟨rfl, hb3⟩; have m7 := i7.next hb3; have v7 := m7.cell 0; simp at v7)
        | (go_at_call 48; refine (num_of (by omega) (by omega) (by omega) (by omega) (by omega)).mono ?_; rintro e w4 ⟨r, rfl, hr, hb4⟩)
        | (go_at_call 43; refine (HT2.out _ _ hr (next_below (next_below hb2 hb3) hb4)).mono ?_; rintro e w5 ⟨rfl, hb5⟩))
      go_ret2
      exact ⟨rfl, HBB.out.trans ((next_below (next_below (next_below hb2 hb3) hb4) hb5).mono HBB.out.size)⟩
  · rw [if_neg h0]
    generalize errB n k l g = er at *
    generalize rval l = x at *
    have hb : (er != 0) = true := by simpa using h0
    have HBD := Lib.hid hbd
    clear hbd hg hl
    generalize (⟨l.toArray⟩ : ByteArray) = S at *
    go_enter Tryz.func15, Tryz.ntmps15
    go_upto_region 1 with fail
    rw [← HW.out]
    go_wp2_with (go_at_call 45; refine HBD.out.mono ?_; rintro e w1 ⟨b2, a2, k2, pp2, c2, f2, l2, qq2, rfl, hn, hb1⟩; clear hn)
    go_ret2
    exact ⟨rfl, HBB.out.trans ((hb1.alloc hb1.size _).mono HBB.out.size)⟩

/-- What High returns. -/
def highT (n k g : Nat) (x : Rat) : List UInt8 := if k = n then [49] else ratText (Rat.divInt ((g : Int) - (lastF (within n (n - k) g x) g 0 g : Nat)) g)

set_option maxHeartbeats 1000000 in
theorem high_any {w : World} (n k : Int) (l : List UInt8) (g : Int) (hg1 : -9223372036854775808 < g) (hg2 : g ≤ 9223372036854775807) (hl : l.length ≤ 268435000) (hg : Good w) :
    Calls Tryz.prog 16 #[.int .i64 n, .int .i64 k, .string ⟨l.toArray⟩, .int .i64 g] w (RetV w (.tuple #[.string ⟨(if errB n k l g = 0 then highT n.toNat k.toNat g.toNat (rval l) else []).toArray⟩, .int .i64 (errB n k l g)])) := by
  obtain ⟨W, hW, hB, hsz, j4, j5, j7⟩ := entC w 3 3 3 #[.int .i64 n] #[.int .i64 k] #[.int .i64 g]
  have HW := Lib.hid hW
  have HSZ := Lib.hid hsz
  have HBB := Lib.hid hB
  clear hW hsz
  have j7 : Blk W (w.heap.size + 1 + 1) 3 #[.int .i64 g] := j7
  have hbd := bound_any (w := W) n k l g hg1 hg2 hl (hg.below hB)
  have x4 := j4.cell 0
  have x5 := j5.cell 0
  have x7 := j7.cell 0
  simp at x4 x5 x7
  by_cases h0 : errB n k l g = 0
  · obtain ⟨a, b, c, rfl, rfl, rfl, ha, hb, hc1, hc2, hre⟩ := errB_ok h0
    rw [h0] at hbd ⊢
    rw [if_pos rfl, Int.toNat_natCast, Int.toNat_natCast, Int.toNat_natCast]
    have hs := rval_sz hl hre
    generalize rval l = x at *
    have HBD := Lib.hid hbd
    generalize (⟨l.toArray⟩ : ByteArray) = S at *
    clear hbd h0 hre
    have HG := Lib.hid (hg.below hB)
    have HS := Lib.hid hs
    clear hg hs
    by_cases hk : b = a
    · have e0 : highT a b c x = [49] := by unfold highT; rw [if_pos hk]
      have hkb : ((b : Int) == a) = true := by simp; omega
      rw [e0]
      clear e0 hk
      go_enter Tryz.func16, Tryz.ntmps16
      go_upto_region 1 with fail
      rw [← HW.out]
      go_wp2_with (go_at_call 45; refine HBD.out.mono ?_; rintro e w1 ⟨b2, a2, k2, pp2, c2, f2, l2, qq2, rfl, hn, hb1⟩; clear hn; have i5 := (j5.next hb1).alloc (.cells #[.bool b2, .slice a2 k2 pp2, .bool c2, .slice f2 l2 qq2] 69); have i4 := (j4.next hb1).alloc (.cells #[.bool b2, .slice a2 k2 pp2, .bool c2, .slice f2 l2 qq2] 69); have y5 := i5.cell 0; have y4 := i4.cell 0; simp at y5 y4)
      go_ret2
      exact ⟨rfl, HBB.out.trans ((hb1.alloc hb1.size _).mono HBB.out.size)⟩
    · obtain ⟨T, hT⟩ : ∃ T : ByteArray, T = ⟨(highT a b c x).toArray⟩ := ⟨_, rfl⟩
      rw [← hT]
      unfold highT at hT
      rw [if_neg hk] at hT
      have hle := lastF_le (within a (a - b) c x) c 0 c (by omega)
      have hin := fun (V : World) (i : Nat) nb kb gb db bb aa ka pa cc ff lf qf h1 h2 h3 h4 hx hi => highin_any (w := V) a b c i ha hb hc2 (by omega) hi (nb := nb) (kb := kb) (gb := gb) (db := db) (b := bb) (a := aa) (ka := ka) (pa := pa) (c := cc) (f := ff) (lf := lf) (qf := qf) (x := x) h1 h2 h3 h4 hx HS.out
      generalize within a (a - b) c x = h at *
      generalize hR : lastF h c 0 c = R at *
      obtain ⟨r, hr⟩ : ∃ r : Nat, (c : Int) - R = r := ⟨c - R, by omega⟩
      rw [hr] at hT
      have hol := grid_limb (i := r) (g := c) (by omega) hc2 (by omega)
      have ht2 := fun (V : World) v q hh => num_text (w := V) (v := v) (x := Rat.divInt r c) q ⟨Nat.le_trans hol.1 (by omega), Nat.le_trans (by have := hol.2; simpa using this) (by omega)⟩ (HG.out.below hh)
      rw [← hT] at ht2
      have HT2 := Lib.hid ht2
      clear ht2 hol
      have HIN := Lib.hid hin
      have HT := Lib.hid hT
      have hkb : ((b : Int) == a) = false := by simp; omega
      clear hin hT
      go_enter Tryz.func16, Tryz.ntmps16
      go_upto_region 1 with fail
      rw [← HW.out]
      go_upto_region 2 with (go_at_call 45; refine HBD.out.mono ?_; rintro e w1 ⟨b2, a2, k2, pp2, c2, f2, l2, qq2, rfl, hn, hb1⟩)
      have hn' := (hn (by first | rfl | trivial)).below ((Below.refl _ _).alloc (Nat.le_refl _) (.cells #[.bool b2, .slice a2 k2 pp2, .bool c2, .slice f2 l2 qq2] 69))
      have g10 := Blk.new w1 69 #[.bool b2, .slice a2 k2 pp2, .bool c2, .slice f2 l2 qq2]
      have i4 := (j4.next hb1).alloc (.cells #[.bool b2, .slice a2 k2 pp2, .bool c2, .slice f2 l2 qq2] 69)
      have i5 := (j5.next hb1).alloc (.cells #[.bool b2, .slice a2 k2 pp2, .bool c2, .slice f2 l2 qq2] 69)
      have i7 := (j7.next hb1).alloc (.cells #[.bool b2, .slice a2 k2 pp2, .bool c2, .slice f2 l2 qq2] 69)
      have hb2 : Below W.heap.size W (w1.alloc (.cells #[.bool b2, .slice a2 k2 pp2, .bool c2, .slice f2 l2 qq2] 69)) := hb1.alloc hb1.size _
      have HX := Lib.hid hn'
      clear hn hn' hb1 x4 x5 x7
      generalize w1.heap.size = z10 at *
      generalize (w1.alloc (.cells #[.bool b2, .slice a2 k2 pp2, .bool c2, .slice f2 l2 qq2] 69)) = w2 at *
      have hlast := last_high (w := w2) h c hc2 (.pointer (some ⟨w.heap.size, 0, none⟩)) (.pointer (some ⟨w.heap.size + 1, 0, none⟩)) (.pointer (some ⟨w.heap.size + 1 + 1, 0, none⟩)) (.pointer (some ⟨z10, 0, none⟩)) (fun V i hV hi => HIN.out V i _ _ _ _ _ _ _ _ _ _ _ _ (i4.next hV) (i5.next hV) (i7.next hV) (g10.next hV) (HX.out.below hV) hi)
      rw [hR] at hlast
      have HL := Lib.hid hlast
      clear hlast
      have y5 := i5.cell 0
      have y7 := i7.cell 0
      have y4 := i4.cell 0
      simp at y4 y5 y7
      go_wp2_with (first
        | (go_at_call 46; refine HL.out.mono ?_; rintro e w3 ⟨rfl, hb3⟩; have m7 := i7.next hb3; have v7 := m7.cell 0; simp at v7)
        | (go_at_call 48; refine (num_of (by omega) (by omega) (by omega) (by omega) (by omega)).mono ?_; rintro e w4 ⟨rv, rfl, hrv, hb4⟩)
        | (go_at_call 43; refine (HT2.out _ _ hrv (next_below (next_below hb2 hb3) hb4)).mono ?_; rintro e w5 ⟨rfl, hb5⟩))
      go_ret2
      exact ⟨rfl, HBB.out.trans ((next_below (next_below (next_below hb2 hb3) hb4) hb5).mono HBB.out.size)⟩
  · rw [if_neg h0]
    generalize errB n k l g = er at *
    generalize rval l = x at *
    have hb : (er != 0) = true := by simpa using h0
    have HBD := Lib.hid hbd
    clear hbd hg hl
    generalize (⟨l.toArray⟩ : ByteArray) = S at *
    go_enter Tryz.func16, Tryz.ntmps16
    go_upto_region 1 with fail
    rw [← HW.out]
    go_wp2_with (go_at_call 45; refine HBD.out.mono ?_; rintro e w1 ⟨b2, a2, k2, pp2, c2, f2, l2, qq2, rfl, hn, hb1⟩; clear hn)
    go_ret2
    exact ⟨rfl, HBB.out.trans ((hb1.alloc hb1.size _).mono HBB.out.size)⟩

end Go.Proofs.YtmhneibcbjgedaaGreatDoor
