/- The contract of croupierref02.Draft.Q. -/
import Derived.Test.YtabdnjakmhnnfaaGreatDoorQDraft
import Derived.Test.YtabdnjakmhnnfaaGreatDoorQPowM
set_option linter.unusedSimpArgs false
set_option linter.unusedVariables false
namespace Go.Proofs.YtabdnjakmhnnfaaGreatDoor
open Go.RowKit
open Go.Lib (decDigits itoa nDigits)
open D4 (rt it)

/-- The number of a draft. -/
def draftQ (m n : Int) : Rat := if n = 0 then (m : Rat) else Rat.divInt m n
theorem draftQ_fit {m n : Int} (hm : nDigits m.natAbs ≤ 240) (hn : nDigits n.natAbs ≤ 240) : fitsD 240 (draftQ m n) := by
  unfold draftQ
  by_cases h : n = 0
  · rw [if_pos h]
    refine ⟨by rw [Rat.num_intCast]; exact hm, ?_⟩
    rw [Rat.den_intCast]
    exact Nat.le_trans (D4.nDigits_le (d := 1) (by decide)) (by omega)
  · rw [if_neg h]
    exact ⟨Nat.le_trans (D4.nDigits_mono (D4.divInt_num_le _ _)) hm, Nat.le_trans (D4.nDigits_mono (D4.divInt_den_le _ h)) hn⟩
theorem it_zero_iff (m : Int) : ((it m).toList == [48]) = decide (m = 0) := by
  have hl : (it m).toList = itoa m := ba_list (itoa m)
  have h1 : itoa 0 = [48] := by decide +kernel
  by_cases h : m = 0
  · subst h
    rw [hl, h1]; simp
  · rw [decide_eq_false h, beq_eq_false_iff_ne, hl]
    intro hc
    exact h (itoa_inj (by rw [hc, h1]))
theorem Blk.at6 {w : World} {g : Nat} {t : TypeId} {u0 u1 u2 u3 u4 u5 : Value} (h : Blk w g t #[u0, u1, u2, u3, u4, u5]) : w.cell? ⟨g, 0, none⟩ = some u0 ∧ w.cell? ⟨g, 1, none⟩ = some u1 ∧ w.cell? ⟨g, 2, none⟩ = some u2 ∧ w.cell? ⟨g, 3, none⟩ = some u3 ∧ w.cell? ⟨g, 4, none⟩ = some u4 ∧ w.cell? ⟨g, 5, none⟩ = some u5 :=
  ⟨by simpa using h.cell 0, by simpa using h.cell 1, by simpa using h.cell 2, by simpa using h.cell 3, by simpa using h.cell 4, by simpa using h.cell 5⟩

set_option maxHeartbeats 8000000 in
set_option maxRecDepth 100000 in
/-- With what Text answers. -/
theorem q_walk {w : World} (n1 n2 : Bool) (v1 v2 : Value) (t1 t2 m n : Int) (hm : nDigits m.natAbs ≤ 240) (hn : nDigits n.natAbs ≤ 240) (hv1 : ∃ ad, ∃ k c : Nat, v1 = .slice ad k c) (hv2 : ∃ ad, ∃ k c : Nat, v2 = .slice ad k c)
    (h1 : ∀ V : World, Below w.heap.size w V → Calls Tryz.prog 44 #[.agg #[.bool n1, v1, .int .u8 t1]] V (RetV V (.string (it m))))
    (h2 : ∀ V : World, Below w.heap.size w V → Calls Tryz.prog 44 #[.agg #[.bool n2, v2, .int .u8 t2]] V (RetV V (.string (it n)))) (hg : Good w) :
    Calls Tryz.prog 36 #[.agg #[.bool n1, v1, .int .u8 t1, .bool n2, v2, .int .u8 t2]] w (RetV w (.string (rt (draftQ m n)))) := by
  obtain ⟨a1, k1, c1, rfl⟩ := hv1
  obtain ⟨a2, k2, c2, rfl⟩ := hv2
  obtain ⟨W, hW, hB, hsz, j⟩ := entA w 44 #[.bool n1, .slice a1 k1 c1, .int .u8 t1, .bool n2, .slice a2 k2 c2, .int .u8 t2]
  have HW := Lib.hid hW
  have HB := Lib.hid hB
  have J := Lib.hid j
  have HG := Lib.hid (fun (V : World) (hV : Below W.heap.size W V) => (hg.below hB).below hV)
  have H1 := Lib.hid (fun (V : World) (hV : Below W.heap.size W V) => h1 V (hB.trans (hV.mono hB.size)))
  have H2 := Lib.hid (fun (V : World) (hV : Below W.heap.size W V) => h2 V (hB.trans (hV.mono hB.size)))
  have hz := it_zero_iff n
  obtain ⟨x0, x1, x2, x3, x4, x5⟩ := j.at6
  by_cases h0 : n = 0
  · have e : rt (draftQ m n) = it m := by
      unfold draftQ
      rw [if_pos h0, D4.rt_one (Rat.den_intCast _), Rat.num_intCast]
    rw [e]
    rw [decide_eq_true h0] at hz
    generalize it m = M at *
    generalize it n = N at *
    clear hW hB j h1 h2 hg hm hn e h0
    go_enter Tryz.func36, Tryz.ntmps36
    go_upto_region 1 with fail
    rw [← HW.out]
    go_wp2_with fail
    refine (H2.out _ (Below.refl _ _)).mono ?_
    rintro e V ⟨rfl, kk⟩
    have K1 := Lib.hid kk
    have J1 := J.out.next kk
    clear x0 x1 x2 x3 x4 x5 kk
    obtain ⟨x0, x1, x2, x3, x4, x5⟩ := J1.at6
    go_wp2_with fail
    refine (H1.out _ K1.out).mono ?_
    rintro e V2 ⟨rfl, kk⟩
    have K2 := Lib.hid (next_below K1.out kk)
    clear kk
    go_wp2
    go_ret
    exact ⟨rfl, HB.out.trans (K2.out.mono HB.out.size)⟩
  · have e : draftQ m n = Rat.divInt m n := by unfold draftQ; rw [if_neg h0]
    rw [e]
    have H3 := Lib.hid (fun (V : World) (hV : Good V) => D4.rmake_any (w := V) m n (by omega) (by omega) h0 hV)
    rw [decide_eq_false h0] at hz
    generalize rt (Rat.divInt m n) = R at *
    generalize it m = M at *
    generalize it n = N at *
    clear hW hB j h1 h2 hg hm hn e h0
    go_enter Tryz.func36, Tryz.ntmps36
    go_upto_region 1 with fail
    rw [← HW.out]
    go_upto_region 3 with (go_at_call 44; refine (H2.out _ (Below.refl _ _)).mono ?_; rintro e V ⟨rfl, kk⟩; clear x0 x1 x2 x3 x4 x5)
    have J1 := J.out.next kk
    have K1 := Lib.hid kk
    clear kk
    have hB0 : Below V.heap.size V V.drew := (Below.refl _ _).drew
    refine wp_region_list 7 (by kernel_rfl) (by kernel_rfl) [] [fun v _ => v = .pointer (some ⟨w.heap.size, 0, none⟩), fun v _ => v = .agg #[.bool n1, .slice a1 k1 c1, .int .u8 t1], fun v _ => v = .string M, fun v _ => v = .pointer (some ⟨w.heap.size, 3, none⟩), fun v _ => v = .agg #[.bool n2, .slice a2 k2 c2, .int .u8 t2], fun v _ => v = .string N, fun v _ => v = .string R] (by simp only [List.take_succ_cons, List.take_zero]; rfl) (by simp only [List.drop_succ_cons, List.drop_zero]; rfl) (fun vals => by simp only [fam, Act.put, List.setIfInBounds_toArray, List.set_cons_zero, List.set_cons_succ, if_true]; rfl) (by repeat' (first | exact Stab.eq _ _ | exact Stab.wh _ _ | exact Stab.nm _ _ | exact Stab.new _ _ | exact Stab.newn _ _ | exact Stab.tw _ _ _ | exact Stab.lm _ _ _ | exact Stab.onet _ _ _ | exact trivial | apply And.intro)) trivial ?_ ?_
    · refine ⟨?_, ?_, ?_, ?_, ?_, ?_, ?_, trivial⟩
      all_goals
        intro vals w1 hB1 hp
        dsimp only
        (try simp [preOk, Region.binds, D4.anygc, D4.anytext] at hp)
        have hb := next_below hB0 hB1
        have kb := next_below K1.out hb
        obtain ⟨y0, y1, y2, y3, y4, y5⟩ := (J1.next hb).at6
        clear hB1
      case refine_2 =>
        have a0 := hp
        generalize vals 0 = z0 at *
        subst a0
        go_wp2
        (first | exact ⟨rfl, _, rfl, rfl, Below.refl _ _, trivial⟩ | (refine ⟨rfl, _, ?_, rfl, Below.refl _ _, trivial⟩; simp only [Act.put, List.setIfInBounds_toArray, List.set_cons_zero, List.set_cons_succ, hp]))
      case refine_3 =>
        have a0 := hp
        generalize vals 1 = z1 at *
        subst a0
        go_wp2_with (go_at_call 44; refine (H1.out _ kb).mono ?_; rintro e w5 ⟨rfl, hb5⟩)
        exact ⟨rfl, _, rfl, rfl, hb5, trivial⟩
      case refine_5 =>
        have a0 := hp
        generalize vals 3 = z3 at *
        subst a0
        go_wp2
        (first | exact ⟨rfl, _, rfl, rfl, Below.refl _ _, trivial⟩ | (refine ⟨rfl, _, ?_, rfl, Below.refl _ _, trivial⟩; simp only [Act.put, List.setIfInBounds_toArray, List.set_cons_zero, List.set_cons_succ, hp]))
      case refine_6 =>
        have a0 : vals 4 = .agg #[.bool n2, .slice a2 k2 c2, .int .u8 t2] := by first | exact hp.1 | exact hp
        clear hp
        generalize vals 4 = z4 at *
        subst a0
        go_wp2_with (go_at_call 44; refine (H2.out _ kb).mono ?_; rintro e w5 ⟨rfl, hb5⟩)
        exact ⟨rfl, _, rfl, rfl, hb5, trivial⟩
      case refine_7 =>
        have a0 : vals 2 = .string M := by first | exact hp.1 | exact hp
        have a1 : vals 5 = .string N := by first | exact hp.2.1 | exact hp.2
        clear hp
        generalize vals 2 = z2 at *
        subst a0
        generalize vals 5 = z5 at *
        subst a1
        go_wp2_with (go_at_call 46; refine (H3.out _ (HG.out _ kb)).mono ?_; rintro e w5 ⟨rfl, hb5⟩)
        exact ⟨rfl, _, rfl, rfl, hb5, trivial⟩
      all_goals
        go_wp2
        (first | exact ⟨rfl, _, rfl, rfl, Below.refl _ _, trivial⟩ | (refine ⟨rfl, _, ?_, rfl, Below.refl _ _, trivial⟩; simp only [Act.put, List.setIfInBounds_toArray, List.set_cons_zero, List.set_cons_succ, hp]))
    · rintro vals w1 hB1 ⟨z0, z1, z2, z3, z4, z5, z6, _⟩ hne
      have kb := Lib.hid (next_below K1.out (next_below hB0 hB1))
      simp at z6
      generalize vals 6 = v6 at *
      subst z6
      clear hne z0 z1 z2 z3 z4 z5 hB1 hB0
      go_wp2
      go_ret
      exact ⟨rfl, HB.out.trans (kb.out.mono HB.out.size)⟩
end Go.Proofs.YtabdnjakmhnnfaaGreatDoor
