/- The contract of croupierref09.Draft.Args. -/
import Derived.Test.YtmhneibcbjgedaaGreatDoorR2a
import Derived.Test.YtmhneibcbjgedaaGreatDoorTAgg
set_option linter.unusedSimpArgs false
set_option linter.unusedVariables false
namespace Go.Proofs.YtmhneibcbjgedaaGreatDoor
open Go.RowKit
open Go.Lib (decDigits itoa nDigits)
open D4 (rt it)

/-- What the draft's arguments are. -/
structure ArgsOf (n k p dd gr r0 kk : Int) (P D : Rat) (g : Int) : Prop where
  n0 : 0 ≤ r0
  n7 : r0 ≤ 7
  k0 : 0 ≤ kk
  kn : kk ≤ r0
  p0 : 0 ≤ P
  p1 : P ≤ 1
  pf : fitsD 2 P
  d0 : 0 < D
  d1 : D < 1
  df : fitsD 2 D
  g1 : 1 ≤ g
  g10 : g ≤ 10

theorem anytext : (Region.Mode.any == Region.Mode.text) = false := rfl
theorem anygc : (Region.Mode.any == Region.Mode.gc) = false := rfl

set_option maxHeartbeats 16000000 in
set_option maxRecDepth 100000 in
theorem args_walk {w : World} (n k p dd gr r0 d1 kk p1 p2 g2 : Int) (RP RD : ByteArray) (n0 : 0 ≤ n) (n1 : n ≤ 255) (k0 : 0 ≤ k) (k1 : k ≤ 255) (q0 : 0 ≤ p) (q1 : p ≤ 255) (e0 : 0 ≤ dd) (e1 : dd ≤ 255) (h0 : 0 ≤ gr) (h1 : gr ≤ 255)
    (er : n.tmod 8 = r0) (r00 : 0 ≤ r0) (r07 : r0 ≤ 7) (ed : dd.tmod 12 = d1) (d10 : 0 ≤ d1) (d11 : d1 ≤ 11) 
    (ek : k.tmod (r0 + 1) = kk) (kk0 : 0 ≤ kk) (kk1 : kk ≤ r0) (ep1 : p.tmod (1 + d1 + 1) = p1) (p10 : 0 ≤ p1) (p11 : p1 ≤ 1 + d1) (ep2 : p.tmod (1 + d1) = p2) (p20 : 0 ≤ p2) (p21 : p2 < 1 + d1) (eg : gr.tmod 10 = g2) (g20 : 0 ≤ g2) (g21 : g2 ≤ 9)
    (hP : Hid (∀ V : World, Below (w.heap.size + 1) (w.alloc (.cells #[.int .u8 n, .int .u8 k, .int .u8 p, .int .u8 dd, .int .u8 gr] 36)) V → Calls Tryz.prog 54 #[.int .i64 p1, .int .i64 (1 + d1)] V (RetV V (.string RP))))
    (hD : Hid (∀ V : World, Below (w.heap.size + 1) (w.alloc (.cells #[.int .u8 n, .int .u8 k, .int .u8 p, .int .u8 dd, .int .u8 gr] 36)) V → Calls Tryz.prog 54 #[.int .i64 (1 + p2), .int .i64 (1 + d1 + 1)] V (RetV V (.string RD)))) :
    Calls Tryz.prog 19 #[.agg #[.int .u8 n, .int .u8 k, .int .u8 p, .int .u8 dd, .int .u8 gr]] w (RetV w (.tuple #[.int .i64 r0, .int .i64 kk, .string RP, .string RD, .int .i64 (1 + g2)])) := by
  obtain ⟨W, hW, hB, hsz, j⟩ := entA w 36 #[.int .u8 n, .int .u8 k, .int .u8 p, .int .u8 dd, .int .u8 gr]
  rw [← hW, ← hsz] at hP hD
  have HW := Lib.hid hW
  have HSZ := Lib.hid hsz
  have HB := Lib.hid hB
  have c0 := j.cell 0
  have c3 := j.cell 3
  simp at c0 c3
  have hB0 : Below W.heap.size W W.drew := (Below.refl _ _).drew
  clear hW hsz hB
  go_enter Tryz.func19, Tryz.ntmps19
  go_upto_region 1 with fail
  rw [← HW.out]
  go_upto_region 3 with fail
  refine wp_region_list 33 (by kernel_rfl) (by kernel_rfl) [] [fun v _ => v = .int .i64 (r0), fun v _ => v = .pointer (some ⟨w.heap.size, 1, none⟩), fun v _ => v = .int .u8 (k), fun v _ => v = .int .i64 (k), fun v _ => v = .int .i64 (r0), fun v _ => v = .int .i64 (r0 + 1), fun v _ => v = .int .i64 (kk), fun v _ => v = .pointer (some ⟨w.heap.size, 2, none⟩), fun v _ => v = .int .u8 (p), fun v _ => v = .int .i64 (p), fun v _ => v = .int .i64 (1 + d1), fun v _ => v = .int .i64 (1 + d1 + 1), fun v _ => v = .int .i64 (p1), fun v _ => v = .int .i64 (1 + d1), fun v _ => v = .string RP, fun v _ => v = .pointer (some ⟨w.heap.size, 2, none⟩), fun v _ => v = .int .u8 (p), fun v _ => v = .int .i64 (p), fun v _ => v = .int .i64 (1 + d1), fun v _ => v = .int .i64 (p2), fun v _ => v = .int .i64 (1 + p2), fun v _ => v = .int .i64 (1 + d1), fun v _ => v = .int .i64 (1 + d1 + 1), fun v _ => v = .string RD, fun v _ => v = .pointer (some ⟨w.heap.size, 4, none⟩), fun v _ => v = .int .u8 (gr), fun v _ => v = .int .u8 (g2), fun v _ => v = .int .i64 (g2), fun v _ => v = .int .i64 (1 + g2), fun v _ => v = .int .i64 (r0), fun v _ => v = .int .i64 (kk), fun v _ => v = .string RP, fun v _ => v = .string RD] (by simp only [List.take_succ_cons, List.take_zero]; rfl) (by simp only [List.drop_succ_cons, List.drop_zero]; rfl) (fun vals => by simp only [fam, Act.put, List.setIfInBounds_toArray, List.set_cons_zero, List.set_cons_succ, if_true]; rfl) (by repeat' (first | exact Stab.eq _ _ | exact Stab.wh _ _ | exact Stab.nm _ _ | exact Stab.new _ _ | exact Stab.newn _ _ | exact Stab.tw _ _ _ | exact Stab.lm _ _ _ | exact trivial | apply And.intro)) trivial ?_ ?_
  · refine ⟨?_, ?_, ?_, ?_, ?_, ?_, ?_, ?_, ?_, ?_, ?_, ?_, ?_, ?_, ?_, ?_, ?_, ?_, ?_, ?_, ?_, ?_, ?_, ?_, ?_, ?_, ?_, ?_, ?_, ?_, ?_, ?_, ?_, trivial⟩
    all_goals
      intro vals w1 hB hp
      dsimp only
      (try simp [preOk, Region.binds, anygc, anytext] at hp)
      have hb := next_below hB0 hB
      have hbl := j.next hb
      have c1 := hbl.cell 1
      have c2 := hbl.cell 2
      have c4 := hbl.cell 4
      simp at c1 c2 c4
      clear hB
    case refine_3 =>
      have a0 := hp
      generalize vals 1 = x1 at *
      subst a0
      go_wp2
      (first | exact ⟨rfl, _, rfl, rfl, Below.refl _ _, trivial⟩ | (refine ⟨rfl, _, ?_, rfl, Below.refl _ _, trivial⟩; simp only [Act.put, List.setIfInBounds_toArray, List.set_cons_zero, List.set_cons_succ, hp]))
    case refine_4 =>
      have a0 := hp
      generalize vals 2 = x2 at *
      subst a0
      go_wp2
      (first | exact ⟨rfl, _, rfl, rfl, Below.refl _ _, trivial⟩ | (refine ⟨rfl, _, ?_, rfl, Below.refl _ _, trivial⟩; simp only [Act.put, List.setIfInBounds_toArray, List.set_cons_zero, List.set_cons_succ, hp]))
    case refine_6 =>
      have a0 := hp
      generalize vals 4 = x4 at *
      subst a0
      go_wp2
      (first | exact ⟨rfl, _, rfl, rfl, Below.refl _ _, trivial⟩ | (refine ⟨rfl, _, ?_, rfl, Below.refl _ _, trivial⟩; simp only [Act.put, List.setIfInBounds_toArray, List.set_cons_zero, List.set_cons_succ, hp]))
    case refine_7 =>
      obtain ⟨a0, a1⟩ := hp
      generalize vals 3 = x3 at *
      subst a0
      generalize vals 5 = x5 at *
      subst a1
      go_wp2
      (first | exact ⟨rfl, _, rfl, rfl, Below.refl _ _, trivial⟩ | (refine ⟨rfl, _, ?_, rfl, Below.refl _ _, trivial⟩; simp only [Act.put, List.setIfInBounds_toArray, List.set_cons_zero, List.set_cons_succ, hp]))
    case refine_9 =>
      have a0 := hp
      generalize vals 7 = x7 at *
      subst a0
      go_wp2
      (first | exact ⟨rfl, _, rfl, rfl, Below.refl _ _, trivial⟩ | (refine ⟨rfl, _, ?_, rfl, Below.refl _ _, trivial⟩; simp only [Act.put, List.setIfInBounds_toArray, List.set_cons_zero, List.set_cons_succ, hp]))
    case refine_10 =>
      have a0 := hp
      generalize vals 8 = x8 at *
      subst a0
      go_wp2
      (first | exact ⟨rfl, _, rfl, rfl, Below.refl _ _, trivial⟩ | (refine ⟨rfl, _, ?_, rfl, Below.refl _ _, trivial⟩; simp only [Act.put, List.setIfInBounds_toArray, List.set_cons_zero, List.set_cons_succ, hp]))
    case refine_12 =>
      have a0 := hp
      generalize vals 10 = x10 at *
      subst a0
      go_wp2
      (first | exact ⟨rfl, _, rfl, rfl, Below.refl _ _, trivial⟩ | (refine ⟨rfl, _, ?_, rfl, Below.refl _ _, trivial⟩; simp only [Act.put, List.setIfInBounds_toArray, List.set_cons_zero, List.set_cons_succ, hp]))
    case refine_13 =>
      obtain ⟨a0, a1⟩ := hp
      generalize vals 9 = x9 at *
      subst a0
      generalize vals 11 = x11 at *
      subst a1
      go_wp2
      (first | exact ⟨rfl, _, rfl, rfl, Below.refl _ _, trivial⟩ | (refine ⟨rfl, _, ?_, rfl, Below.refl _ _, trivial⟩; simp only [Act.put, List.setIfInBounds_toArray, List.set_cons_zero, List.set_cons_succ, hp]))
    case refine_15 =>
      obtain ⟨a0, a1⟩ := hp
      generalize vals 12 = x12 at *
      subst a0
      generalize vals 13 = x13 at *
      subst a1
      go_wp2_with ((go_at_call 54; refine (hP.out _ hb).mono ?_; rintro e w2 ⟨rfl, hb2⟩))
      exact ⟨rfl, _, rfl, rfl, hb2, trivial⟩
    case refine_17 =>
      have a0 := hp
      generalize vals 15 = x15 at *
      subst a0
      go_wp2
      (first | exact ⟨rfl, _, rfl, rfl, Below.refl _ _, trivial⟩ | (refine ⟨rfl, _, ?_, rfl, Below.refl _ _, trivial⟩; simp only [Act.put, List.setIfInBounds_toArray, List.set_cons_zero, List.set_cons_succ, hp]))
    case refine_18 =>
      have a0 := hp
      generalize vals 16 = x16 at *
      subst a0
      go_wp2
      (first | exact ⟨rfl, _, rfl, rfl, Below.refl _ _, trivial⟩ | (refine ⟨rfl, _, ?_, rfl, Below.refl _ _, trivial⟩; simp only [Act.put, List.setIfInBounds_toArray, List.set_cons_zero, List.set_cons_succ, hp]))
    case refine_20 =>
      obtain ⟨a0, a1⟩ := hp
      generalize vals 17 = x17 at *
      subst a0
      generalize vals 18 = x18 at *
      subst a1
      go_wp2
      (first | exact ⟨rfl, _, rfl, rfl, Below.refl _ _, trivial⟩ | (refine ⟨rfl, _, ?_, rfl, Below.refl _ _, trivial⟩; simp only [Act.put, List.setIfInBounds_toArray, List.set_cons_zero, List.set_cons_succ, hp]))
    case refine_21 =>
      have a0 := hp
      generalize vals 19 = x19 at *
      subst a0
      go_wp2
      (first | exact ⟨rfl, _, rfl, rfl, Below.refl _ _, trivial⟩ | (refine ⟨rfl, _, ?_, rfl, Below.refl _ _, trivial⟩; simp only [Act.put, List.setIfInBounds_toArray, List.set_cons_zero, List.set_cons_succ, hp]))
    case refine_23 =>
      have a0 := hp
      generalize vals 21 = x21 at *
      subst a0
      go_wp2
      (first | exact ⟨rfl, _, rfl, rfl, Below.refl _ _, trivial⟩ | (refine ⟨rfl, _, ?_, rfl, Below.refl _ _, trivial⟩; simp only [Act.put, List.setIfInBounds_toArray, List.set_cons_zero, List.set_cons_succ, hp]))
    case refine_24 =>
      obtain ⟨a0, a1, a2⟩ := hp
      generalize vals 20 = x20 at *
      subst a0
      generalize vals 22 = x22 at *
      subst a1
      generalize vals 14 = x14 at *
      subst a2
      go_wp2_with ((go_at_call 54; refine (hD.out _ hb).mono ?_; rintro e w2 ⟨rfl, hb2⟩))
      exact ⟨rfl, _, rfl, rfl, hb2, trivial⟩
    case refine_26 =>
      have a0 := hp
      generalize vals 24 = x24 at *
      subst a0
      go_wp2
      (first | exact ⟨rfl, _, rfl, rfl, Below.refl _ _, trivial⟩ | (refine ⟨rfl, _, ?_, rfl, Below.refl _ _, trivial⟩; simp only [Act.put, List.setIfInBounds_toArray, List.set_cons_zero, List.set_cons_succ, hp]))
    case refine_27 =>
      have a0 := hp
      generalize vals 25 = x25 at *
      subst a0
      go_wp2
      (first | exact ⟨rfl, _, rfl, rfl, Below.refl _ _, trivial⟩ | (refine ⟨rfl, _, ?_, rfl, Below.refl _ _, trivial⟩; simp only [Act.put, List.setIfInBounds_toArray, List.set_cons_zero, List.set_cons_succ, hp]))
    case refine_28 =>
      have a0 := hp
      generalize vals 26 = x26 at *
      subst a0
      go_wp2
      (first | exact ⟨rfl, _, rfl, rfl, Below.refl _ _, trivial⟩ | (refine ⟨rfl, _, ?_, rfl, Below.refl _ _, trivial⟩; simp only [Act.put, List.setIfInBounds_toArray, List.set_cons_zero, List.set_cons_succ, hp]))
    case refine_29 =>
      have a0 := hp
      generalize vals 27 = x27 at *
      subst a0
      go_wp2
      (first | exact ⟨rfl, _, rfl, rfl, Below.refl _ _, trivial⟩ | (refine ⟨rfl, _, ?_, rfl, Below.refl _ _, trivial⟩; simp only [Act.put, List.setIfInBounds_toArray, List.set_cons_zero, List.set_cons_succ, hp]))
    case refine_30 =>
      have a0 := hp.1
      clear hp
      generalize vals 0 = x0 at *
      subst a0
      go_wp2
      (first | exact ⟨rfl, _, rfl, rfl, Below.refl _ _, trivial⟩ | (refine ⟨rfl, _, ?_, rfl, Below.refl _ _, trivial⟩; simp only [Act.put, List.setIfInBounds_toArray, List.set_cons_zero, List.set_cons_succ, hp]))
    case refine_31 =>
      have a0 := hp.1
      clear hp
      generalize vals 6 = x6 at *
      subst a0
      go_wp2
      (first | exact ⟨rfl, _, rfl, rfl, Below.refl _ _, trivial⟩ | (refine ⟨rfl, _, ?_, rfl, Below.refl _ _, trivial⟩; simp only [Act.put, List.setIfInBounds_toArray, List.set_cons_zero, List.set_cons_succ, hp]))
    case refine_32 =>
      have a0 := hp.1
      clear hp
      generalize vals 14 = x14 at *
      subst a0
      go_wp2
      (first | exact ⟨rfl, _, rfl, rfl, Below.refl _ _, trivial⟩ | (refine ⟨rfl, _, ?_, rfl, Below.refl _ _, trivial⟩; simp only [Act.put, List.setIfInBounds_toArray, List.set_cons_zero, List.set_cons_succ, hp]))
    case refine_33 =>
      have a0 := hp.1
      clear hp
      generalize vals 23 = x23 at *
      subst a0
      go_wp2
      (first | exact ⟨rfl, _, rfl, rfl, Below.refl _ _, trivial⟩ | (refine ⟨rfl, _, ?_, rfl, Below.refl _ _, trivial⟩; simp only [Act.put, List.setIfInBounds_toArray, List.set_cons_zero, List.set_cons_succ, hp]))
    all_goals
      go_wp2
      (first | exact ⟨rfl, _, rfl, rfl, Below.refl _ _, trivial⟩ | (refine ⟨rfl, _, ?_, rfl, Below.refl _ _, trivial⟩; simp only [Act.put, List.setIfInBounds_toArray, List.set_cons_zero, List.set_cons_succ, hp]))
  · rintro vals w1 hB ⟨z0, z1, z2, z3, z4, z5, z6, z7, z8, z9, z10, z11, z12, z13, z14, z15, z16, z17, z18, z19, z20, z21, z22, z23, z24, z25, z26, z27, z28, z29, z30, z31, z32, _⟩ hne
    have hb := next_below hB0 hB
    simp at z28 z29 z30 z31 z32
    clear hB hne c0 c3
    generalize vals 28 = x28 at *
    subst z28
    generalize vals 29 = x29 at *
    subst z29
    generalize vals 30 = x30 at *
    subst z30
    generalize vals 31 = x31 at *
    subst z31
    generalize vals 32 = x32 at *
    subst z32
    clear z0 z1 z2 z3 z4 z5 z6 z7 z8 z9 z10 z11 z12 z13 z14 z15 z16 z17 z18 z19 z20 z21 z22 z23 z24 z25 z26 z27
    go_wp2
    exact bodyPost_ret (v := .tuple #[.int .i64 r0, .int .i64 kk, .string RP, .string RD, .int .i64 (1 + g2)]) (by simp [results, Tryz.results19, go_sem]) rfl ⟨rfl, HB.out.trans (hb.mono HB.out.size)⟩
end Go.Proofs.YtmhneibcbjgedaaGreatDoor
