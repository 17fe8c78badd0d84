/- wakes answers true. -/
import Derived.Test.YtpmlmibceiolpaaGreatDoorGLaw
set_option linter.unusedSimpArgs false
set_option linter.unusedVariables false
namespace Go.Proofs.YtpmlmibceiolpaaGreatDoor
open Go.RowKit

def TD : List (List UInt8) := [[48], [49], [48], [49]]
def TA : List (List UInt8) := [[48], [48], [48], [49]]
def TB : List (List UInt8) := [[48], [50], [48], [50]]
def TC : List (List UInt8) := [[49], [49], [49], [49]]
def LD : List Nd := [(2, 0, 0, [48]), (2, 0, 0, [49]), (0, 0, 1, [])]
def LA : List Nd := [(2, 0, 0, [48]), (2, 0, 0, [49]), (1, 0, 1, []), (0, 0, 2, [])]
def LB : List Nd := [(2, 0, 0, [48]), (2, 0, 0, [50]), (0, 0, 1, [])]
def LC : List Nd := [(2, 0, 0, [49])]
theorem wk_d : ofR 2 TD = (2, LD, 0) := Prod.ext (by decide +kernel) (Prod.ext (by decide +kernel) (by decide +kernel))
theorem wk_a : ofR 2 TA = (2, LA, 0) := Prod.ext (by decide +kernel) (Prod.ext (by decide +kernel) (by decide +kernel))
theorem wk_b : applyR 1 2 LD 2 LD = (2, LB, 0) := Prod.ext (by decide +kernel) (Prod.ext (by decide +kernel) (by decide +kernel))
theorem wk_c : fixR 0 1 2 LD = (2, LC, 0) := Prod.ext (by decide +kernel) (Prod.ext (by decide +kernel) (by decide +kernel))
theorem wk_x : sumR 1 2 LD = (2, LB, 0) := Prod.ext (by decide +kernel) (Prod.ext (by decide +kernel) (by decide +kernel))
theorem wk_e : evalR 2 LD 1 = ([49], 0) := by decide +kernel
theorem wk_vd : vldN 2 LD = true := by decide +kernel
theorem wk_vb : vldN 2 LB = true := by decide +kernel
theorem wk_vc : vldN 2 LC = true := by decide +kernel
theorem wk_tb : tabN (evD 2 LB) 2 = TB := by decide +kernel
theorem wk_tc : tabN (evD 2 LC) 2 = TC := by decide +kernel

/-- What an operation on diagrams returns when all is well. -/
def RetOk (W : World) (m : Int) (n : Nat) (l : List Nd) (e : Ending) (W' : World) : Prop :=
  ∃ a c, e = .returned (.tuple #[.agg #[.int .i64 m, .slice a n c], .int .i64 0]) ∧ Nds W' (.slice a n c) l ∧ Below W.heap.size W W'
theorem dgIn_of {w : World} {m : Int} {a : Option Addr} {c n : Nat} {l : List Nd} (h : Nds w (.slice a n c) l) (h1 : l.length ≤ 1000000) (h2 : ∀ n ∈ l, n.2.2.2.length ≤ 268435000) : DgIn w (.agg #[.int .i64 m, .slice a n c]) m l := ⟨⟨_, rfl, h⟩, h1, h2⟩
theorem wk_of {W : World} {v : Value} (hv : Qs W v TD) (hg : Good W) : Calls Tryz.prog 12 #[.int .i64 2, v] W (RetOk W 2 3 LD) := by
  have h := dgof_any (m := 2) hv (by decide) (by decide) hg
  rw [wk_d] at h
  exact h
theorem wk_of2 {W : World} {v : Value} (hv : Qs W v TA) (hg : Good W) : Calls Tryz.prog 12 #[.int .i64 2, v] W (RetOk W 2 4 LA) := by
  have h := dgof_any (m := 2) hv (by decide) (by decide) hg
  rw [wk_a] at h
  exact h
theorem wk_ap {W : World} {v v' : Value} (h1 : DgIn W v 2 LD) (h2 : DgIn W v' 2 LD) (hg : Good W) : Calls Tryz.prog 18 #[.int .i64 1, v, v'] W (RetOk W 2 3 LB) := by
  have h := apply_any (op := 1) h1 h2 hg
  rw [wk_b] at h
  exact h
theorem wk_fx {W : World} {v : Value} (h1 : DgIn W v 2 LD) (hg : Good W) : Calls Tryz.prog 20 #[v, .int .i64 0, .int .i64 1] W (RetOk W 2 1 LC) := by
  have h := fix_any (v := 0) (b := 1) h1 hg
  rw [wk_c] at h
  exact h
theorem wk_sm {W : World} {v : Value} (h1 : DgIn W v 2 LD) (hg : Good W) : Calls Tryz.prog 19 #[v, .int .i64 1] W (RetOk W 2 3 LB) := by
  have h := sum_any (v := 1) h1 hg
  rw [wk_x] at h
  exact h
theorem wk_ev {W : World} {v : Value} (h1 : DgIn W v 2 LD) (hg : Good W) : Calls Tryz.prog 24 #[v, .int .u64 1] W (RetV W (.tuple #[.string ⟨#[49]⟩, .int .i64 0])) := by
  have h := eval_any (x := 1) h1 (by omega) hg
  simp only [wk_e] at h
  exact h
theorem wk_ck {W : World} {v : Value} (h1 : DgIn W v 2 LD) (hg : Good W) : Calls Tryz.prog 14 #[v] W (RetV W (.int .i64 0)) := by
  have h := dgcheck_any h1 hg
  rw [wk_vd] at h
  exact h
theorem wk_lb {W : World} {v v' : Value} (h1 : DgIn W v 2 LB) (hq : Qs W v' TB) (hg : Good W) : Calls Tryz.prog 13 #[v, .int .i64 0, v'] W (RetV W (.bool true)) := by
  refine lists_true h1 wk_vb ?_ hg
  rw [show ((2 : Int).toNat) = 2 from rfl, wk_tb]; exact hq
theorem wk_lc {W : World} {v v' : Value} (h1 : DgIn W v 2 LC) (hq : Qs W v' TC) (hg : Good W) : Calls Tryz.prog 13 #[v, .int .i64 0, v'] W (RetV W (.bool true)) := by
  refine lists_true h1 wk_vc ?_ hg
  rw [show ((2 : Int).toNat) = 2 from rfl, wk_tc]; exact hq

set_option maxHeartbeats 16000000 in
set_option maxRecDepth 100000 in
theorem wakes_any {W : World} (hg : Good W) : Calls Tryz.prog 10 #[] W (RetV W (.bool true)) := by
  have HG := Lib.hid (fun (V : World) (hV : Below W.heap.size W V) => hg.below hV)
  have K := Lib.hid (Below.refl W.heap.size W)
  clear hg
  obtain ⟨Y1, hY1, hB, hs, j⟩ := entA W 40 #[.string ⟨#[48]⟩, .string ⟨#[49]⟩, .string ⟨#[48]⟩, .string ⟨#[49]⟩]
  have Q := Lib.hid (show Qs Y1 (.slice (some ⟨W.heap.size, 0, none⟩) 4 4) TD from Qs.lit TD j rfl (by decide))
  have HY1 := Lib.hid hY1
  replace K := Lib.hid (next_below K.out hB)
  clear hY1 hB hs j
  go_enter Tryz.func10, Tryz.ntmps10
  go_wp2_with fail
  rw [← HY1.out]
  clear HY1
  refine (wk_of Q.out (HG.out _ K.out)).mono ?_
  rintro e w1 ⟨a1, c1, rfl, nn, hb⟩
  replace K := Lib.hid (next_below K.out hb)
  have N1 := Lib.hid nn
  clear nn hb Q
  obtain ⟨X1, hX, hB, hs, j⟩ := entA w1 31 #[.int .i64 2, .slice a1 3 c1]
  replace K := Lib.hid (next_below K.out hB)
  replace N1 := Lib.hid (N1.out.below hB)
  have J1 := Lib.hid j
  have HX := Lib.hid hX
  clear hX hB hs j
  go_upto_region 2 with fail
  rw [← HX.out]
  clear HX
  generalize w1.heap.size = g1 at *
  obtain ⟨Y2, hY2, hB, hs, j⟩ := entA X1 40 #[.string ⟨#[48]⟩, .string ⟨#[48]⟩, .string ⟨#[48]⟩, .string ⟨#[49]⟩]
  have Q := Lib.hid (show Qs Y2 (.slice (some ⟨X1.heap.size, 0, none⟩) 4 4) TA from Qs.lit TA j rfl (by decide))
  have HY2 := Lib.hid hY2
  replace K := Lib.hid (next_below K.out hB)
  replace N1 := Lib.hid (N1.out.below hB)
  replace J1 := Lib.hid (J1.out.next hB)
  clear hY2 hB hs j
  go_wp2_with fail
  rw [← HY2.out]
  clear HY2
  refine (wk_of2 Q.out (HG.out _ K.out)).mono ?_
  rintro e w2 ⟨a2, c2, rfl, nn, hb⟩
  replace K := Lib.hid (next_below K.out hb)
  replace N1 := Lib.hid (N1.out.below hb)
  replace J1 := Lib.hid (J1.out.next hb)
  have N2 := Lib.hid nn
  clear nn hb Q
  obtain ⟨X2, hX, hB, hs, j⟩ := entA w2 31 #[.int .i64 2, .slice a2 4 c2]
  replace K := Lib.hid (next_below K.out hB)
  replace N1 := Lib.hid (N1.out.below hB)
  replace J1 := Lib.hid (J1.out.next hB)
  replace N2 := Lib.hid (N2.out.below hB)
  have J2 := Lib.hid j
  have HX := Lib.hid hX
  clear hX hB hs j
  go_upto_region 3 with fail
  rw [← HX.out]
  clear HX
  generalize w2.heap.size = g2 at *
  have d0 : X2.cell? ⟨g1, 0, none⟩ = some (.int .i64 2) := J1.out.cell 0
  have d1 : X2.cell? ⟨g1, 1, none⟩ = some (.slice a1 3 c1) := J1.out.cell 1
  go_wp2_with fail
  clear d0 d1
  refine (wk_ap (dgIn_of N1.out (by decide) (by decide)) (dgIn_of N1.out (by decide) (by decide)) (HG.out _ K.out)).mono ?_
  rintro e w3 ⟨a3, c3, rfl, nn, hb⟩
  replace K := Lib.hid (next_below K.out hb)
  replace N1 := Lib.hid (N1.out.below hb)
  replace J1 := Lib.hid (J1.out.next hb)
  replace N2 := Lib.hid (N2.out.below hb)
  replace J2 := Lib.hid (J2.out.next hb)
  have N3 := Lib.hid nn
  clear nn hb
  obtain ⟨X3, hX, hB, hs, j⟩ := entA w3 31 #[.int .i64 2, .slice a3 3 c3]
  replace K := Lib.hid (next_below K.out hB)
  replace N1 := Lib.hid (N1.out.below hB)
  replace J1 := Lib.hid (J1.out.next hB)
  replace N2 := Lib.hid (N2.out.below hB)
  replace J2 := Lib.hid (J2.out.next hB)
  replace N3 := Lib.hid (N3.out.below hB)
  have J3 := Lib.hid j
  have HX := Lib.hid hX
  clear hX hB hs j
  go_upto_region 4 with fail
  rw [← HX.out]
  clear HX
  generalize w3.heap.size = g3 at *
  have d0 : X3.cell? ⟨g1, 0, none⟩ = some (.int .i64 2) := J1.out.cell 0
  have d1 : X3.cell? ⟨g1, 1, none⟩ = some (.slice a1 3 c1) := J1.out.cell 1
  go_wp2_with fail
  clear d0 d1
  refine (wk_fx (dgIn_of N1.out (by decide) (by decide)) (HG.out _ K.out)).mono ?_
  rintro e w4 ⟨a4, c4, rfl, nn, hb⟩
  replace K := Lib.hid (next_below K.out hb)
  replace N1 := Lib.hid (N1.out.below hb)
  replace J1 := Lib.hid (J1.out.next hb)
  replace N2 := Lib.hid (N2.out.below hb)
  replace J2 := Lib.hid (J2.out.next hb)
  replace N3 := Lib.hid (N3.out.below hb)
  replace J3 := Lib.hid (J3.out.next hb)
  have N4 := Lib.hid nn
  clear nn hb
  obtain ⟨X4, hX, hB, hs, j⟩ := entA w4 31 #[.int .i64 2, .slice a4 1 c4]
  replace K := Lib.hid (next_below K.out hB)
  replace N1 := Lib.hid (N1.out.below hB)
  replace J1 := Lib.hid (J1.out.next hB)
  replace N2 := Lib.hid (N2.out.below hB)
  replace J2 := Lib.hid (J2.out.next hB)
  replace N3 := Lib.hid (N3.out.below hB)
  replace J3 := Lib.hid (J3.out.next hB)
  replace N4 := Lib.hid (N4.out.below hB)
  have J4 := Lib.hid j
  have HX := Lib.hid hX
  clear hX hB hs j
  go_upto_region 5 with fail
  rw [← HX.out]
  clear HX
  generalize w4.heap.size = g4 at *
  have d0 : X4.cell? ⟨g1, 0, none⟩ = some (.int .i64 2) := J1.out.cell 0
  have d1 : X4.cell? ⟨g1, 1, none⟩ = some (.slice a1 3 c1) := J1.out.cell 1
  go_wp2_with fail
  clear d0 d1
  refine (wk_sm (dgIn_of N1.out (by decide) (by decide)) (HG.out _ K.out)).mono ?_
  rintro e w5 ⟨a5, c5, rfl, nn, hb⟩
  replace K := Lib.hid (next_below K.out hb)
  replace N1 := Lib.hid (N1.out.below hb)
  replace J1 := Lib.hid (J1.out.next hb)
  replace N2 := Lib.hid (N2.out.below hb)
  replace J2 := Lib.hid (J2.out.next hb)
  replace N3 := Lib.hid (N3.out.below hb)
  replace J3 := Lib.hid (J3.out.next hb)
  replace N4 := Lib.hid (N4.out.below hb)
  replace J4 := Lib.hid (J4.out.next hb)
  have N5 := Lib.hid nn
  clear nn hb
  obtain ⟨X5, hX, hB, hs, j⟩ := entA w5 31 #[.int .i64 2, .slice a5 3 c5]
  replace K := Lib.hid (next_below K.out hB)
  replace N1 := Lib.hid (N1.out.below hB)
  replace J1 := Lib.hid (J1.out.next hB)
  replace N2 := Lib.hid (N2.out.below hB)
  replace J2 := Lib.hid (J2.out.next hB)
  replace N3 := Lib.hid (N3.out.below hB)
  replace J3 := Lib.hid (J3.out.next hB)
  replace N4 := Lib.hid (N4.out.below hB)
  replace J4 := Lib.hid (J4.out.next hB)
  replace N5 := Lib.hid (N5.out.below hB)
  have J5 := Lib.hid j
  have HX := Lib.hid hX
  clear hX hB hs j
  go_upto_region 6 with fail
  rw [← HX.out]
  clear HX
  generalize w5.heap.size = g5 at *
  have d0 : X5.cell? ⟨g1, 0, none⟩ = some (.int .i64 2) := J1.out.cell 0
  have d1 : X5.cell? ⟨g1, 1, none⟩ = some (.slice a1 3 c1) := J1.out.cell 1
  go_wp2_with fail
  clear d0 d1
  refine (wk_ev (dgIn_of N1.out (by decide) (by decide)) (HG.out _ K.out)).mono ?_
  rintro e w6 ⟨rfl, hb⟩
  replace K := Lib.hid (next_below K.out hb)
  replace N1 := Lib.hid (N1.out.below hb)
  replace J1 := Lib.hid (J1.out.next hb)
  replace N2 := Lib.hid (N2.out.below hb)
  replace J2 := Lib.hid (J2.out.next hb)
  replace N3 := Lib.hid (N3.out.below hb)
  replace J3 := Lib.hid (J3.out.next hb)
  replace N4 := Lib.hid (N4.out.below hb)
  replace J4 := Lib.hid (J4.out.next hb)
  replace N5 := Lib.hid (N5.out.below hb)
  replace J5 := Lib.hid (J5.out.next hb)
  clear hb
  go_upto_region 7 with fail
  have hBd : Below w6.heap.size w6 w6.drew := (Below.refl _ _).drew
  refine wp_region_list 48 (by kernel_rfl) (by kernel_rfl) [] [fun xv _ => xv = .agg #[.int .i64 2, .slice a1 3 c1], fun xv _ => xv = .int .i64 0, fun xv _ => xv = .agg #[.int .i64 2, .int .i64 0, .int .i64 0, .string ⟨#[48]⟩], fun xv _ => xv = .agg #[.int .i64 2, .int .i64 0, .int .i64 0, .string ⟨#[49]⟩], fun xv _ => xv = .agg #[.int .i64 0, .int .i64 0, .int .i64 1, .string ⟨#[]⟩], fun xv w' => Nds w' xv LD, fun xv _ => xv = .bool true, fun xv _ => xv = .bool true, fun xv _ => xv = .agg #[.int .i64 2, .slice a2 4 c2], fun xv _ => xv = .int .i64 0, fun xv _ => xv = .agg #[.int .i64 2, .int .i64 0, .int .i64 0, .string ⟨#[48]⟩], fun xv _ => xv = .agg #[.int .i64 2, .int .i64 0, .int .i64 0, .string ⟨#[49]⟩], fun xv _ => xv = .agg #[.int .i64 1, .int .i64 0, .int .i64 1, .string ⟨#[]⟩], fun xv _ => xv = .agg #[.int .i64 0, .int .i64 0, .int .i64 2, .string ⟨#[]⟩], fun xv w' => Nds w' xv LA, fun xv _ => xv = .bool true, fun xv _ => xv = .bool true, fun xv _ => xv = .bool true, fun xv _ => xv = .agg #[.int .i64 2, .slice a3 3 c3], fun xv _ => xv = .int .i64 0, fun xv w' => Qs w' xv TB, fun xv _ => xv = .bool true, fun xv _ => xv = .bool true, fun xv _ => xv = .bool true, fun xv _ => xv = .agg #[.int .i64 2, .slice a4 1 c4], fun xv _ => xv = .int .i64 0, fun xv w' => Qs w' xv TC, fun xv _ => xv = .bool true, fun xv _ => xv = .bool true, fun xv _ => xv = .bool true, fun xv _ => xv = .agg #[.int .i64 2, .slice a5 3 c5], fun xv _ => xv = .int .i64 0, fun xv w' => Qs w' xv TB, fun xv _ => xv = .bool true, fun xv _ => xv = .bool true, fun xv _ => xv = .bool true, fun xv _ => xv = .string ⟨#[49]⟩, fun xv _ => xv = .bool true, fun xv _ => xv = .bool true, fun xv _ => xv = .bool true, fun xv _ => xv = .int .i64 0, fun xv _ => xv = .bool true, fun xv _ => xv = .bool true, fun xv _ => xv = .bool true, fun xv _ => xv = .agg #[.int .i64 2, .slice a1 3 c1], fun xv _ => xv = .int .i64 0, fun xv _ => xv = .bool true, fun xv _ => xv = .bool true] (by simp only [List.take_succ_cons, List.take_zero]; rfl) (by simp only [List.drop_succ_cons, List.drop_zero]; rfl) (fun vals => by simp only [fam, Act.put, List.setIfInBounds_toArray, List.set_cons_zero, List.set_cons_succ, if_true]; rfl) (by repeat' (first | exact Stab.eq _ _ | exact Stab.wh _ _ | exact Stab.nm _ _ | exact Stab.new _ _ | exact Stab.newn _ _ | exact Stab.tw _ _ _ | exact Stab.lm _ _ _ | exact Stab.onet _ _ _ | exact Stab.pl _ _ _ | exact Stab.dg _ _ _ | exact Stab.nds _ _ | exact Stab.qs _ _ | exact trivial | apply And.intro)) trivial ?_ ?_
  · refine ⟨?_, ?_, ?_, ?_, ?_, ?_, ?_, ?_, ?_, ?_, ?_, ?_, ?_, ?_, ?_, ?_, ?_, ?_, ?_, ?_, ?_, ?_, ?_, ?_, ?_, ?_, ?_, ?_, ?_, ?_, ?_, ?_, ?_, ?_, ?_, ?_, ?_, ?_, ?_, ?_, ?_, ?_, ?_, ?_, ?_, ?_, ?_, ?_, trivial⟩
    all_goals
      intro vals wy hB1 hp
      dsimp only
      (try simp [preOk, Region.binds, r_anygc, r_anytext] at hp)
      have hb := next_below hBd hB1
      have KU := Lib.hid (next_below K.out hb)
      (try simp only [hp])
      clear hB1
    case refine_1 =>
      have y0 : wy.cell? ⟨g1, 0, none⟩ = some (.int .i64 2) := (J1.out.next hb).cell 0
      have y1 : wy.cell? ⟨g1, 1, none⟩ = some (.slice a1 3 c1) := (J1.out.next hb).cell 1
      go_wp2
      (first | exact ⟨rfl, _, rfl, rfl, Below.refl _ _, trivial⟩ | (refine ⟨rfl, _, ?_, rfl, Below.refl _ _, trivial⟩; simp only [Act.put, List.setIfInBounds_toArray, List.set_cons_zero, List.set_cons_succ, Nat.zero_add, Nat.reduceAdd, hp]))
    case refine_3 =>
      go_wp2_with fail
      refine (leaf_any _ _).mono ?_
      rintro e w' ⟨rfl, hb2⟩
      go_wp2
      (first | exact ⟨rfl, _, rfl, rfl, hb2, trivial⟩ | (refine ⟨rfl, _, ?_, rfl, hb2, trivial⟩; simp only [Act.put, List.setIfInBounds_toArray, List.set_cons_zero, List.set_cons_succ, Nat.zero_add, Nat.reduceAdd, hp]))
    case refine_4 =>
      go_wp2_with fail
      refine (leaf_any _ _).mono ?_
      rintro e w' ⟨rfl, hb2⟩
      go_wp2
      (first | exact ⟨rfl, _, rfl, rfl, hb2, trivial⟩ | (refine ⟨rfl, _, ?_, rfl, hb2, trivial⟩; simp only [Act.put, List.setIfInBounds_toArray, List.set_cons_zero, List.set_cons_succ, Nat.zero_add, Nat.reduceAdd, hp]))
    case refine_5 =>
      go_wp2_with fail
      refine (inner_any _ _ _).mono ?_
      rintro e w' ⟨rfl, hb2⟩
      go_wp2
      (first | exact ⟨rfl, _, rfl, rfl, hb2, trivial⟩ | (refine ⟨rfl, _, ?_, rfl, hb2, trivial⟩; simp only [Act.put, List.setIfInBounds_toArray, List.set_cons_zero, List.set_cons_succ, Nat.zero_add, Nat.reduceAdd, hp]))
    case refine_6 =>
      go_wp2
      (first | exact ⟨rfl, _, rfl, Nds.lit LD (Blk.new _ _ _) rfl (by decide) (by decide), (Below.refl _ _).alloc (Nat.le_refl _) _, trivial⟩ | (refine ⟨rfl, _, ?_, Nds.lit LD (Blk.new _ _ _) rfl (by decide) (by decide), (Below.refl _ _).alloc (Nat.le_refl _) _, trivial⟩; simp only [Act.put, List.setIfInBounds_toArray, List.set_cons_zero, List.set_cons_succ, Nat.zero_add, Nat.reduceAdd, hp]))
    case refine_7 =>
      have hn := hp.2.2.1
      go_wp2_with fail
      refine (is_true ⟨_, rfl, N1.out.below hb⟩ hn (by decide)).mono ?_
      rintro e w' ⟨rfl, hb2⟩
      go_wp2
      (first | exact ⟨rfl, _, rfl, rfl, hb2, trivial⟩ | (refine ⟨rfl, _, ?_, rfl, hb2, trivial⟩; simp only [Act.put, List.setIfInBounds_toArray, List.set_cons_zero, List.set_cons_succ, Nat.zero_add, Nat.reduceAdd, hp]))
    case refine_9 =>
      have y0 : wy.cell? ⟨g2, 0, none⟩ = some (.int .i64 2) := (J2.out.next hb).cell 0
      have y1 : wy.cell? ⟨g2, 1, none⟩ = some (.slice a2 4 c2) := (J2.out.next hb).cell 1
      go_wp2
      (first | exact ⟨rfl, _, rfl, rfl, Below.refl _ _, trivial⟩ | (refine ⟨rfl, _, ?_, rfl, Below.refl _ _, trivial⟩; simp only [Act.put, List.setIfInBounds_toArray, List.set_cons_zero, List.set_cons_succ, Nat.zero_add, Nat.reduceAdd, hp]))
    case refine_11 =>
      go_wp2_with fail
      refine (leaf_any _ _).mono ?_
      rintro e w' ⟨rfl, hb2⟩
      go_wp2
      (first | exact ⟨rfl, _, rfl, rfl, hb2, trivial⟩ | (refine ⟨rfl, _, ?_, rfl, hb2, trivial⟩; simp only [Act.put, List.setIfInBounds_toArray, List.set_cons_zero, List.set_cons_succ, Nat.zero_add, Nat.reduceAdd, hp]))
    case refine_12 =>
      go_wp2_with fail
      refine (leaf_any _ _).mono ?_
      rintro e w' ⟨rfl, hb2⟩
      go_wp2
      (first | exact ⟨rfl, _, rfl, rfl, hb2, trivial⟩ | (refine ⟨rfl, _, ?_, rfl, hb2, trivial⟩; simp only [Act.put, List.setIfInBounds_toArray, List.set_cons_zero, List.set_cons_succ, Nat.zero_add, Nat.reduceAdd, hp]))
    case refine_13 =>
      go_wp2_with fail
      refine (inner_any _ _ _).mono ?_
      rintro e w' ⟨rfl, hb2⟩
      go_wp2
      (first | exact ⟨rfl, _, rfl, rfl, hb2, trivial⟩ | (refine ⟨rfl, _, ?_, rfl, hb2, trivial⟩; simp only [Act.put, List.setIfInBounds_toArray, List.set_cons_zero, List.set_cons_succ, Nat.zero_add, Nat.reduceAdd, hp]))
    case refine_14 =>
      go_wp2_with fail
      refine (inner_any _ _ _).mono ?_
      rintro e w' ⟨rfl, hb2⟩
      go_wp2
      (first | exact ⟨rfl, _, rfl, rfl, hb2, trivial⟩ | (refine ⟨rfl, _, ?_, rfl, hb2, trivial⟩; simp only [Act.put, List.setIfInBounds_toArray, List.set_cons_zero, List.set_cons_succ, Nat.zero_add, Nat.reduceAdd, hp]))
    case refine_15 =>
      go_wp2
      (first | exact ⟨rfl, _, rfl, Nds.lit LA (Blk.new _ _ _) rfl (by decide) (by decide), (Below.refl _ _).alloc (Nat.le_refl _) _, trivial⟩ | (refine ⟨rfl, _, ?_, Nds.lit LA (Blk.new _ _ _) rfl (by decide) (by decide), (Below.refl _ _).alloc (Nat.le_refl _) _, trivial⟩; simp only [Act.put, List.setIfInBounds_toArray, List.set_cons_zero, List.set_cons_succ, Nat.zero_add, Nat.reduceAdd, hp]))
    case refine_16 =>
      have hn := hp.2.2.1
      go_wp2_with fail
      refine (is_true ⟨_, rfl, N2.out.below hb⟩ hn (by decide)).mono ?_
      rintro e w' ⟨rfl, hb2⟩
      go_wp2
      (first | exact ⟨rfl, _, rfl, rfl, hb2, trivial⟩ | (refine ⟨rfl, _, ?_, rfl, hb2, trivial⟩; simp only [Act.put, List.setIfInBounds_toArray, List.set_cons_zero, List.set_cons_succ, Nat.zero_add, Nat.reduceAdd, hp]))
    case refine_19 =>
      have y0 : wy.cell? ⟨g3, 0, none⟩ = some (.int .i64 2) := (J3.out.next hb).cell 0
      have y1 : wy.cell? ⟨g3, 1, none⟩ = some (.slice a3 3 c3) := (J3.out.next hb).cell 1
      go_wp2
      (first | exact ⟨rfl, _, rfl, rfl, Below.refl _ _, trivial⟩ | (refine ⟨rfl, _, ?_, rfl, Below.refl _ _, trivial⟩; simp only [Act.put, List.setIfInBounds_toArray, List.set_cons_zero, List.set_cons_succ, Nat.zero_add, Nat.reduceAdd, hp]))
    case refine_21 =>
      go_wp2
      (first | exact ⟨rfl, _, rfl, Qs.lit TB (Blk.new _ _ _) rfl (by decide), (Below.refl _ _).alloc (Nat.le_refl _) _, trivial⟩ | (refine ⟨rfl, _, ?_, Qs.lit TB (Blk.new _ _ _) rfl (by decide), (Below.refl _ _).alloc (Nat.le_refl _) _, trivial⟩; simp only [Act.put, List.setIfInBounds_toArray, List.set_cons_zero, List.set_cons_succ, Nat.zero_add, Nat.reduceAdd, hp]))
    case refine_22 =>
      have hn := hp.2.2.1
      go_wp2_with fail
      refine (wk_lb (dgIn_of (N3.out.below hb) (by decide) (by decide)) hn (HG.out _ KU.out)).mono ?_
      rintro e w' ⟨rfl, hb2⟩
      go_wp2
      (first | exact ⟨rfl, _, rfl, rfl, hb2, trivial⟩ | (refine ⟨rfl, _, ?_, rfl, hb2, trivial⟩; simp only [Act.put, List.setIfInBounds_toArray, List.set_cons_zero, List.set_cons_succ, Nat.zero_add, Nat.reduceAdd, hp]))
    case refine_25 =>
      have y0 : wy.cell? ⟨g4, 0, none⟩ = some (.int .i64 2) := (J4.out.next hb).cell 0
      have y1 : wy.cell? ⟨g4, 1, none⟩ = some (.slice a4 1 c4) := (J4.out.next hb).cell 1
      go_wp2
      (first | exact ⟨rfl, _, rfl, rfl, Below.refl _ _, trivial⟩ | (refine ⟨rfl, _, ?_, rfl, Below.refl _ _, trivial⟩; simp only [Act.put, List.setIfInBounds_toArray, List.set_cons_zero, List.set_cons_succ, Nat.zero_add, Nat.reduceAdd, hp]))
    case refine_27 =>
      go_wp2
      (first | exact ⟨rfl, _, rfl, Qs.lit TC (Blk.new _ _ _) rfl (by decide), (Below.refl _ _).alloc (Nat.le_refl _) _, trivial⟩ | (refine ⟨rfl, _, ?_, Qs.lit TC (Blk.new _ _ _) rfl (by decide), (Below.refl _ _).alloc (Nat.le_refl _) _, trivial⟩; simp only [Act.put, List.setIfInBounds_toArray, List.set_cons_zero, List.set_cons_succ, Nat.zero_add, Nat.reduceAdd, hp]))
    case refine_28 =>
      have hn := hp.2.2.1
      go_wp2_with fail
      refine (wk_lc (dgIn_of (N4.out.below hb) (by decide) (by decide)) hn (HG.out _ KU.out)).mono ?_
      rintro e w' ⟨rfl, hb2⟩
      go_wp2
      (first | exact ⟨rfl, _, rfl, rfl, hb2, trivial⟩ | (refine ⟨rfl, _, ?_, rfl, hb2, trivial⟩; simp only [Act.put, List.setIfInBounds_toArray, List.set_cons_zero, List.set_cons_succ, Nat.zero_add, Nat.reduceAdd, hp]))
    case refine_31 =>
      have y0 : wy.cell? ⟨g5, 0, none⟩ = some (.int .i64 2) := (J5.out.next hb).cell 0
      have y1 : wy.cell? ⟨g5, 1, none⟩ = some (.slice a5 3 c5) := (J5.out.next hb).cell 1
      go_wp2
      (first | exact ⟨rfl, _, rfl, rfl, Below.refl _ _, trivial⟩ | (refine ⟨rfl, _, ?_, rfl, Below.refl _ _, trivial⟩; simp only [Act.put, List.setIfInBounds_toArray, List.set_cons_zero, List.set_cons_succ, Nat.zero_add, Nat.reduceAdd, hp]))
    case refine_33 =>
      go_wp2
      (first | exact ⟨rfl, _, rfl, Qs.lit TB (Blk.new _ _ _) rfl (by decide), (Below.refl _ _).alloc (Nat.le_refl _) _, trivial⟩ | (refine ⟨rfl, _, ?_, Qs.lit TB (Blk.new _ _ _) rfl (by decide), (Below.refl _ _).alloc (Nat.le_refl _) _, trivial⟩; simp only [Act.put, List.setIfInBounds_toArray, List.set_cons_zero, List.set_cons_succ, Nat.zero_add, Nat.reduceAdd, hp]))
    case refine_34 =>
      have hn := hp.2.2.1
      go_wp2_with fail
      refine (wk_lb (dgIn_of (N5.out.below hb) (by decide) (by decide)) hn (HG.out _ KU.out)).mono ?_
      rintro e w' ⟨rfl, hb2⟩
      go_wp2
      (first | exact ⟨rfl, _, rfl, rfl, hb2, trivial⟩ | (refine ⟨rfl, _, ?_, rfl, hb2, trivial⟩; simp only [Act.put, List.setIfInBounds_toArray, List.set_cons_zero, List.set_cons_succ, Nat.zero_add, Nat.reduceAdd, hp]))
    case refine_45 =>
      have y0 : wy.cell? ⟨g1, 0, none⟩ = some (.int .i64 2) := (J1.out.next hb).cell 0
      have y1 : wy.cell? ⟨g1, 1, none⟩ = some (.slice a1 3 c1) := (J1.out.next hb).cell 1
      go_wp2
      (first | exact ⟨rfl, _, rfl, rfl, Below.refl _ _, trivial⟩ | (refine ⟨rfl, _, ?_, rfl, Below.refl _ _, trivial⟩; simp only [Act.put, List.setIfInBounds_toArray, List.set_cons_zero, List.set_cons_succ, Nat.zero_add, Nat.reduceAdd, hp]))
    case refine_46 =>
      go_wp2_with fail
      refine (wk_ck (dgIn_of (N1.out.below hb) (by decide) (by decide)) (HG.out _ KU.out)).mono ?_
      rintro e w' ⟨rfl, hb2⟩
      go_wp2
      (first | exact ⟨rfl, _, rfl, rfl, hb2, trivial⟩ | (refine ⟨rfl, _, ?_, rfl, hb2, trivial⟩; simp only [Act.put, List.setIfInBounds_toArray, List.set_cons_zero, List.set_cons_succ, Nat.zero_add, Nat.reduceAdd, hp]))
    all_goals
      go_wp2
      (first | exact ⟨rfl, _, rfl, rfl, Below.refl _ _, trivial⟩ | (refine ⟨rfl, _, ?_, rfl, Below.refl _ _, trivial⟩; simp only [Act.put, List.setIfInBounds_toArray, List.set_cons_zero, List.set_cons_succ, Nat.zero_add, Nat.reduceAdd, hp]))
  · rintro vals w7 hB1 ⟨p0, p1, p2, p3, p4, p5, p6, p7, p8, p9, p10, p11, p12, p13, p14, p15, p16, p17, p18, p19, p20, p21, p22, p23, p24, p25, p26, p27, p28, p29, p30, p31, p32, p33, p34, p35, p36, p37, p38, p39, p40, p41, p42, p43, p44, p45, p46, p47, _⟩ hne
    have hb := next_below hBd hB1
    simp only [List.getD_cons_zero, List.getD_cons_succ, Nat.zero_add, Nat.reduceAdd] at p47
    have K7 := Lib.hid (next_below K.out hb)
    clear hb hB1 hBd hne p0 p1 p2 p3 p4 p5 p6 p7 p8 p9 p10 p11 p12 p13 p14 p15 p16 p17 p18 p19 p20 p21 p22 p23 p24 p25 p26 p27 p28 p29 p30 p31 p32 p33 p34 p35 p36 p37 p38 p39 p40 p41 p42 p43 p44 p45 p46
    rw [p47]
    clear p47
    go_wp2
    go_ret
    exact ⟨rfl, K7.out⟩
end Go.Proofs.YtpmlmibceiolpaaGreatDoor
