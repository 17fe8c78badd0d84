/- DiagramSums answers true. -/
import Derived.Test.YtpmlmibceiolpaaGreatDoorGDv
import Derived.Test.YtpmlmibceiolpaaGreatDoorGOpen
set_option linter.unusedSimpArgs false
set_option linter.unusedVariables false
namespace Go.Proofs.YtpmlmibceiolpaaGreatDoor
open Go.RowKit

theorem ixs (s0 s1 s2 : Option Addr) (n0 c0 n1 c1 n2 c2 : Nat) (X : World) :
    (Instr.index 50 (.agg #[.slice s0 n0 c0, .slice s1 n1 c1, .slice s2 n2 c2]) (.int .i64 0)).run Tryz.prog X = .ok (.slice s0 n0 c0) X ∧
    (Instr.index 50 (.agg #[.slice s0 n0 c0, .slice s1 n1 c1, .slice s2 n2 c2]) (.int .i64 1)).run Tryz.prog X = .ok (.slice s1 n1 c1) X ∧
    (Instr.index 50 (.agg #[.slice s0 n0 c0, .slice s1 n1 c1, .slice s2 n2 c2]) (.int .i64 2)).run Tryz.prog X = .ok (.slice s2 n2 c2) X := ⟨by kernel_rfl, by kernel_rfl, by kernel_rfl⟩

set_option maxHeartbeats 16000000 in
set_option maxRecDepth 100000 in
theorem sums_any {W : World} {s : Value} {vr kd m v u : Nat} {zs : List Nat} (h1 : Dft W (.agg #[.int .u8 (vr : Int), .int .u8 (kd : Int), s]) vr kd zs) (hm : m < 256) (hv : v < 256) (hu : u < 256) (hg : Good W) :
    Calls Tryz.prog 6 #[.agg #[.int .u8 (vr : Int), .int .u8 (kd : Int), s], .int .u8 (m : Int), .int .u8 (v : Int), .int .u8 (u : Int)] W (RetV W (.bool true)) := by
  obtain ⟨x1, e1, u1⟩ := id h1.is
  obtain rfl : s = x1 := by injection e1 with e; exact Option.some.inj (congrArg (fun x : Array Value => x[2]?) e)
  obtain ⟨ao, cap, f1, -⟩ := u1.open_
  subst f1
  obtain ⟨r, hr⟩ : ∃ r, r = m % 5 := ⟨_, rfl⟩
  have hr5 : (m : Int) % 5 = (r : Int) := by omega
  have hr5t : (m : Int).tmod 5 = (r : Int) := by rw [Int.tmod_eq_emod_of_nonneg (by omega)]; omega
  obtain ⟨n, hn⟩ : ∃ n, n = 2 + r := ⟨_, rfl⟩
  have hn6 : n ≤ 6 := by omega
  have hnw : wrap64 (2 + (r : Int)) = (n : Int) := by unfold wrap64; omega
  have hn0 : 0 < n := by omega
  obtain ⟨i, hi⟩ : ∃ i, i = v % n := ⟨_, rfl⟩
  obtain ⟨j, hj⟩ : ∃ j, j = u % n := ⟨_, rfl⟩
  have hin : i < n := by rw [hi]; exact Nat.mod_lt _ hn0
  have hjn : j < n := by rw [hj]; exact Nat.mod_lt _ hn0
  have HI := Lib.hid (show (v : Int).tmod (n : Int) = (i : Int) from by rw [hi]; exact tmod_nat v n)
  have HJ := Lib.hid (show (u : Int).tmod (n : Int) = (j : Int) from by rw [hj]; exact tmod_nat u n)
  have HIJ := Lib.hid (And.intro hin hjn)
  have HN := Lib.hid (And.intro hn6 hn0)
  have HWV := Lib.hid (And.intro (wrap64_small v (by omega)) (wrap64_small u (by omega)))
  have HRN := Lib.hid (show (2 : Int) + (r : Int) = (n : Int) from by omega)
  have HR := Lib.hid (And.intro hr5 (And.intro hr5t hnw))
  have HWT := Lib.hid (fun (V : World) (hV : Below W.heap.size W V) => show Calls Tryz.prog 17 #[.agg #[.int .u8 (vr : Int), .int .u8 (kd : Int), .slice ao zs.length cap], .int .i64 (n : Int)] V (RetJ V n (dtV kd zs) 4) from with_dv (h1.below hV) hn6)
  have HGD := Lib.hid (fun (V : World) (hV : Below W.heap.size W V) => hg.below hV)
  have HSW := Lib.hid (fun (h : Nat → Rat) => sum_swap hn6 hin hjn h)
  have HF0 := Lib.hid (fun (h : Nat → Rat) (q : Nat) (hq : q < (dgV (fixF i 0 h) n).length) => fix_free hn6 hin (by omega) h hq)
  have HF1 := Lib.hid (fun (h : Nat → Rat) (q : Nat) (hq : q < (dgV (fixF i 1 h) n).length) => fix_free hn6 hin (by omega) h hq)
  have HF2 := Lib.hid (fun (h : Nat → Rat) (q : Nat) (hq : q < (dgV (sumF i h) n).length) => sum_free hn6 hin h hq)
  obtain ⟨W1, hW1, hB1, hs1, j1⟩ := entA W 24 #[.int .u8 (vr : Int), .int .u8 (kd : Int), .slice ao zs.length cap]
  have K := Lib.hid hB1
  have HW1 := Lib.hid hW1
  have JD := Lib.hid j1
  generalize zs.length = zl at *
  generalize dtV kd zs = h at *
  clear h1 e1 u1 hg hB1 hW1 hs1 j1 hr hn hi hj hr5 hr5t hnw hn6 hn0 hin hjn hm hv hu
  go_enter Tryz.func6, Tryz.ntmps6
  go_upto_region 1 with fail
  rw [← HW1.out]
  clear HW1
  generalize W.heap.size = gb at JD
  go_wp2_with fail
  refine (wakes_any (HGD.out _ K.out)).mono ?_
  rintro e w0 ⟨rfl, hb⟩
  replace K := Lib.hid (next_below K.out hb)
  replace JD := Lib.hid (JD.out.next hb)
  clear hb
  obtain ⟨hr5, hr5t, hnw⟩ := HR.out
  go_upto_region 4 with fail
  rw [HRN.out]
  clear HRN
  clear hr5 hr5t hnw HR
  have hti := HI.out
  have htj := HJ.out
  have hne : ¬ (n : Int) = 0 := by have := HN.out.2; omega
  have hn0' : (0 : Int) < (n : Int) := by have := HN.out.2; omega
  have hBd : Below w0.heap.size w0 w0.drew := (Below.refl _ _).drew
  refine wp_region_list 9 (by kernel_rfl) (by kernel_rfl) [] [fun xv _ => xv = .int .u8 (v : Int), fun xv _ => xv = .int .i64 (v : Int), fun xv _ => xv = .int .i64 (n : Int), fun xv _ => xv = .int .i64 (i : Int), fun xv _ => xv = .int .u8 (u : Int), fun xv _ => xv = .int .i64 (u : Int), fun xv _ => xv = .int .i64 (n : Int), fun xv _ => xv = .int .i64 (j : Int), fun xv _ => xv = .int .i64 (i : Int)] (by simp only [List.take_succ_cons, List.take_zero]; rfl) (by simp only [List.drop_succ_cons, List.drop_zero]; rfl) (fun vals => by simp only [fam, Act.put, List.setIfInBounds_toArray, List.set_cons_zero, List.set_cons_succ, if_true]; rfl) (by repeat' (first | exact Stab.eq _ _ | exact Stab.wh _ _ | exact Stab.nm _ _ | exact Stab.new _ _ | exact Stab.newn _ _ | exact Stab.tw _ _ _ | exact Stab.lm _ _ _ | exact Stab.onet _ _ _ | exact Stab.pl _ _ _ | exact Stab.dg _ _ _ | exact Stab.nds _ _ | exact Stab.qs _ _ | exact trivial | apply And.intro)) trivial ?_ ?_
  · refine ⟨?_, ?_, ?_, ?_, ?_, ?_, ?_, ?_, ?_, trivial⟩
    all_goals
      intro vals wy hB1 hp
      dsimp only
      (try simp [preOk, Region.binds, r_anygc, r_anytext] at hp)
      have hb := next_below hBd hB1
      (try simp only [hp])
      clear hB1
      obtain ⟨hwv, hwu⟩ := HWV.out
      go_wp2
      (first | exact ⟨rfl, _, rfl, rfl, Below.refl _ _, trivial⟩ | (refine ⟨rfl, _, ?_, rfl, Below.refl _ _, trivial⟩; simp only [Act.put, List.setIfInBounds_toArray, List.set_cons_zero, List.set_cons_succ, Nat.zero_add, Nat.reduceAdd, hp, hwv, hwu]))
  · rintro vals w00 hB1 ⟨p0, p1, p2, p3, p4, p5, p6, p7, p8, _⟩ hne
    have hb := next_below hBd hB1
    simp only [List.getD_cons_zero, List.getD_cons_succ, Nat.zero_add, Nat.reduceAdd] at p7 p8
    replace K := Lib.hid (next_below K.out hb)
    replace JD := Lib.hid (JD.out.next hb)
    rw [p7, p8]
    clear hb hB1 hBd hne hti htj hn0' p0 p1 p2 p3 p4 p5 p6 p7 p8
    go_upto_region 5 with fail
    have y0 : w00.cell? ⟨gb, 0, none⟩ = some (.int .u8 (vr : Int)) := JD.out.cell 0
    have y1 : w00.cell? ⟨gb, 1, none⟩ = some (.int .u8 (kd : Int)) := JD.out.cell 1
    have y2 : w00.cell? ⟨gb, 2, none⟩ = some (.slice ao zl cap) := JD.out.cell 2
    have HC := Lib.hid (HWT.out _ K.out)
    go_wp2_with fail
    refine (HC.out).mono ?_
    rintro e w1 ⟨aa, ca, La, rfl, da, hb⟩
    clear HC
    replace K := Lib.hid (next_below K.out hb)
    replace JD := Lib.hid (JD.out.next hb)
    clear hb
    obtain ⟨X1, hX, hB, hs, j⟩ := entA w1 31 #[.int .i64 (n : Int), .slice aa La.length ca]
    replace K := Lib.hid (next_below K.out hB)
    replace JD := Lib.hid (JD.out.next hB)
    have Da := Lib.hid (da.below hB)
    have Ba := Lib.hid j
    have HX := Lib.hid hX
    clear hX hB hs j da
    go_upto_region 6 with fail
    rw [← HX.out]
    clear HX
    generalize w1.heap.size = ga at *
    clear y0 y1 y2 JD HWT
    have xa0 : X1.cell? ⟨ga, 0, none⟩ = some (.int .i64 (n : Int)) := Ba.out.cell 0
    have xa1 : X1.cell? ⟨ga, 1, none⟩ = some (.slice aa La.length ca) := Ba.out.cell 1
    have HC := Lib.hid (sum_dv Da.out HIJ.out.1 (by omega) (HGD.out _ K.out))
    go_wp2_with fail
    refine (HC.out).mono ?_
    rintro e w2 ⟨ax, cx, Lx, rfl, dx, hb⟩
    clear xa0 xa1
    clear HC
    replace K := Lib.hid (next_below K.out hb)
    replace Ba := Lib.hid (Ba.out.next hb)
    replace Da := Lib.hid (Da.out.below hb)
    clear hb
    obtain ⟨X2, hX, hB, hs, j⟩ := entA w2 31 #[.int .i64 (n : Int), .slice ax Lx.length cx]
    replace K := Lib.hid (next_below K.out hB)
    replace Ba := Lib.hid (Ba.out.next hB)
    replace Da := Lib.hid (Da.out.below hB)
    have Dx := Lib.hid (dx.below hB)
    have Bx := Lib.hid j
    have HX := Lib.hid hX
    clear hX hB hs j dx
    go_upto_region 7 with fail
    rw [← HX.out]
    clear HX
    generalize w2.heap.size = gx at *
    have xx0 : X2.cell? ⟨gx, 0, none⟩ = some (.int .i64 (n : Int)) := Bx.out.cell 0
    have xx1 : X2.cell? ⟨gx, 1, none⟩ = some (.slice ax Lx.length cx) := Bx.out.cell 1
    have HC := Lib.hid (sum_dv Dx.out HIJ.out.2 (by omega) (HGD.out _ K.out))
    go_wp2_with fail
    refine (HC.out).mono ?_
    rintro e w3 ⟨ay, cy, Ly, rfl, dy, hb⟩
    clear xx0 xx1
    clear HC
    replace K := Lib.hid (next_below K.out hb)
    replace Ba := Lib.hid (Ba.out.next hb)
    replace Da := Lib.hid (Da.out.below hb)
    replace Bx := Lib.hid (Bx.out.next hb)
    replace Dx := Lib.hid (Dx.out.below hb)
    clear hb
    obtain ⟨X3, hX, hB, hs, j⟩ := entA w3 31 #[.int .i64 (n : Int), .slice ay Ly.length cy]
    replace K := Lib.hid (next_below K.out hB)
    replace Ba := Lib.hid (Ba.out.next hB)
    replace Da := Lib.hid (Da.out.below hB)
    replace Bx := Lib.hid (Bx.out.next hB)
    replace Dx := Lib.hid (Dx.out.below hB)
    have Dy := Lib.hid (dy.below hB)
    have By := Lib.hid j
    have HX := Lib.hid hX
    clear hX hB hs j dy
    go_upto_region 8 with fail
    rw [← HX.out]
    clear HX
    generalize w3.heap.size = gy at *
    have xa0 : X3.cell? ⟨ga, 0, none⟩ = some (.int .i64 (n : Int)) := Ba.out.cell 0
    have xa1 : X3.cell? ⟨ga, 1, none⟩ = some (.slice aa La.length ca) := Ba.out.cell 1
    have HC := Lib.hid (sum_dv Da.out HIJ.out.2 (by omega) (HGD.out _ K.out))
    go_wp2_with fail
    refine (HC.out).mono ?_
    rintro e w4 ⟨az, cz, Lz, rfl, dz, hb⟩
    clear xa0 xa1
    clear HC
    replace K := Lib.hid (next_below K.out hb)
    replace Ba := Lib.hid (Ba.out.next hb)
    replace Da := Lib.hid (Da.out.below hb)
    replace Bx := Lib.hid (Bx.out.next hb)
    replace Dx := Lib.hid (Dx.out.below hb)
    replace By := Lib.hid (By.out.next hb)
    replace Dy := Lib.hid (Dy.out.below hb)
    clear hb
    obtain ⟨X4, hX, hB, hs, j⟩ := entA w4 31 #[.int .i64 (n : Int), .slice az Lz.length cz]
    replace K := Lib.hid (next_below K.out hB)
    replace Ba := Lib.hid (Ba.out.next hB)
    replace Da := Lib.hid (Da.out.below hB)
    replace Bx := Lib.hid (Bx.out.next hB)
    replace Dx := Lib.hid (Dx.out.below hB)
    replace By := Lib.hid (By.out.next hB)
    replace Dy := Lib.hid (Dy.out.below hB)
    have Dz := Lib.hid (dz.below hB)
    have Bz := Lib.hid j
    have HX := Lib.hid hX
    clear hX hB hs j dz
    go_upto_region 9 with fail
    rw [← HX.out]
    clear HX
    generalize w4.heap.size = gz at *
    have xz0 : X4.cell? ⟨gz, 0, none⟩ = some (.int .i64 (n : Int)) := Bz.out.cell 0
    have xz1 : X4.cell? ⟨gz, 1, none⟩ = some (.slice az Lz.length cz) := Bz.out.cell 1
    have HC := Lib.hid (sum_dv Dz.out HIJ.out.1 (by omega) (HGD.out _ K.out))
    go_wp2_with fail
    refine (HC.out).mono ?_
    rintro e w5 ⟨au, cu, Lu, rfl, du, hb⟩
    clear xz0 xz1
    clear HC
    replace K := Lib.hid (next_below K.out hb)
    replace Ba := Lib.hid (Ba.out.next hb)
    replace Da := Lib.hid (Da.out.below hb)
    replace Bx := Lib.hid (Bx.out.next hb)
    replace Dx := Lib.hid (Dx.out.below hb)
    replace By := Lib.hid (By.out.next hb)
    replace Dy := Lib.hid (Dy.out.below hb)
    replace Bz := Lib.hid (Bz.out.next hb)
    replace Dz := Lib.hid (Dz.out.below hb)
    clear hb
    obtain ⟨X5, hX, hB, hs, j⟩ := entA w5 31 #[.int .i64 (n : Int), .slice au Lu.length cu]
    replace K := Lib.hid (next_below K.out hB)
    replace Ba := Lib.hid (Ba.out.next hB)
    replace Da := Lib.hid (Da.out.below hB)
    replace Bx := Lib.hid (Bx.out.next hB)
    replace Dx := Lib.hid (Dx.out.below hB)
    replace By := Lib.hid (By.out.next hB)
    replace Dy := Lib.hid (Dy.out.below hB)
    replace Bz := Lib.hid (Bz.out.next hB)
    replace Dz := Lib.hid (Dz.out.below hB)
    have Du := Lib.hid (du.below hB)
    have Bu := Lib.hid j
    have HX := Lib.hid hX
    clear hX hB hs j du
    go_upto_region 10 with fail
    rw [← HX.out]
    clear HX
    generalize w5.heap.size = gu at *
    have xa0 : X5.cell? ⟨ga, 0, none⟩ = some (.int .i64 (n : Int)) := Ba.out.cell 0
    have xa1 : X5.cell? ⟨ga, 1, none⟩ = some (.slice aa La.length ca) := Ba.out.cell 1
    have HC := Lib.hid (fix_dv (b := 0) Da.out HIJ.out.1 (by omega) (HGD.out _ K.out))
    go_wp2_with fail
    refine (HC.out).mono ?_
    rintro e w6 ⟨al, cl, Ll, rfl, dl, hb⟩
    clear xa0 xa1
    clear HC
    replace K := Lib.hid (next_below K.out hb)
    replace Ba := Lib.hid (Ba.out.next hb)
    replace Da := Lib.hid (Da.out.below hb)
    replace Bx := Lib.hid (Bx.out.next hb)
    replace Dx := Lib.hid (Dx.out.below hb)
    replace By := Lib.hid (By.out.next hb)
    replace Dy := Lib.hid (Dy.out.below hb)
    replace Bz := Lib.hid (Bz.out.next hb)
    replace Dz := Lib.hid (Dz.out.below hb)
    replace Bu := Lib.hid (Bu.out.next hb)
    replace Du := Lib.hid (Du.out.below hb)
    clear hb
    obtain ⟨X6, hX, hB, hs, j⟩ := entA w6 31 #[.int .i64 (n : Int), .slice al Ll.length cl]
    replace K := Lib.hid (next_below K.out hB)
    replace Ba := Lib.hid (Ba.out.next hB)
    replace Da := Lib.hid (Da.out.below hB)
    replace Bx := Lib.hid (Bx.out.next hB)
    replace Dx := Lib.hid (Dx.out.below hB)
    replace By := Lib.hid (By.out.next hB)
    replace Dy := Lib.hid (Dy.out.below hB)
    replace Bz := Lib.hid (Bz.out.next hB)
    replace Dz := Lib.hid (Dz.out.below hB)
    replace Bu := Lib.hid (Bu.out.next hB)
    replace Du := Lib.hid (Du.out.below hB)
    have Dl := Lib.hid (dl.below hB)
    have Bl := Lib.hid j
    have HX := Lib.hid hX
    clear hX hB hs j dl
    go_upto_region 11 with fail
    rw [← HX.out]
    clear HX
    generalize w6.heap.size = gl at *
    have xa0 : X6.cell? ⟨ga, 0, none⟩ = some (.int .i64 (n : Int)) := Ba.out.cell 0
    have xa1 : X6.cell? ⟨ga, 1, none⟩ = some (.slice aa La.length ca) := Ba.out.cell 1
    have HC := Lib.hid (fix_dv (b := 1) Da.out HIJ.out.1 (by omega) (HGD.out _ K.out))
    go_wp2_with fail
    refine (HC.out).mono ?_
    rintro e w7 ⟨ah, ch, Lh, rfl, dh, hb⟩
    clear xa0 xa1
    clear HC
    replace K := Lib.hid (next_below K.out hb)
    replace Ba := Lib.hid (Ba.out.next hb)
    replace Da := Lib.hid (Da.out.below hb)
    replace Bx := Lib.hid (Bx.out.next hb)
    replace Dx := Lib.hid (Dx.out.below hb)
    replace By := Lib.hid (By.out.next hb)
    replace Dy := Lib.hid (Dy.out.below hb)
    replace Bz := Lib.hid (Bz.out.next hb)
    replace Dz := Lib.hid (Dz.out.below hb)
    replace Bu := Lib.hid (Bu.out.next hb)
    replace Du := Lib.hid (Du.out.below hb)
    replace Bl := Lib.hid (Bl.out.next hb)
    replace Dl := Lib.hid (Dl.out.below hb)
    clear hb
    obtain ⟨X7, hX, hB, hs, j⟩ := entA w7 31 #[.int .i64 (n : Int), .slice ah Lh.length ch]
    replace K := Lib.hid (next_below K.out hB)
    replace Ba := Lib.hid (Ba.out.next hB)
    replace Da := Lib.hid (Da.out.below hB)
    replace Bx := Lib.hid (Bx.out.next hB)
    replace Dx := Lib.hid (Dx.out.below hB)
    replace By := Lib.hid (By.out.next hB)
    replace Dy := Lib.hid (Dy.out.below hB)
    replace Bz := Lib.hid (Bz.out.next hB)
    replace Dz := Lib.hid (Dz.out.below hB)
    replace Bu := Lib.hid (Bu.out.next hB)
    replace Du := Lib.hid (Du.out.below hB)
    replace Bl := Lib.hid (Bl.out.next hB)
    replace Dl := Lib.hid (Dl.out.below hB)
    have Dh := Lib.hid (dh.below hB)
    have Bh := Lib.hid j
    have HX := Lib.hid hX
    clear hX hB hs j dh
    go_upto_region 12 with fail
    rw [← HX.out]
    clear HX
    generalize w7.heap.size = gh at *
    have xl0 : X7.cell? ⟨gl, 0, none⟩ = some (.int .i64 (n : Int)) := Bl.out.cell 0
    have xl1 : X7.cell? ⟨gl, 1, none⟩ = some (.slice al Ll.length cl) := Bl.out.cell 1
    have xh0 : X7.cell? ⟨gh, 0, none⟩ = some (.int .i64 (n : Int)) := Bh.out.cell 0
    have xh1 : X7.cell? ⟨gh, 1, none⟩ = some (.slice ah Lh.length ch) := Bh.out.cell 1
    have HC := Lib.hid (apply_dv (op := 1) Dl.out Dh.out (by omega) (by omega) (by omega) (HGD.out _ K.out))
    go_wp2_with fail
    refine (HC.out).mono ?_
    rintro e w8 ⟨ab, cb, Lb, rfl, db, hb⟩
    clear xl0 xl1 xh0 xh1
    clear HC
    replace K := Lib.hid (next_below K.out hb)
    replace Ba := Lib.hid (Ba.out.next hb)
    replace Da := Lib.hid (Da.out.below hb)
    replace Bx := Lib.hid (Bx.out.next hb)
    replace Dx := Lib.hid (Dx.out.below hb)
    replace By := Lib.hid (By.out.next hb)
    replace Dy := Lib.hid (Dy.out.below hb)
    replace Bz := Lib.hid (Bz.out.next hb)
    replace Dz := Lib.hid (Dz.out.below hb)
    replace Bu := Lib.hid (Bu.out.next hb)
    replace Du := Lib.hid (Du.out.below hb)
    replace Bl := Lib.hid (Bl.out.next hb)
    replace Dl := Lib.hid (Dl.out.below hb)
    replace Bh := Lib.hid (Bh.out.next hb)
    replace Dh := Lib.hid (Dh.out.below hb)
    clear hb
    obtain ⟨X8, hX, hB, hs, j⟩ := entA w8 31 #[.int .i64 (n : Int), .slice ab Lb.length cb]
    replace K := Lib.hid (next_below K.out hB)
    replace Ba := Lib.hid (Ba.out.next hB)
    replace Da := Lib.hid (Da.out.below hB)
    replace Bx := Lib.hid (Bx.out.next hB)
    replace Dx := Lib.hid (Dx.out.below hB)
    replace By := Lib.hid (By.out.next hB)
    replace Dy := Lib.hid (Dy.out.below hB)
    replace Bz := Lib.hid (Bz.out.next hB)
    replace Dz := Lib.hid (Dz.out.below hB)
    replace Bu := Lib.hid (Bu.out.next hB)
    replace Du := Lib.hid (Du.out.below hB)
    replace Bl := Lib.hid (Bl.out.next hB)
    replace Dl := Lib.hid (Dl.out.below hB)
    replace Bh := Lib.hid (Bh.out.next hB)
    replace Dh := Lib.hid (Dh.out.below hB)
    have Db := Lib.hid (db.below hB)
    have Bb := Lib.hid j
    have HX := Lib.hid hX
    clear hX hB hs j db
    go_upto_region 13 with fail
    rw [← HX.out]
    clear HX
    generalize w8.heap.size = gb at *
    go_upto_region 14 with fail
    have xb0 : X8.cell? ⟨gb, 0, none⟩ = some (.int .i64 (n : Int)) := Bb.out.cell 0
    have xb1 : X8.cell? ⟨gb, 1, none⟩ = some (.slice ab Lb.length cb) := Bb.out.cell 1
    have xx0 : X8.cell? ⟨gx, 0, none⟩ = some (.int .i64 (n : Int)) := Bx.out.cell 0
    have xx1 : X8.cell? ⟨gx, 1, none⟩ = some (.slice ax Lx.length cx) := Bx.out.cell 1
    have HC := Lib.hid (same_dv Db.out Dx.out (rfl))
    go_wp2_with fail
    refine (HC.out).mono ?_
    rintro e v0 ⟨rfl, hb⟩
    clear HC
    clear xb0 xb1 xx0 xx1
    replace K := Lib.hid (next_below K.out hb)
    replace Ba := Lib.hid (Ba.out.next hb)
    replace Da := Lib.hid (Da.out.below hb)
    replace Bx := Lib.hid (Bx.out.next hb)
    replace Dx := Lib.hid (Dx.out.below hb)
    replace By := Lib.hid (By.out.next hb)
    replace Dy := Lib.hid (Dy.out.below hb)
    replace Bz := Lib.hid (Bz.out.next hb)
    replace Dz := Lib.hid (Dz.out.below hb)
    replace Bu := Lib.hid (Bu.out.next hb)
    replace Du := Lib.hid (Du.out.below hb)
    replace Bl := Lib.hid (Bl.out.next hb)
    replace Dl := Lib.hid (Dl.out.below hb)
    replace Bh := Lib.hid (Bh.out.next hb)
    replace Dh := Lib.hid (Dh.out.below hb)
    replace Bb := Lib.hid (Bb.out.next hb)
    replace Db := Lib.hid (Db.out.below hb)
    clear hb
    have xy0 : v0.cell? ⟨gy, 0, none⟩ = some (.int .i64 (n : Int)) := By.out.cell 0
    have xy1 : v0.cell? ⟨gy, 1, none⟩ = some (.slice ay Ly.length cy) := By.out.cell 1
    have xu0 : v0.cell? ⟨gu, 0, none⟩ = some (.int .i64 (n : Int)) := Bu.out.cell 0
    have xu1 : v0.cell? ⟨gu, 1, none⟩ = some (.slice au Lu.length cu) := Bu.out.cell 1
    have HC := Lib.hid (same_dv Dy.out Du.out (HSW.out h))
    go_wp2_with fail
    refine (HC.out).mono ?_
    rintro e v1 ⟨rfl, hb⟩
    clear HC
    clear xy0 xy1 xu0 xu1
    replace K := Lib.hid (next_below K.out hb)
    replace Ba := Lib.hid (Ba.out.next hb)
    replace Da := Lib.hid (Da.out.below hb)
    replace Bx := Lib.hid (Bx.out.next hb)
    replace Dx := Lib.hid (Dx.out.below hb)
    replace By := Lib.hid (By.out.next hb)
    replace Dy := Lib.hid (Dy.out.below hb)
    replace Bz := Lib.hid (Bz.out.next hb)
    replace Dz := Lib.hid (Dz.out.below hb)
    replace Bu := Lib.hid (Bu.out.next hb)
    replace Du := Lib.hid (Du.out.below hb)
    replace Bl := Lib.hid (Bl.out.next hb)
    replace Dl := Lib.hid (Dl.out.below hb)
    replace Bh := Lib.hid (Bh.out.next hb)
    replace Dh := Lib.hid (Dh.out.below hb)
    replace Bb := Lib.hid (Bb.out.next hb)
    replace Db := Lib.hid (Db.out.below hb)
    clear hb
    have xl1 : v1.cell? ⟨gl, 1, none⟩ = some (.slice al Ll.length cl) := Bl.out.cell 1
    have xh1 : v1.cell? ⟨gh, 1, none⟩ = some (.slice ah Lh.length ch) := Bh.out.cell 1
    have xx1 : v1.cell? ⟨gx, 1, none⟩ = some (.slice ax Lx.length cx) := Bx.out.cell 1
    have K0 := Lib.hid (Below.refl v1.heap.size v1)
    go_upto_region 17 with fail
    clear xl1 xh1 xx1
    go_loopw [138] (fun u138 wr => ∃ k : Nat, k ≤ 3 ∧ u138 = .int .i64 (k : Int) ∧ Hid (Below v1.heap.size v1 wr)) (fun u138 _ => 3 - (intOf u138).toNat)
    case atStart => exact ⟨0, by omega, rfl, K0⟩
    case round =>
      obtain ⟨k, hk, rfl, hB⟩ := hrel
      by_cases hlt : k < 3
      · have hlti : (k : Int) < 3 := by omega
        have HIX : ∃ (ga : Option Addr) (gc : Nat) (LL : List Nd), (∀ X, (Instr.index 50 (.agg #[.slice al Ll.length cl, .slice ah Lh.length ch, .slice ax Lx.length cx]) (.int .i64 (k : Int))).run Tryz.prog X = .ok (.slice ga LL.length gc) X) ∧ Nds v1 (.slice ga LL.length gc) LL ∧ LL.length ≤ 127 ∧ ∀ q, q < LL.length → (LL.getD q nd0).1 ≠ (i : Int) := by
          obtain rfl | rfl | rfl : k = 0 ∨ k = 1 ∨ k = 2 := by omega
          · exact ⟨al, cl, Ll, fun X => (ixs _ _ _ _ _ _ _ _ _ X).1, Dl.out.nds, Dl.out.few, fun q hq => by have e := Dl.out.is; rw [e] at hq ⊢; exact HF0.out h q hq⟩
          · exact ⟨ah, ch, Lh, fun X => (ixs _ _ _ _ _ _ _ _ _ X).2.1, Dh.out.nds, Dh.out.few, fun q hq => by have e := Dh.out.is; rw [e] at hq ⊢; exact HF1.out h q hq⟩
          · exact ⟨ax, cx, Lx, fun X => (ixs _ _ _ _ _ _ _ _ _ X).2.2, Dx.out.nds, Dx.out.few, fun q hq => by have e := Dx.out.is; rw [e] at hq ⊢; exact HF2.out h q hq⟩
        obtain ⟨ga, gc, LL, hix, hnds, hfew, hfree⟩ := HIX
        have HND := Lib.hid hnds
        have HFR := Lib.hid hfree
        generalize hn' : LL.length = nL at *
        have HNL := Lib.hid hn'
        clear hnds hfree hn'
        go_upto_region 20 with fail
        clear hix
        go_loopw [143] (fun u143 wq => ∃ q : Nat, q ≤ nL ∧ u143 = .int .i64 (q : Int) ∧ Hid (Below v1.heap.size v1 wq)) (fun u143 _ => nL - (intOf u143).toNat)
        case atStart => exact ⟨0, by omega, rfl, hB⟩
        case round =>
          obtain ⟨q, hq, rfl, hB2⟩ := hrel
          by_cases hlt2 : q < nL
          · have hlti2 : (q : Int) < (nL : Int) := by omega
            obtain ⟨g, rfl, hlL, hc⟩ := (HND.out.below hB2.out).cell hlt2
            have hne0 := HFR.out q hlt2
            obtain ⟨n1, hn1⟩ : ∃ n1, LL.getD q nd0 = n1 := ⟨_, rfl⟩
            rw [hn1] at hc hne0
            obtain ⟨z1, z2, z3, z4⟩ := hc
            clear hn1 hlL
            have KQ := Lib.hid (hB2.out.alloc hB2.out.size (.cells #[.int .i64 n1.1, .int .i64 n1.2.1, .int .i64 n1.2.2.1, .string ⟨n1.2.2.2.toArray⟩] 42))
            go_wp2
            go_roundw
            case rel => exact ⟨q + 1, by omega, by go_num, KQ⟩
            case measure => simp [intOf]; omega
          · obtain rfl : q = nL := by omega
            go_wp2
            go_roundw
            case rel => exact ⟨k + 1, by omega, by go_num, hB2⟩
            case measure => simp [intOf]; omega
      · obtain rfl : k = 3 := by omega
        go_wp2
        go_ret
        exact ⟨rfl, next_below K.out hB.out⟩

theorem sums_at {W : World} {x : Value} (D : DraftAt W x) (m v u : Nat) (hm : m < 256) (hv : v < 256) (hu : u < 256) (hg : Good W) : Calls Tryz.prog 6 #[x, .int .u8 (m : Int), .int .u8 (v : Int), .int .u8 (u : Int)] W (RetV W (.bool true)) := by
  obtain ⟨s, vr, kd, zs, rfl, h1⟩ := D
  exact sums_any h1 hm hv hu hg
end Go.Proofs.YtpmlmibceiolpaaGreatDoor
