/- Apply and Sum. -/
import Derived.Test.YtpmlmibceiolpaaGreatDoorGComb
set_option linter.unusedSimpArgs false
set_option linter.unusedVariables false
namespace Go.Proofs.YtpmlmibceiolpaaGreatDoor
open Go.RowKit

theorem Stab.nmw (W : World) (x : Rat) : Stab W (fun v w => Nm w v x) := fun v w1 w2 _ h2 h => h.below h2
set_option maxHeartbeats 2000000 in
set_option maxRecDepth 100000 in
theorem greater_any {w : World} {v0 v1 : Value} {x y : Rat} (h0 : Nm w v0 x) (h1 : Nm w v1 y) (s0 : Sz 268435456 x) (s1 : Sz 268435456 y) :
    Calls Tryz.prog 69 #[v0, v1] w (RetN w (if x < y then y else x)) := by
  obtain ⟨a0, a1, a2, a3, a4, a5, a6, a7, rfl, -, -⟩ := id h0.parts
  obtain ⟨b0, b1, b2, b3, b4, b5, b6, b7, rfl, -, -⟩ := id h1.parts
  obtain ⟨W3, hW3, hB3, hs3, i1, i2, i3⟩ := entC w 88 88 88 #[.bool a0, .slice a1 a2 a3, .bool a4, .slice a5 a6 a7] #[.bool b0, .slice b1 b2 b3, .bool b4, .slice b5 b6 b7] #[.bool false, .slice none 0 0, .bool false, .slice none 0 0]
  have i3' : Blk W3 (w.heap.size + 1 + 1) 88 #[.bool false, .slice none 0 0, .bool false, .slice none 0 0] := i3
  have HC := Lib.hid (num_cmp (w := W3) (h0.below hB3) (h1.below hB3) s0 s1)
  obtain ⟨Z, hZ⟩ : ∃ Z, Z = rcmp x y := ⟨_, rfl⟩
  have hz := rcmp_neg (x := x) (y := y)
  rw [← hZ] at hz HC
  obtain ⟨R, hR⟩ : ∃ R, R = if x < y then y else x := ⟨_, rfl⟩
  rw [← hR]
  have HR := Lib.hid hR
  have HZ := Lib.hid hz
  have N0 := Lib.hid (h0.below hB3)
  have N1 := Lib.hid (h1.below hB3)
  have HW3 := Lib.hid hW3
  have HB3 := Lib.hid hB3
  have I1 := Lib.hid i1
  have I2 := Lib.hid i2
  have I3 := Lib.hid i3'
  obtain ⟨x0, x1, x2, x3⟩ := i1.at4
  obtain ⟨y0, y1, y2, y3⟩ := i2.at4
  clear hZ hR hz hW3 hB3 hs3 i1 i2 i3 i3' h0 h1 s0 s1
  go_enter Tryz.func69, Tryz.ntmps69
  go_upto_region 1 with fail
  rw [← HW3.out]
  clear HW3
  go_wp2_with fail
  refine (HC.out).mono ?_
  rintro e w4 ⟨rfl, hb⟩
  have k1 := I1.out.next hb
  have k2 := I2.out.next hb
  have k3 := I3.out.next hb
  have M0 := Lib.hid (N0.out.below hb)
  have M1 := Lib.hid (N1.out.below hb)
  have KB := Lib.hid (HB3.out.trans (hb.mono HB3.out.size))
  clear hb x0 x1 x2 x3 y0 y1 y2 y3 HC
  obtain ⟨x0, x1, x2, x3⟩ := k1.at4
  obtain ⟨y0, y1, y2, y3⟩ := k2.at4
  obtain ⟨z0, z1, z2, z3⟩ := k3.at4
  obtain ⟨f0, f1, f2, f3⟩ := k3.fr4
  have K3 := Lib.hid k3
  clear k1 k2 k3
  by_cases hlt : Z < 0
  · have hr := Lib.hid (show R = y from by rw [HR.out, if_pos (HZ.out.1 hlt)])
    have jw := Lib.hid (K3.out.four (.bool b0) (.slice b1 b2 b3) (.bool b4) (.slice b5 b6 b7))
    have pw := Lib.hid (M1.out.four K3.out (by decide) (.bool b0) (.slice b1 b2 b3) (.bool b4) (.slice b5 b6 b7))
    have pb := Lib.hid (below_four (g := w.heap.size + 1 + 1) KB.out (by omega) (.bool b0) (.slice b1 b2 b3) (.bool b4) (.slice b5 b6 b7))
    go_wp2
    obtain ⟨d0, d1, d2, d3⟩ := jw.out.at4
    rw [hr.out]
    exact bodyPost_ret (v := .agg #[.bool b0, .slice b1 b2 b3, .bool b4, .slice b5 b6 b7]) (by simp [results, Tryz.results69, go_sem, d0, d1, d2, d3]) rfl ⟨_, rfl, pw.out, pb.out⟩
  · have hr := Lib.hid (show R = x from by rw [HR.out, if_neg (fun h => hlt (HZ.out.2 h))])
    have jw := Lib.hid (K3.out.four (.bool a0) (.slice a1 a2 a3) (.bool a4) (.slice a5 a6 a7))
    have pw := Lib.hid (M0.out.four K3.out (by decide) (.bool a0) (.slice a1 a2 a3) (.bool a4) (.slice a5 a6 a7))
    have pb := Lib.hid (below_four (g := w.heap.size + 1 + 1) KB.out (by omega) (.bool a0) (.slice a1 a2 a3) (.bool a4) (.slice a5 a6 a7))
    go_wp2
    obtain ⟨d0, d1, d2, d3⟩ := jw.out.at4
    rw [hr.out]
    exact bodyPost_ret (v := .agg #[.bool a0, .slice a1 a2 a3, .bool a4, .slice a5 a6 a7]) (by simp [results, Tryz.results69, go_sem, d0, d1, d2, d3]) rfl ⟨_, rfl, pw.out, pb.out⟩
set_option maxHeartbeats 2000000 in
set_option maxRecDepth 100000 in
theorem lesser_any {w : World} {v0 v1 : Value} {x y : Rat} (h0 : Nm w v0 x) (h1 : Nm w v1 y) (s0 : Sz 268435456 x) (s1 : Sz 268435456 y) :
    Calls Tryz.prog 70 #[v0, v1] w (RetN w (if y < x then y else x)) := by
  obtain ⟨a0, a1, a2, a3, a4, a5, a6, a7, rfl, -, -⟩ := id h0.parts
  obtain ⟨b0, b1, b2, b3, b4, b5, b6, b7, rfl, -, -⟩ := id h1.parts
  obtain ⟨W3, hW3, hB3, hs3, i1, i2, i3⟩ := entC w 88 88 88 #[.bool a0, .slice a1 a2 a3, .bool a4, .slice a5 a6 a7] #[.bool b0, .slice b1 b2 b3, .bool b4, .slice b5 b6 b7] #[.bool false, .slice none 0 0, .bool false, .slice none 0 0]
  have i3' : Blk W3 (w.heap.size + 1 + 1) 88 #[.bool false, .slice none 0 0, .bool false, .slice none 0 0] := i3
  have HC := Lib.hid (num_cmp (w := W3) (h0.below hB3) (h1.below hB3) s0 s1)
  obtain ⟨Z, hZ⟩ : ∃ Z, Z = rcmp x y := ⟨_, rfl⟩
  have hz := rcmp_pos (x := x) (y := y)
  rw [← hZ] at hz HC
  obtain ⟨R, hR⟩ : ∃ R, R = if y < x then y else x := ⟨_, rfl⟩
  rw [← hR]
  have HR := Lib.hid hR
  have HZ := Lib.hid hz
  have N0 := Lib.hid (h0.below hB3)
  have N1 := Lib.hid (h1.below hB3)
  have HW3 := Lib.hid hW3
  have HB3 := Lib.hid hB3
  have I1 := Lib.hid i1
  have I2 := Lib.hid i2
  have I3 := Lib.hid i3'
  obtain ⟨x0, x1, x2, x3⟩ := i1.at4
  obtain ⟨y0, y1, y2, y3⟩ := i2.at4
  clear hZ hR hz hW3 hB3 hs3 i1 i2 i3 i3' h0 h1 s0 s1
  go_enter Tryz.func70, Tryz.ntmps70
  go_upto_region 1 with fail
  rw [← HW3.out]
  clear HW3
  go_wp2_with fail
  refine (HC.out).mono ?_
  rintro e w4 ⟨rfl, hb⟩
  have k1 := I1.out.next hb
  have k2 := I2.out.next hb
  have k3 := I3.out.next hb
  have M0 := Lib.hid (N0.out.below hb)
  have M1 := Lib.hid (N1.out.below hb)
  have KB := Lib.hid (HB3.out.trans (hb.mono HB3.out.size))
  clear hb x0 x1 x2 x3 y0 y1 y2 y3 HC
  obtain ⟨x0, x1, x2, x3⟩ := k1.at4
  obtain ⟨y0, y1, y2, y3⟩ := k2.at4
  obtain ⟨z0, z1, z2, z3⟩ := k3.at4
  obtain ⟨f0, f1, f2, f3⟩ := k3.fr4
  have K3 := Lib.hid k3
  clear k1 k2 k3
  by_cases hlt : 0 < Z
  · have hr := Lib.hid (show R = y from by rw [HR.out, if_pos (HZ.out.1 hlt)])
    have jw := Lib.hid (K3.out.four (.bool b0) (.slice b1 b2 b3) (.bool b4) (.slice b5 b6 b7))
    have pw := Lib.hid (M1.out.four K3.out (by decide) (.bool b0) (.slice b1 b2 b3) (.bool b4) (.slice b5 b6 b7))
    have pb := Lib.hid (below_four (g := w.heap.size + 1 + 1) KB.out (by omega) (.bool b0) (.slice b1 b2 b3) (.bool b4) (.slice b5 b6 b7))
    go_wp2
    obtain ⟨d0, d1, d2, d3⟩ := jw.out.at4
    rw [hr.out]
    exact bodyPost_ret (v := .agg #[.bool b0, .slice b1 b2 b3, .bool b4, .slice b5 b6 b7]) (by simp [results, Tryz.results70, go_sem, d0, d1, d2, d3]) rfl ⟨_, rfl, pw.out, pb.out⟩
  · have hr := Lib.hid (show R = x from by rw [HR.out, if_neg (fun h => hlt (HZ.out.2 h))])
    have jw := Lib.hid (K3.out.four (.bool a0) (.slice a1 a2 a3) (.bool a4) (.slice a5 a6 a7))
    have pw := Lib.hid (M0.out.four K3.out (by decide) (.bool a0) (.slice a1 a2 a3) (.bool a4) (.slice a5 a6 a7))
    have pb := Lib.hid (below_four (g := w.heap.size + 1 + 1) KB.out (by omega) (.bool a0) (.slice a1 a2 a3) (.bool a4) (.slice a5 a6 a7))
    go_wp2
    obtain ⟨d0, d1, d2, d3⟩ := jw.out.at4
    rw [hr.out]
    exact bodyPost_ret (v := .agg #[.bool a0, .slice a1 a2 a3, .bool a4, .slice a5 a6 a7]) (by simp [results, Tryz.results70, go_sem, d0, d1, d2, d3]) rfl ⟨_, rfl, pw.out, pb.out⟩

theorem evD_short {k : Nat} {l : List Nd} (h : vldN (k : Int) l = true) (hs : ∀ n ∈ l, n.2.2.2.length ≤ 268435000) (y : Nat) : (evD k l y).length ≤ 268435000 := by
  obtain ⟨k', e, h1, h2, h3, h4, h5, h6⟩ := vldN_parts h
  obtain rfl : k = k' := by omega
  have h7 := wf_hi h4 (i := l.length - 1) (by omega)
  obtain ⟨j, j1, j2, j3⟩ := evN_leafs h4 k (l.length - 1) y (by omega) (by omega)
  unfold evD
  rw [j3]; exact hs _ (mem_getD j1)
/-- A binary operation on numbers, by its number. -/
structure OpC (fid : Nat) (op : Rat → Rat → Rat) : Prop where
  run : ∀ (V : World) (v0 v1 : Value) (x y : Rat), Nm V v0 x → Nm V v1 y → Sz 268435456 x → Sz 268435456 y → Calls Tryz.prog fid #[v0, v1] V (RetN V (op x y))
  enter : ∀ args w, (callFunc fid args).run Tryz.prog w = .ok (.enter fid args) w

set_option maxHeartbeats 4000000 in
set_option maxRecDepth 100000 in
theorem apply1c_any {V : World} {gf ga gb fid k x : Nat} {op : Rat → Rat → Rat} {s1 s2 : Value} {l1 l2 : List Nd} (O : OpC fid op) (hf : Blk V gf 77 #[.func (.func fid) #[] #[]])
    (ha : Blk V ga 31 #[.int .i64 (k : Int), s1]) (hb : Blk V gb 31 #[.int .i64 (k : Int), s2]) (d1 : DgIn V (.agg #[.int .i64 (k : Int), s1]) k l1) (d2 : DgIn V (.agg #[.int .i64 (k : Int), s2]) k l2)
    (v1 : vldN (k : Int) l1 = true) (v2 : vldN (k : Int) l2 = true) (hx : x < 64) (hg : Good V) :
    Calls Tryz.prog 42 #[.int .i64 (x : Int), .pointer (some ⟨gf, 0, none⟩), .pointer (some ⟨ga, 0, none⟩), .pointer (some ⟨gb, 0, none⟩)] V (RetN V (op (valD k l1 x) (valD k l2 x))) := by
  have HO := Lib.hid O
  obtain ⟨a1, c1, e1, hs1⟩ := d1.dg.parts
  obtain ⟨a2, c2, e2, hs2⟩ := d2.dg.parts
  have hs1e : s1 = .slice a1 l1.length c1 := by injection e1 with e; exact Option.some.inj (congrArg (fun x : Array Value => x[1]?) e)
  have hs2e : s2 = .slice a2 l2.length c2 := by injection e2 with e; exact Option.some.inj (congrArg (fun x : Array Value => x[1]?) e)
  subst hs1e
  subst hs2e
  obtain ⟨k1, q1, hk6, hl1, hm1, hw1, -, -⟩ := vldN_parts v1
  obtain rfl : k = k1 := by omega
  obtain ⟨k2, q2, -, hl2, hm2, hw2, -, -⟩ := vldN_parts v2
  obtain rfl : k = k2 := by omega
  have hp7 := Nat.pow_le_pow_right (show 2 > 0 by omega) (show k + 1 ≤ 7 by omega)
  obtain ⟨T1, hT1⟩ : ∃ T, T = evD k l1 x := ⟨_, rfl⟩
  obtain ⟨T2, hT2⟩ : ∃ T, T = evD k l2 x := ⟨_, rfl⟩
  have r1 : rerr T1 = 0 := by rw [hT1]; exact vldN_at v1 x
  have r2 : rerr T2 = 0 := by rw [hT2]; exact vldN_at v2 x
  have b1 : T1.length ≤ 268435000 := by rw [hT1]; exact evD_short v1 d1.short x
  have b2 : T2.length ≤ 268435000 := by rw [hT2]; exact evD_short v2 d2.short x
  have z1 := rval_sz b1 r1
  have z2 := rval_sz b2 r2
  obtain ⟨X1, hX1⟩ : ∃ X, X = rval T1 := ⟨_, rfl⟩
  obtain ⟨X2, hX2⟩ : ∃ X, X = rval T2 := ⟨_, rfl⟩
  have HA1 := Lib.hid (fun (U : World) (hU : Below V.heap.size V U) => show Calls Tryz.prog 44 #[.agg #[.int .i64 (k : Int), .slice a1 l1.length c1], .int .i64 (x : Int)] U (RetV U (.string ⟨T1.toArray⟩)) from by
    rw [hT1]; exact at_any (d1.dg.below hU) hw1 hl1 (by omega) hk6 hx)
  have HA2 := Lib.hid (fun (U : World) (hU : Below V.heap.size V U) => show Calls Tryz.prog 44 #[.agg #[.int .i64 (k : Int), .slice a2 l2.length c2], .int .i64 (x : Int)] U (RetV U (.string ⟨T2.toArray⟩)) from by
    rw [hT2]; exact at_any (d2.dg.below hU) hw2 hl2 (by omega) hk6 hx)
  have HF1 := Lib.hid (fun (U : World) (hU : Below V.heap.size V U) => show Calls Tryz.prog 43 #[.string ⟨T1.toArray⟩] U (RetN U X1) from by
    rw [hX1]; exact from_any T1 b1 r1 (hg.below hU))
  have HF2 := Lib.hid (fun (U : World) (hU : Below V.heap.size V U) => show Calls Tryz.prog 43 #[.string ⟨T2.toArray⟩] U (RetN U X2) from by
    rw [hX2]; exact from_any T2 b2 r2 (hg.below hU))
  rw [← hX1] at z1
  rw [← hX2] at z2
  have HS := Lib.hid (And.intro z1 z2)
  have hres : op (valD k l1 x) (valD k l2 x) = op X1 X2 := by rw [hX1, hX2, hT1, hT2]; rfl
  rw [hres]
  obtain ⟨W1, hW1, hB1, hs1', j1⟩ := entA V 88 #[.bool false, .slice none 0 0, .bool false, .slice none 0 0]
  have J1 := Lib.hid j1
  have HW1 := Lib.hid hW1
  have HB1 := Lib.hid hB1
  have hfb := hf.next hB1
  have hab := ha.next hB1
  have hbb := hb.next hB1
  have g0 : W1.cell? ⟨gf, 0, none⟩ = some (.func (.func fid) #[] #[]) := hfb.cell 0
  have g1 : W1.cell? ⟨ga, 0, none⟩ = some (.int .i64 (k : Int)) := hab.cell 0
  have g2 : W1.cell? ⟨ga, 1, none⟩ = some (.slice a1 l1.length c1) := hab.cell 1
  have g3 : W1.cell? ⟨gb, 0, none⟩ = some (.int .i64 (k : Int)) := hbb.cell 0
  have g4 : W1.cell? ⟨gb, 1, none⟩ = some (.slice a2 l2.length c2) := hbb.cell 1
  have k0 := hfb.lt
  have k1 := hab.lt
  have k2 := hbb.lt
  have he := O.enter
  generalize (⟨T1.toArray⟩ : ByteArray) = S1 at *
  generalize (⟨T2.toArray⟩ : ByteArray) = S2 at *
  generalize l1.length = n1 at *
  generalize l2.length = n2 at *
  clear O hf ha hb d1 d2 v1 v2 hg e1 e2 hs1 hs2 q1 q2 hl1 hl2 hm1 hm2 hw1 hw2 hp7 hT1 hT2 r1 r2 b1 b2 z1 z2 hX1 hX2 hres hW1 hB1 hs1' j1 hfb hab hbb
  go_enter Tryz.func42, Tryz.ntmps42
  go_upto_region 1 with fail
  rw [← HW1.out]
  clear HW1
  have hBd : Below W1.heap.size W1 W1.drew := (Below.refl _ _).drew
  refine wp_region_list 10 (by kernel_rfl) (by kernel_rfl) [] [fun xv _ => xv = .func (.func fid) #[] #[], fun xv _ => xv = .agg #[.int .i64 (k : Int), .slice a1 n1 c1], fun xv _ => xv = .int .i64 (x : Int), fun xv _ => xv = .string S1, fun xv w' => Nm w' xv X1, fun xv _ => xv = .agg #[.int .i64 (k : Int), .slice a2 n2 c2], fun xv _ => xv = .int .i64 (x : Int), fun xv _ => xv = .string S2, fun xv w' => Nm w' xv X2, fun xv w' => Nm w' xv (op X1 X2)] (by simp only [List.take_succ_cons, List.take_zero]; rfl) (by simp only [List.drop_succ_cons, List.drop_zero]; rfl) (fun vals => by simp only [fam, Act.put, List.setIfInBounds_toArray, List.set_cons_zero, List.set_cons_succ, if_true]; rfl) (by repeat' (first | exact Stab.eq _ _ | exact Stab.wh _ _ | exact Stab.nm _ _ | exact Stab.new _ _ | exact Stab.newn _ _ | exact Stab.tw _ _ _ | exact Stab.lm _ _ _ | exact Stab.onet _ _ _ | exact Stab.pl _ _ _ | exact Stab.dg _ _ _ | exact Stab.nds _ _ | exact Stab.qs _ _ | exact trivial | apply And.intro)) trivial ?_ ?_
  · refine ⟨?_, ?_, ?_, ?_, ?_, ?_, ?_, ?_, ?_, ?_, trivial⟩
    all_goals
      intro vals wy hB1 hp
      dsimp only
      (try simp [preOk, Region.binds, r_anygc, r_anytext] at hp)
      have hb := next_below hBd hB1
      have HU := Lib.hid (next_below HB1.out hb)
      have y0 := keepc hb g0 k0
      have y1 := keepc hb g1 k1
      have y2 := keepc hb g2 k1
      have y3 := keepc hb g3 k2
      have y4 := keepc hb g4 k2
      clear hB1 g0 g1 g2 g3 g4 hb
    case refine_4 =>
      obtain ⟨z1, z2⟩ := hp
      clear y0 y1 y2 y3 y4 he
      go_wp2_with fail
      refine (HA1.out wy HU.out).mono ?_
      rintro e w' ⟨rfl, hb2⟩
      have B2 := Lib.hid hb2
      clear hb2
      go_wp2
      (refine ⟨rfl, _, ?_, rfl, B2.out, trivial⟩; simp only [Act.put, List.setIfInBounds_toArray, List.set_cons_zero, List.set_cons_succ, Nat.zero_add, Nat.reduceAdd, z1, z2])
    case refine_5 =>
      clear y0 y1 y2 y3 y4 he
      go_wp2_with fail
      refine (HF1.out wy HU.out).mono ?_
      rintro e w' ⟨r, rfl, hr, hb2⟩
      obtain ⟨p1, p2, p3, p4, p5, p6, p7, p8, rfl, -, -⟩ := id hr.parts
      have B2 := Lib.hid hb2
      have HRR := Lib.hid hr
      clear hb2 hr
      go_wp2
      (refine ⟨rfl, _, ?_, HRR.out, B2.out, trivial⟩; simp only [Act.put, List.setIfInBounds_toArray, List.set_cons_zero, List.set_cons_succ, Nat.zero_add, Nat.reduceAdd, hp])
    case refine_8 =>
      obtain ⟨z5, z6, z4⟩ := hp
      have Z4 := Lib.hid z4
      clear y0 y1 y2 y3 y4 he z4
      go_wp2_with fail
      refine (HA2.out wy HU.out).mono ?_
      rintro e w' ⟨rfl, hb2⟩
      have B2 := Lib.hid hb2
      clear hb2
      go_wp2
      (refine ⟨rfl, _, ?_, rfl, B2.out, trivial⟩; simp only [Act.put, List.setIfInBounds_toArray, List.set_cons_zero, List.set_cons_succ, Nat.zero_add, Nat.reduceAdd, z5, z6])
    case refine_9 =>
      clear y0 y1 y2 y3 y4 he
      go_wp2_with fail
      refine (HF2.out wy HU.out).mono ?_
      rintro e w' ⟨r, rfl, hr, hb2⟩
      obtain ⟨p1, p2, p3, p4, p5, p6, p7, p8, rfl, -, -⟩ := id hr.parts
      have B2 := Lib.hid hb2
      have HRR := Lib.hid hr
      clear hb2 hr
      go_wp2
      (refine ⟨rfl, _, ?_, HRR.out, B2.out, trivial⟩; simp only [Act.put, List.setIfInBounds_toArray, List.set_cons_zero, List.set_cons_succ, Nat.zero_add, Nat.reduceAdd, hp])
    case refine_10 =>
      obtain ⟨z0, z4, z8⟩ := hp
      have HCL := Lib.hid (HO.out.run wy _ _ X1 X2 z4 z8 HS.out.1 HS.out.2)
      clear y0 y1 y2 y3 y4 z4 z8
      go_wp2_with fail
      refine (HCL.out).mono ?_
      rintro e w' ⟨r, rfl, hr, hb2⟩
      obtain ⟨p1, p2, p3, p4, p5, p6, p7, p8, rfl, -, -⟩ := id hr.parts
      have B2 := Lib.hid hb2
      have HRR := Lib.hid hr
      clear hb2 hr
      go_wp2
      (refine ⟨rfl, _, ?_, HRR.out, B2.out, trivial⟩; simp only [Act.put, List.setIfInBounds_toArray, List.set_cons_zero, List.set_cons_succ, Nat.zero_add, Nat.reduceAdd, z0])
    all_goals
      clear he
      go_wp2
      (first | exact ⟨rfl, _, rfl, rfl, Below.refl _ _, trivial⟩ | (refine ⟨rfl, _, ?_, rfl, Below.refl _ _, trivial⟩; simp only [Act.put, List.setIfInBounds_toArray, List.set_cons_zero, List.set_cons_succ, hp]))
  · rintro vals w1 hB1 ⟨p0, p1, p2, p3, p4, p5, p6, p7, p8, p9, _⟩ hne
    have hb := next_below hBd hB1
    simp only [List.getD_cons_zero, List.getD_cons_succ, Nat.zero_add, Nat.reduceAdd] at p9
    generalize vals 9 = vl at *
    obtain ⟨b9, a9, m9, o9, c9, e9, q9, r9, rfl, -, -⟩ := id p9.parts
    have jr := J1.out.next hb
    obtain ⟨x0, x1, x2, x3⟩ := jr.at4
    obtain ⟨u0, u1, u2, u3⟩ := jr.fr4
    have jw := Lib.hid (jr.four (.bool b9) (.slice a9 m9 o9) (.bool c9) (.slice e9 q9 r9))
    have pw := Lib.hid (p9.four jr (by decide) (.bool b9) (.slice a9 m9 o9) (.bool c9) (.slice e9 q9 r9))
    have pb := Lib.hid (below_four (g := V.heap.size) (HB1.out.trans (hb.mono HB1.out.size)) (Nat.le_refl _) (.bool b9) (.slice a9 m9 o9) (.bool c9) (.slice e9 q9 r9))
    clear hb hB1 hBd hne p0 p1 p2 p3 p4 p5 p6 p7 p8 p9 g0 g1 g2 g3 g4 he jr
    go_wp2
    obtain ⟨d0, d1, d2, d3⟩ := jw.out.at4
    exact bodyPost_ret (v := .agg #[.bool b9, .slice a9 m9 o9, .bool c9, .slice e9 q9 r9]) (by simp [results, Tryz.results42, go_sem, d0, d1, d2, d3]) rfl ⟨_, rfl, pw.out, pb.out⟩
end Go.Proofs.YtpmlmibceiolpaaGreatDoor

/- Sum. -/
set_option linter.unusedSimpArgs false
set_option linter.unusedVariables false
namespace Go.Proofs.YtpmlmibceiolpaaGreatDoor
open Go.RowKit

set_option maxHeartbeats 4000000 in
set_option maxRecDepth 100000 in
theorem sum1c_any {V : World} {gd gv k x v : Nat} {s : Value} {l : List Nd} (hd : Blk V gd 31 #[.int .i64 (k : Int), s]) (hv : Blk V gv 3 #[.int .i64 (v : Int)]) (d1 : DgIn V (.agg #[.int .i64 (k : Int), s]) k l)
    (v1 : vldN (k : Int) l = true) (hx : x < 64) (hv6 : v < 6) (hg : Good V) :
    Calls Tryz.prog 45 #[.int .i64 (x : Int), .pointer (some ⟨gd, 0, none⟩), .pointer (some ⟨gv, 0, none⟩)] V (RetN V (valD k l (setB x v 0) + valD k l (setB x v 1))) := by
  obtain ⟨a1, c1, e1, hs1⟩ := d1.dg.parts
  have hs1e : s = .slice a1 l.length c1 := by injection e1 with e; exact Option.some.inj (congrArg (fun x : Array Value => x[1]?) e)
  subst hs1e
  obtain ⟨k1, q1, hk6, hl1, hm1, hw1, -, -⟩ := vldN_parts v1
  obtain rfl : k = k1 := by omega
  have hp7 := Nat.pow_le_pow_right (show 2 > 0 by omega) (show k + 1 ≤ 7 by omega)
  obtain ⟨-, -, w3, w4, w5⟩ := set6 hx hv6 (show 0 < 2 by omega)
  obtain ⟨-, -, -, -, w6⟩ := set6 hx hv6 (show 1 < 2 by omega)
  have w0 := clr6 hx hv6
  have w1 := shl1 v (by omega)
  obtain ⟨T1, hT1⟩ : ∃ T, T = evD k l (setB x v 0) := ⟨_, rfl⟩
  obtain ⟨T2, hT2⟩ : ∃ T, T = evD k l (setB x v 1) := ⟨_, rfl⟩
  have r1 : rerr T1 = 0 := by rw [hT1]; exact vldN_at v1 _
  have r2 : rerr T2 = 0 := by rw [hT2]; exact vldN_at v1 _
  have b1 : T1.length ≤ 268435000 := by rw [hT1]; exact evD_short v1 d1.short _
  have b2 : T2.length ≤ 268435000 := by rw [hT2]; exact evD_short v1 d1.short _
  have z1 := rval_sz b1 r1
  have z2 := rval_sz b2 r2
  obtain ⟨X1, hX1⟩ : ∃ X, X = rval T1 := ⟨_, rfl⟩
  obtain ⟨X2, hX2⟩ : ∃ X, X = rval T2 := ⟨_, rfl⟩
  have HA1 := Lib.hid (fun (U : World) (hU : Below V.heap.size V U) => show Calls Tryz.prog 44 #[.agg #[.int .i64 (k : Int), .slice a1 l.length c1], .int .i64 ((setB x v 0 : Nat) : Int)] U (RetV U (.string ⟨T1.toArray⟩)) from by
    rw [hT1]; exact at_any (d1.dg.below hU) hw1 hl1 (by omega) hk6 w5)
  have HA2 := Lib.hid (fun (U : World) (hU : Below V.heap.size V U) => show Calls Tryz.prog 44 #[.agg #[.int .i64 (k : Int), .slice a1 l.length c1], .int .i64 ((setB x v 1 : Nat) : Int)] U (RetV U (.string ⟨T2.toArray⟩)) from by
    rw [hT2]; exact at_any (d1.dg.below hU) hw1 hl1 (by omega) hk6 w6)
  have HF1 := Lib.hid (fun (U : World) (hU : Below V.heap.size V U) => show Calls Tryz.prog 43 #[.string ⟨T1.toArray⟩] U (RetN U X1) from by
    rw [hX1]; exact from_any T1 b1 r1 (hg.below hU))
  have HF2 := Lib.hid (fun (U : World) (hU : Below V.heap.size V U) => show Calls Tryz.prog 43 #[.string ⟨T2.toArray⟩] U (RetN U X2) from by
    rw [hX2]; exact from_any T2 b2 r2 (hg.below hU))
  rw [← hX1] at z1
  rw [← hX2] at z2
  have HS := Lib.hid (And.intro z1 z2)
  have hres : valD k l (setB x v 0) + valD k l (setB x v 1) = X1 + X2 := by rw [hX1, hX2, hT1, hT2]; rfl
  rw [hres]
  rw [← w4] at HA1
  obtain ⟨W1, hW1, hB1, hs1', j1⟩ := entA V 88 #[.bool false, .slice none 0 0, .bool false, .slice none 0 0]
  have J1 := Lib.hid j1
  have HW1 := Lib.hid hW1
  have HB1 := Lib.hid hB1
  have hab := hd.next hB1
  have hvb := hv.next hB1
  have g1 : W1.cell? ⟨gd, 0, none⟩ = some (.int .i64 (k : Int)) := hab.cell 0
  have g2 : W1.cell? ⟨gd, 1, none⟩ = some (.slice a1 l.length c1) := hab.cell 1
  have g3 : W1.cell? ⟨gv, 0, none⟩ = some (.int .i64 (v : Int)) := hvb.cell 0
  have k1 := hab.lt
  have k2 := hvb.lt
  generalize (⟨T1.toArray⟩ : ByteArray) = S1 at *
  generalize (⟨T2.toArray⟩ : ByteArray) = S2 at *
  generalize l.length = n1 at *
  generalize setB x v 1 = Y2 at *
  generalize clrB x v = Y1 at *
  obtain ⟨P, hP⟩ : ∃ P, P = 2 ^ v := ⟨_, rfl⟩
  rw [← hP] at w0 w1 w3
  clear hd hv d1 v1 hg e1 hs1 q1 hl1 hm1 hw1 hp7 hT1 hT2 r1 r2 b1 b2 z1 z2 hX1 hX2 hres hW1 hB1 hs1' j1 hab hvb w4 w5 w6 hP
  go_enter Tryz.func45, Tryz.ntmps45
  go_upto_region 1 with fail
  rw [← HW1.out]
  clear HW1
  have hBd : Below W1.heap.size W1 W1.drew := (Below.refl _ _).drew
  refine wp_region_list 15 (by kernel_rfl) (by kernel_rfl) [] [fun xv _ => xv = .agg #[.int .i64 (k : Int), .slice a1 n1 c1], fun xv _ => xv = .int .i64 (x : Int), fun xv _ => xv = .int .i64 (v : Int), fun xv _ => xv = .int .i64 (P : Int), fun xv _ => xv = .int .i64 (Y1 : Int), fun xv _ => xv = .string S1, fun xv w' => Nm w' xv X1, fun xv _ => xv = .agg #[.int .i64 (k : Int), .slice a1 n1 c1], fun xv _ => xv = .int .i64 (x : Int), fun xv _ => xv = .int .i64 (v : Int), fun xv _ => xv = .int .i64 (P : Int), fun xv _ => xv = .int .i64 (Y2 : Int), fun xv _ => xv = .string S2, fun xv w' => Nm w' xv X2, fun xv w' => Nm w' xv (X1 + X2)] (by simp only [List.take_succ_cons, List.take_zero]; rfl) (by simp only [List.drop_succ_cons, List.drop_zero]; rfl) (fun vals => by simp only [fam, Act.put, List.setIfInBounds_toArray, List.set_cons_zero, List.set_cons_succ, if_true]; rfl) (by repeat' (first | exact Stab.eq _ _ | exact Stab.wh _ _ | exact Stab.nm _ _ | exact Stab.new _ _ | exact Stab.newn _ _ | exact Stab.tw _ _ _ | exact Stab.lm _ _ _ | exact Stab.onet _ _ _ | exact Stab.pl _ _ _ | exact Stab.dg _ _ _ | exact Stab.nds _ _ | exact Stab.qs _ _ | exact trivial | apply And.intro)) trivial ?_ ?_
  · refine ⟨?_, ?_, ?_, ?_, ?_, ?_, ?_, ?_, ?_, ?_, ?_, ?_, ?_, ?_, ?_, trivial⟩
    all_goals
      intro vals wy hB1 hp
      dsimp only
      (try simp [preOk, Region.binds, r_anygc, r_anytext] at hp)
      have hb := next_below hBd hB1
      have HU := Lib.hid (next_below HB1.out hb)
      have y1 := keepc hb g1 k1
      have y2 := keepc hb g2 k1
      have y3 := keepc hb g3 k2
      clear hB1 g1 g2 g3 hb
    case refine_4 =>
      clear y1 y2 y3
      go_wp2
      (refine ⟨rfl, _, ?_, rfl, Below.refl _ _, trivial⟩; simp only [Act.put, List.setIfInBounds_toArray, List.set_cons_zero, List.set_cons_succ, Nat.zero_add, Nat.reduceAdd, hp, w1])
    case refine_5 =>
      obtain ⟨z1, z2⟩ := hp
      clear y1 y2 y3
      go_wp2
      (refine ⟨rfl, _, ?_, rfl, Below.refl _ _, trivial⟩; simp only [Act.put, List.setIfInBounds_toArray, List.set_cons_zero, List.set_cons_succ, Nat.zero_add, Nat.reduceAdd, z1, z2, w0])
    case refine_6 =>
      obtain ⟨z1, z2⟩ := hp
      clear y1 y2 y3
      go_wp2_with fail
      refine (HA1.out wy HU.out).mono ?_
      rintro e w' ⟨rfl, hb2⟩
      have B2 := Lib.hid hb2
      clear hb2
      go_wp2
      (refine ⟨rfl, _, ?_, rfl, B2.out, trivial⟩; simp only [Act.put, List.setIfInBounds_toArray, List.set_cons_zero, List.set_cons_succ, Nat.zero_add, Nat.reduceAdd, z1, z2])
    case refine_7 =>
      clear y1 y2 y3
      go_wp2_with fail
      refine (HF1.out wy HU.out).mono ?_
      rintro e w' ⟨r, rfl, hr, hb2⟩
      obtain ⟨p1, p2, p3, p4, p5, p6, p7, p8, rfl, -, -⟩ := id hr.parts
      have B2 := Lib.hid hb2
      have HRR := Lib.hid hr
      clear hb2 hr
      go_wp2
      (refine ⟨rfl, _, ?_, HRR.out, B2.out, trivial⟩; simp only [Act.put, List.setIfInBounds_toArray, List.set_cons_zero, List.set_cons_succ, Nat.zero_add, Nat.reduceAdd, hp])
    case refine_11 =>
      clear y1 y2 y3
      go_wp2
      (refine ⟨rfl, _, ?_, rfl, Below.refl _ _, trivial⟩; simp only [Act.put, List.setIfInBounds_toArray, List.set_cons_zero, List.set_cons_succ, Nat.zero_add, Nat.reduceAdd, hp, w1])
    case refine_12 =>
      obtain ⟨z1, z2⟩ := hp
      clear y1 y2 y3
      go_wp2
      (refine ⟨rfl, _, ?_, rfl, Below.refl _ _, trivial⟩; simp only [Act.put, List.setIfInBounds_toArray, List.set_cons_zero, List.set_cons_succ, Nat.zero_add, Nat.reduceAdd, z1, z2, w3])
    case refine_13 =>
      obtain ⟨z5, z6, z4⟩ := hp
      have Z4 := Lib.hid z4
      clear y1 y2 y3 z4
      go_wp2_with fail
      refine (HA2.out wy HU.out).mono ?_
      rintro e w' ⟨rfl, hb2⟩
      have B2 := Lib.hid hb2
      clear hb2
      go_wp2
      (refine ⟨rfl, _, ?_, rfl, B2.out, trivial⟩; simp only [Act.put, List.setIfInBounds_toArray, List.set_cons_zero, List.set_cons_succ, Nat.zero_add, Nat.reduceAdd, z5, z6])
    case refine_14 =>
      clear y1 y2 y3
      go_wp2_with fail
      refine (HF2.out wy HU.out).mono ?_
      rintro e w' ⟨r, rfl, hr, hb2⟩
      obtain ⟨p1, p2, p3, p4, p5, p6, p7, p8, rfl, -, -⟩ := id hr.parts
      have B2 := Lib.hid hb2
      have HRR := Lib.hid hr
      clear hb2 hr
      go_wp2
      (refine ⟨rfl, _, ?_, HRR.out, B2.out, trivial⟩; simp only [Act.put, List.setIfInBounds_toArray, List.set_cons_zero, List.set_cons_succ, Nat.zero_add, Nat.reduceAdd, hp])
    case refine_15 =>
      obtain ⟨z4, z8⟩ := hp
      have HCL := Lib.hid (num_add (w := wy) z4 z8 HS.out.1 HS.out.2)
      clear y1 y2 y3 z4 z8
      go_wp2_with fail
      refine (HCL.out).mono ?_
      rintro e w' ⟨r, rfl, hr, hb2⟩
      obtain ⟨p1, p2, p3, p4, p5, p6, p7, p8, rfl, -, -⟩ := id hr.parts
      have B2 := Lib.hid hb2
      have HRR := Lib.hid hr
      clear hb2 hr
      go_wp2
      (first | exact ⟨rfl, _, rfl, HRR.out, B2.out, trivial⟩ | (refine ⟨rfl, _, ?_, HRR.out, B2.out, trivial⟩; simp only [Act.put, List.setIfInBounds_toArray, List.set_cons_zero, List.set_cons_succ, Nat.zero_add, Nat.reduceAdd]))
    all_goals
      go_wp2
      (first | exact ⟨rfl, _, rfl, rfl, Below.refl _ _, trivial⟩ | (refine ⟨rfl, _, ?_, rfl, Below.refl _ _, trivial⟩; simp only [Act.put, List.setIfInBounds_toArray, List.set_cons_zero, List.set_cons_succ, hp]))
  · rintro vals w1' hB1 ⟨p0, p1, p2, p3, p4, p5, p6, p7, p8, p9, p10, p11, p12, p13, p14, _⟩ hne
    have hb := next_below hBd hB1
    simp only [List.getD_cons_zero, List.getD_cons_succ, Nat.zero_add, Nat.reduceAdd] at p14
    generalize vals 14 = vl at *
    obtain ⟨b9, a9, m9, o9, c9, e9, q9, r9, rfl, -, -⟩ := id p14.parts
    have jr := J1.out.next hb
    obtain ⟨x0, x1, x2, x3⟩ := jr.at4
    obtain ⟨u0, u1, u2, u3⟩ := jr.fr4
    have jw := Lib.hid (jr.four (.bool b9) (.slice a9 m9 o9) (.bool c9) (.slice e9 q9 r9))
    have pw := Lib.hid (p14.four jr (by decide) (.bool b9) (.slice a9 m9 o9) (.bool c9) (.slice e9 q9 r9))
    have pb := Lib.hid (below_four (g := V.heap.size) (HB1.out.trans (hb.mono HB1.out.size)) (Nat.le_refl _) (.bool b9) (.slice a9 m9 o9) (.bool c9) (.slice e9 q9 r9))
    clear hb hB1 hBd hne p0 p1 p2 p3 p4 p5 p6 p7 p8 p9 p10 p11 p12 p13 p14 g1 g2 g3 jr w0 w1 w3
    go_wp2
    obtain ⟨d0, d1, d2, d3⟩ := jw.out.at4
    exact bodyPost_ret (v := .agg #[.bool b9, .slice a9 m9 o9, .bool c9, .slice e9 q9 r9]) (by simp [results, Tryz.results45, go_sem, d0, d1, d2, d3]) rfl ⟨_, rfl, pw.out, pb.out⟩
end Go.Proofs.YtpmlmibceiolpaaGreatDoor

/- The diagrams of sums. -/
set_option linter.unusedSimpArgs false
set_option linter.unusedVariables false
namespace Go.Proofs.YtpmlmibceiolpaaGreatDoor
open Go.RowKit
open Go.Lib (decDigits itoa nDigits)

theorem text_lenK {k : Nat} {x : Rat} (h : fitsD k x) : (ratText x).length ≤ k + k + 2 := by
  unfold ratText
  rw [List.length_append]
  have h1 := itoa_len x.num
  have h2 := h.1
  have h3 := h.2
  split
  · simp; omega
  · rw [List.length_cons, Lib.decDigits_length]; omega
theorem valD_fit {k : Nat} {l : List Nd} (h : vldN (k : Int) l = true) (y : Nat) : fitsD 2000 (valD k l y) := rerr_fits (vldN_at h y)
theorem opR_fit (op : Int) {x y : Rat} (hx : fitsD 2000 x) (hy : fitsD 2000 y) : fitsD 4001 (opR op x y) := by
  have hn : fitsD 2000 (-y) := by
    have h1 := hy.1; have h2 := hy.2
    exact ⟨by rw [Rat.neg_num, Int.natAbs_neg]; exact h1, by rw [Rat.neg_den]; exact h2⟩
  have ha := fits_up (fits_add hx hy) (show 2000 + 2000 + 1 ≤ 4001 by omega)
  have hs := fits_up (fits_add hx hn) (show 2000 + 2000 + 1 ≤ 4001 by omega)
  have hm := fits_up (fits_mul hx hy) (show 2000 + 2000 ≤ 4001 by omega)
  have h1 := fits_up hx (show 2000 ≤ 4001 by omega)
  have h2 := fits_up hy (show 2000 ≤ 4001 by omega)
  unfold opR
  split
  · exact ha
  · split
    · rw [Rat.sub_eq_add_neg]; exact hs
    · split
      · exact hm
      · split
        · split
          · exact h2
          · exact h1
        · split
          · exact h2
          · exact h1
theorem fit_small {x : Rat} (h : fitsD 4001 x) : Sz 268435456 x ∧ (ratText x).length ≤ maxLen := ⟨(sz_of_fits h).mono (by omega), Nat.le_trans (text_lenK h) (by unfold maxLen; omega)⟩
theorem DgIn.like {w w' : World} {m : Int} {a : Option Addr} {c B : Nat} {l : List Nd} (hs : Nds w (.slice a l.length c) l) (hl : Like B w w') (hB : B = w.heap.size) (f : l.length ≤ 1000000) (s : ∀ n ∈ l, n.2.2.2.length ≤ 268435000) : DgIn w' (.agg #[.int .i64 m, .slice a l.length c]) m l := by
  subst hB
  exact ⟨⟨_, rfl, hs.keep hl⟩, f, s⟩
/-- Is the argument of Sum right? -/
def smB (v m : Int) : Bool := decide (0 ≤ v ∧ v < m)

set_option maxHeartbeats 4000000 in
set_option maxRecDepth 100000 in
theorem sum_any {W : World} {d : Value} {m v : Int} {l : List Nd} (h : DgIn W d m l) (hg : Good W) :
    Calls Tryz.prog 19 #[d, .int .i64 v] W (RetDg W (sumR v m l)) := by
  obtain ⟨a, c, rfl, hs⟩ := h.dg.parts
  obtain ⟨W3, hW3, hB3, hs3, i1, i2⟩ := entB W 31 3 #[.int .i64 m, .slice a l.length c] #[.int .i64 v]
  obtain ⟨W4, hW4, hB4, hs4, i4⟩ := entA W3 31 #[.int .i64 0, .slice none 0 0]
  have hsz : W3.heap.size = W.heap.size + 1 + 1 := by omega
  rw [hsz] at i4 hs4
  have j1 := i1.next hB4
  have j2 : Blk W4 (W.heap.size + 1) 3 #[.int .i64 v] := i2.next hB4
  have kk0 := hB3.trans (hB4.mono hB3.size)
  have HV := Lib.hid (valid_any (h.dg.below kk0) h.few h.short (hg.below kk0))
  have HD := Lib.hid (fun (V : World) (hV : Below W.heap.size W V) => hs.below hV)
  have HGD := Lib.hid (fun (V : World) (hV : Below W.heap.size W V) => hg.below hV)
  have HFW := Lib.hid h.few
  have HSH := Lib.hid h.short
  obtain ⟨RES, hRES⟩ : ∃ R, R = sumR v m l := ⟨_, rfl⟩
  rw [← hRES]
  have HR := Lib.hid (show RES = if vldN m l then (if 0 ≤ v ∧ v < m then cmbR (fun y => valD m.toNat l (setB y v.toNat 0) + valD m.toNat l (setB y v.toNat 1)) m.toNat else (0, [], 2)) else (0, [], 260) from hRES)
  have HVP := Lib.hid (fun (h : vldN m l = true) => vldN_parts h)
  have HW4 := Lib.hid (show W4 = ((W.alloc (.cells #[.int .i64 m, .slice a l.length c] 31)).alloc (.cells #[.int .i64 v] 3)).alloc (.cells #[.int .i64 0, .slice none 0 0] 31) from by rw [hW4, hW3])
  have J1 := Lib.hid j1
  have J2 := Lib.hid j2
  have J4 := Lib.hid i4
  have K0 := Lib.hid kk0
  have d0 : W4.cell? ⟨W.heap.size, 0, none⟩ = some (.int .i64 m) := j1.cell 0
  have d1 : W4.cell? ⟨W.heap.size, 1, none⟩ = some (.slice a l.length c) := j1.cell 1
  obtain ⟨n, hn⟩ : ∃ n, n = l.length := ⟨_, rfl⟩
  rw [← hn] at HV HW4 d1 J1 HD
  rw [← hn]
  have HN := Lib.hid hn
  clear hW3 hB3 hs3 i1 i2 hW4 hB4 hs4 i4 hsz j1 j2 kk0 hs h hg hRES hn
  generalize hVB : vldN m l = VB at HV
  have HVB := Lib.hid hVB
  clear hVB
  go_enter Tryz.func19, Tryz.ntmps19
  go_upto_region 1 with fail
  rw [← HW4.out]
  clear HW4
  go_wp2_with fail
  refine (HV.out).mono ?_
  rintro e w2 ⟨rfl, hb⟩
  have j1 := J1.out.next hb
  have j2 := J2.out.next hb
  have j4 := J4.out.next hb
  have kk := K0.out.trans (hb.mono K0.out.size)
  clear hb HV d0 d1 J1 J2 J4 K0
  obtain ⟨gr, hgrE⟩ : ∃ g, g = W.heap.size + 1 + 1 := ⟨_, rfl⟩
  have hgr : W.heap.size ≤ gr := by omega
  rw [← hgrE] at j4
  rw [← hgrE]
  have HGR := Lib.hid hgr
  clear hgrE
  cases VB with
  | false =>
    have hr := Lib.hid (show RES = (0, [], 260) from by rw [HR.out, HVB.out]; rfl)
    clear j1 j2
    have hj5 := j4.two (.int .i64 0) (.slice none 0 0)
    have D0 := Lib.hid (hj5.cell 0)
    have D1 := Lib.hid (hj5.cell 1)
    have KK := Lib.hid ((kk.setCell (p := ⟨gr, 0, none⟩) hgr (.int .i64 0)).setCell (p := ⟨gr, 1, none⟩) hgr (.slice none 0 0))
    obtain ⟨x0, x1⟩ : _ ∧ _ := ⟨j4.cell0, j4.cell1⟩
    have f0 := j4.frozen 0
    have f1 := j4.frozen 1
    clear hj5 kk j4
    go_wp2
    have d0 := D0.out
    have d1 := D1.out
    rw [hr.out]
    exact bodyPost_ret (v := .tuple #[.agg #[.int .i64 0, .slice none 0 0], .int .i64 260]) (by simp [results, Tryz.results19, go_sem, d0, d1]) rfl ⟨none, 0, rfl, Nds.nil _, KK.out⟩
  | true =>
    obtain ⟨k, rfl, hk6, hl0, hl1, hwf, -, hlf⟩ := HVP.out HVB.out
    have hr1 := Lib.hid (show RES = if 0 ≤ v ∧ v < (k : Int) then cmbR (fun y => valD k l (setB y v.toNat 0) + valD k l (setB y v.toNat 1)) k else (0, [], 2) from by rw [HR.out, HVB.out, if_pos rfl]; rfl)
    have e0 : w2.cell? ⟨W.heap.size, 0, none⟩ = some (.int .i64 (k : Int)) := j1.cell 0
    have e1 : w2.cell? ⟨W.heap.size + 1, 0, none⟩ = some (.int .i64 v) := j2.cell 0
    have J1 := Lib.hid j1
    have J2 := Lib.hid j2
    have J4 := Lib.hid j4
    have KX := Lib.hid kk
    clear hl0 hl1 hwf hlf HR HVP j1 j2 j4 kk
    go_upto_region 3 with fail
    go_cut [17] from 999 to 999 (fun c wx => c = .bool (!smB v (k : Int)) ∧ w2 = wx)
    case first =>
      by_cases h1 : v < 0
      · have HB := Lib.hid (show smB v (k : Int) = false from by unfold smB; exact decide_eq_false (by omega))
        go_wp2
        go_meet
        case rel => exact ⟨by rw [HB.out]; rfl, rfl⟩
      · by_cases h2 : (k : Int) ≤ v
        · have HB := Lib.hid (show smB v (k : Int) = false from by unfold smB; exact decide_eq_false (by omega))
          go_wp2
          go_meet
          case rel => exact ⟨by rw [HB.out]; rfl, rfl⟩
        · have HB := Lib.hid (show smB v (k : Int) = true from by unfold smB; exact decide_eq_true ⟨by omega, by omega⟩)
          go_wp2
          go_meet
          case rel => exact ⟨by rw [HB.out]; rfl, rfl⟩
    case rest =>
      obtain ⟨rfl, rfl⟩ := hcut
      have HFX := Lib.hid (show smB v (k : Int) = decide (0 ≤ v ∧ v < (k : Int)) from rfl)
      generalize smB v (k : Int) = FB at *
      cases FB with
      | false =>
        have hr := Lib.hid (show RES = (0, [], 2) from by rw [hr1.out, if_neg (of_decide_eq_false HFX.out.symm)])
        have j4 := J4.out
        have kk := KX.out
        clear e0 e1
        have hj5 := j4.two (.int .i64 0) (.slice none 0 0)
        have D0 := Lib.hid (hj5.cell 0)
        have D1 := Lib.hid (hj5.cell 1)
        have KK := Lib.hid ((kk.setCell (p := ⟨gr, 0, none⟩) hgr (.int .i64 0)).setCell (p := ⟨gr, 1, none⟩) hgr (.slice none 0 0))
        obtain ⟨x0, x1⟩ : _ ∧ _ := ⟨j4.cell0, j4.cell1⟩
        have f0 := j4.frozen 0
        have f1 := j4.frozen 1
        clear hj5 kk j4
        go_wp2
        have d0 := D0.out
        have d1 := D1.out
        rw [hr.out]
        exact bodyPost_ret (v := .tuple #[.agg #[.int .i64 0, .slice none 0 0], .int .i64 2]) (by simp [results, Tryz.results19, go_sem, d0, d1]) rfl ⟨none, 0, rfl, Nds.nil _, KK.out⟩
      | true =>
        obtain ⟨s1, s2⟩ := of_decide_eq_true HFX.out.symm
        obtain ⟨v', rfl⟩ := Int.eq_ofNat_of_zero_le s1
        have hr := Lib.hid (show RES = cmbR (fun y => valD k l (setB y v' 0) + valD k l (setB y v' 1)) k from by rw [hr1.out, if_pos ⟨s1, s2⟩]; rfl)
        have HMD := Lib.hid (show Calls Tryz.prog 41 #[.int .i64 (k : Int), .func (.func 45) #[] #[.pointer (some ⟨W.heap.size, 0, none⟩), .pointer (some ⟨W.heap.size + 1, 0, none⟩)]] w2 (RetDg w2 (cmbR (fun y => valD k l (setB y v' 0) + valD k l (setB y v' 1)) k)) from by
          refine combined_any (enters_of Tryz.func45 (by kernel_rfl) rfl) hk6 (fun V' x hx hS hl => ?_) (fun x hx => fit_small (opR_fit 1 (valD_fit HVB.out _) (valD_fit HVB.out _))) (HGD.out w2 KX.out)
          have hd := HD.out w2 KX.out
          rw [HN.out] at hd
          have h1 := ((hl W.heap.size J1.out.lt).trans J1.out)
          rw [HN.out] at h1
          exact sum1c_any (V := V') h1 ((hl (W.heap.size + 1) J2.out.lt).trans J2.out) (DgIn.like hd hl rfl HFW.out HSH.out) HVB.out (Nat.lt_of_lt_of_le hx (Nat.le_trans (Nat.pow_le_pow_right (by omega) hk6) (by decide))) (by omega) ((HGD.out w2 KX.out).like hS hl))
        rw [← hr.out] at HMD
        clear s1 s2 HFX hr1 e1 hr
        obtain ⟨r1, r2, r3⟩ := RES
        go_wp2_with fail
        refine (HMD.out).mono ?_
        rintro e w4 ⟨a5, c5, rfl, m1, m4⟩
        have j2 := J4.out.next m4
        have hj5 := j2.two (.int .i64 r1) (.slice a5 r2.length c5)
        have D0 := Lib.hid (hj5.cell 0)
        have D1 := Lib.hid (hj5.cell 1)
        have hn5 := m1.away (w' := (w4.setCell ⟨gr, 0, none⟩ (.int .i64 r1)).setCell ⟨gr, 1, none⟩ (.slice a5 r2.length c5)) (fun j hj => by
          rw [Below.heap_setCell _ ⟨gr, 1, none⟩ _ j hj, Below.heap_setCell _ ⟨gr, 0, none⟩ _ j hj]) j2.cell1
        have N5 := Lib.hid hn5
        have KK := Lib.hid (((KX.out.trans (m4.mono KX.out.size)).setCell (p := ⟨gr, 0, none⟩) HGR.out (.int .i64 r1)).setCell (p := ⟨gr, 1, none⟩) HGR.out (.slice a5 r2.length c5))
        obtain ⟨x0, x1⟩ : _ ∧ _ := ⟨j2.cell0, j2.cell1⟩
        have f0 := j2.frozen 0
        have f1 := j2.frozen 1
        clear hj5 j2 m1 m4 hn5 HMD e0
        go_wp2
        have d0 := D0.out
        have d1 := D1.out
        exact bodyPost_ret (v := .tuple #[.agg #[.int .i64 r1, .slice a5 r2.length c5], .int .i64 r3]) (by simp [results, Tryz.results19, go_sem, d0, d1]) rfl ⟨a5, c5, rfl, N5.out, KK.out⟩
end Go.Proofs.YtpmlmibceiolpaaGreatDoor
