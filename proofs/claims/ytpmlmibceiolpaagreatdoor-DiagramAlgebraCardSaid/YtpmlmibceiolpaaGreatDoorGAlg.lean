/- DiagramAlgebra answers true. -/
import Derived.Test.YtpmlmibceiolpaaGreatDoorGDv
import Derived.Test.YtpmlmibceiolpaaGreatDoorGBox
import Derived.Test.YtpmlmibceiolpaaGreatDoorGOpen3
set_option linter.unusedSimpArgs false
set_option linter.unusedVariables false
namespace Go.Proofs.YtpmlmibceiolpaaGreatDoor
open Go.RowKit

set_option maxHeartbeats 16000000 in
set_option maxRecDepth 100000 in
theorem alg_add {W : World} {s1 s2 s3 : Value} {vr1 kd1 vr2 kd2 vr3 kd3 m : Nat} {zs1 zs2 zs3 : List Nat} (h1 : Dft W (.agg #[.int .u8 (vr1 : Int), .int .u8 (kd1 : Int), s1]) vr1 kd1 zs1) (h2 : Dft W (.agg #[.int .u8 (vr2 : Int), .int .u8 (kd2 : Int), s2]) vr2 kd2 zs2) (h3 : Dft W (.agg #[.int .u8 (vr3 : Int), .int .u8 (kd3 : Int), s3]) vr3 kd3 zs3) (hm : m < 256) (hg : Good W) :
    Calls Tryz.prog 5 #[.agg #[.int .u8 (vr1 : Int), .int .u8 (kd1 : Int), s1, .int .u8 (vr2 : Int), .int .u8 (kd2 : Int), s2, .int .u8 (vr3 : Int), .int .u8 (kd3 : Int), s3], .int .u8 (m : Int), .bool false] W (RetV W (.bool true)) := by
  obtain ⟨x1, e1, u1⟩ := id h1.is
  obtain rfl : s1 = x1 := by injection e1 with e; exact Option.some.inj (congrArg (fun x : Array Value => x[2]?) e)
  obtain ⟨a1, c1, f1, -⟩ := u1.open_
  subst f1
  obtain ⟨x2, e2, u2⟩ := id h2.is
  obtain rfl : s2 = x2 := by injection e2 with e; exact Option.some.inj (congrArg (fun x : Array Value => x[2]?) e)
  obtain ⟨a2, c2, f2, -⟩ := u2.open_
  subst f2
  obtain ⟨x3, e3, u3⟩ := id h3.is
  obtain rfl : s3 = x3 := by injection e3 with e; exact Option.some.inj (congrArg (fun x : Array Value => x[2]?) e)
  obtain ⟨a3, c3, f3, -⟩ := u3.open_
  subst f3
  obtain ⟨n, hn⟩ : ∃ n, n = m % 5 := ⟨_, rfl⟩
  have hn5 : (m : Int) % 5 = (n : Int) := by omega
  have hn5t : (m : Int).tmod 5 = (n : Int) := by rw [Int.tmod_eq_emod_of_nonneg (by omega)]; omega
  have hn6 : n ≤ 6 := by omega
  have HN5 := Lib.hid (And.intro hn5 hn5t)
  obtain ⟨ha, hha⟩ : ∃ h, h = dtV kd1 zs1 := ⟨_, rfl⟩
  obtain ⟨La, hLa⟩ : ∃ L, L = dgV ha n := ⟨_, rfl⟩
  have HVa := Lib.hid (show Vl ha n 4 ∧ La = dgV ha n from ⟨by rw [hha]; exact dtV_vl _ _ _ hn6, hLa⟩)
  have HTa := Lib.hid (fun (V : World) (hV : Below W.heap.size W V) => show Calls Tryz.prog 17 #[.agg #[.int .u8 (vr1 : Int), .int .u8 (kd1 : Int), .slice a1 zs1.length c1], .int .i64 (n : Int)] V (RetDm V n La) from by rw [hLa, hha]; exact with_any (h1.below hV) hn6)
  obtain ⟨hb, hhb⟩ : ∃ h, h = dtV kd2 zs2 := ⟨_, rfl⟩
  obtain ⟨Lb, hLb⟩ : ∃ L, L = dgV hb n := ⟨_, rfl⟩
  have HVb := Lib.hid (show Vl hb n 4 ∧ Lb = dgV hb n from ⟨by rw [hhb]; exact dtV_vl _ _ _ hn6, hLb⟩)
  have HTb := Lib.hid (fun (V : World) (hV : Below W.heap.size W V) => show Calls Tryz.prog 17 #[.agg #[.int .u8 (vr2 : Int), .int .u8 (kd2 : Int), .slice a2 zs2.length c2], .int .i64 (n : Int)] V (RetDm V n Lb) from by rw [hLb, hhb]; exact with_any (h2.below hV) hn6)
  obtain ⟨hc, hhc⟩ : ∃ h, h = dtV kd3 zs3 := ⟨_, rfl⟩
  obtain ⟨Lc, hLc⟩ : ∃ L, L = dgV hc n := ⟨_, rfl⟩
  have HVc := Lib.hid (show Vl hc n 4 ∧ Lc = dgV hc n from ⟨by rw [hhc]; exact dtV_vl _ _ _ hn6, hLc⟩)
  have HTc := Lib.hid (fun (V : World) (hV : Below W.heap.size W V) => show Calls Tryz.prog 17 #[.agg #[.int .u8 (vr3 : Int), .int .u8 (kd3 : Int), .slice a3 zs3.length c3], .int .i64 (n : Int)] V (RetDm V n Lc) from by rw [hLc, hhc]; exact with_any (h3.below hV) hn6)
  have HGD := Lib.hid (fun (V : World) (hV : Below W.heap.size W V) => hg.below hV)
  obtain ⟨W1, hW1, hB1, hs1, j1⟩ := entA W 44 #[.int .u8 (vr1 : Int), .int .u8 (kd1 : Int), .slice a1 zs1.length c1, .int .u8 (vr2 : Int), .int .u8 (kd2 : Int), .slice a2 zs2.length c2, .int .u8 (vr3 : Int), .int .u8 (kd3 : Int), .slice a3 zs3.length c3]
  have K := Lib.hid hB1
  have HW1 := Lib.hid hW1
  have JD := Lib.hid j1
  generalize zs1.length = n1 at *
  generalize zs2.length = n2 at *
  generalize zs3.length = n3 at *
  clear h1 h2 h3 e1 e2 e3 u1 u2 u3 hg hB1 hW1 hs1 j1 hn hn5 hn5t hn6 hm hha hhb hhc hLa hLb hLc
  go_enter Tryz.func5, Tryz.ntmps5
  go_upto_region 1 with fail
  rw [← HW1.out]
  clear HW1
  generalize W.heap.size = gb at JD
  go_wp2_with fail
  refine (wakes_any (HGD.out _ K.out)).mono ?_
  rintro e w0 ⟨rfl, hb⟩
  replace K := Lib.hid (next_below K.out hb)
  replace JD := Lib.hid (JD.out.next hb)
  clear hb
  obtain ⟨hn5, hn5t⟩ := HN5.out
  go_upto_region 7 with fail
  clear hn5 hn5t HN5
  have HSZ := Lib.hid K.out.size
  have hBd : Below w0.heap.size w0 w0.drew := (Below.refl _ _).drew
  refine wp_region_box 16 12 15 3 31 #[.int .i64 0, .slice none 0 0] (fun v => v.cells) (by kernel_rfl) (by kernel_rfl) (by kernel_rfl) [12, 13, 14] rfl rfl [fun xv _ => xv = .pointer (some ⟨gb, 0, none⟩), fun xv _ => xv = .agg #[.int .u8 (vr1 : Int), .int .u8 (kd1 : Int), .slice a1 n1 c1], fun xv _ => xv = .int .i64 (n : Int), RetB n La, fun xv _ => xv = .pointer (some ⟨gb, 3, none⟩), fun xv _ => xv = .agg #[.int .u8 (vr2 : Int), .int .u8 (kd2 : Int), .slice a2 n2 c2], fun xv _ => xv = .int .i64 (n : Int), RetB n Lb, fun xv _ => xv = .pointer (some ⟨gb, 6, none⟩), fun xv _ => xv = .agg #[.int .u8 (vr3 : Int), .int .u8 (kd3 : Int), .slice a3 n3 c3], fun xv _ => xv = .int .i64 (n : Int), RetB n Lc, NewB w0.heap.size 31 #[.int .i64 0, .slice none 0 0], NewB w0.heap.size 31 #[.int .i64 0, .slice none 0 0], NewB w0.heap.size 31 #[.int .i64 0, .slice none 0 0], fun _ _ => True] (by simp only [List.take_succ_cons, List.take_zero]; rfl) (by simp only [List.drop_succ_cons, List.drop_zero]; rfl) (fun vals => by simp only [fam, Act.put, List.setIfInBounds_toArray, List.set_cons_zero, List.set_cons_succ, if_true]; rfl) (by repeat' (first | exact Stab.eq _ _ | exact Stab.wh _ _ | exact Stab.nm _ _ | exact Stab.new _ _ | exact Stab.newn _ _ | exact Stab.tw _ _ _ | exact Stab.lm _ _ _ | exact Stab.onet _ _ _ | exact Stab.pl _ _ _ | exact Stab.dg _ _ _ | exact Stab.nds _ _ | exact Stab.qs _ _ | exact NewB.stab | exact RetB.stab | exact Stab.none _ | exact trivial | apply And.intro)) ⟨NewB.new, NewB.new, NewB.new, trivial⟩ (fun _ _ h => h) (by repeat' (first | exact StabS.eq _ _ _ _ _ | exact NewB.stabS | exact trivial | exact RetB.stabS rfl | exact StabS.none _ _ _ _ | apply And.intro)) ?_ ?_
  · refine ⟨?_, ?_, ?_, ?_, ?_, ?_, ?_, ?_, ?_, ?_, ?_, ?_, ?_, ?_, ?_, ?_, trivial⟩
    all_goals
      intro vals wy hB1 hp
      (first | change wpList _ _ (EndAt _ _ _ _ _) _ _ _ | change wpList _ _ (EndB _ _ _ _ _ _) _ _ _)
      (try simp [preOk, Region.binds, r_anygc, r_anytext] at hp)
      have hb := next_below hBd hB1
      have KU := Lib.hid (next_below K.out hb)
    case refine_2 =>
      clear hB1
      (try simp only [hp])
      have y0 : wy.cell? ⟨gb, 0, none⟩ = some (.int .u8 (vr1 : Int)) := (JD.out.next hb).cell 0
      have y1 : wy.cell? ⟨gb, 1, none⟩ = some (.int .u8 (kd1 : Int)) := (JD.out.next hb).cell 1
      have y2 : wy.cell? ⟨gb, 2, none⟩ = some (.slice a1 n1 c1) := (JD.out.next hb).cell 2
      go_wp2
      (first | exact ⟨rfl, _, rfl, rfl, Below.refl _ _, trivial⟩ | (refine ⟨rfl, _, ?_, rfl, Below.refl _ _, trivial⟩; simp only [Act.put, List.setIfInBounds_toArray, List.set_cons_zero, List.set_cons_succ, Nat.zero_add, Nat.reduceAdd, hp]))
    case refine_4 =>
      clear hB1
      (try simp only [hp])
      go_wp2_with fail
      refine (HTa.out _ KU.out).mono ?_
      rintro e w' ⟨aa, cc, rfl, hn2, hb2⟩
      go_wp2
      exact ⟨rfl, _, rfl, ⟨aa, cc, rfl, hn2⟩, hb2, trivial⟩
    case refine_6 =>
      clear hB1
      (try simp only [hp])
      have y0 : wy.cell? ⟨gb, 3, none⟩ = some (.int .u8 (vr2 : Int)) := (JD.out.next hb).cell 3
      have y1 : wy.cell? ⟨gb, 4, none⟩ = some (.int .u8 (kd2 : Int)) := (JD.out.next hb).cell 4
      have y2 : wy.cell? ⟨gb, 5, none⟩ = some (.slice a2 n2 c2) := (JD.out.next hb).cell 5
      go_wp2
      (first | exact ⟨rfl, _, rfl, rfl, Below.refl _ _, trivial⟩ | (refine ⟨rfl, _, ?_, rfl, Below.refl _ _, trivial⟩; simp only [Act.put, List.setIfInBounds_toArray, List.set_cons_zero, List.set_cons_succ, Nat.zero_add, Nat.reduceAdd, hp]))
    case refine_8 =>
      clear hB1
      (try simp only [hp])
      go_wp2_with fail
      refine (HTb.out _ KU.out).mono ?_
      rintro e w' ⟨aa, cc, rfl, hn2, hb2⟩
      go_wp2
      exact ⟨rfl, _, rfl, ⟨aa, cc, rfl, hn2⟩, hb2, trivial⟩
    case refine_10 =>
      clear hB1
      (try simp only [hp])
      have y0 : wy.cell? ⟨gb, 6, none⟩ = some (.int .u8 (vr3 : Int)) := (JD.out.next hb).cell 6
      have y1 : wy.cell? ⟨gb, 7, none⟩ = some (.int .u8 (kd3 : Int)) := (JD.out.next hb).cell 7
      have y2 : wy.cell? ⟨gb, 8, none⟩ = some (.slice a3 n3 c3) := (JD.out.next hb).cell 8
      go_wp2
      (first | exact ⟨rfl, _, rfl, rfl, Below.refl _ _, trivial⟩ | (refine ⟨rfl, _, ?_, rfl, Below.refl _ _, trivial⟩; simp only [Act.put, List.setIfInBounds_toArray, List.set_cons_zero, List.set_cons_succ, Nat.zero_add, Nat.reduceAdd, hp]))
    case refine_12 =>
      clear hB1
      (try simp only [hp])
      go_wp2_with fail
      refine (HTc.out _ KU.out).mono ?_
      rintro e w' ⟨aa, cc, rfl, hn2, hb2⟩
      go_wp2
      exact ⟨rfl, _, rfl, ⟨aa, cc, rfl, hn2⟩, hb2, trivial⟩
    case refine_13 =>
      have hle := hb.size
      clear hB1
      go_wp2
      exact ⟨rfl, _, rfl, ⟨_, rfl, hle, Blk.new _ _ _⟩, (Below.refl _ _).alloc (Nat.le_refl _) _, rfl⟩
    case refine_14 =>
      have hle := hb.size
      clear hB1
      go_wp2
      exact ⟨rfl, _, rfl, ⟨_, rfl, hle, Blk.new _ _ _⟩, (Below.refl _ _).alloc (Nat.le_refl _) _, rfl⟩
    case refine_15 =>
      have hle := hb.size
      clear hB1
      go_wp2
      exact ⟨rfl, _, rfl, ⟨_, rfl, hle, Blk.new _ _ _⟩, (Below.refl _ _).alloc (Nat.le_refl _) _, rfl⟩
    case refine_16 =>
      have h3 : RetB n La (vals 3) wy := by simp only [hp]
      have h12 : NewB w0.heap.size 31 #[.int .i64 0, .slice none 0 0] (vals 12) wy := by simp only [hp]
      obtain ⟨aa, cc, e3, hn3⟩ := h3
      obtain ⟨gg, e12, hgg, j2⟩ := h12
      simp only [e3, e12]
      obtain ⟨x0, x1⟩ : _ ∧ _ := ⟨j2.cell0, j2.cell1⟩
      have f0 := j2.frozen 0
      have f1 := j2.frozen 1
      have J3 := Lib.hid (j2.two (.int .i64 (n : Int)) (.slice aa La.length cc))
      clear j2 hB1 hn3 e3 e12 hp
      go_wp2
      exact ⟨rfl, rfl, gg, rfl, J3.out, Chg.two _ _ _ _⟩
    all_goals
      clear hB1
      (try simp only [hp])
      go_wp2
      (first | exact ⟨rfl, _, rfl, rfl, Below.refl _ _, trivial⟩ | (refine ⟨rfl, _, ?_, rfl, Below.refl _ _, trivial⟩; simp only [Act.put, List.setIfInBounds_toArray, List.set_cons_zero, List.set_cons_succ, Nat.zero_add, Nat.reduceAdd, hp]))
  · rintro vals w3 hB1 ⟨p0, p1, p2, p3, p4, p5, p6, p7, p8, p9, p10, p11, p12, p13, p14, p15, _⟩ hne
    have hb := next_below hBd hB1
    replace K := Lib.hid (next_below K.out hb)
    clear JD
    have ra : RetB n La (vals 3) w3 := p3
    obtain ⟨aa, ca, ea, da⟩ := ra
    have ia : InBox 31 (fun v => v.cells) (vals 12) (vals 3) w3 := p12
    rw [ea] at ia
    obtain ⟨ga, sa, ba⟩ := ia
    have rb : RetB n Lb (vals 7) w3 := p7
    obtain ⟨ab, cb, eb, db⟩ := rb
    have ib : NewB w0.heap.size 31 #[.int .i64 0, .slice none 0 0] (vals 13) w3 := p13
    obtain ⟨gb, sb, lb, bb⟩ := ib
    have rc : RetB n Lc (vals 11) w3 := p11
    obtain ⟨ac, cc, ec, dc⟩ := rc
    have ic : NewB w0.heap.size 31 #[.int .i64 0, .slice none 0 0] (vals 14) w3 := p14
    obtain ⟨gc, sc, lc, bc⟩ := ic
    have hab : some ga ≠ some gb := fun e => hne 12 13 rfl rfl (by omega) (by omega) (by omega) (by rw [sa, sb]; injection e with e; rw [e])
    have hac : some ga ≠ some gc := fun e => hne 12 14 rfl rfl (by omega) (by omega) (by omega) (by rw [sa, sc]; injection e with e; rw [e])
    have hbc : some gb ≠ some gc := fun e => hne 13 14 rfl rfl (by omega) (by omega) (by omega) (by rw [sb, sc]; injection e with e; rw [e])
    have ba : Blk w3 ga 31 #[.int .i64 (n : Int), .slice aa La.length ca] := ba
    simp only [List.getD_cons_zero, List.getD_cons_succ, Nat.zero_add, Nat.reduceAdd, ea, sa, eb, sb, ec, sc]
    clear hb hB1 hne hBd p0 p1 p2 p3 p4 p5 p6 p7 p8 p9 p10 p11 p12 p13 p14 p15 ea sa eb sb ec sc
    obtain ⟨u1, hu1⟩ : ∃ X, X = ((w3.setCell ⟨gb, 0, none⟩ (.int .i64 (n : Int))).setCell ⟨gb, 1, none⟩ (.slice ab Lb.length cb)) := ⟨_, rfl⟩
    have hc : Chg (some gb) w3 u1 := by rw [hu1]; exact Chg.two _ _ _ _
    have z1 : w3.cell? ⟨gb, 1, none⟩ = some (.slice none 0 0) := bb.cell 1
    have kb := And.intro (And.intro bb.cell0 bb.cell1) (And.intro (bb.frozen 0) (bb.frozen 1))
    have Kb := Lib.hid kb
    clear kb
    replace da := da.chg hc z1 (fun k z e => by cases e)
    replace db := db.chg hc z1 (fun k z e => by cases e)
    replace dc := dc.chg hc z1 (fun k z e => by cases e)
    replace K := Lib.hid (K.out.trans (hc.below1 (Nat.le_trans HSZ.out lb) (K.out.size)))
    replace ba := ba.grown hc hab
    replace bb : Blk u1 gb 31 #[.int .i64 (n : Int), .slice ab Lb.length cb] := by rw [hu1]; exact bb.two _ _
    replace bc := bc.grown hc (Ne.symm hbc)
    have Hu1 := Lib.hid hu1
    clear hu1 hc z1
    obtain ⟨u2, hu2⟩ : ∃ X, X = ((u1.setCell ⟨gc, 0, none⟩ (.int .i64 (n : Int))).setCell ⟨gc, 1, none⟩ (.slice ac Lc.length cc)) := ⟨_, rfl⟩
    have hc : Chg (some gc) u1 u2 := by rw [hu2]; exact Chg.two _ _ _ _
    have z1 : u1.cell? ⟨gc, 1, none⟩ = some (.slice none 0 0) := bc.cell 1
    have kc := And.intro (And.intro bc.cell0 bc.cell1) (And.intro (bc.frozen 0) (bc.frozen 1))
    have Kc := Lib.hid kc
    clear kc
    replace da := da.chg hc z1 (fun k z e => by cases e)
    replace db := db.chg hc z1 (fun k z e => by cases e)
    replace dc := dc.chg hc z1 (fun k z e => by cases e)
    replace K := Lib.hid (K.out.trans (hc.below1 (Nat.le_trans HSZ.out lc) (K.out.size)))
    replace ba := ba.grown hc hac
    replace bb := bb.grown hc hbc
    replace bc : Blk u2 gc 31 #[.int .i64 (n : Int), .slice ac Lc.length cc] := by rw [hu2]; exact bc.two _ _
    have Hu2 := Lib.hid hu2
    clear hu2 hc z1
    have Ba := Lib.hid ba
    have Da : Hid (DV u2 n ha 4 aa ca La) := Lib.hid ⟨da, HVa.out.1, HVa.out.2⟩
    clear ba da
    have Bb := Lib.hid bb
    have Db : Hid (DV u2 n hb 4 ab cb Lb) := Lib.hid ⟨db, HVb.out.1, HVb.out.2⟩
    clear bb db
    have Bc := Lib.hid bc
    have Dc : Hid (DV u2 n hc 4 ac cc Lc) := Lib.hid ⟨dc, HVc.out.1, HVc.out.2⟩
    clear bc dc
    obtain ⟨⟨yb0, yb1⟩, yb2, yb3⟩ := Kb.out
    obtain ⟨⟨yc0, yc1⟩, yc2, yc3⟩ := Kc.out
    clear Kb Kc
    rw [Hu1.out] at yc0 yc1 yc2 yc3
    go_upto_region 8 with fail
    rw [← Hu1.out, ← Hu2.out]
    clear Hu1 Hu2 yb0 yb1 yb2 yb3 yc0 yc1 yc2 yc3 HTa HTb HTc HVa HVb HVc
    have xa0 : u2.cell? ⟨ga, 0, none⟩ = some (.int .i64 (n : Int)) := Ba.out.cell 0
    have xa1 : u2.cell? ⟨ga, 1, none⟩ = some (.slice aa La.length ca) := Ba.out.cell 1
    have xb0 : u2.cell? ⟨gb, 0, none⟩ = some (.int .i64 (n : Int)) := Bb.out.cell 0
    have xb1 : u2.cell? ⟨gb, 1, none⟩ = some (.slice ab Lb.length cb) := Bb.out.cell 1
    have HC := Lib.hid (apply_dv (op := 1) Da.out Db.out (by omega) (by omega) (by omega) (HGD.out _ K.out))
    go_wp2_with fail
    refine (HC.out).mono ?_
    rintro e w1 ⟨ap, cp, Lp, rfl, dp, hb⟩
    clear xa0 xa1 xb0 xb1
    clear HC
    replace K := Lib.hid (next_below K.out hb)
    replace Ba := Lib.hid (Ba.out.next hb)
    replace Da := Lib.hid (Da.out.below hb)
    replace Bb := Lib.hid (Bb.out.next hb)
    replace Db := Lib.hid (Db.out.below hb)
    replace Bc := Lib.hid (Bc.out.next hb)
    replace Dc := Lib.hid (Dc.out.below hb)
    clear hb
    obtain ⟨X1, hX, hB, hs, j⟩ := entA w1 31 #[.int .i64 (n : Int), .slice ap Lp.length cp]
    replace K := Lib.hid (next_below K.out hB)
    replace Ba := Lib.hid (Ba.out.next hB)
    replace Da := Lib.hid (Da.out.below hB)
    replace Bb := Lib.hid (Bb.out.next hB)
    replace Db := Lib.hid (Db.out.below hB)
    replace Bc := Lib.hid (Bc.out.next hB)
    replace Dc := Lib.hid (Dc.out.below hB)
    have Dp := Lib.hid (dp.below hB)
    have Bp := Lib.hid j
    have HX := Lib.hid hX
    clear hX hB hs j dp
    go_upto_region 9 with fail
    rw [← HX.out]
    clear HX
    generalize w1.heap.size = gp at *
    have xb0 : X1.cell? ⟨gb, 0, none⟩ = some (.int .i64 (n : Int)) := Bb.out.cell 0
    have xb1 : X1.cell? ⟨gb, 1, none⟩ = some (.slice ab Lb.length cb) := Bb.out.cell 1
    have xa0 : X1.cell? ⟨ga, 0, none⟩ = some (.int .i64 (n : Int)) := Ba.out.cell 0
    have xa1 : X1.cell? ⟨ga, 1, none⟩ = some (.slice aa La.length ca) := Ba.out.cell 1
    have HC := Lib.hid (apply_dv (op := 1) Db.out Da.out (by omega) (by omega) (by omega) (HGD.out _ K.out))
    go_wp2_with fail
    refine (HC.out).mono ?_
    rintro e w2 ⟨aq, cq, Lq, rfl, dq, hb⟩
    clear xb0 xb1 xa0 xa1
    clear HC
    replace K := Lib.hid (next_below K.out hb)
    replace Ba := Lib.hid (Ba.out.next hb)
    replace Da := Lib.hid (Da.out.below hb)
    replace Bb := Lib.hid (Bb.out.next hb)
    replace Db := Lib.hid (Db.out.below hb)
    replace Bc := Lib.hid (Bc.out.next hb)
    replace Dc := Lib.hid (Dc.out.below hb)
    replace Bp := Lib.hid (Bp.out.next hb)
    replace Dp := Lib.hid (Dp.out.below hb)
    clear hb
    obtain ⟨X2, hX, hB, hs, j⟩ := entA w2 31 #[.int .i64 (n : Int), .slice aq Lq.length cq]
    replace K := Lib.hid (next_below K.out hB)
    replace Ba := Lib.hid (Ba.out.next hB)
    replace Da := Lib.hid (Da.out.below hB)
    replace Bb := Lib.hid (Bb.out.next hB)
    replace Db := Lib.hid (Db.out.below hB)
    replace Bc := Lib.hid (Bc.out.next hB)
    replace Dc := Lib.hid (Dc.out.below hB)
    replace Bp := Lib.hid (Bp.out.next hB)
    replace Dp := Lib.hid (Dp.out.below hB)
    have Dq := Lib.hid (dq.below hB)
    have Bq := Lib.hid j
    have HX := Lib.hid hX
    clear hX hB hs j dq
    go_upto_region 10 with fail
    rw [← HX.out]
    clear HX
    generalize w2.heap.size = gq at *
    have xp0 : X2.cell? ⟨gp, 0, none⟩ = some (.int .i64 (n : Int)) := Bp.out.cell 0
    have xp1 : X2.cell? ⟨gp, 1, none⟩ = some (.slice ap Lp.length cp) := Bp.out.cell 1
    have xc0 : X2.cell? ⟨gc, 0, none⟩ = some (.int .i64 (n : Int)) := Bc.out.cell 0
    have xc1 : X2.cell? ⟨gc, 1, none⟩ = some (.slice ac Lc.length cc) := Bc.out.cell 1
    have HC := Lib.hid (apply_dv (op := 1) Dp.out Dc.out (by omega) (by omega) (by omega) (HGD.out _ K.out))
    go_wp2_with fail
    refine (HC.out).mono ?_
    rintro e w3 ⟨ax, cx, Lx, rfl, dx, hb⟩
    clear xp0 xp1 xc0 xc1
    clear HC
    replace K := Lib.hid (next_below K.out hb)
    replace Ba := Lib.hid (Ba.out.next hb)
    replace Da := Lib.hid (Da.out.below hb)
    replace Bb := Lib.hid (Bb.out.next hb)
    replace Db := Lib.hid (Db.out.below hb)
    replace Bc := Lib.hid (Bc.out.next hb)
    replace Dc := Lib.hid (Dc.out.below hb)
    replace Bp := Lib.hid (Bp.out.next hb)
    replace Dp := Lib.hid (Dp.out.below hb)
    replace Bq := Lib.hid (Bq.out.next hb)
    replace Dq := Lib.hid (Dq.out.below hb)
    clear hb
    obtain ⟨X3, hX, hB, hs, j⟩ := entA w3 31 #[.int .i64 (n : Int), .slice ax Lx.length cx]
    replace K := Lib.hid (next_below K.out hB)
    replace Ba := Lib.hid (Ba.out.next hB)
    replace Da := Lib.hid (Da.out.below hB)
    replace Bb := Lib.hid (Bb.out.next hB)
    replace Db := Lib.hid (Db.out.below hB)
    replace Bc := Lib.hid (Bc.out.next hB)
    replace Dc := Lib.hid (Dc.out.below hB)
    replace Bp := Lib.hid (Bp.out.next hB)
    replace Dp := Lib.hid (Dp.out.below hB)
    replace Bq := Lib.hid (Bq.out.next hB)
    replace Dq := Lib.hid (Dq.out.below hB)
    have Dx := Lib.hid (dx.below hB)
    have Bx := Lib.hid j
    have HX := Lib.hid hX
    clear hX hB hs j dx
    go_upto_region 11 with fail
    rw [← HX.out]
    clear HX
    generalize w3.heap.size = gx at *
    have xb0 : X3.cell? ⟨gb, 0, none⟩ = some (.int .i64 (n : Int)) := Bb.out.cell 0
    have xb1 : X3.cell? ⟨gb, 1, none⟩ = some (.slice ab Lb.length cb) := Bb.out.cell 1
    have xc0 : X3.cell? ⟨gc, 0, none⟩ = some (.int .i64 (n : Int)) := Bc.out.cell 0
    have xc1 : X3.cell? ⟨gc, 1, none⟩ = some (.slice ac Lc.length cc) := Bc.out.cell 1
    have HC := Lib.hid (apply_dv (op := 1) Db.out Dc.out (by omega) (by omega) (by omega) (HGD.out _ K.out))
    go_wp2_with fail
    refine (HC.out).mono ?_
    rintro e w4 ⟨ar, cr, Lr, rfl, dr, hb⟩
    clear xb0 xb1 xc0 xc1
    clear HC
    replace K := Lib.hid (next_below K.out hb)
    replace Ba := Lib.hid (Ba.out.next hb)
    replace Da := Lib.hid (Da.out.below hb)
    replace Bb := Lib.hid (Bb.out.next hb)
    replace Db := Lib.hid (Db.out.below hb)
    replace Bc := Lib.hid (Bc.out.next hb)
    replace Dc := Lib.hid (Dc.out.below hb)
    replace Bp := Lib.hid (Bp.out.next hb)
    replace Dp := Lib.hid (Dp.out.below hb)
    replace Bq := Lib.hid (Bq.out.next hb)
    replace Dq := Lib.hid (Dq.out.below hb)
    replace Bx := Lib.hid (Bx.out.next hb)
    replace Dx := Lib.hid (Dx.out.below hb)
    clear hb
    obtain ⟨X4, hX, hB, hs, j⟩ := entA w4 31 #[.int .i64 (n : Int), .slice ar Lr.length cr]
    replace K := Lib.hid (next_below K.out hB)
    replace Ba := Lib.hid (Ba.out.next hB)
    replace Da := Lib.hid (Da.out.below hB)
    replace Bb := Lib.hid (Bb.out.next hB)
    replace Db := Lib.hid (Db.out.below hB)
    replace Bc := Lib.hid (Bc.out.next hB)
    replace Dc := Lib.hid (Dc.out.below hB)
    replace Bp := Lib.hid (Bp.out.next hB)
    replace Dp := Lib.hid (Dp.out.below hB)
    replace Bq := Lib.hid (Bq.out.next hB)
    replace Dq := Lib.hid (Dq.out.below hB)
    replace Bx := Lib.hid (Bx.out.next hB)
    replace Dx := Lib.hid (Dx.out.below hB)
    have Dr := Lib.hid (dr.below hB)
    have Br := Lib.hid j
    have HX := Lib.hid hX
    clear hX hB hs j dr
    go_upto_region 12 with fail
    rw [← HX.out]
    clear HX
    generalize w4.heap.size = gr at *
    have xa0 : X4.cell? ⟨ga, 0, none⟩ = some (.int .i64 (n : Int)) := Ba.out.cell 0
    have xa1 : X4.cell? ⟨ga, 1, none⟩ = some (.slice aa La.length ca) := Ba.out.cell 1
    have xr0 : X4.cell? ⟨gr, 0, none⟩ = some (.int .i64 (n : Int)) := Br.out.cell 0
    have xr1 : X4.cell? ⟨gr, 1, none⟩ = some (.slice ar Lr.length cr) := Br.out.cell 1
    have HC := Lib.hid (apply_dv (op := 1) Da.out Dr.out (by omega) (by omega) (by omega) (HGD.out _ K.out))
    go_wp2_with fail
    refine (HC.out).mono ?_
    rintro e w5 ⟨ay, cy, Ly, rfl, dy, hb⟩
    clear xa0 xa1 xr0 xr1
    clear HC
    replace K := Lib.hid (next_below K.out hb)
    replace Ba := Lib.hid (Ba.out.next hb)
    replace Da := Lib.hid (Da.out.below hb)
    replace Bb := Lib.hid (Bb.out.next hb)
    replace Db := Lib.hid (Db.out.below hb)
    replace Bc := Lib.hid (Bc.out.next hb)
    replace Dc := Lib.hid (Dc.out.below hb)
    replace Bp := Lib.hid (Bp.out.next hb)
    replace Dp := Lib.hid (Dp.out.below hb)
    replace Bq := Lib.hid (Bq.out.next hb)
    replace Dq := Lib.hid (Dq.out.below hb)
    replace Bx := Lib.hid (Bx.out.next hb)
    replace Dx := Lib.hid (Dx.out.below hb)
    replace Br := Lib.hid (Br.out.next hb)
    replace Dr := Lib.hid (Dr.out.below hb)
    clear hb
    obtain ⟨X5, hX, hB, hs, j⟩ := entA w5 31 #[.int .i64 (n : Int), .slice ay Ly.length cy]
    replace K := Lib.hid (next_below K.out hB)
    replace Ba := Lib.hid (Ba.out.next hB)
    replace Da := Lib.hid (Da.out.below hB)
    replace Bb := Lib.hid (Bb.out.next hB)
    replace Db := Lib.hid (Db.out.below hB)
    replace Bc := Lib.hid (Bc.out.next hB)
    replace Dc := Lib.hid (Dc.out.below hB)
    replace Bp := Lib.hid (Bp.out.next hB)
    replace Dp := Lib.hid (Dp.out.below hB)
    replace Bq := Lib.hid (Bq.out.next hB)
    replace Dq := Lib.hid (Dq.out.below hB)
    replace Bx := Lib.hid (Bx.out.next hB)
    replace Dx := Lib.hid (Dx.out.below hB)
    replace Br := Lib.hid (Br.out.next hB)
    replace Dr := Lib.hid (Dr.out.below hB)
    have Dy := Lib.hid (dy.below hB)
    have By := Lib.hid j
    have HX := Lib.hid hX
    clear hX hB hs j dy
    go_upto_region 13 with fail
    rw [← HX.out]
    clear HX
    generalize w5.heap.size = gy at *
    have xp0 : X5.cell? ⟨gp, 0, none⟩ = some (.int .i64 (n : Int)) := Bp.out.cell 0
    have xp1 : X5.cell? ⟨gp, 1, none⟩ = some (.slice ap Lp.length cp) := Bp.out.cell 1
    have xb0 : X5.cell? ⟨gb, 0, none⟩ = some (.int .i64 (n : Int)) := Bb.out.cell 0
    have xb1 : X5.cell? ⟨gb, 1, none⟩ = some (.slice ab Lb.length cb) := Bb.out.cell 1
    have HC := Lib.hid (apply_dv (op := 2) Dp.out Db.out (by omega) (by omega) (by omega) (HGD.out _ K.out))
    go_wp2_with fail
    refine (HC.out).mono ?_
    rintro e w6 ⟨af, cf, Lf, rfl, df, hb⟩
    clear xp0 xp1 xb0 xb1
    clear HC
    replace K := Lib.hid (next_below K.out hb)
    replace Ba := Lib.hid (Ba.out.next hb)
    replace Da := Lib.hid (Da.out.below hb)
    replace Bb := Lib.hid (Bb.out.next hb)
    replace Db := Lib.hid (Db.out.below hb)
    replace Bc := Lib.hid (Bc.out.next hb)
    replace Dc := Lib.hid (Dc.out.below hb)
    replace Bp := Lib.hid (Bp.out.next hb)
    replace Dp := Lib.hid (Dp.out.below hb)
    replace Bq := Lib.hid (Bq.out.next hb)
    replace Dq := Lib.hid (Dq.out.below hb)
    replace Bx := Lib.hid (Bx.out.next hb)
    replace Dx := Lib.hid (Dx.out.below hb)
    replace Br := Lib.hid (Br.out.next hb)
    replace Dr := Lib.hid (Dr.out.below hb)
    replace By := Lib.hid (By.out.next hb)
    replace Dy := Lib.hid (Dy.out.below hb)
    clear hb
    obtain ⟨X6, hX, hB, hs, j⟩ := entA w6 31 #[.int .i64 (n : Int), .slice af Lf.length cf]
    replace K := Lib.hid (next_below K.out hB)
    replace Ba := Lib.hid (Ba.out.next hB)
    replace Da := Lib.hid (Da.out.below hB)
    replace Bb := Lib.hid (Bb.out.next hB)
    replace Db := Lib.hid (Db.out.below hB)
    replace Bc := Lib.hid (Bc.out.next hB)
    replace Dc := Lib.hid (Dc.out.below hB)
    replace Bp := Lib.hid (Bp.out.next hB)
    replace Dp := Lib.hid (Dp.out.below hB)
    replace Bq := Lib.hid (Bq.out.next hB)
    replace Dq := Lib.hid (Dq.out.below hB)
    replace Bx := Lib.hid (Bx.out.next hB)
    replace Dx := Lib.hid (Dx.out.below hB)
    replace Br := Lib.hid (Br.out.next hB)
    replace Dr := Lib.hid (Dr.out.below hB)
    replace By := Lib.hid (By.out.next hB)
    replace Dy := Lib.hid (Dy.out.below hB)
    have Df := Lib.hid (df.below hB)
    have Bf := Lib.hid j
    have HX := Lib.hid hX
    clear hX hB hs j df
    go_upto_region 14 with fail
    rw [← HX.out]
    clear HX
    generalize w6.heap.size = gf at *
    go_upto_region 15 with fail
    have xp0 : X6.cell? ⟨gp, 0, none⟩ = some (.int .i64 (n : Int)) := Bp.out.cell 0
    have xp1 : X6.cell? ⟨gp, 1, none⟩ = some (.slice ap Lp.length cp) := Bp.out.cell 1
    have xq0 : X6.cell? ⟨gq, 0, none⟩ = some (.int .i64 (n : Int)) := Bq.out.cell 0
    have xq1 : X6.cell? ⟨gq, 1, none⟩ = some (.slice aq Lq.length cq) := Bq.out.cell 1
    have HC := Lib.hid (same_dv Dp.out Dq.out (by rw [op_comm (.inl rfl)]))
    go_wp2_with fail
    refine (HC.out).mono ?_
    rintro e v0 ⟨rfl, hb⟩
    clear HC
    clear xp0 xp1 xq0 xq1
    replace K := Lib.hid (next_below K.out hb)
    replace Ba := Lib.hid (Ba.out.next hb)
    replace Da := Lib.hid (Da.out.below hb)
    replace Bb := Lib.hid (Bb.out.next hb)
    replace Db := Lib.hid (Db.out.below hb)
    replace Bc := Lib.hid (Bc.out.next hb)
    replace Dc := Lib.hid (Dc.out.below hb)
    replace Bp := Lib.hid (Bp.out.next hb)
    replace Dp := Lib.hid (Dp.out.below hb)
    replace Bq := Lib.hid (Bq.out.next hb)
    replace Dq := Lib.hid (Dq.out.below hb)
    replace Bx := Lib.hid (Bx.out.next hb)
    replace Dx := Lib.hid (Dx.out.below hb)
    replace Br := Lib.hid (Br.out.next hb)
    replace Dr := Lib.hid (Dr.out.below hb)
    replace By := Lib.hid (By.out.next hb)
    replace Dy := Lib.hid (Dy.out.below hb)
    replace Bf := Lib.hid (Bf.out.next hb)
    replace Df := Lib.hid (Df.out.below hb)
    clear hb
    have xx0 : v0.cell? ⟨gx, 0, none⟩ = some (.int .i64 (n : Int)) := Bx.out.cell 0
    have xx1 : v0.cell? ⟨gx, 1, none⟩ = some (.slice ax Lx.length cx) := Bx.out.cell 1
    have xy0 : v0.cell? ⟨gy, 0, none⟩ = some (.int .i64 (n : Int)) := By.out.cell 0
    have xy1 : v0.cell? ⟨gy, 1, none⟩ = some (.slice ay Ly.length cy) := By.out.cell 1
    have HC := Lib.hid (same_dv Dx.out Dy.out (by rw [op_assoc (.inl rfl)]))
    go_wp2_with fail
    refine (HC.out).mono ?_
    rintro e v1 ⟨rfl, hb⟩
    clear HC
    clear xx0 xx1 xy0 xy1
    replace K := Lib.hid (next_below K.out hb)
    replace Ba := Lib.hid (Ba.out.next hb)
    replace Da := Lib.hid (Da.out.below hb)
    replace Bb := Lib.hid (Bb.out.next hb)
    replace Db := Lib.hid (Db.out.below hb)
    replace Bc := Lib.hid (Bc.out.next hb)
    replace Dc := Lib.hid (Dc.out.below hb)
    replace Bp := Lib.hid (Bp.out.next hb)
    replace Dp := Lib.hid (Dp.out.below hb)
    replace Bq := Lib.hid (Bq.out.next hb)
    replace Dq := Lib.hid (Dq.out.below hb)
    replace Bx := Lib.hid (Bx.out.next hb)
    replace Dx := Lib.hid (Dx.out.below hb)
    replace Br := Lib.hid (Br.out.next hb)
    replace Dr := Lib.hid (Dr.out.below hb)
    replace By := Lib.hid (By.out.next hb)
    replace Dy := Lib.hid (Dy.out.below hb)
    replace Bf := Lib.hid (Bf.out.next hb)
    replace Df := Lib.hid (Df.out.below hb)
    clear hb
    have xf0 : v1.cell? ⟨gf, 0, none⟩ = some (.int .i64 (n : Int)) := Bf.out.cell 0
    have xf1 : v1.cell? ⟨gf, 1, none⟩ = some (.slice af Lf.length cf) := Bf.out.cell 1
    have xa0 : v1.cell? ⟨ga, 0, none⟩ = some (.int .i64 (n : Int)) := Ba.out.cell 0
    have xa1 : v1.cell? ⟨ga, 1, none⟩ = some (.slice aa La.length ca) := Ba.out.cell 1
    have HC := Lib.hid (same_dv Df.out Da.out (by rw [op_undo]))
    go_wp2_with fail
    refine (HC.out).mono ?_
    rintro e v2 ⟨rfl, hb⟩
    clear HC
    clear xf0 xf1 xa0 xa1
    replace K := Lib.hid (next_below K.out hb)
    replace Ba := Lib.hid (Ba.out.next hb)
    replace Da := Lib.hid (Da.out.below hb)
    replace Bb := Lib.hid (Bb.out.next hb)
    replace Db := Lib.hid (Db.out.below hb)
    replace Bc := Lib.hid (Bc.out.next hb)
    replace Dc := Lib.hid (Dc.out.below hb)
    replace Bp := Lib.hid (Bp.out.next hb)
    replace Dp := Lib.hid (Dp.out.below hb)
    replace Bq := Lib.hid (Bq.out.next hb)
    replace Dq := Lib.hid (Dq.out.below hb)
    replace Bx := Lib.hid (Bx.out.next hb)
    replace Dx := Lib.hid (Dx.out.below hb)
    replace Br := Lib.hid (Br.out.next hb)
    replace Dr := Lib.hid (Dr.out.below hb)
    replace By := Lib.hid (By.out.next hb)
    replace Dy := Lib.hid (Dy.out.below hb)
    replace Bf := Lib.hid (Bf.out.next hb)
    replace Df := Lib.hid (Df.out.below hb)
    clear hb
    go_wp2
    go_ret
    exact ⟨rfl, K.out⟩

set_option maxHeartbeats 16000000 in
set_option maxRecDepth 100000 in
theorem alg_mul {W : World} {s1 s2 s3 : Value} {vr1 kd1 vr2 kd2 vr3 kd3 m : Nat} {zs1 zs2 zs3 : List Nat} (h1 : Dft W (.agg #[.int .u8 (vr1 : Int), .int .u8 (kd1 : Int), s1]) vr1 kd1 zs1) (h2 : Dft W (.agg #[.int .u8 (vr2 : Int), .int .u8 (kd2 : Int), s2]) vr2 kd2 zs2) (h3 : Dft W (.agg #[.int .u8 (vr3 : Int), .int .u8 (kd3 : Int), s3]) vr3 kd3 zs3) (hm : m < 256) (hg : Good W) :
    Calls Tryz.prog 5 #[.agg #[.int .u8 (vr1 : Int), .int .u8 (kd1 : Int), s1, .int .u8 (vr2 : Int), .int .u8 (kd2 : Int), s2, .int .u8 (vr3 : Int), .int .u8 (kd3 : Int), s3], .int .u8 (m : Int), .bool true] W (RetV W (.bool true)) := by
  obtain ⟨x1, e1, u1⟩ := id h1.is
  obtain rfl : s1 = x1 := by injection e1 with e; exact Option.some.inj (congrArg (fun x : Array Value => x[2]?) e)
  obtain ⟨a1, c1, f1, -⟩ := u1.open_
  subst f1
  obtain ⟨x2, e2, u2⟩ := id h2.is
  obtain rfl : s2 = x2 := by injection e2 with e; exact Option.some.inj (congrArg (fun x : Array Value => x[2]?) e)
  obtain ⟨a2, c2, f2, -⟩ := u2.open_
  subst f2
  obtain ⟨x3, e3, u3⟩ := id h3.is
  obtain rfl : s3 = x3 := by injection e3 with e; exact Option.some.inj (congrArg (fun x : Array Value => x[2]?) e)
  obtain ⟨a3, c3, f3, -⟩ := u3.open_
  subst f3
  obtain ⟨n, hn⟩ : ∃ n, n = m % 5 := ⟨_, rfl⟩
  have hn5 : (m : Int) % 5 = (n : Int) := by omega
  have hn5t : (m : Int).tmod 5 = (n : Int) := by rw [Int.tmod_eq_emod_of_nonneg (by omega)]; omega
  have hn6 : n ≤ 6 := by omega
  have HN5 := Lib.hid (And.intro hn5 hn5t)
  obtain ⟨ha, hha⟩ : ∃ h, h = dtV kd1 zs1 := ⟨_, rfl⟩
  obtain ⟨La, hLa⟩ : ∃ L, L = dgV ha n := ⟨_, rfl⟩
  have HVa := Lib.hid (show Vl ha n 4 ∧ La = dgV ha n from ⟨by rw [hha]; exact dtV_vl _ _ _ hn6, hLa⟩)
  have HTa := Lib.hid (fun (V : World) (hV : Below W.heap.size W V) => show Calls Tryz.prog 17 #[.agg #[.int .u8 (vr1 : Int), .int .u8 (kd1 : Int), .slice a1 zs1.length c1], .int .i64 (n : Int)] V (RetDm V n La) from by rw [hLa, hha]; exact with_any (h1.below hV) hn6)
  obtain ⟨hb, hhb⟩ : ∃ h, h = dtV kd2 zs2 := ⟨_, rfl⟩
  obtain ⟨Lb, hLb⟩ : ∃ L, L = dgV hb n := ⟨_, rfl⟩
  have HVb := Lib.hid (show Vl hb n 4 ∧ Lb = dgV hb n from ⟨by rw [hhb]; exact dtV_vl _ _ _ hn6, hLb⟩)
  have HTb := Lib.hid (fun (V : World) (hV : Below W.heap.size W V) => show Calls Tryz.prog 17 #[.agg #[.int .u8 (vr2 : Int), .int .u8 (kd2 : Int), .slice a2 zs2.length c2], .int .i64 (n : Int)] V (RetDm V n Lb) from by rw [hLb, hhb]; exact with_any (h2.below hV) hn6)
  obtain ⟨hc, hhc⟩ : ∃ h, h = dtV kd3 zs3 := ⟨_, rfl⟩
  obtain ⟨Lc, hLc⟩ : ∃ L, L = dgV hc n := ⟨_, rfl⟩
  have HVc := Lib.hid (show Vl hc n 4 ∧ Lc = dgV hc n from ⟨by rw [hhc]; exact dtV_vl _ _ _ hn6, hLc⟩)
  have HTc := Lib.hid (fun (V : World) (hV : Below W.heap.size W V) => show Calls Tryz.prog 17 #[.agg #[.int .u8 (vr3 : Int), .int .u8 (kd3 : Int), .slice a3 zs3.length c3], .int .i64 (n : Int)] V (RetDm V n Lc) from by rw [hLc, hhc]; exact with_any (h3.below hV) hn6)
  have HGD := Lib.hid (fun (V : World) (hV : Below W.heap.size W V) => hg.below hV)
  obtain ⟨W1, hW1, hB1, hs1, j1⟩ := entA W 44 #[.int .u8 (vr1 : Int), .int .u8 (kd1 : Int), .slice a1 zs1.length c1, .int .u8 (vr2 : Int), .int .u8 (kd2 : Int), .slice a2 zs2.length c2, .int .u8 (vr3 : Int), .int .u8 (kd3 : Int), .slice a3 zs3.length c3]
  have K := Lib.hid hB1
  have HW1 := Lib.hid hW1
  have JD := Lib.hid j1
  generalize zs1.length = n1 at *
  generalize zs2.length = n2 at *
  generalize zs3.length = n3 at *
  clear h1 h2 h3 e1 e2 e3 u1 u2 u3 hg hB1 hW1 hs1 j1 hn hn5 hn5t hn6 hm hha hhb hhc hLa hLb hLc
  go_enter Tryz.func5, Tryz.ntmps5
  go_upto_region 1 with fail
  rw [← HW1.out]
  clear HW1
  generalize W.heap.size = gb at JD
  go_wp2_with fail
  refine (wakes_any (HGD.out _ K.out)).mono ?_
  rintro e w0 ⟨rfl, hb⟩
  replace K := Lib.hid (next_below K.out hb)
  replace JD := Lib.hid (JD.out.next hb)
  clear hb
  obtain ⟨hn5, hn5t⟩ := HN5.out
  go_upto_region 7 with fail
  clear hn5 hn5t HN5
  have HSZ := Lib.hid K.out.size
  have hBd : Below w0.heap.size w0 w0.drew := (Below.refl _ _).drew
  refine wp_region_box 16 12 15 3 31 #[.int .i64 0, .slice none 0 0] (fun v => v.cells) (by kernel_rfl) (by kernel_rfl) (by kernel_rfl) [12, 13, 14] rfl rfl [fun xv _ => xv = .pointer (some ⟨gb, 0, none⟩), fun xv _ => xv = .agg #[.int .u8 (vr1 : Int), .int .u8 (kd1 : Int), .slice a1 n1 c1], fun xv _ => xv = .int .i64 (n : Int), RetB n La, fun xv _ => xv = .pointer (some ⟨gb, 3, none⟩), fun xv _ => xv = .agg #[.int .u8 (vr2 : Int), .int .u8 (kd2 : Int), .slice a2 n2 c2], fun xv _ => xv = .int .i64 (n : Int), RetB n Lb, fun xv _ => xv = .pointer (some ⟨gb, 6, none⟩), fun xv _ => xv = .agg #[.int .u8 (vr3 : Int), .int .u8 (kd3 : Int), .slice a3 n3 c3], fun xv _ => xv = .int .i64 (n : Int), RetB n Lc, NewB w0.heap.size 31 #[.int .i64 0, .slice none 0 0], NewB w0.heap.size 31 #[.int .i64 0, .slice none 0 0], NewB w0.heap.size 31 #[.int .i64 0, .slice none 0 0], fun _ _ => True] (by simp only [List.take_succ_cons, List.take_zero]; rfl) (by simp only [List.drop_succ_cons, List.drop_zero]; rfl) (fun vals => by simp only [fam, Act.put, List.setIfInBounds_toArray, List.set_cons_zero, List.set_cons_succ, if_true]; rfl) (by repeat' (first | exact Stab.eq _ _ | exact Stab.wh _ _ | exact Stab.nm _ _ | exact Stab.new _ _ | exact Stab.newn _ _ | exact Stab.tw _ _ _ | exact Stab.lm _ _ _ | exact Stab.onet _ _ _ | exact Stab.pl _ _ _ | exact Stab.dg _ _ _ | exact Stab.nds _ _ | exact Stab.qs _ _ | exact NewB.stab | exact RetB.stab | exact Stab.none _ | exact trivial | apply And.intro)) ⟨NewB.new, NewB.new, NewB.new, trivial⟩ (fun _ _ h => h) (by repeat' (first | exact StabS.eq _ _ _ _ _ | exact NewB.stabS | exact trivial | exact RetB.stabS rfl | exact StabS.none _ _ _ _ | apply And.intro)) ?_ ?_
  · refine ⟨?_, ?_, ?_, ?_, ?_, ?_, ?_, ?_, ?_, ?_, ?_, ?_, ?_, ?_, ?_, ?_, trivial⟩
    all_goals
      intro vals wy hB1 hp
      (first | change wpList _ _ (EndAt _ _ _ _ _) _ _ _ | change wpList _ _ (EndB _ _ _ _ _ _) _ _ _)
      (try simp [preOk, Region.binds, r_anygc, r_anytext] at hp)
      have hb := next_below hBd hB1
      have KU := Lib.hid (next_below K.out hb)
    case refine_2 =>
      clear hB1
      (try simp only [hp])
      have y0 : wy.cell? ⟨gb, 0, none⟩ = some (.int .u8 (vr1 : Int)) := (JD.out.next hb).cell 0
      have y1 : wy.cell? ⟨gb, 1, none⟩ = some (.int .u8 (kd1 : Int)) := (JD.out.next hb).cell 1
      have y2 : wy.cell? ⟨gb, 2, none⟩ = some (.slice a1 n1 c1) := (JD.out.next hb).cell 2
      go_wp2
      (first | exact ⟨rfl, _, rfl, rfl, Below.refl _ _, trivial⟩ | (refine ⟨rfl, _, ?_, rfl, Below.refl _ _, trivial⟩; simp only [Act.put, List.setIfInBounds_toArray, List.set_cons_zero, List.set_cons_succ, Nat.zero_add, Nat.reduceAdd, hp]))
    case refine_4 =>
      clear hB1
      (try simp only [hp])
      go_wp2_with fail
      refine (HTa.out _ KU.out).mono ?_
      rintro e w' ⟨aa, cc, rfl, hn2, hb2⟩
      go_wp2
      exact ⟨rfl, _, rfl, ⟨aa, cc, rfl, hn2⟩, hb2, trivial⟩
    case refine_6 =>
      clear hB1
      (try simp only [hp])
      have y0 : wy.cell? ⟨gb, 3, none⟩ = some (.int .u8 (vr2 : Int)) := (JD.out.next hb).cell 3
      have y1 : wy.cell? ⟨gb, 4, none⟩ = some (.int .u8 (kd2 : Int)) := (JD.out.next hb).cell 4
      have y2 : wy.cell? ⟨gb, 5, none⟩ = some (.slice a2 n2 c2) := (JD.out.next hb).cell 5
      go_wp2
      (first | exact ⟨rfl, _, rfl, rfl, Below.refl _ _, trivial⟩ | (refine ⟨rfl, _, ?_, rfl, Below.refl _ _, trivial⟩; simp only [Act.put, List.setIfInBounds_toArray, List.set_cons_zero, List.set_cons_succ, Nat.zero_add, Nat.reduceAdd, hp]))
    case refine_8 =>
      clear hB1
      (try simp only [hp])
      go_wp2_with fail
      refine (HTb.out _ KU.out).mono ?_
      rintro e w' ⟨aa, cc, rfl, hn2, hb2⟩
      go_wp2
      exact ⟨rfl, _, rfl, ⟨aa, cc, rfl, hn2⟩, hb2, trivial⟩
    case refine_10 =>
      clear hB1
      (try simp only [hp])
      have y0 : wy.cell? ⟨gb, 6, none⟩ = some (.int .u8 (vr3 : Int)) := (JD.out.next hb).cell 6
      have y1 : wy.cell? ⟨gb, 7, none⟩ = some (.int .u8 (kd3 : Int)) := (JD.out.next hb).cell 7
      have y2 : wy.cell? ⟨gb, 8, none⟩ = some (.slice a3 n3 c3) := (JD.out.next hb).cell 8
      go_wp2
      (first | exact ⟨rfl, _, rfl, rfl, Below.refl _ _, trivial⟩ | (refine ⟨rfl, _, ?_, rfl, Below.refl _ _, trivial⟩; simp only [Act.put, List.setIfInBounds_toArray, List.set_cons_zero, List.set_cons_succ, Nat.zero_add, Nat.reduceAdd, hp]))
    case refine_12 =>
      clear hB1
      (try simp only [hp])
      go_wp2_with fail
      refine (HTc.out _ KU.out).mono ?_
      rintro e w' ⟨aa, cc, rfl, hn2, hb2⟩
      go_wp2
      exact ⟨rfl, _, rfl, ⟨aa, cc, rfl, hn2⟩, hb2, trivial⟩
    case refine_13 =>
      have hle := hb.size
      clear hB1
      go_wp2
      exact ⟨rfl, _, rfl, ⟨_, rfl, hle, Blk.new _ _ _⟩, (Below.refl _ _).alloc (Nat.le_refl _) _, rfl⟩
    case refine_14 =>
      have hle := hb.size
      clear hB1
      go_wp2
      exact ⟨rfl, _, rfl, ⟨_, rfl, hle, Blk.new _ _ _⟩, (Below.refl _ _).alloc (Nat.le_refl _) _, rfl⟩
    case refine_15 =>
      have hle := hb.size
      clear hB1
      go_wp2
      exact ⟨rfl, _, rfl, ⟨_, rfl, hle, Blk.new _ _ _⟩, (Below.refl _ _).alloc (Nat.le_refl _) _, rfl⟩
    case refine_16 =>
      have h3 : RetB n La (vals 3) wy := by simp only [hp]
      have h12 : NewB w0.heap.size 31 #[.int .i64 0, .slice none 0 0] (vals 12) wy := by simp only [hp]
      obtain ⟨aa, cc, e3, hn3⟩ := h3
      obtain ⟨gg, e12, hgg, j2⟩ := h12
      simp only [e3, e12]
      obtain ⟨x0, x1⟩ : _ ∧ _ := ⟨j2.cell0, j2.cell1⟩
      have f0 := j2.frozen 0
      have f1 := j2.frozen 1
      have J3 := Lib.hid (j2.two (.int .i64 (n : Int)) (.slice aa La.length cc))
      clear j2 hB1 hn3 e3 e12 hp
      go_wp2
      exact ⟨rfl, rfl, gg, rfl, J3.out, Chg.two _ _ _ _⟩
    all_goals
      clear hB1
      (try simp only [hp])
      go_wp2
      (first | exact ⟨rfl, _, rfl, rfl, Below.refl _ _, trivial⟩ | (refine ⟨rfl, _, ?_, rfl, Below.refl _ _, trivial⟩; simp only [Act.put, List.setIfInBounds_toArray, List.set_cons_zero, List.set_cons_succ, Nat.zero_add, Nat.reduceAdd, hp]))
  · rintro vals w3 hB1 ⟨p0, p1, p2, p3, p4, p5, p6, p7, p8, p9, p10, p11, p12, p13, p14, p15, _⟩ hne
    have hb := next_below hBd hB1
    replace K := Lib.hid (next_below K.out hb)
    clear JD
    have ra : RetB n La (vals 3) w3 := p3
    obtain ⟨aa, ca, ea, da⟩ := ra
    have ia : InBox 31 (fun v => v.cells) (vals 12) (vals 3) w3 := p12
    rw [ea] at ia
    obtain ⟨ga, sa, ba⟩ := ia
    have rb : RetB n Lb (vals 7) w3 := p7
    obtain ⟨ab, cb, eb, db⟩ := rb
    have ib : NewB w0.heap.size 31 #[.int .i64 0, .slice none 0 0] (vals 13) w3 := p13
    obtain ⟨gb, sb, lb, bb⟩ := ib
    have rc : RetB n Lc (vals 11) w3 := p11
    obtain ⟨ac, cc, ec, dc⟩ := rc
    have ic : NewB w0.heap.size 31 #[.int .i64 0, .slice none 0 0] (vals 14) w3 := p14
    obtain ⟨gc, sc, lc, bc⟩ := ic
    have hab : some ga ≠ some gb := fun e => hne 12 13 rfl rfl (by omega) (by omega) (by omega) (by rw [sa, sb]; injection e with e; rw [e])
    have hac : some ga ≠ some gc := fun e => hne 12 14 rfl rfl (by omega) (by omega) (by omega) (by rw [sa, sc]; injection e with e; rw [e])
    have hbc : some gb ≠ some gc := fun e => hne 13 14 rfl rfl (by omega) (by omega) (by omega) (by rw [sb, sc]; injection e with e; rw [e])
    have ba : Blk w3 ga 31 #[.int .i64 (n : Int), .slice aa La.length ca] := ba
    simp only [List.getD_cons_zero, List.getD_cons_succ, Nat.zero_add, Nat.reduceAdd, ea, sa, eb, sb, ec, sc]
    clear hb hB1 hne hBd p0 p1 p2 p3 p4 p5 p6 p7 p8 p9 p10 p11 p12 p13 p14 p15 ea sa eb sb ec sc
    obtain ⟨u1, hu1⟩ : ∃ X, X = ((w3.setCell ⟨gb, 0, none⟩ (.int .i64 (n : Int))).setCell ⟨gb, 1, none⟩ (.slice ab Lb.length cb)) := ⟨_, rfl⟩
    have hc : Chg (some gb) w3 u1 := by rw [hu1]; exact Chg.two _ _ _ _
    have z1 : w3.cell? ⟨gb, 1, none⟩ = some (.slice none 0 0) := bb.cell 1
    have kb := And.intro (And.intro bb.cell0 bb.cell1) (And.intro (bb.frozen 0) (bb.frozen 1))
    have Kb := Lib.hid kb
    clear kb
    replace da := da.chg hc z1 (fun k z e => by cases e)
    replace db := db.chg hc z1 (fun k z e => by cases e)
    replace dc := dc.chg hc z1 (fun k z e => by cases e)
    replace K := Lib.hid (K.out.trans (hc.below1 (Nat.le_trans HSZ.out lb) (K.out.size)))
    replace ba := ba.grown hc hab
    replace bb : Blk u1 gb 31 #[.int .i64 (n : Int), .slice ab Lb.length cb] := by rw [hu1]; exact bb.two _ _
    replace bc := bc.grown hc (Ne.symm hbc)
    have Hu1 := Lib.hid hu1
    clear hu1 hc z1
    obtain ⟨u2, hu2⟩ : ∃ X, X = ((u1.setCell ⟨gc, 0, none⟩ (.int .i64 (n : Int))).setCell ⟨gc, 1, none⟩ (.slice ac Lc.length cc)) := ⟨_, rfl⟩
    have hc : Chg (some gc) u1 u2 := by rw [hu2]; exact Chg.two _ _ _ _
    have z1 : u1.cell? ⟨gc, 1, none⟩ = some (.slice none 0 0) := bc.cell 1
    have kc := And.intro (And.intro bc.cell0 bc.cell1) (And.intro (bc.frozen 0) (bc.frozen 1))
    have Kc := Lib.hid kc
    clear kc
    replace da := da.chg hc z1 (fun k z e => by cases e)
    replace db := db.chg hc z1 (fun k z e => by cases e)
    replace dc := dc.chg hc z1 (fun k z e => by cases e)
    replace K := Lib.hid (K.out.trans (hc.below1 (Nat.le_trans HSZ.out lc) (K.out.size)))
    replace ba := ba.grown hc hac
    replace bb := bb.grown hc hbc
    replace bc : Blk u2 gc 31 #[.int .i64 (n : Int), .slice ac Lc.length cc] := by rw [hu2]; exact bc.two _ _
    have Hu2 := Lib.hid hu2
    clear hu2 hc z1
    have Ba := Lib.hid ba
    have Da : Hid (DV u2 n ha 4 aa ca La) := Lib.hid ⟨da, HVa.out.1, HVa.out.2⟩
    clear ba da
    have Bb := Lib.hid bb
    have Db : Hid (DV u2 n hb 4 ab cb Lb) := Lib.hid ⟨db, HVb.out.1, HVb.out.2⟩
    clear bb db
    have Bc := Lib.hid bc
    have Dc : Hid (DV u2 n hc 4 ac cc Lc) := Lib.hid ⟨dc, HVc.out.1, HVc.out.2⟩
    clear bc dc
    obtain ⟨⟨yb0, yb1⟩, yb2, yb3⟩ := Kb.out
    obtain ⟨⟨yc0, yc1⟩, yc2, yc3⟩ := Kc.out
    clear Kb Kc
    rw [Hu1.out] at yc0 yc1 yc2 yc3
    go_upto_region 8 with fail
    rw [← Hu1.out, ← Hu2.out]
    clear Hu1 Hu2 yb0 yb1 yb2 yb3 yc0 yc1 yc2 yc3 HTa HTb HTc HVa HVb HVc
    have xa0 : u2.cell? ⟨ga, 0, none⟩ = some (.int .i64 (n : Int)) := Ba.out.cell 0
    have xa1 : u2.cell? ⟨ga, 1, none⟩ = some (.slice aa La.length ca) := Ba.out.cell 1
    have xb0 : u2.cell? ⟨gb, 0, none⟩ = some (.int .i64 (n : Int)) := Bb.out.cell 0
    have xb1 : u2.cell? ⟨gb, 1, none⟩ = some (.slice ab Lb.length cb) := Bb.out.cell 1
    have HC := Lib.hid (apply_dv (op := 3) Da.out Db.out (by omega) (by omega) (by omega) (HGD.out _ K.out))
    go_wp2_with fail
    refine (HC.out).mono ?_
    rintro e w1 ⟨ap, cp, Lp, rfl, dp, hb⟩
    clear xa0 xa1 xb0 xb1
    clear HC
    replace K := Lib.hid (next_below K.out hb)
    replace Ba := Lib.hid (Ba.out.next hb)
    replace Da := Lib.hid (Da.out.below hb)
    replace Bb := Lib.hid (Bb.out.next hb)
    replace Db := Lib.hid (Db.out.below hb)
    replace Bc := Lib.hid (Bc.out.next hb)
    replace Dc := Lib.hid (Dc.out.below hb)
    clear hb
    obtain ⟨X1, hX, hB, hs, j⟩ := entA w1 31 #[.int .i64 (n : Int), .slice ap Lp.length cp]
    replace K := Lib.hid (next_below K.out hB)
    replace Ba := Lib.hid (Ba.out.next hB)
    replace Da := Lib.hid (Da.out.below hB)
    replace Bb := Lib.hid (Bb.out.next hB)
    replace Db := Lib.hid (Db.out.below hB)
    replace Bc := Lib.hid (Bc.out.next hB)
    replace Dc := Lib.hid (Dc.out.below hB)
    have Dp := Lib.hid (dp.below hB)
    have Bp := Lib.hid j
    have HX := Lib.hid hX
    clear hX hB hs j dp
    go_upto_region 9 with fail
    rw [← HX.out]
    clear HX
    generalize w1.heap.size = gp at *
    have xb0 : X1.cell? ⟨gb, 0, none⟩ = some (.int .i64 (n : Int)) := Bb.out.cell 0
    have xb1 : X1.cell? ⟨gb, 1, none⟩ = some (.slice ab Lb.length cb) := Bb.out.cell 1
    have xa0 : X1.cell? ⟨ga, 0, none⟩ = some (.int .i64 (n : Int)) := Ba.out.cell 0
    have xa1 : X1.cell? ⟨ga, 1, none⟩ = some (.slice aa La.length ca) := Ba.out.cell 1
    have HC := Lib.hid (apply_dv (op := 3) Db.out Da.out (by omega) (by omega) (by omega) (HGD.out _ K.out))
    go_wp2_with fail
    refine (HC.out).mono ?_
    rintro e w2 ⟨aq, cq, Lq, rfl, dq, hb⟩
    clear xb0 xb1 xa0 xa1
    clear HC
    replace K := Lib.hid (next_below K.out hb)
    replace Ba := Lib.hid (Ba.out.next hb)
    replace Da := Lib.hid (Da.out.below hb)
    replace Bb := Lib.hid (Bb.out.next hb)
    replace Db := Lib.hid (Db.out.below hb)
    replace Bc := Lib.hid (Bc.out.next hb)
    replace Dc := Lib.hid (Dc.out.below hb)
    replace Bp := Lib.hid (Bp.out.next hb)
    replace Dp := Lib.hid (Dp.out.below hb)
    clear hb
    obtain ⟨X2, hX, hB, hs, j⟩ := entA w2 31 #[.int .i64 (n : Int), .slice aq Lq.length cq]
    replace K := Lib.hid (next_below K.out hB)
    replace Ba := Lib.hid (Ba.out.next hB)
    replace Da := Lib.hid (Da.out.below hB)
    replace Bb := Lib.hid (Bb.out.next hB)
    replace Db := Lib.hid (Db.out.below hB)
    replace Bc := Lib.hid (Bc.out.next hB)
    replace Dc := Lib.hid (Dc.out.below hB)
    replace Bp := Lib.hid (Bp.out.next hB)
    replace Dp := Lib.hid (Dp.out.below hB)
    have Dq := Lib.hid (dq.below hB)
    have Bq := Lib.hid j
    have HX := Lib.hid hX
    clear hX hB hs j dq
    go_upto_region 10 with fail
    rw [← HX.out]
    clear HX
    generalize w2.heap.size = gq at *
    have xp0 : X2.cell? ⟨gp, 0, none⟩ = some (.int .i64 (n : Int)) := Bp.out.cell 0
    have xp1 : X2.cell? ⟨gp, 1, none⟩ = some (.slice ap Lp.length cp) := Bp.out.cell 1
    have xc0 : X2.cell? ⟨gc, 0, none⟩ = some (.int .i64 (n : Int)) := Bc.out.cell 0
    have xc1 : X2.cell? ⟨gc, 1, none⟩ = some (.slice ac Lc.length cc) := Bc.out.cell 1
    have HC := Lib.hid (apply_dv (op := 3) Dp.out Dc.out (by omega) (by omega) (by omega) (HGD.out _ K.out))
    go_wp2_with fail
    refine (HC.out).mono ?_
    rintro e w3 ⟨ax, cx, Lx, rfl, dx, hb⟩
    clear xp0 xp1 xc0 xc1
    clear HC
    replace K := Lib.hid (next_below K.out hb)
    replace Ba := Lib.hid (Ba.out.next hb)
    replace Da := Lib.hid (Da.out.below hb)
    replace Bb := Lib.hid (Bb.out.next hb)
    replace Db := Lib.hid (Db.out.below hb)
    replace Bc := Lib.hid (Bc.out.next hb)
    replace Dc := Lib.hid (Dc.out.below hb)
    replace Bp := Lib.hid (Bp.out.next hb)
    replace Dp := Lib.hid (Dp.out.below hb)
    replace Bq := Lib.hid (Bq.out.next hb)
    replace Dq := Lib.hid (Dq.out.below hb)
    clear hb
    obtain ⟨X3, hX, hB, hs, j⟩ := entA w3 31 #[.int .i64 (n : Int), .slice ax Lx.length cx]
    replace K := Lib.hid (next_below K.out hB)
    replace Ba := Lib.hid (Ba.out.next hB)
    replace Da := Lib.hid (Da.out.below hB)
    replace Bb := Lib.hid (Bb.out.next hB)
    replace Db := Lib.hid (Db.out.below hB)
    replace Bc := Lib.hid (Bc.out.next hB)
    replace Dc := Lib.hid (Dc.out.below hB)
    replace Bp := Lib.hid (Bp.out.next hB)
    replace Dp := Lib.hid (Dp.out.below hB)
    replace Bq := Lib.hid (Bq.out.next hB)
    replace Dq := Lib.hid (Dq.out.below hB)
    have Dx := Lib.hid (dx.below hB)
    have Bx := Lib.hid j
    have HX := Lib.hid hX
    clear hX hB hs j dx
    go_upto_region 11 with fail
    rw [← HX.out]
    clear HX
    generalize w3.heap.size = gx at *
    have xb0 : X3.cell? ⟨gb, 0, none⟩ = some (.int .i64 (n : Int)) := Bb.out.cell 0
    have xb1 : X3.cell? ⟨gb, 1, none⟩ = some (.slice ab Lb.length cb) := Bb.out.cell 1
    have xc0 : X3.cell? ⟨gc, 0, none⟩ = some (.int .i64 (n : Int)) := Bc.out.cell 0
    have xc1 : X3.cell? ⟨gc, 1, none⟩ = some (.slice ac Lc.length cc) := Bc.out.cell 1
    have HC := Lib.hid (apply_dv (op := 3) Db.out Dc.out (by omega) (by omega) (by omega) (HGD.out _ K.out))
    go_wp2_with fail
    refine (HC.out).mono ?_
    rintro e w4 ⟨ar, cr, Lr, rfl, dr, hb⟩
    clear xb0 xb1 xc0 xc1
    clear HC
    replace K := Lib.hid (next_below K.out hb)
    replace Ba := Lib.hid (Ba.out.next hb)
    replace Da := Lib.hid (Da.out.below hb)
    replace Bb := Lib.hid (Bb.out.next hb)
    replace Db := Lib.hid (Db.out.below hb)
    replace Bc := Lib.hid (Bc.out.next hb)
    replace Dc := Lib.hid (Dc.out.below hb)
    replace Bp := Lib.hid (Bp.out.next hb)
    replace Dp := Lib.hid (Dp.out.below hb)
    replace Bq := Lib.hid (Bq.out.next hb)
    replace Dq := Lib.hid (Dq.out.below hb)
    replace Bx := Lib.hid (Bx.out.next hb)
    replace Dx := Lib.hid (Dx.out.below hb)
    clear hb
    obtain ⟨X4, hX, hB, hs, j⟩ := entA w4 31 #[.int .i64 (n : Int), .slice ar Lr.length cr]
    replace K := Lib.hid (next_below K.out hB)
    replace Ba := Lib.hid (Ba.out.next hB)
    replace Da := Lib.hid (Da.out.below hB)
    replace Bb := Lib.hid (Bb.out.next hB)
    replace Db := Lib.hid (Db.out.below hB)
    replace Bc := Lib.hid (Bc.out.next hB)
    replace Dc := Lib.hid (Dc.out.below hB)
    replace Bp := Lib.hid (Bp.out.next hB)
    replace Dp := Lib.hid (Dp.out.below hB)
    replace Bq := Lib.hid (Bq.out.next hB)
    replace Dq := Lib.hid (Dq.out.below hB)
    replace Bx := Lib.hid (Bx.out.next hB)
    replace Dx := Lib.hid (Dx.out.below hB)
    have Dr := Lib.hid (dr.below hB)
    have Br := Lib.hid j
    have HX := Lib.hid hX
    clear hX hB hs j dr
    go_upto_region 12 with fail
    rw [← HX.out]
    clear HX
    generalize w4.heap.size = gr at *
    have xa0 : X4.cell? ⟨ga, 0, none⟩ = some (.int .i64 (n : Int)) := Ba.out.cell 0
    have xa1 : X4.cell? ⟨ga, 1, none⟩ = some (.slice aa La.length ca) := Ba.out.cell 1
    have xr0 : X4.cell? ⟨gr, 0, none⟩ = some (.int .i64 (n : Int)) := Br.out.cell 0
    have xr1 : X4.cell? ⟨gr, 1, none⟩ = some (.slice ar Lr.length cr) := Br.out.cell 1
    have HC := Lib.hid (apply_dv (op := 3) Da.out Dr.out (by omega) (by omega) (by omega) (HGD.out _ K.out))
    go_wp2_with fail
    refine (HC.out).mono ?_
    rintro e w5 ⟨ay, cy, Ly, rfl, dy, hb⟩
    clear xa0 xa1 xr0 xr1
    clear HC
    replace K := Lib.hid (next_below K.out hb)
    replace Ba := Lib.hid (Ba.out.next hb)
    replace Da := Lib.hid (Da.out.below hb)
    replace Bb := Lib.hid (Bb.out.next hb)
    replace Db := Lib.hid (Db.out.below hb)
    replace Bc := Lib.hid (Bc.out.next hb)
    replace Dc := Lib.hid (Dc.out.below hb)
    replace Bp := Lib.hid (Bp.out.next hb)
    replace Dp := Lib.hid (Dp.out.below hb)
    replace Bq := Lib.hid (Bq.out.next hb)
    replace Dq := Lib.hid (Dq.out.below hb)
    replace Bx := Lib.hid (Bx.out.next hb)
    replace Dx := Lib.hid (Dx.out.below hb)
    replace Br := Lib.hid (Br.out.next hb)
    replace Dr := Lib.hid (Dr.out.below hb)
    clear hb
    obtain ⟨X5, hX, hB, hs, j⟩ := entA w5 31 #[.int .i64 (n : Int), .slice ay Ly.length cy]
    replace K := Lib.hid (next_below K.out hB)
    replace Ba := Lib.hid (Ba.out.next hB)
    replace Da := Lib.hid (Da.out.below hB)
    replace Bb := Lib.hid (Bb.out.next hB)
    replace Db := Lib.hid (Db.out.below hB)
    replace Bc := Lib.hid (Bc.out.next hB)
    replace Dc := Lib.hid (Dc.out.below hB)
    replace Bp := Lib.hid (Bp.out.next hB)
    replace Dp := Lib.hid (Dp.out.below hB)
    replace Bq := Lib.hid (Bq.out.next hB)
    replace Dq := Lib.hid (Dq.out.below hB)
    replace Bx := Lib.hid (Bx.out.next hB)
    replace Dx := Lib.hid (Dx.out.below hB)
    replace Br := Lib.hid (Br.out.next hB)
    replace Dr := Lib.hid (Dr.out.below hB)
    have Dy := Lib.hid (dy.below hB)
    have By := Lib.hid j
    have HX := Lib.hid hX
    clear hX hB hs j dy
    go_upto_region 13 with fail
    rw [← HX.out]
    clear HX
    generalize w5.heap.size = gy at *
    have xp0 : X5.cell? ⟨gp, 0, none⟩ = some (.int .i64 (n : Int)) := Bp.out.cell 0
    have xp1 : X5.cell? ⟨gp, 1, none⟩ = some (.slice ap Lp.length cp) := Bp.out.cell 1
    have xb0 : X5.cell? ⟨gb, 0, none⟩ = some (.int .i64 (n : Int)) := Bb.out.cell 0
    have xb1 : X5.cell? ⟨gb, 1, none⟩ = some (.slice ab Lb.length cb) := Bb.out.cell 1
    have HC := Lib.hid (apply_dv (op := 2) Dp.out Db.out (by omega) (by omega) (by omega) (HGD.out _ K.out))
    go_wp2_with fail
    refine (HC.out).mono ?_
    rintro e w6 ⟨af, cf, Lf, rfl, df, hb⟩
    clear xp0 xp1 xb0 xb1
    clear HC
    replace K := Lib.hid (next_below K.out hb)
    replace Ba := Lib.hid (Ba.out.next hb)
    replace Da := Lib.hid (Da.out.below hb)
    replace Bb := Lib.hid (Bb.out.next hb)
    replace Db := Lib.hid (Db.out.below hb)
    replace Bc := Lib.hid (Bc.out.next hb)
    replace Dc := Lib.hid (Dc.out.below hb)
    replace Bp := Lib.hid (Bp.out.next hb)
    replace Dp := Lib.hid (Dp.out.below hb)
    replace Bq := Lib.hid (Bq.out.next hb)
    replace Dq := Lib.hid (Dq.out.below hb)
    replace Bx := Lib.hid (Bx.out.next hb)
    replace Dx := Lib.hid (Dx.out.below hb)
    replace Br := Lib.hid (Br.out.next hb)
    replace Dr := Lib.hid (Dr.out.below hb)
    replace By := Lib.hid (By.out.next hb)
    replace Dy := Lib.hid (Dy.out.below hb)
    clear hb
    obtain ⟨X6, hX, hB, hs, j⟩ := entA w6 31 #[.int .i64 (n : Int), .slice af Lf.length cf]
    replace K := Lib.hid (next_below K.out hB)
    replace Ba := Lib.hid (Ba.out.next hB)
    replace Da := Lib.hid (Da.out.below hB)
    replace Bb := Lib.hid (Bb.out.next hB)
    replace Db := Lib.hid (Db.out.below hB)
    replace Bc := Lib.hid (Bc.out.next hB)
    replace Dc := Lib.hid (Dc.out.below hB)
    replace Bp := Lib.hid (Bp.out.next hB)
    replace Dp := Lib.hid (Dp.out.below hB)
    replace Bq := Lib.hid (Bq.out.next hB)
    replace Dq := Lib.hid (Dq.out.below hB)
    replace Bx := Lib.hid (Bx.out.next hB)
    replace Dx := Lib.hid (Dx.out.below hB)
    replace Br := Lib.hid (Br.out.next hB)
    replace Dr := Lib.hid (Dr.out.below hB)
    replace By := Lib.hid (By.out.next hB)
    replace Dy := Lib.hid (Dy.out.below hB)
    have Df := Lib.hid (df.below hB)
    have Bf := Lib.hid j
    have HX := Lib.hid hX
    clear hX hB hs j df
    go_upto_region 14 with fail
    rw [← HX.out]
    clear HX
    generalize w6.heap.size = gf at *
    go_upto_region 15 with fail
    have xp0 : X6.cell? ⟨gp, 0, none⟩ = some (.int .i64 (n : Int)) := Bp.out.cell 0
    have xp1 : X6.cell? ⟨gp, 1, none⟩ = some (.slice ap Lp.length cp) := Bp.out.cell 1
    have xq0 : X6.cell? ⟨gq, 0, none⟩ = some (.int .i64 (n : Int)) := Bq.out.cell 0
    have xq1 : X6.cell? ⟨gq, 1, none⟩ = some (.slice aq Lq.length cq) := Bq.out.cell 1
    have HC := Lib.hid (same_dv Dp.out Dq.out (by rw [op_comm (.inr rfl)]))
    go_wp2_with fail
    refine (HC.out).mono ?_
    rintro e v0 ⟨rfl, hb⟩
    clear HC
    clear xp0 xp1 xq0 xq1
    replace K := Lib.hid (next_below K.out hb)
    replace Ba := Lib.hid (Ba.out.next hb)
    replace Da := Lib.hid (Da.out.below hb)
    replace Bb := Lib.hid (Bb.out.next hb)
    replace Db := Lib.hid (Db.out.below hb)
    replace Bc := Lib.hid (Bc.out.next hb)
    replace Dc := Lib.hid (Dc.out.below hb)
    replace Bp := Lib.hid (Bp.out.next hb)
    replace Dp := Lib.hid (Dp.out.below hb)
    replace Bq := Lib.hid (Bq.out.next hb)
    replace Dq := Lib.hid (Dq.out.below hb)
    replace Bx := Lib.hid (Bx.out.next hb)
    replace Dx := Lib.hid (Dx.out.below hb)
    replace Br := Lib.hid (Br.out.next hb)
    replace Dr := Lib.hid (Dr.out.below hb)
    replace By := Lib.hid (By.out.next hb)
    replace Dy := Lib.hid (Dy.out.below hb)
    replace Bf := Lib.hid (Bf.out.next hb)
    replace Df := Lib.hid (Df.out.below hb)
    clear hb
    have xx0 : v0.cell? ⟨gx, 0, none⟩ = some (.int .i64 (n : Int)) := Bx.out.cell 0
    have xx1 : v0.cell? ⟨gx, 1, none⟩ = some (.slice ax Lx.length cx) := Bx.out.cell 1
    have xy0 : v0.cell? ⟨gy, 0, none⟩ = some (.int .i64 (n : Int)) := By.out.cell 0
    have xy1 : v0.cell? ⟨gy, 1, none⟩ = some (.slice ay Ly.length cy) := By.out.cell 1
    have HC := Lib.hid (same_dv Dx.out Dy.out (by rw [op_assoc (.inr rfl)]))
    go_wp2_with fail
    refine (HC.out).mono ?_
    rintro e v1 ⟨rfl, hb⟩
    clear HC
    clear xx0 xx1 xy0 xy1
    replace K := Lib.hid (next_below K.out hb)
    replace Ba := Lib.hid (Ba.out.next hb)
    replace Da := Lib.hid (Da.out.below hb)
    replace Bb := Lib.hid (Bb.out.next hb)
    replace Db := Lib.hid (Db.out.below hb)
    replace Bc := Lib.hid (Bc.out.next hb)
    replace Dc := Lib.hid (Dc.out.below hb)
    replace Bp := Lib.hid (Bp.out.next hb)
    replace Dp := Lib.hid (Dp.out.below hb)
    replace Bq := Lib.hid (Bq.out.next hb)
    replace Dq := Lib.hid (Dq.out.below hb)
    replace Bx := Lib.hid (Bx.out.next hb)
    replace Dx := Lib.hid (Dx.out.below hb)
    replace Br := Lib.hid (Br.out.next hb)
    replace Dr := Lib.hid (Dr.out.below hb)
    replace By := Lib.hid (By.out.next hb)
    replace Dy := Lib.hid (Dy.out.below hb)
    replace Bf := Lib.hid (Bf.out.next hb)
    replace Df := Lib.hid (Df.out.below hb)
    clear hb
    go_wp2
    go_ret
    exact ⟨rfl, K.out⟩

theorem alg_at {W : World} {v : Value} (D : Draft3At W v) (m : Nat) (b : Bool) (hm : m < 256) (hg : Good W) : Calls Tryz.prog 5 #[v, .int .u8 (m : Int), .bool b] W (RetV W (.bool true)) := by
  obtain ⟨s1, s2, s3, vr1, kd1, vr2, kd2, vr3, kd3, zs1, zs2, zs3, rfl, h1, h2, h3⟩ := D
  cases b with
  | false => exact alg_add h1 h2 h3 hm hg
  | true => exact alg_mul h1 h2 h3 hm hg
end Go.Proofs.YtpmlmibceiolpaaGreatDoor
