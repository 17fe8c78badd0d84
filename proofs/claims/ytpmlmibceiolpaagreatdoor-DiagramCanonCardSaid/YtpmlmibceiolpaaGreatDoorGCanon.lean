/- DiagramCanon answers true. -/
import Derived.Test.YtpmlmibceiolpaaGreatDoorGLaws
import Derived.Test.YtpmlmibceiolpaaGreatDoorGOpen
set_option linter.unusedSimpArgs false
set_option linter.unusedVariables false
namespace Go.Proofs.YtpmlmibceiolpaaGreatDoor
open Go.RowKit

theorem shl2m {n : Nat} (h : n ≤ 6) : wrap64 (2 * (2 : Int) ^ min n 64) = ((2 ^ (n + 1) : Nat) : Int) := by rw [Nat.min_eq_left (by omega)]; exact shl2 n h
theorem shl2all {n : Nat} (h : n ≤ 6) : wrap64 (2 * (2 : Int) ^ min n 64) = ((2 ^ (n + 1) : Nat) : Int) ∧ wrap64 (2 * (2 : Int) ^ n) = ((2 ^ (n + 1) : Nat) : Int) ∧ IntKind.i64.wrap (2 * (2 : Int) ^ min n 64) = ((2 ^ (n + 1) : Nat) : Int) ∧ IntKind.i64.wrap (2 * (2 : Int) ^ n) = ((2 ^ (n + 1) : Nat) : Int) := by
  rw [Nat.min_eq_left (by omega)]; exact ⟨shl2 n h, shl2 n h, shl2w n h, shl2w n h⟩
theorem wrap64_nat (M : Nat) (h : M ≤ 1000000) : wrap64 (M : Int) = (M : Int) := by unfold wrap64; omega
theorem Qs.form {w : World} {v : Value} {ts : List (List UInt8)} (h : Qs w v ts) : ∃ a c, v = .slice a ts.length c := by
  obtain ⟨a, c, e, -⟩ := h
  exact ⟨a, c, e⟩

set_option maxHeartbeats 16000000 in
set_option maxRecDepth 100000 in
theorem canon_any {W : World} {s1 s2 : Value} {vr1 kd1 vr2 kd2 m : Nat} {zs1 zs2 : List Nat} (h1 : Dft W (.agg #[.int .u8 (vr1 : Int), .int .u8 (kd1 : Int), s1]) vr1 kd1 zs1) (h2 : Dft W (.agg #[.int .u8 (vr2 : Int), .int .u8 (kd2 : Int), s2]) vr2 kd2 zs2) (hm : m < 256) (hg : Good W) :
    Calls Tryz.prog 3 #[.agg #[.int .u8 (vr1 : Int), .int .u8 (kd1 : Int), s1, .int .u8 (vr2 : Int), .int .u8 (kd2 : Int), s2], .int .u8 (m : Int)] W (RetV W (.bool true)) := by
  obtain ⟨x1, e1, u1⟩ := id h1.is
  obtain rfl : s1 = x1 := by injection e1 with e; exact Option.some.inj (congrArg (fun x : Array Value => x[2]?) e)
  obtain ⟨x2, e2, u2⟩ := id h2.is
  obtain rfl : s2 = x2 := by injection e2 with e; exact Option.some.inj (congrArg (fun x : Array Value => x[2]?) e)
  obtain ⟨a1, c1, f1, -⟩ := u1.open_
  obtain ⟨a2, c2, f2, -⟩ := u2.open_
  subst f1 f2
  obtain ⟨n, hn⟩ : ∃ n, n = m % 7 := ⟨_, rfl⟩
  have hn6 : n ≤ 6 := by omega
  have hS := tabD_tbl (kd := kd1) (zs := zs1) hn6
  have hT := tabD_tbl (kd := kd2) (zs := zs2) hn6
  obtain ⟨S, hSe⟩ : ∃ S, S = tabD kd1 zs1 n := ⟨_, rfl⟩
  obtain ⟨T, hTe⟩ : ∃ S, S = tabD kd2 zs2 n := ⟨_, rfl⟩
  rw [← hSe] at hS
  rw [← hTe] at hT
  have HTS := Lib.hid (fun (V : World) (hV : Below W.heap.size W V) => show Calls Tryz.prog 11 #[.agg #[.int .u8 (vr1 : Int), .int .u8 (kd1 : Int), .slice a1 zs1.length c1], .int .i64 (n : Int)] V (RetQs V S) from by
    rw [hSe]; exact draft_table (h1.below hV) hn6)
  have HTT := Lib.hid (fun (V : World) (hV : Below W.heap.size W V) => show Calls Tryz.prog 11 #[.agg #[.int .u8 (vr2 : Int), .int .u8 (kd2 : Int), .slice a2 zs2.length c2], .int .i64 (n : Int)] V (RetQs V T) from by
    rw [hTe]; exact draft_table (h2.below hV) hn6)
  have HGD := Lib.hid (fun (V : World) (hV : Below W.heap.size W V) => hg.below hV)
  have HS := Lib.hid hS
  have HT := Lib.hid hT
  have hn7 : (m : Int) % 7 = (n : Int) := by omega
  have hn7t : (m : Int).tmod 7 = (n : Int) := by rw [Int.tmod_eq_emod_of_nonneg (by omega)]; omega
  have HN7 := Lib.hid (And.intro hn7 hn6)
  have HN7t := Lib.hid hn7t
  obtain ⟨W1, hW1, hB1, hs1, j1⟩ := entA W 25 #[.int .u8 (vr1 : Int), .int .u8 (kd1 : Int), .slice a1 zs1.length c1, .int .u8 (vr2 : Int), .int .u8 (kd2 : Int), .slice a2 zs2.length c2]
  have K := Lib.hid hB1
  have HW1 := Lib.hid hW1
  have J := Lib.hid j1
  generalize zs1.length = n1 at *
  generalize zs2.length = n2 at *
  clear h1 h2 e1 e2 u1 u2 hS hT hSe hTe hg hB1 hW1 hs1 j1 hn7 hn7t hn
  go_enter Tryz.func3, Tryz.ntmps3
  go_upto_region 1 with fail
  rw [← HW1.out]
  clear HW1
  generalize W.heap.size = gb at J
  go_wp2_with fail
  refine (wakes_any (HGD.out _ K.out)).mono ?_
  rintro e w2 ⟨rfl, hb⟩
  replace K := Lib.hid (next_below K.out hb)
  replace J := Lib.hid (J.out.next hb)
  clear hb
  have hn7 := HN7.out.1
  have hn7t := HN7t.out
  go_upto_region 4 with fail
  clear hn7 hn7t
  have hBd : Below w2.heap.size w2 w2.drew := (Below.refl _ _).drew
  refine wp_region_list 9 (by kernel_rfl) (by kernel_rfl) [] [fun xv _ => xv = .pointer (some ⟨gb, 0, none⟩), fun xv _ => xv = .agg #[.int .u8 (vr1 : Int), .int .u8 (kd1 : Int), .slice a1 n1 c1], fun xv _ => xv = .int .i64 (n : Int), fun xv w' => Qs w' xv S, fun xv _ => xv = .pointer (some ⟨gb, 3, none⟩), fun xv _ => xv = .agg #[.int .u8 (vr2 : Int), .int .u8 (kd2 : Int), .slice a2 n2 c2], fun xv _ => xv = .int .i64 (n : Int), fun xv w' => Qs w' xv T, fun xv w' => Qs w' xv S] (by simp only [List.take_succ_cons, List.take_zero]; rfl) (by simp only [List.drop_succ_cons, List.drop_zero]; rfl) (fun vals => by simp only [fam, Act.put, List.setIfInBounds_toArray, List.set_cons_zero, List.set_cons_succ, if_true]; rfl) (by repeat' (first | exact Stab.eq _ _ | exact Stab.wh _ _ | exact Stab.nm _ _ | exact Stab.new _ _ | exact Stab.newn _ _ | exact Stab.tw _ _ _ | exact Stab.lm _ _ _ | exact Stab.onet _ _ _ | exact Stab.pl _ _ _ | exact Stab.dg _ _ _ | exact Stab.nds _ _ | exact Stab.qs _ _ | exact trivial | apply And.intro)) trivial ?_ ?_
  · refine ⟨?_, ?_, ?_, ?_, ?_, ?_, ?_, ?_, ?_, trivial⟩
    all_goals
      intro vals wy hB1 hp
      dsimp only
      (try simp [preOk, Region.binds, r_anygc, r_anytext] at hp)
      have hb := next_below hBd hB1
      have KU := Lib.hid (next_below K.out hb)
      (try simp only [hp])
      clear hB1
    case refine_2 =>
      have y0 : wy.cell? ⟨gb, 0, none⟩ = some (.int .u8 (vr1 : Int)) := (J.out.next hb).cell 0
      have y1 : wy.cell? ⟨gb, 1, none⟩ = some (.int .u8 (kd1 : Int)) := (J.out.next hb).cell 1
      have y2 : wy.cell? ⟨gb, 2, none⟩ = some (.slice a1 n1 c1) := (J.out.next hb).cell 2
      go_wp2
      (first | exact ⟨rfl, _, rfl, rfl, Below.refl _ _, trivial⟩ | (refine ⟨rfl, _, ?_, rfl, Below.refl _ _, trivial⟩; simp only [Act.put, List.setIfInBounds_toArray, List.set_cons_zero, List.set_cons_succ, Nat.zero_add, Nat.reduceAdd, hp]))
    case refine_6 =>
      have y0 : wy.cell? ⟨gb, 3, none⟩ = some (.int .u8 (vr2 : Int)) := (J.out.next hb).cell 3
      have y1 : wy.cell? ⟨gb, 4, none⟩ = some (.int .u8 (kd2 : Int)) := (J.out.next hb).cell 4
      have y2 : wy.cell? ⟨gb, 5, none⟩ = some (.slice a2 n2 c2) := (J.out.next hb).cell 5
      go_wp2
      (first | exact ⟨rfl, _, rfl, rfl, Below.refl _ _, trivial⟩ | (refine ⟨rfl, _, ?_, rfl, Below.refl _ _, trivial⟩; simp only [Act.put, List.setIfInBounds_toArray, List.set_cons_zero, List.set_cons_succ, Nat.zero_add, Nat.reduceAdd, hp]))
    case refine_4 =>
      go_wp2_with fail
      refine (HTS.out _ KU.out).mono ?_
      rintro e w' ⟨vv, rfl, hq2, hb2⟩
      go_wp2
      (first | exact ⟨rfl, _, rfl, hq2, hb2, trivial⟩ | (refine ⟨rfl, _, ?_, hq2, hb2, trivial⟩; simp only [Act.put, List.setIfInBounds_toArray, List.set_cons_zero, List.set_cons_succ, Nat.zero_add, Nat.reduceAdd, hp]))
    case refine_8 =>
      go_wp2_with fail
      refine (HTT.out _ KU.out).mono ?_
      rintro e w' ⟨vv, rfl, hq2, hb2⟩
      go_wp2
      (first | exact ⟨rfl, _, rfl, hq2, hb2, trivial⟩ | (refine ⟨rfl, _, ?_, hq2, hb2, trivial⟩; simp only [Act.put, List.setIfInBounds_toArray, List.set_cons_zero, List.set_cons_succ, Nat.zero_add, Nat.reduceAdd, hp]))
    case refine_9 =>
      have hq2 := hp.1
      go_wp2
      (first | exact ⟨rfl, _, rfl, hq2, Below.refl _ _, trivial⟩ | (refine ⟨rfl, _, ?_, hq2, Below.refl _ _, trivial⟩; simp only [Act.put, List.setIfInBounds_toArray, List.set_cons_zero, List.set_cons_succ, Nat.zero_add, Nat.reduceAdd, hp]))
    all_goals
      go_wp2
      (first | exact ⟨rfl, _, rfl, rfl, Below.refl _ _, trivial⟩ | (refine ⟨rfl, _, ?_, rfl, Below.refl _ _, trivial⟩; simp only [Act.put, List.setIfInBounds_toArray, List.set_cons_zero, List.set_cons_succ, Nat.zero_add, Nat.reduceAdd, hp]))
  · rintro vals w3 hB1 ⟨p0, p1, p2, p3, p4, p5, p6, p7, p8, _⟩ hne
    have hb := next_below hBd hB1
    simp only [List.getD_cons_zero, List.getD_cons_succ, Nat.zero_add, Nat.reduceAdd] at p7 p8
    replace K := Lib.hid (next_below K.out hb)
    clear hb hB1 hBd hne p0 p1 p2 p3 p4 p5 p6 J
    have QS := Lib.hid p8
    have QT := Lib.hid p7
    clear p7 p8
    generalize vals 8 = s8 at *
    generalize vals 7 = s7 at *
    go_upto_region 5 with fail
    go_wp2_with fail
    refine (of_tbl HS.out QS.out (HGD.out _ K.out)).mono ?_
    rintro e w4 ⟨aa, ca, rfl, na, hb⟩
    obtain ⟨la, hla⟩ : ∃ l, l = (dgN S n).length := ⟨_, rfl⟩
    have NA := Lib.hid na
    replace K := Lib.hid (next_below K.out hb)
    replace QS := Lib.hid (QS.out.below hb)
    replace QT := Lib.hid (QT.out.below hb)
    rw [← hla]
    have HLA := Lib.hid hla
    clear hb na hla
    obtain ⟨X4, hX, hB, hs, j⟩ := entA w4 31 #[.int .i64 (n : Int), .slice aa la ca]
    replace K := Lib.hid (next_below K.out hB)
    replace QS := Lib.hid (QS.out.below hB)
    replace QT := Lib.hid (QT.out.below hB)
    replace NA := Lib.hid (NA.out.below hB)
    have JA := Lib.hid j
    have HX := Lib.hid hX
    clear hX hB hs j
    go_upto_region 6 with fail
    rw [← HX.out]
    clear HX
    generalize w4.heap.size = ga at *
    go_wp2_with fail
    refine (of_tbl HT.out QT.out (HGD.out _ K.out)).mono ?_
    rintro e w5 ⟨ab, cb, rfl, nb, hb⟩
    obtain ⟨lb, hlb⟩ : ∃ l, l = (dgN T n).length := ⟨_, rfl⟩
    have NB := Lib.hid nb
    replace K := Lib.hid (next_below K.out hb)
    replace QS := Lib.hid (QS.out.below hb)
    replace QT := Lib.hid (QT.out.below hb)
    replace NA := Lib.hid (NA.out.below hb)
    replace JA := Lib.hid (JA.out.next hb)
    rw [← hlb]
    have HLB := Lib.hid hlb
    clear hb nb hlb
    obtain ⟨X5, hX, hB, hs, j⟩ := entA w5 31 #[.int .i64 (n : Int), .slice ab lb cb]
    replace K := Lib.hid (next_below K.out hB)
    replace QS := Lib.hid (QS.out.below hB)
    replace QT := Lib.hid (QT.out.below hB)
    replace NA := Lib.hid (NA.out.below hB)
    replace NB := Lib.hid (NB.out.below hB)
    replace JA := Lib.hid (JA.out.next hB)
    have JB := Lib.hid j
    have HX := Lib.hid hX
    clear hX hB hs j
    go_upto_region 7 with fail
    rw [← HX.out]
    clear HX
    generalize w5.heap.size = gc at *
    have DA : Hid (∀ V : World, Below X5.heap.size X5 V → DgIn V (.agg #[.int .i64 (n : Int), .slice aa la ca]) n (dgN S n)) := Lib.hid (fun V hV => by
      have h := NA.out.below hV
      rw [HLA.out]; exact dgIn_tbl HS.out h)
    have DB : Hid (∀ V : World, Below X5.heap.size X5 V → DgIn V (.agg #[.int .i64 (n : Int), .slice ab lb cb]) n (dgN T n)) := Lib.hid (fun V hV => by
      have h := NB.out.below hV
      rw [HLB.out]; exact dgIn_tbl HT.out h)
    have HP := Lib.hid (shl2all HN7.out.2)
    have HPL := Lib.hid (show la + 1 ≤ 2 ^ (n + 1) from by
      rw [HLA.out]
      have := made_size (fun y => S.getD y []) n
      have h0 := Nat.pos_of_ne_zero (show 2 ^ (n + 1) ≠ 0 by simp)
      unfold dgN; omega)
    have HPU := Lib.hid (show 2 ^ (n + 1) ≤ 128 from Nat.pow_le_pow_right (show 2 > 0 by omega) (show n + 1 ≤ 7 by have := HN7.out.2; omega))
    obtain ⟨P, hP⟩ : ∃ P, P = 2 ^ (n + 1) := ⟨_, rfl⟩
    rw [← hP] at HP HPL HPU
    clear hP
    obtain ⟨PQ, hPQ⟩ : ∃ PQ, PQ + 1 = P := ⟨P - 1, by have := HPL.out; omega⟩
    subst hPQ
    have HQ := Lib.hid (show wrap64 (((PQ + 1 : Nat) : Int) - 1) = (PQ : Int) from by
      have h1 := wrap64_nat PQ (by have := HPU.out; omega)
      rw [← h1]; congr 1; omega)
    obtain ⟨P, hP⟩ : ∃ P, P = PQ + 1 := ⟨_, rfl⟩
    rw [← hP] at HP HPL HPU HQ
    clear hP
    have HLE := Lib.hid (show la ≤ PQ from by
      have h1 := HQ.out
      have h2 := HPL.out
      have h3 := HPU.out
      unfold wrap64 at h1; omega)
    have hBd : Below X5.heap.size X5 X5.drew := (Below.refl _ _).drew
    refine wp_region_list 32 (by kernel_rfl) (by kernel_rfl) [] [fun xv _ => xv = .int .i64 0, fun xv _ => xv = .bool false, fun xv _ => xv = .bool false, fun xv _ => xv = .int .i64 0, fun xv _ => xv = .bool false, fun xv _ => xv = .bool false, fun xv _ => xv = .bool false, fun xv _ => xv = .agg #[.int .i64 (n : Int), .slice aa la ca], fun xv _ => xv = s8, fun xv _ => xv = .bool true, fun xv _ => xv = .bool false, fun xv _ => xv = .bool false, fun xv _ => xv = .bool false, fun xv _ => xv = .agg #[.int .i64 (n : Int), .slice ab lb cb], fun xv _ => xv = s7, fun xv _ => xv = .bool true, fun xv _ => xv = .bool false, fun xv _ => xv = .bool false, fun xv _ => xv = .bool false, fun xv _ => xv = .agg #[.int .i64 (n : Int), .slice aa la ca], fun xv _ => xv = .int .i64 0, fun xv _ => xv = .bool false, fun xv _ => xv = .bool false, fun xv _ => xv = .bool false, fun xv _ => xv = .pointer (some ⟨ga, 1, none⟩), fun xv _ => xv = .slice aa la ca, fun xv _ => xv = .int .i64 (la : Int), fun xv _ => xv = .int .i64 (n : Int), fun xv _ => xv = .int .i64 (P : Int), fun xv _ => xv = .int .i64 (PQ : Int), fun xv _ => xv = .bool false, fun xv _ => xv = .bool false] (by simp only [List.take_succ_cons, List.take_zero]; rfl) (by simp only [List.drop_succ_cons, List.drop_zero]; rfl) (fun vals => by simp only [fam, Act.put, List.setIfInBounds_toArray, List.set_cons_zero, List.set_cons_succ, if_true]; rfl) (by repeat' (first | exact Stab.eq _ _ | exact Stab.wh _ _ | exact Stab.nm _ _ | exact Stab.new _ _ | exact Stab.newn _ _ | exact Stab.tw _ _ _ | exact Stab.lm _ _ _ | exact Stab.onet _ _ _ | exact Stab.pl _ _ _ | exact Stab.dg _ _ _ | exact Stab.nds _ _ | exact Stab.qs _ _ | exact trivial | apply And.intro)) trivial ?_ ?_
    · refine ⟨?_, ?_, ?_, ?_, ?_, ?_, ?_, ?_, ?_, ?_, ?_, ?_, ?_, ?_, ?_, ?_, ?_, ?_, ?_, ?_, ?_, ?_, ?_, ?_, ?_, ?_, ?_, ?_, ?_, ?_, ?_, ?_, trivial⟩
      all_goals
        intro vals wy hB1 hp
        dsimp only
        (try simp [preOk, Region.binds, r_anygc, r_anytext] at hp)
        have hb := next_below hBd hB1
        have KU := Lib.hid (next_below K.out hb)
        (try simp only [hp])
        clear hB1
      case refine_8 =>
        have y0 : wy.cell? ⟨ga, 0, none⟩ = some (.int .i64 (n : Int)) := (JA.out.next hb).cell 0
        have y1 : wy.cell? ⟨ga, 1, none⟩ = some (.slice aa la ca) := (JA.out.next hb).cell 1
        go_wp2
        (first | exact ⟨rfl, _, rfl, rfl, Below.refl _ _, trivial⟩ | (refine ⟨rfl, _, ?_, rfl, Below.refl _ _, trivial⟩; simp only [Act.put, List.setIfInBounds_toArray, List.set_cons_zero, List.set_cons_succ, Nat.zero_add, Nat.reduceAdd, hp]))
      case refine_14 =>
        have y0 : wy.cell? ⟨gc, 0, none⟩ = some (.int .i64 (n : Int)) := (JB.out.next hb).cell 0
        have y1 : wy.cell? ⟨gc, 1, none⟩ = some (.slice ab lb cb) := (JB.out.next hb).cell 1
        go_wp2
        (first | exact ⟨rfl, _, rfl, rfl, Below.refl _ _, trivial⟩ | (refine ⟨rfl, _, ?_, rfl, Below.refl _ _, trivial⟩; simp only [Act.put, List.setIfInBounds_toArray, List.set_cons_zero, List.set_cons_succ, Nat.zero_add, Nat.reduceAdd, hp]))
      case refine_20 =>
        have y0 : wy.cell? ⟨ga, 0, none⟩ = some (.int .i64 (n : Int)) := (JA.out.next hb).cell 0
        have y1 : wy.cell? ⟨ga, 1, none⟩ = some (.slice aa la ca) := (JA.out.next hb).cell 1
        go_wp2
        (first | exact ⟨rfl, _, rfl, rfl, Below.refl _ _, trivial⟩ | (refine ⟨rfl, _, ?_, rfl, Below.refl _ _, trivial⟩; simp only [Act.put, List.setIfInBounds_toArray, List.set_cons_zero, List.set_cons_succ, Nat.zero_add, Nat.reduceAdd, hp]))
      case refine_26 =>
        have y1 : wy.cell? ⟨ga, 1, none⟩ = some (.slice aa la ca) := (JA.out.next hb).cell 1
        go_wp2
        (first | exact ⟨rfl, _, rfl, rfl, Below.refl _ _, trivial⟩ | (refine ⟨rfl, _, ?_, rfl, Below.refl _ _, trivial⟩; simp only [Act.put, List.setIfInBounds_toArray, List.set_cons_zero, List.set_cons_succ, Nat.zero_add, Nat.reduceAdd, hp]))
      case refine_10 =>
        go_wp2_with fail
        refine (lists_tbl HS.out (DA.out _ hb) (QS.out.below hb) (HGD.out _ KU.out)).mono ?_
        rintro e w' ⟨rfl, hb2⟩
        go_wp2
        (first | exact ⟨rfl, _, rfl, rfl, hb2, trivial⟩ | (refine ⟨rfl, _, ?_, rfl, hb2, trivial⟩; simp only [Act.put, List.setIfInBounds_toArray, List.set_cons_zero, List.set_cons_succ, Nat.zero_add, Nat.reduceAdd, hp]))
      case refine_16 =>
        go_wp2_with fail
        refine (lists_tbl HT.out (DB.out _ hb) (QT.out.below hb) (HGD.out _ KU.out)).mono ?_
        rintro e w' ⟨rfl, hb2⟩
        go_wp2
        (first | exact ⟨rfl, _, rfl, rfl, hb2, trivial⟩ | (refine ⟨rfl, _, ?_, rfl, hb2, trivial⟩; simp only [Act.put, List.setIfInBounds_toArray, List.set_cons_zero, List.set_cons_succ, Nat.zero_add, Nat.reduceAdd, hp]))
      case refine_21 =>
        go_wp2_with fail
        refine (check_tbl HS.out (DA.out _ hb) (HGD.out _ KU.out)).mono ?_
        rintro e w' ⟨rfl, hb2⟩
        go_wp2
        (first | exact ⟨rfl, _, rfl, rfl, hb2, trivial⟩ | (refine ⟨rfl, _, ?_, rfl, hb2, trivial⟩; simp only [Act.put, List.setIfInBounds_toArray, List.set_cons_zero, List.set_cons_succ, Nat.zero_add, Nat.reduceAdd, hp]))
      case refine_29 =>
        have hh := HP.out
        go_wp2
        (first | exact ⟨rfl, _, rfl, rfl, Below.refl _ _, trivial⟩ | (refine ⟨rfl, _, ?_, rfl, Below.refl _ _, trivial⟩; simp only [Act.put, List.setIfInBounds_toArray, List.set_cons_zero, List.set_cons_succ, Nat.zero_add, Nat.reduceAdd, hp, hh]))
      case refine_30 =>
        have hh := HQ.out
        go_wp2
        (first | exact ⟨rfl, _, rfl, rfl, Below.refl _ _, trivial⟩ | (refine ⟨rfl, _, ?_, rfl, Below.refl _ _, trivial⟩; simp only [Act.put, List.setIfInBounds_toArray, List.set_cons_zero, List.set_cons_succ, Nat.zero_add, Nat.reduceAdd, hp, hh]))
      case refine_31 =>
        have hh : ¬ (PQ : Int) < (la : Int) := by have := HLE.out; omega
        go_wp2
        (first | exact ⟨rfl, _, rfl, rfl, Below.refl _ _, trivial⟩ | (refine ⟨rfl, _, ?_, rfl, Below.refl _ _, trivial⟩; simp only [Act.put, List.setIfInBounds_toArray, List.set_cons_zero, List.set_cons_succ, Nat.zero_add, Nat.reduceAdd, hp, hh]))
      all_goals
        go_wp2
        (first | exact ⟨rfl, _, rfl, rfl, Below.refl _ _, trivial⟩ | (refine ⟨rfl, _, ?_, rfl, Below.refl _ _, trivial⟩; simp only [Act.put, List.setIfInBounds_toArray, List.set_cons_zero, List.set_cons_succ, Nat.zero_add, Nat.reduceAdd, hp]))
    · rintro vals w7 hB1 ⟨p0, p1, p2, p3, p4, p5, p6, p7, p8, p9, p10, p11, p12, p13, p14, p15, p16, p17, p18, p19, p20, p21, p22, p23, p24, p25, p26, p27, p28, p29, p30, p31, _⟩ hne
      have hb := next_below hBd hB1
      simp only [List.getD_cons_zero, List.getD_cons_succ, Nat.zero_add, Nat.reduceAdd] at p31
      replace K := Lib.hid (next_below K.out hb)
      replace QS := Lib.hid (QS.out.below hb)
      replace QT := Lib.hid (QT.out.below hb)
      have DA7 := Lib.hid (DA.out _ hb)
      have DB7 := Lib.hid (DB.out _ hb)
      have y0 : w7.cell? ⟨ga, 0, none⟩ = some (.int .i64 (n : Int)) := (JA.out.next hb).cell 0
      have y1 : w7.cell? ⟨ga, 1, none⟩ = some (.slice aa la ca) := (JA.out.next hb).cell 1
      have z0 : w7.cell? ⟨gc, 0, none⟩ = some (.int .i64 (n : Int)) := (JB.out.next hb).cell 0
      have z1 : w7.cell? ⟨gc, 1, none⟩ = some (.slice ab lb cb) := (JB.out.next hb).cell 1
      clear hb hB1 hBd hne p0 p1 p2 p3 p4 p5 p6 p7 p8 p9 p10 p11 p12 p13 p14 p15 p16 p17 p18 p19 p20 p21 p22 p23 p24 p25 p26 p27 p28 p29 p30 DA DB NA NB JA JB HP HPL HPU HQ HLE
      rw [p31]
      clear p31
      have HF1 := Lib.hid (show Calls Tryz.prog 15 #[.agg #[.int .i64 (n : Int), .slice aa la ca], .agg #[.int .i64 (n : Int), .slice ab lb cb]] w7 (RetV w7 (.bool (decide (S = T)))) from by
        have h := rsame_any DA7.out.dg DB7.out.dg DA7.out.few DB7.out.few
        rw [← Tbl.inj HS.out HT.out]
        have e : decide ((n : Int) = (n : Int) ∧ dgN S n = dgN T n) = decide (dgN S n = dgN T n) := Bool.eq_iff_iff.2 (by rw [decide_eq_true_eq, decide_eq_true_eq]; exact ⟨fun h => h.2, fun h => ⟨rfl, h⟩⟩)
        rwa [e] at h)
      have HF2 := Lib.hid (fun (V : World) (hV : Below w7.heap.size w7 V) => qsame_any (QS.out.below hV) (QT.out.below hV) HS.out.few HT.out.few)
      generalize decide (S = T) = BB at *
      go_wp2_with fail
      refine (HF1.out).mono ?_
      rintro e w8 ⟨rfl, hb⟩
      have HF3 := Lib.hid (HF2.out _ hb)
      replace K := Lib.hid (next_below K.out hb)
      clear hb y0 y1 z0 z1
      go_wp2_with fail
      refine (HF3.out).mono ?_
      rintro e w9 ⟨rfl, hb⟩
      replace K := Lib.hid (next_below K.out hb)
      clear hb
      cases BB with
      | true =>
        go_wp2
        go_ret
        exact ⟨rfl, K.out⟩
      | false =>
        go_wp2
        go_ret
        exact ⟨rfl, K.out⟩

theorem canon_at {W : World} {v : Value} (D : Draft2At W v) (m : Nat) (hm : m < 256) (hg : Good W) : Calls Tryz.prog 3 #[v, .int .u8 (m : Int)] W (RetV W (.bool true)) := by
  obtain ⟨s1, s2, vr1, kd1, vr2, kd2, zs1, zs2, rfl, h1, h2⟩ := D
  exact canon_any h1 h2 hm hg
end Go.Proofs.YtpmlmibceiolpaaGreatDoor
