/- The reference's operations on the texts of numbers. -/
import Derived.Test.YtpmlmibceiolpaaGreatDoorGDv
import Derived.Test.YtpmlmibceiolpaaGreatDoorR2b
import Derived.Test.YtpmlmibceiolpaaGreatDoorGBox
import Derived.Test.YtpmlmibceiolpaaGreatDoorGOpen
set_option linter.unusedSimpArgs false
set_option linter.unusedVariables false
namespace Go.Proofs.YtpmlmibceiolpaaGreatDoor
open Go.RowKit
open D4 (rt Mid)

theorem rcmp_lt {x y : Rat} (h : x < y) : rcmp x y = -1 := by
  have h1 := rcmp_neg.2 h
  unfold rcmp at *
  rcases Int.sign_trichotomy (x.num * y.den - y.num * x.den) with h | h | h <;> omega
theorem rcmp_gt {x y : Rat} (h : y < x) : rcmp x y = 1 := by
  have h1 := rcmp_pos.2 h
  unfold rcmp at *
  rcases Int.sign_trichotomy (x.num * y.den - y.num * x.den) with h | h | h <;> omega
theorem rcmp_nlt {x y : Rat} (h : ¬ x < y) : ¬ rcmp x y < 0 := fun h1 => h (rcmp_neg.1 h1)
theorem rcmp_ngt {x y : Rat} (h : ¬ y < x) : ¬ 0 < rcmp x y := fun h1 => h (rcmp_pos.1 h1)
set_option maxHeartbeats 1000000 in
theorem max_rt {w : World} {x y : Rat} (hx : Mid x) (hy : Mid y) (hg : Good w) : Calls Tryz.prog 28 #[.string (rt x), .string (rt y)] w (RetV w (.string (rt (if x < y then y else x)))) := by
  have HC := Lib.hid (D4.cmp_rt (w := w) hx hy hg)
  obtain ⟨R, hR⟩ : ∃ R, R = rt (if x < y then y else x) := ⟨_, rfl⟩
  rw [← hR]
  by_cases h : x < y
  · rw [if_pos h] at hR
    have HR := Lib.hid hR
    rw [rcmp_lt h] at HC
    generalize rt x = X at *
    generalize rt y = Y at *
    clear hR h hx hy hg
    go_enter Tryz.func28, Tryz.ntmps28
    go_wp2_with fail
    refine HC.out.mono ?_
    rintro e V ⟨rfl, hb⟩
    go_wp2
    go_ret
    exact ⟨by rw [HR.out]; rfl, hb⟩
  · rw [if_neg h] at hR
    have HR := Lib.hid hR
    have hc := rcmp_nlt h
    generalize rcmp x y = c at *
    generalize rt x = X at *
    generalize rt y = Y at *
    clear hR h hx hy hg
    go_enter Tryz.func28, Tryz.ntmps28
    go_wp2_with fail
    refine HC.out.mono ?_
    rintro e V ⟨rfl, hb⟩
    go_wp2
    go_ret
    exact ⟨by rw [HR.out]; rfl, hb⟩
set_option maxHeartbeats 1000000 in
theorem min_rt {w : World} {x y : Rat} (hx : Mid x) (hy : Mid y) (hg : Good w) : Calls Tryz.prog 29 #[.string (rt x), .string (rt y)] w (RetV w (.string (rt (if y < x then y else x)))) := by
  have HC := Lib.hid (D4.cmp_rt (w := w) hx hy hg)
  obtain ⟨R, hR⟩ : ∃ R, R = rt (if y < x then y else x) := ⟨_, rfl⟩
  rw [← hR]
  by_cases h : y < x
  · rw [if_pos h] at hR
    have HR := Lib.hid hR
    rw [rcmp_gt h] at HC
    generalize rt x = X at *
    generalize rt y = Y at *
    clear hR h hx hy hg
    go_enter Tryz.func29, Tryz.ntmps29
    go_wp2_with fail
    refine HC.out.mono ?_
    rintro e V ⟨rfl, hb⟩
    go_wp2
    go_ret
    exact ⟨by rw [HR.out]; rfl, hb⟩
  · rw [if_neg h] at hR
    have HR := Lib.hid hR
    have hc := rcmp_ngt h
    generalize rcmp x y = c at *
    generalize rt x = X at *
    generalize rt y = Y at *
    clear hR h hx hy hg
    go_enter Tryz.func29, Tryz.ntmps29
    go_wp2_with fail
    refine HC.out.mono ?_
    rintro e V ⟨rfl, hb⟩
    go_wp2
    go_ret
    exact ⟨by rw [HR.out]; rfl, hb⟩
/-- The five operations. -/
theorem ops_rt {w : World} {x y : Rat} (hx : Mid x) (hy : Mid y) (hg : Good w) :
    Calls Tryz.prog 25 #[.string (rt x), .string (rt y)] w (RetV w (.string (rt (opR 1 x y)))) ∧
    Calls Tryz.prog 26 #[.string (rt x), .string (rt y)] w (RetV w (.string (rt (opR 2 x y)))) ∧
    Calls Tryz.prog 27 #[.string (rt x), .string (rt y)] w (RetV w (.string (rt (opR 3 x y)))) ∧
    Calls Tryz.prog 28 #[.string (rt x), .string (rt y)] w (RetV w (.string (rt (opR 4 x y)))) ∧
    Calls Tryz.prog 29 #[.string (rt x), .string (rt y)] w (RetV w (.string (rt (opR 5 x y)))) :=
  ⟨D4.add_rt hx hy hg, D4.sub_rt hx hy hg, D4.mul_rt hx hy hg, max_rt hx hy hg, min_rt hx hy hg⟩
theorem eval_rt {W : World} {n k c x : Nat} {h : Nat → Rat} {a : Option Addr} {L : List Nd} (D : DV W n h k a c L) (hx : x < 2 ^ n) (hg : Good W) :
    Calls Tryz.prog 24 #[.agg #[.int .i64 (n : Int), .slice a L.length c], .int .u64 (x : Int)] W (RetV W (.tuple #[.string (rt (h x)), .int .i64 0])) := by
  have h := eval_dv D hx hg
  unfold D4.rt
  exact h
end Go.Proofs.YtpmlmibceiolpaaGreatDoor
namespace Go.Proofs.YtpmlmibceiolpaaGreatDoor
open Go.RowKit

open D4 (rt Mid)
theorem ixq (s0 s1 s2 s3 s4 s5 : ByteArray) (X : World) :
    (Instr.index 62 (.agg #[.string s0, .string s1, .string s2, .string s3, .string s4, .string s5]) (.int .i64 0)).run Tryz.prog X = .ok (.string s0) X ∧
    (Instr.index 62 (.agg #[.string s0, .string s1, .string s2, .string s3, .string s4, .string s5]) (.int .i64 1)).run Tryz.prog X = .ok (.string s1) X ∧
    (Instr.index 62 (.agg #[.string s0, .string s1, .string s2, .string s3, .string s4, .string s5]) (.int .i64 2)).run Tryz.prog X = .ok (.string s2) X ∧
    (Instr.index 62 (.agg #[.string s0, .string s1, .string s2, .string s3, .string s4, .string s5]) (.int .i64 3)).run Tryz.prog X = .ok (.string s3) X ∧
    (Instr.index 62 (.agg #[.string s0, .string s1, .string s2, .string s3, .string s4, .string s5]) (.int .i64 4)).run Tryz.prog X = .ok (.string s4) X ∧
    (Instr.index 62 (.agg #[.string s0, .string s1, .string s2, .string s3, .string s4, .string s5]) (.int .i64 5)).run Tryz.prog X = .ok (.string s5) X := ⟨by kernel_rfl, by kernel_rfl, by kernel_rfl, by kernel_rfl, by kernel_rfl, by kernel_rfl⟩
theorem mod_u64 (a b : Nat) : ((a : Int).tmod (b : Int)) = ((a % b : Nat) : Int) := tmod_nat a b
theorem wrap_u64 {x : Nat} (h : x < 256) : IntKind.u64.wrap (x : Int) = (x : Int) := by
  simp only [IntKind.wrap, IntKind.signed, IntKind.bits]
  have : (x : Int) % (2 ^ 64 : Int) = (x : Int) := Int.emod_eq_of_lt (by omega) (by omega)
  simpa using this
theorem shl_u64 : ∀ k : Nat, k ≤ 6 → IntKind.u64.wrap ((2 : Int) ^ k) = ((2 ^ k : Nat) : Int) := by decide +kernel
set_option maxHeartbeats 16000000 in
set_option maxRecDepth 100000 in
theorem points_any {W : World} {s1 s2 : Value} {vr1 kd1 vr2 kd2 m x : Nat} {zs1 zs2 : List Nat} (h1 : Dft W (.agg #[.int .u8 (vr1 : Int), .int .u8 (kd1 : Int), s1]) vr1 kd1 zs1) (h2 : Dft W (.agg #[.int .u8 (vr2 : Int), .int .u8 (kd2 : Int), s2]) vr2 kd2 zs2) (hm : m < 256) (hx : x < 256) (hg : Good W) :
    Calls Tryz.prog 8 #[.agg #[.int .u8 (vr1 : Int), .int .u8 (kd1 : Int), s1, .int .u8 (vr2 : Int), .int .u8 (kd2 : Int), s2], .int .u8 (m : Int), .int .u8 (x : Int)] W (RetV W (.bool true)) := by
  obtain ⟨x1, e1, u1⟩ := id h1.is
  obtain rfl : s1 = x1 := by injection e1 with e; exact Option.some.inj (congrArg (fun x : Array Value => x[2]?) e)
  obtain ⟨a1, c1, f1, -⟩ := u1.open_
  subst f1
  obtain ⟨x2, e2, u2⟩ := id h2.is
  obtain rfl : s2 = x2 := by injection e2 with e; exact Option.some.inj (congrArg (fun x : Array Value => x[2]?) e)
  obtain ⟨a2, c2, f2, -⟩ := u2.open_
  subst f2
  obtain ⟨n, hn⟩ : ∃ n, n = m % 7 := ⟨_, rfl⟩
  have hn5 : (m : Int) % 7 = (n : Int) := by omega
  have hn5t : (m : Int).tmod 7 = (n : Int) := by rw [Int.tmod_eq_emod_of_nonneg (by omega)]; omega
  have hn6 : n ≤ 6 := by omega
  have HN5 := Lib.hid (And.intro hn5 hn5t)
  obtain ⟨P, hP⟩ : ∃ P, P = 2 ^ n := ⟨_, rfl⟩
  have hP0 : 0 < P := by rw [hP]; exact Nat.pow_pos (by omega)
  have hP64 : P ≤ 64 := by rw [hP]; exact pow6 hn6
  obtain ⟨at0, hat⟩ : ∃ a, a = x % P := ⟨_, rfl⟩
  have hatP : at0 < 2 ^ n := by rw [hat, ← hP]; exact Nat.mod_lt _ hP0
  have HAT := Lib.hid hatP
  have HSH := Lib.hid (show IntKind.u64.wrap ((2 : Int) ^ n) = (P : Int) ∧ IntKind.u64.wrap ((2 : Int) ^ min n 64) = (P : Int) from by
    rw [Nat.min_eq_left (by omega), hP]; exact ⟨shl_u64 n hn6, shl_u64 n hn6⟩)
  have HXW := Lib.hid (show (IntKind.u64.wrap (x : Int)).tmod (P : Int) = (at0 : Int) from by rw [wrap_u64 hx, hat]; exact tmod_nat x P)
  have HMD := Lib.hid (show (x : Int) % (P : Int) = (at0 : Int) ∧ (x : Int).tmod (P : Int) = (at0 : Int) ∧ ¬ (P : Int) = 0 from ⟨by rw [hat]; exact emod_nat x P, by rw [hat]; exact tmod_nat x P, by omega⟩)
  obtain ⟨ha, hha⟩ : ∃ h, h = dtV kd1 zs1 := ⟨_, rfl⟩
  obtain ⟨La, hLa⟩ : ∃ L, L = dgV ha n := ⟨_, rfl⟩
  have HVa := Lib.hid (show Vl ha n 4 ∧ La = dgV ha n from ⟨by rw [hha]; exact dtV_vl _ _ _ hn6, hLa⟩)
  have HTa := Lib.hid (fun (V : World) (hV : Below W.heap.size W V) => show Calls Tryz.prog 17 #[.agg #[.int .u8 (vr1 : Int), .int .u8 (kd1 : Int), .slice a1 zs1.length c1], .int .i64 (n : Int)] V (RetDm V n La) from by rw [hLa, hha]; exact with_any (h1.below hV) hn6)
  obtain ⟨hb, hhb⟩ : ∃ h, h = dtV kd2 zs2 := ⟨_, rfl⟩
  obtain ⟨Lb, hLb⟩ : ∃ L, L = dgV hb n := ⟨_, rfl⟩
  have HVb := Lib.hid (show Vl hb n 4 ∧ Lb = dgV hb n from ⟨by rw [hhb]; exact dtV_vl _ _ _ hn6, hLb⟩)
  have HTb := Lib.hid (fun (V : World) (hV : Below W.heap.size W V) => show Calls Tryz.prog 17 #[.agg #[.int .u8 (vr2 : Int), .int .u8 (kd2 : Int), .slice a2 zs2.length c2], .int .i64 (n : Int)] V (RetDm V n Lb) from by rw [hLb, hhb]; exact with_any (h2.below hV) hn6)
  have HGD := Lib.hid (fun (V : World) (hV : Below W.heap.size W V) => hg.below hV)
  have HOP := Lib.hid (fun (V : World) (hV : Below W.heap.size W V) => ops_rt (w := V) (x := ha at0) (y := hb at0) (fits_up (HVa.out.1.fit at0 hatP) (by omega)) (fits_up (HVb.out.1.fit at0 hatP) (by omega)) (hg.below hV))
  generalize hTa : rt (ha at0) = Ta at HOP
  generalize hTb : rt (hb at0) = Tb at HOP
  have HRa := Lib.hid hTa
  have HRb := Lib.hid hTb
  clear hTa hTb
  obtain ⟨W1, hW1, hB1, hs1, j1⟩ := entA W 25 #[.int .u8 (vr1 : Int), .int .u8 (kd1 : Int), .slice a1 zs1.length c1, .int .u8 (vr2 : Int), .int .u8 (kd2 : Int), .slice a2 zs2.length c2]
  have K := Lib.hid hB1
  have HW1 := Lib.hid hW1
  have JD := Lib.hid j1
  generalize zs1.length = n1 at *
  generalize zs2.length = n2 at *
  clear h1 h2 e1 e2 u1 u2 hg hB1 hW1 hs1 j1 hn hn5 hn5t hn6 hm hx hha hhb hLa hLb hP hP0 hP64 hat hatP
  go_enter Tryz.func8, Tryz.ntmps8
  go_upto_region 1 with fail
  rw [← HW1.out]
  clear HW1
  generalize W.heap.size = gb at JD
  go_wp2_with fail
  refine (wakes_any (HGD.out _ K.out)).mono ?_
  rintro e w0 ⟨rfl, hb⟩
  replace K := Lib.hid (next_below K.out hb)
  replace JD := Lib.hid (JD.out.next hb)
  clear hb
  obtain ⟨hn5, hn5t⟩ := HN5.out
  go_upto_region 4 with fail
  clear hn5 hn5t HN5
  have HSZ := Lib.hid K.out.size
  have hBd : Below w0.heap.size w0 w0.drew := (Below.refl _ _).drew
  refine wp_region_box 11 8 10 3 31 #[.int .i64 0, .slice none 0 0] (fun v => v.cells) (by kernel_rfl) (by kernel_rfl) (by kernel_rfl) [8, 9] rfl rfl [fun xv _ => xv = .pointer (some ⟨gb, 0, none⟩), fun xv _ => xv = .agg #[.int .u8 (vr1 : Int), .int .u8 (kd1 : Int), .slice a1 n1 c1], fun xv _ => xv = .int .i64 (n : Int), RetB n La, fun xv _ => xv = .pointer (some ⟨gb, 3, none⟩), fun xv _ => xv = .agg #[.int .u8 (vr2 : Int), .int .u8 (kd2 : Int), .slice a2 n2 c2], fun xv _ => xv = .int .i64 (n : Int), RetB n Lb, NewB w0.heap.size 31 #[.int .i64 0, .slice none 0 0], NewB w0.heap.size 31 #[.int .i64 0, .slice none 0 0], fun _ _ => True] (by simp only [List.take_succ_cons, List.take_zero]; rfl) (by simp only [List.drop_succ_cons, List.drop_zero]; rfl) (fun vals => by simp only [fam, Act.put, List.setIfInBounds_toArray, List.set_cons_zero, List.set_cons_succ, if_true]; rfl) (by repeat' (first | exact Stab.eq _ _ | exact Stab.wh _ _ | exact Stab.nm _ _ | exact Stab.new _ _ | exact Stab.newn _ _ | exact Stab.tw _ _ _ | exact Stab.lm _ _ _ | exact Stab.onet _ _ _ | exact Stab.pl _ _ _ | exact Stab.dg _ _ _ | exact Stab.nds _ _ | exact Stab.qs _ _ | exact NewB.stab | exact RetB.stab | exact Stab.none _ | exact trivial | apply And.intro)) ⟨NewB.new, NewB.new, trivial⟩ (fun _ _ h => h) (by repeat' (first | exact StabS.eq _ _ _ _ _ | exact NewB.stabS | exact trivial | exact RetB.stabS rfl | exact StabS.none _ _ _ _ | apply And.intro)) ?_ ?_
  · refine ⟨?_, ?_, ?_, ?_, ?_, ?_, ?_, ?_, ?_, ?_, ?_, trivial⟩
    all_goals
      intro vals wy hB1 hp
      (first | change wpList _ _ (EndAt _ _ _ _ _) _ _ _ | change wpList _ _ (EndB _ _ _ _ _ _) _ _ _)
      (try simp [preOk, Region.binds, r_anygc, r_anytext] at hp)
      have hb := next_below hBd hB1
      have KU := Lib.hid (next_below K.out hb)
    case refine_2 =>
      clear hB1
      (try simp only [hp])
      have y0 : wy.cell? ⟨gb, 0, none⟩ = some (.int .u8 (vr1 : Int)) := (JD.out.next hb).cell 0
      have y1 : wy.cell? ⟨gb, 1, none⟩ = some (.int .u8 (kd1 : Int)) := (JD.out.next hb).cell 1
      have y2 : wy.cell? ⟨gb, 2, none⟩ = some (.slice a1 n1 c1) := (JD.out.next hb).cell 2
      go_wp2
      (first | exact ⟨rfl, _, rfl, rfl, Below.refl _ _, trivial⟩ | (refine ⟨rfl, _, ?_, rfl, Below.refl _ _, trivial⟩; simp only [Act.put, List.setIfInBounds_toArray, List.set_cons_zero, List.set_cons_succ, Nat.zero_add, Nat.reduceAdd, hp]))
    case refine_4 =>
      clear hB1
      (try simp only [hp])
      go_wp2_with fail
      refine (HTa.out _ KU.out).mono ?_
      rintro e w' ⟨aa, cc, rfl, hn2, hb2⟩
      go_wp2
      exact ⟨rfl, _, rfl, ⟨aa, cc, rfl, hn2⟩, hb2, trivial⟩
    case refine_6 =>
      clear hB1
      (try simp only [hp])
      have y0 : wy.cell? ⟨gb, 3, none⟩ = some (.int .u8 (vr2 : Int)) := (JD.out.next hb).cell 3
      have y1 : wy.cell? ⟨gb, 4, none⟩ = some (.int .u8 (kd2 : Int)) := (JD.out.next hb).cell 4
      have y2 : wy.cell? ⟨gb, 5, none⟩ = some (.slice a2 n2 c2) := (JD.out.next hb).cell 5
      go_wp2
      (first | exact ⟨rfl, _, rfl, rfl, Below.refl _ _, trivial⟩ | (refine ⟨rfl, _, ?_, rfl, Below.refl _ _, trivial⟩; simp only [Act.put, List.setIfInBounds_toArray, List.set_cons_zero, List.set_cons_succ, Nat.zero_add, Nat.reduceAdd, hp]))
    case refine_8 =>
      clear hB1
      (try simp only [hp])
      go_wp2_with fail
      refine (HTb.out _ KU.out).mono ?_
      rintro e w' ⟨aa, cc, rfl, hn2, hb2⟩
      go_wp2
      exact ⟨rfl, _, rfl, ⟨aa, cc, rfl, hn2⟩, hb2, trivial⟩
    case refine_9 =>
      have hle := hb.size
      clear hB1
      go_wp2
      exact ⟨rfl, _, rfl, ⟨_, rfl, hle, Blk.new _ _ _⟩, (Below.refl _ _).alloc (Nat.le_refl _) _, rfl⟩
    case refine_10 =>
      have hle := hb.size
      clear hB1
      go_wp2
      exact ⟨rfl, _, rfl, ⟨_, rfl, hle, Blk.new _ _ _⟩, (Below.refl _ _).alloc (Nat.le_refl _) _, rfl⟩
    case refine_11 =>
      have h3 : RetB n La (vals 3) wy := by simp only [hp]
      have h12 : NewB w0.heap.size 31 #[.int .i64 0, .slice none 0 0] (vals 8) wy := by simp only [hp]
      obtain ⟨aa, cc, e3, hn3⟩ := h3
      obtain ⟨gg, e12, hgg, j2⟩ := h12
      simp only [e3, e12]
      obtain ⟨x0, x1⟩ : _ ∧ _ := ⟨j2.cell0, j2.cell1⟩
      have f0 := j2.frozen 0
      have f1 := j2.frozen 1
      have J3 := Lib.hid (j2.two (.int .i64 (n : Int)) (.slice aa La.length cc))
      clear j2 hB1 hn3 e3 e12 hp
      go_wp2
      exact ⟨rfl, rfl, gg, rfl, J3.out, Chg.two _ _ _ _⟩
    all_goals
      clear hB1
      (try simp only [hp])
      go_wp2
      (first | exact ⟨rfl, _, rfl, rfl, Below.refl _ _, trivial⟩ | (refine ⟨rfl, _, ?_, rfl, Below.refl _ _, trivial⟩; simp only [Act.put, List.setIfInBounds_toArray, List.set_cons_zero, List.set_cons_succ, Nat.zero_add, Nat.reduceAdd, hp]))
  · rintro vals w3 hB1 ⟨p0, p1, p2, p3, p4, p5, p6, p7, p8, p9, p10, _⟩ hne
    have hb := next_below hBd hB1
    replace K := Lib.hid (next_below K.out hb)
    clear JD
    have ra : RetB n La (vals 3) w3 := p3
    obtain ⟨aa, ca, ea, da⟩ := ra
    have ia : InBox 31 (fun v => v.cells) (vals 8) (vals 3) w3 := p8
    rw [ea] at ia
    obtain ⟨ga, sa, ba⟩ := ia
    have rb : RetB n Lb (vals 7) w3 := p7
    obtain ⟨ab, cb, eb, db⟩ := rb
    have ib : NewB w0.heap.size 31 #[.int .i64 0, .slice none 0 0] (vals 9) w3 := p9
    obtain ⟨gb, sb, lb, bb⟩ := ib
    have hab : some ga ≠ some gb := fun e => hne 8 9 rfl rfl (by omega) (by omega) (by omega) (by rw [sa, sb]; injection e with e; rw [e])
    have ba : Blk w3 ga 31 #[.int .i64 (n : Int), .slice aa La.length ca] := ba
    simp only [List.getD_cons_zero, List.getD_cons_succ, Nat.zero_add, Nat.reduceAdd, ea, sa, eb, sb]
    clear hb hB1 hne hBd p0 p1 p2 p3 p4 p5 p6 p7 p8 p9 p10 ea sa eb sb
    obtain ⟨u1, hu1⟩ : ∃ X, X = ((w3.setCell ⟨gb, 0, none⟩ (.int .i64 (n : Int))).setCell ⟨gb, 1, none⟩ (.slice ab Lb.length cb)) := ⟨_, rfl⟩
    have hc : Chg (some gb) w3 u1 := by rw [hu1]; exact Chg.two _ _ _ _
    have z1 : w3.cell? ⟨gb, 1, none⟩ = some (.slice none 0 0) := bb.cell 1
    have kb := And.intro (And.intro bb.cell0 bb.cell1) (And.intro (bb.frozen 0) (bb.frozen 1))
    have Kb := Lib.hid kb
    clear kb
    replace da := da.chg hc z1 (fun k z e => by cases e)
    replace db := db.chg hc z1 (fun k z e => by cases e)
    replace K := Lib.hid (K.out.trans (hc.below1 (Nat.le_trans HSZ.out lb) (K.out.size)))
    replace ba := ba.grown hc hab
    replace bb : Blk u1 gb 31 #[.int .i64 (n : Int), .slice ab Lb.length cb] := by rw [hu1]; exact bb.two _ _
    have Hu1 := Lib.hid hu1
    clear hu1 hc z1
    have Ba := Lib.hid ba
    have Da : Hid (DV u1 n ha 4 aa ca La) := Lib.hid ⟨da, HVa.out.1, HVa.out.2⟩
    clear ba da
    have Bb := Lib.hid bb
    have Db : Hid (DV u1 n hb 4 ab cb Lb) := Lib.hid ⟨db, HVb.out.1, HVb.out.2⟩
    clear bb db
    obtain ⟨⟨yb0, yb1⟩, yb2, yb3⟩ := Kb.out
    clear Kb
    go_upto_region 5 with fail
    rw [← Hu1.out]
    clear Hu1 yb0 yb1 yb2 yb3 HTa HTb HVa HVb
    obtain ⟨hsh, hsh2⟩ := HSH.out
    obtain ⟨hm1, hm2, hm3⟩ := HMD.out
    go_upto_region 6 with fail
    rw [HXW.out]
    clear HXW
    clear hsh hsh2 hm1 hm2 hm3 HSH HMD
    have xa0 : u1.cell? ⟨ga, 0, none⟩ = some (.int .i64 (n : Int)) := Ba.out.cell 0
    have xa1 : u1.cell? ⟨ga, 1, none⟩ = some (.slice aa La.length ca) := Ba.out.cell 1
    have HC := Lib.hid (eval_rt Da.out HAT.out (HGD.out _ K.out))
    rw [HRa.out] at HC
    go_wp2_with fail
    refine (HC.out).mono ?_
    rintro e v0 ⟨rfl, hb⟩
    clear HC
    clear xa0 xa1
    replace K := Lib.hid (next_below K.out hb)
    replace Ba := Lib.hid (Ba.out.next hb)
    replace Da := Lib.hid (Da.out.below hb)
    replace Bb := Lib.hid (Bb.out.next hb)
    replace Db := Lib.hid (Db.out.below hb)
    clear hb
    have xb0 : v0.cell? ⟨gb, 0, none⟩ = some (.int .i64 (n : Int)) := Bb.out.cell 0
    have xb1 : v0.cell? ⟨gb, 1, none⟩ = some (.slice ab Lb.length cb) := Bb.out.cell 1
    have HC := Lib.hid (eval_rt Db.out HAT.out (HGD.out _ K.out))
    rw [HRb.out] at HC
    go_wp2_with fail
    refine (HC.out).mono ?_
    rintro e v1 ⟨rfl, hb⟩
    clear HC
    clear xb0 xb1
    replace K := Lib.hid (next_below K.out hb)
    replace Ba := Lib.hid (Ba.out.next hb)
    replace Da := Lib.hid (Da.out.below hb)
    replace Bb := Lib.hid (Bb.out.next hb)
    replace Db := Lib.hid (Db.out.below hb)
    clear hb
    go_upto_region 10 with fail
    have HC := Lib.hid (HOP.out _ K.out).1
    generalize hR1 : rt (opR 1 (ha at0) (hb at0)) = R1 at HC
    have HR1 := Lib.hid hR1
    clear hR1
    go_wp2_with fail
    refine (HC.out).mono ?_
    rintro e q1 ⟨rfl, hb⟩
    clear HC
    replace K := Lib.hid (next_below K.out hb)
    replace Ba := Lib.hid (Ba.out.next hb)
    replace Da := Lib.hid (Da.out.below hb)
    replace Bb := Lib.hid (Bb.out.next hb)
    replace Db := Lib.hid (Db.out.below hb)
    clear hb
    have HC := Lib.hid (HOP.out _ K.out).2.1
    generalize hR2 : rt (opR 2 (ha at0) (hb at0)) = R2 at HC
    have HR2 := Lib.hid hR2
    clear hR2
    go_wp2_with fail
    refine (HC.out).mono ?_
    rintro e q2 ⟨rfl, hb⟩
    clear HC
    replace K := Lib.hid (next_below K.out hb)
    replace Ba := Lib.hid (Ba.out.next hb)
    replace Da := Lib.hid (Da.out.below hb)
    replace Bb := Lib.hid (Bb.out.next hb)
    replace Db := Lib.hid (Db.out.below hb)
    clear hb
    have HC := Lib.hid (HOP.out _ K.out).2.2.1
    generalize hR3 : rt (opR 3 (ha at0) (hb at0)) = R3 at HC
    have HR3 := Lib.hid hR3
    clear hR3
    go_wp2_with fail
    refine (HC.out).mono ?_
    rintro e q3 ⟨rfl, hb⟩
    clear HC
    replace K := Lib.hid (next_below K.out hb)
    replace Ba := Lib.hid (Ba.out.next hb)
    replace Da := Lib.hid (Da.out.below hb)
    replace Bb := Lib.hid (Bb.out.next hb)
    replace Db := Lib.hid (Db.out.below hb)
    clear hb
    have HC := Lib.hid (HOP.out _ K.out).2.2.2.1
    generalize hR4 : rt (opR 4 (ha at0) (hb at0)) = R4 at HC
    have HR4 := Lib.hid hR4
    clear hR4
    go_wp2_with fail
    refine (HC.out).mono ?_
    rintro e q4 ⟨rfl, hb⟩
    clear HC
    replace K := Lib.hid (next_below K.out hb)
    replace Ba := Lib.hid (Ba.out.next hb)
    replace Da := Lib.hid (Da.out.below hb)
    replace Bb := Lib.hid (Bb.out.next hb)
    replace Db := Lib.hid (Db.out.below hb)
    clear hb
    have HC := Lib.hid (HOP.out _ K.out).2.2.2.2
    generalize hR5 : rt (opR 5 (ha at0) (hb at0)) = R5 at HC
    have HR5 := Lib.hid hR5
    clear hR5
    go_wp2_with fail
    refine (HC.out).mono ?_
    rintro e q5 ⟨rfl, hb⟩
    clear HC
    replace K := Lib.hid (next_below K.out hb)
    replace Ba := Lib.hid (Ba.out.next hb)
    replace Da := Lib.hid (Da.out.below hb)
    replace Bb := Lib.hid (Bb.out.next hb)
    replace Db := Lib.hid (Db.out.below hb)
    clear hb
    have K0 := Lib.hid (Below.refl q5.heap.size q5)
    go_upto_region 11 with fail
    go_loopw [73] (fun u73 wr => ∃ k : Nat, k ≤ 6 ∧ u73 = .int .i64 (k : Int) ∧ Hid (Below q5.heap.size q5 wr)) (fun u73 _ => 6 - (intOf u73).toNat)
    case atStart => exact ⟨0, by omega, rfl, K0⟩
    case round =>
      obtain ⟨k, hk, rfl, hB⟩ := hrel
      by_cases hlt : k < 6
      · have hlti : (k : Int) < 6 := by omega
        by_cases hk0 : k = 0
        · subst hk0
          have hix := fun X => (ixq ⟨#[]⟩ R1 R2 R3 R4 R5 X).1
          go_wp2
          go_roundw
          case rel => exact ⟨1, by omega, by go_num, hB⟩
          case measure => simp [intOf]
        · have hkz : ¬ (k : Int) = 0 := by omega
          have HIX : ∀ X, (Instr.index 62 (.agg #[.string ⟨#[]⟩, .string R1, .string R2, .string R3, .string R4, .string R5]) (.int .i64 (k : Int))).run Tryz.prog X = .ok (.string (rt (opR (k : Int) (ha at0) (hb at0)))) X := by
            obtain rfl | rfl | rfl | rfl | rfl : k = 1 ∨ k = 2 ∨ k = 3 ∨ k = 4 ∨ k = 5 := by omega
            · intro X; have h := (ixq ⟨#[]⟩ R1 R2 R3 R4 R5 X).2.1; rw [← HR1.out] at h ⊢; exact h
            · intro X; have h := (ixq ⟨#[]⟩ R1 R2 R3 R4 R5 X).2.2.1; rw [← HR2.out] at h ⊢; exact h
            · intro X; have h := (ixq ⟨#[]⟩ R1 R2 R3 R4 R5 X).2.2.2.1; rw [← HR3.out] at h ⊢; exact h
            · intro X; have h := (ixq ⟨#[]⟩ R1 R2 R3 R4 R5 X).2.2.2.2.1; rw [← HR4.out] at h ⊢; exact h
            · intro X; have h := (ixq ⟨#[]⟩ R1 R2 R3 R4 R5 X).2.2.2.2.2; rw [← HR5.out] at h ⊢; exact h
          generalize hRk : rt (opR (k : Int) (ha at0) (hb at0)) = Rk at HIX
          have HRk := Lib.hid hRk
          clear hRk
          go_upto_region 14 with fail
          clear HIX
          have KK := Lib.hid hB.out
          replace Ba := Lib.hid (Ba.out.next hB.out)
          replace Da := Lib.hid (Da.out.below hB.out)
          replace Bb := Lib.hid (Bb.out.next hB.out)
          replace Db := Lib.hid (Db.out.below hB.out)
          replace K := Lib.hid (next_below K.out hB.out)
          have xa0 : wr.cell? ⟨ga, 0, none⟩ = some (.int .i64 (n : Int)) := Ba.out.cell 0
          have xa1 : wr.cell? ⟨ga, 1, none⟩ = some (.slice aa La.length ca) := Ba.out.cell 1
          have xb0 : wr.cell? ⟨gb, 0, none⟩ = some (.int .i64 (n : Int)) := Bb.out.cell 0
          have xb1 : wr.cell? ⟨gb, 1, none⟩ = some (.slice ab Lb.length cb) := Bb.out.cell 1
          have HC := Lib.hid (apply_dv (op := (k : Int)) Da.out Db.out (by omega) (by omega) (by omega) (HGD.out _ K.out))
          go_wp2_with fail
          refine (HC.out).mono ?_
          rintro e w21 ⟨ac, cc, Lc, rfl, dc, hb⟩
          clear xa0 xa1 xb0 xb1
          clear HC
          replace K := Lib.hid (next_below K.out hb)
          replace Ba := Lib.hid (Ba.out.next hb)
          replace Da := Lib.hid (Da.out.below hb)
          replace Bb := Lib.hid (Bb.out.next hb)
          replace Db := Lib.hid (Db.out.below hb)
          replace KK := Lib.hid (next_below KK.out hb)
          clear hb
          obtain ⟨X21, hX, hB, hs, j⟩ := entA w21 31 #[.int .i64 (n : Int), .slice ac Lc.length cc]
          replace K := Lib.hid (next_below K.out hB)
          replace Ba := Lib.hid (Ba.out.next hB)
          replace Da := Lib.hid (Da.out.below hB)
          replace Bb := Lib.hid (Bb.out.next hB)
          replace Db := Lib.hid (Db.out.below hB)
          replace KK := Lib.hid (next_below KK.out hB)
          have Dc := Lib.hid (dc.below hB)
          have Bc := Lib.hid j
          have HX := Lib.hid hX
          clear hX hB hs j dc
          go_upto_region 15 with fail
          rw [← HX.out]
          clear HX
          generalize w21.heap.size = gc at *
          have xc0 : X21.cell? ⟨gc, 0, none⟩ = some (.int .i64 (n : Int)) := Bc.out.cell 0
          have xc1 : X21.cell? ⟨gc, 1, none⟩ = some (.slice ac Lc.length cc) := Bc.out.cell 1
          have HC := Lib.hid (eval_rt Dc.out HAT.out (HGD.out _ K.out))
          rw [show rt (opF (k : Int) ha hb at0) = Rk from HRk.out] at HC
          go_wp2_with fail
          refine (HC.out).mono ?_
          rintro e v8 ⟨rfl, hb⟩
          clear HC
          clear xc0 xc1
          replace K := Lib.hid (next_below K.out hb)
          replace Ba := Lib.hid (Ba.out.next hb)
          replace Da := Lib.hid (Da.out.below hb)
          replace Bb := Lib.hid (Bb.out.next hb)
          replace Db := Lib.hid (Db.out.below hb)
          replace Bc := Lib.hid (Bc.out.next hb)
          replace Dc := Lib.hid (Dc.out.below hb)
          replace KK := Lib.hid (next_below KK.out hb)
          clear hb
          have xc0 : v8.cell? ⟨gc, 0, none⟩ = some (.int .i64 (n : Int)) := Bc.out.cell 0
          have xc1 : v8.cell? ⟨gc, 1, none⟩ = some (.slice ac Lc.length cc) := Bc.out.cell 1
          have HC := Lib.hid (check_dv Dc.out (HGD.out _ K.out))
          go_wp2_with fail
          refine (HC.out).mono ?_
          rintro e v9 ⟨rfl, hb⟩
          clear HC
          clear xc0 xc1
          replace K := Lib.hid (next_below K.out hb)
          replace Ba := Lib.hid (Ba.out.next hb)
          replace Da := Lib.hid (Da.out.below hb)
          replace Bb := Lib.hid (Bb.out.next hb)
          replace Db := Lib.hid (Db.out.below hb)
          replace Bc := Lib.hid (Bc.out.next hb)
          replace Dc := Lib.hid (Dc.out.below hb)
          replace KK := Lib.hid (next_below KK.out hb)
          clear hb
          go_wp2
          go_roundw
          case rel => exact ⟨k + 1, by omega, by go_num, KK⟩
          case measure => simp [intOf]; omega
      · obtain rfl : k = 6 := by omega
        go_wp2
        go_ret
        exact ⟨rfl, next_below K.out hB.out⟩

theorem points_at {W : World} {v : Value} (D : Draft2At W v) (m x : Nat) (hm : m < 256) (hx : x < 256) (hg : Good W) : Calls Tryz.prog 8 #[v, .int .u8 (m : Int), .int .u8 (x : Int)] W (RetV W (.bool true)) := by
  obtain ⟨s1, s2, vr1, kd1, vr2, kd2, zs1, zs2, rfl, h1, h2⟩ := D
  exact points_any h1 h2 hm hx hg
end Go.Proofs.YtpmlmibceiolpaaGreatDoor
