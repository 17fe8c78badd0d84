/- Fix. -/
import Derived.Test.YtpmlmibceiolpaaGreatDoorGOf
set_option linter.unusedSimpArgs false
set_option linter.unusedVariables false
namespace Go.Proofs.YtpmlmibceiolpaaGreatDoor
open Go.RowKit

/-- A number without a bit. -/
def clrB (y v : Nat) : Nat := y - (if y.testBit v then 2 ^ v else 0)
theorem clr_B : ((List.range 64).all fun x => (List.range 6).all fun v => bits BinOp.andNot IntKind.i64 (x : Int) ((2 ^ v : Nat) : Int) == ((clrB x v : Nat) : Int)) = true := by decide +kernel
theorem clr6 {x v : Nat} (hx : x < 64) (hv : v < 6) : bits BinOp.andNot IntKind.i64 (x : Int) ((2 ^ v : Nat) : Int) = ((clrB x v : Nat) : Int) := by
  have h := clr_B
  rw [List.all_eq_true] at h
  have h := h x (List.mem_range.2 hx)
  rw [List.all_eq_true] at h
  exact beq_iff_eq.1 (h v (List.mem_range.2 hv))
theorem set_B : ((List.range 64).all fun x => (List.range 6).all fun v => (List.range 2).all fun b => bits BinOp.or IntKind.i64 ((clrB x v : Nat) : Int) ((b * 2 ^ v : Nat) : Int) == ((setB x v b : Nat) : Int) && (wrap64 ((b : Int) * (2 : Int) ^ v) == ((b * 2 ^ v : Nat) : Int) && (bits BinOp.or IntKind.i64 (x : Int) ((2 ^ v : Nat) : Int) == ((setB x v 1 : Nat) : Int) && (clrB x v == setB x v 0 && decide (setB x v b < 64))))) = true := by decide +kernel
theorem set6 {x v b : Nat} (hx : x < 64) (hv : v < 6) (hb : b < 2) : bits BinOp.or IntKind.i64 ((clrB x v : Nat) : Int) ((b * 2 ^ v : Nat) : Int) = ((setB x v b : Nat) : Int) ∧ wrap64 ((b : Int) * (2 : Int) ^ v) = ((b * 2 ^ v : Nat) : Int) ∧ bits BinOp.or IntKind.i64 (x : Int) ((2 ^ v : Nat) : Int) = ((setB x v 1 : Nat) : Int) ∧ clrB x v = setB x v 0 ∧ setB x v b < 64 := by
  have h := set_B
  rw [List.all_eq_true] at h
  have h := h x (List.mem_range.2 hx)
  rw [List.all_eq_true] at h
  have h := h v (List.mem_range.2 hv)
  rw [List.all_eq_true] at h
  have h := h b (List.mem_range.2 hb)
  simp only [Bool.and_eq_true, beq_iff_eq, decide_eq_true_eq] at h
  exact h

set_option maxHeartbeats 2000000 in
set_option maxRecDepth 100000 in
theorem fix1_any {V : World} {gd gv gb k x v b : Nat} {s : Value} {l : List Nd} (hd : Blk V gd 31 #[.int .i64 (k : Int), s]) (hs : Nds V s l) (hv : Blk V gv 3 #[.int .i64 (v : Int)]) (hb : Blk V gb 3 #[.int .i64 (b : Int)])
    (hw : WF k l) (h0 : 0 < l.length) (hl : l.length ≤ 100000) (hk6 : k ≤ 6) (hx : x < 64) (hv6 : v < 6) (hb2 : b < 2) :
    Calls Tryz.prog 47 #[.int .i64 (x : Int), .pointer (some ⟨gd, 0, none⟩), .pointer (some ⟨gv, 0, none⟩), .pointer (some ⟨gb, 0, none⟩)] V (RetV V (.string ⟨(evD k l (setB x v b)).toArray⟩)) := by
  obtain ⟨a, c, rfl⟩ := hs.len
  obtain ⟨q1, q2, -, -, q5⟩ := set6 hx hv6 hb2
  have q0 := clr6 hx hv6
  have q3 := shl1 v (by omega)
  have HA := Lib.hid (fun (U : World) (hU : Below V.heap.size V U) => at_any (W := U) (v := .agg #[.int .i64 (k : Int), .slice a l.length c]) (x := setB x v b) ⟨_, rfl, hs.below hU⟩ hw h0 hl hk6 q5)
  have c0 : V.cell? ⟨gd, 0, none⟩ = some (.int .i64 (k : Int)) := hd.cell 0
  have c1 : V.cell? ⟨gd, 1, none⟩ = some (.slice a l.length c) := hd.cell 1
  have c2 : V.cell? ⟨gv, 0, none⟩ = some (.int .i64 (v : Int)) := hv.cell 0
  have c3 : V.cell? ⟨gb, 0, none⟩ = some (.int .i64 (b : Int)) := hb.cell 0
  have l0 := hd.lt
  have l1 := hv.lt
  have l2 := hb.lt
  generalize evD k l (setB x v b) = RES at *
  obtain ⟨S, hS⟩ : ∃ S, S = setB x v b := ⟨_, rfl⟩
  rw [← hS] at q1 HA
  obtain ⟨C, hC⟩ : ∃ C, C = clrB x v := ⟨_, rfl⟩
  rw [← hC] at q0 q1
  obtain ⟨P, hP⟩ : ∃ P, P = 2 ^ v := ⟨_, rfl⟩
  rw [← hP] at q0 q1 q2 q3
  obtain ⟨T, hT⟩ : ∃ T, T = b * P := ⟨_, rfl⟩
  rw [← hT] at q1 q2
  generalize l.length = n at *
  clear hd hs hv hb hw h0 hl q5 hS hC hP hT
  go_enter Tryz.func47, Tryz.ntmps47
  go_upto_region 1 with fail
  have hBd : Below V.heap.size V V.drew := (Below.refl _ _).drew
  refine wp_region_list 9 (by kernel_rfl) (by kernel_rfl) [] [fun xv _ => xv = .agg #[.int .i64 (k : Int), .slice a n c], fun xv _ => xv = .int .i64 (x : Int), fun xv _ => xv = .int .i64 (v : Int), fun xv _ => xv = .int .i64 (P : Int), fun xv _ => xv = .int .i64 (C : Int), fun xv _ => xv = .int .i64 (b : Int), fun xv _ => xv = .int .i64 (v : Int), fun xv _ => xv = .int .i64 (T : Int), fun xv _ => xv = .int .i64 (S : Int)] (by simp only [List.take_succ_cons, List.take_zero]; rfl) (by simp only [List.drop_succ_cons, List.drop_zero]; rfl) (fun vals => by simp only [fam, Act.put, List.setIfInBounds_toArray, List.set_cons_zero, List.set_cons_succ, if_true]; rfl) (by repeat' (first | exact Stab.eq _ _ | exact Stab.wh _ _ | exact Stab.nm _ _ | exact Stab.new _ _ | exact Stab.newn _ _ | exact Stab.tw _ _ _ | exact Stab.lm _ _ _ | exact Stab.onet _ _ _ | exact Stab.pl _ _ _ | exact Stab.dg _ _ _ | exact Stab.nds _ _ | exact Stab.qs _ _ | exact trivial | apply And.intro)) trivial ?_ ?_
  · refine ⟨?_, ?_, ?_, ?_, ?_, ?_, ?_, ?_, ?_, trivial⟩
    all_goals
      intro vals wy hB1 hp
      dsimp only
      (try simp [preOk, Region.binds, r_anygc, r_anytext] at hp)
      have hb := next_below hBd hB1
      have y0 := keepc hb c0 l0
      have y1 := keepc hb c1 l0
      have y2 := keepc hb c2 l1
      have y3 := keepc hb c3 l2
      clear hB1 c0 c1 c2 c3
    case refine_5 =>
      obtain ⟨p1, p2⟩ := hp
      go_wp2
      (first | exact ⟨rfl, _, rfl, rfl, Below.refl _ _, trivial⟩ | (refine ⟨rfl, _, ?_, rfl, Below.refl _ _, trivial⟩; simp only [Act.put, List.setIfInBounds_toArray, List.set_cons_zero, List.set_cons_succ, Nat.zero_add, Nat.reduceAdd, p1, p2, q0]))
    case refine_8 =>
      obtain ⟨p1, p2⟩ := hp
      go_wp2
      (first | exact ⟨rfl, _, rfl, rfl, Below.refl _ _, trivial⟩ | (refine ⟨rfl, _, ?_, rfl, Below.refl _ _, trivial⟩; simp only [Act.put, List.setIfInBounds_toArray, List.set_cons_zero, List.set_cons_succ, Nat.zero_add, Nat.reduceAdd, p1, p2, q2]))
    case refine_9 =>
      obtain ⟨p1, p2⟩ := hp
      go_wp2
      (first | exact ⟨rfl, _, rfl, rfl, Below.refl _ _, trivial⟩ | (refine ⟨rfl, _, ?_, rfl, Below.refl _ _, trivial⟩; simp only [Act.put, List.setIfInBounds_toArray, List.set_cons_zero, List.set_cons_succ, Nat.zero_add, Nat.reduceAdd, p1, p2, q1]))
    case refine_4 =>
      go_wp2
      (first | exact ⟨rfl, _, rfl, rfl, Below.refl _ _, trivial⟩ | (refine ⟨rfl, _, ?_, rfl, Below.refl _ _, trivial⟩; simp only [Act.put, List.setIfInBounds_toArray, List.set_cons_zero, List.set_cons_succ, Nat.zero_add, Nat.reduceAdd, hp, q3]))
    all_goals
      go_wp2
      (first | exact ⟨rfl, _, rfl, rfl, Below.refl _ _, trivial⟩ | (refine ⟨rfl, _, ?_, rfl, Below.refl _ _, trivial⟩; simp only [Act.put, List.setIfInBounds_toArray, List.set_cons_zero, List.set_cons_succ, hp]))
  · rintro vals w1 hB1 ⟨p0, p1, p2, p3, p4, p5, p6, p7, p8, _⟩ hne
    have hb := next_below hBd hB1
    simp only [List.getD_cons_zero, List.getD_cons_succ, Nat.zero_add, Nat.reduceAdd] at p0 p8
    have K := Lib.hid hb
    have HA2 := Lib.hid (HA.out w1 hb)
    clear hb hB1 hBd hne p1 p2 p3 p4 p5 p6 p7 c0 c1 c2 c3 q0 q1 q2 q3
    go_wp2_with fail
    refine (HA2.out).mono ?_
    rintro e w2 ⟨rfl, hb⟩
    have K2 := Lib.hid (next_below K.out hb)
    clear hb p0 p8
    go_wp2
    go_ret
    exact ⟨rfl, K2.out⟩

/-- Are the arguments of Fix right? -/
def fxB (v b m : Int) : Bool := decide (0 ≤ v ∧ v < m ∧ 0 ≤ b ∧ b ≤ 1)

set_option maxHeartbeats 4000000 in
set_option maxRecDepth 100000 in
theorem fix_any {W : World} {d : Value} {m v b : Int} {l : List Nd} (h : DgIn W d m l) (hg : Good W) :
    Calls Tryz.prog 20 #[d, .int .i64 v, .int .i64 b] W (RetDg W (fixR v b m l)) := by
  obtain ⟨a, c, rfl, hs⟩ := h.dg.parts
  obtain ⟨W3, hW3, hB3, hs3, i1, i2, i3⟩ := entC W 31 3 3 #[.int .i64 m, .slice a l.length c] #[.int .i64 v] #[.int .i64 b]
  obtain ⟨W4, hW4, hB4, hs4, i4⟩ := entA W3 31 #[.int .i64 0, .slice none 0 0]
  have hsz : W3.heap.size = W.heap.size + 1 + 1 + 1 := by omega
  rw [hsz] at i4 hs4
  have j1 := i1.next hB4
  have j2 := i2.next hB4
  have j3 : Blk W4 (W.heap.size + 1 + 1) 3 #[.int .i64 b] := i3.next hB4
  have kk0 := hB3.trans (hB4.mono hB3.size)
  have HV := Lib.hid (valid_any (h.dg.below kk0) h.few h.short (hg.below kk0))
  have HD := Lib.hid (fun (V : World) (hV : Below W.heap.size W V) => hs.below hV)
  obtain ⟨RES, hRES⟩ : ∃ R, R = fixR v b m l := ⟨_, rfl⟩
  rw [← hRES]
  have HR := Lib.hid (show RES = if vldN m l then (if 0 ≤ v ∧ v < m ∧ 0 ≤ b ∧ b ≤ 1 then (m, madeN (fun y => evD m.toNat l (setB y v.toNat b.toNat)) m.toNat, 0) else (0, [], 2)) else (0, [], 260) from hRES)
  have HVP := Lib.hid (fun (h : vldN m l = true) => vldN_parts h)
  have HVA := Lib.hid (fun (k : Nat) (h : vldN (k : Int) l = true) (y : Nat) => evN_leafs (m := k) (l := l))
  have HSH := Lib.hid h.short
  have HW4 := Lib.hid (show W4 = (((W.alloc (.cells #[.int .i64 m, .slice a l.length c] 31)).alloc (.cells #[.int .i64 v] 3)).alloc (.cells #[.int .i64 b] 3)).alloc (.cells #[.int .i64 0, .slice none 0 0] 31) from by rw [hW4, hW3])
  have J1 := Lib.hid j1
  have J2 := Lib.hid j2
  have J3 := Lib.hid j3
  have J4 := Lib.hid i4
  have K0 := Lib.hid kk0
  have d0 : W4.cell? ⟨W.heap.size, 0, none⟩ = some (.int .i64 m) := j1.cell 0
  have d1 : W4.cell? ⟨W.heap.size, 1, none⟩ = some (.slice a l.length c) := j1.cell 1
  obtain ⟨n, hn⟩ : ∃ n, n = l.length := ⟨_, rfl⟩
  rw [← hn] at HV HW4 d1 J1 HD
  rw [← hn]
  have HN := Lib.hid hn
  clear hW3 hB3 hs3 i1 i2 i3 hW4 hB4 hs4 i4 hsz j1 j2 j3 kk0 hs h hg hRES hn
  generalize hVB : vldN m l = VB at HV
  have HVB := Lib.hid hVB
  clear hVB
  go_enter Tryz.func20, Tryz.ntmps20
  go_upto_region 1 with fail
  rw [← HW4.out]
  clear HW4
  go_wp2_with fail
  refine (HV.out).mono ?_
  rintro e w2 ⟨rfl, hb⟩
  have j1 := J1.out.next hb
  have j2 := J2.out.next hb
  have j3 := J3.out.next hb
  have j4 := J4.out.next hb
  have kk := K0.out.trans (hb.mono K0.out.size)
  clear hb HV d0 d1 J1 J2 J3 J4 K0
  have hgd : W.heap.size ≤ W.heap.size := Nat.le_refl _
  obtain ⟨gr, hgrE⟩ : ∃ g, g = W.heap.size + 1 + 1 + 1 := ⟨_, rfl⟩
  have hgr : W.heap.size ≤ gr := by omega
  rw [← hgrE] at j4
  rw [← hgrE]
  have HGR := Lib.hid hgr
  clear hgd hgrE
  cases VB with
  | false =>
    have hr := Lib.hid (show RES = (0, [], 260) from by rw [HR.out, HVB.out]; rfl)
    clear j1 j2 j3
    have hj5 := j4.two (.int .i64 0) (.slice none 0 0)
    have D0 := Lib.hid (hj5.cell 0)
    have D1 := Lib.hid (hj5.cell 1)
    have KK := Lib.hid ((kk.setCell (p := ⟨gr, 0, none⟩) hgr (.int .i64 0)).setCell (p := ⟨gr, 1, none⟩) hgr (.slice none 0 0))
    obtain ⟨x0, x1⟩ : _ ∧ _ := ⟨j4.cell0, j4.cell1⟩
    have f0 := j4.frozen 0
    have f1 := j4.frozen 1
    clear hj5 kk j4
    go_wp2
    have d0 := D0.out
    have d1 := D1.out
    rw [hr.out]
    exact bodyPost_ret (v := .tuple #[.agg #[.int .i64 0, .slice none 0 0], .int .i64 260]) (by simp [results, Tryz.results20, go_sem, d0, d1]) rfl ⟨none, 0, rfl, Nds.nil _, KK.out⟩
  | true =>
    obtain ⟨k, rfl, hk6, hl0, hl1, hwf, -, hlf⟩ := HVP.out HVB.out
    have hr1 := Lib.hid (show RES = if 0 ≤ v ∧ v < (k : Int) ∧ 0 ≤ b ∧ b ≤ 1 then ((k : Int), madeN (fun y => evD k l (setB y v.toNat b.toNat)) k, 0) else (0, [], 2) from by rw [HR.out, HVB.out, if_pos rfl]; rfl)
    have HWF := Lib.hid hwf
    have HL0 := Lib.hid hl0
    have HL1 := Lib.hid (show l.length ≤ 100000 from by
      have := Nat.pow_le_pow_right (show 2 > 0 by omega) (show k + 1 ≤ 7 by omega); omega)
    have e0 : w2.cell? ⟨W.heap.size, 0, none⟩ = some (.int .i64 (k : Int)) := j1.cell 0
    have e1 : w2.cell? ⟨W.heap.size + 1, 0, none⟩ = some (.int .i64 v) := j2.cell 0
    have e2 : w2.cell? ⟨W.heap.size + 1 + 1, 0, none⟩ = some (.int .i64 b) := j3.cell 0
    have J1 := Lib.hid j1
    have J2 := Lib.hid j2
    have J3 := Lib.hid j3
    have J4 := Lib.hid j4
    have KX := Lib.hid kk
    clear hl0 hl1 hwf hlf HR HVP j1 j2 j3 j4 kk
    go_upto_region 3 with fail
    go_cut [27] from 999 to 999 (fun c wx => c = .bool (!fxB v b (k : Int)) ∧ w2 = wx)
    case first =>
      by_cases h1 : v < 0
      · have HB := Lib.hid (show fxB v b (k : Int) = false from by unfold fxB; exact decide_eq_false (by omega))
        go_wp2
        go_meet
        case rel => exact ⟨by rw [HB.out]; rfl, rfl⟩
      · by_cases h2 : (k : Int) ≤ v
        · have HB := Lib.hid (show fxB v b (k : Int) = false from by unfold fxB; exact decide_eq_false (by omega))
          go_wp2
          go_meet
          case rel => exact ⟨by rw [HB.out]; rfl, rfl⟩
        · by_cases h3 : b < 0
          · have HB := Lib.hid (show fxB v b (k : Int) = false from by unfold fxB; exact decide_eq_false (by omega))
            go_wp2
            go_meet
            case rel => exact ⟨by rw [HB.out]; rfl, rfl⟩
          · by_cases h4 : 1 < b
            · have HB := Lib.hid (show fxB v b (k : Int) = false from by unfold fxB; exact decide_eq_false (by omega))
              go_wp2
              go_meet
              case rel => exact ⟨by rw [HB.out]; rfl, rfl⟩
            · have HB := Lib.hid (show fxB v b (k : Int) = true from by unfold fxB; exact decide_eq_true ⟨by omega, by omega, by omega, by omega⟩)
              go_wp2
              go_meet
              case rel => exact ⟨by rw [HB.out]; rfl, rfl⟩
    case rest =>
      obtain ⟨rfl, rfl⟩ := hcut
      have HFX := Lib.hid (show fxB v b (k : Int) = decide (0 ≤ v ∧ v < (k : Int) ∧ 0 ≤ b ∧ b ≤ 1) from rfl)
      generalize fxB v b (k : Int) = FB at *
      cases FB with
      | false =>
        have hr := Lib.hid (show RES = (0, [], 2) from by rw [hr1.out, if_neg (of_decide_eq_false HFX.out.symm)])
        have j4 := J4.out
        have kk := KX.out
        clear e0 e1 e2
        have hj5 := j4.two (.int .i64 0) (.slice none 0 0)
        have D0 := Lib.hid (hj5.cell 0)
        have D1 := Lib.hid (hj5.cell 1)
        have KK := Lib.hid ((kk.setCell (p := ⟨gr, 0, none⟩) hgr (.int .i64 0)).setCell (p := ⟨gr, 1, none⟩) hgr (.slice none 0 0))
        obtain ⟨x0, x1⟩ : _ ∧ _ := ⟨j4.cell0, j4.cell1⟩
        have f0 := j4.frozen 0
        have f1 := j4.frozen 1
        clear hj5 kk j4
        go_wp2
        have d0 := D0.out
        have d1 := D1.out
        rw [hr.out]
        exact bodyPost_ret (v := .tuple #[.agg #[.int .i64 0, .slice none 0 0], .int .i64 2]) (by simp [results, Tryz.results20, go_sem, d0, d1]) rfl ⟨none, 0, rfl, Nds.nil _, KK.out⟩
      | true =>
        obtain ⟨s1, s2, s3, s4⟩ := of_decide_eq_true HFX.out.symm
        obtain ⟨v', rfl⟩ := Int.eq_ofNat_of_zero_le s1
        obtain ⟨b', rfl⟩ := Int.eq_ofNat_of_zero_le s3
        have hr := Lib.hid (show RES = ((k : Int), madeN (fun y => evD k l (setB y v' b')) k, 0) from by rw [hr1.out, if_pos ⟨s1, s2, s3, s4⟩]; rfl)
        have HNC := Lib.hid (show NumC (fun y => evD k l (setB y v' b')) k w2.heap.size none 47 #[.pointer (some ⟨W.heap.size, 0, none⟩), .pointer (some ⟨W.heap.size + 1, 0, none⟩), .pointer (some ⟨W.heap.size + 1 + 1, 0, none⟩)] (Like w2.heap.size w2) (fun _ _ => True) from
          NumC.quiet (fun V' x hx hs hl => fix1_any (V := V') ((hl W.heap.size J1.out.lt).trans J1.out) ((HD.out w2 KX.out).keep hl) ((hl (W.heap.size + 1) J2.out.lt).trans J2.out) ((hl (W.heap.size + 1 + 1) J3.out.lt).trans J3.out) HWF.out HL0.out HL1.out hk6 (Nat.lt_of_lt_of_le hx (Nat.le_trans (Nat.pow_le_pow_right (by omega) hk6) (by decide))) (by omega) (by omega)) (enters_of Tryz.func47 (by kernel_rfl) rfl) (fun x hx => by
            have h7 := wf_hi HWF.out (i := l.length - 1) (by have := HL0.out; omega)
            obtain ⟨j, j1, j2, j3⟩ := evN_leafs HWF.out k (l.length - 1) (setB x v' b') (by have := HL0.out; omega) (by omega)
            show (evN k l k (l.length - 1) (setB x v' b')).length ≤ _
            rw [j3]
            exact Nat.le_trans (HSH.out _ (mem_getD j1)) (by unfold maxLen; omega)))
        have HMD := Lib.hid (made_any HNC.out hk6 (fun _ _ => rfl))
        clear s1 s2 s3 s4 HFX hr1 e1 e2
        generalize (fun y => evD k l (setB y v' b')) = F at *
        go_wp2_with fail
        refine (HMD.out).mono ?_
        rintro e w4 ⟨a5, c5, rfl, m1, -, -, m4⟩
        have j2 := J4.out.next m4.below
        have hj5 := j2.two (.int .i64 (k : Int)) (.slice a5 (madeN F k).length c5)
        have D0 := Lib.hid (hj5.cell 0)
        have D1 := Lib.hid (hj5.cell 1)
        have hn5 := m1.away (w' := (w4.setCell ⟨gr, 0, none⟩ (.int .i64 (k : Int))).setCell ⟨gr, 1, none⟩ (.slice a5 (madeN F k).length c5)) (fun j hj => by
          rw [Below.heap_setCell _ ⟨gr, 1, none⟩ _ j hj, Below.heap_setCell _ ⟨gr, 0, none⟩ _ j hj]) j2.cell1
        have N5 := Lib.hid hn5
        have KK := Lib.hid (((KX.out.trans (m4.below.mono KX.out.size)).setCell (p := ⟨gr, 0, none⟩) HGR.out (.int .i64 (k : Int))).setCell (p := ⟨gr, 1, none⟩) HGR.out (.slice a5 (madeN F k).length c5))
        obtain ⟨x0, x1⟩ : _ ∧ _ := ⟨j2.cell0, j2.cell1⟩
        have f0 := j2.frozen 0
        have f1 := j2.frozen 1
        clear hj5 j2 m1 m4 hn5 HMD e0
        go_wp2
        have d0 := D0.out
        have d1 := D1.out
        rw [hr.out]
        exact bodyPost_ret (v := .tuple #[.agg #[.int .i64 (k : Int), .slice a5 (madeN F k).length c5], .int .i64 0]) (by simp [results, Tryz.results20, go_sem, d0, d1]) rfl ⟨a5, c5, rfl, N5.out, KK.out⟩
end Go.Proofs.YtpmlmibceiolpaaGreatDoor

/- The diagram of computed numbers. -/
set_option linter.unusedSimpArgs false
set_option linter.unusedVariables false
namespace Go.Proofs.YtpmlmibceiolpaaGreatDoor
open Go.RowKit

theorem fits_nm {V : World} {v : Value} {x : Rat} (h : Nm V v x) (hs : Sz 1073741000 x) (hg : Good V) : Calls Tryz.prog 72 #[v, .int .i64 2000] V (RetV V (.bool (decide (fitsD 2000 x)))) := by
  have h3 := fits_any (w := V) 2000 h.pr (Nat.le_trans hs.1 (by omega)) (Nat.le_trans (by have := hs.2; simpa using this) (by omega)) hg
  have e : ∀ b : Bool, b = decide (fitsD 2000 x) → Calls Tryz.prog 72 #[v, .int .i64 2000] V (RetV V (.bool b)) → Calls Tryz.prog 72 #[v, .int .i64 2000] V (RetV V (.bool (decide (fitsD 2000 x)))) := fun b hb hc => by rw [← hb]; exact hc
  refine e _ ?_ h3
  rw [Bool.eq_iff_iff, Bool.and_eq_true, decide_eq_true_eq, decide_eq_true_eq, decide_eq_true_eq, Int.natAbs_natCast]
  unfold fitsD
  omega

set_option maxHeartbeats 4000000 in
set_option maxRecDepth 100000 in
/-- The closure of combined: the number's text; whether one was too great is kept in a variable. -/
theorem comb1_any {V : World} {gn gq cid x : Nat} {clb : Array Value} {y : Rat} {bl : Bool} (hn : Blk V gn 91 #[.func (.func cid) #[] clb]) (hq : Blk V gq 4 #[.bool bl])
    (he : ∀ args w, (callFunc cid args).run Tryz.prog w = .ok (.enter cid args) w) (hc : Calls Tryz.prog cid (#[.int .i64 (x : Int)] ++ clb) V (RetN V y)) (hs : Sz 268435456 y) (hg : ∀ U, V.heap.size ≤ U.heap.size → (∀ j, j < V.heap.size → j ≠ gq → U.heap[j]? = V.heap[j]?) → Good U) :
    Calls Tryz.prog 71 #[.int .i64 (x : Int), .pointer (some ⟨gn, 0, none⟩), .pointer (some ⟨gq, 0, none⟩)] V (fun e V' => e = .returned (.string ⟨(ratText y).toArray⟩) ∧ Chg (some gq) V V' ∧ Blk V' gq 4 #[.bool (bl || !decide (fitsD 2000 y))]) := by
  have c0 : V.cell? ⟨gn, 0, none⟩ = some (.func (.func cid) #[] clb) := hn.cell 0
  have HC := Lib.hid hc
  have HQ := Lib.hid hq
  have HFT := Lib.hid (fun (U : World) v (h : Nm U v y) (hU : Good U) => fits_nm (V := U) h (hs.mono (by omega)) hU)
  have HTX := Lib.hid (fun (U : World) v (h : Nm U v y) (hU : Good U) => num_text (w := U) h hs hU)
  have HG := Lib.hid hg
  obtain ⟨FB, hFB⟩ : ∃ b, b = decide (fitsD 2000 y) := ⟨_, rfl⟩
  rw [← hFB] at HFT
  rw [← hFB]
  generalize (⟨(ratText y).toArray⟩ : ByteArray) = T at *
  clear hn hc hq hs hg hFB
  go_enter Tryz.func71, Tryz.ntmps71
  go_wp2_with fail
  refine (HC.out).mono ?_
  rintro e w1 ⟨r, rfl, hr, hb⟩
  obtain ⟨p1, p2, k2, q2, p3, p4, k4, q4, rfl, -, -⟩ := id hr.parts
  obtain ⟨W2, hW2, hB2, hs2, j2⟩ := entA w1 88 #[.bool p1, .slice p2 k2 q2, .bool p3, .slice p4 k4 q4]
  have hb2 : Below V.heap.size V W2 := hb.trans (hB2.mono hb.size)
  have J2 := Lib.hid j2
  have Q2 := Lib.hid (HQ.out.next hb2)
  have NM2 := Lib.hid (hr.below hB2)
  have KB2 := Lib.hid hb2
  have G2 := Lib.hid (HG.out W2 hb2.size (fun j hj _ => hb2.block j hj))
  have HW2 := Lib.hid hW2
  have HLT := Lib.hid (show gq < w1.heap.size from Nat.lt_of_lt_of_le HQ.out.lt hb.size)
  clear hW2 hB2 hs2 j2 hb2 hr hb c0 HC he
  go_upto_region 2 with fail
  rw [← HW2.out]
  clear HW2
  generalize w1.heap.size = gm at *
  have x0 : W2.cell? ⟨gq, 0, none⟩ = some (.bool bl) := Q2.out.cell 0
  have f0 : W2.frozen? ⟨gq, 0, none⟩ = false := Q2.out.frozen 0
  obtain ⟨y0, y1, y2, y3⟩ := J2.out.at4
  have hne : gm ≠ gq := by have := HLT.out; omega
  have HNE := Lib.hid hne
  clear hne
  cases bl with
  | true =>
    obtain ⟨W5, hW5⟩ : ∃ W5, W5 = W2.setCell ⟨gq, 0, none⟩ (.bool (true)) := ⟨_, rfl⟩
    have hgr : W2.grownBy W5 (some gq) := by
      rw [hW5]
      exact ⟨rfl, rfl, rfl, by simp [World.setCell], fun k hk hq => Below.heap_setCell _ _ _ _ (by simpa using hq)⟩
    have Q5 := Lib.hid (show Blk W5 gq 4 #[.bool (true || !FB)] from by rw [hW5]; exact Q2.out.set_ 0 _)
    have K5 := Lib.hid (show Chg (some gq) V W5 from (Chg.of KB2.out).trans hgr)
    have J5 := Lib.hid (show Blk W5 gm 88 #[.bool p1, .slice p2 k2 q2, .bool p3, .slice p4 k4 q4] from by rw [hW5]; exact J2.out.away HNE.out _)
    have N5 := Lib.hid (show Nm W5 (.agg #[.bool p1, .slice p2 k2 q2, .bool p3, .slice p4 k4 q4]) y from Nm.of_grown hgr (fun g hg => by cases hg; exact ⟨_, Q2.out⟩) (by decide) NM2.out)
    have G5 := Lib.hid (HG.out W5 K5.out.size (fun j hj hne => K5.out.block j hj (by simpa using hne)))
    have HW5 := Lib.hid hW5
    clear hgr hW5
    go_upto_region 3 with fail
    rw [← HW5.out]
    clear x0 f0 HW5
    clear y0 y1 y2 y3
    obtain ⟨z0, z1, z2, z3⟩ := J5.out.at4
    go_wp2_with fail
    refine (HTX.out W5 _ N5.out G5.out).mono ?_
    rintro e w6 ⟨rfl, hb⟩
    have K6 := Lib.hid (K5.out.trans (Chg.of hb))
    have Q6 := Lib.hid (Q5.out.next hb)
    clear hb z0 z1 z2 z3
    go_wp2
    go_ret
    exact ⟨rfl, K6.out, Q6.out⟩
  | false =>
    go_wp2_with fail
    refine (HFT.out W2 _ NM2.out G2.out).mono ?_
    rintro e w3 ⟨rfl, hb⟩
    have KB3 := Lib.hid (KB2.out.trans (hb.mono KB2.out.size))
    have NM3 := Lib.hid (NM2.out.below hb)
    have J3 := Lib.hid (J2.out.next hb)
    have Q3 := Lib.hid (Q2.out.next hb)
    clear hb y0 y1 y2 y3 x0 f0
    have x0 : w3.cell? ⟨gq, 0, none⟩ = some (.bool false) := Q3.out.cell 0
    have f0 : w3.frozen? ⟨gq, 0, none⟩ = false := Q3.out.frozen 0
    obtain ⟨W5, hW5⟩ : ∃ W5, W5 = w3.setCell ⟨gq, 0, none⟩ (.bool (!FB)) := ⟨_, rfl⟩
    have hgr : w3.grownBy W5 (some gq) := by
      rw [hW5]
      exact ⟨rfl, rfl, rfl, by simp [World.setCell], fun k hk hq => Below.heap_setCell _ _ _ _ (by simpa using hq)⟩
    have Q5 := Lib.hid (show Blk W5 gq 4 #[.bool (false || !FB)] from by rw [hW5]; exact Q3.out.set_ 0 _)
    have K5 := Lib.hid (show Chg (some gq) V W5 from (Chg.of KB3.out).trans hgr)
    have J5 := Lib.hid (show Blk W5 gm 88 #[.bool p1, .slice p2 k2 q2, .bool p3, .slice p4 k4 q4] from by rw [hW5]; exact J3.out.away HNE.out _)
    have N5 := Lib.hid (show Nm W5 (.agg #[.bool p1, .slice p2 k2 q2, .bool p3, .slice p4 k4 q4]) y from Nm.of_grown hgr (fun g hg => by cases hg; exact ⟨_, Q3.out⟩) (by decide) NM3.out)
    have G5 := Lib.hid (HG.out W5 K5.out.size (fun j hj hne => K5.out.block j hj (by simpa using hne)))
    have HW5 := Lib.hid hW5
    clear hgr hW5
    go_upto_region 3 with fail
    rw [← HW5.out]
    clear x0 f0 HW5
    skip
    obtain ⟨z0, z1, z2, z3⟩ := J5.out.at4
    go_wp2_with fail
    refine (HTX.out W5 _ N5.out G5.out).mono ?_
    rintro e w6 ⟨rfl, hb⟩
    have K6 := Lib.hid (K5.out.trans (Chg.of hb))
    have Q6 := Lib.hid (Q5.out.next hb)
    clear hb z0 z1 z2 z3
    go_wp2
    go_ret
    exact ⟨rfl, K6.out, Q6.out⟩

theorem bigB_true {h : Nat → Rat} {m y : Nat} (hy : y < 2 ^ m) (hb : ¬ fitsD 2000 (h y)) : bigB h m = true := by
  unfold bigB
  rw [List.any_eq_true]
  exact ⟨y, List.mem_range.2 hy, by rw [decide_eq_false hb]; rfl⟩
theorem bigB_false {h : Nat → Rat} {m : Nat} (hf : ∀ y, y < 2 ^ m → fitsD 2000 (h y)) : bigB h m = false := by
  unfold bigB
  rw [List.any_eq_false]
  intro y hy
  rw [decide_eq_true (hf y (List.mem_range.1 hy))]; decide

/-- What of the closure of combined is kept: the old world, the variable. -/
def CInv (B : Nat) (W0 : World) (gq : Nat) (h : Nat → Rat) (m : Nat) (V : World) : Prop :=
  (∀ j, j < B → j ≠ gq → V.heap[j]? = W0.heap[j]?) ∧ ∃ bl : Bool, Blk V gq 4 #[.bool bl] ∧ (bl = true → bigB h m = true)
def CSeen (gq : Nat) (h : Nat → Rat) (y : Nat) (V : World) : Prop := ∀ bl : Bool, Blk V gq 4 #[.bool bl] → ¬ fitsD 2000 (h y) → bl = true
theorem blk_bool {V : World} {g : Nat} {t : TypeId} {a b : Bool} (h1 : Blk V g t #[.bool a]) (h2 : Blk V g t #[.bool b]) : a = b := by
  unfold Blk at h1 h2
  rw [h1] at h2
  have h3 := Option.some.inj h2
  injection h3 with h4
  have h5 := congrArg (fun x : Array Value => x[0]?) h4
  exact Value.bool.inj (Option.some.inj h5)

/-- The closure of combined says the texts. -/
theorem comb_numC {h : Nat → Rat} {m : Nat} {W0 : World} {gn gq cid : Nat} {clb : Array Value} {B1 : Nat} (hB1 : B1 ≤ gq) (hq : gq < W0.heap.size) (hn0 : B1 ≤ gn) (hgn : Blk W0 gn 91 #[.func (.func cid) #[] clb]) (hnq : gn ≠ gq)
    (he : ∀ args w, (callFunc cid args).run Tryz.prog w = .ok (.enter cid args) w)
    (hc : ∀ V x, x < 2 ^ m → W0.heap.size ≤ V.heap.size → (∀ j, j < B1 → V.heap[j]? = W0.heap[j]?) → Calls Tryz.prog cid (#[.int .i64 (x : Int)] ++ clb) V (RetN V (h x)))
    (hs : ∀ x, x < 2 ^ m → Sz 268435456 (h x) ∧ (ratText (h x)).length ≤ maxLen) (hg : ∀ V, W0.heap.size ≤ V.heap.size → (∀ j, j < B1 → V.heap[j]? = W0.heap[j]?) → Good V) :
    NumC (fun x => ratText (h x)) m W0.heap.size (some gq) 71 #[.pointer (some ⟨gn, 0, none⟩), .pointer (some ⟨gq, 0, none⟩)] (CInv W0.heap.size W0 gq h m) (CSeen gq h) where
  run W x hx hB hI := by
    obtain ⟨i1, bl, i2, i3⟩ := hI
    have hlow : ∀ j, j < B1 → W.heap[j]? = W0.heap[j]? := fun j hj => i1 j (by omega) (by omega)
    refine (comb1_any (y := h x) ((i1 gn hgn.lt hnq).trans hgn) i2 he (hc W x hx hB hlow) (hs x hx).1 (fun U hU hj => hg U (Nat.le_trans hB hU) (fun j hj1 => (hj j (by omega) (by omega)).trans (hlow j hj1)))).mono ?_
    rintro e W' ⟨rfl, h2, h3⟩
    refine ⟨rfl, h2, ⟨fun j hj hne => (h2.block j (by omega) (by simpa using hne)).trans (i1 j hj hne), _, h3, fun hb => ?_⟩, fun b2 hb2 hnf => ?_, fun y hy b2 hb2 hnf => ?_⟩
    · cases bl with
      | true => exact i3 rfl
      | false =>
        rw [Bool.false_or] at hb
        refine bigB_true hx (fun hf => ?_)
        rw [decide_eq_true hf] at hb; cases hb
    · have := blk_bool hb2 h3
      rw [this, decide_eq_false hnf]; simp
    · have h4 := blk_bool hb2 h3
      have h5 := hy bl i2 hnf
      rw [h4, h5]; rfl
  keepI W W' hB hk hI := by
    obtain ⟨i1, bl, i2, i3⟩ := hI
    exact ⟨fun j hj hne => (hk j hj).trans (i1 j hj hne), bl, (hk gq hq).trans i2, i3⟩
  keepS y W W' hB hk hI := fun bl hb hnf => hI bl (by unfold Blk at hb ⊢; rw [← hk gq hq]; exact hb) hnf
  enter := enters_of Tryz.func71 (by kernel_rfl) rfl
  short x hx := (hs x hx).2
  old g hg := by cases hg; exact hq

set_option maxHeartbeats 4000000 in
set_option maxRecDepth 100000 in
theorem combined_any {W : World} {m cid : Nat} {clb : Array Value} {h : Nat → Rat} (he : ∀ args w, (callFunc cid args).run Tryz.prog w = .ok (.enter cid args) w) (hm6 : m ≤ 6)
    (hc : ∀ V x, x < 2 ^ m → W.heap.size ≤ V.heap.size → Like W.heap.size W V → Calls Tryz.prog cid (#[.int .i64 (x : Int)] ++ clb) V (RetN V (h x)))
    (hs : ∀ x, x < 2 ^ m → Sz 268435456 (h x) ∧ (ratText (h x)).length ≤ maxLen) (hg : Good W) :
    Calls Tryz.prog 41 #[.int .i64 (m : Int), .func (.func cid) #[] clb] W (RetDg W (cmbR h m)) := by
  obtain ⟨W3, hW3, hB3, hs3, i1, i2, i3⟩ := entC W 91 31 4 #[.func (.func cid) #[] clb] #[.int .i64 0, .slice none 0 0] #[.bool false]
  have i3' : Blk W3 (W.heap.size + 1 + 1) 4 #[.bool false] := i3
  obtain ⟨RES, hRES⟩ : ∃ R, R = cmbR h m := ⟨_, rfl⟩
  rw [← hRES]
  have HR := Lib.hid (show RES = if bigB h m then (0, [], 6) else ((m : Int), madeN (fun y => ratText (h y)) m, 0) from hRES)
  have HNC := Lib.hid (comb_numC (h := h) (m := m) (W0 := W3) (gn := W.heap.size) (gq := W.heap.size + 1 + 1) (B1 := W.heap.size) (by omega) i3'.lt (Nat.le_refl _) i1 (by omega) he
    (fun V x hx hV hj => hc V x hx (Nat.le_trans hB3.size hV) (fun j hj2 => (hj j hj2).trans (hB3.block j hj2))) hs (fun V hV hj => hg.like (Nat.le_trans hB3.size hV) (fun j hj2 => (hj j hj2).trans (hB3.block j hj2))))
  have HMD := Lib.hid (made_any HNC.out hm6 ⟨fun _ _ _ => rfl, false, i3', fun h => by cases h⟩)
  have HW3 := Lib.hid hW3
  have HB3 := Lib.hid hB3
  have I2 := Lib.hid i2
  clear hW3 hB3 hs3 i1 i2 i3 i3' hc hs hg he hRES HNC
  go_enter Tryz.func41, Tryz.ntmps41
  go_upto_region 2 with fail
  rw [← HW3.out]
  clear HW3
  generalize hF : (fun y => ratText (h y)) = F at *
  have HFE := Lib.hid hF
  clear hF
  go_wp2_with fail
  refine (HMD.out).mono ?_
  rintro e w4 ⟨a5, c5, rfl, m1, ⟨i1, bl, i2, i3⟩, mS, m4⟩
  obtain ⟨W5, hW5, hB5, hs5, j5⟩ := entA w4 31 #[.int .i64 (m : Int), .slice a5 (madeN F m).length c5]
  have hbl : bl = bigB h m := by
    cases bl with
    | true => exact (i3 rfl).symm
    | false =>
      refine (bigB_false fun y hy => ?_).symm
      refine Classical.byContradiction fun hn => ?_
      have := mS y hy false i2 hn
      cases this
  have hlow : ∀ j, j < W.heap.size → w4.heap[j]? = W3.heap[j]? := fun j hj => m4.block j (Nat.lt_of_lt_of_le hj HB3.out.size) (by simp; omega)
  have kb4 : Below W.heap.size W w4 := ⟨m4.os.trans HB3.out.os, m4.tape.trans HB3.out.tape, m4.output.trans HB3.out.output, Nat.le_trans HB3.out.size m4.size, fun j hj => (hlow j hj).trans (HB3.out.block j hj)⟩
  have KB5 := Lib.hid (kb4.trans (hB5.mono kb4.size))
  have HBL := Lib.hid hbl
  have Q5 := Lib.hid (i2.next hB5)
  have R5 := Lib.hid ((I2.out.grown m4 (by simp)).next hB5)
  have J5 := Lib.hid j5
  have N5 := Lib.hid (m1.below hB5)
  have HW5 := Lib.hid hW5
  have HLT := Lib.hid (show W.heap.size + 1 < w4.heap.size from Nat.lt_of_lt_of_le I2.out.lt m4.size)
  clear hlow kb4 hbl m1 i1 i2 i3 mS m4 hW5 hB5 hs5 j5 HMD
  go_upto_region 3 with fail
  rw [← HW5.out]
  clear HW5
  generalize w4.heap.size = gd at *
  have x0 : W5.cell? ⟨W.heap.size + 1 + 1, 0, none⟩ = some (.bool bl) := Q5.out.cell 0
  obtain ⟨y0, y1⟩ : _ ∧ _ := ⟨R5.out.cell0, R5.out.cell1⟩
  have f0 := R5.out.frozen 0
  have f1 := R5.out.frozen 1
  obtain ⟨z0, z1⟩ : _ ∧ _ := ⟨J5.out.cell0, J5.out.cell1⟩
  cases bl with
  | true =>
    have hr := Lib.hid (show RES = (0, [], 6) from by rw [HR.out, ← HBL.out]; rfl)
    have hj6 := R5.out.two (.int .i64 0) (.slice none 0 0)
    have D0 := Lib.hid (hj6.cell 0)
    have D1 := Lib.hid (hj6.cell 1)
    have KK := Lib.hid ((KB5.out.setCell (p := ⟨W.heap.size + 1, 0, none⟩) (by simp) (.int .i64 0)).setCell (p := ⟨W.heap.size + 1, 1, none⟩) (by simp) (.slice none 0 0))
    clear hj6
    go_wp2
    have d0 := D0.out
    have d1 := D1.out
    rw [hr.out]
    exact bodyPost_ret (v := .tuple #[.agg #[.int .i64 0, .slice none 0 0], .int .i64 6]) (by simp [results, Tryz.results41, go_sem, d0, d1]) rfl ⟨none, 0, rfl, Nds.nil _, KK.out⟩
  | false =>
    have hr := Lib.hid (show RES = ((m : Int), madeN F m, 0) from by rw [HR.out, ← HBL.out]; rfl)
    have hj6 := R5.out.two (.int .i64 (m : Int)) (.slice a5 (madeN F m).length c5)
    have D0 := Lib.hid (hj6.cell 0)
    have D1 := Lib.hid (hj6.cell 1)
    have KK := Lib.hid ((KB5.out.setCell (p := ⟨W.heap.size + 1, 0, none⟩) (by simp) (.int .i64 (m : Int))).setCell (p := ⟨W.heap.size + 1, 1, none⟩) (by simp) (.slice a5 (madeN F m).length c5))
    have N6 := Lib.hid (N5.out.away (w' := (W5.setCell ⟨W.heap.size + 1, 0, none⟩ (.int .i64 (m : Int))).setCell ⟨W.heap.size + 1, 1, none⟩ (.slice a5 (madeN F m).length c5)) (fun j hj => by
      rw [Below.heap_setCell _ ⟨W.heap.size + 1, 1, none⟩ _ j hj, Below.heap_setCell _ ⟨W.heap.size + 1, 0, none⟩ _ j hj]) R5.out.cell1)
    clear hj6
    go_wp2
    have d0 := D0.out
    have d1 := D1.out
    rw [hr.out]
    exact bodyPost_ret (v := .tuple #[.agg #[.int .i64 (m : Int), .slice a5 (madeN F m).length c5], .int .i64 0]) (by simp [results, Tryz.results41, go_sem, d0, d1]) rfl ⟨a5, c5, rfl, N6.out, KK.out⟩
end Go.Proofs.YtpmlmibceiolpaaGreatDoor
