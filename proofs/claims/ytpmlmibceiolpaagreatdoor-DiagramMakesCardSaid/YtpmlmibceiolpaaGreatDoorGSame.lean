/- Whether two diagrams are equal. -/
import Derived.Test.YtpmlmibceiolpaaGreatDoorGAt
import Derived.Laws.StructEq
set_option linter.unusedSimpArgs false
set_option linter.unusedVariables false
namespace Go.Proofs.YtpmlmibceiolpaaGreatDoor
open Go.RowKit

theorem nd_underlying : Tryz.prog.underlying 42 = some (.struct (Tryz.prog.fieldsOf 42)) := by kernel_rfl
theorem nd_stood : Tryz.prog.stoodInHeld 42 = false := by kernel_rfl
theorem nd_guard : Tryz.prog.eqGuardType Tryz.prog.depth 42 = false := by kernel_rfl
set_option maxRecDepth 100000 in
theorem nd_neq (a b : Nd) (w : World) : (binOp .neq 42 (ndA a) (ndA b)).run Tryz.prog w = .ok (.bool (!decide (a = b))) w := by
  obtain ⟨fs, hfs⟩ : ∃ fs, fs = Tryz.prog.fieldsOf 42 := ⟨_, rfl⟩
  have hu := nd_underlying
  rw [Tryz.underlying42] at hu
  injection hu with hu
  injection hu with hu
  unfold ndA
  rw [run_neq_struct, run_equalIn_agg _ _ _ _ _ nd_underlying nd_stood, ← hu]
  simp [Op.eqFields, go_sem, Tryz.underlying3, Tryz.underlying40]
  by_cases h : a = b
  · subst h; simp
  · rw [decide_eq_false h]
    by_cases h1 : a.fst = b.fst
    · by_cases h2 : a.snd.fst = b.snd.fst
      · by_cases h3 : a.snd.snd.fst = b.snd.snd.fst
        · have h4 : ¬ a.snd.snd.snd = b.snd.snd.snd := fun h4 => h (Prod.ext h1 (Prod.ext h2 (Prod.ext h3 h4)))
          simp [h1, h2, h3, h4]
        · simp [h1, h2, h3]
      · simp [h1, h2]
    · simp [h1]
theorem wpList_neq_nd {w : World} {ops : Array Oper} {rest : List Oper} {o : Oper} {a : Act} {Q : Exit → Act → World → Prop} (hg : o.guard = none) (x y : Operand) (ty : TypeId) (hop : o.op = Op.binOp .neq 42 x y ty) (n1 n2 : Nd) (hx : a.eval x = ndA n1) (hy : a.eval y = ndA n2)
    (h : wpList Tryz.prog ops Q rest (a.put o.dst (.bool (!decide (n1 = n2)))) w) : wpList Tryz.prog ops Q (o :: rest) a w := by
  refine wpList_plain hg fun K' hK' => ?_
  have e1 := run_eqGuard_agg (P := Tryz.prog) w .neq 42 x y #[.int .i64 n1.1, .int .i64 n1.2.1, .int .i64 n1.2.2.1, .string ⟨n1.2.2.2.toArray⟩] #[.int .i64 n2.1, .int .i64 n2.2.1, .int .i64 n2.2.2.1, .string ⟨n2.2.2.2.toArray⟩] nd_guard
  have e2 := nd_neq n1 n2 w
  unfold Oper.wp
  unfold ndA at hx hy e2
  simp only [execOp, hop, hx, hy, Sem.run_bind, e1, Result.andThen_ok]
  simp only [e2, Result.andThen_ok, Sem.run_pure]
  exact hK' _ _ h

theorem Nds.cell {w : World} {a : Option Addr} {n c : Nat} {l : List Nd} (h : Nds w (.slice a n c) l) {i : Nat} (hi : i < n) : ∃ g, a = some ⟨g, 0, none⟩ ∧ i < l.length ∧ NdAt w g (i * 4) (l.getD i nd0) := by
  rcases h with ⟨rfl, a', c', e⟩ | ⟨g, c', e, h1, h2, h3, h4⟩
  · injection e with e1 e2; omega
  · injection e with e1 e2 e3
    exact ⟨g, e1, by omega, h4 i (by omega)⟩
theorem NdAt.next {w w' : World} {g o : Nat} {n : Nd} (h : NdAt w g o n) (hb : Below w.heap.size w w') : NdAt w' g o n := h.keep (hb.block g h.lt)
theorem list_getD_ext {l l' : List Nd} (hn : l.length = l'.length) (h : ∀ j, j < l.length → l.getD j nd0 = l'.getD j nd0) : l = l' := by
  apply List.ext_getElem hn
  intro j h1 h2
  have := h j h1
  rw [List.getD_eq_getElem?_getD, List.getD_eq_getElem?_getD, List.getElem?_eq_getElem h1, List.getElem?_eq_getElem h2] at this
  exact this

set_option maxHeartbeats 4000000 in
set_option maxRecDepth 100000 in
theorem same_any {W : World} {v v' : Value} {m m' : Int} {l l' : List Nd} (h : Dg W v m l) (h' : Dg W v' m' l') (hl : l.length ≤ 1000000) (hl' : l'.length ≤ 1000000) :
    Calls Tryz.prog 64 #[v, v'] W (RetV W (.bool (decide (m = m' ∧ l = l')))) := by
  obtain ⟨a, c, rfl, hs⟩ := h.parts
  obtain ⟨a', c', rfl, hs'⟩ := h'.parts
  obtain ⟨W2, hW2, hB2, hs2, j1, j2⟩ := entB W 31 31 #[.int .i64 m, .slice a l.length c] #[.int .i64 m', .slice a' l'.length c']
  obtain ⟨RES, hRES⟩ : ∃ R, R = decide (m = m' ∧ l = l') := ⟨_, rfl⟩
  rw [← hRES]
  have HRES := Lib.hid hRES
  have HC := Lib.hid (fun (i : Nat) (hi : i < l.length) (V : World) (hV : Below W.heap.size W V) => show ∃ g, a = some ⟨g, 0, none⟩ ∧ NdAt V g (i * 4) (l.getD i nd0) from by
    obtain ⟨g, e, _, h1⟩ := hs.cell hi
    exact ⟨g, e, h1.next hV⟩)
  have HC' := Lib.hid (fun (i : Nat) (hi : i < l'.length) (V : World) (hV : Below W.heap.size W V) => show ∃ g, a' = some ⟨g, 0, none⟩ ∧ NdAt V g (i * 4) (l'.getD i nd0) from by
    obtain ⟨g, e, _, h1⟩ := hs'.cell hi
    exact ⟨g, e, h1.next hV⟩)
  have HW2 := Lib.hid hW2
  have HB2 := Lib.hid hB2
  have J1 := Lib.hid j1
  have J2 := Lib.hid j2
  have HS := Lib.hid hs2
  have d0 : W2.cell? ⟨W.heap.size, 0, none⟩ = some (.int .i64 m) := j1.cell 0
  have d1 : W2.cell? ⟨W.heap.size, 1, none⟩ = some (.slice a l.length c) := j1.cell 1
  have d2 : W2.cell? ⟨W.heap.size + 1, 0, none⟩ = some (.int .i64 m') := j2.cell 0
  have d3 : W2.cell? ⟨W.heap.size + 1, 1, none⟩ = some (.slice a' l'.length c') := j2.cell 1
  clear hRES hs hs' h h' hW2 hB2 hs2 j1 j2
  by_cases hm : m = m'
  · subst hm
    by_cases hn : l.length = l'.length
    · have HEXT := Lib.hid (fun (h : ∀ j, j < l.length → l.getD j nd0 = l'.getD j nd0) => list_getD_ext hn h)
      obtain ⟨n, hn0⟩ : ∃ n, n = l.length := ⟨_, rfl⟩
      rw [← hn0] at d1 HW2 J1 hl hn HC HEXT
      rw [← hn] at d3 HW2 J2 HC'
      rw [← hn0, ← hn]
      have HNL := Lib.hid hn0
      have HNL' := Lib.hid hn
      clear hn hn0 hl'
      go_enter Tryz.func64, Tryz.ntmps64
      go_upto_region 1 with fail
      rw [← HW2.out]
      go_upto_region 4 with fail
      clear d0 d1 d2 d3 HW2
      generalize hgd : W.heap.size = gd at *
      have HGD := Lib.hid hgd
      clear hgd
      have J2' := Lib.hid (show Blk W2 (gd + 1) 31 _ from J2.out)
      go_loopw [24] (fun u24 wr => ∃ i : Nat, i ≤ n ∧ u24 = .int .i64 (i : Int) ∧ Hid (∀ j, j < i → l.getD j nd0 = l'.getD j nd0) ∧ Hid (Blk wr (gd + 1) 31 #[.int .i64 m, .slice a' n c']) ∧ Hid (Below gd W wr)) (fun u24 _ => n - (intOf u24).toNat)
      case atStart => exact ⟨0, by omega, rfl, Lib.hid (fun j hj => absurd hj (by omega)), J2', HB2⟩
      case round =>
        clear J1 J2 J2' HB2
        obtain ⟨i, hi, rfl, hA, hJ, hB⟩ := hrel
        by_cases hlt : i < n
        · obtain ⟨g, rfl, hc⟩ := HC.out i hlt wr hB.out
          obtain ⟨g', rfl, hc'⟩ := HC'.out i hlt wr hB.out
          obtain ⟨n1, hn1⟩ : ∃ n1, l.getD i nd0 = n1 := ⟨_, rfl⟩
          obtain ⟨n2, hn2⟩ : ∃ n2, l'.getD i nd0 = n2 := ⟨_, rfl⟩
          rw [hn1] at hc
          rw [hn2] at hc'
          have N1 := Lib.hid hn1
          have N2 := Lib.hid hn2
          have HC2 := Lib.hid hc'
          clear hn1 hn2 hc'
          obtain ⟨x0, x1, x2, x3⟩ := hc
          have hlti : (i : Int) < (n : Int) := by omega
          obtain ⟨W3, hW3, hB3, hs3, j3⟩ := entA wr 42 #[.int .i64 n1.1, .int .i64 n1.2.1, .int .i64 n1.2.2.1, .string ⟨n1.2.2.2.toArray⟩]
          have J3 := Lib.hid j3
          have HW3 := Lib.hid hW3
          have K3 := Lib.hid (hB.out.trans (hB3.mono (by rw [← HGD.out]; exact hB.out.size)))
          have hJ3 := Lib.hid (hJ.out.next hB3)
          have C3 := Lib.hid (HC2.out.next hB3)
          clear hW3 hB3 hs3 j3
          go_upto_region 6 with fail
          rw [← HW3.out]
          clear x0 x1 x2 x3 HW3
          generalize wr.heap.size = gw at *
          have y0 : W3.cell? ⟨gd + 1, 1, none⟩ = some (.slice (some ⟨g', 0, none⟩) n c') := hJ3.out.cell 1
          obtain ⟨y1, y2, y3, y4⟩ := C3.out
          obtain ⟨z1, z2, z3, z4⟩ := J3.out.at4
          have l0 := hJ3.out.lt
          have l1 := C3.out.lt
          have l2 := J3.out.lt
          have hBd : Below W3.heap.size W3 W3.drew := (Below.refl _ _).drew
          refine wp_region_list 6 (by kernel_rfl) (by kernel_rfl) [] [fun xv _ => xv = .agg #[.int .i64 n1.1, .int .i64 n1.2.1, .int .i64 n1.2.2.1, .string ⟨n1.2.2.2.toArray⟩], fun xv _ => xv = .pointer (some ⟨gd + 1, 1, none⟩), fun xv _ => xv = .slice (some ⟨g', 0, none⟩) n c', fun xv _ => xv = .int .i64 (i : Int), fun xv _ => xv = .pointer (some ⟨g', i * 4, none⟩), fun xv _ => xv = .agg #[.int .i64 n2.1, .int .i64 n2.2.1, .int .i64 n2.2.2.1, .string ⟨n2.2.2.2.toArray⟩]] (by simp only [List.take_succ_cons, List.take_zero]; rfl) (by simp only [List.drop_succ_cons, List.drop_zero]; rfl) (fun vals => by simp only [fam, Act.put, List.setIfInBounds_toArray, List.set_cons_zero, List.set_cons_succ, if_true]; rfl) (by repeat' (first | exact Stab.eq _ _ | exact Stab.wh _ _ | exact Stab.nm _ _ | exact Stab.new _ _ | exact Stab.newn _ _ | exact Stab.tw _ _ _ | exact Stab.lm _ _ _ | exact Stab.onet _ _ _ | exact Stab.pl _ _ _ | exact Stab.dg _ _ _ | exact Stab.nds _ _ | exact Stab.qs _ _ | exact trivial | apply And.intro)) trivial ?_ ?_
          · refine ⟨?_, ?_, ?_, ?_, ?_, ?_, trivial⟩
            all_goals
              intro vals wy hB1 hp
              dsimp only
              (try simp [preOk, Region.binds, r_anygc, r_anytext] at hp)
              have hb := next_below hBd hB1
              have q0 := keepc hb y0 l0
              have q1 := keepc hb y1 l1
              have q2 := keepc hb y2 l1
              have q3 := keepc hb y3 l1
              have q4 := keepc hb y4 l1
              have r1 := keepc hb z1 l2
              have r2 := keepc hb z2 l2
              have r3 := keepc hb z3 l2
              have r4 := keepc hb z4 l2
              clear hB1 y0 y1 y2 y3 y4 z1 z2 z3 z4
            case refine_5 =>
              obtain ⟨p2, p3⟩ := hp
              go_wp2
              (first | exact ⟨rfl, _, rfl, rfl, Below.refl _ _, trivial⟩ | (refine ⟨rfl, _, ?_, rfl, Below.refl _ _, trivial⟩; simp only [Act.put, List.setIfInBounds_toArray, List.set_cons_zero, List.set_cons_succ, Nat.zero_add, Nat.reduceAdd, p2, p3]))
            all_goals
              go_wp2
              (first | exact ⟨rfl, _, rfl, rfl, Below.refl _ _, trivial⟩ | (refine ⟨rfl, _, ?_, rfl, Below.refl _ _, trivial⟩; simp only [Act.put, List.setIfInBounds_toArray, List.set_cons_zero, List.set_cons_succ, hp]))
          · rintro vals w4 hB1 ⟨p0, p1, p2, p3, p4, p5, _⟩ hne
            have hb := next_below hBd hB1
            simp only [List.getD_cons_zero, List.getD_cons_succ, Nat.zero_add, Nat.reduceAdd] at p0 p5
            have K4 := Lib.hid (K3.out.trans (hb.mono (by rw [← HGD.out]; exact K3.out.size)))
            have JJ4 := Lib.hid (hJ3.out.next hb)
            clear y0 y1 y2 y3 y4 z1 z2 z3 z4 l0 l1 l2 hb hB1 hBd p1 p2 p3 p4 hne
            refine wpList_neq_nd rfl (.tmp 29) (.tmp 34) _ rfl n1 n2 p0 p5 ?_
            clear p0 p5
            by_cases heq : n1 = n2
            · have hd : (!decide (n1 = n2)) = false := by rw [decide_eq_true heq]; rfl
              rw [hd]
              have HEQ := Lib.hid heq
              clear heq hd
              go_wp2
              go_roundw
              case rel => exact ⟨i + 1, by omega, by go_num, Lib.hid (fun j hj => by
                by_cases h : j < i
                · exact hA.out j h
                · obtain rfl : j = i := by omega
                  rw [N1.out, N2.out, HEQ.out]), JJ4, K4⟩
              case measure => simp [intOf]; omega
            · have hd : (!decide (n1 = n2)) = true := by rw [decide_eq_false heq]; rfl
              rw [hd]
              have hRT := Lib.hid (show RES = false from by
                rw [HRES.out]
                refine decide_eq_false (fun h => heq ?_)
                rw [← N1.out, ← N2.out, h.2])
              clear heq hd
              go_wp2
              go_ret
              rw [hRT.out]
              exact ⟨rfl, by rw [HGD.out]; exact K4.out⟩
        · obtain rfl : i = n := by omega
          have hRT := Lib.hid (show RES = true from by rw [HRES.out]; exact decide_eq_true (And.intro (by first | rfl | trivial) (HEXT.out hA.out)))
          go_wp2
          go_ret
          rw [hRT.out]
          exact ⟨rfl, by rw [HGD.out]; exact hB.out⟩
    · have hRT := Lib.hid (show RES = false from by rw [HRES.out]; exact decide_eq_false (fun h => hn (by rw [h.2])))
      have hn1 : ¬ (l.length : Int) = (l'.length : Int) := by omega
      go_enter Tryz.func64, Tryz.ntmps64
      go_upto_region 1 with fail
      rw [← HW2.out]
      go_wp2
      go_ret
      rw [hRT.out]
      exact ⟨rfl, HB2.out⟩
  · have hRT := Lib.hid (show RES = false from by rw [HRES.out]; exact decide_eq_false (fun h => hm h.1))
    go_enter Tryz.func64, Tryz.ntmps64
    go_upto_region 1 with fail
    rw [← HW2.out]
    go_wp2
    go_ret
    rw [hRT.out]
    exact ⟨rfl, HB2.out⟩
end Go.Proofs.YtpmlmibceiolpaaGreatDoor
