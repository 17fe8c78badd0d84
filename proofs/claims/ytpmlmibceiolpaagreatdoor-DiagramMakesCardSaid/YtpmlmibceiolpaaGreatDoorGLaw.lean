/- The reference's comparisons. -/
import Derived.Test.YtpmlmibceiolpaaGreatDoorGAppl
set_option linter.unusedSimpArgs false
set_option linter.unusedVariables false
namespace Go.Proofs.YtpmlmibceiolpaaGreatDoor
open Go.RowKit

set_option maxHeartbeats 4000000 in
set_option maxRecDepth 100000 in
theorem rsame_any {W : World} {v v' : Value} {m m' : Int} {l l' : List Nd} (h : Dg W v m l) (h' : Dg W v' m' l') (hl : l.length ≤ 1000000) (hl' : l'.length ≤ 1000000) :
    Calls Tryz.prog 15 #[v, v'] W (RetV W (.bool (decide (m = m' ∧ l = l')))) := by
  obtain ⟨a, c, rfl, hs⟩ := h.parts
  obtain ⟨a', c', rfl, hs'⟩ := h'.parts
  obtain ⟨W2, hW2, hB2, hs2, j1, j2⟩ := entB W 31 31 #[.int .i64 m, .slice a l.length c] #[.int .i64 m', .slice a' l'.length c']
  obtain ⟨RES, hRES⟩ : ∃ R, R = decide (m = m' ∧ l = l') := ⟨_, rfl⟩
  rw [← hRES]
  have HRES := Lib.hid hRES
  have HC := Lib.hid (fun (i : Nat) (hi : i < l.length) (V : World) (hV : Below W.heap.size W V) => show ∃ g, a = some ⟨g, 0, none⟩ ∧ NdAt V g (i * 4) (l.getD i nd0) from by
    obtain ⟨g, e, _, h1⟩ := hs.cell hi
    exact ⟨g, e, h1.next hV⟩)
  have HC' := Lib.hid (fun (i : Nat) (hi : i < l'.length) (V : World) (hV : Below W.heap.size W V) => show ∃ g, a' = some ⟨g, 0, none⟩ ∧ NdAt V g (i * 4) (l'.getD i nd0) from by
    obtain ⟨g, e, _, h1⟩ := hs'.cell hi
    exact ⟨g, e, h1.next hV⟩)
  have HW2 := Lib.hid hW2
  have HB2 := Lib.hid hB2
  have J1 := Lib.hid j1
  have J2 := Lib.hid j2
  have HS := Lib.hid hs2
  have d0 : W2.cell? ⟨W.heap.size, 0, none⟩ = some (.int .i64 m) := j1.cell 0
  have d1 : W2.cell? ⟨W.heap.size, 1, none⟩ = some (.slice a l.length c) := j1.cell 1
  have d2 : W2.cell? ⟨W.heap.size + 1, 0, none⟩ = some (.int .i64 m') := j2.cell 0
  have d3 : W2.cell? ⟨W.heap.size + 1, 1, none⟩ = some (.slice a' l'.length c') := j2.cell 1
  clear hRES hs hs' h h' hW2 hB2 hs2 j1 j2
  by_cases hm : m = m'
  · subst hm
    by_cases hn : l.length = l'.length
    · have HEXT := Lib.hid (fun (h : ∀ j, j < l.length → l.getD j nd0 = l'.getD j nd0) => list_getD_ext hn h)
      obtain ⟨n, hn0⟩ : ∃ n, n = l.length := ⟨_, rfl⟩
      rw [← hn0] at d1 HW2 J1 hl hn HC HEXT
      rw [← hn] at d3 HW2 J2 HC'
      rw [← hn0, ← hn]
      have HNL := Lib.hid hn0
      have HNL' := Lib.hid hn
      clear hn hn0 hl'
      go_enter Tryz.func15, Tryz.ntmps15
      go_upto_region 1 with fail
      rw [← HW2.out]
      go_upto_region 4 with fail
      clear d0 d1 d2 d3 HW2
      generalize hgd : W.heap.size = gd at *
      have HGD := Lib.hid hgd
      clear hgd
      have J1' := Lib.hid (show Blk W2 gd 31 _ from J1.out)
      have J2' := Lib.hid (show Blk W2 (gd + 1) 31 _ from J2.out)
      go_loopw [5] (fun u5 wr => ∃ i : Nat, i ≤ n ∧ u5 = .int .i64 (i : Int) ∧ Hid (∀ j, j < i → l.getD j nd0 = l'.getD j nd0) ∧ Hid (Blk wr gd 31 #[.int .i64 m, .slice a n c]) ∧ Hid (Blk wr (gd + 1) 31 #[.int .i64 m, .slice a' n c']) ∧ Hid (Below gd W wr)) (fun u5 _ => n - (intOf u5).toNat)
      case atStart => exact ⟨0, by omega, rfl, Lib.hid (fun j hj => absurd hj (by omega)), J1', J2', HB2⟩
      case round =>
        clear J1 J2 J1' J2' HB2
        obtain ⟨i, hi, rfl, hA, hJ1, hJ, hB⟩ := hrel
        have x0 : wr.cell? ⟨gd, 1, none⟩ = some (.slice a n c) := hJ1.out.cell 1
        by_cases hlt : i < n
        · obtain ⟨g, rfl, hc⟩ := HC.out i hlt wr hB.out
          obtain ⟨g', rfl, hc'⟩ := HC'.out i hlt wr hB.out
          obtain ⟨n1, hn1⟩ : ∃ n1, l.getD i nd0 = n1 := ⟨_, rfl⟩
          obtain ⟨n2, hn2⟩ : ∃ n2, l'.getD i nd0 = n2 := ⟨_, rfl⟩
          rw [hn1] at hc
          rw [hn2] at hc'
          have N1 := Lib.hid hn1
          have N2 := Lib.hid hn2
          clear hn1 hn2
          have hlti : (i : Int) < (n : Int) := by omega
          go_upto_region 6 with fail
          clear x0
          have y0 : wr.cell? ⟨gd + 1, 1, none⟩ = some (.slice (some ⟨g', 0, none⟩) n c') := hJ.out.cell 1
          have y00 : wr.cell? ⟨gd, 1, none⟩ = some (.slice (some ⟨g, 0, none⟩) n c) := hJ1.out.cell 1
          obtain ⟨y1, y2, y3, y4⟩ := id hc'
          obtain ⟨z1, z2, z3, z4⟩ := id hc
          have l0 := hJ.out.lt
          have l00 := hJ1.out.lt
          have l1 := hc'.lt
          have l2 := hc.lt
          clear hc hc'
          have hBd : Below wr.heap.size wr wr.drew := (Below.refl _ _).drew
          refine wp_region_list 10 (by kernel_rfl) (by kernel_rfl) [] [fun xv _ => xv = .pointer (some ⟨gd, 1, none⟩), fun xv _ => xv = .slice (some ⟨g, 0, none⟩) n c, fun xv _ => xv = .int .i64 (i : Int), fun xv _ => xv = .pointer (some ⟨g, i * 4, none⟩), fun xv _ => xv = .agg #[.int .i64 n1.1, .int .i64 n1.2.1, .int .i64 n1.2.2.1, .string ⟨n1.2.2.2.toArray⟩], fun xv _ => xv = .pointer (some ⟨gd + 1, 1, none⟩), fun xv _ => xv = .slice (some ⟨g', 0, none⟩) n c', fun xv _ => xv = .int .i64 (i : Int), fun xv _ => xv = .pointer (some ⟨g', i * 4, none⟩), fun xv _ => xv = .agg #[.int .i64 n2.1, .int .i64 n2.2.1, .int .i64 n2.2.2.1, .string ⟨n2.2.2.2.toArray⟩]] (by simp only [List.take_succ_cons, List.take_zero]; rfl) (by simp only [List.drop_succ_cons, List.drop_zero]; rfl) (fun vals => by simp only [fam, Act.put, List.setIfInBounds_toArray, List.set_cons_zero, List.set_cons_succ, if_true]; rfl) (by repeat' (first | exact Stab.eq _ _ | exact Stab.wh _ _ | exact Stab.nm _ _ | exact Stab.new _ _ | exact Stab.newn _ _ | exact Stab.tw _ _ _ | exact Stab.lm _ _ _ | exact Stab.onet _ _ _ | exact Stab.pl _ _ _ | exact Stab.dg _ _ _ | exact Stab.nds _ _ | exact Stab.qs _ _ | exact trivial | apply And.intro)) trivial ?_ ?_
          · refine ⟨?_, ?_, ?_, ?_, ?_, ?_, ?_, ?_, ?_, ?_, trivial⟩
            all_goals
              intro vals wy hB1 hp
              dsimp only
              (try simp [preOk, Region.binds, r_anygc, r_anytext] at hp)
              have hb := next_below hBd hB1
              have q0 := keepc hb y0 l0
              have q00 := keepc hb y00 l00
              have q1 := keepc hb y1 l1
              have q2 := keepc hb y2 l1
              have q3 := keepc hb y3 l1
              have q4 := keepc hb y4 l1
              have r1 := keepc hb z1 l2
              have r2 := keepc hb z2 l2
              have r3 := keepc hb z3 l2
              have r4 := keepc hb z4 l2
              clear hB1 y0 y00 y1 y2 y3 y4 z1 z2 z3 z4
            case refine_4 =>
              obtain ⟨p2, p3⟩ := hp
              go_wp2
              (first | exact ⟨rfl, _, rfl, rfl, Below.refl _ _, trivial⟩ | (refine ⟨rfl, _, ?_, rfl, Below.refl _ _, trivial⟩; simp only [Act.put, List.setIfInBounds_toArray, List.set_cons_zero, List.set_cons_succ, Nat.zero_add, Nat.reduceAdd, p2, p3]))
            case refine_9 =>
              obtain ⟨p2, p3⟩ := hp
              go_wp2
              (first | exact ⟨rfl, _, rfl, rfl, Below.refl _ _, trivial⟩ | (refine ⟨rfl, _, ?_, rfl, Below.refl _ _, trivial⟩; simp only [Act.put, List.setIfInBounds_toArray, List.set_cons_zero, List.set_cons_succ, Nat.zero_add, Nat.reduceAdd, p2, p3]))
            all_goals
              go_wp2
              (first | exact ⟨rfl, _, rfl, rfl, Below.refl _ _, trivial⟩ | (refine ⟨rfl, _, ?_, rfl, Below.refl _ _, trivial⟩; simp only [Act.put, List.setIfInBounds_toArray, List.set_cons_zero, List.set_cons_succ, hp]))
          · rintro vals w4 hB1 ⟨p0, p1, p2, p3, p4, p5, p6, p7, p8, p9, _⟩ hne
            have hb := next_below hBd hB1
            simp only [List.getD_cons_zero, List.getD_cons_succ, Nat.zero_add, Nat.reduceAdd] at p4 p9
            have K4 := Lib.hid (hB.out.trans (hb.mono (by rw [← HGD.out]; exact hB.out.size)))
            have JJ4 := Lib.hid (hJ.out.next hb)
            have JJ5 := Lib.hid (hJ1.out.next hb)
            clear y0 y00 y1 y2 y3 y4 z1 z2 z3 z4 l0 l00 l1 l2 hb hB1 hBd p0 p1 p2 p3 p5 p6 p7 p8 hne
            refine wpList_neq_nd rfl (.tmp 31) (.tmp 36) _ rfl n1 n2 p4 p9 ?_
            clear p4 p9
            by_cases heq : n1 = n2
            · have hd : (!decide (n1 = n2)) = false := by rw [decide_eq_true heq]; rfl
              rw [hd]
              have HEQ := Lib.hid heq
              clear heq hd
              go_wp2
              go_roundw
              case rel => exact ⟨i + 1, by omega, by go_num, Lib.hid (fun j hj => by
                by_cases h : j < i
                · exact hA.out j h
                · obtain rfl : j = i := by omega
                  rw [N1.out, N2.out, HEQ.out]), JJ5, JJ4, K4⟩
              case measure => simp [intOf]; omega
            · have hd : (!decide (n1 = n2)) = true := by rw [decide_eq_false heq]; rfl
              rw [hd]
              have hRT := Lib.hid (show RES = false from by
                rw [HRES.out]
                refine decide_eq_false (fun h => heq ?_)
                rw [← N1.out, ← N2.out, h.2])
              clear heq hd
              go_wp2
              go_ret
              rw [hRT.out]
              exact ⟨rfl, by rw [HGD.out]; exact K4.out⟩
        · obtain rfl : i = n := by omega
          have hRT := Lib.hid (show RES = true from by rw [HRES.out]; exact decide_eq_true (And.intro (by first | rfl | trivial) (HEXT.out hA.out)))
          go_wp2
          go_ret
          rw [hRT.out]
          exact ⟨rfl, by rw [HGD.out]; exact hB.out⟩
    · have hRT := Lib.hid (show RES = false from by rw [HRES.out]; exact decide_eq_false (fun h => hn (by rw [h.2])))
      have hn1 : ¬ (l.length : Int) = (l'.length : Int) := by omega
      go_enter Tryz.func15, Tryz.ntmps15
      go_upto_region 1 with fail
      rw [← HW2.out]
      go_wp2
      go_ret
      rw [hRT.out]
      exact ⟨rfl, HB2.out⟩
  · have hRT := Lib.hid (show RES = false from by rw [HRES.out]; exact decide_eq_false (fun h => hm h.1))
    go_enter Tryz.func15, Tryz.ntmps15
    go_upto_region 1 with fail
    rw [← HW2.out]
    go_wp2
    go_ret
    rw [hRT.out]
    exact ⟨rfl, HB2.out⟩
end Go.Proofs.YtpmlmibceiolpaaGreatDoor

/- The reference's comparison of lists. -/
set_option linter.unusedSimpArgs false
set_option linter.unusedVariables false
namespace Go.Proofs.YtpmlmibceiolpaaGreatDoor
open Go.RowKit

theorem qlist_ext {l l' : List (List UInt8)} (hn : l.length = l'.length) (h : ∀ j, j < l.length → l.getD j [] = l'.getD j []) : l = l' := by
  apply List.ext_getElem hn
  intro j h1 h2
  have := h j h1
  rw [List.getD_eq_getElem?_getD, List.getD_eq_getElem?_getD, List.getElem?_eq_getElem h1, List.getElem?_eq_getElem h2] at this
  exact this
theorem bytes_inj {a b : List UInt8} (h : (⟨a.toArray⟩ : ByteArray) = ⟨b.toArray⟩) : a = b := by
  have h1 := congrArg (fun x : ByteArray => x.data.toList) h
  simpa using h1

set_option maxHeartbeats 4000000 in
set_option maxRecDepth 100000 in
theorem qsame_any {W : World} {v v' : Value} {l l' : List (List UInt8)} (h : Qs W v l) (h' : Qs W v' l') (hl : l.length ≤ 1000000) (hl' : l'.length ≤ 1000000) :
    Calls Tryz.prog 16 #[v, v'] W (RetV W (.bool (decide (l = l')))) := by
  obtain ⟨RES, hRES⟩ : ∃ R, R = decide (l = l') := ⟨_, rfl⟩
  rw [← hRES]
  have HRES := Lib.hid hRES
  obtain ⟨a, c, rfl, -⟩ := id h
  obtain ⟨a', c', rfl, -⟩ := id h'
  have HC := Lib.hid (fun (i : Nat) (hi : i < l.length) (V : World) (hV : Below W.heap.size W V) => show ∃ p, a = some p ∧ V.cell? (p.add i) = some (.string ⟨(l.getD i []).toArray⟩) ∧ (p.add i).block < V.heap.size from by
    obtain ⟨p, e, h1, _⟩ := (h.below hV).cell hi
    exact ⟨p, e, h1, World.block_lt_of_cell? V (p.add i) h1⟩)
  have HC' := Lib.hid (fun (i : Nat) (hi : i < l'.length) (V : World) (hV : Below W.heap.size W V) => show ∃ p, a' = some p ∧ V.cell? (p.add i) = some (.string ⟨(l'.getD i []).toArray⟩) ∧ (p.add i).block < V.heap.size from by
    obtain ⟨p, e, h1, _⟩ := (h'.below hV).cell hi
    exact ⟨p, e, h1, World.block_lt_of_cell? V (p.add i) h1⟩)
  clear hRES h h'
  by_cases hn : l.length = l'.length
  · have HEXT := Lib.hid (fun (h : ∀ j, j < l.length → l.getD j [] = l'.getD j []) => qlist_ext hn h)
    obtain ⟨n, hn0⟩ : ∃ n, n = l.length := ⟨_, rfl⟩
    rw [← hn0] at hl hn HC HEXT
    rw [← hn] at HC'
    rw [← hn0, ← hn]
    clear hn hn0 hl'
    go_enter Tryz.func16, Tryz.ntmps16
    go_upto_region 4 with fail
    have HB2 := Lib.hid (Below.refl W.heap.size W)
    go_loopw [5] (fun u5 wr => ∃ i : Nat, i ≤ n ∧ u5 = .int .i64 (i : Int) ∧ Hid (∀ j, j < i → l.getD j [] = l'.getD j []) ∧ Hid (Below W.heap.size W wr)) (fun u5 _ => n - (intOf u5).toNat)
    case atStart => exact ⟨0, by omega, rfl, Lib.hid (fun j hj => absurd hj (by omega)), HB2⟩
    case round =>
      clear HB2
      obtain ⟨i, hi, rfl, hA, hB⟩ := hrel
      by_cases hlt : i < n
      · obtain ⟨g, rfl, hc, l2⟩ := HC.out i hlt wr hB.out
        obtain ⟨g', rfl, hc', l1⟩ := HC'.out i hlt wr hB.out
        have HS := Lib.hid (show ((⟨(l.getD i []).toArray⟩ : ByteArray).toList == (⟨(l'.getD i []).toArray⟩ : ByteArray).toList) = decide (l.getD i [] = l'.getD i []) from by rw [ba_list, ba_list]; exact Bool.eq_iff_iff.2 (by rw [beq_iff_eq, decide_eq_true_eq]))
        generalize (⟨(l.getD i []).toArray⟩ : ByteArray) = S1 at *
        generalize (⟨(l'.getD i []).toArray⟩ : ByteArray) = S2 at *
        have hlti : (i : Int) < (n : Int) := by omega
        go_upto_region 6 with fail
        have hBd : Below wr.heap.size wr wr.drew := (Below.refl _ _).drew
        refine wp_region_list 8 (by kernel_rfl) (by kernel_rfl) [] [fun xv _ => xv = .slice (some g) n c, fun xv _ => xv = .int .i64 (i : Int), fun xv _ => xv = .pointer (some (g.add i)), fun xv _ => xv = .string S1, fun xv _ => xv = .slice (some g') n c', fun xv _ => xv = .int .i64 (i : Int), fun xv _ => xv = .pointer (some (g'.add i)), fun xv _ => xv = .string S2] (by simp only [List.take_succ_cons, List.take_zero]; rfl) (by simp only [List.drop_succ_cons, List.drop_zero]; rfl) (fun vals => by simp only [fam, Act.put, List.setIfInBounds_toArray, List.set_cons_zero, List.set_cons_succ, if_true]; rfl) (by repeat' (first | exact Stab.eq _ _ | exact Stab.wh _ _ | exact Stab.nm _ _ | exact Stab.new _ _ | exact Stab.newn _ _ | exact Stab.tw _ _ _ | exact Stab.lm _ _ _ | exact Stab.onet _ _ _ | exact Stab.pl _ _ _ | exact Stab.dg _ _ _ | exact Stab.nds _ _ | exact Stab.qs _ _ | exact trivial | apply And.intro)) trivial ?_ ?_
        · refine ⟨?_, ?_, ?_, ?_, ?_, ?_, ?_, ?_, trivial⟩
          all_goals
            intro vals wy hB1 hp
            dsimp only
            (try simp [preOk, Region.binds, r_anygc, r_anytext] at hp)
            have hb := next_below hBd hB1
            have q0 : wy.cell? (g.add i) = some (.string S1) := (World.cell?_of_block (w := wr) (hb.block _ l2)).trans hc
            have q1 : wy.cell? (g'.add i) = some (.string S2) := (World.cell?_of_block (w := wr) (hb.block _ l1)).trans hc'
            clear hB1 hc hc'
          case refine_3 =>
            obtain ⟨p2, p3⟩ := hp
            go_wp2
            (first | exact ⟨rfl, _, rfl, rfl, Below.refl _ _, trivial⟩ | (refine ⟨rfl, _, ?_, rfl, Below.refl _ _, trivial⟩; simp only [Act.put, List.setIfInBounds_toArray, List.set_cons_zero, List.set_cons_succ, Nat.zero_add, Nat.reduceAdd, p2, p3]))
          case refine_7 =>
            obtain ⟨p2, p3⟩ := hp
            go_wp2
            (first | exact ⟨rfl, _, rfl, rfl, Below.refl _ _, trivial⟩ | (refine ⟨rfl, _, ?_, rfl, Below.refl _ _, trivial⟩; simp only [Act.put, List.setIfInBounds_toArray, List.set_cons_zero, List.set_cons_succ, Nat.zero_add, Nat.reduceAdd, p2, p3]))
          all_goals
            go_wp2
            (first | exact ⟨rfl, _, rfl, rfl, Below.refl _ _, trivial⟩ | (refine ⟨rfl, _, ?_, rfl, Below.refl _ _, trivial⟩; simp only [Act.put, List.setIfInBounds_toArray, List.set_cons_zero, List.set_cons_succ, hp]))
        · rintro vals w4 hB1 ⟨p0, p1, p2, p3, p4, p5, p6, p7, _⟩ hne
          have hb := next_below hBd hB1
          simp only [List.getD_cons_zero, List.getD_cons_succ, Nat.zero_add, Nat.reduceAdd] at p3 p7
          have K4 := Lib.hid (hB.out.trans (hb.mono hB.out.size))
          clear l1 l2 hb hB1 hBd p0 p1 p2 p4 p5 p6 hne hc hc'
          rw [p3, p7]
          clear p3 p7
          by_cases heq : l.getD i [] = l'.getD i []
          · have HEQ := Lib.hid heq
            have hb : (S1.toList == S2.toList) = true := by rw [HS.out, decide_eq_true heq]
            clear heq
            go_wp2
            go_roundw
            case rel => exact ⟨i + 1, by omega, by go_num, Lib.hid (fun j hj => by
              by_cases h : j < i
              · exact hA.out j h
              · obtain rfl : j = i := by omega
                exact HEQ.out), K4⟩
            case measure => simp [intOf]; omega
          · have hRT := Lib.hid (show RES = false from by
              rw [HRES.out]
              exact decide_eq_false (fun h => heq (by rw [h])))
            have hb : (S1.toList == S2.toList) = false := by rw [HS.out, decide_eq_false heq]
            clear heq
            go_wp2
            go_ret
            rw [hRT.out]
            exact ⟨rfl, K4.out⟩
      · obtain rfl : i = n := by omega
        have hRT := Lib.hid (show RES = true from by rw [HRES.out]; exact decide_eq_true (HEXT.out hA.out))
        go_wp2
        go_ret
        rw [hRT.out]
        exact ⟨rfl, hB.out⟩
  · have hRT := Lib.hid (show RES = false from by rw [HRES.out]; exact decide_eq_false (fun h => hn (by rw [h])))
    have hn1 : ¬ (l.length : Int) = (l'.length : Int) := by omega
    go_enter Tryz.func16, Tryz.ntmps16
    go_wp2
    go_ret
    rw [hRT.out]
    exact ⟨rfl, Below.refl _ _⟩
end Go.Proofs.YtpmlmibceiolpaaGreatDoor

/- The small functions of the statements. -/
set_option linter.unusedSimpArgs false
set_option linter.unusedVariables false
namespace Go.Proofs.YtpmlmibceiolpaaGreatDoor
open Go.RowKit

set_option maxHeartbeats 1000000 in
set_option maxRecDepth 100000 in
theorem leaf_any {W : World} (v : Int) (S : ByteArray) : Calls Tryz.prog 30 #[.int .i64 v, .string S] W (RetV W (.agg #[.int .i64 v, .int .i64 0, .int .i64 0, .string S])) := by
  obtain ⟨W1, hW1, hB1, hs1, j1⟩ := entA W 42 #[.int .i64 v, .int .i64 0, .int .i64 0, .string S]
  obtain ⟨x0, x1, x2, x3⟩ := j1.at4
  have D := Lib.hid (And.intro x0 (And.intro x1 (And.intro x2 x3)))
  have HB := Lib.hid hB1
  have HW := Lib.hid hW1
  clear x0 x1 x2 x3 j1 hW1 hB1 hs1
  go_enter Tryz.func30, Tryz.ntmps30
  go_wp2
  have e : W1 = _ := HW.out
  rw [← e]
  obtain ⟨d0, d1, d2, d3⟩ := D.out
  exact bodyPost_ret (v := .agg #[.int .i64 v, .int .i64 0, .int .i64 0, .string S]) (by simp [results, Tryz.results30, go_sem, d0, d1, d2, d3]) rfl ⟨rfl, HB.out⟩
set_option maxHeartbeats 1000000 in
set_option maxRecDepth 100000 in
theorem inner_any {W : World} (v a b : Int) : Calls Tryz.prog 31 #[.int .i64 v, .int .i64 a, .int .i64 b] W (RetV W (.agg #[.int .i64 v, .int .i64 a, .int .i64 b, .string ⟨#[]⟩])) := by
  obtain ⟨W1, hW1, hB1, hs1, j1⟩ := entA W 42 #[.int .i64 v, .int .i64 a, .int .i64 b, .string ⟨#[]⟩]
  obtain ⟨x0, x1, x2, x3⟩ := j1.at4
  have D := Lib.hid (And.intro x0 (And.intro x1 (And.intro x2 x3)))
  have HB := Lib.hid hB1
  have HW := Lib.hid hW1
  clear x0 x1 x2 x3 j1 hW1 hB1 hs1
  go_enter Tryz.func31, Tryz.ntmps31
  go_wp2
  have e : W1 = _ := HW.out
  rw [← e]
  obtain ⟨d0, d1, d2, d3⟩ := D.out
  exact bodyPost_ret (v := .agg #[.int .i64 v, .int .i64 a, .int .i64 b, .string ⟨#[]⟩]) (by simp [results, Tryz.results31, go_sem, d0, d1, d2, d3]) rfl ⟨rfl, HB.out⟩

set_option maxHeartbeats 1000000 in
set_option maxRecDepth 100000 in
theorem is_true {W : World} {v v' : Value} {m : Int} {l : List Nd} (h : Dg W v m l) (h' : Nds W v' l) (hl : l.length ≤ 1000000) : Calls Tryz.prog 33 #[v, .int .i64 0, .int .i64 m, v'] W (RetV W (.bool true)) := by
  obtain ⟨a, c, rfl, hs⟩ := h.parts
  obtain ⟨a', c', rfl⟩ := h'.len
  obtain ⟨W1, hW1, hB1, hs1, j1⟩ := entA W 31 #[.int .i64 m, .slice a l.length c]
  have HC := Lib.hid (show Calls Tryz.prog 15 #[.agg #[.int .i64 m, .slice a l.length c], .agg #[.int .i64 m, .slice a' l.length c']] W1 (RetV W1 (.bool true)) from by
    have h1 := rsame_any (W := W1) (v := .agg #[.int .i64 m, .slice a l.length c]) (v' := .agg #[.int .i64 m, .slice a' l.length c']) (m := m) (m' := m) (l := l) (l' := l) ⟨_, rfl, hs.below hB1⟩ ⟨_, rfl, h'.below hB1⟩ hl hl
    rwa [decide_eq_true ⟨rfl, rfl⟩] at h1)
  have HB := Lib.hid hB1
  have HW := Lib.hid hW1
  have d0 : W1.cell? ⟨W.heap.size, 0, none⟩ = some (.int .i64 m) := j1.cell 0
  have d1 : W1.cell? ⟨W.heap.size, 1, none⟩ = some (.slice a l.length c) := j1.cell 1
  generalize l.length = n at *
  clear h h' hs j1 hW1 hB1 hs1
  go_enter Tryz.func33, Tryz.ntmps33
  go_upto_region 1 with fail
  rw [← HW.out]
  go_wp2_with fail
  refine (HC.out).mono ?_
  rintro e w2 ⟨rfl, hb⟩
  have K := Lib.hid (next_below HB.out hb)
  clear hb d0 d1
  go_wp2
  go_ret
  exact ⟨rfl, K.out⟩

set_option maxHeartbeats 1000000 in
set_option maxRecDepth 100000 in
theorem lists_true {W : World} {v v' : Value} {m : Int} {l : List Nd} (h : DgIn W v m l) (hv : vldN m l = true) (h' : Qs W v' (tabN (evD m.toNat l) m.toNat)) (hg : Good W) : Calls Tryz.prog 13 #[v, .int .i64 0, v'] W (RetV W (.bool true)) := by
  obtain ⟨a, c, rfl, hs⟩ := h.dg.parts
  obtain ⟨W1, hW1, hB1, hs1, j1⟩ := entA W 31 #[.int .i64 m, .slice a l.length c]
  have hlen : (tabN (evD m.toNat l) m.toNat).length ≤ 1000000 := by
    rw [tabN_len]
    obtain ⟨k, rfl, hk, -⟩ := vldN_parts hv
    exact Nat.le_trans (Nat.pow_le_pow_right (by omega) (show (k : Int).toNat ≤ 6 by omega)) (by decide)
  have HT := Lib.hid (table_ok (h.below hB1) hv (hg.below hB1))
  have HQ := Lib.hid h'
  generalize tabN (evD m.toNat l) m.toNat = T at *
  have HS := Lib.hid (fun (V : World) (s : Value) (hs : Qs V s T) (hV : Qs V v' T) => show Calls Tryz.prog 16 #[s, v'] V (RetV V (.bool true)) from by
    have h1 := qsame_any hs hV hlen hlen
    rwa [decide_eq_true rfl] at h1)
  have HB := Lib.hid hB1
  have HW := Lib.hid hW1
  have d0 : W1.cell? ⟨W.heap.size, 0, none⟩ = some (.int .i64 m) := j1.cell 0
  have d1 : W1.cell? ⟨W.heap.size, 1, none⟩ = some (.slice a l.length c) := j1.cell 1
  generalize l.length = n at *
  clear h h' hs j1 hW1 hB1 hs1 hlen hv hg
  go_enter Tryz.func13, Tryz.ntmps13
  go_upto_region 1 with fail
  rw [← HW.out]
  go_wp2_with fail
  refine (HT.out).mono ?_
  rintro e w2 ⟨s, rfl, hq, hb⟩
  have K := Lib.hid (HB.out.trans (hb.mono HB.out.size))
  have HC := Lib.hid (HS.out w2 s hq (HQ.out.below K.out))
  clear hb d0 d1 hq
  go_wp2_with fail
  refine (HC.out).mono ?_
  rintro e w3 ⟨rfl, hb⟩
  have K3 := Lib.hid (K.out.trans (hb.mono K.out.size))
  clear hb
  go_wp2
  go_ret
  exact ⟨rfl, K3.out⟩

theorem Stab.nds (W : World) (l : List Nd) : Stab W (fun v w => Nds w v l) := fun v w1 w2 _ h2 h => h.below h2
theorem Stab.qs (W : World) (l : List (List UInt8)) : Stab W (fun v w => Qs w v l) := fun v w1 w2 _ h2 h => h.below h2
theorem Nds.lit {w : World} {g : Nat} {cs : Array Value} (l : List Nd) (hb : Blk w g 42 cs) (e : cs = (l.flatMap ndL).toArray) (h0 : 0 < l.length) (h2 : l.length ≤ 1000) : Nds w (.slice (some ⟨g, 0, none⟩) l.length l.length) l := by
  refine .inr ⟨g, l.length, rfl, Nat.le_refl _, by unfold maxLen; omega, h0, fun i hi => ?_⟩
  obtain ⟨a0, a1, a2, a3⟩ := ndL_at l i hi
  have hc : ∀ j x, (l.flatMap ndL)[j]? = some x → w.cell? ⟨g, j, none⟩ = some x := fun j x hj => by
    rw [hb.cell j, e, List.getElem?_toArray]; exact hj
  exact ⟨hc _ _ a0, hc _ _ a1, hc _ _ a2, hc _ _ a3⟩
end Go.Proofs.YtpmlmibceiolpaaGreatDoor
