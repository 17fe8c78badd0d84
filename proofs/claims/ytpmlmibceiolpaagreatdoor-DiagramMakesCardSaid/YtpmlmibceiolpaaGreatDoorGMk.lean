/- The reference's Of; a draft's number of variables; lists cut short. -/
import Derived.Test.YtpmlmibceiolpaaGreatDoorGRMade
import Derived.Test.YtpmlmibceiolpaaGreatDoorR2c
import Derived.Test.YtpmlmibceiolpaaGreatDoorDOpen
set_option linter.unusedSimpArgs false
set_option linter.unusedVariables false
namespace Go.Proofs.YtpmlmibceiolpaaGreatDoor
open Go.RowKit

/-! Count. -/
def cntN (vr : Nat) : Nat := [2, 3, 1, 4, 0, 3, 6, 2].getD (vr % 8) 0
theorem cntN8 : ∀ q, q < 8 → [2, 3, 1, 4, 0, 3, 6, 2].getD q 0 ≤ 6 := by decide
theorem cntN_le (vr : Nat) : cntN vr ≤ 6 := cntN8 _ (Nat.mod_lt _ (by omega))
set_option maxHeartbeats 4000000 in
set_option maxRecDepth 100000 in
theorem count_any {W : World} {v : Value} {vr kd : Nat} {zs : List Nat} (h : Dft W v vr kd zs) : Calls Tryz.prog 21 #[v] W (RetV W (.int .i64 (cntN vr : Int))) := by
  obtain ⟨s, rfl, hu⟩ := id h.is
  obtain ⟨ao, cap, rfl, -⟩ := hu.open_
  obtain ⟨W1, hW1, hB1, hs1, j1⟩ := entA W 24 #[.int .u8 (vr : Int), .int .u8 (kd : Int), .slice ao zs.length cap]
  obtain ⟨q, hq⟩ : ∃ q, q = vr % 8 := ⟨_, rfl⟩
  have hq8 : q < 8 := by omega
  have hq1 : (vr : Int) % 8 = (q : Int) := by omega
  have hq1t : (vr : Int).tmod 8 = (q : Int) := by rw [Int.tmod_eq_emod_of_nonneg (by omega)]; omega
  have HC := Lib.hid (show cntN vr = [2, 3, 1, 4, 0, 3, 6, 2].getD q 0 from by rw [hq]; rfl)
  have HW1 := Lib.hid hW1
  have K := Lib.hid hB1
  have d0 : W1.cell? ⟨W.heap.size, 0, none⟩ = some (.int .u8 (vr : Int)) := j1.cell 0
  have hlt0 : W.heap.size < W1.heap.size := j1.lt
  generalize cntN vr = CN at *
  generalize zs.length = zl at *
  clear h hu hW1 hB1 hs1 j1 hq
  obtain rfl | rfl | rfl | rfl | rfl | rfl | rfl | rfl : q = 0 ∨ q = 1 ∨ q = 2 ∨ q = 3 ∨ q = 4 ∨ q = 5 ∨ q = 6 ∨ q = 7 := by omega
  all_goals
    go_enter Tryz.func21, Tryz.ntmps21
    go_upto_region 1 with fail
    rw [← HW1.out]
    go_wp2
    go_ret
    exact ⟨by rw [HC.out]; rfl, K.out.alloc K.out.size _⟩

/-! Lists cut short. -/
theorem cut_text (S : ByteArray) (m : Nat) : S.extract 0 m = ⟨(S.data.toList.take m).toArray⟩ := by
  have h := extract_list S.data.toList 0 m
  simpa using h
theorem take_min {α : Type} (l : List α) (k : Nat) : l.take (min l.length k) = l.take k := by
  by_cases h : l.length ≤ k
  · rw [Nat.min_eq_left h, List.take_length, List.take_of_length_le h]
  · rw [Nat.min_eq_right (by omega)]
theorem cut60 (S : ByteArray) : S.extract 0 (min S.size 60) = ⟨(S.data.toList.take 60).toArray⟩ := by
  rw [cut_text, show S.size = S.data.toList.length from (Array.length_toList).symm, take_min]
def shL (t : List (List UInt8)) (i : Nat) : List (List UInt8) := (List.range i).map fun j => (t.getD j []).take 60
theorem shL_succ (t : List (List UInt8)) (i : Nat) : shL t (i + 1) = shL t i ++ [(t.getD i []).take 60] := by unfold shL; rw [List.range_succ, List.map_append, List.map_singleton]
theorem shL_len (t : List (List UInt8)) (i : Nat) : (shL t i).length = i := by simp [shL]
theorem shL_short (t : List (List UInt8)) (i : Nat) : ∀ q ∈ shL t i, q.length ≤ 60 := by
  intro q hq
  obtain ⟨j, -, rfl⟩ := List.mem_map.1 hq
  rw [List.length_take]; omega
def shT (t : List (List UInt8)) : List (List UInt8) := shL t (min t.length 70)

set_option maxHeartbeats 8000000 in
set_option maxRecDepth 100000 in
theorem lshort_any {W : World} {vt : Value} {t : List (List UInt8)} (hv : Qs W vt t) : Calls Tryz.prog 22 #[vt, .int .i64 70] W (RetQs W (shT t)) := by
  obtain ⟨i0, hi0, hz0, hz1, hz2⟩ := info_parts infoQ
  have hq := hv
  obtain ⟨a, c, rfl, h1, h2, h3, h4⟩ := hv
  obtain ⟨m, hm⟩ : ∃ m, m = min t.length 70 := ⟨_, rfl⟩
  have hmi : min (t.length : Int) 70 = (m : Int) := by omega
  have hmc : (m : Int) ≤ (c : Int) := by omega
  have hm70 : m ≤ 70 := by omega
  have HC := Lib.hid (fun (i : Nat) (hi : i < m) (V : World) (hV : Below W.heap.size W V) => show ∃ p, a = some p ∧ V.cell? (p.add i) = some (.string ⟨(t.getD i []).toArray⟩) from by
    obtain ⟨p, e, hc, _⟩ := hq.cell (i := i) (by omega)
    exact ⟨p, e, (hV.cell (p := p.add i) (World.block_lt_of_cell? W (p.add i) hc)).trans hc⟩)
  have HE := Lib.hid (show shT t = shL t m from by unfold shT; rw [← hm])
  generalize t.length = n at *
  clear hq h1 h2 h3 h4 hm
  go_enter Tryz.func22, Tryz.ntmps22
  go_upto_region 3 with fail
  clear hmi hmc
  go_loopw [5, 15] (fun u5 u15 wr => ∃ i : Nat, i ≤ m ∧ u15 = .int .i64 (i : Int) ∧ Hid (QRow wr W.heap.size u5 (shL t i)) ∧ Hid (Below W.heap.size W wr)) (fun _ u15 _ => m - (intOf u15).toNat)
  case atStart => exact ⟨0, by omega, rfl, Lib.hid (QRow.nil _ _), Lib.hid (Below.refl _ _)⟩
  case round =>
    obtain ⟨i, hi, rfl, hR, hB⟩ := hrel
    obtain ⟨ar, cr, hv⟩ := hR.out.len
    rw [shL_len] at hv
    subst hv
    by_cases hlt : i < m
    · have hlti : (i : Int) < (m : Int) := by omega
      obtain ⟨p, rfl, hc⟩ := HC.out i hlt wr hB.out
      have HSU := Lib.hid (shL_succ t i)
      have hx : (⟨(t.getD i []).toArray⟩ : ByteArray).extract 0 (min (⟨(t.getD i []).toArray⟩ : ByteArray).size 60) = ⟨((t.getD i []).take 60).toArray⟩ := cut60 _
      generalize t.getD i [] = x at *
      generalize hS : (⟨x.toArray⟩ : ByteArray) = S at *
      obtain ⟨k, hk⟩ : ∃ k, k = min S.size 60 := ⟨_, rfl⟩
      rw [← hk] at hx
      have hki : min (S.size : Int) 60 = (k : Int) := by omega
      have hkS : (k : Int) ≤ (S.size : Int) := by omega
      have HX := Lib.hid hx
      have hRo := Lib.hid (hR.out.owns (shL_len t i))
      have hsz : W.heap.size ≤ wr.heap.size := hB.out.size
      clear hx hS hk
      go_wp2_with (at_builtin; rw [HX.out]; refine wpList_append_own _ rfl (.tmp 19) (.tmp 25) 27 rfl W.heap.size 40 i0 (.string ⟨#[]⟩) 1 16 Tryz.underlying27 hi0 hz0 hz1 hz2 rfl (by decide) (.slice ar i cr) i _ rfl (hRo.out.alloc _) ⟨wr.heap.size, 0, none⟩ 1 1 [.string ⟨(x.take 60).toArray⟩] rfl rfl (cell_new_q _ _ _) (by intro u hu; simp at hu; subst hu; rfl) (by unfold maxLen; omega) (by omega) (by simp; omega) ?_; intro v' w3 hown1 hgrow1 hnil1)
      go_roundw
      case rel =>
        refine ⟨i + 1, by omega, by go_num, Lib.hid ?_, Lib.hid ?_⟩
        · rw [HSU.out]
          exact QRow.snoc (shL_len t i) hown1
        · exact (hB.out.alloc hsz _).grown hgrow1 (by simp; omega) (fun q hq => (World.ownsRow.lt hR.out q hq).1)
      case measure => simp [intOf]; omega
    · obtain rfl : i = m := by omega
      go_wp2
      go_ret
      exact ⟨_, rfl, by rw [HE.out]; exact hR.out.qs, hB.out⟩

/-! Of. -/
set_option maxHeartbeats 8000000 in
set_option maxRecDepth 100000 in
theorem rof_any {W : World} {v : Value} {m : Int} {t : List (List UInt8)} (hv : Qs W v t) (hn6 : t.length ≤ 1000000) (hl : ∀ q ∈ t, q.length ≤ 39000) (hg : Good W) :
    Calls Tryz.prog 23 #[.int .i64 m, v] W (RetDg W (ofR m t)) := by
  have hq := hv
  obtain ⟨a, c, rfl, -, -, -, -⟩ := hv
  obtain ⟨n, hn⟩ : ∃ n, n = t.length := ⟨_, rfl⟩
  rw [← hn] at hq hn6 ⊢
  obtain ⟨W1, hW1, hB1, hs1, j1⟩ := entA W 31 #[.int .i64 0, .slice none 0 0]
  obtain ⟨RES, hRES⟩ : ∃ R, R = ofR m t := ⟨_, rfl⟩
  rw [← hRES]
  have HR := Lib.hid (show RES = if 0 ≤ m ∧ m ≤ 6 ∧ n = 2 ^ m.toNat then (if t.all fun q => decide (rerr q = 0) then (m, madeN (fun y => t.getD y []) m.toNat, 0) else (0, [], 5)) else (0, [], 2) from by rw [hRES, hn]; rfl)
  have HW1 := Lib.hid hW1
  have K := Lib.hid hB1
  have J1 := Lib.hid j1
  have HQ := Lib.hid (fun (V : World) (hV : Below W.heap.size W V) => show Qs V (.slice a n c) t from hq.below hV)
  have HCE := Lib.hid (fun (i : Nat) (hi : i < n) (V : World) (hV : Below W.heap.size W V) => show ∃ p, a = some p ∧ V.cell? (p.add i) = some (.string ⟨(t.getD i []).toArray⟩) ∧ t.getD i [] ∈ t from by
    obtain ⟨p, e, hc, hit⟩ := hq.cell (i := i) hi
    exact ⟨p, e, (hV.cell (p := p.add i) (World.block_lt_of_cell? W (p.add i) hc)).trans hc, by rw [List.getD_eq_getElem?_getD, List.getElem?_eq_getElem hit]; exact List.getElem_mem hit⟩)
  have HCK := Lib.hid (fun (V : World) (hV : Below W.heap.size W V) (x : List UInt8) (hx : x ∈ t) => D4.check2_any (w := V) x (hl x hx) (hg.below hV))
  have HG := Lib.hid (fun (V : World) (hV : Below W.heap.size W V) => hg.below hV)
  have HL := Lib.hid hl
  have HN := Lib.hid hn
  have HEND : ∀ (w' : World) (L : List Nd) (mm er : Int) (aa : Option Addr) (cc : Nat), RES = (mm, L, er) → Nds w' (.slice aa L.length cc) L → Below W.heap.size W w' → True := fun _ _ _ _ _ _ _ _ _ => trivial
  clear HEND
  have HBAD := Lib.hid (fun (h : ¬ (0 ≤ m ∧ m ≤ 6 ∧ n = 2 ^ m.toNat)) => show RES = (0, [], 2) from by rw [HR.out, if_neg h])
  clear hW1 hB1 hs1 j1 hq hg hl hn hRES
  go_enter Tryz.func23, Tryz.ntmps23
  go_upto_region 1 with fail
  rw [← HW1.out]
  clear HW1
  go_cut [19] from 999 to 999 (fun c wx => c = .bool (!argB m n) ∧ ∃ V, V = wx ∧ V = W1)
  case first =>
    by_cases h1 : m < 0
    · have HB := Lib.hid (show argB m n = false from by unfold argB; exact decide_eq_false (by omega))
      go_wp2
      go_meet
      case rel => exact ⟨by rw [HB.out]; rfl, _, rfl, rfl⟩
    · by_cases h2 : 6 < m
      · have HB := Lib.hid (show argB m n = false from by unfold argB; exact decide_eq_false (by omega))
        go_wp2
        go_meet
        case rel => exact ⟨by rw [HB.out]; rfl, _, rfl, rfl⟩
      · obtain ⟨k, rfl⟩ := Int.eq_ofNat_of_zero_le (show 0 ≤ m by omega)
        obtain ⟨P, hP⟩ : ∃ P, P = 2 ^ k := ⟨_, rfl⟩
        have HW := Lib.hid (show wrap64 ((2 : Int) ^ k) = (P : Int) from by rw [hP]; exact shl1 k (by omega))
        have HAB := Lib.hid (show argB k n = decide (n = P) from by
          unfold argB; rw [Int.toNat_natCast, ← hP]
          exact decide_eq_decide.2 ⟨fun h => h.2.2, fun h => ⟨by omega, by omega, h⟩⟩)
        clear hP
        go_wp2
        go_meet
        case rel =>
          refine ⟨?_, _, rfl, rfl⟩
          rw [HW.out, HAB.out]
          by_cases h : n = P
          · rw [decide_eq_true h, h]; simp
          · rw [decide_eq_false h]
            have h2 : ((n : Int) != (P : Int)) = true := bne_iff_ne.2 (by omega)
            rw [h2]; rfl
  case rest =>
    obtain ⟨rfl, V, rfl, hV⟩ := hcut
    subst hV
    have HAB := Lib.hid (show argB m n = decide (0 ≤ m ∧ m ≤ 6 ∧ n = 2 ^ m.toNat) from rfl)
    generalize argB m n = AB at *
    cases AB with
    | false =>
      have hr := Lib.hid (HBAD.out (of_decide_eq_false HAB.out.symm))
      have j2 := J1.out
      have hj5 := j2.two (.int .i64 0) (.slice none 0 0)
      have D0 := Lib.hid (hj5.cell 0)
      have D1 := Lib.hid (hj5.cell 1)
      have KK := Lib.hid ((K.out.setCell (p := ⟨W.heap.size, 0, none⟩) (by simp) (.int .i64 0)).setCell (p := ⟨W.heap.size, 1, none⟩) (by simp) (.slice none 0 0))
      obtain ⟨x0, x1⟩ : _ ∧ _ := ⟨j2.cell0, j2.cell1⟩
      have f0 := j2.frozen 0
      have f1 := j2.frozen 1
      clear hj5 j2
      go_wp2
      have d0 := D0.out
      have d1 := D1.out
      rw [hr.out]
      exact bodyPost_ret (v := .tuple #[.agg #[.int .i64 0, .slice none 0 0], .int .i64 2]) (by simp [results, Tryz.results23, go_sem, d0, d1]) rfl ⟨none, 0, rfl, Nds.nil _, KK.out⟩
    | true =>
      obtain ⟨s1, s2, s3⟩ := of_decide_eq_true HAB.out.symm
      have hr0 := Lib.hid (show RES = if t.all fun q => decide (rerr q = 0) then (m, madeN (fun y => t.getD y []) m.toNat, 0) else (0, [], 5) from by rw [HR.out, if_pos ⟨s1, s2, s3⟩])
      obtain ⟨k, rfl⟩ := Int.eq_ofNat_of_zero_le s1
      have HK6 := Lib.hid (And.intro s2 s3)
      clear HR HAB HBAD s1 s2 s3
      go_upto_region 4 with fail
      simp only [Bool.not_true]
      have J0 := Lib.hid J1.out
      have K0 := Lib.hid K.out
      go_loopw [6] (fun u6 wr => ∃ i : Nat, i ≤ n ∧ u6 = .int .i64 (i : Int) ∧ Hid (∀ j, j < i → rerr (t.getD j []) = 0) ∧ Hid (Blk wr W.heap.size 31 #[.int .i64 0, .slice none 0 0]) ∧ Hid (Below W.heap.size W wr)) (fun u6 _ => n - (intOf u6).toNat)
      case atStart => exact ⟨0, by omega, rfl, Lib.hid (fun j hj => absurd hj (by omega)), J0, K0⟩
      case round =>
        clear J0 K0 J1 K
        obtain ⟨i, hi, rfl, hA, hJ, hB⟩ := hrel
        by_cases hlt : i < n
        · have hlti : (i : Int) < (n : Int) := by omega
          obtain ⟨p, rfl, hc, hmem⟩ := HCE.out i hlt wr hB.out
          have HC := Lib.hid (HCK.out wr hB.out _ hmem)
          obtain ⟨x, hx⟩ : ∃ x, t.getD i [] = x := ⟨_, rfl⟩
          rw [hx] at hc hmem HC
          have HXI := Lib.hid hx
          have HM := Lib.hid hmem
          generalize (⟨x.toArray⟩ : ByteArray) = S at *
          clear hx hmem
          go_wp2_with fail
          refine (HC.out).mono ?_
          rintro e w3 ⟨rfl, hb⟩
          have hK3 := Lib.hid (next_below hB.out hb)
          have hJ3 := Lib.hid (hJ.out.next hb)
          clear hb hc HC
          by_cases h0 : rerr x = 0
          · have H0 := Lib.hid h0
            rw [h0]
            clear h0
            go_wp2
            go_roundw
            case rel => exact ⟨i + 1, by omega, by go_num, Lib.hid (fun j hj => by
              by_cases h : j < i
              · exact hA.out j h
              · obtain rfl : j = i := by omega
                rw [HXI.out]; exact H0.out), hJ3, hK3⟩
            case measure => simp [intOf]; omega
          · have hr := Lib.hid (show RES = (0, [], 5) from by
              rw [hr0.out, if_neg]
              intro hall
              exact h0 (of_decide_eq_true (List.all_eq_true.1 hall x HM.out)))
            have j2 := hJ3.out
            have hj5 := j2.two (.int .i64 0) (.slice none 0 0)
            have D0 := Lib.hid (hj5.cell 0)
            have D1 := Lib.hid (hj5.cell 1)
            have KK := Lib.hid ((hK3.out.setCell (p := ⟨W.heap.size, 0, none⟩) (by simp) (.int .i64 0)).setCell (p := ⟨W.heap.size, 1, none⟩) (by simp) (.slice none 0 0))
            obtain ⟨x0, x1⟩ : _ ∧ _ := ⟨j2.cell0, j2.cell1⟩
            have f0 := j2.frozen 0
            have f1 := j2.frozen 1
            generalize rerr x = er at *
            clear hj5 j2
            go_wp2
            have d0 := D0.out
            have d1 := D1.out
            rw [hr.out]
            exact bodyPost_ret (v := .tuple #[.agg #[.int .i64 0, .slice none 0 0], .int .i64 5]) (by simp [results, Tryz.results23, go_sem, d0, d1]) rfl ⟨none, 0, rfl, Nds.nil _, KK.out⟩
        · obtain rfl : i = n := by omega
          have HT := Lib.hid (show Tbl t k from ⟨by have := HK6.out.1; omega, by rw [← HN.out, HK6.out.2]; rfl, fun q hq => by
            obtain ⟨j, hj, rfl⟩ := List.mem_iff_getElem.1 hq
            have h := hA.out j (by rw [HN.out]; exact hj)
            rwa [List.getD_eq_getElem?_getD, List.getElem?_eq_getElem hj] at h, fun q hq => Nat.le_trans (HL.out q hq) (by omega)⟩)
          have hr := Lib.hid (show RES = ((k : Int), dgN t k, 0) from by
            rw [hr0.out, if_pos]
            · rfl
            · rw [List.all_eq_true]; intro q hq; exact decide_eq_true (HT.out.ok q hq))
          have HMD := Lib.hid (rmade_any HT.out (HQ.out wr hB.out))
          generalize dgN t k = L at *
          go_wp2_with fail
          refine (HMD.out).mono ?_
          rintro e w4 ⟨a5, c5, rfl, m1, hb⟩
          have j2 := hJ.out.next hb
          have hj5 := j2.two (.int .i64 (k : Int)) (.slice a5 L.length c5)
          have D0 := Lib.hid (hj5.cell 0)
          have D1 := Lib.hid (hj5.cell 1)
          have N5 := Lib.hid (m1.away (w' := (w4.setCell ⟨W.heap.size, 0, none⟩ (.int .i64 (k : Int))).setCell ⟨W.heap.size, 1, none⟩ (.slice a5 L.length c5)) (fun j hj => by
            rw [Below.heap_setCell _ ⟨W.heap.size, 1, none⟩ _ j hj, Below.heap_setCell _ ⟨W.heap.size, 0, none⟩ _ j hj]) j2.cell1)
          have KK := Lib.hid (((next_below hB.out hb).setCell (p := ⟨W.heap.size, 0, none⟩) (by simp) (.int .i64 (k : Int))).setCell (p := ⟨W.heap.size, 1, none⟩) (by simp) (.slice a5 L.length c5))
          obtain ⟨x0, x1⟩ : _ ∧ _ := ⟨j2.cell0, j2.cell1⟩
          have f0 := j2.frozen 0
          have f1 := j2.frozen 1
          clear hj5 j2 m1 hb HMD
          go_wp2
          have d0 := D0.out
          have d1 := D1.out
          rw [hr.out]
          exact bodyPost_ret (v := .tuple #[.agg #[.int .i64 (k : Int), .slice a5 L.length c5], .int .i64 0]) (by simp [results, Tryz.results23, go_sem, d0, d1]) rfl ⟨a5, c5, rfl, N5.out, KK.out⟩
end Go.Proofs.YtpmlmibceiolpaaGreatDoor
namespace Go.Proofs.YtpmlmibceiolpaaGreatDoor
open Go.RowKit

theorem ofR_few (z : Int) (T : List (List UInt8)) : (ofR z T).2.1.length ≤ 1000000 := by
  unfold ofR
  split
  · rename_i h
    split
    · have h1 := made_size (fun y => T.getD y []) z.toNat
      have h2 := Nat.pow_le_pow_right (show 2 > 0 by omega) (show z.toNat + 1 ≤ 7 by omega)
      show (madeN (fun y => T.getD y []) z.toNat).length ≤ 1000000
      omega
    · simp
  · simp
/-- A list whose texts are short. -/
def OkT (T : List (List UInt8)) : Prop := T.length ≤ 1000000 ∧ ∀ q ∈ T, q.length ≤ 60
def RetE (W : World) (r1 : Int) (rl : List Nd) (re : Int) (e : Ending) (W' : World) : Prop :=
  ∃ a c, e = .returned (.tuple #[.agg #[.int .i64 r1, .slice a rl.length c], .int .i64 re]) ∧ Nds W' (.slice a rl.length c) rl ∧ Below W.heap.size W W'
theorem of_both {V : World} {u : Value} {T : List (List UInt8)} (hT : OkT T) (hu : Qs V u T) (z : Int) (hg : Good V) {r1 re : Int} {rl : List Nd} (hr : ofR z T = (r1, rl, re)) : Calls Tryz.prog 12 #[.int .i64 z, u] V (RetE V r1 rl re) := by
  have h := dgof_any (m := z) hu hT.1 (fun q hq => Nat.le_trans (hT.2 q hq) (by omega)) hg
  rw [hr] at h
  exact h
theorem of_both2 {V : World} {u : Value} {T : List (List UInt8)} (hT : OkT T) (hu : Qs V u T) (z : Int) (hg : Good V) {r1 re : Int} {rl : List Nd} (hr : ofR z T = (r1, rl, re)) : Calls Tryz.prog 23 #[.int .i64 z, u] V (RetE V r1 rl re) := by
  have h := rof_any (m := z) hu hT.1 (fun q hq => Nat.le_trans (hT.2 q hq) (by omega)) hg
  rw [hr] at h
  exact h
theorem ixT (s0 s1 s2 : Option Addr) (n0 c0 n1 c1 n2 c2 : Nat) (X : World) :
    (Instr.index 54 (.agg #[.slice s0 n0 c0, .slice s1 n1 c1, .slice s2 n2 c2]) (.int .i64 0)).run Tryz.prog X = .ok (.slice s0 n0 c0) X ∧
    (Instr.index 54 (.agg #[.slice s0 n0 c0, .slice s1 n1 c1, .slice s2 n2 c2]) (.int .i64 1)).run Tryz.prog X = .ok (.slice s1 n1 c1) X ∧
    (Instr.index 54 (.agg #[.slice s0 n0 c0, .slice s1 n1 c1, .slice s2 n2 c2]) (.int .i64 2)).run Tryz.prog X = .ok (.slice s2 n2 c2) X := ⟨by kernel_rfl, by kernel_rfl, by kernel_rfl⟩
theorem ixI (z0 z1 z2 : Int) (X : World) :
    (Instr.index 55 (.agg #[.int .i64 z0, .int .i64 z1, .int .i64 z2]) (.int .i64 0)).run Tryz.prog X = .ok (.int .i64 z0) X ∧
    (Instr.index 55 (.agg #[.int .i64 z0, .int .i64 z1, .int .i64 z2]) (.int .i64 1)).run Tryz.prog X = .ok (.int .i64 z1) X ∧
    (Instr.index 55 (.agg #[.int .i64 z0, .int .i64 z1, .int .i64 z2]) (.int .i64 2)).run Tryz.prog X = .ok (.int .i64 z2) X := ⟨by kernel_rfl, by kernel_rfl, by kernel_rfl⟩
/-- An empty row of the call's own. -/
theorem own_empty (w : World) (B : Nat) (hB : B ≤ w.heap.size) : (w.alloc (.cells #[] 40)).ownsRow B 40 1 (.slice (some ⟨w.heap.size, 0, none⟩) 0 0) 0 [] :=
  ⟨rfl, .inr ⟨w.heap.size, 0, #[], rfl, hB, Blk.new _ _ _, Nat.le_refl _, by unfold maxLen; omega, rfl, rfl⟩⟩
theorem qv_cells {w : World} {p : Addr} {n c : Nat} {ts : List (List UInt8)} (h : Qs w (.slice (some p) n c) ts) : ∀ j u, (ts.map qv)[j]? = some u → w.cell? (p.add j) = some u := by
  intro j u hj
  obtain ⟨a', c', e, h1, h2, h3, h4⟩ := h
  injection e with e1 e2 e3
  rw [List.getElem?_map] at hj
  cases hx : ts[j]? with
  | none => rw [hx] at hj; cases hj
  | some x =>
    rw [hx] at hj
    have hlt := (List.getElem?_eq_some_iff.1 hx).1
    have hc := h4 p e1.symm j hlt
    rw [hc, List.getD_eq_getElem?_getD, hx]
    exact hj
theorem qv_one (ts : List (List UInt8)) : ∀ u ∈ ts.map qv, u.oneCell' = true := by
  intro u hu
  obtain ⟨x, -, rfl⟩ := List.mem_map.1 hu
  rfl
/-- A text of a row is replaced. -/
theorem row_set {w : World} {B g n c i : Nat} {ts : List (List UInt8)} (h : QRow w B (.slice (some ⟨g, 0, none⟩) n c) ts) (hn : ts.length = n) (hi : i < n) (t : List UInt8) :
    (∃ u, w.cell? ⟨g, i, none⟩ = some u) ∧ w.frozen? ⟨g, i, none⟩ = false ∧ B ≤ g ∧ Qs (w.setCell ⟨g, i, none⟩ (.string ⟨t.toArray⟩)) (.slice (some ⟨g, 0, none⟩) n c) (ts.set i t) := by
  obtain ⟨hl, h⟩ := h
  rcases h with ⟨e, _⟩ | ⟨g', cap, cur, e, hB, hg, hnc, hm, hc, ht⟩
  · cases e
  · cases e
    have hb : Blk w g 40 cur := hg
    have hcs : i < cur.size := by rw [hc]; omega
    refine ⟨⟨cur[i], by rw [hb.cell i, Array.getElem?_eq_getElem hcs]⟩, hb.frozen i, hB, ?_⟩
    have hb2 := hb.set_ i (.string ⟨t.toArray⟩)
    have hlen : (ts.set i t).length = ts.length := List.length_set ..
    have hq := Qs.blk (c := c) (ts.set i t) hb2 (by rw [hlen]; omega) hm (fun j hj => by
      rw [hlen] at hj
      rw [Array.getElem?_setIfInBounds]
      by_cases hij : i = j
      · subst hij
        rw [if_pos rfl, if_pos hcs, List.getD_eq_getElem?_getD, List.getElem?_set_self (by omega)]; rfl
      · rw [if_neg hij, List.getD_eq_getElem?_getD, List.getElem?_set_ne hij]
        have h1 : (cur.toList.take (ts.length * 1))[j]? = some (.string ⟨(ts.getD j []).toArray⟩) := by
          rw [ht, List.getElem?_map, List.getElem?_eq_getElem (by omega), List.getD_eq_getElem?_getD, List.getElem?_eq_getElem (by omega)]; rfl
        rw [List.getElem?_take, if_pos (by omega)] at h1
        rw [← List.getD_eq_getElem?_getD]
        simpa using h1)
    rwa [hlen] at hq

set_option maxHeartbeats 16000000 in
set_option maxRecDepth 100000 in
theorem makes_any {W : World} {s vt : Value} {vr kd m : Nat} {zs : List Nat} {ts : List (List UInt8)} (x : Int) (q : ByteArray) (h1 : Dft W (.agg #[.int .u8 (vr : Int), .int .u8 (kd : Int), s]) vr kd zs) (ht : Qs W vt ts) (hm : m < 256) (hg : Good W) :
    Calls Tryz.prog 7 #[.agg #[.int .u8 (vr : Int), .int .u8 (kd : Int), s], .int .i64 x, vt, .int .u8 (m : Int), .string q] W (RetV W (.bool true)) := by
  obtain ⟨i0, hi0, hz0, hz1, hz2⟩ := info_parts infoQ
  obtain ⟨x1, e1, u1⟩ := id h1.is
  obtain rfl : s = x1 := by injection e1 with e; exact Option.some.inj (congrArg (fun x : Array Value => x[2]?) e)
  obtain ⟨ao, cap0, f1, -⟩ := u1.open_
  subst f1
  obtain ⟨at0, ct, rfl⟩ := ht.form
  have hn6 := cntN_le vr
  obtain ⟨n, hn⟩ : ∃ n, n = cntN vr := ⟨_, rfl⟩
  rw [← hn] at hn6
  have hS := tabD_tbl (kd := kd) (zs := zs) hn6
  obtain ⟨S, hSe⟩ : ∃ S, S = tabD kd zs n := ⟨_, rfl⟩
  have hSo : OkT S := ⟨by rw [hSe]; exact hS.few, fun y hy => by rw [hSe] at hy; have := (tabD_ok y hy).2; omega⟩
  rw [← hSe] at hS
  obtain ⟨P, hP⟩ : ∃ P, P = S.length := ⟨_, rfl⟩
  have hP0 : 0 < P := by rw [hP, hS.len]; exact Nat.pow_pos (by omega)
  have hP64 : P ≤ 64 := by rw [hP, hS.len]; exact pow6 hn6
  obtain ⟨idx, hidx⟩ : ∃ i, i = m % P := ⟨_, rfl⟩
  have hiP : idx < P := by rw [hidx]; exact Nat.mod_lt _ hP0
  obtain ⟨t60, ht60⟩ : ∃ t, t = q.data.toList.take 60 := ⟨_, rfl⟩
  obtain ⟨k, hk⟩ : ∃ k, k = min q.size 60 := ⟨_, rfl⟩
  have HX := Lib.hid (show q.extract 0 k = ⟨t60.toArray⟩ from by rw [hk, ht60]; exact cut60 q)
  have HKI := Lib.hid (And.intro (show min (q.size : Int) 60 = (k : Int) by omega) (show (k : Int) ≤ (q.size : Int) by omega))
  have HMD := Lib.hid (show (m : Int).tmod (P : Int) = (idx : Int) from by rw [hidx]; exact tmod_nat m P)
  have HWM := Lib.hid (wrap64_small m (by omega))
  have HP := Lib.hid (And.intro hP0 (And.intro hP64 hiP))
  obtain ⟨SB, hSB⟩ : ∃ S', S' = S.set idx t60 := ⟨_, rfl⟩
  have hSBo : OkT SB := ⟨by rw [hSB, List.length_set]; exact hSo.1, fun y hy => by
    rw [hSB] at hy
    rcases List.mem_or_eq_of_mem_set hy with h | h
    · exact hSo.2 y h
    · rw [h, ht60, List.length_take]; omega⟩
  have HSBe := Lib.hid (And.intro hSB (show SB.length = P by rw [hSB, List.length_set, hP]))
  obtain ⟨T3, hT3⟩ : ∃ T, T = shT ts := ⟨_, rfl⟩
  have hT3o : OkT T3 := ⟨by rw [hT3]; unfold shT; rw [shL_len]; omega, fun y hy => by rw [hT3] at hy; exact shL_short _ _ y hy⟩
  have HSo := Lib.hid hSo
  have HBo := Lib.hid hSBo
  have HTo := Lib.hid hT3o
  have HPL := Lib.hid hP
  have HN6 := Lib.hid hn6
  have HCN := Lib.hid (fun (V : World) (hV : Below W.heap.size W V) => show Calls Tryz.prog 21 #[.agg #[.int .u8 (vr : Int), .int .u8 (kd : Int), .slice ao zs.length cap0]] V (RetV V (.int .i64 (n : Int))) from by rw [hn]; exact count_any (h1.below hV))
  have HTB := Lib.hid (fun (V : World) (hV : Below W.heap.size W V) => show Calls Tryz.prog 11 #[.agg #[.int .u8 (vr : Int), .int .u8 (kd : Int), .slice ao zs.length cap0], .int .i64 (n : Int)] V (RetQs V S) from by
    rw [hSe]; exact draft_table (h1.below hV) hn6)
  have HSH := Lib.hid (fun (V : World) (hV : Below W.heap.size W V) => show Calls Tryz.prog 22 #[.slice at0 ts.length ct, .int .i64 70] V (RetQs V T3) from by
    rw [hT3]; exact lshort_any (ht.below hV))
  have HGD := Lib.hid (fun (V : World) (hV : Below W.heap.size W V) => hg.below hV)
  obtain ⟨W1, hW1, hB1, hs1, j1⟩ := entA W 24 #[.int .u8 (vr : Int), .int .u8 (kd : Int), .slice ao zs.length cap0]
  have K := Lib.hid hB1
  have HW1 := Lib.hid hW1
  have JD := Lib.hid j1
  generalize zs.length = zl at *
  generalize ts.length = tl at *
  clear h1 e1 u1 hg hB1 hW1 hs1 j1 hn hn6 hm hS hSe hSo hP hP0 hP64 hidx hiP ht60 hk hSB hSBo hT3 hT3o ht
  go_enter Tryz.func7, Tryz.ntmps7
  go_upto_region 1 with fail
  rw [← HW1.out]
  clear HW1
  generalize W.heap.size = gb at JD
  go_wp2_with fail
  refine (wakes_any (HGD.out _ K.out)).mono ?_
  rintro e w0 ⟨rfl, hb⟩
  replace K := Lib.hid (next_below K.out hb)
  replace JD := Lib.hid (JD.out.next hb)
  clear hb
  have y0 : w0.cell? ⟨gb, 0, none⟩ = some (.int .u8 (vr : Int)) := JD.out.cell 0
  have y1 : w0.cell? ⟨gb, 1, none⟩ = some (.int .u8 (kd : Int)) := JD.out.cell 1
  have y2 : w0.cell? ⟨gb, 2, none⟩ = some (.slice ao zl cap0) := JD.out.cell 2
  have HC := Lib.hid (HCN.out _ K.out)
  go_wp2_with fail
  refine (HC.out).mono ?_
  rintro e w1 ⟨rfl, hb⟩
  replace K := Lib.hid (next_below K.out hb)
  replace JD := Lib.hid (JD.out.next hb)
  clear hb y0 y1 y2 HC
  have y0 : w1.cell? ⟨gb, 0, none⟩ = some (.int .u8 (vr : Int)) := JD.out.cell 0
  have y1 : w1.cell? ⟨gb, 1, none⟩ = some (.int .u8 (kd : Int)) := JD.out.cell 1
  have y2 : w1.cell? ⟨gb, 2, none⟩ = some (.slice ao zl cap0) := JD.out.cell 2
  have HC := Lib.hid (HTB.out _ K.out)
  go_wp2_with fail
  refine (HC.out).mono ?_
  rintro e w2 ⟨u, rfl, hu, hb⟩
  replace K := Lib.hid (next_below K.out hb)
  clear hb y0 y1 y2 JD HC HCN HTB
  obtain ⟨ag, cg, rfl⟩ := hu.form
  rw [← HPL.out] at hu ⊢
  obtain ⟨p, rfl, -, -⟩ := hu.cell (show 0 < P from HP.out.1)
  have QS := Lib.hid hu
  have hnw : ((S.map qv).length = P * 1) := by rw [List.length_map, ← HPL.out, Nat.mul_one]
  have hcell : ∀ j u, (S.map qv)[j]? = some u → (w2.alloc (.cells #[] 40)).cell? (p.add j) = some u := fun j u hj => by
    have h := qv_cells hu j u hj
    have hb : Below w2.heap.size w2 (w2.alloc (.cells #[] 40)) := (Below.refl _ _).alloc (Nat.le_refl _) _
    exact (hb.cell (p := p.add j) (World.block_lt_of_cell? w2 (p.add j) h)).trans h
  have hone := qv_one S
  have hown0 := own_empty w2 w2.heap.size (Nat.le_refl _)
  have HPB := Lib.hid HP.out
  obtain ⟨hp0, hp64, -⟩ := HP.out
  clear hu
  go_upto_region 6 with (at_builtin; refine wpList_append_lies _ rfl (.tmp 29) (.tmp 30) 27 rfl w2.heap.size 40 i0 (.string ⟨#[]⟩) 1 16 Tryz.underlying27 hi0 hz0 hz1 hz2 rfl (by decide) (.slice (some ⟨w2.heap.size, 0, none⟩) 0 0) 0 [] rfl hown0 p P cg (S.map qv) rfl hnw hcell hone (by omega) (by unfold maxLen; omega) (by omega) (by simp) _ rfl ?_; intro g cap w3 hown1 hgrow1 hat1 hlt1)
  have hK3 : Below w2.heap.size w2 w3 := ((Below.refl _ _).alloc (Nat.le_refl _) _).trans (Chg.under hgrow1 (by simp) (fun k hk => by have := own_slice hk; omega))
  have hRow : QRow w3 w2.heap.size (.slice (some ⟨g, 0, none⟩) P cap) S := by
    unfold QRow
    rw [← HPL.out]
    simpa using hown1
  clear hnw hcell hone hown0 hown1 hgrow1 hat1 hlt1 hp0 hp64
  have K3 := Lib.hid hK3
  have HR3 := Lib.hid hRow
  clear hK3 hRow
  obtain ⟨hki, hkq⟩ := HKI.out
  have hmd := HMD.out
  have hwm := HWM.out
  have hpz : ¬ (P : Int) = 0 := by have := HP.out.1; omega
  have hp0 : (0 : Int) < (P : Int) := by have := HP.out.1; omega
  have hBd : Below w3.heap.size w3 w3.drew := (Below.refl _ _).drew
  refine wp_region_list 11 (by kernel_rfl) (by kernel_rfl) [] [fun xv _ => xv = .slice (some ⟨g, 0, none⟩) P cap, fun xv _ => xv = .int .u8 (m : Int), fun xv _ => xv = .int .i64 (m : Int), fun xv _ => xv = .slice (some ⟨g, 0, none⟩) P cap, fun xv _ => xv = .int .i64 (P : Int), fun xv _ => xv = .int .i64 (idx : Int), fun xv _ => xv = .string q, fun xv _ => xv = .string q, fun xv _ => xv = .int .i64 (q.size : Int), fun xv _ => xv = .int .i64 (k : Int), fun xv _ => xv = .string ⟨t60.toArray⟩] (by simp only [List.take_succ_cons, List.take_zero]; rfl) (by simp only [List.drop_succ_cons, List.drop_zero]; rfl) (fun vals => by simp only [fam, Act.put, List.setIfInBounds_toArray, List.set_cons_zero, List.set_cons_succ, if_true]; rfl) (by repeat' (first | exact Stab.eq _ _ | exact Stab.wh _ _ | exact Stab.nm _ _ | exact Stab.new _ _ | exact Stab.newn _ _ | exact Stab.tw _ _ _ | exact Stab.lm _ _ _ | exact Stab.onet _ _ _ | exact Stab.pl _ _ _ | exact Stab.dg _ _ _ | exact Stab.nds _ _ | exact Stab.qs _ _ | exact trivial | apply And.intro)) trivial ?_ ?_
  · refine ⟨?_, ?_, ?_, ?_, ?_, ?_, ?_, ?_, ?_, ?_, ?_, trivial⟩
    all_goals
      intro vals wy hB1 hp
      dsimp only
      (try simp [preOk, Region.binds, r_anygc, r_anytext] at hp)
      have hb := next_below hBd hB1
      (try simp only [hp])
      clear hB1
      go_wp2
      (first | exact ⟨rfl, _, rfl, rfl, Below.refl _ _, trivial⟩ | (refine ⟨rfl, _, ?_, rfl, Below.refl _ _, trivial⟩; simp only [Act.put, List.setIfInBounds_toArray, List.set_cons_zero, List.set_cons_succ, Nat.zero_add, Nat.reduceAdd, hp, hwm, hki, HX.out]))
  · rintro vals w4 hB1 ⟨p0, p1, p2, p3, p4, p5, p6, p7, p8, p9, p10, _⟩ hne
    have hb := next_below hBd hB1
    simp only [List.getD_cons_zero, List.getD_cons_succ, Nat.zero_add, Nat.reduceAdd] at p0 p5 p10
    have HR4 := Lib.hid (HR3.out.next hb)
    replace K3 := Lib.hid (K3.out.trans (hb.mono K3.out.size))
    rw [p0, p5, p10]
    clear hb hB1 hBd hne hki hkq hmd hwm hpz hp0 p0 p1 p2 p3 p4 p5 p6 p7 p8 p9 p10
    obtain ⟨⟨u0, hu0⟩, hf0, hgB, hq5⟩ := row_set HR4.out HPL.out.symm HPB.out.2.2 t60
    have hlti : (idx : Int) < (P : Int) := by have := HPB.out.2.2; omega
    have QB := Lib.hid hq5
    have K5 := Lib.hid (K3.out.setCell (p := ⟨g, idx, none⟩) hgB (.string ⟨t60.toArray⟩))
    clear hq5 hgB
    obtain ⟨w5, hw5⟩ : ∃ X, X = w4.setCell ⟨g, idx, none⟩ (.string ⟨t60.toArray⟩) := ⟨_, rfl⟩
    rw [← hw5] at QB K5
    have HW5 := Lib.hid hw5
    clear hw5
    go_upto_region 7 with fail
    rw [← HW5.out]
    clear HW5 hu0 hf0 hlti HR3 HR4 K3
    rw [← HSBe.out.1] at QB
    replace K := Lib.hid (next_below K.out K5.out)
    replace QS := Lib.hid (QS.out.below K5.out)
    have HC := Lib.hid (HSH.out _ K.out)
    go_wp2_with fail
    refine (HC.out).mono ?_
    rintro e w6 ⟨u3, rfl, hu3, hb⟩
    replace K := Lib.hid (next_below K.out hb)
    replace QS := Lib.hid (QS.out.below hb)
    replace QB := Lib.hid (QB.out.below hb)
    obtain ⟨a3, c3, rfl⟩ := hu3.form
    have QT := Lib.hid hu3
    clear hb hu3 HC HSH K5
    generalize T3.length = l3 at *
    have hn6 := HN6.out
    have K0 := Lib.hid (Below.refl w6.heap.size w6)
    go_upto_region 8 with fail
    go_loopw [49] (fun u49 wr => ∃ k : Nat, k ≤ 3 ∧ u49 = .int .i64 (k : Int) ∧ Hid (Below w6.heap.size w6 wr)) (fun u49 _ => 3 - (intOf u49).toNat)
    case atStart => exact ⟨0, by omega, rfl, K0⟩
    case round =>
      clear K0
      obtain ⟨k1, hk1, rfl, hB⟩ := hrel
      by_cases hlt : k1 < 3
      · have hltk : (k1 : Int) < 3 := by omega
        have HIX : ∃ (ga : Option Addr) (gn gc : Nat) (T : List (List UInt8)), (∀ X, (Instr.index 54 (.agg #[.slice (some p) P cg, .slice (some ⟨g, 0, none⟩) P cap, .slice a3 l3 c3]) (.int .i64 (k1 : Int))).run Tryz.prog X = .ok (.slice ga gn gc) X) ∧ Qs w6 (.slice ga gn gc) T ∧ OkT T := by
          obtain rfl | rfl | rfl : k1 = 0 ∨ k1 = 1 ∨ k1 = 2 := by omega
          · exact ⟨_, _, _, S, fun X => (ixT _ _ _ _ _ _ _ _ _ X).1, QS.out, HSo.out⟩
          · exact ⟨_, _, _, SB, fun X => (ixT _ _ _ _ _ _ _ _ _ X).2.1, QB.out, HBo.out⟩
          · exact ⟨_, _, _, T3, fun X => (ixT _ _ _ _ _ _ _ _ _ X).2.2, QT.out, HTo.out⟩
        obtain ⟨ga, gn, gc, T, hix, hqT, hoT⟩ := HIX
        have HQT := Lib.hid hqT
        have HOT := Lib.hid hoT
        clear hqT hoT
        go_upto_region 10 with fail
        clear hix
        go_upto_region 11 with fail
        have K1 := Lib.hid hB.out
        go_loopw [57] (fun u57 wr => ∃ k : Nat, k ≤ 3 ∧ u57 = .int .i64 (k : Int) ∧ Hid (Below w6.heap.size w6 wr)) (fun u57 _ => 3 - (intOf u57).toNat)
        case atStart => exact ⟨0, by omega, rfl, K1⟩
        case round =>
          clear K1 hB
          obtain ⟨k2, hk2, rfl, hB⟩ := hrel
          by_cases hlt2 : k2 < 3
          · have hltk2 : (k2 : Int) < 3 := by omega
            have HIY : ∃ z : Int, ∀ X, (Instr.index 55 (.agg #[.int .i64 (n : Int), .int .i64 x, .int .i64 ((n : Int) + 1)]) (.int .i64 (k2 : Int))).run Tryz.prog X = .ok (.int .i64 z) X := by
              obtain rfl | rfl | rfl : k2 = 0 ∨ k2 = 1 ∨ k2 = 2 := by omega
              · exact ⟨_, fun X => (ixI _ _ _ X).1⟩
              · exact ⟨_, fun X => (ixI _ _ _ X).2.1⟩
              · exact ⟨_, fun X => (ixI _ _ _ X).2.2⟩
            obtain ⟨z, hiy⟩ := HIY
            obtain ⟨⟨r1, rl, re⟩, hr⟩ : ∃ r, r = ofR z T := ⟨_, rfl⟩
            have HFW := Lib.hid (show rl.length ≤ 1000000 from by have := ofR_few z T; rw [← hr] at this; exact this)
            have HRR := Lib.hid hr.symm
            clear hr
            go_upto_region 13 with fail
            clear hiy
            have KW := Lib.hid (next_below K.out hB.out)
            have HC := Lib.hid (of_both HOT.out (HQT.out.below hB.out) z (HGD.out _ KW.out) HRR.out)
            go_wp2_with fail
            refine (HC.out).mono ?_
            rintro e v1 ⟨aa, ca, rfl, na, hb⟩
            have KQ := Lib.hid (next_below hB.out hb)
            replace KW := Lib.hid (next_below KW.out hb)
            have NA := Lib.hid na
            clear hb na HC
            obtain ⟨X1, hX, hBx, hs, j⟩ := entA v1 31 #[.int .i64 r1, .slice aa rl.length ca]
            replace KQ := Lib.hid (next_below KQ.out hBx)
            replace KW := Lib.hid (next_below KW.out hBx)
            replace NA := Lib.hid (NA.out.below hBx)
            have JA := Lib.hid j
            have HX1 := Lib.hid hX
            clear hX hBx hs j
            go_upto_region 14 with fail
            rw [← HX1.out]
            clear HX1
            generalize v1.heap.size = g1 at *
            have HC := Lib.hid (of_both2 HOT.out (HQT.out.below KQ.out) z (HGD.out _ KW.out) HRR.out)
            go_wp2_with fail
            refine (HC.out).mono ?_
            rintro e v2 ⟨ab, cb, rfl, nb, hb⟩
            replace KQ := Lib.hid (next_below KQ.out hb)
            replace NA := Lib.hid (NA.out.below hb)
            replace JA := Lib.hid (JA.out.next hb)
            have NB := Lib.hid nb
            clear hb nb HC
            obtain ⟨X2, hX, hBx, hs, j⟩ := entA v2 31 #[.int .i64 r1, .slice ab rl.length cb]
            replace KQ := Lib.hid (next_below KQ.out hBx)
            replace NA := Lib.hid (NA.out.below hBx)
            replace NB := Lib.hid (NB.out.below hBx)
            replace JA := Lib.hid (JA.out.next hBx)
            have JB := Lib.hid j
            have HX1 := Lib.hid hX
            clear hX hBx hs j
            go_upto_region 15 with fail
            rw [← HX1.out]
            clear HX1
            generalize v2.heap.size = g2 at *
            have x0 : X2.cell? ⟨g1, 0, none⟩ = some (.int .i64 r1) := JA.out.cell 0
            have x1 : X2.cell? ⟨g1, 1, none⟩ = some (.slice aa rl.length ca) := JA.out.cell 1
            have y0 : X2.cell? ⟨g2, 0, none⟩ = some (.int .i64 r1) := JB.out.cell 0
            have y1 : X2.cell? ⟨g2, 1, none⟩ = some (.slice ab rl.length cb) := JB.out.cell 1
            have hsm := rsame_any (W := X2) (v := .agg #[.int .i64 r1, .slice aa rl.length ca]) (v' := .agg #[.int .i64 r1, .slice ab rl.length cb]) ⟨_, rfl, NA.out⟩ ⟨_, rfl, NB.out⟩ HFW.out HFW.out
            rw [show decide (r1 = r1 ∧ rl = rl) = true from decide_eq_true ⟨rfl, rfl⟩] at hsm
            have HC := Lib.hid hsm
            clear hsm
            go_wp2_with fail
            refine (HC.out).mono ?_
            rintro e v3 ⟨rfl, hb⟩
            replace KQ := Lib.hid (next_below KQ.out hb)
            clear hb HC x0 x1 y0 y1
            go_wp2
            go_roundw
            case rel => exact ⟨k2 + 1, by omega, by go_num, KQ⟩
            case measure => simp [intOf]; omega
          · obtain rfl : k2 = 3 := by omega
            go_wp2
            go_roundw
            case rel => exact ⟨k1 + 1, by omega, by go_num, hB⟩
            case measure => simp [intOf]; omega
      · obtain rfl : k1 = 3 := by omega
        go_wp2
        go_ret
        exact ⟨rfl, next_below K.out hB.out⟩

theorem makes_at {W : World} {v vt : Value} (D : DraftAt W v) (x : Int) (ts : List (List UInt8)) (m : Nat) (q : ByteArray) (ht : QsIn W vt ts) (hm : m < 256) (hg : Good W) : Calls Tryz.prog 7 #[v, .int .i64 x, vt, .int .u8 (m : Int), .string q] W (RetV W (.bool true)) := by
  obtain ⟨s, vr, kd, zs, rfl, h1⟩ := D
  exact makes_any x q h1 ht.1 hm hg
end Go.Proofs.YtpmlmibceiolpaaGreatDoor
