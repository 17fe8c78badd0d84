/- Check, Eval, Table. -/
import Derived.Test.YtpmlmibceiolpaaGreatDoorGValid
import Derived.Test.YtpmlmibceiolpaaGreatDoorGQs
set_option linter.unusedSimpArgs false
set_option linter.unusedVariables false
namespace Go.Proofs.YtpmlmibceiolpaaGreatDoor
open Go.RowKit

/-- A diagram that functions take: its value lies in w; it is not great. -/
structure DgIn (w : World) (v : Value) (m : Int) (l : List Nd) : Prop where
  dg : Dg w v m l
  few : l.length ≤ 1000000
  short : ∀ n ∈ l, n.2.2.2.length ≤ 268435000
theorem DgIn.below {w w' : World} {v : Value} {m : Int} {l : List Nd} (h : DgIn w v m l) (hb : Below w.heap.size w w') : DgIn w' v m l := ⟨h.dg.below hb, h.few, h.short⟩

set_option maxHeartbeats 1000000 in
set_option maxRecDepth 100000 in
theorem dgcheck_any {W : World} {v : Value} {m : Int} {l : List Nd} (h : DgIn W v m l) (hg : Good W) :
    Calls Tryz.prog 14 #[v] W (RetV W (.int .i64 (if vldN m l then 0 else 260))) := by
  obtain ⟨a, c, rfl, hs⟩ := h.dg.parts
  obtain ⟨W1, hW1, hB1, hs1, j1⟩ := entA W 31 #[.int .i64 m, .slice a l.length c]
  have HV := Lib.hid (valid_any (h.dg.below hB1) h.few h.short (hg.below hB1))
  have HW1 := Lib.hid hW1
  have HB1 := Lib.hid hB1
  have d0 : W1.cell? ⟨W.heap.size, 0, none⟩ = some (.int .i64 m) := j1.cell 0
  have d1 : W1.cell? ⟨W.heap.size, 1, none⟩ = some (.slice a l.length c) := j1.cell 1
  obtain ⟨RES, hRES⟩ : ∃ R : Int, R = if vldN m l then 0 else 260 := ⟨_, rfl⟩
  rw [← hRES]
  have HR := Lib.hid hRES
  clear hW1 hB1 hs1 j1 hs h hg hRES
  generalize vldN m l = B at *
  generalize l.length = n at *
  go_enter Tryz.func14, Tryz.ntmps14
  go_upto_region 1 with fail
  rw [← HW1.out]
  go_wp2_with fail
  refine (HV.out).mono ?_
  rintro e w2 ⟨rfl, hb⟩
  have K := Lib.hid (HB1.out.trans (hb.mono HB1.out.size))
  clear hb HV d0 d1
  cases B with
  | true =>
    have hr := Lib.hid (show RES = 0 from HR.out)
    go_wp2
    go_ret
    rw [hr.out]
    exact ⟨rfl, K.out⟩
  | false =>
    have hr := Lib.hid (show RES = 260 from HR.out)
    go_wp2
    go_ret
    rw [hr.out]
    exact ⟨rfl, K.out⟩

/-- What Eval gives. -/
def evalR (m : Int) (l : List Nd) (x : Nat) : List UInt8 × Int := if vldN m l then (if x / 2 ^ m.toNat = 0 then (evD m.toNat l x, 0) else ([], 2)) else ([], 260)
theorem shr_u64 (x k : Nat) : (x : Int) / 2 ^ k = ((x / 2 ^ k : Nat) : Int) := by push_cast; rfl

set_option maxHeartbeats 1000000 in
set_option maxRecDepth 100000 in
theorem eval_any {W : World} {v : Value} {m : Int} {l : List Nd} {x : Nat} (h : DgIn W v m l) (hx : x < 18446744073709551616) (hg : Good W) :
    Calls Tryz.prog 24 #[v, .int .u64 (x : Int)] W (RetV W (.tuple #[.string ⟨(evalR m l x).1.toArray⟩, .int .i64 (evalR m l x).2])) := by
  obtain ⟨a, c, rfl, hs⟩ := h.dg.parts
  obtain ⟨W1, hW1, hB1, hs1, j1⟩ := entA W 31 #[.int .i64 m, .slice a l.length c]
  have HV := Lib.hid (valid_any (h.dg.below hB1) h.few h.short (hg.below hB1))
  have HW1 := Lib.hid hW1
  have HB1 := Lib.hid hB1
  have d0 : W1.cell? ⟨W.heap.size, 0, none⟩ = some (.int .i64 m) := j1.cell 0
  have d1 : W1.cell? ⟨W.heap.size, 1, none⟩ = some (.slice a l.length c) := j1.cell 1
  have J1 := Lib.hid j1
  have HD := Lib.hid (h.dg.below hB1)
  obtain ⟨RES, hRES⟩ : ∃ R, R = evalR m l x := ⟨_, rfl⟩
  rw [← hRES]
  have HR := Lib.hid hRES
  have HVP := Lib.hid (fun (h : vldN m l = true) => vldN_parts h)
  clear hW1 hB1 hs1 j1 hs h hg hRES
  obtain ⟨n, hn⟩ : ∃ n, n = l.length := ⟨_, rfl⟩
  rw [← hn] at HV HW1 d1 J1 HD
  rw [← hn]
  have HN := Lib.hid hn
  clear hn
  have HVB := Lib.hid (show vldN m l = vldN m l from rfl)
  generalize hVB : vldN m l = VB at HV
  have HVB := Lib.hid hVB
  clear hVB
  go_enter Tryz.func24, Tryz.ntmps24
  go_upto_region 1 with fail
  rw [← HW1.out]
  go_wp2_with fail
  refine (HV.out).mono ?_
  rintro e w2 ⟨rfl, hb⟩
  have hj2 := J1.out.next hb
  have e0 : w2.cell? ⟨W.heap.size, 0, none⟩ = some (.int .i64 m) := hj2.cell 0
  have e1 : w2.cell? ⟨W.heap.size, 1, none⟩ = some (.slice a n c) := hj2.cell 1
  have HD2 := Lib.hid (HD.out.below hb)
  have K := Lib.hid (HB1.out.trans (hb.mono HB1.out.size))
  clear hb HV d0 d1 hj2
  cases VB with
  | false =>
    have hr := Lib.hid (show RES = ([], 260) from by rw [HR.out]; unfold evalR; rw [HVB.out]; rfl)
    go_wp2
    go_ret2
    rw [hr.out]
    exact ⟨rfl, K.out⟩
  | true =>
    obtain ⟨k, rfl, hk6, h0, h1, hwf, -, -⟩ := HVP.out HVB.out
    have hr : RES = if x / 2 ^ k = 0 then (evD k l x, 0) else ([], 2) := by rw [HR.out]; unfold evalR; rw [HVB.out, if_pos rfl, Int.toNat_natCast]
    have hsh := shr_u64 x k
    have HWF := Lib.hid hwf
    have H0 := Lib.hid h0
    have H1 := Lib.hid (show l.length ≤ 100000 from by
      have := Nat.pow_le_pow_right (show 2 > 0 by omega) (show k + 1 ≤ 7 by omega); omega)
    have HP := Lib.hid (show (2 : Nat) ^ k ≤ 64 from Nat.le_trans (Nat.pow_le_pow_right (by omega) hk6) (by decide))
    clear h0 h1 hwf
    obtain ⟨Y, hY⟩ : ∃ Y, Y = x / 2 ^ k := ⟨_, rfl⟩
    rw [← hY] at hr hsh
    have HY := Lib.hid hY
    have HRR := Lib.hid hr
    clear hY hr
    by_cases hy : Y = 0
    · subst hy
      have hxl : x < 2 ^ k := by
        have h := HY.out
        have h2 := Nat.div_add_mod x (2 ^ k)
        have h3 := Nat.mod_lt x (show 2 ^ k > 0 from Nat.pow_pos (by omega))
        rw [← h] at h2; omega
      have HA := Lib.hid (at_any (W := w2) (v := .agg #[.int .i64 (k : Int), .slice a n c]) (x := x) HD2.out HWF.out H0.out H1.out hk6 (Nat.lt_of_lt_of_le hxl HP.out))
      have hx63 : x < 64 := Nat.lt_of_lt_of_le hxl HP.out
      have hr := Lib.hid (show RES = (evD k l x, 0) from by rw [HRR.out]; rfl)
      have hsh' : (x : Int) / 2 ^ k = 0 := hsh
      clear hsh hxl
      go_wp2_with fail
      refine (HA.out).mono ?_
      rintro e w3 ⟨rfl, hb⟩
      have K3 := Lib.hid (K.out.trans (hb.mono K.out.size))
      clear hb HA hsh' e0 e1
      go_wp2
      go_ret2
      rw [hr.out]
      exact ⟨rfl, K3.out⟩
    · have hr := Lib.hid (show RES = ([], 2) from by rw [HRR.out, if_neg hy])
      have hy2 : ¬ (Y : Int) = 0 := by omega
      go_wp2
      go_ret2
      rw [hr.out]
      exact ⟨rfl, K.out⟩

/-- A table that is filled up to x. -/
def rowX (P x : Nat) (f : Nat → List UInt8) : List Value := (List.range P).map fun j => qv (if j < x then f j else [])
theorem rowX_zero (P : Nat) (f : Nat → List UInt8) : rowX P 0 f = List.replicate P (qv []) := by
  unfold rowX
  rw [List.eq_replicate_iff]
  refine ⟨by simp, fun v hv => ?_⟩
  obtain ⟨j, _, rfl⟩ := List.mem_map.1 hv
  rw [if_neg (by omega)]
theorem rowX_set (P x : Nat) (f : Nat → List UInt8) (hx : x < P) : (rowX P x f).set x (qv (f x)) = rowX P (x + 1) f := by
  apply List.ext_getElem?
  intro i
  unfold rowX
  rw [List.getElem?_set]
  simp only [List.length_map, List.length_range]
  by_cases h : x = i
  · subst h
    rw [if_pos rfl, if_pos hx, List.getElem?_map, List.getElem?_range hx]
    simp
  · rw [if_neg h, List.getElem?_map, List.getElem?_map]
    by_cases hi : i < P
    · rw [List.getElem?_range hi]
      simp only [Option.map_some]
      by_cases h1 : i < x
      · rw [if_pos h1, if_pos (by omega)]
      · rw [if_neg h1, if_neg (by omega)]
    · rw [List.getElem?_eq_none (by simp; omega)]; rfl
/-- The table of a diagram. -/
def tabN (f : Nat → List UInt8) (m : Nat) : List (List UInt8) := (List.range (2 ^ m)).map f
theorem tabN_len (f : Nat → List UInt8) (m : Nat) : (tabN f m).length = 2 ^ m := by simp [tabN]
theorem tabN_at (f : Nat → List UInt8) {m y : Nat} (h : y < 2 ^ m) : (tabN f m).getD y [] = f y := by
  unfold tabN; rw [List.getD_eq_getElem?_getD, List.getElem?_map, List.getElem?_range h]; rfl
theorem rowX_full (m : Nat) (f : Nat → List UInt8) : rowX (2 ^ m) (2 ^ m) f = (tabN f m).map qv := by
  unfold rowX tabN
  rw [List.map_map]
  refine List.map_congr_left fun j hj => ?_
  rw [if_pos (List.mem_range.1 hj)]; rfl
theorem shl1 : ∀ k : Nat, k ≤ 6 → wrap64 ((2 : Int) ^ k) = ((2 ^ k : Nat) : Int) := by decide +kernel

set_option maxHeartbeats 1000000 in
set_option maxRecDepth 100000 in
theorem table_ok {W : World} {v : Value} {m : Int} {l : List Nd} (h : DgIn W v m l) (hv : vldN m l = true) (hg : Good W) :
    Calls Tryz.prog 37 #[v] W (fun e W' => ∃ s, e = .returned (.tuple #[s, .int .i64 0]) ∧ Qs W' s (tabN (evD m.toNat l) m.toNat) ∧ Below W.heap.size W W') := by
  obtain ⟨k, rfl, hk6, h0, h1, hwf, -, -⟩ := vldN_parts hv
  obtain ⟨i0, hi0, hz0, hz1, hz2⟩ := info_parts infoQ
  obtain ⟨a, c, rfl, hs⟩ := h.dg.parts
  obtain ⟨W1, hW1, hB1, hs1, j1⟩ := entA W 31 #[.int .i64 (k : Int), .slice a l.length c]
  have HV := Lib.hid (by have h := valid_any (h.dg.below hB1) h.few h.short (hg.below hB1); rw [hv] at h; exact h)
  have HW1 := Lib.hid hW1
  have HB1 := Lib.hid hB1
  have d0 : W1.cell? ⟨W.heap.size, 0, none⟩ = some (.int .i64 (k : Int)) := j1.cell 0
  have d1 : W1.cell? ⟨W.heap.size, 1, none⟩ = some (.slice a l.length c) := j1.cell 1
  have J1 := Lib.hid j1
  rw [Int.toNat_natCast]
  have HAT := Lib.hid (fun (V : World) (x : Nat) (hx : x < 64) (hV : Below W.heap.size W V) => at_any (W := V) (v := .agg #[.int .i64 (k : Int), .slice a l.length c]) (x := x) (h.dg.below hV) hwf h0 (by
    have := Nat.pow_le_pow_right (show 2 > 0 by omega) (show k + 1 ≤ 7 by omega); omega) hk6 hx)
  obtain ⟨P, hP⟩ : ∃ P, P = 2 ^ k := ⟨_, rfl⟩
  have HP64 := Lib.hid (show P ≤ 64 from by rw [hP]; exact Nat.le_trans (Nat.pow_le_pow_right (by omega) hk6) (by decide))
  have HSH := Lib.hid (show wrap64 ((2 : Int) ^ k) = (P : Int) from by rw [hP]; exact shl1 k hk6)
  have HFULL := Lib.hid (show rowX P P (evD k l) = (tabN (evD k l) k).map qv from by rw [hP]; exact rowX_full k _)
  have HTL := Lib.hid (show (tabN (evD k l) k).length = P from by rw [hP]; exact tabN_len _ _)
  have hP64 : P ≤ 64 := HP64.out
  have hP0 : 0 < P := by rw [hP]; exact Nat.pow_pos (by omega)
  clear hW1 hB1 hs1 j1 hs h hg hv h0 h1 hwf hP
  generalize tabN (evD k l) k = TB at *
  generalize evD k l = F at *
  generalize l.length = n at *
  go_enter Tryz.func37, Tryz.ntmps37
  go_upto_region 1 with fail
  rw [← HW1.out]
  go_wp2_with fail
  refine (HV.out).mono ?_
  rintro e w2 ⟨rfl, hb⟩
  have hj2 := J1.out.next hb
  have e0 : w2.cell? ⟨W.heap.size, 0, none⟩ = some (.int .i64 (k : Int)) := hj2.cell 0
  have e1 : w2.cell? ⟨W.heap.size, 1, none⟩ = some (.slice a n c) := hj2.cell 1
  have J2 := Lib.hid hj2
  have K2 := Lib.hid (HB1.out.trans (hb.mono HB1.out.size))
  clear hb HV d0 d1 hj2 J1
  have hsh := HSH.out
  go_wp2_with (at_make; refine wpList_make_full _ rfl (.tmp 11) (.tmp 11) 27 rfl W.heap.size 40 i0 (.string ⟨#[]⟩) 1 Tryz.underlying27 hi0 hz0 hz1 _ _ _ _ P rfl rfl (by first | rfl | exact hsh) (by first | rfl | exact hsh) (by rw [hz2]; omega) (by unfold maxLen; omega) K2.out.size ?_; intro w3 hown1 hgrow1)
  have R0 := Lib.hid (show w3.ownsRow W.heap.size 40 1 (.slice (some ⟨w2.heap.size, 0, none⟩) P P) P (rowX P 0 F) from by
    rw [rowX_zero]
    have e : (madeCells (Value.string { data := #[] }).cells (P * 1)).toList = List.replicate P (qv []) := by
      unfold madeCells
      rw [Array.toList_map, Array.toList_range, Nat.mul_one]
      rw [List.eq_replicate_iff]
      refine ⟨by simp, fun v hv => ?_⟩
      obtain ⟨j, _, rfl⟩ := List.mem_map.1 hv
      have hz : (Value.string { data := #[] }).cells = #[Value.string { data := #[] }] := rfl
      rw [hz]
      have hm : j % (#[Value.string { data := #[] }] : Array Value).size = 0 := Nat.mod_one j
      rw [hm]; rfl
    rw [← e]; exact hown1)
  have hb3 : Below w2.heap.size w2 w3 := (Below.refl _ _).grown hgrow1 (Nat.le_refl _) (fun g hg => by cases hg)
  have J3 := Lib.hid (J2.out.next hb3)
  have K3 := Lib.hid (K2.out.trans (hb3.mono K2.out.size))
  have HGR := Lib.hid (show W.heap.size < w2.heap.size from J2.out.lt)
  clear hown1 hgrow1 hb3 hsh e0 e1 J2 K2
  generalize w2.heap.size = gr at *
  generalize hgd : W.heap.size = gd at *
  have HGD := Lib.hid hgd
  clear hgd
  go_loopw [15] (fun u15 wr => ∃ x : Nat, x ≤ P ∧ u15 = .int .i64 (x : Int) ∧ Hid (wr.ownsRow gd 40 1 (.slice (some ⟨gr, 0, none⟩) P P) P (rowX P x F)) ∧ Hid (Blk wr gd 31 #[.int .i64 (k : Int), .slice a n c]) ∧ Hid (Below gd W wr)) (fun u15 _ => P - (intOf u15).toNat)
  case atStart => exact ⟨0, by omega, rfl, R0, J3, K3⟩
  case round =>
    clear R0 J3 K3
    obtain ⟨x, hx, rfl, hR, hJ, hB⟩ := hrel
    by_cases hlt : x < P
    · have hlti : (x : Int) < (P : Int) := by omega
      have HA := Lib.hid (HAT.out wr x (by omega) hB.out)
      have d0 : wr.cell? ⟨gd, 0, none⟩ = some (.int .i64 (k : Int)) := hJ.out.cell 0
      have d1 : wr.cell? ⟨gd, 1, none⟩ = some (.slice a n c) := hJ.out.cell 1
      have HST := Lib.hid (show (rowX P x F).set x (qv (F x)) = rowX P (x + 1) F from rowX_set P x F hlt)
      have HQV := Lib.hid (show qv (F x) = .string ⟨(F x).toArray⟩ from rfl)
      generalize F x = Fx at *
      go_wp2_with fail
      refine (HA.out).mono ?_
      rintro e w4 ⟨rfl, hb⟩
      have R4 := hR.out
      have R4 : w4.ownsRow gd 40 1 (.slice (some ⟨gr, 0, none⟩) P P) P (rowX P x F) := World.ownsRow.below2 R4 hb
      have hlen : (rowX P x F).length = P := by simp [rowX]
      have c0 : w4.cell? ⟨gr, x, none⟩ = some ((rowX P x F)[x]'(by omega)) := by
        rw [World.ownsRow.cellAt R4 x (by omega), List.getElem?_eq_getElem (by omega)]
      have f0 : w4.frozen? ⟨gr, x, none⟩ = false := World.ownsRow.frozenAt R4 x
      have RR := Lib.hid (show (w4.setCell ⟨gr, x, none⟩ (.string ⟨Fx.toArray⟩)).ownsRow gd 40 1 (.slice (some ⟨gr, 0, none⟩) P P) P (rowX P (x + 1) F) from by
        have h := (World.ownsRow.stored R4 x (qv Fx)).1
        rw [HST.out] at h
        exact h)
      have JJ := Lib.hid (show Blk (w4.setCell ⟨gr, x, none⟩ (.string ⟨Fx.toArray⟩)) gd 31 #[.int .i64 (k : Int), .slice a n c] from (hJ.out.next hb).away (by have := HGR.out; omega) _)
      have KK := Lib.hid (show Below gd W (w4.setCell ⟨gr, x, none⟩ (.string ⟨Fx.toArray⟩)) from (hB.out.trans (hb.mono (by rw [← HGD.out]; exact hB.out.size))).setCell (by have := HGR.out; simp; omega) _)
      generalize (rowX P x F)[x]'(by omega) = cv at c0
      clear R4 hlen hb d0 d1 HA
      go_wp2
      go_roundw
      case rel => exact ⟨x + 1, by omega, by go_num, RR, JJ, KK⟩
      case measure => simp [intOf]; omega
    · obtain rfl : x = P := by omega
      go_wp2
      go_ret2
      refine ⟨_, rfl, ?_, by rw [HGD.out]; exact hB.out⟩
      have hq : QRow wr gd (.slice (some ⟨gr, 0, none⟩) x x) TB := by
        unfold QRow
        rw [HTL.out, ← HFULL.out]
        exact hR.out
      exact hq.qs
end Go.Proofs.YtpmlmibceiolpaaGreatDoor

/- The diagram of a table. -/
set_option linter.unusedSimpArgs false
set_option linter.unusedVariables false
namespace Go.Proofs.YtpmlmibceiolpaaGreatDoor
open Go.RowKit

/-- A diagram and an error are handed back. -/
def RetDg (W : World) (r : Int × List Nd × Int) (e : Ending) (W' : World) : Prop :=
  ∃ a c, e = .returned (.tuple #[.agg #[.int .i64 r.1, .slice a r.2.1.length c], .int .i64 r.2.2]) ∧ Nds W' (.slice a r.2.1.length c) r.2.1 ∧ Below W.heap.size W W'
theorem Nds.nil (W : World) : Nds W (.slice none 0 0) [] := .inl ⟨rfl, _, _, rfl⟩

theorem Nds.away {w w' : World} {v : Value} {l : List Nd} (h : Nds w v l) {g : Nat} (hk : ∀ k, k ≠ g → w'.heap[k]? = w.heap[k]?) {a : Option Addr} {n c : Nat} (hg : w.cell? ⟨g, 1, none⟩ = some (.slice a n c)) : Nds w' v l := by
  rcases h with h | ⟨g', c', rfl, h1, h2, h3, h4⟩
  · exact .inl h
  · refine .inr ⟨g', c', rfl, h1, h2, h3, fun i hi => (h4 i hi).keep (hk g' ?_)⟩
    rintro rfl
    have h5 := (h4 0 h3).2.1
    rw [Nat.zero_mul, Nat.zero_add, hg] at h5
    cases h5
theorem Qs.cell {w : World} {a : Option Addr} {n c i : Nat} {ts : List (List UInt8)} (h : Qs w (.slice a n c) ts) (hi : i < n) : ∃ p, a = some p ∧ w.cell? (p.add i) = some (.string ⟨(ts.getD i []).toArray⟩) ∧ i < ts.length := by
  obtain ⟨a', c', e, h1, h2, h3, h4⟩ := h
  injection e with e1 e2 e3
  subst e1
  rcases h3 with h3 | ⟨p, hp⟩
  · subst h3; simp at e2; omega
  · exact ⟨p, hp, h4 p hp i (by omega), by omega⟩
theorem Qs.keep {w w' : World} {v : Value} {ts : List (List UInt8)} (h : Qs w v ts) (hb : ∀ k, k < w.heap.size → w'.heap[k]? = w.heap[k]?) : Qs w' v ts := by
  obtain ⟨a, c, e, h1, h2, h3, h4⟩ := h
  refine ⟨a, c, e, h1, h2, h3, fun p hp i hi => ?_⟩
  have hc := h4 p hp i hi
  rw [show w'.cell? (p.add i) = w.cell? (p.add i) from World.cell?_of_block (w := w) (hb _ (World.block_lt_of_cell? w (p.add i) hc))]
  exact hc

set_option maxHeartbeats 1000000 in
set_option maxRecDepth 100000 in
theorem of1_any {V : World} {gt x n c : Nat} {a : Option Addr} {t : List (List UInt8)} (hb : Blk V gt 27 #[.slice a n c]) (hs : Qs V (.slice a n c) t) (hx : x < n) :
    Calls Tryz.prog 36 #[.int .i64 (x : Int), .pointer (some ⟨gt, 0, none⟩)] V (RetV V (.string ⟨(t.getD x []).toArray⟩)) := by
  have c0 : V.cell? ⟨gt, 0, none⟩ = some (.slice a n c) := hb.cell 0
  obtain ⟨p, rfl, hc, -⟩ := hs.cell hx
  have hxi : (x : Int) < (n : Int) := by omega
  obtain ⟨S, hS⟩ : ∃ S, S = t.getD x [] := ⟨_, rfl⟩
  rw [← hS] at hc ⊢
  clear hb hs hS
  go_enter Tryz.func36, Tryz.ntmps36
  go_wp2
  go_ret
  exact ⟨rfl, Below.refl _ _⟩

/-- Are the arguments of Of right? -/
def argB (m : Int) (n : Nat) : Bool := decide (0 ≤ m ∧ m ≤ 6 ∧ n = 2 ^ m.toNat)
theorem shl1w : ∀ k : Nat, k ≤ 6 → IntKind.i64.wrap ((2 : Int) ^ k) = ((2 ^ k : Nat) : Int) := by decide +kernel

set_option maxHeartbeats 4000000 in
set_option maxRecDepth 100000 in
theorem dgof_any {W : World} {v : Value} {m : Int} {t : List (List UInt8)} (hv : Qs W v t) (hn6 : t.length ≤ 1000000) (hl : ∀ q ∈ t, q.length ≤ 268435000) (hg : Good W) :
    Calls Tryz.prog 12 #[.int .i64 m, v] W (RetDg W (ofR m t)) := by
  have hq := hv
  obtain ⟨a, c, rfl, -, -, -, -⟩ := hv
  obtain ⟨n, hn⟩ : ∃ n, n = t.length := ⟨_, rfl⟩
  rw [← hn] at hq hn6 ⊢
  obtain ⟨W1, hW1, hB1, hs1, j1, j2⟩ := entB W 27 31 #[.slice a n c] #[.int .i64 0, .slice none 0 0]
  obtain ⟨RES, hRES⟩ : ∃ R, R = ofR m t := ⟨_, rfl⟩
  rw [← hRES]
  have HR := Lib.hid (show RES = if 0 ≤ m ∧ m ≤ 6 ∧ n = 2 ^ m.toNat then (if t.all fun q => decide (rerr q = 0) then (m, madeN (fun y => t.getD y []) m.toNat, 0) else (0, [], 5)) else (0, [], 2) from by rw [hRES, hn]; rfl)
  have HW1 := Lib.hid hW1
  have HB1 := Lib.hid hB1
  have J1 := Lib.hid j1
  have J2 := Lib.hid j2
  have HQ := Lib.hid (fun (V : World) (hV : Below W.heap.size W V) => show Qs V (.slice a n c) t from hq.below hV)
  have HG := Lib.hid (fun (V : World) (hV : Below W.heap.size W V) => hg.below hV)
  have HL := Lib.hid hl
  have HN := Lib.hid hn
  have d0 : W1.cell? ⟨W.heap.size, 0, none⟩ = some (.slice a n c) := j1.cell 0
  clear hW1 hB1 hs1 j1 j2 hq hg hl hn hRES
  go_enter Tryz.func12, Tryz.ntmps12
  go_upto_region 1 with fail
  rw [← HW1.out]
  clear HW1
  go_cut [20] from 999 to 999 (fun c wx => c = .bool (!argB m n) ∧ ∃ V, V = wx ∧ Hid (Below W1.heap.size W1 V))
  case first =>
    by_cases h1 : m < 0
    · have HB := Lib.hid (show argB m n = false from by unfold argB; exact decide_eq_false (by omega))
      go_quiet (fail)
      go_wp2
      go_meet
      case rel => exact ⟨by rw [HB.out]; rfl, _, rfl, Lib.hid (below_drewN _ _)⟩
    · by_cases h2 : 6 < m
      · have HB := Lib.hid (show argB m n = false from by unfold argB; exact decide_eq_false (by omega))
        go_quiet (fail)
        go_wp2
        go_meet
        case rel => exact ⟨by rw [HB.out]; rfl, _, rfl, Lib.hid (below_drewN _ _)⟩
      · obtain ⟨k, rfl⟩ := Int.eq_ofNat_of_zero_le (show 0 ≤ m by omega)
        obtain ⟨P, hP⟩ : ∃ P, P = 2 ^ k := ⟨_, rfl⟩
        have HW := Lib.hid (show wrap64 ((2 : Int) ^ k) = (P : Int) from by rw [hP]; exact shl1 k (by omega))
        have HAB := Lib.hid (show argB k n = decide (n = P) from by
          unfold argB; rw [Int.toNat_natCast, ← hP]
          exact decide_eq_decide.2 ⟨fun h => h.2.2, fun h => ⟨by omega, by omega, h⟩⟩)
        clear hP
        go_quiet (fail)
        go_wp2
        go_meet
        case rel =>
          refine ⟨?_, _, rfl, Lib.hid (below_drewN _ _)⟩
          rw [HW.out, HAB.out]
          by_cases h : n = P
          · rw [decide_eq_true h, h]; simp
          · rw [decide_eq_false h]
            have h2 : ((n : Int) != (P : Int)) = true := bne_iff_ne.2 (by omega)
            rw [h2]; rfl
  case rest =>
    obtain ⟨rfl, wx, rfl, hk⟩ := hcut
    have HAB := Lib.hid (show argB m n = decide (0 ≤ m ∧ m ≤ 6 ∧ n = 2 ^ m.toNat) from rfl)
    have j2 := J2.out.next hk.out
    have j1 := J1.out.next hk.out
    have kk := HB1.out.trans (hk.out.mono HB1.out.size)
    clear hk d0 J1 J2 HB1
    generalize argB m n = AB at *
    cases AB with
    | false =>
      have hr := Lib.hid (show RES = (0, [], 2) from by rw [HR.out, if_neg (of_decide_eq_false HAB.out.symm)])
      clear j1
      have hj5 := j2.two (.int .i64 0) (.slice none 0 0)
      have D0 := Lib.hid (hj5.cell 0)
      have D1 := Lib.hid (hj5.cell 1)
      have KK := Lib.hid ((kk.setCell (p := ⟨W.heap.size + 1, 0, none⟩) (by simp) (.int .i64 0)).setCell (p := ⟨W.heap.size + 1, 1, none⟩) (by simp) (.slice none 0 0))
      obtain ⟨x0, x1⟩ : _ ∧ _ := ⟨j2.cell0, j2.cell1⟩
      have f0 := j2.frozen 0
      have f1 := j2.frozen 1
      clear hj5 kk j2
      go_wp2
      have d0 := D0.out
      have d1 := D1.out
      rw [hr.out]
      exact bodyPost_ret (v := .tuple #[.agg #[.int .i64 0, .slice none 0 0], .int .i64 2]) (by simp [results, Tryz.results12, go_sem, d0, d1]) rfl ⟨none, 0, rfl, Nds.nil _, KK.out⟩
    | true =>
      obtain ⟨s1, s2, s3⟩ := of_decide_eq_true HAB.out.symm
      have hr0 := Lib.hid (show RES = if t.all fun q => decide (rerr q = 0) then (m, madeN (fun y => t.getD y []) m.toNat, 0) else (0, [], 5) from by rw [HR.out, if_pos ⟨s1, s2, s3⟩])
      obtain ⟨k, rfl⟩ := Int.eq_ofNat_of_zero_le s1
      have hk6 : k ≤ 6 := by omega
      have HNP := Lib.hid (show n = 2 ^ k from s3)
      simp only [Bool.not_true]
      have J1 := Lib.hid j1
      have J2 := Lib.hid j2
      have KX := Lib.hid kk
      have d0 : wx.cell? ⟨W.heap.size, 0, none⟩ = some (.slice a n c) := j1.cell 0
      clear s1 s2 s3 HR HAB j1 j2 kk
      go_upto_region 4 with fail
      clear d0
      go_loopw [24] (fun u24 wr => ∃ i : Nat, i ≤ n ∧ u24 = .int .i64 (i : Int) ∧ Hid (∀ j, j < i → rerr (t.getD j []) = 0) ∧ Hid (Blk wr W.heap.size 27 #[.slice a n c]) ∧ Hid (Blk wr (W.heap.size + 1) 31 #[.int .i64 0, .slice none 0 0]) ∧ Hid (Below W.heap.size W wr)) (fun u24 _ => n - (intOf u24).toNat)
      case atStart => exact ⟨0, by omega, rfl, Lib.hid (fun j hj => absurd hj (by omega)), J1, J2, KX⟩
      case round =>
        clear J1 J2 KX
        obtain ⟨i, hi, rfl, hA, hJ1, hJ2, hB⟩ := hrel
        by_cases hlt : i < n
        · obtain ⟨p, rfl, hc, hil⟩ := (HQ.out wr hB.out).cell hlt
          have hlti : (i : Int) < (n : Int) := by omega
          obtain ⟨q, hq⟩ : ∃ q, q = t.getD i [] := ⟨_, rfl⟩
          have hmem : t.getD i [] ∈ t := by rw [List.getD_eq_getElem?_getD, List.getElem?_eq_getElem hil]; exact List.getElem_mem hil
          have HNU := Lib.hid (number_any (w := wr) q (by rw [hq]; exact HL.out _ hmem) (HG.out wr hB.out))
          have HMEM := Lib.hid (show q ∈ t from by rw [hq]; exact hmem)
          rw [← hq] at hc
          have HQE := Lib.hid hq
          clear hq hmem hil
          go_wp2_with fail
          refine (HNU.out).mono ?_
          rintro e w4 ⟨rfl, hb⟩
          have j1 := hJ1.out.next hb
          have j2 := hJ2.out.next hb
          have kk := hB.out.trans (hb.mono hB.out.size)
          clear hb hc HNU
          by_cases he : rerr q = 0
          · have hd : decide (rerr q = 0) = true := decide_eq_true he
            rw [hd]
            have HE := Lib.hid he
            have J1 := Lib.hid j1
            have J2 := Lib.hid j2
            have KK := Lib.hid kk
            clear hd he j1 j2 kk
            go_wp2
            go_roundw
            case rel => exact ⟨i + 1, by omega, by go_num, Lib.hid (fun j hj => by
              by_cases h : j < i
              · exact hA.out j h
              · obtain rfl : j = i := by omega
                rw [← HQE.out]; exact HE.out), J1, J2, KK⟩
            case measure => simp [intOf]; omega
          · have hd : decide (rerr q = 0) = false := decide_eq_false he
            rw [hd]
            have hr := Lib.hid (show RES = (0, [], 5) from by
              rw [hr0.out]
              have h1 : (t.all fun q => decide (rerr q = 0)) = false := by
                rw [List.all_eq_false]
                exact ⟨q, HMEM.out, by rw [hd]; decide⟩
              rw [h1]; rfl)
            clear hd he j1
            have hj5 := j2.two (.int .i64 0) (.slice none 0 0)
            have D0 := Lib.hid (hj5.cell 0)
            have D1 := Lib.hid (hj5.cell 1)
            have KK := Lib.hid ((kk.setCell (p := ⟨W.heap.size + 1, 0, none⟩) (by simp) (.int .i64 0)).setCell (p := ⟨W.heap.size + 1, 1, none⟩) (by simp) (.slice none 0 0))
            obtain ⟨x0, x1⟩ : _ ∧ _ := ⟨j2.cell0, j2.cell1⟩
            have f0 := j2.frozen 0
            have f1 := j2.frozen 1
            clear hj5 kk j2
            go_wp2
            have d0 := D0.out
            have d1 := D1.out
            rw [hr.out]
            exact bodyPost_ret (v := .tuple #[.agg #[.int .i64 0, .slice none 0 0], .int .i64 5]) (by simp [results, Tryz.results12, go_sem, d0, d1]) rfl ⟨none, 0, rfl, Nds.nil _, KK.out⟩
        · obtain rfl : i = n := by omega
          have hr := Lib.hid (show RES = ((k : Int), madeN (fun y => t.getD y []) k, 0) from by
            rw [hr0.out]
            have h1 : (t.all fun q => decide (rerr q = 0)) = true := by
              rw [List.all_eq_true]
              intro q hq
              obtain ⟨j, hj, rfl⟩ := List.mem_iff_getElem.1 hq
              have h2 := hA.out j (by rw [HN.out]; exact hj)
              rw [List.getD_eq_getElem?_getD, List.getElem?_eq_getElem hj] at h2
              exact decide_eq_true h2
            rw [h1, if_pos rfl, Int.toNat_natCast])
          have HNC := Lib.hid (show NumC (fun y => t.getD y []) k wr.heap.size none 36 #[.pointer (some ⟨W.heap.size, 0, none⟩)] (Like wr.heap.size wr) (fun _ _ => True) from
            NumC.quiet (fun V' x hx hs hl => of1_any (V := V') ((hl W.heap.size hJ1.out.lt).trans hJ1.out) ((HQ.out wr hB.out).keep hl) (by rw [HNP.out]; exact hx)) (enters_of Tryz.func36 (by kernel_rfl) rfl) (fun x hx => by
              have hxl : x < t.length := by rw [← HN.out, HNP.out]; exact hx
              have hm : t.getD x [] ∈ t := by rw [List.getD_eq_getElem?_getD, List.getElem?_eq_getElem hxl]; exact List.getElem_mem hxl
              exact Nat.le_trans (HL.out _ hm) (by unfold maxLen; omega)))
          have HMD := Lib.hid (made_any HNC.out hk6 (fun _ _ => rfl))
          generalize (fun y => t.getD y []) = F at *
          go_wp2_with fail
          refine (HMD.out).mono ?_
          rintro e w4 ⟨a5, c5, rfl, m1, -, -, m4⟩
          have j2 := hJ2.out.next m4.below
          have hj5 := j2.two (.int .i64 (k : Int)) (.slice a5 (madeN F k).length c5)
          have D0 := Lib.hid (hj5.cell 0)
          have D1 := Lib.hid (hj5.cell 1)
          have hn5 := m1.away (w' := (w4.setCell ⟨W.heap.size + 1, 0, none⟩ (.int .i64 (k : Int))).setCell ⟨W.heap.size + 1, 1, none⟩ (.slice a5 (madeN F k).length c5)) (fun j hj => by
            rw [Below.heap_setCell _ ⟨W.heap.size + 1, 1, none⟩ _ j hj, Below.heap_setCell _ ⟨W.heap.size + 1, 0, none⟩ _ j hj]) j2.cell1
          have N5 := Lib.hid hn5
          have KK := Lib.hid (((hB.out.trans (m4.below.mono hB.out.size)).setCell (p := ⟨W.heap.size + 1, 0, none⟩) (by simp) (.int .i64 (k : Int))).setCell (p := ⟨W.heap.size + 1, 1, none⟩) (by simp) (.slice a5 (madeN F k).length c5))
          obtain ⟨x0, x1⟩ : _ ∧ _ := ⟨j2.cell0, j2.cell1⟩
          have f0 := j2.frozen 0
          have f1 := j2.frozen 1
          clear hj5 j2 m1 m4 hn5 HMD
          go_wp2
          have d0 := D0.out
          have d1 := D1.out
          rw [hr.out]
          exact bodyPost_ret (v := .tuple #[.agg #[.int .i64 (k : Int), .slice a5 (madeN F k).length c5], .int .i64 0]) (by simp [results, Tryz.results12, go_sem, d0, d1]) rfl ⟨a5, c5, rfl, N5.out, KK.out⟩
end Go.Proofs.YtpmlmibceiolpaaGreatDoor
