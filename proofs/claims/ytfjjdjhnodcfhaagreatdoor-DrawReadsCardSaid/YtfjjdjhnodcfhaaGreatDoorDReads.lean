/- Check and Draw agree with the reference: DrawReads. -/
import Derived.Test.YtfjjdjhnodcfhaaGreatDoorDRefD
import Derived.Test.YtfjjdjhnodcfhaaGreatDoorDFew
import Derived.Test.YtfjjdjhnodcfhaaGreatDoorDOpen
import Derived.Test.YtfjjdjhnodcfhaaGreatDoorDDig
import Derived.Laws.OwnMore
set_option linter.unusedSimpArgs false
set_option linter.unusedVariables false
namespace Go.Proofs.YtfjjdjhnodcfhaaGreatDoor
open Go.RowKit
open Go.Lib (decDigits itoa nDigits)
open D4 (rt it Mid)

theorem ixl0 (A B : Value) (a b : Option Addr) (n c n' c' : Nat) (X : World) : (Instr.index 40 (.agg #[.slice a n c, .slice b n' c']) (.int .i64 0)).run Tryz.prog X = .ok (.slice a n c) X := by kernel_rfl
theorem ixl1 (A B : Value) (a b : Option Addr) (n c n' c' : Nat) (X : World) : (Instr.index 40 (.agg #[.slice a n c, .slice b n' c']) (.int .i64 1)).run Tryz.prog X = .ok (.slice b n' c') X := by kernel_rfl
theorem text_le10 {k : Nat} {x : Rat} (h : fitsD k x) : (ratText x).length ≤ k + k + 2 := by
  unfold ratText
  rw [List.length_append]
  have h1 := itoa_len x.num
  have h2 := h.1
  have h3 := h.2
  have h4 := Lib.decDigits_length x.den
  split
  · simp; omega
  · simp; omega
theorem wts_short2 (zs : List Nat) : ∀ l ∈ wts zs, l.length ≤ 39000 := by
  intro l hl
  by_cases h : (dsO zs).sum = 0
  · unfold wts at hl; rw [if_pos h] at hl; simp at hl; subst hl; show 1 ≤ 39000; omega
  · have hs := sum_le _ (dsO_lt zs)
    have hl2 := dsO_len zs
    unfold wts at hl
    rw [if_neg h] at hl
    obtain ⟨d, hd, rfl⟩ := List.mem_map.1 hl
    have h3 := div_fit h (mem_le_sum _ _ hd) (by omega)
    exact Nat.le_trans (text_le10 h3) (by omega)
theorem ixs0 (a b : ByteArray) (X : World) : (Instr.index 42 (.agg #[.string a, .string b]) (.int .i64 0)).run Tryz.prog X = .ok (.string a) X := by kernel_rfl
theorem ixs1 (a b : ByteArray) (X : World) : (Instr.index 42 (.agg #[.string a, .string b]) (.int .i64 1)).run Tryz.prog X = .ok (.string b) X := by kernel_rfl
theorem ext_min40 (l : List UInt8) (m : Nat) (h : m = min l.length 40) : (⟨l.toArray⟩ : ByteArray).extract 0 m = ⟨(l.take 40).toArray⟩ := by
  rw [h]; exact ext_take l 40

/-- The bits of the bools that are kept. -/
def madeL (bs : List Bool) : List UInt8 := (bs.take 40).map fun b => if b then 49 else 48
theorem madeL_len (bs : List Bool) : (madeL bs).length = min bs.length 40 := by simp [madeL]; omega
theorem bs_some {w : World} {a : Option Addr} {n c i : Nat} {bs : List Bool} (h : Bs w (.slice a n c) bs) (hi : i < n) : ∃ p, a = some p := by
  obtain ⟨a', c', e, h1, h2, h3, h4⟩ := h
  injection e with e1 e2 e3
  subst e1
  rcases h3 with h3 | ⟨p, hp⟩
  · subst h3; simp at e2; omega
  · exact ⟨p, hp⟩
theorem bs_cell {w w' : World} {p : Addr} {n c i : Nat} {bs : List Bool} (h : Bs w (.slice (some p) n c) bs) (hi : i < n) (hb : Below w.heap.size w w') : w'.cell? (p.add i) = some (.bool (bs.getD i false)) := by
  obtain ⟨a', c', e, h1, h2, h3, h4⟩ := h
  injection e with e1 e2 e3
  have hc := h4 p e1.symm i (by omega)
  exact (hb.cell (World.block_lt_of_cell? w (p.add i) hc)).trans hc
theorem madeL_snoc (bs : List Bool) {i : Nat} (hi : i < min bs.length 40) : (madeL bs).take (i + 1) = (madeL bs).take i ++ [if bs.getD i false then 49 else 48] := by
  rw [List.take_succ_eq_append_getElem (by rw [madeL_len]; exact hi)]
  congr 2
  simp only [madeL, List.getElem_map, List.getElem_take]
  rw [List.getD_eq_getElem?_getD, List.getElem?_eq_getElem (by omega)]; rfl
/-- The last byte of a row of the call's own is turned. -/
theorem BRow_turn {w : World} {B g c : Nat} {l : List UInt8} {j : Nat} (hj : l.length = j) (h : D4.BRow w B (.slice (some ⟨g, 0, none⟩) (j + 1) c) (l ++ [48])) : D4.BRow (w.setCell ⟨g, j, none⟩ (.int .u8 49)) B (.slice (some ⟨g, 0, none⟩) (j + 1) c) (l ++ [49]) := by
  subst hj
  unfold D4.BRow at h ⊢
  rw [List.length_append, List.map_append] at h ⊢
  have h2 := (World.ownsRow.stored h l.length (.int .u8 49)).1
  rw [List.set_append, if_neg (by simp)] at h2
  simpa using h2

theorem BRow_form {w : World} {B : Nat} {v : Value} {l : List UInt8} {n : Nat} (h : D4.BRow w B v l) (hn : l.length = n) (h0 : 0 < n) : ∃ g, ∃ c : Nat, v = .slice (some ⟨g, 0, none⟩) n c ∧ B ≤ g ∧ g < w.heap.size := by
  subst hn
  obtain ⟨hl, h⟩ := h
  rcases h with ⟨rfl, h1⟩ | ⟨g, cap, cur, rfl, hB, hg, hn, hm, hc, ht⟩
  · omega
  · exact ⟨g, cap, rfl, hB, (Array.getElem?_eq_some_iff.1 hg).1⟩
theorem BRow_last {w : World} {B g c : Nat} {l : List UInt8} {j : Nat} (hj : l.length = j) (h : D4.BRow w B (.slice (some ⟨g, 0, none⟩) (j + 1) c) (l ++ [48])) : w.cell? ⟨g, j, none⟩ = some (.int .u8 48) ∧ w.frozen? ⟨g, j, none⟩ = false := by
  subst hj
  unfold D4.BRow at h
  rw [List.length_append, List.map_append] at h
  refine ⟨?_, World.ownsRow.frozenAt h l.length⟩
  have := World.ownsRow.cellAt h l.length (by simp)
  simpa using this

theorem drawR_longer {xs : List Rat} {s : Nat → Bool} {M N i m : Nat} (hMN : M ≤ N) (h : drawR xs s M 0 = some (i, m)) : drawR xs s N 0 = some (i, m) := by
  obtain ⟨h1, h2, h3, h4⟩ := drawR_some M 0 h
  exact drawR_is N 0 h1 (by omega) h3 h4
theorem bitAt_take {l : List UInt8} {k j : Nat} (h : j < k) : bitAt (l.take k) j = bitAt l j := by
  unfold bitAt; rw [List.getD_eq_getElem?_getD, List.getD_eq_getElem?_getD, List.getElem?_take, if_pos h]
/-- What the law compares, of one list and one string. -/
theorem drw_bad {T : List (List UInt8)} {l : List UInt8} {e : Int} (he : e = if okW T then bitE l else 100) (h : e ≠ 0) : drw T l = (0, 0, e) := by
  unfold drw
  cases hok : okW T with
  | false => rw [hok] at he; rw [he]; rfl
  | true => rw [hok, if_pos rfl] at he; rw [if_pos rfl, if_neg (by rw [← he]; exact h), he]
theorem drw_good {T : List (List UInt8)} {l : List UInt8} (hok : okW T = true) (hb : bitE l = 0) :
    (∃ k m : Nat, drawR (T.map rval) (bitAt (l.take 40)) (l.take 40).length 0 = some (k, m) ∧ drw T l = ((k : Int), (m : Int), 0))
    ∨ (drawR (T.map rval) (bitAt (l.take 40)) (l.take 40).length 0 = none ∧ (l.length ≤ 40 → drw T l = (0, 0, 4))) := by
  have hc : drawR (T.map rval) (bitAt (l.take 40)) (l.take 40).length 0 = drawR (T.map rval) (bitAt l) (l.take 40).length 0 :=
    drawR_congr _ 0 (fun j hj => bitAt_take (by rw [List.length_take] at hj; omega))
  rw [hc]
  cases hd : drawR (T.map rval) (bitAt l) (l.take 40).length 0 with
  | none =>
    refine .inr ⟨rfl, fun h => ?_⟩
    rw [List.take_of_length_le h] at hd
    unfold drw
    rw [if_pos hok, if_pos hb, hd]
  | some km =>
    obtain ⟨k, m⟩ := km
    refine .inl ⟨k, m, rfl, ?_⟩
    unfold drw
    rw [if_pos hok, if_pos hb, drawR_longer (by rw [List.length_take]; omega) hd]

set_option maxHeartbeats 16000000 in
set_option maxRecDepth 100000 in
theorem drawReads_any {w : World} {v vd vb : Value} (ts : List (List UInt8)) (S : ByteArray) (zs : List Nat) (bs : List Bool) (hts : ∀ l ∈ ts, l.length ≤ maxLen) (hv : Qs w v ts) (hz : ∀ z ∈ zs, z < 256) (hd : U8s w vd zs) (hb : Bs w vb bs) (hg : Good w) :
    Calls Tryz.prog 4 #[v, .string S, vd, vb] w (RetV w (.bool true)) := by
  obtain ⟨i0, hi0, hz0, hz1, hz2⟩ := info_parts D4.info8
  have HG := Lib.hid (fun (V : World) (hV : Below w.heap.size w V) => hg.below hV)
  have HWK := Lib.hid (works_any hg)
  have HFW := Lib.hid (fun (V : World) (hV : Below w.heap.size w V) => few_any (w := V) ts hts (hv.below hV) (hg.below hV))
  have HWT := Lib.hid (fun (V : World) (hV : Below w.heap.size w V) => weights_any (w := V) zs hz (hd.below hV) (hg.below hV))
  obtain ⟨ao, cap, rfl, -, -, -, -⟩ := hv
  obtain ⟨ad, cad, rfl, -, -, -⟩ := hd.open_
  have hbs := hb
  obtain ⟨ab, cb, rfl, hbc, hbm, hbo, -⟩ := hb
  obtain ⟨m, hm⟩ : ∃ m, m = min bs.length 40 := ⟨_, rfl⟩
  have hmi : min (bs.length : Int) 40 = (m : Int) := by omega
  have hmn : (m : Int) ≤ (bs.length : Int) := by omega
  have hm40 : m ≤ 40 := by omega
  have hml : (madeL bs).length = m := by rw [madeL_len, hm]
  have HSO := Lib.hid (show m = 0 ∨ ∃ p : Addr, ab = some p from by
    rcases hbo with h | h
    · left; rw [hm, h]; rfl
    · exact .inr h)
  have HBC := Lib.hid (fun (i : Nat) (hi : i < m) (p : Addr) (hp : ab = some p) (V : World) (hV : Below w.heap.size w V) => show V.cell? (p.add i) = some (.bool (bs.getD i false)) from by
    subst hp; exact bs_cell hbs (by omega) hV)
  have HSN := Lib.hid (fun (i : Nat) (hi : i < m) => madeL_snoc bs (i := i) (by omega))
  unfold maxLen at hbm
  clear hbs hbo hg hz hts hd hm
  generalize ts.length = tl at *
  generalize zs.length = zl at *
  generalize bs.length = bl at *
  go_enter Tryz.func4, Tryz.ntmps4
  go_upto_region 4 with (go_at_call 9; refine HWK.out.mono ?_; rintro e w1 ⟨rfl, hb1⟩)
  go_cut [31, 32, 33] from 999 to 999 (fun a b c wx => a = .slice ab m cb ∧ b = .int .i64 (m : Int) ∧ c = .int .i64 0 ∧ w1 = wx)
  case first =>
    cases ab with
    | none =>
      obtain rfl : m = 0 := by
        rcases HSO.out with h0 | ⟨p, hp⟩
        · exact h0
        · cases hp
      go_wp2
      go_meet
      case rel => exact ⟨rfl, rfl, rfl, rfl⟩
    | some p =>
      go_wp2
      go_meet
      case rel => exact ⟨rfl, rfl, rfl, rfl⟩
  case rest =>
    obtain ⟨rfl, rfl, rfl, rfl⟩ := hcut
    have K1 := Lib.hid hb1
    clear hb1
    go_upto_region 5 with fail
    go_loopw [9, 33] (fun u9 u33 wr => ∃ j : Nat, j ≤ m ∧ u33 = .int .i64 (j : Int) ∧ Hid (D4.BRow wr w.heap.size u9 ((madeL bs).take j)) ∧ Hid (Below w.heap.size w wr)) (fun _ u33 _ => m - (intOf u33).toNat)
    case atStart => exact ⟨0, by omega, rfl, Lib.hid (D4.BRow.nil _ _), K1⟩
    case round =>
      clear K1
      obtain ⟨j, hj, rfl, hR, hB⟩ := hrel
      by_cases hlt : j < m
      · obtain ⟨p, rfl⟩ : ∃ p, ab = some p := by
          rcases HSO.out with h0 | h0
          · omega
          · exact h0
        have hc := HBC.out j hlt p rfl wr hB.out
        have hs := HSN.out j hlt
        generalize bs.getD j false = b at hc hs
        have HS := Lib.hid hs
        clear hs
        obtain ⟨a, c, hv⟩ := hR.out.len
        have htl : ((madeL bs).take j).length = j := by rw [List.length_take]; omega
        rw [htl] at hv
        subst hv
        have HROW := Lib.hid (show wr.ownsRow w.heap.size 5 1 (.slice a j c) j (((madeL bs).take j).map fun (x : UInt8) => Value.int .u8 x.toNat) by have h := hR.out; unfold D4.BRow at h; rwa [htl] at h)
        have HTL := Lib.hid htl
        have hbs := hB.out.size
        have l1 : (j : Int) < (m : Int) := by omega
        clear htl
        go_upto_region 8 with (at_builtin; refine wpList_append_own _ rfl (.tmp 37) (.tmp 38) 35 rfl w.heap.size 5 i0 (.int .u8 0) 1 1 Tryz.underlying35 hi0 hz0 hz1 hz2 rfl (by decide) (.slice a j c) j _ rfl (HROW.out.alloc _) ⟨wr.heap.size, 0, none⟩ 1 1 [.int .u8 48] rfl rfl (D4.cell_new_u8 _ _ _) (by intro u hu; simp at hu; subst hu; rfl) (by unfold maxLen; omega) (by omega) (by simp; omega) ?_; intro v' w2 hown1 hgrow1 hnil1)
        have HW2 := Lib.hid (show D4.BRow w2 w.heap.size v' ((madeL bs).take j ++ [48]) from D4.BRow.snoc (by rw [HTL.out]; exact hown1) rfl)
        have HB2 := Lib.hid (show Below w.heap.size w w2 from (hB.out.alloc hbs _).grown hgrow1 (by simp; omega) (fun q hq => (World.ownsRow.lt HROW.out q hq).1))
        clear hown1 hgrow1 hnil1 hc
        obtain ⟨g, c', rfl, hgB, hgl⟩ := BRow_form (n := j + 1) HW2.out (by rw [List.length_append, HTL.out]; rfl) (by omega)
        cases b with
        | false =>
          go_wp2
          go_roundw
          case rel => exact ⟨j + 1, by omega, by go_num, Lib.hid (by rw [HS.out]; exact HW2.out), HB2⟩
          case measure => simp [intOf]; omega
        | true =>
          obtain ⟨x0, x1⟩ := BRow_last HTL.out HW2.out
          have R1 := Lib.hid (BRow_turn HTL.out HW2.out)
          have R2 := Lib.hid (HB2.out.setCell (p := ⟨g, j, none⟩) hgB (.int .u8 49))
          go_wp2
          go_roundw
          case rel => exact ⟨j + 1, by omega, by go_num, Lib.hid (by rw [HS.out]; exact R1.out), R2⟩
          case measure => simp [intOf]; omega
      · obtain rfl : j = m := by omega
        have htk : (madeL bs).take j = madeL bs := List.take_of_length_le (by omega)
        rw [htk] at hR
        obtain ⟨a9, c9, hv9⟩ := hR.out.len
        rw [hml] at hv9
        subst hv9
        have HCV := Lib.hid (fun (V : World) (hV : Below wr.heap.size wr V) => show (convert 35 9 (.slice a9 j c9)).run Tryz.prog V = .ok (.string ⟨(madeL bs).toArray⟩) V from by
          have h2 : D4.BRow V w.heap.size (.slice a9 j c9) (madeL bs) := by have h := hR.out; unfold D4.BRow at h ⊢; exact h.below2 hV
          by_cases hj0 : j = 0
          · subst hj0
            have hn : madeL bs = [] := List.length_eq_zero_iff.1 hml
            rw [hn] at h2 ⊢
            exact conv_nil h2
          · exact D4.BRow.text h2 (by intro e; rw [e] at hml; simp at hml; omega))
        obtain ⟨LB, hLB⟩ : ∃ l : List UInt8, l = S.data.toList.take 210 := ⟨_, rfl⟩
        obtain ⟨KB, hKB⟩ : ∃ k : Nat, k = min S.size 210 := ⟨_, rfl⟩
        have hkm : min (S.size : Int) 210 = (KB : Int) := by omega
        have hks : (KB : Int) ≤ (S.size : Int) := by omega
        have hex : S.extract 0 KB = ⟨LB.toArray⟩ := by
          have h := ext_take S.data.toList 210
          rw [hKB, hLB, ← h]; rfl
        have hLBl : LB.length ≤ 210 := by rw [hLB, List.length_take]; omega
        clear hLB hKB HSN HBC HSO htk hlt hmi hmn hj
        have F1 := Lib.hid (show (fewT ts).length ≤ 1000 ∧ ∀ l ∈ fewT ts, l.length ≤ 39000 from ⟨by have := fewT_len ts; omega, fun l hl => by have := fewT_short ts l hl; omega⟩)
        have F2 := Lib.hid (show (wts zs).length ≤ 1000 ∧ ∀ l ∈ wts zs, l.length ≤ 39000 from ⟨by have := wts_len zs; omega, fun l hl => wts_short2 zs l hl⟩)
        generalize fewT ts = T1 at *
        generalize wts zs = T2 at *
        go_upto_region 12 with fail
        have HML := Lib.hid (show (madeL bs).length ≤ 210 from by omega)
        generalize madeL bs = LM at *
        clear hex hkm hks hml
        go_wp2_with fail
        refine (HFW.out _ hB.out).mono ?_
        rintro e w2 ⟨v1, rfl, hq1, hb2⟩
        have K2 := Lib.hid (next_below hB.out hb2)
        have D2 := Lib.hid hb2
        clear hb2 HWK HFW
        go_wp2_with fail
        refine (HWT.out _ K2.out).mono ?_
        rintro e w3 ⟨v2, rfl, hq2, hb3⟩
        have K3 := Lib.hid (next_below K2.out hb3)
        have D3 := Lib.hid (next_below D2.out hb3)
        have Q1 := Lib.hid (hq1.below hb3)
        have Q2 := Lib.hid hq2
        obtain ⟨a1, c1, rfl, -, -, -, -⟩ := hq1
        obtain ⟨a2, c2, rfl, -, -, -, -⟩ := hq2
        clear hb3 HWT K2 D2 hR hB
        go_wp2_with fail
        go_loopw [57] (fun u57 wr => ∃ x : Nat, x ≤ 2 ∧ u57 = .int .i64 (x : Int) ∧ Hid (Below w3.heap.size w3 wr)) (fun u57 _ => 2 - (intOf u57).toNat)
        case atStart => exact ⟨0, by omega, rfl, Lib.hid (Below.refl _ _)⟩
        case round =>
          obtain ⟨x, hx2, rfl, hB⟩ := hrel
          by_cases hlt : x < 2
          · have hlti : (x : Int) < 2 := by omega
            obtain ⟨T, ax, cx, hix, FT, QT⟩ : ∃ (T : List (List UInt8)) (ax : Option Addr) (cx : Nat), (∀ X, (Instr.index 40 (.agg #[.slice a1 T1.length c1, .slice a2 T2.length c2]) (.int .i64 (x : Int))).run Tryz.prog X = .ok (.slice ax T.length cx) X) ∧ Hid (T.length ≤ 1000 ∧ ∀ l ∈ T, l.length ≤ 39000) ∧ Hid (Qs w3 (.slice ax T.length cx) T) := by
              rcases (show x = 0 ∨ x = 1 by omega) with rfl | rfl
              · exact ⟨T1, a1, c1, fun X => ixl0 (.bool true) (.bool true) _ _ _ _ _ _ X, F1, Q1⟩
              · exact ⟨T2, a2, c2, fun X => ixl1 (.bool true) (.bool true) _ _ _ _ _ _ X, F2, Q2⟩
            have HRT := Lib.hid (fun (V : World) (hV : Below w3.heap.size w3 V) => rright_any (w := V) T FT.out.1 FT.out.2 (QT.out.below hV) (HG.out _ (next_below K3.out hV)))
            have HCK := Lib.hid (fun (V : World) (hV : Below w3.heap.size w3 V) => dcheck_any (w := V) T FT.out.1 (fun l hl => by have := FT.out.2 l hl; omega) (QT.out.below hV) (HG.out _ (next_below K3.out hV)))
            have HDR := Lib.hid (fun (l : List UInt8) (hl : l.length ≤ 210) (V : World) (hV : Below w3.heap.size w3 V) => ddraw_any (w := V) T l (by omega) FT.out.1 (fun l hl => by have := FT.out.2 l hl; omega) (QT.out.below hV) (HG.out _ (next_below K3.out hV)))
            have HRD := Lib.hid (fun (hok : okW T = true) (l : List UInt8) (V : World) (hV : Below w3.heap.size w3 V) => rdraw_any (w := V) T (l.take 40) hok (by rw [List.length_take]; omega) (QT.out.below hV) (HG.out _ (next_below K3.out hV)))
            have HBAD := Lib.hid (fun (l : List UInt8) (e : Int) (he : e = if okW T then bitE l else 100) (h : e ≠ 0) => drw_bad he h)
            have HGOOD := Lib.hid (fun (l : List UInt8) (hok : okW T = true) (hb : bitE l = 0) => drw_good hok hb)
            have hN1 : T.length ≤ 1000 := FT.out.1
            clear FT QT
            generalize okW T = OK at *
            generalize T.length = N at *
            generalize hDW : drw T = DW at *
            generalize T.map rval = TR at *
            clear hDW
            go_upto_region 15 with fail
            clear hix
            go_wp2_with fail
            refine (HRT.out _ hB.out).mono ?_
            rintro e V1 ⟨rfl, kk⟩
            have K5 := Lib.hid (next_below hB.out kk)
            clear kk HRT
            go_wp2_with fail
            refine (HCK.out _ K5.out).mono ?_
            rintro e V2 ⟨rfl, kk⟩
            have K6 := Lib.hid (next_below K5.out kk)
            clear kk HCK K5 hB
            go_upto_region 17 with fail
            go_cut [75] from 999 to 999 (fun c wx => c = .bool false ∧ V2 = wx)
            case first =>
              cases OK
              · go_wp2
                go_meet
                case rel => exact ⟨rfl, rfl⟩
              · go_wp2
                go_meet
                case rel => exact ⟨rfl, rfl⟩
            case rest =>
              obtain ⟨rfl, rfl⟩ := hcut
              have hcv := HCV.out V2 (next_below D3.out K6.out)
              generalize (if OK = true then (0 : Int) else 100) = CE
              go_upto_region 20 with fail
              clear hcv
              go_loopw [80] (fun u80 wr => ∃ y : Nat, y ≤ 2 ∧ u80 = .int .i64 (y : Int) ∧ Hid (Below w3.heap.size w3 wr)) (fun u80 _ => 2 - (intOf u80).toNat)
              case atStart => exact ⟨0, by omega, rfl, K6⟩
              case round =>
                clear K6
                obtain ⟨y, hy2, rfl, hB⟩ := hrel
                by_cases hlt2 : y < 2
                · have hlti2 : (y : Int) < 2 := by omega
                  obtain ⟨l, hl210, his⟩ : ∃ l : List UInt8, Hid (l.length ≤ 210) ∧ ∀ X, (Instr.index 42 (.agg #[.string ⟨LB.toArray⟩, .string ⟨LM.toArray⟩]) (.int .i64 (y : Int))).run Tryz.prog X = .ok (.string ⟨l.toArray⟩) X := by
                    rcases (show y = 0 ∨ y = 1 by omega) with rfl | rfl
                    · exact ⟨LB, Lib.hid hLBl, fun X => ixs0 _ _ X⟩
                    · exact ⟨LM, HML, fun X => ixs1 _ _ X⟩
                  have HD := Lib.hid (HDR.out l hl210.out)
                  have HBI := Lib.hid (fun (V : World) => rbits_any (w := V) l (by have := hl210.out; omega))
                  have HR2 := Lib.hid (fun (h : OK = true) => HRD.out h l)
                  have HB1 := Lib.hid (HBAD.out l)
                  have HG1 := Lib.hid (HGOOD.out l)
                  obtain ⟨M4, hM4⟩ : ∃ m : Nat, m = min l.length 40 := ⟨_, rfl⟩
                  have hm4 : min (l.length : Int) 40 = (M4 : Int) := by omega
                  have hm5 : (M4 : Int) ≤ (l.length : Int) := by omega
                  have hex : (⟨l.toArray⟩ : ByteArray).extract 0 M4 = ⟨(l.take 40).toArray⟩ := ext_min40 l M4 hM4
                  have hsz : (⟨l.toArray⟩ : ByteArray).size = l.length := by rw [ba_size]
                  have hl2 : l.length ≤ 210 := hl210.out
                  clear hM4 hl210
                  generalize DW l = D at *
                  obtain ⟨I, M, E⟩ := D
                  simp only at HD HB1 HG1
                  generalize bitE l = BE at *
                  generalize drawR TR (bitAt (l.take 40)) (l.take 40).length 0 = DR at *
                  generalize (⟨(l.take 40).toArray⟩ : ByteArray) = S4 at *
                  generalize (⟨l.toArray⟩ : ByteArray) = SS at *
                  generalize l.length = L at *
                  go_upto_region 22 with fail
                  clear his
                  go_wp2_with fail
                  refine (HD.out _ hB.out).mono ?_
                  rintro e V3 ⟨rfl, kk⟩
                  have K7 := Lib.hid (next_below hB.out kk)
                  clear kk HD hB
                  go_wp2_with fail
                  refine (HBI.out _).mono ?_
                  rintro e V4 ⟨rfl, kk⟩
                  have K8 := Lib.hid (next_below K7.out kk)
                  clear kk HBI K7
                  go_upto_if 93 with fail
                  go_cut [21] from 999 to 999 (fun u wx => u = .int .i64 (if OK then BE else 100) ∧ V4 = wx)
                  case first =>
                    cases OK
                    · go_wp2
                      go_meet
                      case rel => exact ⟨rfl, rfl⟩
                    · go_wp2
                      go_meet
                      case rel => exact ⟨rfl, rfl⟩
                  case rest =>
                    obtain ⟨rfl, rfl⟩ := hcut
                    obtain ⟨NO, hNO⟩ : ∃ NO : Int, NO = if OK then BE else 100 := ⟨_, rfl⟩
                    simp only [← hNO]
                    have HNO := Lib.hid hNO
                    clear hNO
                    by_cases hno : NO = 0
                    · subst hno
                      have hok : OK = true := by
                        cases OK with
                        | true => rfl
                        | false => have h := HNO.out; rw [if_neg (by decide)] at h; omega
                      subst hok
                      have hbe : BE = 0 := by have h := HNO.out; rw [if_pos rfl] at h; exact h.symm
                      have HFG := Lib.hid (HG1.out rfl hbe)
                      have HR3 := Lib.hid (HR2.out rfl)
                      clear hbe HNO HG1 HB1 HR2
                      go_upto_region 29 with fail
                      go_cut [113] from 999 to 999 (fun c wx => ∃ C, c = .bool C ∧ V4 = wx)
                      case first =>
                        by_cases q : (40 : Int) < (L : Int)
                        · go_wp2
                          go_meet
                          case rel => exact ⟨_, rfl, rfl⟩
                        · go_wp2
                          go_meet
                          case rel => exact ⟨_, rfl, rfl⟩
                      case rest =>
                        obtain ⟨C, rfl, rfl⟩ := hcut
                        cases C
                        · rcases HFG.out with ⟨k, m, hdr, hdw⟩ | ⟨hdr, hdw⟩
                          · rw [hdr] at HR3
                            have HC := Lib.hid (fun (V : World) (hV : Below w3.heap.size w3 V) => show Calls Tryz.prog 22 #[.slice ax N cx, .string S4] V (RetV V (.tuple #[.int .i64 (k : Int), .int .i64 (m : Int), .bool true])) from HR3.out V hV)
                            obtain ⟨rfl, rfl, rfl⟩ : I = (k : Int) ∧ M = (m : Int) ∧ E = 0 := ⟨congrArg (fun x : Int × Int × Int => x.1) hdw, congrArg (fun x : Int × Int × Int => x.2.1) hdw, congrArg (fun x : Int × Int × Int => x.2.2) hdw⟩
                            clear hdr hdw HR3 HFG
                            go_wp2_with fail
                            refine (HC.out _ K8.out).mono ?_
                            rintro e V5 ⟨rfl, kk⟩
                            have K9 := Lib.hid (next_below K8.out kk)
                            clear kk HC K8
                            go_wp2
                            go_roundw
                            case rel => exact ⟨y + 1, by omega, by go_num, K9⟩
                            case measure => simp [intOf]; omega
                          · rw [hdr] at HR3
                            have HC := Lib.hid (fun (V : World) (hV : Below w3.heap.size w3 V) => show Calls Tryz.prog 22 #[.slice ax N cx, .string S4] V (RetV V (.tuple #[.int .i64 0, .int .i64 0, .bool false])) from HR3.out V hV)
                            have HDW := Lib.hid hdw
                            clear hdr hdw HR3 HFG
                            by_cases q : (L : Int) ≤ 40
                            · have hdw := HDW.out (by omega)
                              obtain ⟨rfl, rfl, rfl⟩ : I = 0 ∧ M = 0 ∧ E = 4 := ⟨congrArg (fun x : Int × Int × Int => x.1) hdw, congrArg (fun x : Int × Int × Int => x.2.1) hdw, congrArg (fun x : Int × Int × Int => x.2.2) hdw⟩
                              clear hdw HDW
                              go_wp2_with fail
                              refine (HC.out _ K8.out).mono ?_
                              rintro e V5 ⟨rfl, kk⟩
                              have K9 := Lib.hid (next_below K8.out kk)
                              clear kk HC K8
                              go_wp2
                              go_roundw
                              case rel => exact ⟨y + 1, by omega, by go_num, K9⟩
                              case measure => simp [intOf]; omega
                            · go_wp2_with fail
                              refine (HC.out _ K8.out).mono ?_
                              rintro e V5 ⟨rfl, kk⟩
                              have K9 := Lib.hid (next_below K8.out kk)
                              clear kk HC K8
                              go_wp2
                              go_roundw
                              case rel => exact ⟨y + 1, by omega, by go_num, K9⟩
                              case measure => simp [intOf]; omega
                        · go_wp2
                          go_roundw
                          case rel => exact ⟨y + 1, by omega, by go_num, K8⟩
                          case measure => simp [intOf]; omega
                    · have hdw := HB1.out NO HNO.out hno
                      obtain ⟨rfl, rfl, rfl⟩ : I = 0 ∧ M = 0 ∧ E = NO := ⟨congrArg (fun x : Int × Int × Int => x.1) hdw, congrArg (fun x : Int × Int × Int => x.2.1) hdw, congrArg (fun x : Int × Int × Int => x.2.2) hdw⟩
                      clear hdw HNO HG1 HB1 HR2
                      go_wp2
                      go_roundw
                      case rel => exact ⟨y + 1, by omega, by go_num, K8⟩
                      case measure => simp [intOf]; omega
                · obtain rfl : y = 2 := by omega
                  go_wp2
                  go_roundw
                  case rel => exact ⟨x + 1, by omega, by go_num, hB⟩
                  case measure => simp [intOf]; omega
          · obtain rfl : x = 2 := by omega
            go_wp2
            go_ret
            exact ⟨rfl, next_below K3.out hB.out⟩
theorem drawReads_at {w : World} {v vd vb : Value} (ts : List (List UInt8)) (S : ByteArray) (zs : List Nat) (bs : List Bool) (hq : QsIn w v ts) (hz : ∀ z ∈ zs, z < 256) (hd : U8s w vd zs) (hb : Bs w vb bs) (hg : Good w) :
    Calls Tryz.prog 4 #[v, .string S, vd, vb] w (RetV w (.bool true)) := drawReads_any ts S zs bs hq.2 hq.1 hz hd hb hg
end Go.Proofs.YtfjjdjhnodcfhaaGreatDoor
