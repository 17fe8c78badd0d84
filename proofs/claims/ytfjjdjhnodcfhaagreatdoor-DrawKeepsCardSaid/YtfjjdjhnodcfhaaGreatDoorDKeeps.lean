/- What follows does not matter: DrawKeeps. -/
import Derived.Test.YtfjjdjhnodcfhaaGreatDoorDDig
import Derived.Test.YtfjjdjhnodcfhaaGreatDoorDWorks
import Derived.Lib.OthersKept
set_option linter.unusedSimpArgs false
set_option linter.unusedVariables false
namespace Go.Proofs.YtfjjdjhnodcfhaaGreatDoor
open Go.RowKit
open Go.Lib (decDigits itoa nDigits)
open D4 (rt it Mid)

theorem qs_some {w : World} {a : Option Addr} {n c i : Nat} {ts : List (List UInt8)} (h : Qs w (.slice a n c) ts) (hi : i < n) : ∃ p, a = some p := by
  obtain ⟨a', c', e, h1, h2, h3, h4⟩ := h
  injection e with e1 e2 e3
  subst e1
  rcases h3 with h3 | ⟨p, hp⟩
  · subst h3; simp at e2; omega
  · exact ⟨p, hp⟩
theorem qs_cell {w : World} {p : Addr} {n c i : Nat} {ts : List (List UInt8)} (h : Qs w (.slice (some p) n c) ts) (hi : i < n) : w.cell? (p.add i) = some (.string ⟨(ts.getD i []).toArray⟩) := by
  obtain ⟨a', c', e, h1, h2, h3, h4⟩ := h
  injection e with e1 e2 e3
  exact h4 p e1.symm i (by omega)
theorem ext_take (l : List UInt8) (m : Nat) : (⟨l.toArray⟩ : ByteArray).extract 0 m = ⟨(l.take m).toArray⟩ := by
  have h := extract_list l 0 m
  simpa using h
theorem ba_app (a b : List UInt8) : (⟨a.toArray⟩ : ByteArray) ++ ⟨b.toArray⟩ = ⟨(a ++ b).toArray⟩ := by
  apply ByteArray.ext; simp [ByteArray.data_append]
/-- The numbers of drafted weights. -/
def wx (zs : List Nat) : List Rat := (wts zs).map rval
theorem wx_len (zs : List Nat) : (wx zs).length = (wts zs).length := by simp [wx]
theorem wx_ok (zs : List Nat) : Wok (wx zs) (wx zs).length ∧ cum (wx zs) (wx zs).length = 1 := ⟨(okW_parts (wts_ok zs)).2.2.1, (okW_parts (wts_ok zs)).2.2.2⟩
theorem bitE_all {l : List UInt8} (h : l.all isBit = true) (hl : l.length ≤ 200) : bitE l = 0 := by unfold bitE; rw [h, if_pos rfl, if_pos hl]
/-- Draw at bits. -/
theorem drw_bits (zs : List Nat) {l : List UInt8} (h : l.all isBit = true) (hl : l.length ≤ 200) : drw (wts zs) l = match drawR (wx zs) (bitAt l) l.length 0 with | some (i, m) => ((i : Int), (m : Int), 0) | none => (0, 0, 4) := by
  unfold drw
  rw [wts_ok, if_pos rfl, bitE_all h hl, if_pos rfl]; rfl
theorem all_take {l : List UInt8} (h : l.all isBit = true) (m : Nat) : (l.take m).all isBit = true := by
  rw [List.all_eq_true] at h ⊢
  exact fun c hc => h c (List.mem_of_mem_take hc)
theorem bit_take {l : List UInt8} {m j : Nat} (h : j < m) : bitAt (l.take m) j = bitAt l j := by
  unfold bitAt
  rw [List.getD_eq_getElem?_getD, List.getD_eq_getElem?_getD, List.getElem?_take, if_pos h]
theorem bit_app {l r : List UInt8} {j : Nat} (h : j < l.length) : bitAt (l ++ r) j = bitAt l j := by
  unfold bitAt
  rw [List.getD_eq_getElem?_getD, List.getD_eq_getElem?_getD, List.getElem?_append_left h]
/-- No beginning of what decides nothing decides. -/
theorem keep_none (zs : List Nat) {l : List UInt8} (h : l.all isBit = true) (hl : l.length ≤ 200) {m : Nat} (hm : m ≤ l.length) (hn : ∀ j, j ≤ m → decR (wx zs) (bitAt l) j = none) : drw (wts zs) (l.take m) = (0, 0, 4) := by
  have e : (l.take m).length = m := by rw [List.length_take]; omega
  rw [drw_bits zs (all_take h m) (by omega), e]
  rw [drawR_no m 0 (fun j _ hj => by
    rw [decR_congr (s' := bitAt l) (fun i hi => bit_take (by omega))]
    exact hn j (by omega))]
/-- What decides goes on deciding, whatever follows. -/
theorem keep_some (zs : List Nat) {l r : List UInt8} (h : l.all isBit = true) (hr : r.all isBit = true) {i m : Nat} (hm : m ≤ l.length) (hlen : m + r.length ≤ 200) (hd : decR (wx zs) (bitAt l) m = some i) (hn : ∀ j, j < m → decR (wx zs) (bitAt l) j = none) : drw (wts zs) (l.take m ++ r) = ((i : Int), (m : Int), 0) := by
  have e : (l.take m).length = m := by rw [List.length_take]; omega
  have hb : ∀ j, j < m → bitAt (l.take m ++ r) j = bitAt l j := fun j hj => by rw [bit_app (by omega), bit_take hj]
  rw [drw_bits zs (by rw [List.all_append, all_take h, hr]; rfl) (by rw [List.length_append, e]; exact hlen)]
  rw [drawR_is (i := i) (m := m) _ 0 (by omega) (by rw [List.length_append, e]; omega) (by
    rw [decR_congr (s' := bitAt l) (fun j hj => hb j hj)]; exact hd) (fun j _ hj => by
    rw [decR_congr (s' := bitAt l) (fun j' hj' => hb j' (by omega))]; exact hn j hj)]
theorem below_iterAt {B : Nat} {a w : World} (h : Below B a w) {k : Nat} (hk : B ≤ k) (s : ByteArray) (pos : Nat) : Below B a (w.iterAt k s pos) :=
  h.trans ⟨rfl, rfl, rfl, by simp [World.iterAt], fun j hj => by
    show (w.heap.setIfInBounds k _)[j]? = _
    rw [Array.getElem?_setIfInBounds]
    rw [if_neg (by omega)]⟩
theorem iterPos_of' {w : World} {k : Nat} {s : ByteArray} {p : Nat} (h : w.heap[k]? = some (.stringIter s p)) : w.iterPos k = p := by simp [World.iterPos, h]
theorem lt62 {x : Nat} (h : x < 65536) : x < 2 ^ 62 := Nat.lt_of_lt_of_le h (by decide)
theorem digL_get {n x j : Nat} (h : j < (⟨(digL n x).toArray⟩ : ByteArray).size) : ((⟨(digL n x).toArray⟩ : ByteArray)[j]'h).toNat < 128 := by
  have hl : j < (digL n x).length := by rw [ba_size] at h; exact h
  have e : (⟨(digL n x).toArray⟩ : ByteArray)[j]'h = (digL n x)[j] := rfl
  rw [e]
  have := List.all_eq_true.1 (digL_ok n x) _ (List.getElem_mem hl)
  generalize (digL n x)[j] = c at *
  unfold isBit at this
  simp at this
  rcases this with rfl | rfl <;> decide

set_option maxHeartbeats 16000000 in
set_option maxRecDepth 100000 in
theorem drawKeeps_any {w : World} {v : Value} (zs : List Nat) (x y : Nat) (hz : ∀ z ∈ zs, z < 256) (hv : U8s w v zs) (hx : x < 65536) (hy : y < 65536) (hg : Good w) : Calls Tryz.prog 6 #[v, .int .u16 x, .int .u16 y] w (RetV w (.bool true)) := by
  obtain ⟨k1, k2⟩ := wx_ok zs
  have hlen := wts_len zs
  have hsh := wts_short zs
  have HG := Lib.hid (fun (V : World) (hV : Below w.heap.size w V) => hg.below hV)
  have HWK := Lib.hid (works_any hg)
  have HWT := Lib.hid (fun (V : World) (hV : Below w.heap.size w V) => weights_any (w := V) zs hz (hv.below hV) (hg.below hV))
  obtain ⟨ao, cap, rfl, -, -, -⟩ := hv.open_
  clear hv hz hg
  have HD1 := Lib.hid (fun (V : World) => ldigits_any (w := V) x 16 (by omega) (lt62 hx))
  have HD2 := Lib.hid (fun (V : World) => ldigits_any (w := V) y 16 (by omega) (lt62 hy))
  have HDR := Lib.hid (fun (V : World) v (hq : Qs V v (wts zs)) (hV : Good V) => ddraw_any (w := V) (wts zs) (digL 16 x) (by rw [digL_len]; omega) (by omega) hsh hq hV)
  have hL := digL_len 16 x
  have hok := digL_ok 16 x
  have hS : (⟨(digL 16 x).toArray⟩ : ByteArray).size = 16 := by rw [ba_size, hL]
  have hdr := drw_bits zs (l := digL 16 x) hok (by omega)
  rw [hL] at hdr
  cases hdw : drawR (wx zs) (bitAt (digL 16 x)) 16 0 with
  | none =>
    rw [hdw] at hdr
    rw [hdr] at HDR
    have HFA := Lib.hid (fun (n : Nat) (hn : n < 16) (V : World) v (hq : Qs V v (wts zs)) (hV : Good V) => (by
      have h := fails_true (w := V) (u := 4) (wts zs) ((digL 16 x).take n) (keep_none zs hok (by omega) (by omega) (fun j hj => drawR_none 16 0 hdw j (by omega) (by omega))) (by rw [List.length_take]; omega) (by omega) hsh hq hV
      rw [← ext_take] at h; exact h : Calls Tryz.prog 15 #[v, .string ((⟨(digL 16 x).toArray⟩ : ByteArray).extract 0 n), .int .i64 4] V (RetV V (.bool true))))
    have HAS := Lib.hid (fun (n : Nat) (hn : n < (⟨(digL 16 x).toArray⟩ : ByteArray).size) => digL_get (n := 16) (x := x) hn)
    clear hdw hdr hL hok hlen hsh k1 k2
    generalize (⟨(digL 16 x).toArray⟩ : ByteArray) = S at *
    go_enter Tryz.func6, Tryz.ntmps6
    go_upto_region 3 with (go_at_call 9; refine HWK.out.mono ?_; rintro e w1 ⟨rfl, hb1⟩)
    go_upto_region 4 with (go_at_call 18; refine (HWT.out _ hb1).mono ?_; rintro e w2 ⟨rv, rfl, hq, hb2⟩; obtain ⟨qa, qc, rfl, -, -, hq3, hq4⟩ := id hq)
    have hK := Lib.hid (next_below hb1 hb2)
    have hQ := Lib.hid hq
    clear hb1 hb2 hq HWT HWK hq3 hq4
    generalize (wts zs).length = wl at *
    go_wp2_with fail
    refine (HD1.out _).mono ?_
    rintro e w3 ⟨rfl, hb⟩
    have hK3 := Lib.hid (next_below hK.out hb)
    have hQ3 := Lib.hid (hQ.out.below hb)
    clear hb
    go_wp2_with fail
    refine (HDR.out _ _ hQ3.out (HG.out _ hK3.out)).mono ?_
    rintro e w4 ⟨rfl, hb⟩
    have hK4 := Lib.hid (next_below hK3.out hb)
    have hQ4 := Lib.hid (hQ3.out.below hb)
    clear hb HDR
    go_upto_region 8 with fail
    have hit := World.iter_heap w4 S 0
    have hb8 := (Below.refl w4.heap.size w4).alloc (Nat.le_refl _) (.stringIter S 0)
    have HW8 := Lib.hid (show Below w4.heap.size w4 (w4.iter S 0) from hb8)
    have HI := Lib.hid hit
    clear hit hb8
    generalize hit : w4.heap.size = ki at *
    generalize w4.iter S 0 = w8 at *
    go_loopw [] (fun wr => ∃ pos : Nat, pos ≤ 16 ∧ Hid (wr.heap[ki]? = some (.stringIter S pos)) ∧ Hid (Below ki w4 wr)) (fun wr => 16 - wr.iterPos ki)
    case atStart => exact ⟨0, by omega, HI, HW8⟩
    case round =>
      clear HI HW8
      obtain ⟨pos, hpos, HI, HW⟩ := hrel
      have hkw : Below w4.heap.size w4 wr := by rw [hit]; exact HW.out
      have HKW := Lib.hid hkw
      have hks : ki < wr.heap.size := (Array.getElem?_eq_some_iff.1 HI.out).1
      have hIP := iterPos_of' HI.out
      have HIP := Lib.hid hIP
      clear hkw hIP
      by_cases hlt : pos < 16
      · have hlt2 : pos < S.size := by omega
        have hnx := fun (P : Program) (ty : TypeId) => Lib.run_next_ascii_at (P := P) wr ki S pos ty HI.out hlt2 (HAS.out pos hlt2)
        have HI2 := Lib.hid (Lib.iterAt_heap wr ki S pos (pos + 1) HI.out)
        have HW2 := Lib.hid (below_iterAt HW.out (Nat.le_refl ki) S (pos + 1))
        have HKW2 := Lib.hid (show Below w4.heap.size w4 (wr.iterAt ki S (pos + 1)) by rw [hit]; exact HW2.out)
        have HF := Lib.hid (HFA.out pos hlt _ _ (hQ4.out.below HKW2.out) (HG.out _ (next_below hK4.out HKW2.out)))
        have hpi : (pos : Int) ≤ 16 := by omega
        go_wp2_with fail
        refine HF.out.mono ?_
        rintro e w9 ⟨rfl, hb⟩
        have HI3 := Lib.hid ((hb.block ki (by simpa [World.iterAt] using hks)).trans HI2.out)
        have HW3 := Lib.hid (HW2.out.trans (hb.mono (by simpa [World.iterAt] using Nat.le_of_lt hks)))
        have HIP3 := Lib.hid (iterPos_of' HI3.out)
        clear hb hnx HF HI2 HW2 HKW2 HI HW HKW
        go_wp2
        go_roundw
        case rel => exact ⟨pos + 1, by omega, HI3, HW3⟩
        case measure => rw [HIP.out, HIP3.out]; omega
      · obtain rfl : pos = 16 := by omega
        have hlt2 : ¬ 16 < S.size := by omega
        have hnx := fun (P : Program) (ty : TypeId) => Lib.run_next_end_at (P := P) wr ki S 16 ty HI.out hlt2
        go_wp2
        go_ret
        exact ⟨rfl, next_below hK4.out HKW.out⟩
  | some r =>
    obtain ⟨i, m⟩ := r
    rw [hdw] at hdr
    rw [hdr] at HDR
    obtain ⟨d1, d2, d3, d4⟩ := drawR_some 16 0 hdw
    obtain ⟨hi, -⟩ := (decR_some k1).1 d3
    rw [wx_len] at hi
    have hpos := drawn_pos k1 d3
    have HFA := Lib.hid (fun (n : Nat) (hn : n < m) (V : World) v (hq : Qs V v (wts zs)) (hV : Good V) => (by
      have h := fails_true (w := V) (u := 4) (wts zs) ((digL 16 x).take n) (keep_none zs hok (by omega) (by omega) (fun j hj => d4 j (by omega) (by omega))) (by rw [List.length_take]; omega) (by omega) hsh hq hV
      rw [← ext_take] at h; exact h : Calls Tryz.prog 15 #[v, .string ((⟨(digL 16 x).toArray⟩ : ByteArray).extract 0 n), .int .i64 4] V (RetV V (.bool true))))
    have HT1 := Lib.hid (fun (V : World) v (hq : Qs V v (wts zs)) (hV : Good V) => (by
      have h := drawn_true (w := V) (i := i) (u := m) (wts zs) ((digL 16 x).take m) (by have h := keep_some zs (r := []) hok rfl (m := m) (by omega) (by simp; omega) d3 (fun j hj => d4 j (by omega) hj); rwa [List.append_nil] at h) (by rw [List.length_take]; omega) (by omega) hsh hq hV
      rw [← ext_take] at h; exact h : Calls Tryz.prog 14 #[v, .string ((⟨(digL 16 x).toArray⟩ : ByteArray).extract 0 m), .int .i64 (i : Int), .int .i64 (m : Int)] V (RetV V (.bool true))))
    have HT2 := Lib.hid (fun (V : World) v (hq : Qs V v (wts zs)) (hV : Good V) => (by
      have h := drawn_true (w := V) (i := i) (u := m) (wts zs) ((digL 16 x).take m ++ digL 16 y) (keep_some zs (r := digL 16 y) hok (digL_ok 16 y) (m := m) (by omega) (by rw [digL_len]; omega) d3 (fun j hj => d4 j (by omega) hj)) (by rw [List.length_append, List.length_take, digL_len, digL_len]; omega) (by omega) hsh hq hV
      rw [← ba_app, ← ext_take] at h; exact h : Calls Tryz.prog 14 #[v, .string ((⟨(digL 16 x).toArray⟩ : ByteArray).extract 0 m ++ ⟨(digL 16 y).toArray⟩), .int .i64 (i : Int), .int .i64 (m : Int)] V (RetV V (.bool true))))
    have hne : ((⟨((wts zs).getD i []).toArray⟩ : ByteArray).toList == [48]) = false := by
      have e : (⟨((wts zs).getD i []).toArray⟩ : ByteArray) = rt ((wx zs).getD i 0) := by rw [wts_text zs hi]; rfl
      rw [e, rt_zero_iff, decide_eq_false]
      intro h; rw [h] at hpos; exact absurd hpos (by decide)
    have hS2 : (⟨(digL 16 y).toArray⟩ : ByteArray).size = 16 := by rw [ba_size, digL_len]
    have hSE : ((⟨(digL 16 x).toArray⟩ : ByteArray).extract 0 m).size = m := by rw [ext_take, ba_size, List.length_take]; omega
    have hm16 : m ≤ 16 := by omega
    have hl8 : (wts zs).length ≤ 8 := hlen.2
    clear hdw hdr hL hok hlen hsh k1 k2 d1 d2 d3 d4 hpos
    have HNE := Lib.hid hne
    clear hne
    generalize (⟨(digL 16 x).toArray⟩ : ByteArray) = S at *
    generalize (⟨(digL 16 y).toArray⟩ : ByteArray) = S2 at *
    go_enter Tryz.func6, Tryz.ntmps6
    go_upto_region 3 with (go_at_call 9; refine HWK.out.mono ?_; rintro e w1 ⟨rfl, hb1⟩)
    go_upto_region 4 with (go_at_call 18; refine (HWT.out _ hb1).mono ?_; rintro e w2 ⟨rv, rfl, hq, hb2⟩; obtain ⟨qa, qc, rfl, -, -, hq3, hq4⟩ := id hq)
    have hK := Lib.hid (next_below hb1 hb2)
    have hQ := Lib.hid hq
    clear hb1 hb2 hq HWT HWK hq3 hq4
    obtain ⟨qp, rfl⟩ : ∃ p, qa = some p := qs_some hQ.out hi
    generalize hwl : (wts zs).length = wl at *
    clear hwl
    go_wp2_with fail
    refine (HD1.out _).mono ?_
    rintro e w3 ⟨rfl, hb⟩
    have hK3 := Lib.hid (next_below hK.out hb)
    have hQ3 := Lib.hid (hQ.out.below hb)
    clear hb
    go_wp2_with fail
    refine (HDR.out _ _ hQ3.out (HG.out _ hK3.out)).mono ?_
    rintro e w4 ⟨rfl, hb⟩
    have hK4 := Lib.hid (next_below hK3.out hb)
    have hQ4 := Lib.hid (hQ3.out.below hb)
    clear hb HDR
    have hcl := qs_cell hQ4.out hi
    have hne := HNE.out
    generalize (⟨((wts zs).getD i []).toArray⟩ : ByteArray) = WT at *
    have n1 : ¬ (i : Int) < 0 := by omega
    have n2 : ¬ (wl : Int) ≤ (i : Int) := by omega
    have n3 : ¬ (m : Int) < 0 := by omega
    have n4 : ¬ (16 : Int) < (m : Int) := by omega
    have hwr : (i : Int) < (wl : Int) := by omega
    go_upto_region 16 with fail
    clear hcl hne HNE n1 n2 n3 n4 hwr hi hl8
    generalize decide (wl ≤ i) = cb1
    generalize decide ((i : Int) < 0) = cb2
    generalize decide ((m : Int) < 0) = cb3
    generalize decide ((16 : Int) < (m : Int)) = cb4
    go_loopw [77] (fun u77 wr => ∃ n : Nat, n ≤ m ∧ u77 = .int .i64 (n : Int) ∧ Hid (Qs wr (.slice (some qp) wl qc) (wts zs)) ∧ Hid (Below w.heap.size w wr)) (fun u77 _ => m - (intOf u77).toNat)
    case atStart => exact ⟨0, by omega, rfl, hQ4, hK4⟩
    case round =>
      clear hQ4 hK4 hK3 hQ3 hQ hK
      obtain ⟨n, hn, rfl, hQ, hK⟩ := hrel
      by_cases hlt : n < m
      · have hlti : (n : Int) < (m : Int) := by omega
        have hn16 : (n : Int) ≤ 16 := by omega
        have HF := Lib.hid (HFA.out n hlt _ _ hQ.out (HG.out _ hK.out))
        go_wp2_with fail
        refine HF.out.mono ?_
        rintro e w9 ⟨rfl, hb⟩
        have hQ9 := Lib.hid (hQ.out.below hb)
        have hK9 := Lib.hid (next_below hK.out hb)
        clear hb HF
        go_wp2
        go_roundw
        case rel => exact ⟨n + 1, by omega, by go_num, hQ9, hK9⟩
        case measure => simp [intOf]; omega
      · obtain rfl : n = m := by omega
        have hn16 : (n : Int) ≤ 16 := by omega
        go_upto_region 21 with fail
        have hB0 : Below wr.heap.size wr wr.drew := (Below.refl _ _).drew
        refine wp_region_list 20 (by kernel_rfl) (by kernel_rfl) [] [fun v _ => v = .slice (some qp) wl qc, fun v _ => v = .string S, fun v _ => v = .int .i64 (n : Int), fun v _ => v = .string (S.extract 0 n), fun v _ => v = .int .i64 (i : Int), fun v _ => v = .int .i64 (n : Int), fun v _ => v = .bool true, fun v _ => v = .bool true, fun v _ => v = .slice (some qp) wl qc, fun v _ => v = .string S, fun v _ => v = .int .i64 (n : Int), fun v _ => v = .string (S.extract 0 n), fun v _ => v = .int .u16 (y : Int), fun v _ => v = .int .i64 (y : Int), fun v _ => v = .string S2, fun v _ => v = .string (S.extract 0 n ++ S2), fun v _ => v = .int .i64 (i : Int), fun v _ => v = .int .i64 (n : Int), fun v _ => v = .bool true, fun v _ => v = .bool true] (by simp only [List.take_succ_cons, List.take_zero]; rfl) (by simp only [List.drop_succ_cons, List.drop_zero]; rfl) (fun vals => by simp only [fam, Act.put, List.setIfInBounds_toArray, List.set_cons_zero, List.set_cons_succ, if_true]; rfl) (by repeat' (first | exact Stab.eq _ _ | exact Stab.wh _ _ | exact Stab.nm _ _ | exact Stab.new _ _ | exact Stab.newn _ _ | exact Stab.tw _ _ _ | exact Stab.lm _ _ _ | exact Stab.onet _ _ _ | exact Stab.pl _ _ _ | exact trivial | apply And.intro)) trivial ?_ ?_
        · refine ⟨?_, ?_, ?_, ?_, ?_, ?_, ?_, ?_, ?_, ?_, ?_, ?_, ?_, ?_, ?_, ?_, ?_, ?_, ?_, ?_, trivial⟩
          all_goals
            intro vals wx hB1 hp
            dsimp only
            (try simp [preOk, Region.binds, r_anygc, r_anytext] at hp)
            have hb := next_below hB0 hB1
            clear hB1
          case refine_4 =>
            obtain ⟨z0, z1⟩ := hp
            go_wp2
            (first | exact ⟨rfl, _, rfl, rfl, Below.refl _ _, trivial⟩ | (refine ⟨rfl, _, ?_, rfl, Below.refl _ _, trivial⟩; simp only [Act.put, List.setIfInBounds_toArray, List.set_cons_zero, List.set_cons_succ, Nat.zero_add, Nat.reduceAdd, *]))
          case refine_7 =>
            obtain ⟨z0, z1, z2, z3⟩ := hp
            go_wp2_with (go_at_call 14; refine (HT1.out _ _ (hQ.out.below hb) (HG.out _ (next_below hK.out hb))).mono ?_; rintro e w9 ⟨rfl, hb9⟩)
            (first | exact ⟨rfl, _, rfl, rfl, hb9, trivial⟩ | (refine ⟨rfl, _, ?_, rfl, hb9, trivial⟩; simp only [Act.put, List.setIfInBounds_toArray, List.set_cons_zero, List.set_cons_succ, Nat.zero_add, Nat.reduceAdd, *]))
          case refine_12 =>
            obtain ⟨z0, z1, z2⟩ := hp
            go_wp2
            (first | exact ⟨rfl, _, rfl, rfl, Below.refl _ _, trivial⟩ | (refine ⟨rfl, _, ?_, rfl, Below.refl _ _, trivial⟩; simp only [Act.put, List.setIfInBounds_toArray, List.set_cons_zero, List.set_cons_succ, Nat.zero_add, Nat.reduceAdd, *]))
          case refine_14 =>
            obtain ⟨z0, z1⟩ := hp
            go_wp2
            (first | exact ⟨rfl, _, rfl, rfl, Below.refl _ _, trivial⟩ | (refine ⟨rfl, _, ?_, rfl, Below.refl _ _, trivial⟩; simp only [Act.put, List.setIfInBounds_toArray, List.set_cons_zero, List.set_cons_succ, Nat.zero_add, Nat.reduceAdd, *]))
          case refine_15 =>
            obtain ⟨z0, z1⟩ := hp
            go_wp2_with (go_at_call 25; refine (HD2.out _).mono ?_; rintro e w9 ⟨rfl, hb9⟩)
            (first | exact ⟨rfl, _, rfl, rfl, hb9, trivial⟩ | (refine ⟨rfl, _, ?_, rfl, hb9, trivial⟩; simp only [Act.put, List.setIfInBounds_toArray, List.set_cons_zero, List.set_cons_succ, Nat.zero_add, Nat.reduceAdd, *]))
          case refine_16 =>
            obtain ⟨z0, z1, z2⟩ := hp
            go_wp2
            (first | exact ⟨rfl, _, rfl, rfl, Below.refl _ _, trivial⟩ | (refine ⟨rfl, _, ?_, rfl, Below.refl _ _, trivial⟩; simp only [Act.put, List.setIfInBounds_toArray, List.set_cons_zero, List.set_cons_succ, Nat.zero_add, Nat.reduceAdd, *]))
          case refine_19 =>
            obtain ⟨z0, z1, z2, z3, z4⟩ := hp
            go_wp2_with (go_at_call 14; refine (HT2.out _ _ (hQ.out.below hb) (HG.out _ (next_below hK.out hb))).mono ?_; rintro e w9 ⟨rfl, hb9⟩)
            (first | exact ⟨rfl, _, rfl, rfl, hb9, trivial⟩ | (refine ⟨rfl, _, ?_, rfl, hb9, trivial⟩; simp only [Act.put, List.setIfInBounds_toArray, List.set_cons_zero, List.set_cons_succ, Nat.zero_add, Nat.reduceAdd, *]))
          case refine_20 =>
            obtain ⟨z0, z1⟩ := hp
            go_wp2
            (first | exact ⟨rfl, _, rfl, rfl, Below.refl _ _, trivial⟩ | (refine ⟨rfl, _, ?_, rfl, Below.refl _ _, trivial⟩; simp only [Act.put, List.setIfInBounds_toArray, List.set_cons_zero, List.set_cons_succ, Nat.zero_add, Nat.reduceAdd, *]))
          all_goals
            go_wp2
            (first | exact ⟨rfl, _, rfl, rfl, Below.refl _ _, trivial⟩ | (refine ⟨rfl, _, ?_, rfl, Below.refl _ _, trivial⟩; simp only [Act.put, List.setIfInBounds_toArray, List.set_cons_zero, List.set_cons_succ, hp]))
        · rintro vals wx hB1 ⟨p0, p1, p2, p3, p4, p5, p6, p7, p8, p9, p10, p11, p12, p13, p14, p15, p16, p17, p18, p19, _⟩ hne
          have hb := next_below hB0 hB1
          simp at p19
          clear hne hB1 hB0 p0 p1 p2 p3 p4 p5 p6 p8 p9 p10 p11 p12 p13 p14 p15 p16 p17 p18
          go_wp2
          go_ret
          exact ⟨rfl, next_below hK.out hb⟩
end Go.Proofs.YtfjjdjhnodcfhaaGreatDoor
