/- All bit strings are counted: DrawCounts. -/
import Derived.Test.YtfjjdjhnodcfhaaGreatDoorDNear
set_option linter.unusedSimpArgs false
set_option linter.unusedVariables false
namespace Go.Proofs.YtfjjdjhnodcfhaaGreatDoor
open Go.RowKit
open Go.Lib (decDigits itoa nDigits)
open D4 (rt it Mid)

/-- What Draw hands back at the string of a number. -/
theorem drw_num (zs : List Nat) {N x : Nat} (hN : N ≤ 62) : (decR (wx zs) (bitsN N x) N = none → drw (wts zs) (digL N x) = (0, 0, 4)) ∧ ∀ i, decR (wx zs) (bitsN N x) N = some i → ∃ m : Nat, m ≤ N ∧ i < (wts zs).length ∧ drw (wts zs) (digL N x) = ((i : Int), (m : Int), 0) := by
  obtain ⟨k1, k2⟩ := wx_ok zs
  have hd : drw (wts zs) (digL N x) = match drawR (wx zs) (bitAt (digL N x)) N 0 with | some (i, m) => ((i : Int), (m : Int), 0) | none => (0, 0, 4) := by
    unfold drw
    rw [wts_ok, if_pos rfl, digL_err (by omega), if_pos rfl, digL_len]; rfl
  have hf := drawR_full k1 (s := bitAt (digL N x)) N
  rw [decR_congr (s' := bitsN N x) (fun j hj => digL_bit hj)] at hf
  constructor
  · intro h
    rw [h] at hf
    cases hw : drawR (wx zs) (bitAt (digL N x)) N 0 with
    | none => rw [hd, hw]
    | some p => rw [hw] at hf; cases hf
  · intro i h
    rw [h] at hf
    cases hw : drawR (wx zs) (bitAt (digL N x)) N 0 with
    | none => rw [hw] at hf; cases hf
    | some p =>
      obtain ⟨j, m⟩ := p
      rw [hw] at hf
      obtain ⟨d1, d2, d3, d4⟩ := drawR_some N 0 hw
      obtain ⟨d5, -⟩ := (decR_some k1).1 d3
      rw [wx_len] at d5
      cases hf
      exact ⟨m, by omega, d5, by rw [hd, hw]⟩
/-- How many numbers below k decide an outcome; how many nothing. -/
def cN (zs : List Nat) (N j k : Nat) : Nat := cntTo (decB (wx zs) N j) k
def lN (zs : List Nat) (N k : Nat) : Nat := cntTo (fun x => decR (wx zs) (bitsN N x) N == none) k
theorem cN_le (zs : List Nat) (N j k : Nat) : cN zs N j k ≤ k := cntTo_le _ _
theorem lN_le (zs : List Nat) (N k : Nat) : lN zs N k ≤ k := cntTo_le _ _
theorem cN_none {zs : List Nat} {N k : Nat} (h : decR (wx zs) (bitsN N k) N = none) (j : Nat) : cN zs N j (k + 1) = cN zs N j k := by
  show cntTo _ k + (if decB (wx zs) N j k = true then 1 else 0) = _
  unfold decB
  rw [h, if_neg (by simp)]; rfl
theorem cN_some {zs : List Nat} {N k i : Nat} (h : decR (wx zs) (bitsN N k) N = some i) (j : Nat) : cN zs N j (k + 1) = cN zs N j k + (if j = i then 1 else 0) := by
  show cntTo _ k + (if decB (wx zs) N j k = true then 1 else 0) = cntTo _ k + _
  unfold decB
  rw [h]
  by_cases e : j = i
  · subst e; simp
  · rw [if_neg (by simp; exact fun h => e h.symm), if_neg e]
theorem lN_none {zs : List Nat} {N k : Nat} (h : decR (wx zs) (bitsN N k) N = none) : lN zs N (k + 1) = lN zs N k + 1 := by
  show cntTo _ k + (if (decR (wx zs) (bitsN N k) N == none) = true then 1 else 0) = _
  rw [h, if_pos (show ((none : Option Nat) == none) = true from rfl)]; rfl
theorem lN_some {zs : List Nat} {N k i : Nat} (h : decR (wx zs) (bitsN N k) N = some i) : lN zs N (k + 1) = lN zs N k := by
  show cntTo _ k + (if (decR (wx zs) (bitsN N k) N == none) = true then 1 else 0) = _
  rw [h, if_neg (by simp)]; rfl
theorem cN_law (zs : List Nat) {N j : Nat} (hj : j < (wts zs).length) : (((cN zs N j (2 ^ N) : Nat) : Int) : Rat) / ((2 ^ N : Nat) : Rat) = lawR (wx zs) N j := by
  obtain ⟨k1, k2⟩ := wx_ok zs
  rw [← count_law k1 k2 (by rw [wx_len]; exact hj) N]; rfl
theorem lN_left (zs : List Nat) {N : Nat} : (((lN zs N (2 ^ N) : Nat) : Int) : Rat) / ((2 ^ N : Nat) : Rat) = leftR (wx zs) N (wx zs).length := by
  obtain ⟨k1, k2⟩ := wx_ok zs
  rw [← count_left k1 k2 N]; rfl

/-- A row of numbers in a block of its own. -/
def CB (w : World) (g n : Nat) (f : Nat → Nat) : Prop := ∃ cur, Blk w g 3 cur ∧ ∀ j, j < n → cur[j]? = some (.int .i64 (f j : Nat))
theorem CB.below {w w' : World} {g n : Nat} {f : Nat → Nat} (h : CB w g n f) (hb : Below w.heap.size w w') : CB w' g n f := by
  obtain ⟨cur, h1, h2⟩ := h
  exact ⟨cur, h1.next hb, h2⟩
theorem CB.cell {w : World} {g n : Nat} {f : Nat → Nat} (h : CB w g n f) {j : Nat} (hj : j < n) : w.cell? ⟨g, j, none⟩ = some (.int .i64 (f j : Nat)) := by
  obtain ⟨cur, h1, h2⟩ := h
  exact (h1.cell j).trans (h2 j hj)
theorem CB.frozen {w : World} {g n : Nat} {f : Nat → Nat} (h : CB w g n f) (j : Nat) : w.frozen? ⟨g, j, none⟩ = false := by
  obtain ⟨cur, h1, h2⟩ := h
  exact h1.frozen j
theorem CB.put {w : World} {g n : Nat} {f f' : Nat → Nat} (h : CB w g n f) {i : Nat} (hi : i < n) (hf : ∀ j, f' j = f j + (if j = i then 1 else 0)) : CB (w.setCell ⟨g, i, none⟩ (.int .i64 ((f i : Nat) + 1 : Int))) g n f' := by
  obtain ⟨cur, h1, h2⟩ := h
  refine ⟨_, h1.set_ i (.int .i64 ((f i : Nat) + 1 : Int)), fun j hj => ?_⟩
  rw [Array.getElem?_setIfInBounds]
  have hlt : i < cur.size := (Array.getElem?_eq_some_iff.1 (h2 i hi)).1
  by_cases e : j = i
  · subst e
    rw [if_pos rfl, if_pos hlt, hf, if_pos rfl]; push_cast; rfl
  · rw [if_neg (fun h => e h.symm), hf, if_neg e]
    exact h2 j hj
theorem CB.congr {w : World} {g n : Nat} {f f' : Nat → Nat} (h : CB w g n f) (hf : ∀ j, f' j = f j) : CB w g n f' := by
  obtain ⟨cur, h1, h2⟩ := h
  exact ⟨cur, h1, fun j hj => by rw [hf]; exact h2 j hj⟩
theorem lt62' {x : Nat} (h : x < 65) : x < 2 ^ 62 := Nat.lt_of_lt_of_le h (by decide)
theorem infoI : (Tryz.prog.info? 3).map (fun i => (i.zero, i.size, i.bytes)) = some (some (.int .i64 0), 1, 8) := by kernel_rfl
theorem CB.of_made {w : World} {B g n : Nat} (h : w.ownsRow B 3 1 (.slice (some ⟨g, 0, none⟩) n n) n (madeCells (Value.int .i64 0).cells (n * 1)).toList) (hn : 0 < n) : B ≤ g ∧ CB w g n (fun _ => 0) := by
  obtain ⟨hl, h⟩ := h
  rcases h with ⟨h1, h2⟩ | ⟨g', cap, cur, h1, hB, hg, hn2, hm, hc, ht⟩
  · omega
  · cases h1
    refine ⟨hB, cur, hg, fun j hj => ?_⟩
    have h3 : (cur.toList.take (n * 1))[j]? = some (.int .i64 0) := by
      rw [ht]
      simp [madeCells, Value.cells, hj]
      rw [Nat.mod_one]; rfl
    rw [List.getElem?_take, if_pos (by omega)] at h3
    simpa using h3

set_option maxHeartbeats 16000000 in
set_option maxRecDepth 100000 in
theorem drawCounts_any {w : World} {v : Value} (zs : List Nat) (b : Nat) (hz : ∀ z ∈ zs, z < 256) (hv : U8s w v zs) (hb : b < 256) (hg : Good w) : Calls Tryz.prog 7 #[v, .int .u8 b] w (RetV w (.bool true)) := by
  have hlen := wts_len zs
  have hsh := wts_short zs
  obtain ⟨i0, hi0, hz0, hz1, hz2⟩ := info_parts infoI
  have HG := Lib.hid (fun (V : World) (hV : Below w.heap.size w V) => hg.below hV)
  have HWK := Lib.hid (works_any hg)
  have HWT := Lib.hid (fun (V : World) (hV : Below w.heap.size w V) => weights_any (w := V) zs hz (hv.below hV) (hg.below hV))
  obtain ⟨ao, cap, rfl, -, -, -⟩ := hv.open_
  clear hv hz hg
  obtain ⟨N, hN, hN6⟩ : ∃ N : Nat, N = b % 7 ∧ N ≤ 6 := ⟨_, rfl, by omega⟩
  have hrem2 : (b : Int) % 7 = (N : Int) := by omega
  clear hN
  obtain ⟨M, hM⟩ : ∃ M : Nat, M = 2 ^ N := ⟨_, rfl⟩
  have hM64 : 1 ≤ M ∧ M ≤ 64 := by
    rw [hM]
    exact ⟨Nat.one_le_two_pow, Nat.le_trans (Nat.pow_le_pow_right (by omega) hN6) (by decide)⟩
  have hp2 : wrap64 ((2 : Int) ^ N) = (M : Int) := by
    have h2 : (2 : Int) ^ N = (M : Int) := by rw [hM]; push_cast; rfl
    rw [h2]; simp [wrap64]; omega
  have HD1 := Lib.hid (fun (k : Nat) (hk : k < M) (V : World) => ldigits_any (w := V) k N (by omega) (lt62' (by omega)))
  have HDR := Lib.hid (fun (k : Nat) (V : World) v (hq : Qs V v (wts zs)) (hV : Good V) => ddraw_any (w := V) (wts zs) (digL N k) (by rw [digL_len]; omega) (by omega) hsh hq hV)
  have HNU := Lib.hid (fun (k : Nat) => drw_num zs (N := N) (x := k) (by omega))
  have HOF := Lib.hid (fun (c : Nat) (hc : c ≤ 64) (V : World) (hV : Good V) => (by have h := of_two (w := V) (k := (c : Int)) (n := N) (by omega) (by omega) (by omega) hV; rw [← hM] at h; exact h : Calls Tryz.prog 26 #[.int .i64 (c : Int), .int .i64 (M : Int)] V (RetV V (.tuple #[.string (rt (((c : Int) : Rat) / (M : Rat))), .int .i64 0]))))
  have HLW := Lib.hid (fun (j : Nat) (hj : j < (wts zs).length) (V : World) v (hq : Qs V v (wts zs)) (hV : Good V) => law_wt (w := V) zs (i := j) (n := N) hj (by omega) hq hV)
  have HLF := Lib.hid (fun (V : World) v (hq : Qs V v (wts zs)) (hV : Good V) => left_wt (w := V) zs (n := N) (by omega) hq hV)
  have HCL := Lib.hid (fun (j : Nat) (hj : j < (wts zs).length) => (by have h := cN_law zs (N := N) hj; rw [← hM] at h; exact h : (((cN zs N j M : Nat) : Int) : Rat) / (M : Rat) = lawR (wx zs) N j))
  have HLL := Lib.hid (by have h := lN_left zs (N := N); rw [← hM] at h; exact h : (((lN zs N M : Nat) : Int) : Rat) / (M : Rat) = leftR (wx zs) N (wx zs).length)
  have HM := Lib.hid hM
  clear hM hsh
  obtain ⟨wl, hwl⟩ : ∃ wl, wl = (wts zs).length := ⟨_, rfl⟩
  rw [← hwl] at hlen HLW HCL
  have HNU2 := Lib.hid (fun (k : Nat) => (by rw [hwl]; exact HNU.out k : (decR (wx zs) (bitsN N k) N = none → drw (wts zs) (digL N k) = (0, 0, 4)) ∧ ∀ i, decR (wx zs) (bitsN N k) N = some i → ∃ m : Nat, m ≤ N ∧ i < wl ∧ drw (wts zs) (digL N k) = ((i : Int), (m : Int), 0)))
  have HWL := Lib.hid hwl
  clear hwl HNU
  go_enter Tryz.func7, Tryz.ntmps7
  go_upto_region 3 with (go_at_call 9; refine HWK.out.mono ?_; rintro e w1 ⟨rfl, hb1⟩)
  go_upto_region 4 with (go_at_call 18; refine (HWT.out _ hb1).mono ?_; rintro e w2 ⟨rv, rfl, hq, hb2⟩; obtain ⟨qa, qc, rfl, -, -, hq3, hq4⟩ := id hq)
  have hK := Lib.hid (next_below hb1 hb2)
  have hQ := Lib.hid hq
  clear hb1 hb2 hq HWT HWK hq3 hq4
  rw [← HWL.out]
  have hQ2 := Lib.hid (by rw [← HWL.out] at hQ; exact hQ.out : Qs w2 (.slice qa wl qc) (wts zs))
  clear hQ
  go_wp2_with (at_make; refine wpList_make_full _ rfl (.tmp 27) (.tmp 27) 57 rfl w2.heap.size 3 i0 (.int .i64 0) 1 Tryz.underlying57 hi0 hz0 hz1 _ _ _ _ wl rfl rfl rfl rfl (by rw [hz2]; omega) (by unfold maxLen; omega) (Nat.le_refl _) ?_; intro w3 hown1 hgrow1)
  obtain ⟨-, hcb⟩ := CB.of_made hown1 (by omega)
  have hb3 : Below w2.heap.size w2 w3 := (Below.refl _ _).grown hgrow1 (Nat.le_refl _) (fun g hg => by cases hg)
  have hL0 := Lib.hid (hcb.congr (f' := fun j => cN zs N j 0) (fun j => rfl))
  have hB0 := Lib.hid hb3
  have HGC : Hid (w2.heap.size ≤ w2.heap.size) := Lib.hid (Nat.le_refl _)
  clear hown1 hgrow1 hcb hb3
  generalize hgc : w2.heap.size = gc at *
  have HGC2 := Lib.hid hgc
  clear hgc
  go_wp2_with fail
  rw [hp2]
  go_loopw [8, 31] (fun u8 u31 wr => ∃ k : Nat, k ≤ M ∧ u31 = .int .i64 (k : Int) ∧ u8 = .int .i64 ((lN zs N k : Nat) : Int) ∧ Hid (CB wr gc wl (fun j => cN zs N j k)) ∧ Hid (Below gc w2 wr)) (fun _ u31 _ => M - (intOf u31).toNat)
  case atStart => exact ⟨0, by omega, rfl, rfl, hL0, hB0⟩
  case round =>
    clear hL0 hB0
    obtain ⟨k, hk, rfl, rfl, hC, hB⟩ := hrel
    by_cases hlt : k < M
    · have hlti : (k : Int) < (M : Int) := by omega
      have hKB := Lib.hid (show Below w.heap.size w wr from next_below hK.out (by rw [HGC2.out]; exact hB.out))
      have hQB := Lib.hid (hQ2.out.below (by rw [HGC2.out]; exact hB.out))
      have HDK := Lib.hid (HD1.out k hlt)
      have HDD := Lib.hid (HDR.out k)
      have hlk := lN_le zs N k
      cases hdec : decR (wx zs) (bitsN N k) N with
      | none =>
        have hdw := (HNU2.out k).1 hdec
        rw [hdw] at HDD
        have hl1 := Lib.hid (lN_none hdec)
        have hc1 := Lib.hid (fun j => cN_none hdec j)
        clear hdw hdec
        generalize lN zs N k = lk at *
        generalize (⟨(digL N k).toArray⟩ : ByteArray) = DS at *
        go_wp2_with fail
        refine (HDK.out _).mono ?_
        rintro e w4 ⟨rfl, hb4⟩
        have hK4 := Lib.hid (next_below hKB.out hb4)
        have hQ4 := Lib.hid (hQB.out.below hb4)
        have hB4 := Lib.hid (hB.out.trans (hb4.mono (by have := hB.out.size; have := HGC2.out; omega)))
        have hC4 := Lib.hid (hC.out.below hb4)
        clear hb4
        go_wp2_with fail
        refine (HDD.out _ _ hQ4.out (HG.out _ hK4.out)).mono ?_
        rintro e w5 ⟨rfl, hb5⟩
        have hB5 := Lib.hid (hB4.out.trans (hb5.mono (by have := hB4.out.size; have := HGC2.out; omega)))
        have hC5 := Lib.hid ((hC4.out.below hb5).congr hc1.out)
        clear hb5 hC4 hB4 hQ4 hK4 hC hB hKB hQB HDK HDD
        go_wp2
        go_roundw
        case rel => exact ⟨k + 1, by omega, by go_num, by rw [hl1.out]; go_num, hC5, hB5⟩
        case measure => simp [intOf]; omega
      | some i =>
        obtain ⟨m, hm, hi, hdw⟩ := (HNU2.out k).2 i hdec
        rw [hdw] at HDD
        have hl1 := Lib.hid (lN_some hdec)
        have hc1 := Lib.hid (fun j => cN_some hdec j)
        have hcl := cN_le zs N i k
        clear hdw hdec
        generalize lN zs N k = lk at *
        generalize (⟨(digL N k).toArray⟩ : ByteArray) = DS at *
        have n1 : ¬ (i : Int) < 0 := by omega
        have n2 : ¬ (wl : Int) ≤ (i : Int) := by omega
        have n3 : ¬ (m : Int) < 0 := by omega
        have n4 : ¬ (N : Int) < (m : Int) := by omega
        have n5 : (i : Int) < (wl : Int) := by omega
        go_wp2_with fail
        refine (HDK.out _).mono ?_
        rintro e w4 ⟨rfl, hb4⟩
        have hK4 := Lib.hid (next_below hKB.out hb4)
        have hQ4 := Lib.hid (hQB.out.below hb4)
        have hB4 := Lib.hid (hB.out.trans (hb4.mono (by have := hB.out.size; have := HGC2.out; omega)))
        have hC4 := Lib.hid (hC.out.below hb4)
        clear hb4
        go_wp2_with fail
        refine (HDD.out _ _ hQ4.out (HG.out _ hK4.out)).mono ?_
        rintro e w5 ⟨rfl, hb5⟩
        have hB5 := Lib.hid (hB4.out.trans (hb5.mono (by have := hB4.out.size; have := HGC2.out; omega)))
        have hc5 := hC4.out.below hb5
        have x0 := hc5.cell hi
        have x1 := hc5.frozen i
        have R1 := Lib.hid (hc5.put hi (f' := fun j => cN zs N j (k + 1)) hc1.out)
        have R2 := Lib.hid (hB5.out.setCell (p := ⟨gc, i, none⟩) (Nat.le_refl gc) (.int .i64 ((cN zs N i k : Nat) + 1 : Int)))
        clear hb5 hC4 hB4 hQ4 hK4 hC hB hKB hQB HDK HDD hc5 hc1
        generalize cN zs N i k = ck at *
        go_wp2
        go_roundw
        case rel => exact ⟨k + 1, by omega, by go_num, by rw [hl1.out], R1, R2⟩
        case measure => simp [intOf]; omega
    · obtain rfl : k = M := by omega
      have hlk := lN_le zs N k
      clear HD1 HDR HNU2 hlt hk
      go_upto_region 17 with fail
      go_loopw [79] (fun u79 wr => ∃ j : Nat, j ≤ wl ∧ u79 = .int .i64 (j : Int) ∧ Hid (CB wr gc wl (fun j => cN zs N j k)) ∧ Hid (Below gc w2 wr)) (fun u79 _ => wl - (intOf u79).toNat)
      case atStart => exact ⟨0, by omega, rfl, hC, hB⟩
      case round =>
        clear hC hB
        obtain ⟨j, hj, rfl, hC, hB⟩ := hrel
        have hKB := Lib.hid (show Below w.heap.size w wr from next_below hK.out (by rw [HGC2.out]; exact hB.out))
        have hQB := Lib.hid (hQ2.out.below (by rw [HGC2.out]; exact hB.out))
        by_cases hlt : j < wl
        · have hlti : (j : Int) < (wl : Int) := by omega
          have x0 := hC.out.cell hlt
          have hcl := cN_le zs N j k
          have HO := Lib.hid (HOF.out (cN zs N j k) (by omega))
          have HL1 := Lib.hid (HLW.out j hlt)
          rw [HCL.out j hlt] at HO
          generalize cN zs N j k = ck at *
          generalize rt (lawR (wx zs) N j) = PT at *
          go_wp2_with fail
          refine (HO.out _ (HG.out _ hKB.out)).mono ?_
          rintro e wz ⟨rfl, hb⟩
          replace hB := Lib.hid (hB.out.trans (hb.mono (by have := hB.out.size; have := HGC2.out; omega)))
          replace hC := Lib.hid (hC.out.below hb)
          replace hKB := Lib.hid (next_below hKB.out hb)
          replace hQB := Lib.hid (hQB.out.below hb)
          clear hb
          go_wp2_with fail
          refine (is_any _).mono ?_
          rintro e wz ⟨gz, rfl, hz, hb⟩
          replace hB := Lib.hid (hB.out.trans (hb.mono (by have := hB.out.size; have := HGC2.out; omega)))
          replace hC := Lib.hid (hC.out.below hb)
          replace hKB := Lib.hid (next_below hKB.out hb)
          replace hQB := Lib.hid (hQB.out.below hb)
          replace hz := Lib.hid hz
          clear hb
          go_wp2_with fail
          refine (HL1.out _ _ hQB.out (HG.out _ hKB.out)).mono ?_
          rintro e wz ⟨rfl, hb⟩
          replace hB := Lib.hid (hB.out.trans (hb.mono (by have := hB.out.size; have := HGC2.out; omega)))
          replace hC := Lib.hid (hC.out.below hb)
          replace hKB := Lib.hid (next_below hKB.out hb)
          replace hQB := Lib.hid (hQB.out.below hb)
          replace hz := Lib.hid (hz.out.next hb)
          clear hb
          go_wp2_with fail
          refine (is_true hz.out).mono ?_
          rintro e wz ⟨rfl, hb⟩
          replace hB := Lib.hid (hB.out.trans (hb.mono (by have := hB.out.size; have := HGC2.out; omega)))
          replace hC := Lib.hid (hC.out.below hb)
          replace hKB := Lib.hid (next_below hKB.out hb)
          replace hQB := Lib.hid (hQB.out.below hb)
          clear hb
          clear x0
          go_wp2
          go_roundw
          case rel => exact ⟨j + 1, by omega, by go_num, hC, hB⟩
          case measure => simp [intOf]; omega
        · obtain rfl : j = wl := by omega
          have HO := Lib.hid (HOF.out (lN zs N k) (by omega))
          rw [HLL.out] at HO
          generalize lN zs N k = lk at *
          generalize rt (leftR (wx zs) N (wx zs).length) = PT at *
          go_wp2_with fail
          refine (HO.out _ (HG.out _ hKB.out)).mono ?_
          rintro e wz ⟨rfl, hb⟩
          replace hB := Lib.hid (hB.out.trans (hb.mono (by have := hB.out.size; have := HGC2.out; omega)))
          replace hC := Lib.hid (hC.out.below hb)
          replace hKB := Lib.hid (next_below hKB.out hb)
          replace hQB := Lib.hid (hQB.out.below hb)
          clear hb
          go_wp2_with fail
          refine (is_any _).mono ?_
          rintro e wz ⟨gz, rfl, hz, hb⟩
          replace hB := Lib.hid (hB.out.trans (hb.mono (by have := hB.out.size; have := HGC2.out; omega)))
          replace hC := Lib.hid (hC.out.below hb)
          replace hKB := Lib.hid (next_below hKB.out hb)
          replace hQB := Lib.hid (hQB.out.below hb)
          replace hz := Lib.hid hz
          clear hb
          go_wp2_with fail
          refine (HLF.out _ _ hQB.out (HG.out _ hKB.out)).mono ?_
          rintro e wz ⟨rfl, hb⟩
          replace hB := Lib.hid (hB.out.trans (hb.mono (by have := hB.out.size; have := HGC2.out; omega)))
          replace hC := Lib.hid (hC.out.below hb)
          replace hKB := Lib.hid (next_below hKB.out hb)
          replace hQB := Lib.hid (hQB.out.below hb)
          replace hz := Lib.hid (hz.out.next hb)
          clear hb
          go_wp2_with fail
          refine (is_true hz.out).mono ?_
          rintro e wz ⟨rfl, hb⟩
          replace hB := Lib.hid (hB.out.trans (hb.mono (by have := hB.out.size; have := HGC2.out; omega)))
          replace hC := Lib.hid (hC.out.below hb)
          replace hKB := Lib.hid (next_below hKB.out hb)
          replace hQB := Lib.hid (hQB.out.below hb)
          clear hb
          go_wp2
          go_ret
          exact ⟨rfl, hKB.out⟩
end Go.Proofs.YtfjjdjhnodcfhaaGreatDoor
