/- How near the law is to the weights: DrawNear. -/
import Derived.Test.YtfjjdjhnodcfhaaGreatDoorDDig
import Derived.Test.YtfjjdjhnodcfhaaGreatDoorDWorks
import Derived.Test.YtfjjdjhnodcfhaaGreatDoorTRMake
set_option linter.unusedSimpArgs false
set_option linter.unusedVariables false
namespace Go.Proofs.YtfjjdjhnodcfhaaGreatDoor
open Go.RowKit
open Go.Lib (decDigits itoa nDigits)
open D4 (rt it Mid)

theorem most_rt {w : World} {x y : Rat} (hx : fitsD 2000 x) (hy : fitsD 2000 y) (hg : Good w) : Calls Tryz.prog 27 #[.string (rt x), .string (rt y)] w (RetV w (.bool (decide (x ≤ y)))) := by
  have HC := Lib.hid (rcmp_rt (w := w) hx hy hg)
  have he := @rcmp_le x y
  generalize rt x = X at *
  generalize rt y = Y at *
  obtain ⟨B, hB⟩ : ∃ B : Bool, B = decide (x ≤ y) := ⟨_, rfl⟩
  rw [← hB]
  have HB := Lib.hid (show B = decide (rcmp x y ≤ 0) by rw [hB]; exact (decide_eq_decide.2 he).symm)
  clear hB he hx hy hg
  generalize rcmp x y = c at *
  by_cases h1 : c ≤ 0
  · go_enter Tryz.func27, Tryz.ntmps27
    go_wp2_with (go_at_call 63; refine HC.out.mono ?_; rintro e V ⟨rfl, hb⟩)
    go_ret
    exact ⟨by rw [HB.out]; simp [h1], hb⟩
  · go_enter Tryz.func27, Tryz.ntmps27
    go_wp2_with (go_at_call 63; refine HC.out.mono ?_; rintro e V ⟨rfl, hb⟩)
    go_ret
    exact ⟨by rw [HB.out]; simp [h1], hb⟩
theorem qs_some {w : World} {a : Option Addr} {n c i : Nat} {ts : List (List UInt8)} (h : Qs w (.slice a n c) ts) (hi : i < n) : ∃ p, a = some p := by
  obtain ⟨a', c', e, h1, h2, h3, h4⟩ := h
  injection e with e1 e2 e3
  subst e1
  rcases h3 with h3 | ⟨p, hp⟩
  · subst h3; simp at e2; omega
  · exact ⟨p, hp⟩
theorem qs_cell {w : World} {p : Addr} {n c i : Nat} {ts : List (List UInt8)} (h : Qs w (.slice (some p) n c) ts) (hi : i < n) : w.cell? (p.add i) = some (.string ⟨(ts.getD i []).toArray⟩) := by
  obtain ⟨a', c', e, h1, h2, h3, h4⟩ := h
  injection e with e1 e2 e3
  exact h4 p e1.symm i (by omega)
/-- The numbers of drafted weights. -/
def wx (zs : List Nat) : List Rat := (wts zs).map rval
theorem wx_len (zs : List Nat) : (wx zs).length = (wts zs).length := by simp [wx]
theorem wx_ok (zs : List Nat) : Wok (wx zs) (wx zs).length ∧ cum (wx zs) (wx zs).length = 1 := ⟨(okW_parts (wts_ok zs)).2.2.1, (okW_parts (wts_ok zs)).2.2.2⟩
theorem law_wt {w : World} {v : Value} (zs : List Nat) {i n : Nat} (hi : i < (wts zs).length) (hn : n ≤ 200) (hv : Qs w v (wts zs)) (hg : Good w) : Calls Tryz.prog 11 #[v, .int .i64 i, .int .i64 n] w (RetV w (.tuple #[.string (rt (lawR (wx zs) n i)), .int .i64 0])) := by
  have h := dlaw_any (wts zs) (i : Int) (n : Int) (by have := (wts_len zs).2; omega) (wts_short zs) hv hg
  have e : lawE (wts zs) i n = 0 := by unfold lawE; rw [wts_ok, if_pos rfl, if_pos ⟨by omega, by omega, by omega, by omega⟩]
  have es : lawS (wts zs) i n = rt (lawR (wx zs) n i) := by unfold lawS; rw [if_pos e]; rfl
  rw [e, es] at h
  exact h
theorem left_wt {w : World} {v : Value} (zs : List Nat) {n : Nat} (hn : n ≤ 200) (hv : Qs w v (wts zs)) (hg : Good w) : Calls Tryz.prog 12 #[v, .int .i64 n] w (RetV w (.tuple #[.string (rt (leftR (wx zs) n (wx zs).length)), .int .i64 0])) := by
  have h := dleft_any (wts zs) (n : Int) (by have := (wts_len zs).2; omega) (wts_short zs) hv hg
  have e : lefE (wts zs) n = 0 := by unfold lefE; rw [wts_ok, if_pos rfl, if_pos ⟨by omega, by omega⟩]
  have es : lefS (wts zs) n = rt (leftR (wx zs) n (wx zs).length) := by unfold lefS; rw [if_pos e, wx_len]; rfl
  rw [e, es] at h
  exact h
theorem divInt_two (k : Int) (n : Nat) : Rat.divInt k ((2 ^ n : Nat) : Int) = (k : Rat) / ((2 ^ n : Nat) : Rat) := by
  rw [divInt_div]; push_cast; rfl
theorem pow63 {n : Nat} (h : n ≤ 60) : 2 ^ n ≤ 1152921504606846976 := Nat.le_trans (Nat.pow_le_pow_right (by omega) h) (by decide)
/-- ratio.Of at a number of strings. -/
theorem of_two {w : World} {k : Int} {n : Nat} (h0 : -9223372036854775808 ≤ k) (h1 : k ≤ 9223372036854775807) (hn : n ≤ 60) (hg : Good w) : Calls Tryz.prog 26 #[.int .i64 k, .int .i64 ((2 ^ n : Nat) : Int)] w (RetV w (.tuple #[.string (rt ((k : Rat) / ((2 ^ n : Nat) : Rat))), .int .i64 0])) := by
  have h := rofr_any (w := w) (n := k) (d := ((2 ^ n : Nat) : Int)) h0 h1 (by have h2 := Nat.pow_pos (n := n) (show 0 < 2 by omega); generalize 2 ^ n = M at *; omega) (by have h2 := pow63 hn; generalize 2 ^ n = M at *; omega) (by have h2 := Nat.pow_pos (n := n) (show 0 < 2 by omega); generalize 2 ^ n = M at *; omega) hg
  rw [divInt_two] at h
  exact h
theorem two_on (k : Int) (n : Nat) : On (2 ^ n) ((k : Rat) / ((2 ^ n : Nat) : Rat)) := ⟨k, Rat.div_mul_cancel (two_ne n)⟩
theorem two_fitK {k : Int} {n : Nat} (h0 : 0 ≤ k) (h1 : k ≤ 16) (hn : n ≤ 210) : fitsD 2000 ((k : Rat) / ((2 ^ n : Nat) : Rat)) := by
  have hp := two_pos n
  have hk : (0 : Rat) ≤ (k : Rat) := by exact_mod_cast h0
  have hk2 : (k : Rat) ≤ 16 := by exact_mod_cast h1
  have h2 : (1 : Rat) ≤ ((2 ^ n : Nat) : Rat) := by exact_mod_cast Nat.one_le_two_pow
  have e : ((16 : Nat) : Rat) = 16 := rfl
  have hx0 : 0 ≤ (k : Rat) / ((2 ^ n : Nat) : Rat) := by rw [le_div2, Rat.zero_mul]; exact hk
  have hx1 : (k : Rat) / ((2 ^ n : Nat) : Rat) ≤ 16 := by
    rw [div2_le]
    have := Rat.mul_le_mul_of_nonneg_left h2 (show (0 : Rat) ≤ 16 by decide)
    grind
  refine fits_up ((two_on k n).fitK (K := 16) (d := 79) (by rw [e]; grind) (by rw [e]; exact hx1) (Nat.pow_pos (by omega)) (by omega) ?_) (by omega)
  exact Nat.lt_of_lt_of_le (Nat.mul_lt_mul_of_pos_right (two_lt n hn) (by omega)) (by decide)
theorem law_nonneg (ws : List Rat) (n i : Nat) : 0 ≤ lawR ws n i := shareR_nonneg _ _ _
theorem law_mono (ws : List Rat) (n i : Nat) : lawR ws n i ≤ lawR ws (n + 1) i := shareR_mono _ _ _
theorem law_most {ws : List Rat} {k : Nat} (h : Wok ws k) {i : Nat} (hi : i < k) (n : Nat) : lawR ws n i ≤ ws.getD i 0 := by
  have h2 := shareR_le (cum_mono h hi) n
  have h3 : cum ws (i + 1) = cum ws i + ws.getD i 0 := rfl
  have h4 : lawR ws n i = shareR (cum ws i) (cum ws (i + 1)) n := rfl
  rw [h4]; grind
theorem law_near (ws : List Rat) (n i : Nat) : ws.getD i 0 - lawR ws n i < ((2 : Int) : Rat) / ((2 ^ n : Nat) : Rat) := by
  have h2 := shareR_near (f := cum ws i) (t := cum ws (i + 1)) n
  have h3 : cum ws (i + 1) = cum ws i + ws.getD i 0 := rfl
  have h4 : lawR ws n i = shareR (cum ws i) (cum ws (i + 1)) n := rfl
  have e : ((2 : Int) : Rat) = 2 := rfl
  rw [h4, e]; grind
/-- What the parts add up to, on the way. -/
def sumA (ws : List Rat) (n i : Nat) : Rat := leftR ws n ws.length + (1 - leftR ws n i)
theorem sumA_zero (ws : List Rat) (n : Nat) : sumA ws n 0 = leftR ws n ws.length := by
  show leftR ws n ws.length + (1 - 1) = _; grind
theorem sumA_succ (ws : List Rat) (n i : Nat) : sumA ws n (i + 1) = sumA ws n i + lawR ws n i := by
  show leftR ws n ws.length + (1 - (leftR ws n i - lawR ws n i)) = leftR ws n ws.length + (1 - leftR ws n i) + lawR ws n i; grind
theorem sumA_end (ws : List Rat) (n : Nat) : sumA ws n ws.length = 1 := by unfold sumA; grind
theorem sumA_fit {ws : List Rat} (h : Wok ws ws.length) (h1 : cum ws ws.length = 1) {n i : Nat} (hn : n ≤ 210) (hi : i ≤ ws.length) : fitsD 2000 (sumA ws n i) := by
  have a1 := left_le ws n ws.length
  have a2 := left_le ws n i
  have a3 := leftR_ge h n ws.length (Nat.le_refl _)
  have a4 := leftR_ge h n i hi
  have a5 := cum_one h h1 hi
  have e : ((2 : Nat) : Rat) = 2 := rfl
  have o1 : On (2 ^ n) (1 : Rat) := left_on ws n 0
  refine fits_up (((left_on ws n ws.length).add (o1.sub (left_on ws n i))).fitK (K := 2) (d := 74) ?_ ?_ (Nat.pow_pos (by omega)) (by omega) ?_) (by omega)
  · rw [e]; grind
  · rw [e]; grind
  · exact Nat.lt_of_lt_of_le (Nat.mul_lt_mul_of_pos_right (two_lt n hn) (by omega)) (by decide)
theorem wx_at (zs : List Nat) {i : Nat} (hi : i < (wts zs).length) : (⟨((wts zs).getD i []).toArray⟩ : ByteArray) = rt ((wx zs).getD i 0) := by rw [wts_text zs hi]; rfl
theorem wx_fit (zs : List Nat) {i : Nat} (hi : i < (wts zs).length) : fitsD 4 ((wx zs).getD i 0) := ((wx_ok zs).1.2 i (by rw [wx_len]; exact hi)).2
theorem less_fit (zs : List Nat) {i n : Nat} (hi : i < (wts zs).length) (hn : n ≤ 210) : fitsD 2000 ((wx zs).getD i 0 - lawR (wx zs) n i) := by
  obtain ⟨h1, h2⟩ := wx_ok zs
  have hl := wx_len zs
  have ho := (On.den ((wx zs).getD i 0)).more (2 ^ n)
  have hq : On ((2 ^ n) * ((wx zs).getD i 0).den) (lawR (wx zs) n i) := (share_on _ _ n).more _
  rw [Nat.mul_comm] at hq
  have h3 := shareR_le (cum_mono h1 (i := i) (by omega)) n
  have h4 : cum (wx zs) (i + 1) = cum (wx zs) i + (wx zs).getD i 0 := rfl
  have h5 := shareR_nonneg (cum (wx zs) i) (cum (wx zs) (i + 1)) n
  have h6 : lawR (wx zs) n i = shareR (cum (wx zs) i) (cum (wx zs) (i + 1)) n := rfl
  have h7 := (fit4 (wx_fit zs hi) (h1.2 i (by omega)).1).2
  have h8 := cum_one h1 h2 (i := i + 1) (by omega)
  have h9 := (cum_bounds h1 i (by omega)).1
  refine fits_up ((ho.sub hq).fit (d := 73) (by grind) (by grind) (Nat.mul_pos (Rat.den_pos _) (Nat.pow_pos (by omega))) ?_) (by omega)
  exact Nat.lt_of_le_of_lt (Nat.mul_le_mul h7 (Nat.le_of_lt (two_lt n hn))) (by decide)

set_option maxHeartbeats 16000000 in
set_option maxRecDepth 100000 in
theorem drawNear_any {w : World} {v : Value} (zs : List Nat) (m : Nat) (hz : ∀ z ∈ zs, z < 256) (hv : U8s w v zs) (hm : m < 256) (hg : Good w) : Calls Tryz.prog 8 #[v, .int .u8 m] w (RetV w (.bool true)) := by
  obtain ⟨k1, k2⟩ := wx_ok zs
  have hlen := wts_len zs
  have hxl := wx_len zs
  have HG := Lib.hid (fun (V : World) (hV : Below w.heap.size w V) => hg.below hV)
  have HWK := Lib.hid (works_any hg)
  have HWT := Lib.hid (fun (V : World) (hV : Below w.heap.size w V) => weights_any (w := V) zs hz (hv.below hV) (hg.below hV))
  obtain ⟨ao, cap, rfl, -, -, -⟩ := hv.open_
  clear hv hz hg
  obtain ⟨N, hN, hN60⟩ : ∃ N : Nat, N = m % 60 ∧ N ≤ 59 := ⟨_, rfl, by omega⟩
  have hrem : ((m : Int).tmod 60) = (N : Int) := by rw [Int.tmod_eq_emod_of_nonneg (by omega)]; omega
  have hrem2 : (m : Int) % 60 = (N : Int) := by omega
  clear hN
  obtain ⟨xs, hxs⟩ : ∃ xs, xs = wx zs := ⟨_, rfl⟩
  have a1 : (0 : Rat) ≤ leftR xs N xs.length := by have := leftR_ge k1 N _ (Nat.le_refl _); rw [hxs]; grind
  have a2 : leftR xs N xs.length ≤ (((xs.length : Int) - 1 : Int) : Rat) / ((2 ^ N : Nat) : Rat) := by
    have h := leftR_most (ws := xs) N (by rw [hxs]; omega) (by rw [hxs]; exact k2)
    have e : (((xs.length : Int) - 1 : Int) : Rat) = (xs.length : Rat) - 1 := by push_cast; rfl
    rw [e]; exact h
  have fz : fitsD 2000 0 := by decide +kernel
  have z0 : rt 0 = ⟨#[48]⟩ := by decide +kernel
  have fl : fitsD 2000 (leftR xs N xs.length) := fits_up (left_fit (by rw [hxs]; exact k1) (by rw [hxs]; exact k2) (Nat.le_refl _) (by omega)) (by omega)
  have fb : fitsD 2000 ((((xs.length : Int) - 1 : Int) : Rat) / ((2 ^ N : Nat) : Rat)) := two_fitK (by rw [hxs]; omega) (by rw [hxs]; omega) (by omega)
  have ft : fitsD 2000 (((2 : Int) : Rat) / ((2 ^ N : Nat) : Rat)) := two_fitK (by omega) (by omega) (by omega)
  have HM1 := Lib.hid (fun (V : World) (hV : Good V) => (by have h := most_rt (w := V) fz fl hV; rw [decide_eq_true a1, z0] at h; exact h : Calls Tryz.prog 27 #[.string ⟨#[48]⟩, .string (rt (leftR xs N xs.length))] V (RetV V (.bool true))))
  have HM2 := Lib.hid (fun (V : World) (hV : Good V) => (by have h := most_rt (w := V) fl fb hV; rw [decide_eq_true a2] at h; exact h : Calls Tryz.prog 27 #[.string (rt (leftR xs N xs.length)), .string (rt ((((xs.length : Int) - 1 : Int) : Rat) / ((2 ^ N : Nat) : Rat)))] V (RetV V (.bool true))))
  have HLF := Lib.hid (fun (V : World) v (hq : Qs V v (wts zs)) (hV : Good V) => left_wt (w := V) zs (n := N) (by omega) hq hV)
  have HO1 := Lib.hid (fun (V : World) (hV : Good V) => of_two (w := V) (k := (xs.length : Int) - 1) (n := N) (by omega) (by rw [hxs]; omega) (by omega) hV)
  have HO2 := Lib.hid (fun (V : World) (hV : Good V) => of_two (w := V) (k := 2) (n := N) (by omega) (by omega) (by omega) hV)
  rw [← hxs] at HLF
  have hlx : ((wts zs).length : Int) = (xs.length : Int) := by rw [hxs, hxl]
  have HLW := Lib.hid (fun (i : Nat) (hi : i < xs.length) (V : World) v (hq : Qs V v (wts zs)) (hV : Good V) => law_wt (w := V) zs (i := i) (n := N) (by rw [hxs] at hi; omega) (by omega) hq hV)
  have HLN := Lib.hid (fun (i : Nat) (hi : i < xs.length) (V : World) v (hq : Qs V v (wts zs)) (hV : Good V) => (by have h := law_wt (w := V) zs (i := i) (n := N + 1) (by rw [hxs] at hi; omega) (by omega) hq hV; rw [show ((N + 1 : Nat) : Int) = (N : Int) + 1 by omega] at h; exact h : Calls Tryz.prog 11 #[v, .int .i64 i, .int .i64 ((N : Int) + 1)] V (RetV V (.tuple #[.string (rt (lawR (wx zs) (N + 1) i)), .int .i64 0]))))
  rw [← hxs] at HLW HLN
  have fp := fun (i : Nat) (hi : i < xs.length) => (fits_up (law_fit (ws := xs) (by rw [hxs]; exact k1) (by rw [hxs]; exact k2) hi (n := N) (by omega)) (by omega) : fitsD 2000 (lawR xs N i))
  have fn := fun (i : Nat) (hi : i < xs.length) => (fits_up (law_fit (ws := xs) (by rw [hxs]; exact k1) (by rw [hxs]; exact k2) hi (n := N + 1) (by omega)) (by omega) : fitsD 2000 (lawR xs (N + 1) i))
  have fq := fun (i : Nat) (hi : i < xs.length) => (by rw [hxs]; exact fits_up (wx_fit zs (by rw [hxs] at hi; omega)) (by omega) : fitsD 2000 (xs.getD i 0))
  have fs := fun (i : Nat) (hi : i < xs.length) => (by rw [hxs]; exact less_fit zs (by rw [hxs] at hi; omega) (by omega) : fitsD 2000 (xs.getD i 0 - lawR xs N i))
  have fa := fun (i : Nat) (hi : i ≤ xs.length) => (by rw [hxs]; exact sumA_fit k1 k2 (by omega) (by rw [hxs] at hi; exact hi) : fitsD 2000 (sumA xs N i))
  have HSU := Lib.hid (fun (i : Nat) (hi : i < xs.length) (V : World) (hV : Good V) => rsub_rt (w := V) (fq i hi) (fp i hi) (fs i hi) hV)
  have HAD := Lib.hid (fun (i : Nat) (hi : i < xs.length) (V : World) (hV : Good V) => (by
    have h := radd_rt (w := V) (fa i (by omega)) (fp i hi) (by rw [← sumA_succ]; exact fa (i + 1) (by omega)) hV
    rw [← sumA_succ] at h; exact h : Calls Tryz.prog 29 #[.string (rt (sumA xs N i)), .string (rt (lawR xs N i))] V (RetV V (.tuple #[.string (rt (sumA xs N (i + 1))), .int .i64 0]))))
  have HMA := Lib.hid (fun (i : Nat) (hi : i < xs.length) (V : World) (hV : Good V) => (by have h := most_rt (w := V) fz (fp i hi) hV; rw [decide_eq_true (law_nonneg xs N i), z0] at h; exact h : Calls Tryz.prog 27 #[.string ⟨#[48]⟩, .string (rt (lawR xs N i))] V (RetV V (.bool true))))
  have HMB := Lib.hid (fun (i : Nat) (hi : i < xs.length) (V : World) (hV : Good V) => (by
    have h := most_rt (w := V) (fp i hi) (fq i hi) hV
    rw [decide_eq_true (law_most (ws := xs) (k := xs.length) (by rw [hxs]; exact k1) hi N)] at h; exact h : Calls Tryz.prog 27 #[.string (rt (lawR xs N i)), .string (rt (xs.getD i 0))] V (RetV V (.bool true))))
  have HMC := Lib.hid (fun (i : Nat) (hi : i < xs.length) (V : World) (hV : Good V) => (by
    have h := most_rt (w := V) (fp i hi) (fn i hi) hV
    rw [decide_eq_true (law_mono xs N i)] at h; exact h : Calls Tryz.prog 27 #[.string (rt (lawR xs N i)), .string (rt (lawR xs (N + 1) i))] V (RetV V (.bool true))))
  have HMD := Lib.hid (fun (i : Nat) (hi : i < xs.length) (V : World) (hV : Good V) => (by
    have h := most_rt (w := V) ft (fs i hi) hV
    rw [decide_eq_false (show ¬ ((2 : Int) : Rat) / ((2 ^ N : Nat) : Rat) ≤ xs.getD i 0 - lawR xs N i from Rat.not_le.2 (law_near xs N i))] at h; exact h : Calls Tryz.prog 27 #[.string (rt (((2 : Int) : Rat) / ((2 ^ N : Nat) : Rat))), .string (rt (xs.getD i 0 - lawR xs N i))] V (RetV V (.bool false))))
  have HEL := Lib.hid (fun (i : Nat) (hi : i < xs.length) => (by rw [hxs]; exact wx_at zs (by rw [hxs] at hi; omega) : (⟨((wts zs).getD i []).toArray⟩ : ByteArray) = rt (xs.getD i 0)))
  have HS0 := Lib.hid (sumA_zero xs N)
  have HSE := Lib.hid (show rt (sumA xs N xs.length) = ⟨#[49]⟩ by rw [sumA_end]; decide +kernel)
  have hx8 : 1 ≤ xs.length ∧ xs.length ≤ 8 := by rw [hxs]; omega
  have HX8 := Lib.hid hx8
  have hw1 : wrap64 ((xs.length : Int) - 1) = (xs.length : Int) - 1 := by simp [wrap64]; omega
  obtain ⟨TN, hTN⟩ : ∃ TN : Nat, TN = 2 ^ N := ⟨_, rfl⟩
  have hp2 : wrap64 ((2 : Int) ^ N) = (TN : Int) := by
    have h1 := pow63 (n := N) (by omega)
    have h2 : (2 : Int) ^ N = (TN : Int) := by rw [hTN]; push_cast; rfl
    rw [h2]
    rw [← hTN] at h1
    simp [wrap64]; omega
  rw [← hTN] at HO1 HO2 HM2 HMD
  clear hTN
  generalize rt ((((xs.length : Int) - 1 : Int) : Rat) / (TN : Rat)) = BT at *
  generalize rt (((2 : Int) : Rat) / (TN : Rat)) = TT at *
  generalize hLT : rt (leftR xs N xs.length) = LT at *
  have HLT := Lib.hid hLT
  clear hLT
  have HLX := Lib.hid hlx
  clear a2 fb ft
  clear fp fn fq fs fa a1 fz fl k1 k2 hlen hxl hxs hlx z0 hx8
  go_enter Tryz.func8, Tryz.ntmps8
  go_upto_region 3 with (go_at_call 9; refine HWK.out.mono ?_; rintro e w1 ⟨rfl, hb1⟩)
  go_upto_region 4 with (go_at_call 18; refine (HWT.out _ hb1).mono ?_; rintro e w2 ⟨rv, rfl, hq, hb2⟩; obtain ⟨qa, qc, rfl, -, -, hq3, hq4⟩ := id hq)
  have hK := Lib.hid (next_below hb1 hb2)
  have hQ := Lib.hid hq
  clear hb1 hb2 hq HWT HWK
  generalize (wts zs).length = wl at *
  obtain rfl : wl = xs.length := by have := HLX.out; omega
  go_wp2_with fail
  refine (HLF.out _ _ hQ.out (HG.out _ hK.out)).mono ?_
  rintro e wz ⟨rfl, hb⟩
  replace hK := Lib.hid (next_below hK.out hb)
  replace hQ := Lib.hid (hQ.out.below hb)
  clear hb
  go_wp2_with fail
  refine (HO1.out _ (HG.out _ hK.out)).mono ?_
  rintro e wz ⟨rfl, hb⟩
  replace hK := Lib.hid (next_below hK.out hb)
  replace hQ := Lib.hid (hQ.out.below hb)
  clear hb
  go_wp2_with fail
  refine (HO2.out _ (HG.out _ hK.out)).mono ?_
  rintro e wz ⟨rfl, hb⟩
  replace hK := Lib.hid (next_below hK.out hb)
  replace hQ := Lib.hid (hQ.out.below hb)
  clear hb
  go_wp2_with fail
  refine (HM1.out _ (HG.out _ hK.out)).mono ?_
  rintro e wz ⟨rfl, hb⟩
  replace hK := Lib.hid (next_below hK.out hb)
  replace hQ := Lib.hid (hQ.out.below hb)
  clear hb
  go_wp2_with fail
  refine (HM2.out _ (HG.out _ hK.out)).mono ?_
  rintro e wz ⟨rfl, hb⟩
  replace hK := Lib.hid (next_below hK.out hb)
  replace hQ := Lib.hid (hQ.out.below hb)
  clear hb
  go_wp2_with fail
  go_loopw [13, 74] (fun u13 u74 wr => ∃ i : Nat, i ≤ xs.length ∧ u74 = .int .i64 (i : Int) ∧ u13 = .string (rt (sumA xs N i)) ∧ Hid (Qs wr (.slice qa xs.length qc) (wts zs)) ∧ Hid (Below w.heap.size w wr)) (fun _ u74 _ => xs.length - (intOf u74).toNat)
  case atStart => exact ⟨0, by omega, rfl, by rw [HS0.out, HLT.out], hQ, hK⟩
  case round =>
    clear hQ hK
    obtain ⟨i, hi, rfl, rfl, hQ, hK⟩ := hrel
    by_cases hlt : i < xs.length
    · have hlti : ((i : Int) < xs.length) := by omega
      have hx8 := HX8.out
      obtain ⟨qp, rfl⟩ : ∃ p, qa = some p := qs_some hQ.out hlt
      have hcl := qs_cell hQ.out hlt
      rw [HEL.out i hlt] at hcl
      have HLW1 := Lib.hid (HLW.out i hlt)
      have HLN1 := Lib.hid (HLN.out i hlt)
      have HSU1 := Lib.hid (HSU.out i hlt)
      have HAD1 := Lib.hid (HAD.out i hlt)
      have HMA1 := Lib.hid (HMA.out i hlt)
      have HMB1 := Lib.hid (HMB.out i hlt)
      have HMC1 := Lib.hid (HMC.out i hlt)
      have HMD1 := Lib.hid (HMD.out i hlt)
      clear HLW HLN HSU HAD HMA HMB HMC HMD HEL HSE HS0 HM1 HM2 HLF HO1 HO2
      generalize rt (lawR xs N i) = PT at *
      generalize rt (lawR xs (N + 1) i) = NT at *
      generalize rt (xs.getD i 0 - lawR xs N i) = ST at *
      generalize rt (xs.getD i 0) = QT at *
      generalize hAT : rt (sumA xs N (i + 1)) = AT at *
      have HAT := Lib.hid hAT
      clear hAT
      go_wp2_with fail
      refine (HLW1.out _ _ hQ.out (HG.out _ hK.out)).mono ?_
      rintro e wz ⟨rfl, hb⟩
      replace hK := Lib.hid (next_below hK.out hb)
      replace hQ := Lib.hid (hQ.out.below hb)
      clear hb
      go_wp2_with fail
      refine (HLN1.out _ _ hQ.out (HG.out _ hK.out)).mono ?_
      rintro e wz ⟨rfl, hb⟩
      replace hK := Lib.hid (next_below hK.out hb)
      replace hQ := Lib.hid (hQ.out.below hb)
      clear hb
      go_wp2_with fail
      refine (HSU1.out _ (HG.out _ hK.out)).mono ?_
      rintro e wz ⟨rfl, hb⟩
      replace hK := Lib.hid (next_below hK.out hb)
      replace hQ := Lib.hid (hQ.out.below hb)
      clear hb
      go_wp2_with fail
      refine (HMA1.out _ (HG.out _ hK.out)).mono ?_
      rintro e wz ⟨rfl, hb⟩
      replace hK := Lib.hid (next_below hK.out hb)
      replace hQ := Lib.hid (hQ.out.below hb)
      clear hb
      go_wp2_with fail
      refine (HMB1.out _ (HG.out _ hK.out)).mono ?_
      rintro e wz ⟨rfl, hb⟩
      replace hK := Lib.hid (next_below hK.out hb)
      replace hQ := Lib.hid (hQ.out.below hb)
      clear hb
      go_wp2_with fail
      refine (HMC1.out _ (HG.out _ hK.out)).mono ?_
      rintro e wz ⟨rfl, hb⟩
      replace hK := Lib.hid (next_below hK.out hb)
      replace hQ := Lib.hid (hQ.out.below hb)
      clear hb
      go_wp2_with fail
      refine (HMD1.out _ (HG.out _ hK.out)).mono ?_
      rintro e wz ⟨rfl, hb⟩
      replace hK := Lib.hid (next_below hK.out hb)
      replace hQ := Lib.hid (hQ.out.below hb)
      clear hb
      go_wp2_with fail
      refine (HAD1.out _ (HG.out _ hK.out)).mono ?_
      rintro e wz ⟨rfl, hb⟩
      replace hK := Lib.hid (next_below hK.out hb)
      replace hQ := Lib.hid (hQ.out.below hb)
      clear hb
      go_wp2
      go_roundw
      case rel => exact ⟨i + 1, by omega, by go_num, by rw [HAT.out], hQ, hK⟩
      case measure => simp [intOf]; omega
    · obtain rfl : i = xs.length := by omega
      rw [HSE.out]
      go_wp2
      go_ret
      exact ⟨rfl, hK.out⟩
end Go.Proofs.YtfjjdjhnodcfhaaGreatDoor
