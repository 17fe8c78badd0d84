/- The reference's walks: Power, Sum, Right, Law, Left of croupierref10. -/
import Derived.Test.YtfjjdjhnodcfhaaGreatDoorDWorks
set_option linter.unusedSimpArgs false
set_option linter.unusedVariables false
namespace Go.Proofs.YtfjjdjhnodcfhaaGreatDoor
open Go.RowKit
open Go.Lib (decDigits itoa nDigits)
open D4 (rt it Mid)

theorem qs_some' {w : World} {a : Option Addr} {n c i : Nat} {ts : List (List UInt8)} (h : Qs w (.slice a n c) ts) (hi : i < n) : ∃ p, a = some p := by
  obtain ⟨a', c', e, h1, h2, h3, h4⟩ := h
  injection e with e1 e2 e3
  subst e1
  rcases h3 with h3 | ⟨p, hp⟩
  · subst h3; simp at e2; omega
  · exact ⟨p, hp⟩
theorem qs_cell' {w : World} {p : Addr} {n c i : Nat} {ts : List (List UInt8)} (h : Qs w (.slice (some p) n c) ts) (hi : i < n) : w.cell? (p.add i) = some (.string ⟨(ts.getD i []).toArray⟩) := by
  obtain ⟨a', c', e, h1, h2, h3, h4⟩ := h
  injection e with e1 e2 e3
  exact h4 p e1.symm i (by omega)
theorem rt_one_iff (x : Rat) : ((rt x).toList == [49]) = decide (x = 1) := by
  have hl : (rt x).toList = ratText x := ba_list (ratText x)
  have h1 : ratText 1 = [49] := by decide +kernel
  by_cases h : x = 1
  · subst h
    rw [hl, h1]; simp
  · rw [decide_eq_false h, beq_eq_false_iff_ne, hl]
    intro hc
    exact h (ratText_inj (by rw [hc, h1]))
theorem two_pow (n : Nat) : (2 : Rat) ^ n = ((2 ^ n : Nat) : Rat) := by push_cast; rfl
theorem wOk_text {l : List UInt8} (h : wOk l = true) : (⟨l.toArray⟩ : ByteArray) = rt (rval l) := by
  unfold wOk at h
  simp only [Bool.and_eq_true, decide_eq_true_eq] at h
  have h1 := rshort_fit h.1
  show _ = (⟨(ratText (rval l)).toArray⟩ : ByteArray)
  rw [← rerr_canon (l := l) (by rw [h1.1]; decide)]

theorem mid_12 : Mid 1 ∧ Mid 2 := by unfold Mid fitsD; decide +kernel
theorem rpower_rt {w : World} (n : Nat) (hn : n ≤ 210) (hg : Good w) : Calls Tryz.prog 59 #[.int .i64 n] w (RetV w (.string (rt (pw n)))) := by
  have h2 : (⟨#[50]⟩ : ByteArray) = rt 2 := by decide +kernel
  have h1 : (⟨#[49]⟩ : ByteArray) = rt 1 := by decide +kernel
  have HP := Lib.hid (D4.pow_rt (w := w) (x := 2) n (by omega) mid_12.2 (fun i hi => by rw [two_pow]; exact fits_up (two_fit (k := i) (by omega)) (by omega)) hg)
  rw [two_pow] at HP
  have HD := Lib.hid (fun (V : World) (hV : Good V) => div2_rt (w := V) (x := 1) (y := ((2 ^ n : Nat) : Rat)) mid_12.1 (fits_up (two_fit (k := n) (by omega)) (by omega)) (two_ne n) hV)
  have HG := Lib.hid (fun (V : World) (hV : Below w.heap.size w V) => hg.below hV)
  rw [← h2] at HP
  rw [← h1] at HD
  unfold pw
  generalize rt (1 / ((2 ^ n : Nat) : Rat)) = R at *
  generalize rt ((2 ^ n : Nat) : Rat) = S at *
  clear hg h1 h2
  go_enter Tryz.func59, Tryz.ntmps59
  go_wp2_with (first
    | (go_at_call 52; refine HP.out.mono ?_; rintro e V ⟨rfl, hb⟩; have HB := Lib.hid hb; have HGV := Lib.hid (HG.out _ hb); clear hb)
    | (go_at_call 103; refine (HD.out _ HGV.out).mono ?_; rintro e V2 ⟨rfl, hb2⟩; have HB2 := Lib.hid (next_below HB.out hb2); clear hb2))
  go_ret
  exact ⟨rfl, HB2.out⟩

set_option maxHeartbeats 2000000 in
theorem sign2_rt {w : World} {x : Rat} (hx : fitsD 40000 x) : Calls Tryz.prog 46 #[.string (rt x)] w (RetV w (.int .i64 x.num.sign)) := by
  have H1 := Lib.hid (fun (V : World) => D4.parts_rt (w := V) hx)
  have H2 := Lib.hid (fun (V : World) => D4.sign_it (w := V) x.num)
  have HB0 := Lib.hid (Below.refl w.heap.size w)
  generalize x.num.sign = sx at *
  generalize it x.num = A at *
  generalize it (x.den : Int) = B at *
  generalize rt x = S at *
  clear hx
  go_enter Tryz.func46, Tryz.ntmps46
  go_wp2_with fail
  refine (H1.out _).mono ?_
  rintro e V ⟨rfl, kk⟩
  have K1 := Lib.hid (next_below HB0.out kk)
  clear kk
  go_wp2_with fail
  refine (H2.out _).mono ?_
  rintro e V ⟨rfl, kk⟩
  have K2 := Lib.hid (next_below K1.out kk)
  clear kk
  go_wp2
  go_ret
  exact ⟨rfl, K2.out⟩

set_option maxHeartbeats 4000000 in
set_option maxRecDepth 100000 in
theorem rsum_any {w : World} {v : Value} (ts : List (List UInt8)) (hl : ts.length ≤ 17) (hall : ts.all wOk = true) (hv : Qs w v ts) (hg : Good w) :
    Calls Tryz.prog 47 #[v] w (RetV w (.string (rt (cum (ts.map rval) ts.length)))) := by
  have hvs := hv
  obtain ⟨ao, cap, rfl, -, -, -, -⟩ := hv
  have hwk : ∀ i, i < ts.length → wOk (ts.getD i []) = true := fun i hi => by
    rw [List.getD_eq_getElem?_getD, List.getElem?_eq_getElem hi]
    exact List.all_eq_true.1 hall _ (List.getElem_mem hi)
  have hW : Wok (ts.map rval) ts.length := wok_of (Nat.le_refl _) hl hwk
  have hgd : ∀ i, i < ts.length → (ts.map rval).getD i 0 = rval (ts.getD i []) := fun i hi => by
    rw [List.getD_eq_getElem?_getD, List.getD_eq_getElem?_getD, List.getElem?_map, List.getElem?_eq_getElem hi]; rfl
  obtain ⟨PW, hPW⟩ : ∃ f : Nat → ByteArray, f = fun i => rt (cum (ts.map rval) i) := ⟨_, rfl⟩
  obtain ⟨TX, hTX⟩ : ∃ f : Nat → ByteArray, f = fun i => ⟨(ts.getD i []).toArray⟩ := ⟨_, rfl⟩
  have HADD := Lib.hid (fun (i : Nat) (hi : i < ts.length) (V : World) (hV : Good V) => show Calls Tryz.prog 56 #[.string (PW i), .string (TX i)] V (RetV V (.string (PW (i + 1)))) from by
    rw [hPW, hTX]
    have e := wOk_text (hwk i hi)
    show Calls Tryz.prog 56 #[.string (rt (cum (ts.map rval) i)), .string ⟨(ts.getD i []).toArray⟩] V _
    rw [e, ← hgd i hi]
    exact D4.add_rt (fits_up (cum_fit hW (i := i) (by omega)) (by omega)) (fits_up (hW.2 i hi).2 (by omega)) hV)
  have HC := Lib.hid (fun (i : Nat) (hi : i < ts.length) (p : Addr) (hp : ao = some p) (V : World) (hV : Below w.heap.size w V) => show V.cell? (p.add i) = some (.string (TX i)) from by
    subst hp; rw [hTX]; exact qs_cell' (hvs.below hV) hi)
  have HS := Lib.hid (fun (i : Nat) (hi : i < ts.length) => qs_some' hvs hi)
  have E0 : Hid ((⟨#[48]⟩ : ByteArray) = PW 0) := Lib.hid (by rw [hPW]; show _ = rt 0; decide +kernel)
  have HG := Lib.hid (fun (V : World) (hV : Below w.heap.size w V) => hg.below hV)
  have er : rt (cum (ts.map rval) ts.length) = PW ts.length := by rw [hPW]
  rw [er]
  clear er hPW hTX hgd hW hwk hvs hall hg
  generalize ts.length = n at *
  go_enter Tryz.func47, Tryz.ntmps47
  go_wp2_with fail
  rw [E0.out]
  go_loopw [3, 4] (fun u3 u4 wr => ∃ i : Nat, i ≤ n ∧ u3 = .string (PW i) ∧ u4 = .int .i64 (i : Int) ∧ Hid (Below w.heap.size w wr)) (fun _ u4 _ => n - (intOf u4).toNat)
  case atStart => exact ⟨0, by omega, rfl, rfl, Lib.hid (Below.refl _ _)⟩
  case round =>
    obtain ⟨i, hi, rfl, rfl, hB⟩ := hrel
    by_cases hlt : i < n
    · obtain ⟨p, rfl⟩ := HS.out i hlt
      have hc := HC.out i hlt p rfl wr hB.out
      have l1 : (i : Int) < (n : Int) := by omega
      go_wp2_with (go_at_call 56; refine (HADD.out i hlt _ (HG.out _ hB.out)).mono ?_; rintro e V ⟨rfl, hb⟩; have HB2 := Lib.hid (next_below hB.out hb); clear hb hc)
      go_roundw
      case rel => exact ⟨i + 1, by omega, rfl, by go_num, HB2⟩
      case measure => simp [intOf]; omega
    · obtain rfl : i = n := by omega
      go_wp2
      go_ret
      exact ⟨rfl, hB.out⟩

set_option maxHeartbeats 4000000 in
set_option maxRecDepth 100000 in
theorem rright_any {w : World} {v : Value} (ts : List (List UInt8)) (hlen : ts.length ≤ 1000) (hts : ∀ l ∈ ts, l.length ≤ 39000) (hv : Qs w v ts) (hg : Good w) :
    Calls Tryz.prog 19 #[v] w (RetV w (.bool (okW ts))) := by
  have hvs := hv
  obtain ⟨ao, cap, rfl, -, -, -, -⟩ := hv
  by_cases hn1 : ts.length < 1
  · have e : okW ts = false := by unfold okW; rw [decide_eq_false (by omega)]; rfl
    rw [e]
    clear e hvs hts
    generalize ts.length = n at *
    have l1 : (n : Int) < 1 := by omega
    go_enter Tryz.func19, Tryz.ntmps19
    go_wp2
    go_ret
    exact ⟨rfl, Below.refl _ _⟩
  · by_cases hn2 : 16 < ts.length
    · have e : okW ts = false := by unfold okW; rw [decide_eq_false (p := ts.length ≤ 16) (by omega)]; simp
      rw [e]
      clear e hvs hts
      generalize ts.length = n at *
      have l1 : ¬ (n : Int) < 1 := by omega
      have l2 : (n : Int) > 16 := by omega
      go_enter Tryz.func19, Tryz.ntmps19
      go_wp2
      go_ret
      exact ⟨rfl, Below.refl _ _⟩
    · obtain ⟨TX, hTX⟩ : ∃ f : Nat → ByteArray, f = fun i => ⟨(ts.getD i []).toArray⟩ := ⟨_, rfl⟩
      have hmem : ∀ i, i < ts.length → ts.getD i [] ∈ ts := fun i hi => by
        rw [List.getD_eq_getElem?_getD, List.getElem?_eq_getElem hi]; exact List.getElem_mem hi
      have HSH := Lib.hid (fun (i : Nat) (hi : i < ts.length) (V : World) (hV : Good V) => show Calls Tryz.prog 45 #[.string (TX i)] V (RetV V (.bool (rshort (ts.getD i [])))) from by
        rw [hTX]; exact D4.short2_any (ts.getD i []) (hts _ (hmem i hi)) hV)
      have HSG := Lib.hid (fun (i : Nat) (hi : i < ts.length) (hs : rshort (ts.getD i []) = true) (V : World) => show Calls Tryz.prog 46 #[.string (TX i)] V (RetV V (.int .i64 (rval (ts.getD i [])).num.sign)) from by
        rw [hTX]
        have h1 := rshort_fit hs
        have e : (⟨(ts.getD i []).toArray⟩ : ByteArray) = rt (rval (ts.getD i [])) := by
          show _ = (⟨(ratText (rval (ts.getD i []))).toArray⟩ : ByteArray)
          rw [← rerr_canon (l := ts.getD i []) (by rw [h1.1]; decide)]
        show Calls Tryz.prog 46 #[.string ⟨(ts.getD i []).toArray⟩] V _
        rw [e]
        exact sign2_rt (fits_up h1.2 (by omega)))
      have HNO := Lib.hid (fun (i : Nat) (hi : i < ts.length) (h : wOk (ts.getD i []) = false) => show okW ts = false from by
        have : ts.all wOk = false := by
          rw [List.all_eq_false]
          exact ⟨_, hmem i hi, by rw [h]; decide⟩
        unfold okW; rw [this]; simp)
      have HC := Lib.hid (fun (i : Nat) (hi : i < ts.length) (p : Addr) (hp : ao = some p) (V : World) (hV : Below w.heap.size w V) => show V.cell? (p.add i) = some (.string (TX i)) from by
        subst hp; rw [hTX]; exact qs_cell' (hvs.below hV) hi)
      have HS := Lib.hid (fun (i : Nat) (hi : i < ts.length) => qs_some' hvs hi)
      have HG := Lib.hid (fun (V : World) (hV : Below w.heap.size w V) => hg.below hV)
      have HSM := Lib.hid (fun (h : ∀ i, i < ts.length → wOk (ts.getD i []) = true) (V : World) (hV : Below w.heap.size w V) => show ts.all wOk = true ∧ Calls Tryz.prog 47 #[.slice ao ts.length cap] V (RetV V (.string (rt (cum (ts.map rval) ts.length)))) from by
        have hall : ts.all wOk = true := by
          rw [List.all_eq_true]
          intro l hl
          obtain ⟨i, hi, rfl⟩ := List.getElem_of_mem hl
          have := h i hi
          rwa [List.getD_eq_getElem?_getD, List.getElem?_eq_getElem hi] at this
        exact ⟨hall, rsum_any ts (by omega) hall (hvs.below hV) (hg.below hV)⟩)
      have HOK := Lib.hid (fun (h : ts.all wOk = true) => show okW ts = decide (cum (ts.map rval) ts.length = 1) from by
        unfold okW; rw [h, decide_eq_true (p := 1 ≤ ts.length) (by omega), decide_eq_true (p := ts.length ≤ 16) (by omega)]; simp)
      obtain ⟨RES, hRES⟩ : ∃ b, b = okW ts := ⟨_, rfl⟩
      rw [← hRES] at HOK HNO ⊢
      obtain ⟨OK, hOK⟩ : ∃ f : Nat → Bool, f = fun i => wOk (ts.getD i []) := ⟨_, rfl⟩
      obtain ⟨SH, hSH⟩ : ∃ f : Nat → Bool, f = fun i => rshort (ts.getD i []) := ⟨_, rfl⟩
      obtain ⟨RV, hRV⟩ : ∃ f : Nat → Rat, f = fun i => rval (ts.getD i []) := ⟨_, rfl⟩
      have HOKE := Lib.hid (fun i => show OK i = (SH i && decide (0 ≤ RV i)) from by rw [hOK, hSH, hRV]; rfl)
      have a1 : ∀ i, wOk (ts.getD i []) = OK i := fun i => by rw [hOK]
      have a2 : ∀ i, rshort (ts.getD i []) = SH i := fun i => by rw [hSH]
      have a3 : ∀ i, rval (ts.getD i []) = RV i := fun i => by rw [hRV]
      simp only [a1, a2, a3] at HSH HSG HNO HSM
      clear a1 a2 a3 hOK hSH hRV hRES hTX hmem hvs hts hg
      generalize cum (ts.map rval) ts.length = x at *
      generalize ts.all wOk = AL at *
      generalize ts.length = n at *
      have l1 : ¬ (n : Int) < 1 := by omega
      have l2 : ¬ (n : Int) > 16 := by omega
      go_enter Tryz.func19, Tryz.ntmps19
      go_wp2_with fail
      go_loopw [3] (fun u3 wr => ∃ i : Nat, i ≤ n ∧ u3 = .int .i64 (i : Int) ∧ Hid (∀ j, j < i → OK j = true) ∧ Hid (Below w.heap.size w wr)) (fun u3 _ => n - (intOf u3).toNat)
      case atStart => exact ⟨0, by omega, rfl, Lib.hid (fun j hj => absurd hj (by omega)), Lib.hid (Below.refl _ _)⟩
      case round =>
        obtain ⟨i, hi, rfl, hAll, hB⟩ := hrel
        by_cases hlt : i < n
        · obtain ⟨p, rfl⟩ := HS.out i hlt
          have hc := HC.out i hlt p rfl wr hB.out
          have HSHi := Lib.hid (HSH.out i hlt wr (HG.out _ hB.out))
          have hoke := HOKE.out i
          have q1 : (i : Int) < (n : Int) := by omega
          cases hs : SH i with
          | false =>
            have HF := Lib.hid (HNO.out i hlt (by rw [hoke, hs]; rfl))
            rw [hs] at HSHi
            clear hoke hs
            go_wp2_with (go_at_call 45; refine HSHi.out.mono ?_; rintro e V ⟨rfl, hb⟩; have HB2 := Lib.hid (next_below hB.out hb); clear hb)
            go_ret
            exact ⟨by rw [HF.out]; rfl, HB2.out⟩
          | true =>
            rw [hs] at HSHi hoke
            rw [Bool.true_and] at hoke
            have HSGi := Lib.hid (fun V => HSG.out i hlt hs V)
            have HOKi := Lib.hid hoke
            have HC2 := Lib.hid (fun V hV => HC.out i hlt p rfl V hV)
            clear hs hoke
            obtain ⟨z, hz⟩ : ∃ z : Int, z = (RV i).num.sign := ⟨_, rfl⟩
            rw [← hz] at HSGi
            have hzn : z < 0 ↔ RV i < 0 := by
              rw [hz, Int.sign_neg_iff]
              constructor
              · intro h; exact Rat.not_le.1 (fun h2 => by have := Rat.num_nonneg.2 h2; omega)
              · intro h
                have : ¬ 0 ≤ (RV i).num := fun h2 => by have := Rat.num_nonneg.1 h2; exact absurd h (Rat.not_lt.2 this)
                omega
            have HZN := Lib.hid hzn
            clear hz hzn
            by_cases hz0 : z < 0
            · have HF := Lib.hid (HNO.out i hlt (by rw [HOKi.out, decide_eq_false (Rat.not_le.2 (HZN.out.1 hz0))]))
              go_wp2_with (first
                | (go_at_call 45; refine HSHi.out.mono ?_; rintro e V ⟨rfl, hb⟩; have HB2 := Lib.hid (next_below hB.out hb); have hc2 := HC2.out _ HB2.out; clear hb)
                | (go_at_call 46; refine (HSGi.out _).mono ?_; rintro e V ⟨rfl, hb⟩; have HB3 := Lib.hid (next_below HB2.out hb); clear hb))
              go_ret
              exact ⟨by rw [HF.out]; rfl, HB3.out⟩
            · have HT := Lib.hid (show OK i = true by rw [HOKi.out]; exact decide_eq_true (Rat.not_lt.1 (fun h => hz0 (HZN.out.2 h))))
              go_wp2_with (first
                | (go_at_call 45; refine HSHi.out.mono ?_; rintro e V ⟨rfl, hb⟩; have HB2 := Lib.hid (next_below hB.out hb); have hc2 := HC2.out _ HB2.out; clear hb)
                | (go_at_call 46; refine (HSGi.out _).mono ?_; rintro e V ⟨rfl, hb⟩; have HB3 := Lib.hid (next_below HB2.out hb); clear hb))
              go_roundw
              case rel => exact ⟨i + 1, by omega, by go_num, Lib.hid (fun j hj => by
                by_cases h : j < i
                · exact hAll.out j h
                · obtain rfl : j = i := by omega
                  exact HT.out), HB3⟩
              case measure => simp [intOf]; omega
        · obtain rfl : i = n := by omega
          obtain ⟨hal, hsm⟩ := HSM.out hAll.out wr hB.out
          have HSUM := Lib.hid hsm
          have HR := Lib.hid (HOK.out hal)
          have HONE := Lib.hid (rt_one_iff x)
          clear hsm hal HOK
          generalize rt x = X at *
          generalize decide (x = 1) = D at *
          go_wp2_with (go_at_call 47; refine HSUM.out.mono ?_; rintro e V ⟨rfl, hb⟩; have HB2 := Lib.hid (next_below hB.out hb); have hone := HONE.out; clear hb)
          go_ret
          exact ⟨by rw [HR.out]; rfl, HB2.out⟩

set_option maxHeartbeats 4000000 in
set_option maxRecDepth 100000 in
theorem rlaw_any {w : World} {v : Value} (ts : List (List UInt8)) (i n : Nat) (hok : okW ts = true) (hi : i < ts.length) (hn : n ≤ 200) (hv : Qs w v ts) (hg : Good w) :
    Calls Tryz.prog 23 #[v, .int .i64 i, .int .i64 n] w (RetV w (.string (rt (lawR (ts.map rval) n i)))) := by
  obtain ⟨k1, k2, k3, k4⟩ := okW_parts hok
  have hvs := hv
  obtain ⟨ao, cap, rfl, hlc, hcm, -, -⟩ := hv
  obtain ⟨p, rfl⟩ := qs_some' hvs hi
  have hl : (ts.map rval).length = ts.length := by simp
  rw [hl] at k3
  have hall : ts.all wOk = true := by
    unfold okW at hok
    simp only [Bool.and_eq_true, decide_eq_true_eq] at hok
    exact hok.1.2
  have hwk : ∀ i, i < ts.length → wOk (ts.getD i []) = true := fun i hi => by
    rw [List.getD_eq_getElem?_getD, List.getElem?_eq_getElem hi]
    exact List.all_eq_true.1 hall _ (List.getElem_mem hi)
  have hgd : (ts.map rval).getD i 0 = rval (ts.getD i []) := by
    rw [List.getD_eq_getElem?_getD, List.getD_eq_getElem?_getD, List.getElem?_map, List.getElem?_eq_getElem hi]; rfl
  have hct : ∀ k, k ≤ i → cum ((ts.take i).map rval) k = cum (ts.map rval) k := by
    intro k
    induction k with
    | zero => intro _; rfl
    | succ k ih =>
      intro hk
      show cum _ k + _ = cum _ k + _
      rw [ih (by omega)]
      congr 1
      simp only [List.getD_eq_getElem?_getD, List.getElem?_map, List.getElem?_take]
      rw [if_pos (by omega)]
  have htl : (ts.take i).length = i := by rw [List.length_take]; omega
  have hallt : (ts.take i).all wOk = true := by
    rw [List.all_eq_true] at hall ⊢
    exact fun x hx => hall x (List.mem_of_mem_take hx)
  have HSUM := Lib.hid (fun (V : World) (hV : Below w.heap.size w V) => show Calls Tryz.prog 47 #[.slice (some p) i cap] V (RetV V (.string (rt (cum (ts.map rval) i)))) from by
    have hq := hvs.below hV
    have hq2 : Qs V (.slice (some p) i cap) (ts.take i) := by
      obtain ⟨a', c', e, h1, h2, h3, h4⟩ := hq
      injection e with e1 e2 e3
      refine ⟨some p, cap, by rw [htl], by rw [htl]; omega, hcm, .inr ⟨p, rfl⟩, ?_⟩
      intro q hqq j hj
      rw [htl] at hj
      have := h4 q (by rw [← e1]; exact hqq) j (by omega)
      simp only [List.getD_eq_getElem?_getD, List.getElem?_take] at this ⊢
      rw [if_pos hj]; exact this
    have := rsum_any (w := V) (ts.take i) (by omega) hallt hq2 (hg.below hV)
    rw [htl, hct i (Nat.le_refl _)] at this
    exact this)
  have HC := Lib.hid (fun (V : World) (hV : Below w.heap.size w V) => show V.cell? (p.add i) = some (.string (rt ((ts.map rval).getD i 0))) from by
    rw [hgd, ← wOk_text (hwk i hi)]; exact qs_cell' (hvs.below hV) hi)
  have hx0 := cum_fit k3 (i := i) (by omega)
  have hx1 := cum_fit k3 (i := i + 1) (by omega)
  have hw0 := (k3.2 i hi).2
  have hp2 : fitsD 70 ((2 ^ n : Nat) : Rat) := two_fit (k := n) (by omega)
  have HG := Lib.hid (fun (V : World) (hV : Below w.heap.size w V) => hg.below hV)
  have h2 : (⟨#[50]⟩ : ByteArray) = rt 2 := by decide +kernel
  have HP := Lib.hid (D4.pow_rt (w := w) (x := 2) n (by omega) mid_12.2 (fun i hi => by rw [two_pow]; exact fits_up (two_fit (k := i) (by omega)) (by omega)) hg)
  rw [two_pow, ← h2] at HP
  have HPW := Lib.hid (fun (V : World) (hV : Good V) => rpower_rt (w := V) n (by omega) hV)
  have hsh := shareR_cnt (cum (ts.map rval) i) (cum (ts.map rval) (i + 1)) n
  change lawR (ts.map rval) n i = _ at hsh
  have HM1 := Lib.hid (fun (V : World) (hV : Good V) => D4.mul_rt (w := V) (fits_up hx0 (by omega)) (fits_up hp2 (by omega)) hV)
  have HCE := Lib.hid (fun (V : World) (hV : Good V) => ceil2_rt (w := V) (fits_up (fits_mul hx0 hp2) (by omega)) hV)
  have HAD := Lib.hid (fun (V : World) (hV : Good V) => show Calls Tryz.prog 56 #[.string (rt (cum (ts.map rval) i)), .string (rt ((ts.map rval).getD i 0))] V (RetV V (.string (rt (cum (ts.map rval) (i + 1))))) from D4.add_rt (fits_up hx0 (by omega)) (fits_up hw0 (by omega)) hV)
  have HM2 := Lib.hid (fun (V : World) (hV : Good V) => D4.mul_rt (w := V) (fits_up hx1 (by omega)) (fits_up hp2 (by omega)) hV)
  have HFL := Lib.hid (fun (V : World) (hV : Good V) => floor2_rt (w := V) (fits_up (fits_mul hx1 hp2) (by omega)) hV)
  have hd1 : nDigits (-((-(cum (ts.map rval) i * ((2 ^ n : Nat) : Rat))).floor)).natAbs ≤ 150 := by
    rw [Int.natAbs_neg]
    exact floor_digits (x := -(cum (ts.map rval) i * ((2 ^ n : Nat) : Rat))) (by
      have h := fits_mul hx0 hp2
      exact ⟨by rw [Rat.neg_num, Int.natAbs_neg]; exact h.1, by rw [Rat.neg_den]; exact h.2⟩)
  have hd2 : nDigits ((cum (ts.map rval) (i + 1) * ((2 ^ n : Nat) : Rat)).floor).natAbs ≤ 150 := floor_digits (fits_mul hx1 hp2)
  have hlf := law_fit (by rw [hl]; exact k3) k4 (i := i) (by rw [hl]; exact hi) (n := n) (by omega)
  have hcr : cntR (cum (ts.map rval) i) (cum (ts.map rval) (i + 1)) n = (cum (ts.map rval) (i + 1) * ((2 ^ n : Nat) : Rat)).floor - -((-(cum (ts.map rval) i * ((2 ^ n : Nat) : Rat))).floor) := rfl
  have HSB := Lib.hid (fun (V : World) (hV : Good V) => show Calls Tryz.prog 57 #[.string (it ((cum (ts.map rval) (i + 1) * ((2 ^ n : Nat) : Rat)).floor)), .string (it (-((-(cum (ts.map rval) i * ((2 ^ n : Nat) : Rat))).floor)))] V (RetV V (.string (it (cntR (cum (ts.map rval) i) (cum (ts.map rval) (i + 1)) n)))) from D4.sub_any _ _ (Nat.le_trans hd2 (by omega)) (Nat.le_trans hd1 (by omega)) hV)
  clear hcr hd1 hd2 hw0 hwk hgd hct htl hallt hall
  generalize cntR (cum (ts.map rval) i) (cum (ts.map rval) (i + 1)) n = z at *
  have HSI := Lib.hid (fun (V : World) => D4.sign_it (w := V) z)
  obtain ⟨LW, hLW⟩ : ∃ L, L = lawR (ts.map rval) n i := ⟨_, rfl⟩
  rw [← hLW] at hsh hlf ⊢
  have hz0 : ¬ z < 0 → ((z : Int) : Rat) * pw n = LW := fun h => by
    rw [hsh, if_neg h]; unfold pw; rw [Rat.div_def, Rat.div_def, Rat.one_mul]
  have HM3 := Lib.hid (fun (h : ¬ z < 0) (V : World) (hV : Good V) => show Calls Tryz.prog 54 #[.string (it z), .string (rt (pw n))] V (RetV V (.string (rt LW))) from by
    rw [← rt_int, ← hz0 h]
    refine D4.mul_rt ?_ (fits_up (pw_fit (k := n) (by omega)) (by omega)) hV
    have e : ((z : Int) : Rat) = LW * ((2 ^ n : Nat) : Rat) := by
      rw [← hz0 h, Rat.mul_assoc, pw_mul, Rat.mul_one]
    rw [e]
    exact fits_up (fits_mul hlf hp2) (by omega))
  have HZ := Lib.hid (fun (h : z < 0) => show rt LW = (⟨#[48]⟩ : ByteArray) from by rw [hsh, if_pos h]; decide +kernel)
  have hz1 : z.sign < 0 ↔ z < 0 := Int.sign_neg_iff
  clear hsh hz0 hlf hLW hp2 hx0 hx1 h2 hok k1 k2 k3 k4 hl hvs hg
  generalize rt LW = RL at *
  generalize rt (pw n) = RP at *
  generalize it z = IZ at *
  generalize it ((cum (ts.map rval) (i + 1) * ((2 ^ n : Nat) : Rat)).floor) = I1 at *
  generalize it (-((-(cum (ts.map rval) i * ((2 ^ n : Nat) : Rat))).floor)) = I0 at *
  generalize rt (cum (ts.map rval) (i + 1) * ((2 ^ n : Nat) : Rat)) = RT at *
  generalize rt (cum (ts.map rval) i * ((2 ^ n : Nat) : Rat)) = RF at *
  generalize rt (cum (ts.map rval) (i + 1)) = RC1 at *
  generalize rt (cum (ts.map rval) i) = RC0 at *
  generalize rt ((ts.map rval).getD i 0) = RW at *
  generalize rt ((2 ^ n : Nat) : Rat) = RA at *
  generalize ts.length = N at *
  have HIN := Lib.hid (show (i : Int) < (N : Int) by omega)
  unfold maxLen at hcm
  generalize z.sign = sg at *
  by_cases hz : z < 0
  case' pos =>
    have hs : sg < 0 := hz1.2 hz
    rw [HZ.out hz]
  case' neg =>
    have hs : ¬ sg < 0 := fun h => hz (hz1.1 h)
    have HM := Lib.hid (HM3.out hz)
  all_goals
    clear hz1 HM3 HZ hz
    have HB0 := Lib.hid (Below.refl w.heap.size w)
    go_enter Tryz.func23, Tryz.ntmps23
    go_wp2_with fail
    refine (HP.out).mono ?_
    rintro e V ⟨rfl, kk⟩
    have K1 := Lib.hid (next_below HB0.out kk)
    clear kk
    go_wp2_with fail
    refine (HSUM.out _ K1.out).mono ?_
    rintro e V ⟨rfl, kk⟩
    have K2 := Lib.hid (next_below K1.out kk)
    clear kk
    go_wp2_with fail
    refine (HM1.out _ (HG.out _ K2.out)).mono ?_
    rintro e V ⟨rfl, kk⟩
    have K3 := Lib.hid (next_below K2.out kk)
    clear kk
    go_wp2_with fail
    refine (HCE.out _ (HG.out _ K3.out)).mono ?_
    rintro e V ⟨rfl, kk⟩
    have K4 := Lib.hid (next_below K3.out kk)
    have hc := HC.out _ K4.out
    clear kk
    go_wp2_with fail
    refine (HAD.out _ (HG.out _ K4.out)).mono ?_
    rintro e V ⟨rfl, kk⟩
    have K5 := Lib.hid (next_below K4.out kk)
    clear kk hc
    go_wp2_with fail
    refine (HM2.out _ (HG.out _ K5.out)).mono ?_
    rintro e V ⟨rfl, kk⟩
    have K6 := Lib.hid (next_below K5.out kk)
    clear kk
    go_wp2_with fail
    refine (HFL.out _ (HG.out _ K6.out)).mono ?_
    rintro e V ⟨rfl, kk⟩
    have K7 := Lib.hid (next_below K6.out kk)
    clear kk
    go_wp2_with fail
    refine (HSB.out _ (HG.out _ K7.out)).mono ?_
    rintro e V ⟨rfl, kk⟩
    have K8 := Lib.hid (next_below K7.out kk)
    clear kk
    go_wp2_with fail
    refine (HSI.out _).mono ?_
    rintro e V ⟨rfl, kk⟩
    have K9 := Lib.hid (next_below K8.out kk)
    clear kk
  · go_wp2_with fail
    refine (HPW.out _ (HG.out _ K9.out)).mono ?_
    rintro e V ⟨rfl, kk⟩
    have K10 := Lib.hid (next_below K9.out kk)
    clear kk
    go_wp2_with fail
    refine (HM.out _ (HG.out _ K10.out)).mono ?_
    rintro e V ⟨rfl, kk⟩
    have K11 := Lib.hid (next_below K10.out kk)
    clear kk
    go_wp2
    go_ret
    exact ⟨rfl, K11.out⟩
  · go_wp2
    go_ret
    exact ⟨rfl, K9.out⟩

set_option maxHeartbeats 4000000 in
set_option maxRecDepth 100000 in
theorem rleft_any {w : World} {v : Value} (ts : List (List UInt8)) (n : Nat) (hok : okW ts = true) (hn : n ≤ 200) (hv : Qs w v ts) (hg : Good w) :
    Calls Tryz.prog 24 #[v, .int .i64 n] w (RetV w (.string (rt (leftR (ts.map rval) n ts.length)))) := by
  obtain ⟨k1, k2, k3, k4⟩ := okW_parts hok
  have hvs := hv
  obtain ⟨ao, cap, rfl, -, -, -, -⟩ := hv
  have hl : (ts.map rval).length = ts.length := by simp
  have HLAW := Lib.hid (fun (i : Nat) (hi : i < ts.length) (V : World) (hV : Below w.heap.size w V) => rlaw_any (w := V) ts i n hok hi hn (hvs.below hV) (hg.below hV))
  have HSB := Lib.hid (fun (i : Nat) (hi : i < ts.length) (V : World) (hV : Good V) => show Calls Tryz.prog 60 #[.string (rt (leftR (ts.map rval) n i)), .string (rt (lawR (ts.map rval) n i))] V (RetV V (.string (rt (leftR (ts.map rval) n (i + 1))))) from
    D4.sub_rt (fits_up (left_fit k3 k4 (i := i) (by rw [hl]; omega) (n := n) (by omega)) (by omega)) (fits_up (law_fit k3 k4 (i := i) (by rw [hl]; exact hi) (n := n) (by omega)) (by omega)) hV)
  have HG := Lib.hid (fun (V : World) (hV : Below w.heap.size w V) => hg.below hV)
  obtain ⟨LF, hLF⟩ : ∃ f : Nat → ByteArray, f = fun i => rt (leftR (ts.map rval) n i) := ⟨_, rfl⟩
  obtain ⟨LW, hLW⟩ : ∃ f : Nat → ByteArray, f = fun i => rt (lawR (ts.map rval) n i) := ⟨_, rfl⟩
  have a1 : ∀ i, rt (leftR (ts.map rval) n i) = LF i := fun i => by rw [hLF]
  have a2 : ∀ i, rt (lawR (ts.map rval) n i) = LW i := fun i => by rw [hLW]
  have E0 : Hid ((⟨#[49]⟩ : ByteArray) = LF 0) := Lib.hid (by rw [← a1]; show _ = rt 1; decide +kernel)
  simp only [a1, a2] at HLAW HSB
  rw [a1]
  clear a1 a2 hLF hLW hok hl k3 k4 hvs hg k1
  generalize ts.length = N at *
  have HB0 := Lib.hid (Below.refl w.heap.size w)
  go_enter Tryz.func24, Tryz.ntmps24
  go_wp2_with fail
  rw [E0.out]
  go_loopw [5, 6] (fun u5 u6 wr => ∃ i : Nat, i ≤ N ∧ u5 = .string (LF i) ∧ u6 = .int .i64 (i : Int) ∧ Hid (Below w.heap.size w wr)) (fun _ u6 _ => N - (intOf u6).toNat)
  case atStart => exact ⟨0, by omega, rfl, rfl, HB0⟩
  case round =>
    obtain ⟨i, hi, rfl, rfl, hB⟩ := hrel
    by_cases hlt : i < N
    · have l1 : (i : Int) < (N : Int) := by omega
      have HL := Lib.hid (HLAW.out i hlt wr hB.out)
      go_wp2_with fail
      refine HL.out.mono ?_
      rintro e V ⟨rfl, kk⟩
      have K1 := Lib.hid (next_below hB.out kk)
      clear kk
      go_wp2_with fail
      refine (HSB.out i hlt _ (HG.out _ K1.out)).mono ?_
      rintro e V ⟨rfl, kk⟩
      have K2 := Lib.hid (next_below K1.out kk)
      clear kk
      go_wp2
      go_roundw
      case rel => exact ⟨i + 1, by omega, rfl, by go_num, K2⟩
      case measure => simp [intOf]; omega
    · obtain rfl : i = N := by omega
      go_wp2
      go_ret
      exact ⟨rfl, hB.out⟩
end Go.Proofs.YtfjjdjhnodcfhaaGreatDoor
