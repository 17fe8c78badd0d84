/- The contracts of croupierref09's Counts, Chance, Mass, Least, Low and High. -/
import Derived.Test.YtmhneibcbjgedaaGreatDoorTCov
import Derived.Test.YtmhneibcbjgedaaGreatDoorS9c
import Derived.Test.YtmhneibcbjgedaaGreatDoorR2c
set_option linter.unusedSimpArgs false
set_option linter.unusedVariables false
namespace Go.Proofs.YtmhneibcbjgedaaGreatDoor
open Go.RowKit
open Go.Lib (decDigits itoa nDigits)
open D4 (rt it Mid)

theorem grid_zero' (g : Nat) : Rat.divInt ((0 : Nat) : Int) g = 0 := by simp
theorem grid_one' {g : Nat} (hg : 0 < g) : Rat.divInt (g : Int) g = 1 := by
  rw [divInt_div]
  have h : ((g : Int) : Rat) ≠ 0 := by
    intro e
    have : (g : Int) = 0 := by exact_mod_cast e
    omega
  have := Rat.mul_div_cancel (a := 1) h
  rwa [Rat.one_mul] at this
theorem grid_turn {i g : Nat} (hi : i ≤ g) (hg : 0 < g) : 1 - Rat.divInt i g = Rat.divInt ((g - i : Nat) : Int) g := by
  rw [divInt_div, divInt_div]
  have h : ((g : Int) : Rat) ≠ 0 := by
    intro e
    have : (g : Int) = 0 := by exact_mod_cast e
    omega
  have h1 := Rat.div_mul_cancel (a := (1 : Rat)) h
  rw [show ((g - i : Nat) : Int) = (g : Int) - (i : Int) by omega]
  push_cast
  push_cast at h h1
  grind
theorem rt_int' (z : Int) : rt (z : Rat) = it z := by
  have h := D4.rt_one (x := (z : Rat)) (Rat.den_intCast _)
  rw [h, Rat.num_intCast]
theorem counts_ref {w : World} (n k : Int) : Calls Tryz.prog 20 #[.int .i64 n, .int .i64 k] w (RetV w (.bool (decide (cnt n k = 0)))) := by
  have HB0 := Lib.hid (Below.refl w.heap.size w)
  by_cases h1 : 0 ≤ n
  · by_cases h2 : n ≤ 200
    · by_cases h3 : 0 ≤ k
      · by_cases h4 : k ≤ n
        · have e : decide (cnt n k = 0) = true := by unfold cnt; rw [if_pos ⟨h1, h2, h3, h4⟩]; rfl
          rw [e]; clear e
          go_enter Tryz.func20, Tryz.ntmps20
          go_wp2
          go_ret
          exact ⟨rfl, HB0.out⟩
        · have e : decide (cnt n k = 0) = false := by unfold cnt; rw [if_neg (fun h => h4 h.2.2.2)]; rfl
          rw [e]; clear e
          go_enter Tryz.func20, Tryz.ntmps20
          go_wp2
          go_ret
          exact ⟨rfl, HB0.out⟩
      · have e : decide (cnt n k = 0) = false := by unfold cnt; rw [if_neg (fun h => h3 h.2.2.1)]; rfl
        rw [e]; clear e
        go_enter Tryz.func20, Tryz.ntmps20
        go_wp2
        go_ret
        exact ⟨rfl, HB0.out⟩
    · have e : decide (cnt n k = 0) = false := by unfold cnt; rw [if_neg (fun h => h2 h.2.1)]; rfl
      rw [e]; clear e
      go_enter Tryz.func20, Tryz.ntmps20
      go_wp2
      go_ret
      exact ⟨rfl, HB0.out⟩
  · have e : decide (cnt n k = 0) = false := by unfold cnt; rw [if_neg (fun h => h1 h.1)]; rfl
    rw [e]; clear e
    go_enter Tryz.func20, Tryz.ntmps20
    go_wp2
    go_ret
    exact ⟨rfl, HB0.out⟩

set_option maxHeartbeats 4000000 in
theorem chance_ref {w : World} (l : List UInt8) (ends : Bool) (hl : l.length ≤ 1000) (hg : Good w) : Calls Tryz.prog 22 #[.string ⟨l.toArray⟩, .bool ends] w (RetV w (.int .i64 (chErr ends l))) := by
  have H1 := Lib.hid (D4.check2_any (w := w) l (by omega) hg)
  have HG := Lib.hid (fun (V : World) (hV : Below w.heap.size w V) => hg.below hV)
  have HB0 := Lib.hid (Below.refl w.heap.size w)
  by_cases h0 : rerr l = 0
  · have hf0 := rerr_fits h0
    have hx := rerr_canon (l := l) (by omega)
    have hm : Mid (rval l) := ⟨Nat.le_trans hf0.1 (by omega), Nat.le_trans hf0.2 (by omega)⟩
    have hS : (⟨l.toArray⟩ : ByteArray) = rt (rval l) := by unfold rt; rw [← hx]
    have H4 := Lib.hid (fun (V : World) (hV : Good V) => D4.short2_any (w := V) l (by omega) hV)
    have h3 := fun (V : World) (hV : Good V) => D4.cmp_rt (w := V) (x := rval l) (y := 1) hm ⟨by decide +kernel, by decide +kernel⟩ hV
    rw [rt_one1] at h3
    have H3 := Lib.hid h3
    have H2 := Lib.hid (fun (V : World) => D4.sign_rt (w := V) hm.big)
    have e : chErr ends l = if noChance (rshort l) ends (rval l).num.sign (rcmp (rval l) 1) then 2 else 0 := by unfold chErr; rw [if_pos h0]
    rw [e]
    rw [h0] at H1
    rw [hS] at H1 H4 ⊢
    generalize rshort l = sh at *
    generalize (rval l).num.sign = s at *
    generalize rcmp (rval l) 1 = c at *
    generalize rt (rval l) = S at *
    obtain ⟨res, hres⟩ : ∃ res : Int, res = (if noChance sh ends s c then 2 else 0) := ⟨_, rfl⟩
    rw [← hres]
    have HRES := Lib.hid hres
    clear h0 hf0 hx hm hS h3 e hl hg hres
    go_enter Tryz.func22, Tryz.ntmps22
    go_wp2_with fail
    refine H1.out.mono ?_
    rintro e V ⟨rfl, kk⟩
    have K1 := Lib.hid (next_below HB0.out kk)
    clear kk
    go_wp2_with fail
    refine (H2.out _).mono ?_
    rintro e V ⟨rfl, kk⟩
    have K2 := Lib.hid (next_below K1.out kk)
    clear kk
    go_wp2_with fail
    refine (H3.out _ (HG.out _ K2.out)).mono ?_
    rintro e V ⟨rfl, kk⟩
    have K3 := Lib.hid (next_below K2.out kk)
    clear kk
    go_wp2_with fail
    refine (H4.out _ (HG.out _ K3.out)).mono ?_
    rintro e V ⟨rfl, kk⟩
    have K4 := Lib.hid (next_below K3.out kk)
    clear kk
    clear HG H1 H2 H3 H4
    cases sh
    · have HR := Lib.hid (show res = 2 by rw [HRES.out]; simp [noChance])
      clear HRES
      go_wp2
      go_ret
      exact ⟨by rw [HR.out]; rfl, K4.out⟩
    · by_cases h1 : s < 0
      · have HR := Lib.hid (show res = 2 by rw [HRES.out]; simp [noChance, h1])
        clear HRES
        go_wp2
        go_ret
        exact ⟨by rw [HR.out]; rfl, K4.out⟩
      · by_cases h2 : 0 < c
        · have HR := Lib.hid (show res = 2 by rw [HRES.out]; simp [noChance, h2])
          clear HRES
          go_wp2
          go_ret
          exact ⟨by rw [HR.out]; rfl, K4.out⟩
        · cases ends
          · by_cases h3 : s = 0
            · subst h3
              have HR := Lib.hid (show res = 2 by rw [HRES.out]; simp [noChance])
              clear HRES
              go_wp2
              go_ret
              exact ⟨by rw [HR.out]; rfl, K4.out⟩
            · by_cases h4 : c = 0
              · subst h4
                have HR := Lib.hid (show res = 2 by rw [HRES.out]; simp [noChance])
                clear HRES
                go_wp2
                go_ret
                exact ⟨by rw [HR.out]; rfl, K4.out⟩
              · have h5 : (s == 0) = false := by rw [beq_eq_false_iff_ne]; exact h3
                have h6 : (c == 0) = false := by rw [beq_eq_false_iff_ne]; exact h4
                have HR := Lib.hid (show res = 0 by rw [HRES.out]; simp [noChance, h1, h2, h3, h4])
                clear HRES
                go_wp2
                go_ret
                exact ⟨by rw [HR.out]; rfl, K4.out⟩
          · have HR := Lib.hid (show res = 0 by rw [HRES.out]; simp [noChance, h1, h2])
            clear HRES
            go_wp2
            go_ret
            exact ⟨by rw [HR.out]; rfl, K4.out⟩
  · have e : chErr ends l = rerr l := by unfold chErr; rw [if_neg h0]
    rw [e]
    have h0' : (rerr l == 0) = false := by rw [beq_eq_false_iff_ne]; exact h0
    generalize rerr l = er at *
    generalize (⟨l.toArray⟩ : ByteArray) = S at *
    clear hl hg e
    go_enter Tryz.func22, Tryz.ntmps22
    go_wp2_with fail
    refine (H1.out).mono ?_
    rintro e V ⟨rfl, kk⟩
    have K1 := Lib.hid (next_below HB0.out kk)
    clear kk
    go_wp2
    go_ret
    exact ⟨rfl, K1.out⟩

/- Sizes. -/
theorem pow_tiny {d n : Nat} (hd : d < 10000) (hn : n ≤ 10) : d ^ n < 10 ^ (40 + 1) := by
  have h1 := Nat.pow_le_pow_left (Nat.le_of_lt hd) n
  have h2 := Nat.pow_le_pow_right (n := 10000) (by omega) hn
  exact Nat.lt_of_le_of_lt (Nat.le_trans h1 h2) (by decide)
theorem Ch.den {x : Rat} (h : Ch x) : x.den < 10000 := by
  have h1 := h.fit.2
  have h2 := Lib.lt_pow_nDigits x.den
  have h3 : 10 ^ nDigits x.den ≤ 10 ^ 4 := Nat.pow_le_pow_right (by omega) h1
  omega
theorem On.mid {M n : Nat} {x : Rat} (h : On (M ^ n) x) (h0 : 0 ≤ x) (h1 : x ≤ 1) (hM : 0 < M) (hd : M < 10000) (hn : n ≤ 10) : Mid x := by
  have := h.fit (d := 40) h0 h1 (Nat.pow_pos hM) (pow_tiny hd hn)
  exact ⟨Nat.le_trans this.1 (by omega), Nat.le_trans this.2 (by omega)⟩
theorem rpow_unit {x : Rat} (h0 : 0 ≤ x) (h1 : x ≤ 1) : ∀ n : Nat, 0 ≤ x ^ n ∧ x ^ n ≤ 1
  | 0 => by rw [Rat.pow_zero]; exact ⟨by decide, Rat.le_refl⟩
  | n + 1 => by
    obtain ⟨a, b⟩ := rpow_unit h0 h1 n
    rw [Rat.pow_succ]
    have c := Rat.mul_nonneg a h0
    have d := Rat.mul_nonneg a (show 0 ≤ 1 - x by grind)
    exact ⟨c, by grind⟩
theorem mid_one : Mid 1 := ⟨by decide +kernel, by decide +kernel⟩
theorem mid_nat {n : Nat} (h : n < 10 ^ 20) : Mid ((n : Int) : Rat) := by
  refine ⟨?_, ?_⟩
  · rw [Rat.num_intCast]; exact Nat.le_trans (D4.nDigits_le (d := 19) (by omega)) (by omega)
  · rw [Rat.den_intCast]; exact mid_one.2
theorem bin_le : ∀ n k : Nat, bin n k ≤ 2 ^ n
  | n, 0 => by rw [bin_zero]; exact Nat.one_le_two_pow
  | 0, k + 1 => by show 0 ≤ _; omega
  | n + 1, k + 1 => by
    show bin n k + bin n (k + 1) ≤ _
    have h1 := bin_le n k
    have h2 := bin_le n (k + 1)
    rw [Nat.pow_succ]; omega

theorem Ch.mid {x : Rat} (h : Ch x) : Mid x := ⟨Nat.le_trans h.fit.1 (by omega), Nat.le_trans h.fit.2 (by omega)⟩
theorem U_down {n : Nat} {x : Rat} (h0 : 0 ≤ x) (h1 : x ≤ 1) {k : Nat} : ∀ j, U n (k + j) x ≤ U n k x
  | 0 => Rat.le_refl
  | j + 1 => Rat.le_trans (U_fall n (k + j) x h0 h1) (U_down h0 h1 j)

set_option maxHeartbeats 4000000 in
theorem mass_ref {w : World} {n k : Nat} {x : Rat} (hx : Ch x) (hn : n ≤ 10) (hk : k ≤ n) (hg : Good w) : Calls Tryz.prog 23 #[.int .i64 n, .int .i64 k, .string (rt x)] w (RetV w (.string (rt (ms n k x)))) := by
  have hd := hx.den
  have dp := x.den_pos
  have l0 : 0 ≤ 1 - x := by have := hx.hi; grind
  have l1 : 1 - x ≤ 1 := by have := hx.lo; grind
  have ox : On x.den x := On.den x
  have oq : On x.den (1 - x) := (On.one _).sub ox
  have mx := hx.mid
  have mq : Mid (1 - x) := (hx.turn (by omega)).mid
  have mp : ∀ i, i ≤ k → Mid (x ^ i) := fun i hi => (ox.pow i).mid (rpow_unit hx.lo hx.hi i).1 (rpow_unit hx.lo hx.hi i).2 dp hd (by omega)
  have mp2 : ∀ i, i ≤ n - k → Mid ((1 - x) ^ i) := fun i hi => (oq.pow i).mid (rpow_unit l0 l1 i).1 (rpow_unit l0 l1 i).2 dp hd (by omega)
  have mpr : Mid (x ^ k * (1 - x) ^ (n - k)) := by
    have o := (ox.pow k).mul (oq.pow (n - k))
    rw [← Nat.pow_add, show k + (n - k) = n by omega] at o
    obtain ⟨a0, a1⟩ := rpow_unit hx.lo hx.hi k
    obtain ⟨b0, b1⟩ := rpow_unit l0 l1 (n - k)
    have c := Rat.mul_nonneg a0 b0
    have d := Rat.mul_nonneg a0 (show 0 ≤ 1 - (1 - x) ^ (n - k) by grind)
    exact o.mid c (by grind) dp hd hn
  have mb : Mid (((bin n k : Nat) : Int) : Rat) := mid_nat (Nat.lt_of_le_of_lt (Nat.le_trans (bin_le n k) (Nat.pow_le_pow_right (by omega) hn)) (by decide))
  have h1 := fun (V : World) (hV : Good V) => D4.sub_rt (w := V) mid_one mx hV
  rw [rt_one1] at h1
  have H1 := Lib.hid h1
  have h2 := fun (V : World) (hV : Good V) => choose_ref (w := V) n k (by omega) hk hV
  rw [← rt_int'] at h2
  have H2 := Lib.hid h2
  have H3 := Lib.hid (fun (V : World) (hV : Good V) => D4.pow_rt (w := V) (x := x) k (by omega) mx mp hV)
  have H4 := Lib.hid (fun (c : Int) (hc : c = ((n - k : Nat) : Int)) (V : World) (hV : Good V) => by
    have h := D4.pow_rt (w := V) (x := 1 - x) (n - k) (by omega) mq mp2 hV
    rw [← hc] at h
    exact h)
  have H5 := Lib.hid (fun (V : World) (hV : Good V) => D4.mul_rt (w := V) (mp k (Nat.le_refl _)) (mp2 (n - k) (Nat.le_refl _)) hV)
  have H6 := Lib.hid (fun (V : World) (hV : Good V) => by
    have h := D4.mul_rt (w := V) mb mpr hV
    rw [← Rat.mul_assoc, show (((bin n k : Nat) : Int) : Rat) * x ^ k * (1 - x) ^ (n - k) = ms n k x by unfold ms; push_cast; rfl] at h
    exact h)
  have hc0 : (n : Int) - (k : Int) = ((n - k : Nat) : Int) := by omega
  have HC := Lib.hid hc0
  have HG := Lib.hid (fun (V : World) (hV : Below w.heap.size w V) => hg.below hV)
  have HB0 := Lib.hid (Below.refl w.heap.size w)
  clear h1 h2 hx hd dp l0 l1 ox oq mx mq mp mp2 mpr mb hc0 hg
  generalize rt (ms n k x) = R at *
  generalize rt (x ^ k * (1 - x) ^ (n - k)) = R1 at *
  generalize rt ((1 - x) ^ (n - k)) = R2 at *
  generalize rt (x ^ k) = R3 at *
  generalize rt (1 - x) = R4 at *
  generalize rt ((bin n k : Nat) : Int) = R5 at *
  generalize rt x = S at *
  go_enter Tryz.func23, Tryz.ntmps23
  go_wp2_with fail
  refine (H1.out _ (HG.out _ HB0.out)).mono ?_
  rintro e V ⟨rfl, kk⟩
  have K1 := Lib.hid (next_below HB0.out kk)
  clear kk
  go_wp2_with fail
  refine (H2.out _ (HG.out _ K1.out)).mono ?_
  rintro e V ⟨rfl, kk⟩
  have K2 := Lib.hid (next_below K1.out kk)
  clear kk
  go_wp2_with fail
  refine (H3.out _ (HG.out _ K2.out)).mono ?_
  rintro e V ⟨rfl, kk⟩
  have K3 := Lib.hid (next_below K2.out kk)
  clear kk
  go_wp2_with fail
  refine (H4.out _ HC.out _ (HG.out _ K3.out)).mono ?_
  rintro e V ⟨rfl, kk⟩
  have K4 := Lib.hid (next_below K3.out kk)
  clear kk
  go_wp2_with fail
  refine (H5.out _ (HG.out _ K4.out)).mono ?_
  rintro e V ⟨rfl, kk⟩
  have K5 := Lib.hid (next_below K4.out kk)
  clear kk
  go_wp2_with fail
  refine (H6.out _ (HG.out _ K5.out)).mono ?_
  rintro e V ⟨rfl, kk⟩
  have K6 := Lib.hid (next_below K5.out kk)
  clear kk
  go_wp2
  go_ret
  exact ⟨rfl, K6.out⟩

set_option maxHeartbeats 4000000 in
theorem least_ref {w : World} {n k : Nat} {x : Rat} (hx : Ch x) (hn : n ≤ 10) (hk : k ≤ n + 1) (hg : Good w) : Calls Tryz.prog 24 #[.int .i64 n, .int .i64 k, .string (rt x)] w (RetV w (.string (rt (U n k x)))) := by
  have hd := hx.den
  have dp := x.den_pos
  have lo := hx.lo
  have hi := hx.hi
  have ox : On x.den x := On.den x
  have mU : ∀ i, k ≤ i → Mid (U n k x - U n i x) := fun i h => by
    obtain ⟨j, rfl⟩ : ∃ j, i = k + j := ⟨i - k, by omega⟩
    have a := U_down (n := n) lo hi (k := k) j
    have b := U_unit x lo hi n k
    have c := U_unit x lo hi n (k + j)
    exact ((ox.U n k).sub (ox.U n (k + j))).mid (by grind) (by grind) dp hd hn
  have mM : ∀ i, i ≤ n → Mid (ms n i x) := fun i h => (ox.ms n i h).mid (ms_nonneg n i x lo hi) (ms_le n i x lo hi h) dp hd hn
  have H1 := Lib.hid (fun (i : Nat) (hi : i ≤ n) (V : World) (hV : Good V) => mass_ref (w := V) (n := n) (k := i) hx hn hi hV)
  have H2 := Lib.hid (fun (i : Nat) (hki : k ≤ i) (hi : i ≤ n) (V : World) (hV : Good V) => by
    have h := D4.add_rt (w := V) (mU i hki) (mM i hi) hV
    rw [show U n k x - U n i x + ms n i x = U n k x - U n (i + 1) x by have := U_mass x n i hi; grind] at h
    exact h)
  obtain ⟨SU, hSU⟩ : ∃ f : Nat → ByteArray, f = fun i => rt (U n k x - U n i x) := ⟨_, rfl⟩
  obtain ⟨MS, hMS⟩ : ∃ f : Nat → ByteArray, f = fun i => rt (ms n i x) := ⟨_, rfl⟩
  have eS : ∀ i, rt (U n k x - U n i x) = SU i := fun i => by rw [hSU]
  have eM : ∀ i, rt (ms n i x) = MS i := fun i => by rw [hMS]
  have s0 : (⟨#[48]⟩ : ByteArray) = SU k := by rw [hSU]; show _ = rt (U n k x - U n k x); rw [Rat.sub_self, rt_zero]
  have s1 : SU (n + 1) = rt (U n k x) := by rw [hSU]; show rt (U n k x - U n (n + 1) x) = _; rw [U_gt x n (n + 1) (by omega), Rat.sub_eq_add_neg, Rat.neg_zero, Rat.add_zero]
  simp only [eS, eM] at H1 H2
  rw [← s1]
  have S0 := Lib.hid s0
  have HG := Lib.hid (fun (V : World) (hV : Below w.heap.size w V) => hg.below hV)
  have HB0 := Lib.hid (Below.refl w.heap.size w)
  clear hSU hMS eS eM s0 s1 mU mM ox lo hi dp hd hx hg
  generalize rt x = S at *
  go_enter Tryz.func24, Tryz.ntmps24
  go_wp2
  rw [S0.out]
  go_loopg [7, 8] (n + 1 - k) (fun gk u7 u8 wr => ∃ i : Nat, u7 = .string (SU i) ∧ u8 = .int .i64 (i : Int) ∧ k ≤ i ∧ i + gk = n + 1 ∧ Hid (Below w.heap.size w wr))
  case atStart => exact ⟨k, rfl, rfl, Nat.le_refl _, by omega, HB0⟩
  case round =>
    obtain ⟨i, rfl, rfl, hki, hi, hK⟩ := hrel
    by_cases hz : i ≤ n
    · have hz2 : (i : Int) ≤ (n : Int) := by omega
      go_wp2_with fail
      refine (H1.out i hz _ (HG.out _ hK.out)).mono ?_
      rintro e V ⟨rfl, kk⟩
      have K1 := Lib.hid (next_below hK.out kk)
      clear kk
      go_wp2_with fail
      refine (H2.out i hki hz _ (HG.out _ K1.out)).mono ?_
      rintro e V ⟨rfl, kk⟩
      have K2 := Lib.hid (next_below K1.out kk)
      clear kk
      go_wp2
      go_roundg (gk - 1)
      case rel => exact ⟨i + 1, rfl, by go_num, by omega, by omega, K2⟩
      case measure => omega
    · obtain rfl : i = n + 1 := by omega
      have hz2 : ¬ ((n + 1 : Nat) : Int) ≤ (n : Int) := by omega
      go_wp2
      go_ret
      exact ⟨rfl, hK.out⟩

/-- A point of a grid. -/
theorem grid_ch {i g : Nat} (hi : i ≤ g) (hg : 0 < g) (hg2 : g ≤ 10) : Ch (Rat.divInt i g) := by
  have h := grid_le (i := i) (j := i) (Nat.le_refl _) hi hg
  exact ⟨h.1, h.2.2, (On.divInt (i : Int) hg).fit (d := 3) h.1 h.2.2 hg (by omega)⟩
theorem grid_mid {i g n k : Nat} (hi : i ≤ g) (hg : 0 < g) (hg2 : g ≤ 10) (hn : n ≤ 10) : Mid (U n k (Rat.divInt i g)) := by
  have h := grid_ch hi hg hg2
  have u := U_unit _ h.lo h.hi n k
  exact ((On.divInt (i : Int) hg).U n k).mid u.1 u.2 hg (by omega) hn

set_option maxHeartbeats 4000000 in
theorem low_ref {w : World} {n k g : Nat} {x : Rat} (x0 : 0 < x) (x1 : x < 1) (hf : fitsD 4 x) (hn : n ≤ 10) (hk : k ≤ n) (g0 : 1 ≤ g) (g1 : g ≤ 10) (hg : Good w) : Calls Tryz.prog 25 #[.int .i64 n, .int .i64 k, .string (rt x), .int .i64 g] w (RetV w (.string (rt (lowV n k g x)))) := by
  have mx : Mid x := ⟨Nat.le_trans hf.1 (by omega), Nat.le_trans hf.2 (by omega)⟩
  have HG := Lib.hid (fun (V : World) (hV : Below w.heap.size w V) => hg.below hV)
  have HB0 := Lib.hid (Below.refl w.heap.size w)
  by_cases hk0 : k = 0
  · subst hk0
    have e : rt (lowV n 0 g x) = ⟨#[48]⟩ := by unfold lowV; rw [if_pos rfl, rt_zero]
    rw [e]
    have hgi : (0 : Int) < (g : Int) := by omega
    clear e mx x0 x1 hf hg
    generalize rt x = S at *
    go_enter Tryz.func25, Tryz.ntmps25
    go_wp2
    go_loopg [9] g (fun gk u9 wr => u9 = .int .i64 (g : Int) ∧ Hid (Below w.heap.size w wr))
    case atStart => exact ⟨rfl, HB0⟩
    case round =>
      obtain ⟨rfl, hK⟩ := hrel
      go_wp2
      go_ret
      exact ⟨rfl, hK.out⟩
  · have hkp : 0 < k := by omega
    obtain ⟨L, hL, hLg, hU, hN⟩ := last_spec (n := n) (k := k) (g := g) (x := x) g0 hkp (by omega) (Rat.le_of_lt x0)
    have e : rt (lowV n k g x) = rt (Rat.divInt L g) := by unfold lowV; rw [if_neg hk0, hL]
    rw [e]
    have H1 := Lib.hid (fun (i : Nat) (hi : i ≤ g) (V : World) (hV : Good V) => D4.rof_any (w := V) i g (by omega) (by omega) (by omega) (by omega) (by omega) hV)
    have H2 := Lib.hid (fun (i : Nat) (hi : i ≤ g) (V : World) (hV : Good V) => least_ref (w := V) (n := n) (k := k) (grid_ch hi g0 g1) hn (by omega) hV)
    have H3 := Lib.hid (fun (i : Nat) (hi : i ≤ g) (V : World) (hV : Good V) => D4.cmp_rt (w := V) (x := U n k (Rat.divInt i g)) (y := x) (grid_mid hi g0 g1 hn) mx hV)
    have HY : rcmp (U n k (Rat.divInt L g)) x ≤ 0 := rcmp_le.2 hU
    have HNo : ∀ i, L < i → i ≤ g → ¬ rcmp (U n k (Rat.divInt i g)) x ≤ 0 := fun i a b h => absurd (rcmp_le.1 h) (Rat.not_le.2 (hN i a b))
    have z0 : L = 0 → rt (Rat.divInt L g) = ⟨#[48]⟩ := fun h => by rw [h, grid_zero', rt_zero]
    obtain ⟨PI, hPI⟩ : ∃ f : Nat → ByteArray, f = fun (i : Nat) => rt (Rat.divInt i g) := ⟨_, rfl⟩
    obtain ⟨UI, hUI⟩ : ∃ f : Nat → ByteArray, f = fun (i : Nat) => rt (U n k (Rat.divInt i g)) := ⟨_, rfl⟩
    obtain ⟨CI, hCI⟩ : ∃ f : Nat → Int, f = fun (i : Nat) => rcmp (U n k (Rat.divInt i g)) x := ⟨_, rfl⟩
    have eP : ∀ i : Nat, rt (Rat.divInt i g) = PI i := fun i => by rw [hPI]
    have eU : ∀ i : Nat, rt (U n k (Rat.divInt i g)) = UI i := fun i => by rw [hUI]
    have eC : ∀ i : Nat, rcmp (U n k (Rat.divInt i g)) x = CI i := fun i => by rw [hCI]
    simp only [eP, eU, eC] at H1 H2 H3 HY HNo z0 ⊢
    have HNO := Lib.hid HNo
    have Z0 := Lib.hid z0
    have hki : (0 : Int) < (k : Int) := by omega
    clear hPI hUI hCI eP eU eC z0 HNo mx x0 x1 hf hU hN hL e hg hk0
    generalize rt x = S at *
    go_enter Tryz.func25, Tryz.ntmps25
    go_wp2
    go_loopg [9] g (fun gk u9 wr => u9 = .int .i64 (gk : Int) ∧ L ≤ gk ∧ gk ≤ g ∧ Hid (Below w.heap.size w wr))
    case atStart => exact ⟨rfl, hLg, Nat.le_refl _, HB0⟩
    case round =>
      obtain ⟨rfl, hl, hh, hK⟩ := hrel
      by_cases hz : gk = 0
      · subst hz
        have hl0 : L = 0 := by omega
        go_wp2
        go_ret
        exact ⟨by rw [Z0.out hl0]; rfl, hK.out⟩
      · have hz2 : (0 : Int) < (gk : Int) := by omega
        go_wp2_with fail
        refine (H1.out gk hh _ (HG.out _ hK.out)).mono ?_
        rintro e V ⟨rfl, kk⟩
        have K1 := Lib.hid (next_below hK.out kk)
        clear kk
        go_wp2_with fail
        refine (H2.out gk hh _ (HG.out _ K1.out)).mono ?_
        rintro e V ⟨rfl, kk⟩
        have K2 := Lib.hid (next_below K1.out kk)
        clear kk
        go_wp2_with fail
        refine (H3.out gk hh _ (HG.out _ K2.out)).mono ?_
        rintro e V ⟨rfl, kk⟩
        have K3 := Lib.hid (next_below K2.out kk)
        clear kk
        by_cases hc : L = gk
        · subst hc
          go_wp2
          go_ret
          exact ⟨rfl, K3.out⟩
        · have hno := HNO.out gk (by omega) hh
          go_wp2
          go_roundg (gk - 1)
          case rel => exact ⟨by go_num, by omega, by omega, K3⟩
          case measure => omega

set_option maxHeartbeats 4000000 in
theorem high_ref {w : World} {n k g : Nat} {x : Rat} (x0 : 0 < x) (x1 : x < 1) (hf : fitsD 4 x) (hn : n ≤ 10) (hk : k ≤ n) (g0 : 1 ≤ g) (g1 : g ≤ 10) (hg : Good w) : Calls Tryz.prog 26 #[.int .i64 n, .int .i64 k, .string (rt x), .int .i64 g] w (RetV w (.string (rt (highV n k g x)))) := by
  have mx : Mid x := ⟨Nat.le_trans hf.1 (by omega), Nat.le_trans hf.2 (by omega)⟩
  have HG := Lib.hid (fun (V : World) (hV : Below w.heap.size w V) => hg.below hV)
  have HB0 := Lib.hid (Below.refl w.heap.size w)
  have hgi : (0 : Int) < (g : Int) := by omega
  by_cases hk0 : k = n
  · subst hk0
    have e : rt (highV k k g x) = ⟨#[49]⟩ := by unfold highV; rw [if_pos rfl, rt_one1]
    rw [e]
    clear e mx x0 x1 hf hg
    generalize rt x = S at *
    go_enter Tryz.func26, Tryz.ntmps26
    go_wp2
    go_loopg [9] g (fun gk u9 wr => u9 = .int .i64 0 ∧ Hid (Below w.heap.size w wr))
    case atStart => exact ⟨rfl, HB0⟩
    case round =>
      obtain ⟨rfl, hK⟩ := hrel
      go_wp2
      go_ret
      exact ⟨rfl, hK.out⟩
  · obtain ⟨L, hL, hLg, hU, hN⟩ := last_spec (n := n) (k := n - k) (g := g) (x := x) g0 (by omega) (by omega) (Rat.le_of_lt x0)
    obtain ⟨M, hM⟩ : ∃ M, M = g - L := ⟨_, rfl⟩
    have e : rt (highV n k g x) = rt (Rat.divInt M g) := by
      unfold highV; rw [if_neg hk0, ← hL]
      congr 2
      omega
    rw [e]
    have turn : ∀ i : Nat, i ≤ g → 1 - U n (k + 1) (Rat.divInt i g) = U n (n - k) (Rat.divInt ((g - i : Nat) : Int) g) := fun i hi => by
      have t := U_turn n (Rat.divInt i g) (k + 1) (by omega)
      rw [show n + 1 - (k + 1) = n - k by omega, grid_turn hi g0] at t
      exact t
    have H1 := Lib.hid (fun (i : Nat) (hi : i ≤ g) (V : World) (hV : Good V) => D4.rof_any (w := V) i g (by omega) (by omega) (by omega) (by omega) (by omega) hV)
    have H2 := Lib.hid (fun (i : Nat) (hi : i ≤ g) (c : Int) (hc : c = ((k + 1 : Nat) : Int)) (V : World) (hV : Good V) => by
      have h := least_ref (w := V) (n := n) (k := k + 1) (grid_ch hi g0 g1) hn (by omega) hV
      rw [← hc] at h
      exact h)
    have H3 := Lib.hid (fun (i : Nat) (hi : i ≤ g) (V : World) (hV : Good V) => by
      have h := D4.sub_rt (w := V) (x := 1) (y := U n (k + 1) (Rat.divInt i g)) mid_one (grid_mid hi g0 g1 hn) hV
      rw [rt_one1, turn i hi] at h
      exact h)
    have H4 := Lib.hid (fun (i : Nat) (hi : i ≤ g) (V : World) (hV : Good V) => D4.cmp_rt (w := V) (x := U n (n - k) (Rat.divInt ((g - i : Nat) : Int) g)) (y := x) (grid_mid (by omega) g0 g1 hn) mx hV)
    have HY : M < g → rcmp (U n (n - k) (Rat.divInt ((g - M : Nat) : Int) g)) x ≤ 0 := fun _ => rcmp_le.2 (by rw [show g - M = L by omega]; exact hU)
    have HNo : ∀ i, i < M → ¬ rcmp (U n (n - k) (Rat.divInt ((g - i : Nat) : Int) g)) x ≤ 0 := fun i a h => absurd (rcmp_le.1 h) (Rat.not_le.2 (hN (g - i) (by omega) (by omega)))
    have z0 : M = g → rt (Rat.divInt g g) = ⟨#[49]⟩ := fun h => by rw [grid_one' g0, rt_one1]
    obtain ⟨PI, hPI⟩ : ∃ f : Nat → ByteArray, f = fun (i : Nat) => rt (Rat.divInt i g) := ⟨_, rfl⟩
    obtain ⟨UI, hUI⟩ : ∃ f : Nat → ByteArray, f = fun (i : Nat) => rt (U n (k + 1) (Rat.divInt i g)) := ⟨_, rfl⟩
    obtain ⟨DI, hDI⟩ : ∃ f : Nat → ByteArray, f = fun (i : Nat) => rt (U n (n - k) (Rat.divInt ((g - i : Nat) : Int) g)) := ⟨_, rfl⟩
    obtain ⟨CI, hCI⟩ : ∃ f : Nat → Int, f = fun (i : Nat) => rcmp (U n (n - k) (Rat.divInt ((g - i : Nat) : Int) g)) x := ⟨_, rfl⟩
    have eD : ∀ i : Nat, rt (U n (n - k) (Rat.divInt ((g - i : Nat) : Int) g)) = DI i := fun i => by rw [hDI]
    have eC : ∀ i : Nat, rcmp (U n (n - k) (Rat.divInt ((g - i : Nat) : Int) g)) x = CI i := fun i => by rw [hCI]
    have eU : ∀ i : Nat, rt (U n (k + 1) (Rat.divInt i g)) = UI i := fun i => by rw [hUI]
    have eP : ∀ i : Nat, rt (Rat.divInt i g) = PI i := fun i => by rw [hPI]
    simp only [eD, eC, eU] at H2 H3 H4 HY HNo
    simp only [eP] at H1 H2 z0 ⊢
    have HNO := Lib.hid HNo
    have HYES := Lib.hid HY
    have Z0 := Lib.hid z0
    have hki : (k : Int) < (n : Int) := by omega
    have hMg : M ≤ g := by omega
    have hk1 : (k : Int) + 1 = ((k + 1 : Nat) : Int) := by omega
    have HK1 := Lib.hid hk1
    clear hk1 hPI hUI hDI hCI eP eU eD eC z0 HNo HY mx x0 x1 hf hU hN hL e hg hk0 turn hM hLg
    generalize rt x = S at *
    go_enter Tryz.func26, Tryz.ntmps26
    go_wp2
    go_loopg [9] g (fun gk u9 wr => ∃ i : Nat, u9 = .int .i64 (i : Int) ∧ i ≤ M ∧ i + gk = g ∧ Hid (Below w.heap.size w wr))
    case atStart => exact ⟨0, rfl, Nat.zero_le _, by omega, HB0⟩
    case round =>
      obtain ⟨i, rfl, hi, hgk, hK⟩ := hrel
      by_cases hz : i = g
      · have hMe : M = g := by omega
        have hz2 : ¬ (i : Int) < (g : Int) := by omega
        have Z1 := Lib.hid (Z0.out hMe)
        go_wp2
        go_ret
        exact ⟨by rw [Z1.out]; rfl, hK.out⟩
      · have hz2 : (i : Int) < (g : Int) := by omega
        have hh : i ≤ g := by omega
        go_wp2_with fail
        refine (H1.out i hh _ (HG.out _ hK.out)).mono ?_
        rintro e V ⟨rfl, kk⟩
        have K1 := Lib.hid (next_below hK.out kk)
        clear kk
        go_wp2_with fail
        refine (H2.out i hh _ HK1.out _ (HG.out _ K1.out)).mono ?_
        rintro e V ⟨rfl, kk⟩
        have K2 := Lib.hid (next_below K1.out kk)
        clear kk
        go_wp2_with fail
        refine (H3.out i hh _ (HG.out _ K2.out)).mono ?_
        rintro e V ⟨rfl, kk⟩
        have K3 := Lib.hid (next_below K2.out kk)
        clear kk
        go_wp2_with fail
        refine (H4.out i hh _ (HG.out _ K3.out)).mono ?_
        rintro e V ⟨rfl, kk⟩
        have K4 := Lib.hid (next_below K3.out kk)
        clear kk
        by_cases hc : i = M
        · subst hc
          have hyes := HYES.out (by omega)
          go_wp2
          go_ret
          exact ⟨rfl, K4.out⟩
        · have hno := HNO.out i (by omega)
          go_wp2
          go_roundg (gk - 1)
          case rel => exact ⟨i + 1, by go_num, by omega, by omega, K4⟩
          case measure => omega
end Go.Proofs.YtmhneibcbjgedaaGreatDoor
