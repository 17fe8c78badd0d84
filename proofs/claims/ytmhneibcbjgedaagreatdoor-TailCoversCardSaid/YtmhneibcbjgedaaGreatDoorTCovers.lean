/- TailCovers answers true (under way). -/
import Derived.Test.YtmhneibcbjgedaaGreatDoorTCovF
set_option linter.unusedSimpArgs false
set_option linter.unusedVariables false
namespace Go.Proofs.YtmhneibcbjgedaaGreatDoor
open Go.RowKit
open Go.Lib (decDigits itoa nDigits)
open D4 (rt it)

/-- A point of the grid. -/
theorem point_fit {i g : Nat} (hi : i ≤ g) (hg : 0 < g) (hg2 : g ≤ 10) : Ch (Rat.divInt i g) := by
  have h := grid_le (i := i) (j := i) (Nat.le_refl _) hi hg
  exact ⟨h.1, h.2.2, (On.divInt (i : Int) hg).fit (d := 3) h.1 h.2.2 hg (by omega)⟩

/-- What the inner loop asks of a bound. -/
theorem point_any {i g : Nat} (hi : i ≤ g) (hg : 0 < g) (hg2 : g ≤ 10) (V : World) (hV : Good V) :
    Calls Tryz.prog 34 #[.string (rt (Rat.divInt i g)), .string ⟨#[49]⟩] V (RetV V (.tuple #[.string (rt (Rat.divInt i g)), .int .i64 0])) ∧
    Calls Tryz.prog 35 #[.string (rt (Rat.divInt i g)), .string (rt (Rat.divInt 1 g))] V (RetV V (.tuple #[.string (it (i : Int)), .int .i64 0])) ∧
    Calls Tryz.prog 36 #[.string (it (i : Int))] V (RetV V (.tuple #[.string (it (i : Int)), .int .i64 0])) ∧
    Calls Tryz.prog 32 #[.string ⟨#[48]⟩, .string (rt (Rat.divInt i g))] V (RetV V (.bool true)) ∧
    Calls Tryz.prog 32 #[.string (rt (Rat.divInt i g)), .string ⟨#[49]⟩] V (RetV V (.bool true)) := by
  have hc := point_fit hi hg hg2
  have h1 := point_fit (i := 1) (g := g) (by omega) hg hg2
  have fi : fitsD 2000 ((i : Int) : Rat) := by
    refine ⟨?_, ?_⟩
    · rw [Rat.num_intCast]; exact Nat.le_trans (D4.nDigits_le (d := 1) (by omega)) (by omega)
    · rw [Rat.den_intCast]; exact fit_one.2
  refine ⟨?_, ?_, ?_, ?_, ?_⟩
  · have h := rmul_rt (w := V) (x := Rat.divInt i g) (y := 1) hc.big fit_one (by rw [Rat.mul_one]; exact hc.big) hV
    rw [Rat.mul_one, rt_one1] at h
    exact h
  · have hne : Rat.divInt 1 g ≠ 0 := by
      intro e
      have h := (divInt_le (a := 1) (b := (g : Int)) (by omega) (by omega)).2.2.1 (by omega)
      rw [e] at h
      exact absurd h (by decide)
    have h := rdiv_rt (w := V) (x := Rat.divInt i g) (y := Rat.divInt 1 g) hc.big h1.big hne (by rw [grid_div hg]; exact fi) hV
    rw [grid_div hg, rt_int] at h
    exact h
  · have h := rfloor_rt (w := V) (x := ((i : Int) : Rat)) fi hV
    rw [rt_int, Rat.floor_intCast] at h
    exact h
  · have h := qmost_any (w := V) (x := 0) (y := Rat.divInt i g) fit_zero hc.big hV
    rw [rt_zero, decide_eq_true hc.lo] at h
    exact h
  · have h := qmost_any (w := V) (x := Rat.divInt i g) (y := 1) hc.big fit_one hV
    rw [rt_one1, decide_eq_true hc.hi] at h
    exact h

theorem le_flip {a b : Rat} : decide (a ≤ b) = !decide (b < a) := by
  by_cases h : b < a
  · rw [decide_eq_true h, decide_eq_false (Rat.not_le.2 h)]; rfl
  · rw [decide_eq_false h, decide_eq_true (Rat.not_lt.1 h)]; rfl
/-- What the inner loop asks of a bound, as one name. -/
def PtC (RU x t : ByteArray) : Prop := ∀ V : World, Good V →
    Calls Tryz.prog 34 #[.string x, .string ⟨#[49]⟩] V (RetV V (.tuple #[.string x, .int .i64 0])) ∧
    Calls Tryz.prog 35 #[.string x, .string RU] V (RetV V (.tuple #[.string t, .int .i64 0])) ∧
    Calls Tryz.prog 36 #[.string t] V (RetV V (.tuple #[.string t, .int .i64 0])) ∧
    Calls Tryz.prog 32 #[.string ⟨#[48]⟩, .string x] V (RetV V (.bool true)) ∧
    Calls Tryz.prog 32 #[.string x, .string ⟨#[49]⟩] V (RetV V (.bool true))
theorem next_fit {i g : Nat} (hi : i ≤ g) (hg : 0 < g) (hg2 : g ≤ 10) : fitsD 2000 (Rat.divInt i g + Rat.divInt 1 g) := by
  rw [grid_next hg]
  exact ⟨Nat.le_trans (D4.nDigits_mono (D4.divInt_num_le _ _)) (Nat.le_trans (D4.nDigits_le (d := 3) (by omega)) (by omega)), Nat.le_trans (D4.nDigits_mono (D4.divInt_den_le _ (by omega))) (Nat.le_trans (D4.nDigits_le (d := 3) (by omega)) (by omega))⟩
theorem low_next {n k g : Nat} {x : Rat} (hg : 0 < g) (h0 : 0 < k) (hk : k ≤ n) (x0 : 0 ≤ x) (h : lowV n k g x + Rat.divInt 1 g ≤ 1) : ∃ i : Nat, i ≤ g ∧ lowV n k g x + Rat.divInt 1 g = Rat.divInt i g ∧ x < U n k (lowV n k g x + Rat.divInt 1 g) := by
  obtain ⟨L, hL, hLg, hU, hN⟩ := last_spec (n := n) (k := k) (g := g) (x := x) hg h0 (by omega) x0
  have e : lowV n k g x = Rat.divInt L g := by unfold lowV; rw [if_neg (by omega), hL]
  rw [e, grid_next hg] at h ⊢
  have hlt : L + 1 ≤ g := by
    rcases Nat.lt_or_ge L g with a | a
    · omega
    · exfalso
      have hLg2 : L = g := by omega
      rw [hLg2, ← grid_next hg, grid_one hg] at h
      have h2 := (divInt_le (a := 1) (b := (g : Int)) (by omega) (by omega)).2.2.1 (by omega)
      grind
  exact ⟨L + 1, hlt, rfl, hN (L + 1) (by omega) hlt⟩
theorem low_le {n k g : Nat} {x : Rat} (hg : 0 < g) (h0 : 0 < k) (hk : k ≤ n) (x0 : 0 ≤ x) : U n k (lowV n k g x) ≤ x := by
  obtain ⟨L, hL, hLg, hU, hN⟩ := last_spec (n := n) (k := k) (g := g) (x := x) hg h0 (by omega) x0
  have e : lowV n k g x = Rat.divInt L g := by unfold lowV; rw [if_neg (by omega), hL]
  rw [e]; exact hU
theorem ix0 (A B : ByteArray) (V : World) : (Instr.index 59 (.agg #[.string A, .string B]) (.int .i64 0)).run Tryz.prog V = .ok (.string A) V := by kernel_rfl
theorem ix1 (A B : ByteArray) (V : World) : (Instr.index 59 (.agg #[.string A, .string B]) (.int .i64 1)).run Tryz.prog V = .ok (.string B) V := by kernel_rfl

/- The walk. -/
theorem ab_fit {n : Nat} {p : Rat} (p0 : 0 ≤ p) (p1 : p ≤ 1) (hd : p.den ≤ 132) (hn : n ≤ 8) (c : Nat → Bool) (m : Nat) (hm : m ≤ n + 1) : fitsD 2000 (ab n p c m) := by
  have ho : ∀ m, m ≤ n + 1 → On (p.den ^ n) (ab n p c m) := by
    intro m
    induction m with
    | zero => intro _; exact On.zero _
    | succ m ih =>
      intro h
      unfold ab
      split
      · exact (ih (by omega)).add ((On.den p).ms n m (by omega))
      · exact ih (by omega)
  obtain ⟨a, b⟩ := ab_total (n := n) p0 p1 c m hm
  have u := (U_unit p p0 p1 n m).1
  exact fit_le ((ho m hm).fit a (by grind) (Nat.pow_pos p.den_pos) (pow_small hd hn)) (by decide)

set_option maxHeartbeats 16000000 in
set_option maxRecDepth 100000 in
theorem covers_any {w : World} (n k p dd gr : Int) (b : Nat) (n0 : 0 ≤ n) (n1 : n ≤ 255) (k0 : 0 ≤ k) (k1 : k ≤ 255) (q0 : 0 ≤ p) (q1 : p ≤ 255) (e0 : 0 ≤ dd) (e1 : dd ≤ 255) (h0 : 0 ≤ gr) (h1 : gr ≤ 255) (hb : b < 256) (hg : Good w) :
    Calls Tryz.prog 9 #[.agg #[.int .u8 n, .int .u8 k, .int .u8 p, .int .u8 dd, .int .u8 gr], .int .u8 b] w (RetV w (.bool true)) := by
  obtain ⟨N, K, P, D, G, ha, hA⟩ := args_any n k p dd gr n0 n1 k0 k1 q0 q1 e0 e1 h0 h1
  have HA := Lib.hid hA
  have HN := ha.n
  have hG0 : 0 < G := ha.g0
  have hG1 := ha.g1
  have d0 := ha.d0
  have d1 := ha.d1
  have df : fitsD 4 D := (On.den D).fit (d := 3) (Rat.le_of_lt d0) (Rat.le_of_lt d1) D.den_pos (by have := ha.dd; omega)
  have t1 := Int.tmod_nonneg (a := (b : Int)) 12 (by omega)
  have t2 := Int.tmod_lt_of_pos (b : Int) (b := 12) (by omega)
  obtain ⟨s, es⟩ : ∃ s, (b : Int).tmod 12 = s := ⟨_, rfl⟩
  rw [es] at t1 t2
  have hs := divInt_le (a := s) (b := 11) t1 (by omega)
  have hSd : (Rat.divInt s 11).den ≤ 11 := D4.divInt_den_le s (d := 11) (by omega)
  have H1 := Lib.hid (fun (V : World) (hV : Good V) => works_any hV)
  have H3 := Lib.hid (fun (V : World) (hV : Good V) => rofr_any (w := V) (n := s) (d := 11) (by omega) (by omega) (by omega) (by omega) (by omega) hV)
  have H4 := Lib.hid (fun (V : World) (hV : Good V) => rofr_any (w := V) (n := 1) (d := (G : Int)) (by omega) (by omega) (by omega) (by omega) (by omega) hV)
  have hPT : Ch (Rat.divInt s 11) := ⟨hs.1, hs.2.1 (by omega), (On.divInt s (M := 11) (by omega)).fit (d := 3) hs.1 (hs.2.1 (by omega)) (by omega) (by omega)⟩
  have x0 : 0 ≤ D := Rat.le_of_lt d0
  generalize Rat.divInt s 11 = PT at *
  obtain ⟨p0, p1⟩ := And.intro hPT.lo hPT.hi
  have hdf : fitsD 2000 D := fit_le df (by omega)
  obtain ⟨c1, hc1⟩ : ∃ c : Nat → Bool, c = fun j => decide (PT < lowV N j G D) := ⟨_, rfl⟩
  obtain ⟨c2, hc2⟩ : ∃ c : Nat → Bool, c = fun j => decide (highV N j G D < PT) := ⟨_, rfl⟩
  obtain ⟨nb, hnb⟩ : ∃ c : Nat → Bool, c = fun j => decide (lowV N j G D + Rat.divInt 1 G ≤ 1) := ⟨_, rfl⟩
  have gl : ∀ j, j ≤ N → fitsD 2000 (lowV N j G D) := fun j hj => by
    obtain ⟨i, hi, e⟩ := low_grid (n := N) (k := j) (g := G) (x := D) hG0 hj x0
    rw [e]; exact (point_fit hi hG0 hG1).big
  have gh : ∀ j, j ≤ N → fitsD 2000 (highV N j G D) := fun j hj => by
    obtain ⟨i, hi, e⟩ := high_grid (n := N) (k := j) (g := G) (x := D) hG0 hj x0
    rw [e]; exact (point_fit hi hG0 hG1).big
  have HL := Lib.hid (fun (j : Nat) (hj : j ≤ N) (V : World) (hV : Good V) => low_rt (w := V) (n := N) (k := j) (g := G) (x := D) d0 d1 df (by omega) hj (by omega) (by omega) hV)
  have HH := Lib.hid (fun (j : Nat) (hj : j ≤ N) (V : World) (hV : Good V) => high_rt (w := V) (n := N) (k := j) (g := G) (x := D) d0 d1 df (by omega) hj (by omega) (by omega) hV)
  have HM := Lib.hid (fun (j : Nat) (hj : j ≤ N) (V : World) (hV : Good V) => mass_rt (w := V) (n := N) (k := j) hPT (by omega) hj hV)
  have HC1 := Lib.hid (fun (j : Nat) (hj : j ≤ N) (V : World) (hV : Good V) => by
    have h := qmost_any (w := V) (x := lowV N j G D) (y := PT) (gl j hj) hPT.big hV
    rw [le_flip, show decide (PT < lowV N j G D) = c1 j by rw [hc1]] at h
    exact h)
  have HC2 := Lib.hid (fun (j : Nat) (hj : j ≤ N) (V : World) (hV : Good V) => by
    have h := qmost_any (w := V) (x := PT) (y := highV N j G D) hPT.big (gh j hj) hV
    rw [le_flip, show decide (highV N j G D < PT) = c2 j by rw [hc2]] at h
    exact h)
  have fab : ∀ (c : Nat → Bool) m, m ≤ N + 1 → fitsD 2000 (ab N PT c m) := fun c m hm => ab_fit p0 p1 (by omega) (by omega) c m hm
  have hab : ∀ (c : Nat → Bool) m, c m = true → ab N PT c m + ms N m PT = ab N PT c (m + 1) := fun c m h => by
    show _ = (if c m then _ else _)
    rw [h]; rfl
  have EA : ∀ j, c1 j = false → ab N PT c1 (j + 1) = ab N PT c1 j := fun j h => by
    show (if c1 j then _ else _) = _
    rw [h]; rfl
  have EB : ∀ j, c2 j = false → ab N PT c2 (j + 1) = ab N PT c2 j := fun j h => by
    show (if c2 j then _ else _) = _
    rw [h]; rfl
  have HA1 := Lib.hid (fun (j : Nat) (hj : j ≤ N) (h1 : c1 j = true) (V : World) (hV : Good V) => by
    have h := qadd_any (w := V) (x := ab N PT c1 j) (y := ms N j PT) (fab c1 j (by omega)) (ms_fit p0 p1 (by omega) (by omega) hj) (by rw [hab c1 j h1]; exact fab c1 (j + 1) (by omega)) hV
    rw [hab c1 j h1] at h
    exact h)
  have HB1 := Lib.hid (fun (j : Nat) (hj : j ≤ N) (h1 : c2 j = true) (V : World) (hV : Good V) => by
    have h := qadd_any (w := V) (x := ab N PT c2 j) (y := ms N j PT) (fab c2 j (by omega)) (ms_fit p0 p1 (by omega) (by omega) hj) (by rw [hab c2 j h1]; exact fab c2 (j + 1) (by omega)) hV
    rw [hab c2 j h1] at h
    exact h)
  have HPL := Lib.hid (fun (j : Nat) (hj : j ≤ N) => (show ∃ t : ByteArray, PtC (rt (Rat.divInt 1 G)) (rt (lowV N j G D)) t by
    obtain ⟨i, hi, e⟩ := low_grid (n := N) (k := j) (g := G) (x := D) hG0 hj x0
    rw [e]; exact ⟨_, fun V hV => point_any hi hG0 hG1 V hV⟩))
  have HPH := Lib.hid (fun (j : Nat) (hj : j ≤ N) => (show ∃ t : ByteArray, PtC (rt (Rat.divInt 1 G)) (rt (highV N j G D)) t by
    obtain ⟨i, hi, e⟩ := high_grid (n := N) (k := j) (g := G) (x := D) hG0 hj x0
    rw [e]; exact ⟨_, fun V hV => point_any hi hG0 hG1 V hV⟩))
  have hu := (point_fit (i := 1) (g := G) (by omega) hG0 hG1)
  have gn : ∀ j, j ≤ N → fitsD 2000 (lowV N j G D + Rat.divInt 1 G) := fun j hj => by
    obtain ⟨i, hi, e⟩ := low_grid (n := N) (k := j) (g := G) (x := D) hG0 hj x0
    rw [e]; exact next_fit hi hG0 hG1
  have HX := Lib.hid (fun (j : Nat) (hj : j ≤ N) (V : World) (hV : Good V) => qadd_any (w := V) (x := lowV N j G D) (y := Rat.divInt 1 G) (gl j hj) hu.big (gn j hj) hV)
  have HXm := Lib.hid (fun (j : Nat) (hj : j ≤ N) (V : World) (hV : Good V) => by
    have h := qmost_any (w := V) (x := lowV N j G D + Rat.divInt 1 G) (y := 1) (gn j hj) fit_one hV
    rw [rt_one1, show decide (lowV N j G D + Rat.divInt 1 G ≤ 1) = nb j by rw [hnb]] at h
    exact h)
  have tn : ∀ j, 0 < j → j ≤ N → nb j = true → ∃ i : Nat, i ≤ G ∧ lowV N j G D + Rat.divInt 1 G = Rat.divInt i G ∧ D < U N j (lowV N j G D + Rat.divInt 1 G) := fun j h0 hj h => low_next hG0 h0 hj x0 (by rw [hnb] at h; exact of_decide_eq_true h)
  have HT := Lib.hid (fun (j : Nat) (h0 : 0 < j) (hj : j ≤ N) (h1 : nb j = true) (V : World) (hV : Good V) => by
    obtain ⟨i, hi, e, _⟩ := tn j h0 hj h1
    exact least_rt (w := V) (n := N) (k := j) (x := lowV N j G D + Rat.divInt 1 G) (by rw [e]; exact point_fit hi hG0 hG1) (by omega) hj hV)
  have HTm := Lib.hid (fun (j : Nat) (h0 : 0 < j) (hj : j ≤ N) (h1 : nb j = true) (V : World) (hV : Good V) => by
    obtain ⟨i, hi, e, hlt⟩ := tn j h0 hj h1
    have pf := point_fit hi hG0 hG1
    have f : fitsD 2000 (U N j (lowV N j G D + Rat.divInt 1 G)) := by rw [e]; exact U_fit2 (On.divInt i hG0) pf.lo pf.hi hG0 (by omega) (by omega)
    have h := qmost_any (w := V) f hdf hV
    rw [decide_eq_false (Rat.not_le.2 hlt)] at h
    exact h)
  have HS := Lib.hid (fun (j : Nat) (hj : j ≤ N) (V : World) (hV : Good V) => by
    obtain ⟨i, hi, e⟩ := low_grid (n := N) (k := j) (g := G) (x := D) hG0 hj x0
    exact least_rt (w := V) (n := N) (k := j) (x := lowV N j G D) (by rw [e]; exact point_fit hi hG0 hG1) (by omega) hj hV)
  have HSm := Lib.hid (fun (j : Nat) (h0 : 0 < j) (hj : j ≤ N) (V : World) (hV : Good V) => by
    obtain ⟨i, hi, e⟩ := low_grid (n := N) (k := j) (g := G) (x := D) hG0 hj x0
    have pf := point_fit hi hG0 hG1
    have f : fitsD 2000 (U N j (lowV N j G D)) := by rw [e]; exact U_fit2 (On.divInt i hG0) pf.lo pf.hi hG0 (by omega) (by omega)
    have h := qmost_any (w := V) f hdf hV
    rw [decide_eq_true (low_le hG0 h0 hj x0)] at h
    exact h)
  have HE1 := Lib.hid (fun (V : World) (hV : Good V) => by
    have h := qmost_any (w := V) (x := ab N PT c1 (N + 1)) (y := D) (fab c1 _ (by omega)) hdf hV
    rw [decide_eq_true (show ab N PT c1 (N + 1) ≤ D by rw [hc1]; exact above_le p0 p1 x0 hG0)] at h
    exact h)
  have HE2 := Lib.hid (fun (V : World) (hV : Good V) => by
    have h := qmost_any (w := V) (x := ab N PT c2 (N + 1)) (y := D) (fab c2 _ (by omega)) hdf hV
    rw [decide_eq_true (show ab N PT c2 (N + 1) ≤ D by rw [hc2]; exact below_le p0 p1 x0 hG0)] at h
    exact h)
  obtain ⟨LO, hLO⟩ : ∃ M : Nat → ByteArray, M = fun j => rt (lowV N j G D) := ⟨_, rfl⟩
  obtain ⟨HI, hHI⟩ : ∃ M : Nat → ByteArray, M = fun j => rt (highV N j G D) := ⟨_, rfl⟩
  obtain ⟨MS, hMS⟩ : ∃ M : Nat → ByteArray, M = fun j => rt (ms N j PT) := ⟨_, rfl⟩
  obtain ⟨AB, hAB⟩ : ∃ M : Nat → ByteArray, M = fun j => rt (ab N PT c1 j) := ⟨_, rfl⟩
  obtain ⟨BE, hBE⟩ : ∃ M : Nat → ByteArray, M = fun j => rt (ab N PT c2 j) := ⟨_, rfl⟩
  obtain ⟨NX, hNX⟩ : ∃ M : Nat → ByteArray, M = fun j => rt (lowV N j G D + Rat.divInt 1 G) := ⟨_, rfl⟩
  obtain ⟨TN, hTN⟩ : ∃ M : Nat → ByteArray, M = fun j => rt (U N j (lowV N j G D + Rat.divInt 1 G)) := ⟨_, rfl⟩
  obtain ⟨TL, hTL⟩ : ∃ M : Nat → ByteArray, M = fun j => rt (U N j (lowV N j G D)) := ⟨_, rfl⟩
  have eLO : ∀ j, rt (lowV N j G D) = LO j := fun j => by rw [hLO]
  have eHI : ∀ j, rt (highV N j G D) = HI j := fun j => by rw [hHI]
  have eMS : ∀ j, rt (ms N j PT) = MS j := fun j => by rw [hMS]
  have eAB : ∀ j, rt (ab N PT c1 j) = AB j := fun j => by rw [hAB]
  have eBE : ∀ j, rt (ab N PT c2 j) = BE j := fun j => by rw [hBE]
  have eNX : ∀ j, rt (lowV N j G D + Rat.divInt 1 G) = NX j := fun j => by rw [hNX]
  have eTN : ∀ j, rt (U N j (lowV N j G D + Rat.divInt 1 G)) = TN j := fun j => by rw [hTN]
  have eTL : ∀ j, rt (U N j (lowV N j G D)) = TL j := fun j => by rw [hTL]
  have A0 : (⟨#[48]⟩ : ByteArray) = AB 0 := by rw [hAB]; exact rt_zero.symm
  have B0 : (⟨#[48]⟩ : ByteArray) = BE 0 := by rw [hBE]; exact rt_zero.symm
  have NA : ∀ j, c1 j = false → AB (j + 1) = AB j := fun j h => by rw [hAB]; exact congrArg rt (EA j h)
  have NB : ∀ j, c2 j = false → BE (j + 1) = BE j := fun j h => by rw [hBE]; exact congrArg rt (EB j h)
  simp only [eLO, eHI, eMS, eAB, eBE, eNX, eTN, eTL] at HL HH HM HC1 HC2 HA1 HB1 HPL HPH HX HXm HT HTm HS HSm HE1 HE2
  generalize rt (Rat.divInt 1 G) = RU at *
  generalize rt PT = RP at *
  generalize rt P = RQ at *
  generalize rt D = RD at *
  have HA0 := Lib.hid A0
  have HB0 := Lib.hid B0
  have HNA := Lib.hid NA
  have HNB := Lib.hid NB
  obtain ⟨W, hW, hB, hsz, j⟩ := entA w 36 #[.int .u8 n, .int .u8 k, .int .u8 p, .int .u8 dd, .int .u8 gr]
  have HG := Lib.hid (fun (V : World) (hV : Below W.heap.size W V) => (hg.below hB).below hV)
  have HW := Lib.hid hW
  have HB := Lib.hid hB
  have J := Lib.hid j
  have hg0 : (0 : Int) < (G : Int) := by omega
  have hb' : (0 : Int) ≤ (b : Int) ∧ (b : Int) < 256 := by omega
  obtain ⟨hb1, hb2⟩ := hb'
  clear hb
  generalize (b : Int) = bb at *
  clear hA ha d0 d1 df hPT x0 p0 p1 hdf gl gh fab hab EA EB hu gn tn eLO eHI eMS eAB eBE eNX eTN eTL hLO hHI hMS hAB hBE hNX hTN hTL A0 B0 NA NB hc1 hc2 hnb hg hW hB hsz j n0 n1 k0 k1 q0 q1 e0 e1 h0 h1 hs hSd
  go_enter Tryz.func9, Tryz.ntmps9
  go_upto_region 1 with fail
  rw [← HW.out]
  go_wp2_with fail
  refine (H1.out _ (HG.out _ (Below.refl _ _))).mono ?_
  rintro e wn ⟨rfl, b1⟩
  have jn := J.out.next b1
  have c0 := jn.cell 0
  have c1' := jn.cell 1
  have c2' := jn.cell 2
  have c3 := jn.cell 3
  have c4 := jn.cell 4
  simp at c0 c1' c2' c3 c4
  have B1 := Lib.hid b1
  clear b1 jn
  go_wp2_with fail
  refine (HA.out _ (HG.out _ B1.out)).mono ?_
  rintro e wn2 ⟨rfl, b2⟩
  have B2 := Lib.hid (next_below B1.out b2)
  clear b2 c0 c1' c2' c3 c4
  go_wp2_with fail
  refine (H3.out _ (HG.out _ B2.out)).mono ?_
  rintro e V3 ⟨rfl, kk⟩
  have B3 := Lib.hid (next_below B2.out kk)
  clear kk es
  go_wp2_with fail
  refine (H4.out _ (HG.out _ B3.out)).mono ?_
  rintro e V4 ⟨rfl, kk⟩
  have B4 := Lib.hid (next_below B3.out kk)
  clear kk t1 t2
  go_wp2
  go_loopg [14, 15, 16] (N + 1) (fun gk u14 u15 u16 wr => ∃ j : Nat, u14 = .string (AB j) ∧ u15 = .string (BE j) ∧ u16 = .int .i64 (j : Int) ∧ j + gk = N + 1 ∧ Hid (Below W.heap.size W wr))
  case atStart => exact ⟨0, by rw [← HA0.out], by rw [← HB0.out], rfl, by omega, B4⟩
  case round =>
    obtain ⟨j, rfl, rfl, rfl, hjk, hK⟩ := hrel
    by_cases hz : j ≤ N
    · have hzi : (j : Int) ≤ (N : Int) := by omega
      obtain ⟨tL, hPL⟩ := HPL.out j hz
      obtain ⟨tH, hPH⟩ := HPH.out j hz
      have QL := Lib.hid hPL
      have QH := Lib.hid hPH
      have hL := Lib.hid (HL.out j hz)
      have hH := Lib.hid (HH.out j hz)
      have hM := Lib.hid (HM.out j hz)
      have hC1 := Lib.hid (HC1.out j hz)
      have hC2 := Lib.hid (HC2.out j hz)
      have hA1 := Lib.hid (HA1.out j hz)
      have hB1 := Lib.hid (HB1.out j hz)
      have hX := Lib.hid (HX.out j hz)
      have hXm := Lib.hid (HXm.out j hz)
      have hT := Lib.hid (fun h => HT.out j h hz)
      have hTm := Lib.hid (fun h => HTm.out j h hz)
      have hS := Lib.hid (HS.out j hz)
      have hSm := Lib.hid (fun h => HSm.out j h hz)
      have nA := Lib.hid (HNA.out j)
      have nB := Lib.hid (HNB.out j)
      clear hPL hPH HPL HPH HL HH HM HC1 HC2 HA1 HB1 HX HXm HT HTm HS HSm HNA HNB HE1 HE2 HA0 HB0 H1 H3 H4 HA HW
      generalize LO j = XL at *
      generalize HI j = XH at *
      generalize MS j = XM at *
      generalize NX j = XN at *
      generalize TN j = XTN at *
      generalize TL j = XTL at *
      generalize hgb : gk = gb at *
      generalize hwb : wr = wb at *
      clear hgb hwb
      generalize c1 j = b1 at *
      generalize c2 j = b2 at *
      generalize nb j = b3 at *
      cases b1 <;> cases b2
      · -- False False
        have nA2 := Lib.hid (nA.out rfl)
        have nB2 := Lib.hid (nB.out rfl)
        clear hA1 hB1 nA nB
        go_wp2_with fail
        refine (hL.out _ (HG.out _ hK.out)).mono ?_
        rintro e V ⟨rfl, kk⟩
        have K68 := Lib.hid (next_below hK.out kk)
        clear kk
        go_wp2_with fail
        refine (hH.out _ (HG.out _ K68.out)).mono ?_
        rintro e V ⟨rfl, kk⟩
        have K69 := Lib.hid (next_below K68.out kk)
        clear kk
        go_wp2_with fail
        refine (hM.out _ (HG.out _ K69.out)).mono ?_
        rintro e V ⟨rfl, kk⟩
        have K70 := Lib.hid (next_below K69.out kk)
        clear kk
        go_wp2_with fail
        refine (hC1.out _ (HG.out _ K70.out)).mono ?_
        rintro e V ⟨rfl, kk⟩
        have K71 := Lib.hid (next_below K70.out kk)
        clear kk
        go_wp2_with fail
        refine (hC2.out _ (HG.out _ K71.out)).mono ?_
        rintro e V ⟨rfl, kk⟩
        have K72 := Lib.hid (next_below K71.out kk)
        clear kk
        go_wp2
        rw [← nA2.out]
        rw [← nB2.out]
        go_loopg [119] 2 (fun gk u119 wr => ∃ i : Nat, u119 = .int .i64 (i : Int) ∧ i + gk = 2 ∧ Hid (Below W.heap.size W wr))
        case atStart => exact ⟨0, rfl, rfl, K72⟩
        case round =>
          obtain ⟨i, rfl, hi, hK2⟩ := hrel
          by_cases hi2 : i < 2
          · have hi3 : (i : Int) < 2 := by omega
            obtain ⟨x, t, hx, hQ⟩ : ∃ x t, (∀ V, (Instr.index 59 (.agg #[.string XL, .string XH]) (.int .i64 (i : Int))).run Tryz.prog V = .ok (.string x) V) ∧ Hid (PtC RU x t) := by
              obtain rfl | rfl : i = 0 ∨ i = 1 := by omega
              · exact ⟨XL, tL, fun V => ix0 _ _ V, QL⟩
              · exact ⟨XH, tH, fun V => ix1 _ _ V, QH⟩
            have q1 := Lib.hid (fun V hV => (hQ.out V hV).1)
            have q2 := Lib.hid (fun V hV => (hQ.out V hV).2.1)
            have q3 := Lib.hid (fun V hV => (hQ.out V hV).2.2.1)
            have q4 := Lib.hid (fun V hV => (hQ.out V hV).2.2.2.1)
            have q5 := Lib.hid (fun V hV => (hQ.out V hV).2.2.2.2)
            clear hQ QL QH hL hH hM hC1 hC2 hX hXm hT hTm hS hSm
            go_wp2_with fail
            refine (q1.out _ (HG.out _ hK2.out)).mono ?_
            rintro e V ⟨rfl, kk⟩
            have K73 := Lib.hid (next_below hK2.out kk)
            clear kk
            go_wp2_with fail
            refine (q2.out _ (HG.out _ K73.out)).mono ?_
            rintro e V ⟨rfl, kk⟩
            have K74 := Lib.hid (next_below K73.out kk)
            clear kk
            go_wp2_with fail
            refine (q3.out _ (HG.out _ K74.out)).mono ?_
            rintro e V ⟨rfl, kk⟩
            have K75 := Lib.hid (next_below K74.out kk)
            clear kk
            go_wp2_with fail
            refine (q4.out _ (HG.out _ K75.out)).mono ?_
            rintro e V ⟨rfl, kk⟩
            have K76 := Lib.hid (next_below K75.out kk)
            clear kk
            go_wp2_with fail
            refine (q5.out _ (HG.out _ K76.out)).mono ?_
            rintro e V ⟨rfl, kk⟩
            have K77 := Lib.hid (next_below K76.out kk)
            clear kk
            go_wp2
            go_roundg (gk - 1)
            case rel => exact ⟨i + 1, by go_num, by omega, K77⟩
            case measure => omega
          · obtain rfl : i = 2 := by omega
            clear hL hH hM hC1 hC2 QL QH
            by_cases hj0 : j = 0
            · subst hj0
              go_wp2_with fail
              refine (hX.out _ (HG.out _ hK2.out)).mono ?_
              rintro e V ⟨rfl, kk⟩
              have K78 := Lib.hid (next_below hK2.out kk)
              clear kk
              go_wp2
              go_roundg (gb - 1)
              case rel => exact ⟨0 + 1, rfl, rfl, by go_num, by omega, K78⟩
              case measure => omega
            · have hj1 : 0 < j := by omega
              have hj2 : (0 : Int) < (j : Int) := by omega
              have hj3 : (j : Int) ≠ 0 := by omega
              have hSm2 := Lib.hid (hSm.out hj1)
              have hT2 := Lib.hid (hT.out hj1)
              have hTm2 := Lib.hid (hTm.out hj1)
              clear hSm hT hTm
              cases b3
              · -- nx False
                clear hT2 hTm2
                go_wp2_with fail
                refine (hX.out _ (HG.out _ hK2.out)).mono ?_
                rintro e V ⟨rfl, kk⟩
                have K79 := Lib.hid (next_below hK2.out kk)
                clear kk
                go_wp2_with fail
                refine (hXm.out _ (HG.out _ K79.out)).mono ?_
                rintro e V ⟨rfl, kk⟩
                have K80 := Lib.hid (next_below K79.out kk)
                clear kk
                go_wp2_with fail
                refine (hS.out _ (HG.out _ K80.out)).mono ?_
                rintro e V ⟨rfl, kk⟩
                have K81 := Lib.hid (next_below K80.out kk)
                clear kk
                go_wp2_with fail
                refine (hSm2.out _ (HG.out _ K81.out)).mono ?_
                rintro e V ⟨rfl, kk⟩
                have K82 := Lib.hid (next_below K81.out kk)
                clear kk
                go_wp2
                go_roundg (gb - 1)
                case rel => exact ⟨j + 1, rfl, rfl, by go_num, by omega, K82⟩
                case measure => omega
              · -- nx True
                have hT3 := Lib.hid (hT2.out rfl)
                have hTm3 := Lib.hid (hTm2.out rfl)
                clear hT2 hTm2
                go_wp2_with fail
                refine (hX.out _ (HG.out _ hK2.out)).mono ?_
                rintro e V ⟨rfl, kk⟩
                have K83 := Lib.hid (next_below hK2.out kk)
                clear kk
                go_wp2_with fail
                refine (hXm.out _ (HG.out _ K83.out)).mono ?_
                rintro e V ⟨rfl, kk⟩
                have K84 := Lib.hid (next_below K83.out kk)
                clear kk
                go_wp2_with fail
                refine (hT3.out _ (HG.out _ K84.out)).mono ?_
                rintro e V ⟨rfl, kk⟩
                have K85 := Lib.hid (next_below K84.out kk)
                clear kk
                go_wp2_with fail
                refine (hTm3.out _ (HG.out _ K85.out)).mono ?_
                rintro e V ⟨rfl, kk⟩
                have K86 := Lib.hid (next_below K85.out kk)
                clear kk
                go_wp2_with fail
                refine (hS.out _ (HG.out _ K86.out)).mono ?_
                rintro e V ⟨rfl, kk⟩
                have K87 := Lib.hid (next_below K86.out kk)
                clear kk
                go_wp2_with fail
                refine (hSm2.out _ (HG.out _ K87.out)).mono ?_
                rintro e V ⟨rfl, kk⟩
                have K88 := Lib.hid (next_below K87.out kk)
                clear kk
                go_wp2
                go_roundg (gb - 1)
                case rel => exact ⟨j + 1, rfl, rfl, by go_num, by omega, K88⟩
                case measure => omega

      · -- False True
        have nA2 := Lib.hid (nA.out rfl)
        have hB2 := Lib.hid (hB1.out rfl)
        clear hA1 hB1 nA nB
        go_wp2_with fail
        refine (hL.out _ (HG.out _ hK.out)).mono ?_
        rintro e V ⟨rfl, kk⟩
        have K46 := Lib.hid (next_below hK.out kk)
        clear kk
        go_wp2_with fail
        refine (hH.out _ (HG.out _ K46.out)).mono ?_
        rintro e V ⟨rfl, kk⟩
        have K47 := Lib.hid (next_below K46.out kk)
        clear kk
        go_wp2_with fail
        refine (hM.out _ (HG.out _ K47.out)).mono ?_
        rintro e V ⟨rfl, kk⟩
        have K48 := Lib.hid (next_below K47.out kk)
        clear kk
        go_wp2_with fail
        refine (hC1.out _ (HG.out _ K48.out)).mono ?_
        rintro e V ⟨rfl, kk⟩
        have K49 := Lib.hid (next_below K48.out kk)
        clear kk
        go_wp2_with fail
        refine (hC2.out _ (HG.out _ K49.out)).mono ?_
        rintro e V ⟨rfl, kk⟩
        have K50 := Lib.hid (next_below K49.out kk)
        clear kk
        go_wp2_with fail
        refine (hB2.out _ (HG.out _ K50.out)).mono ?_
        rintro e V ⟨rfl, kk⟩
        have K51 := Lib.hid (next_below K50.out kk)
        clear kk
        go_wp2
        rw [← nA2.out]
        go_loopg [119] 2 (fun gk u119 wr => ∃ i : Nat, u119 = .int .i64 (i : Int) ∧ i + gk = 2 ∧ Hid (Below W.heap.size W wr))
        case atStart => exact ⟨0, rfl, rfl, K51⟩
        case round =>
          obtain ⟨i, rfl, hi, hK2⟩ := hrel
          by_cases hi2 : i < 2
          · have hi3 : (i : Int) < 2 := by omega
            obtain ⟨x, t, hx, hQ⟩ : ∃ x t, (∀ V, (Instr.index 59 (.agg #[.string XL, .string XH]) (.int .i64 (i : Int))).run Tryz.prog V = .ok (.string x) V) ∧ Hid (PtC RU x t) := by
              obtain rfl | rfl : i = 0 ∨ i = 1 := by omega
              · exact ⟨XL, tL, fun V => ix0 _ _ V, QL⟩
              · exact ⟨XH, tH, fun V => ix1 _ _ V, QH⟩
            have q1 := Lib.hid (fun V hV => (hQ.out V hV).1)
            have q2 := Lib.hid (fun V hV => (hQ.out V hV).2.1)
            have q3 := Lib.hid (fun V hV => (hQ.out V hV).2.2.1)
            have q4 := Lib.hid (fun V hV => (hQ.out V hV).2.2.2.1)
            have q5 := Lib.hid (fun V hV => (hQ.out V hV).2.2.2.2)
            clear hQ QL QH hL hH hM hC1 hC2 hX hXm hT hTm hS hSm
            go_wp2_with fail
            refine (q1.out _ (HG.out _ hK2.out)).mono ?_
            rintro e V ⟨rfl, kk⟩
            have K52 := Lib.hid (next_below hK2.out kk)
            clear kk
            go_wp2_with fail
            refine (q2.out _ (HG.out _ K52.out)).mono ?_
            rintro e V ⟨rfl, kk⟩
            have K53 := Lib.hid (next_below K52.out kk)
            clear kk
            go_wp2_with fail
            refine (q3.out _ (HG.out _ K53.out)).mono ?_
            rintro e V ⟨rfl, kk⟩
            have K54 := Lib.hid (next_below K53.out kk)
            clear kk
            go_wp2_with fail
            refine (q4.out _ (HG.out _ K54.out)).mono ?_
            rintro e V ⟨rfl, kk⟩
            have K55 := Lib.hid (next_below K54.out kk)
            clear kk
            go_wp2_with fail
            refine (q5.out _ (HG.out _ K55.out)).mono ?_
            rintro e V ⟨rfl, kk⟩
            have K56 := Lib.hid (next_below K55.out kk)
            clear kk
            go_wp2
            go_roundg (gk - 1)
            case rel => exact ⟨i + 1, by go_num, by omega, K56⟩
            case measure => omega
          · obtain rfl : i = 2 := by omega
            clear hL hH hM hC1 hC2 QL QH
            by_cases hj0 : j = 0
            · subst hj0
              go_wp2_with fail
              refine (hX.out _ (HG.out _ hK2.out)).mono ?_
              rintro e V ⟨rfl, kk⟩
              have K57 := Lib.hid (next_below hK2.out kk)
              clear kk
              go_wp2
              go_roundg (gb - 1)
              case rel => exact ⟨0 + 1, rfl, rfl, by go_num, by omega, K57⟩
              case measure => omega
            · have hj1 : 0 < j := by omega
              have hj2 : (0 : Int) < (j : Int) := by omega
              have hj3 : (j : Int) ≠ 0 := by omega
              have hSm2 := Lib.hid (hSm.out hj1)
              have hT2 := Lib.hid (hT.out hj1)
              have hTm2 := Lib.hid (hTm.out hj1)
              clear hSm hT hTm
              cases b3
              · -- nx False
                clear hT2 hTm2
                go_wp2_with fail
                refine (hX.out _ (HG.out _ hK2.out)).mono ?_
                rintro e V ⟨rfl, kk⟩
                have K58 := Lib.hid (next_below hK2.out kk)
                clear kk
                go_wp2_with fail
                refine (hXm.out _ (HG.out _ K58.out)).mono ?_
                rintro e V ⟨rfl, kk⟩
                have K59 := Lib.hid (next_below K58.out kk)
                clear kk
                go_wp2_with fail
                refine (hS.out _ (HG.out _ K59.out)).mono ?_
                rintro e V ⟨rfl, kk⟩
                have K60 := Lib.hid (next_below K59.out kk)
                clear kk
                go_wp2_with fail
                refine (hSm2.out _ (HG.out _ K60.out)).mono ?_
                rintro e V ⟨rfl, kk⟩
                have K61 := Lib.hid (next_below K60.out kk)
                clear kk
                go_wp2
                go_roundg (gb - 1)
                case rel => exact ⟨j + 1, rfl, rfl, by go_num, by omega, K61⟩
                case measure => omega
              · -- nx True
                have hT3 := Lib.hid (hT2.out rfl)
                have hTm3 := Lib.hid (hTm2.out rfl)
                clear hT2 hTm2
                go_wp2_with fail
                refine (hX.out _ (HG.out _ hK2.out)).mono ?_
                rintro e V ⟨rfl, kk⟩
                have K62 := Lib.hid (next_below hK2.out kk)
                clear kk
                go_wp2_with fail
                refine (hXm.out _ (HG.out _ K62.out)).mono ?_
                rintro e V ⟨rfl, kk⟩
                have K63 := Lib.hid (next_below K62.out kk)
                clear kk
                go_wp2_with fail
                refine (hT3.out _ (HG.out _ K63.out)).mono ?_
                rintro e V ⟨rfl, kk⟩
                have K64 := Lib.hid (next_below K63.out kk)
                clear kk
                go_wp2_with fail
                refine (hTm3.out _ (HG.out _ K64.out)).mono ?_
                rintro e V ⟨rfl, kk⟩
                have K65 := Lib.hid (next_below K64.out kk)
                clear kk
                go_wp2_with fail
                refine (hS.out _ (HG.out _ K65.out)).mono ?_
                rintro e V ⟨rfl, kk⟩
                have K66 := Lib.hid (next_below K65.out kk)
                clear kk
                go_wp2_with fail
                refine (hSm2.out _ (HG.out _ K66.out)).mono ?_
                rintro e V ⟨rfl, kk⟩
                have K67 := Lib.hid (next_below K66.out kk)
                clear kk
                go_wp2
                go_roundg (gb - 1)
                case rel => exact ⟨j + 1, rfl, rfl, by go_num, by omega, K67⟩
                case measure => omega
      · -- True False
        have hA2 := Lib.hid (hA1.out rfl)
        have nB2 := Lib.hid (nB.out rfl)
        clear hA1 hB1 nA nB
        go_wp2_with fail
        refine (hL.out _ (HG.out _ hK.out)).mono ?_
        rintro e V ⟨rfl, kk⟩
        have K24 := Lib.hid (next_below hK.out kk)
        clear kk
        go_wp2_with fail
        refine (hH.out _ (HG.out _ K24.out)).mono ?_
        rintro e V ⟨rfl, kk⟩
        have K25 := Lib.hid (next_below K24.out kk)
        clear kk
        go_wp2_with fail
        refine (hM.out _ (HG.out _ K25.out)).mono ?_
        rintro e V ⟨rfl, kk⟩
        have K26 := Lib.hid (next_below K25.out kk)
        clear kk
        go_wp2_with fail
        refine (hC1.out _ (HG.out _ K26.out)).mono ?_
        rintro e V ⟨rfl, kk⟩
        have K27 := Lib.hid (next_below K26.out kk)
        clear kk
        go_wp2_with fail
        refine (hA2.out _ (HG.out _ K27.out)).mono ?_
        rintro e V ⟨rfl, kk⟩
        have K28 := Lib.hid (next_below K27.out kk)
        clear kk
        go_wp2_with fail
        refine (hC2.out _ (HG.out _ K28.out)).mono ?_
        rintro e V ⟨rfl, kk⟩
        have K29 := Lib.hid (next_below K28.out kk)
        clear kk
        go_wp2
        rw [← nB2.out]
        go_loopg [119] 2 (fun gk u119 wr => ∃ i : Nat, u119 = .int .i64 (i : Int) ∧ i + gk = 2 ∧ Hid (Below W.heap.size W wr))
        case atStart => exact ⟨0, rfl, rfl, K29⟩
        case round =>
          obtain ⟨i, rfl, hi, hK2⟩ := hrel
          by_cases hi2 : i < 2
          · have hi3 : (i : Int) < 2 := by omega
            obtain ⟨x, t, hx, hQ⟩ : ∃ x t, (∀ V, (Instr.index 59 (.agg #[.string XL, .string XH]) (.int .i64 (i : Int))).run Tryz.prog V = .ok (.string x) V) ∧ Hid (PtC RU x t) := by
              obtain rfl | rfl : i = 0 ∨ i = 1 := by omega
              · exact ⟨XL, tL, fun V => ix0 _ _ V, QL⟩
              · exact ⟨XH, tH, fun V => ix1 _ _ V, QH⟩
            have q1 := Lib.hid (fun V hV => (hQ.out V hV).1)
            have q2 := Lib.hid (fun V hV => (hQ.out V hV).2.1)
            have q3 := Lib.hid (fun V hV => (hQ.out V hV).2.2.1)
            have q4 := Lib.hid (fun V hV => (hQ.out V hV).2.2.2.1)
            have q5 := Lib.hid (fun V hV => (hQ.out V hV).2.2.2.2)
            clear hQ QL QH hL hH hM hC1 hC2 hX hXm hT hTm hS hSm
            go_wp2_with fail
            refine (q1.out _ (HG.out _ hK2.out)).mono ?_
            rintro e V ⟨rfl, kk⟩
            have K30 := Lib.hid (next_below hK2.out kk)
            clear kk
            go_wp2_with fail
            refine (q2.out _ (HG.out _ K30.out)).mono ?_
            rintro e V ⟨rfl, kk⟩
            have K31 := Lib.hid (next_below K30.out kk)
            clear kk
            go_wp2_with fail
            refine (q3.out _ (HG.out _ K31.out)).mono ?_
            rintro e V ⟨rfl, kk⟩
            have K32 := Lib.hid (next_below K31.out kk)
            clear kk
            go_wp2_with fail
            refine (q4.out _ (HG.out _ K32.out)).mono ?_
            rintro e V ⟨rfl, kk⟩
            have K33 := Lib.hid (next_below K32.out kk)
            clear kk
            go_wp2_with fail
            refine (q5.out _ (HG.out _ K33.out)).mono ?_
            rintro e V ⟨rfl, kk⟩
            have K34 := Lib.hid (next_below K33.out kk)
            clear kk
            go_wp2
            go_roundg (gk - 1)
            case rel => exact ⟨i + 1, by go_num, by omega, K34⟩
            case measure => omega
          · obtain rfl : i = 2 := by omega
            clear hL hH hM hC1 hC2 QL QH
            by_cases hj0 : j = 0
            · subst hj0
              go_wp2_with fail
              refine (hX.out _ (HG.out _ hK2.out)).mono ?_
              rintro e V ⟨rfl, kk⟩
              have K35 := Lib.hid (next_below hK2.out kk)
              clear kk
              go_wp2
              go_roundg (gb - 1)
              case rel => exact ⟨0 + 1, rfl, rfl, by go_num, by omega, K35⟩
              case measure => omega
            · have hj1 : 0 < j := by omega
              have hj2 : (0 : Int) < (j : Int) := by omega
              have hj3 : (j : Int) ≠ 0 := by omega
              have hSm2 := Lib.hid (hSm.out hj1)
              have hT2 := Lib.hid (hT.out hj1)
              have hTm2 := Lib.hid (hTm.out hj1)
              clear hSm hT hTm
              cases b3
              · -- nx False
                clear hT2 hTm2
                go_wp2_with fail
                refine (hX.out _ (HG.out _ hK2.out)).mono ?_
                rintro e V ⟨rfl, kk⟩
                have K36 := Lib.hid (next_below hK2.out kk)
                clear kk
                go_wp2_with fail
                refine (hXm.out _ (HG.out _ K36.out)).mono ?_
                rintro e V ⟨rfl, kk⟩
                have K37 := Lib.hid (next_below K36.out kk)
                clear kk
                go_wp2_with fail
                refine (hS.out _ (HG.out _ K37.out)).mono ?_
                rintro e V ⟨rfl, kk⟩
                have K38 := Lib.hid (next_below K37.out kk)
                clear kk
                go_wp2_with fail
                refine (hSm2.out _ (HG.out _ K38.out)).mono ?_
                rintro e V ⟨rfl, kk⟩
                have K39 := Lib.hid (next_below K38.out kk)
                clear kk
                go_wp2
                go_roundg (gb - 1)
                case rel => exact ⟨j + 1, rfl, rfl, by go_num, by omega, K39⟩
                case measure => omega
              · -- nx True
                have hT3 := Lib.hid (hT2.out rfl)
                have hTm3 := Lib.hid (hTm2.out rfl)
                clear hT2 hTm2
                go_wp2_with fail
                refine (hX.out _ (HG.out _ hK2.out)).mono ?_
                rintro e V ⟨rfl, kk⟩
                have K40 := Lib.hid (next_below hK2.out kk)
                clear kk
                go_wp2_with fail
                refine (hXm.out _ (HG.out _ K40.out)).mono ?_
                rintro e V ⟨rfl, kk⟩
                have K41 := Lib.hid (next_below K40.out kk)
                clear kk
                go_wp2_with fail
                refine (hT3.out _ (HG.out _ K41.out)).mono ?_
                rintro e V ⟨rfl, kk⟩
                have K42 := Lib.hid (next_below K41.out kk)
                clear kk
                go_wp2_with fail
                refine (hTm3.out _ (HG.out _ K42.out)).mono ?_
                rintro e V ⟨rfl, kk⟩
                have K43 := Lib.hid (next_below K42.out kk)
                clear kk
                go_wp2_with fail
                refine (hS.out _ (HG.out _ K43.out)).mono ?_
                rintro e V ⟨rfl, kk⟩
                have K44 := Lib.hid (next_below K43.out kk)
                clear kk
                go_wp2_with fail
                refine (hSm2.out _ (HG.out _ K44.out)).mono ?_
                rintro e V ⟨rfl, kk⟩
                have K45 := Lib.hid (next_below K44.out kk)
                clear kk
                go_wp2
                go_roundg (gb - 1)
                case rel => exact ⟨j + 1, rfl, rfl, by go_num, by omega, K45⟩
                case measure => omega
      · -- True True
        have hA2 := Lib.hid (hA1.out rfl)
        have hB2 := Lib.hid (hB1.out rfl)
        clear hA1 hB1 nA nB
        go_wp2_with fail
        refine (hL.out _ (HG.out _ hK.out)).mono ?_
        rintro e V ⟨rfl, kk⟩
        have K1 := Lib.hid (next_below hK.out kk)
        clear kk
        go_wp2_with fail
        refine (hH.out _ (HG.out _ K1.out)).mono ?_
        rintro e V ⟨rfl, kk⟩
        have K2 := Lib.hid (next_below K1.out kk)
        clear kk
        go_wp2_with fail
        refine (hM.out _ (HG.out _ K2.out)).mono ?_
        rintro e V ⟨rfl, kk⟩
        have K3 := Lib.hid (next_below K2.out kk)
        clear kk
        go_wp2_with fail
        refine (hC1.out _ (HG.out _ K3.out)).mono ?_
        rintro e V ⟨rfl, kk⟩
        have K4 := Lib.hid (next_below K3.out kk)
        clear kk
        go_wp2_with fail
        refine (hA2.out _ (HG.out _ K4.out)).mono ?_
        rintro e V ⟨rfl, kk⟩
        have K5 := Lib.hid (next_below K4.out kk)
        clear kk
        go_wp2_with fail
        refine (hC2.out _ (HG.out _ K5.out)).mono ?_
        rintro e V ⟨rfl, kk⟩
        have K6 := Lib.hid (next_below K5.out kk)
        clear kk
        go_wp2_with fail
        refine (hB2.out _ (HG.out _ K6.out)).mono ?_
        rintro e V ⟨rfl, kk⟩
        have K7 := Lib.hid (next_below K6.out kk)
        clear kk
        go_wp2
        go_loopg [119] 2 (fun gk u119 wr => ∃ i : Nat, u119 = .int .i64 (i : Int) ∧ i + gk = 2 ∧ Hid (Below W.heap.size W wr))
        case atStart => exact ⟨0, rfl, rfl, K7⟩
        case round =>
          obtain ⟨i, rfl, hi, hK2⟩ := hrel
          by_cases hi2 : i < 2
          · have hi3 : (i : Int) < 2 := by omega
            obtain ⟨x, t, hx, hQ⟩ : ∃ x t, (∀ V, (Instr.index 59 (.agg #[.string XL, .string XH]) (.int .i64 (i : Int))).run Tryz.prog V = .ok (.string x) V) ∧ Hid (PtC RU x t) := by
              obtain rfl | rfl : i = 0 ∨ i = 1 := by omega
              · exact ⟨XL, tL, fun V => ix0 _ _ V, QL⟩
              · exact ⟨XH, tH, fun V => ix1 _ _ V, QH⟩
            have q1 := Lib.hid (fun V hV => (hQ.out V hV).1)
            have q2 := Lib.hid (fun V hV => (hQ.out V hV).2.1)
            have q3 := Lib.hid (fun V hV => (hQ.out V hV).2.2.1)
            have q4 := Lib.hid (fun V hV => (hQ.out V hV).2.2.2.1)
            have q5 := Lib.hid (fun V hV => (hQ.out V hV).2.2.2.2)
            clear hQ QL QH hL hH hM hC1 hC2 hX hXm hT hTm hS hSm
            go_wp2_with fail
            refine (q1.out _ (HG.out _ hK2.out)).mono ?_
            rintro e V ⟨rfl, kk⟩
            have K8 := Lib.hid (next_below hK2.out kk)
            clear kk
            go_wp2_with fail
            refine (q2.out _ (HG.out _ K8.out)).mono ?_
            rintro e V ⟨rfl, kk⟩
            have K9 := Lib.hid (next_below K8.out kk)
            clear kk
            go_wp2_with fail
            refine (q3.out _ (HG.out _ K9.out)).mono ?_
            rintro e V ⟨rfl, kk⟩
            have K10 := Lib.hid (next_below K9.out kk)
            clear kk
            go_wp2_with fail
            refine (q4.out _ (HG.out _ K10.out)).mono ?_
            rintro e V ⟨rfl, kk⟩
            have K11 := Lib.hid (next_below K10.out kk)
            clear kk
            go_wp2_with fail
            refine (q5.out _ (HG.out _ K11.out)).mono ?_
            rintro e V ⟨rfl, kk⟩
            have K12 := Lib.hid (next_below K11.out kk)
            clear kk
            go_wp2
            go_roundg (gk - 1)
            case rel => exact ⟨i + 1, by go_num, by omega, K12⟩
            case measure => omega
          · obtain rfl : i = 2 := by omega
            clear hL hH hM hC1 hC2 QL QH
            by_cases hj0 : j = 0
            · subst hj0
              go_wp2_with fail
              refine (hX.out _ (HG.out _ hK2.out)).mono ?_
              rintro e V ⟨rfl, kk⟩
              have K13 := Lib.hid (next_below hK2.out kk)
              clear kk
              go_wp2
              go_roundg (gb - 1)
              case rel => exact ⟨0 + 1, rfl, rfl, by go_num, by omega, K13⟩
              case measure => omega
            · have hj1 : 0 < j := by omega
              have hj2 : (0 : Int) < (j : Int) := by omega
              have hj3 : (j : Int) ≠ 0 := by omega
              have hSm2 := Lib.hid (hSm.out hj1)
              have hT2 := Lib.hid (hT.out hj1)
              have hTm2 := Lib.hid (hTm.out hj1)
              clear hSm hT hTm
              cases b3
              · -- nx False
                clear hT2 hTm2
                go_wp2_with fail
                refine (hX.out _ (HG.out _ hK2.out)).mono ?_
                rintro e V ⟨rfl, kk⟩
                have K14 := Lib.hid (next_below hK2.out kk)
                clear kk
                go_wp2_with fail
                refine (hXm.out _ (HG.out _ K14.out)).mono ?_
                rintro e V ⟨rfl, kk⟩
                have K15 := Lib.hid (next_below K14.out kk)
                clear kk
                go_wp2_with fail
                refine (hS.out _ (HG.out _ K15.out)).mono ?_
                rintro e V ⟨rfl, kk⟩
                have K16 := Lib.hid (next_below K15.out kk)
                clear kk
                go_wp2_with fail
                refine (hSm2.out _ (HG.out _ K16.out)).mono ?_
                rintro e V ⟨rfl, kk⟩
                have K17 := Lib.hid (next_below K16.out kk)
                clear kk
                go_wp2
                go_roundg (gb - 1)
                case rel => exact ⟨j + 1, rfl, rfl, by go_num, by omega, K17⟩
                case measure => omega
              · -- nx True
                have hT3 := Lib.hid (hT2.out rfl)
                have hTm3 := Lib.hid (hTm2.out rfl)
                clear hT2 hTm2
                go_wp2_with fail
                refine (hX.out _ (HG.out _ hK2.out)).mono ?_
                rintro e V ⟨rfl, kk⟩
                have K18 := Lib.hid (next_below hK2.out kk)
                clear kk
                go_wp2_with fail
                refine (hXm.out _ (HG.out _ K18.out)).mono ?_
                rintro e V ⟨rfl, kk⟩
                have K19 := Lib.hid (next_below K18.out kk)
                clear kk
                go_wp2_with fail
                refine (hT3.out _ (HG.out _ K19.out)).mono ?_
                rintro e V ⟨rfl, kk⟩
                have K20 := Lib.hid (next_below K19.out kk)
                clear kk
                go_wp2_with fail
                refine (hTm3.out _ (HG.out _ K20.out)).mono ?_
                rintro e V ⟨rfl, kk⟩
                have K21 := Lib.hid (next_below K20.out kk)
                clear kk
                go_wp2_with fail
                refine (hS.out _ (HG.out _ K21.out)).mono ?_
                rintro e V ⟨rfl, kk⟩
                have K22 := Lib.hid (next_below K21.out kk)
                clear kk
                go_wp2_with fail
                refine (hSm2.out _ (HG.out _ K22.out)).mono ?_
                rintro e V ⟨rfl, kk⟩
                have K23 := Lib.hid (next_below K22.out kk)
                clear kk
                go_wp2
                go_roundg (gb - 1)
                case rel => exact ⟨j + 1, rfl, rfl, by go_num, by omega, K23⟩
                case measure => omega
    · obtain rfl : j = N + 1 := by omega
      have hzi : ¬ ((N + 1 : Nat) : Int) ≤ (N : Int) := by omega
      go_wp2_with fail
      refine (HE1.out _ (HG.out _ hK.out)).mono ?_
      rintro e V5 ⟨rfl, k5⟩
      have K5 := Lib.hid (next_below hK.out k5)
      clear k5
      go_wp2_with fail
      refine (HE2.out _ (HG.out _ K5.out)).mono ?_
      rintro e V6 ⟨rfl, k6⟩
      have K6 := Lib.hid (next_below K5.out k6)
      clear k6
      go_wp2
      go_ret
      exact ⟨rfl, HB.out.trans (K6.out.mono HB.out.size)⟩
end Go.Proofs.YtmhneibcbjgedaaGreatDoor
