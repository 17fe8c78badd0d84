/- The contracts of ratio's operations over texts of numbers that fit; add and most of croupierlaw09; Mass and Least. -/
import Derived.Test.YtmhneibcbjgedaaGreatDoorTArgs
import Derived.Test.YtmhneibcbjgedaaGreatDoorTRat
import Derived.Test.YtmhneibcbjgedaaGreatDoorTWorks
import Derived.Test.YtmhneibcbjgedaaGreatDoorTMath
set_option linter.unusedSimpArgs false
set_option linter.unusedVariables false
namespace Go.Proofs.YtmhneibcbjgedaaGreatDoor
open Go.RowKit
open Go.Lib (decDigits itoa nDigits)
open D4 (rt it)

/-- The text of a number that fits. -/
theorem rerr_fit {x : Rat} (h : fitsD 2000 x) : rerr (ratText x) = 0 := by rw [rerr_ratText, if_pos h]
theorem text_len {x : Rat} (h : fitsD 2000 x) : (ratText x).length ≤ 268435000 := by
  unfold ratText
  rw [List.length_append]
  have h1 := itoa_len x.num
  have h2 := h.1
  have h3 := h.2
  split
  · simp; omega
  · rw [List.length_cons, Lib.decDigits_length]; omega
theorem op_fit {x y z : Rat} (hx : fitsD 2000 x) (hy : fitsD 2000 y) (hz : fitsD 2000 z) : opE z (ratText x) (ratText y) = 0 ∧ opT z (ratText x) (ratText y) = ratText z := by
  have e : opE z (ratText x) (ratText y) = 0 := by unfold opE; rw [if_pos (rerr_fit hx), if_pos (rerr_fit hy), if_pos hz]
  exact ⟨e, by unfold opT; rw [if_pos e]⟩
theorem radd_rt {w : World} {x y : Rat} (hx : fitsD 2000 x) (hy : fitsD 2000 y) (hz : fitsD 2000 (x + y)) (hg : Good w) : Calls Tryz.prog 70 #[.string (rt x), .string (rt y)] w (RetV w (.tuple #[.string (rt (x + y)), .int .i64 0])) := by
  have h := radd_any (w := w) (text_len hx) (text_len hy) hg
  rw [rval_ratText, rval_ratText, (op_fit hx hy hz).1, (op_fit hx hy hz).2] at h
  exact h
theorem rsub_rt {w : World} {x y : Rat} (hx : fitsD 2000 x) (hy : fitsD 2000 y) (hz : fitsD 2000 (x - y)) (hg : Good w) : Calls Tryz.prog 30 #[.string (rt x), .string (rt y)] w (RetV w (.tuple #[.string (rt (x - y)), .int .i64 0])) := by
  have h := rsub_any (w := w) (text_len hx) (text_len hy) hg
  rw [rval_ratText, rval_ratText, (op_fit hx hy hz).1, (op_fit hx hy hz).2] at h
  exact h
theorem rmul_rt {w : World} {x y : Rat} (hx : fitsD 2000 x) (hy : fitsD 2000 y) (hz : fitsD 2000 (x * y)) (hg : Good w) : Calls Tryz.prog 34 #[.string (rt x), .string (rt y)] w (RetV w (.tuple #[.string (rt (x * y)), .int .i64 0])) := by
  have h := rmul_any (w := w) (text_len hx) (text_len hy) hg
  rw [rval_ratText, rval_ratText, (op_fit hx hy hz).1, (op_fit hx hy hz).2] at h
  exact h
theorem rcmp_rt {w : World} {x y : Rat} (hx : fitsD 2000 x) (hy : fitsD 2000 y) (hg : Good w) : Calls Tryz.prog 71 #[.string (rt x), .string (rt y)] w (RetV w (.tuple #[.int .i64 (rcmp x y), .int .i64 0])) := by
  have h := rcmp_any (w := w) (text_len hx) (text_len hy) hg
  have e : cmpE (ratText x) (ratText y) = 0 := by unfold cmpE; rw [if_pos (rerr_fit hx), rerr_fit hy]
  have e2 : cmpR (ratText x) (ratText y) = rcmp x y := by unfold cmpR; rw [if_pos e, rval_ratText, rval_ratText]
  rw [e, e2] at h
  exact h

set_option maxHeartbeats 1000000 in
theorem qadd_any {w : World} {x y : Rat} (hx : fitsD 2000 x) (hy : fitsD 2000 y) (hz : fitsD 2000 (x + y)) (hg : Good w) : Calls Tryz.prog 31 #[.string (rt x), .string (rt y)] w (RetV w (.string (rt (x + y)))) := by
  have h := Lib.hid (radd_rt (w := w) hx hy hz hg)
  clear hx hy hz hg
  generalize rt (x + y) = Z at *
  generalize rt x = X at *
  generalize rt y = Y at *
  go_enter Tryz.func31, Tryz.ntmps31
  go_wp2_with fail
  refine h.out.mono ?_
  rintro e wn ⟨rfl, hb⟩
  go_wp2
  go_ret
  exact ⟨rfl, hb⟩
set_option maxHeartbeats 1000000 in
theorem qmost_any {w : World} {x y : Rat} (hx : fitsD 2000 x) (hy : fitsD 2000 y) (hg : Good w) : Calls Tryz.prog 32 #[.string (rt x), .string (rt y)] w (RetV w (.bool (decide (x ≤ y)))) := by
  have h := Lib.hid (rcmp_rt (w := w) hx hy hg)
  have e : decide (x ≤ y) = decide (rcmp x y ≤ 0) := by congr 1; exact propext rcmp_le.symm
  rw [e]
  clear hx hy hg e
  generalize rcmp x y = c at *
  generalize rt x = X at *
  generalize rt y = Y at *
  go_enter Tryz.func32, Tryz.ntmps32
  go_wp2_with fail
  refine h.out.mono ?_
  rintro e wn ⟨rfl, hb⟩
  go_wp2
  go_ret
  exact ⟨rfl, hb⟩

/-- A number from 0 to 1 that is short. -/
structure Ch (x : Rat) : Prop where
  lo : 0 ≤ x
  hi : x ≤ 1
  fit : fitsD 4 x
theorem Ch.big {x : Rat} (h : Ch x) : fitsD 2000 x := ⟨Nat.le_trans h.fit.1 (by omega), Nat.le_trans h.fit.2 (by omega)⟩
theorem Ch.err {x : Rat} (h : Ch x) : chErr true (ratText x) = 0 := by
  unfold chErr
  have hs : rshort (ratText x) = true := by
    unfold rshort
    rw [rerr_fit h.big, rval_ratText]
    have h1 := h.fit.1
    have h2 := h.fit.2
    simp
    omega
  have h1 : ¬ x.num.sign < 0 := by
    have := h.lo
    rw [← Rat.num_nonneg] at this
    rcases Int.lt_or_eq_of_le this with h2 | h2
    · rw [Int.sign_eq_one_of_pos h2]; decide
    · rw [← h2]; decide
  have h2 : ¬ 0 < rcmp x 1 := by have := rcmp_le.2 h.hi; omega
  rw [rerr_fit h.big, if_pos rfl, hs, rval_ratText]
  unfold noChance
  simp [h1, h2]

theorem mass_rt {w : World} {n k : Nat} {x : Rat} (hx : Ch x) (hn : n ≤ 200) (hk : k ≤ n) (hg : Good w) : Calls Tryz.prog 12 #[.int .i64 n, .int .i64 k, .string (rt x)] w (RetV w (.tuple #[.string (rt (ms n k x)), .int .i64 0])) := by
  have h := mass_any (w := w) n k (ratText x) (text_len hx.big) hg
  have e : errM n k (ratText x) = 0 := by unfold errM cnt; rw [if_pos (by omega), hx.err]
  have e2 : UV n k x - UV n (k + 1) x = ms n k x := by
    rw [UV_U n k x (by omega), UV_U n (k + 1) x (by omega), U_mass x n k hk]
    grind
  rw [e, if_pos rfl, rval_ratText, Int.toNat_natCast, Int.toNat_natCast, e2] at h
  exact h
theorem least_rt {w : World} {n k : Nat} {x : Rat} (hx : Ch x) (hn : n ≤ 200) (hk : k ≤ n) (hg : Good w) : Calls Tryz.prog 14 #[.int .i64 n, .int .i64 k, .string (rt x)] w (RetV w (.tuple #[.string (rt (U n k x)), .int .i64 0])) := by
  have h := least_any (w := w) n k (ratText x) (text_len hx.big) hg
  have e : errM n k (ratText x) = 0 := by unfold errM cnt; rw [if_pos (by omega), hx.err]
  rw [e, if_pos rfl, rval_ratText, Int.toNat_natCast, Int.toNat_natCast, UV_U n k x (by omega)] at h
  exact h
end Go.Proofs.YtmhneibcbjgedaaGreatDoor

/- Numbers with a common denominator fit; what a draft's arguments are. -/
set_option linter.unusedSimpArgs false
set_option linter.unusedVariables false
namespace Go.Proofs.YtmhneibcbjgedaaGreatDoor
open Go.RowKit
open Go.Lib (decDigits itoa nDigits)
open D4 (rt it)

/-- So many times the number is an integer. -/
def On (M : Nat) (x : Rat) : Prop := ∃ z : Int, x * (M : Rat) = (z : Rat)
theorem On.den (x : Rat) : On x.den x := by
  refine ⟨x.num, ?_⟩
  have hd : ((x.den : Nat) : Rat) ≠ 0 := by
    intro e
    have : x.den = 0 := by exact_mod_cast e
    exact x.den_nz this
  have h := divInt_div x.num x.den
  rw [Rat.num_divInt_den] at h
  have h2 : ((x.den : Int) : Rat) = (x.den : Rat) := by push_cast; rfl
  rw [h2] at h
  have h3 := Rat.div_mul_cancel (a := (x.num : Rat)) hd
  rw [← h] at h3
  exact h3
theorem On.int (M : Nat) (z : Int) : On M z := ⟨z * M, by push_cast; rfl⟩
theorem On.nat (M z : Nat) : On M z := ⟨z * M, by push_cast; rfl⟩
theorem On.zero (M : Nat) : On M 0 := ⟨0, by simp⟩
theorem On.one (M : Nat) : On M 1 := by
  have h := On.nat M 1
  simpa using h
theorem On.add {M : Nat} {x y : Rat} (hx : On M x) (hy : On M y) : On M (x + y) := by
  obtain ⟨a, ha⟩ := hx
  obtain ⟨b, hb⟩ := hy
  exact ⟨a + b, by push_cast; rw [← ha, ← hb]; grind⟩
theorem On.sub {M : Nat} {x y : Rat} (hx : On M x) (hy : On M y) : On M (x - y) := by
  obtain ⟨a, ha⟩ := hx
  obtain ⟨b, hb⟩ := hy
  exact ⟨a - b, by push_cast; rw [← ha, ← hb]; grind⟩
theorem On.mul {M N : Nat} {x y : Rat} (hx : On M x) (hy : On N y) : On (M * N) (x * y) := by
  obtain ⟨a, ha⟩ := hx
  obtain ⟨b, hb⟩ := hy
  exact ⟨a * b, by push_cast; rw [← ha, ← hb]; grind⟩
theorem On.pow {M : Nat} {x : Rat} (hx : On M x) : ∀ n : Nat, On (M ^ n) (x ^ n)
  | 0 => by rw [Rat.pow_zero, Nat.pow_zero]; exact .one _
  | n + 1 => by rw [Rat.pow_succ, Nat.pow_succ]; exact (On.pow hx n).mul hx
theorem On.more {M : Nat} {x : Rat} (hx : On M x) (N : Nat) : On (M * N) x := by
  have h := hx.mul (On.one N)
  rwa [Rat.mul_one] at h
theorem On.ms {M : Nat} {x : Rat} (hx : On M x) (n k : Nat) (hk : k ≤ n) : On (M ^ n) (ms n k x) := by
  unfold Proofs.YtmhneibcbjgedaaGreatDoor.ms
  have h1 := (On.nat 1 (bin n k)).mul (hx.pow k)
  have h2 := h1.mul (((On.one M).sub hx).pow (n - k))
  rw [Nat.one_mul, ← Nat.pow_add] at h2
  have e : k + (n - k) = n := by omega
  rw [e] at h2
  exact h2
theorem On.U {M : Nat} {x : Rat} (hx : On M x) : ∀ n k : Nat, On (M ^ n) (U n k x)
  | n, 0 => by
    have e : Proofs.YtmhneibcbjgedaaGreatDoor.U n 0 x = 1 := by cases n <;> rfl
    rw [e]; exact .one _
  | 0, k + 1 => .zero _
  | n + 1, k + 1 => by
    show On _ (x * Proofs.YtmhneibcbjgedaaGreatDoor.U n k x + (1 - x) * Proofs.YtmhneibcbjgedaaGreatDoor.U n (k + 1) x)
    rw [Nat.pow_succ, Nat.mul_comm]
    exact (hx.mul (On.U hx n k)).add (((On.one M).sub hx).mul (On.U hx n (k + 1)))

theorem divInt_num_le0 (n d : Int) : (Rat.divInt n d).num.natAbs ≤ n.natAbs := D4.divInt_num_le n d
theorem On.fit {M d : Nat} {x : Rat} (h : On M x) (h0 : 0 ≤ x) (h1 : x ≤ 1) (hM : 0 < M) (hd : M < 10 ^ (d + 1)) : fitsD (d + 1) x := by
  obtain ⟨z, hz⟩ := h
  have hM' : (M : Rat) ≠ 0 := by
    intro e
    have : M = 0 := by exact_mod_cast e
    omega
  have hMp : (0 : Rat) ≤ (M : Rat) := by exact_mod_cast Nat.zero_le _
  have hx : x = Rat.divInt z M := by
    rw [divInt_div]
    rw [← hz]
    push_cast
    rw [Rat.mul_div_cancel hM']
  have hz0 : 0 ≤ z := by
    have : (0 : Rat) ≤ (z : Rat) := by rw [← hz]; exact Rat.mul_nonneg h0 hMp
    exact_mod_cast this
  have hz1 : z ≤ M := by
    have : (z : Rat) ≤ (M : Rat) := by
      rw [← hz]
      have := Rat.mul_le_mul_of_nonneg_right h1 hMp
      rwa [Rat.one_mul] at this
    exact_mod_cast this
  have e1 := D4.divInt_num_le z M
  have e2 := D4.divInt_den_le z (d := (M : Int)) (by omega)
  rw [← hx] at e1 e2
  exact ⟨D4.nDigits_le (by omega), D4.nDigits_le (by omega)⟩
theorem fit_le {j k : Nat} {x : Rat} (h : fitsD j x) (hk : j ≤ k) : fitsD k x := ⟨Nat.le_trans h.1 hk, Nat.le_trans h.2 hk⟩

/-- What a draft's arguments are. -/
structure Arg (N K : Nat) (P D : Rat) (G : Nat) : Prop where
  n : N ≤ 7
  k : K ≤ N
  p0 : 0 ≤ P
  p1 : P ≤ 1
  pd : P.den ≤ 12
  d0 : 0 < D
  d1 : D < 1
  dd : D.den ≤ 13
  g0 : 1 ≤ G
  g1 : G ≤ 10

theorem divInt_le {a b : Int} (h0 : 0 ≤ a) (hb : 0 < b) : 0 ≤ Rat.divInt a b ∧ (a ≤ b → Rat.divInt a b ≤ 1) ∧ (0 < a → 0 < Rat.divInt a b) ∧ (a < b → Rat.divInt a b < 1) := by
  have hb' : (0 : Rat) < (b : Rat) := by exact_mod_cast hb
  have ha' : (0 : Rat) ≤ (a : Rat) := by exact_mod_cast h0
  rw [divInt_div]
  refine ⟨?_, fun h => ?_, fun h => ?_, fun h => ?_⟩
  · rw [← Rat.not_lt, Rat.div_lt_iff hb', Rat.zero_mul, Rat.not_lt]; exact ha'
  · have h' : (a : Rat) ≤ (b : Rat) := by exact_mod_cast h
    rw [← Rat.not_lt, Rat.lt_div_iff hb', Rat.one_mul, Rat.not_lt]; exact h'
  · have h' : (0 : Rat) < (a : Rat) := by exact_mod_cast h
    rw [Rat.lt_div_iff hb', Rat.zero_mul]; exact h'
  · have h' : (a : Rat) < (b : Rat) := by exact_mod_cast h
    rw [Rat.div_lt_iff hb', Rat.one_mul]; exact h'

theorem args_any (n k p dd gr : Int) (n0 : 0 ≤ n) (n1 : n ≤ 255) (k0 : 0 ≤ k) (k1 : k ≤ 255) (q0 : 0 ≤ p) (q1 : p ≤ 255) (e0 : 0 ≤ dd) (e1 : dd ≤ 255) (h0 : 0 ≤ gr) (h1 : gr ≤ 255) :
    ∃ (N K : Nat) (P D : Rat) (G : Nat), Arg N K P D G ∧ ∀ w : World, Good w → Calls Tryz.prog 19 #[.agg #[.int .u8 n, .int .u8 k, .int .u8 p, .int .u8 dd, .int .u8 gr]] w (RetV w (.tuple #[.int .i64 N, .int .i64 K, .string (rt P), .string (rt D), .int .i64 G])) := by
  have a1 := Int.tmod_nonneg 8 n0
  have a2 := Int.tmod_lt_of_pos n (b := 8) (by omega)
  have b1 := Int.tmod_nonneg 12 e0
  have b2 := Int.tmod_lt_of_pos dd (b := 12) (by omega)
  obtain ⟨r0, er⟩ : ∃ r0, n.tmod 8 = r0 := ⟨_, rfl⟩
  obtain ⟨d1, ed⟩ : ∃ d1, dd.tmod 12 = d1 := ⟨_, rfl⟩
  rw [er] at a1 a2
  rw [ed] at b1 b2
  have c1 := Int.tmod_nonneg (r0 + 1) k0
  have c2 := Int.tmod_lt_of_pos k (b := r0 + 1) (by omega)
  have f1 := Int.tmod_nonneg (1 + d1 + 1) q0
  have f2 := Int.tmod_lt_of_pos p (b := 1 + d1 + 1) (by omega)
  have g1 := Int.tmod_nonneg (1 + d1) q0
  have g2 := Int.tmod_lt_of_pos p (b := 1 + d1) (by omega)
  have i1 := Int.tmod_nonneg 10 h0
  have i2 := Int.tmod_lt_of_pos gr (b := 10) (by omega)
  obtain ⟨kk, ek⟩ : ∃ x, k.tmod (r0 + 1) = x := ⟨_, rfl⟩
  obtain ⟨p1, ep1⟩ : ∃ x, p.tmod (1 + d1 + 1) = x := ⟨_, rfl⟩
  obtain ⟨p2, ep2⟩ : ∃ x, p.tmod (1 + d1) = x := ⟨_, rfl⟩
  obtain ⟨gg, eg⟩ : ∃ x, gr.tmod 10 = x := ⟨_, rfl⟩
  rw [ek] at c1 c2
  rw [ep1] at f1 f2
  rw [ep2] at g1 g2
  rw [eg] at i1 i2
  have P1 := divInt_le (a := p1) (b := 1 + d1) f1 (by omega)
  have D1 := divInt_le (a := 1 + p2) (b := 1 + d1 + 1) (by omega) (by omega)
  have P2 := D4.divInt_den_le p1 (d := 1 + d1) (by omega)
  have D2 := D4.divInt_den_le (1 + p2) (d := 1 + d1 + 1) (by omega)
  refine ⟨r0.toNat, kk.toNat, Rat.divInt p1 (1 + d1), Rat.divInt (1 + p2) (1 + d1 + 1), (1 + gg).toNat, ⟨by omega, by omega, P1.1, P1.2.1 (by omega), by omega, D1.2.2.1 (by omega), D1.2.2.2 (by omega), by omega, by omega, by omega⟩, fun w hg => ?_⟩
  have t1 : ((r0.toNat : Nat) : Int) = r0 := by omega
  have t2 : ((kk.toNat : Nat) : Int) = kk := by omega
  have t3 : (((1 + gg).toNat : Nat) : Int) = 1 + gg := by omega
  rw [t1, t2, t3]
  have hb : ∀ V : World, Below (w.heap.size + 1) (w.alloc (.cells #[.int .u8 n, .int .u8 k, .int .u8 p, .int .u8 dd, .int .u8 gr] 36)) V → Good V := by
    intro V hV
    have e : (w.alloc (.cells #[.int .u8 n, .int .u8 k, .int .u8 p, .int .u8 dd, .int .u8 gr] 36)).heap.size = w.heap.size + 1 := by simp
    rw [← e] at hV
    exact (hg.below ((Below.refl _ _).alloc (Nat.le_refl _) _)).below hV
  exact args_walk n k p dd gr r0 d1 kk p1 p2 gg _ _ n0 n1 k0 k1 q0 q1 e0 e1 h0 h1 er a1 (by omega) ed b1 (by omega) ek c1 (by omega) ep1 f1 (by omega) ep2 g1 (by omega) eg i1 (by omega)
    (Lib.hid fun V hV => D4.rof_any p1 (1 + d1) (by omega) (by omega) (by omega) (by omega) (by omega) (hb V hV))
    (Lib.hid fun V hV => D4.rof_any (1 + p2) (1 + d1 + 1) (by omega) (by omega) (by omega) (by omega) (by omega) (hb V hV))

theorem Arg.ch {N K G : Nat} {P D : Rat} (h : Arg N K P D G) : Ch P :=
  ⟨h.p0, h.p1, fit_le ((On.den P).fit (d := 1) h.p0 h.p1 P.den_pos (by have := h.pd; omega)) (by omega)⟩
end Go.Proofs.YtmhneibcbjgedaaGreatDoor
