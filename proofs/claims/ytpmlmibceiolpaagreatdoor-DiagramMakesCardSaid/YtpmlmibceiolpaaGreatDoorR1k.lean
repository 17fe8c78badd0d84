/- The contracts of croupierref01: Cmp, Div, Gcd, Digits, over texts of integers. -/
import Derived.Test.YtpmlmibceiolpaaGreatDoorR1i
import Derived.Test.YtpmlmibceiolpaaGreatDoorMake
set_option linter.unusedSimpArgs false
set_option linter.unusedVariables false
namespace Go.Proofs.YtpmlmibceiolpaaGreatDoor.D4
open Go.RowKit
open Go.Lib (decDigits itoa nDigits)

/-- The sign of a comparison of integers. -/
def sgz (m n : Int) : Int := if m < n then -1 else if n < m then 1 else 0
theorem sgz_lt {m n : Int} (h : m < n) : sgz m n = -1 := by unfold sgz; rw [if_pos h]
theorem sgz_gt {m n : Int} (h : n < m) : sgz m n = 1 := by unfold sgz; rw [if_neg (by omega), if_pos h]
theorem sgz_pos {m n : Int} (hm : 0 ≤ m) (hn : 0 ≤ n) : sgz m n = sgn m.natAbs n.natAbs := by
  unfold sgz sgn
  repeat' split
  all_goals omega
theorem sgz_neg {m n : Int} (hm : m ≤ 0) (hn : n ≤ 0) : sgz m n = sgn n.natAbs m.natAbs := by
  unfold sgz sgn
  repeat' split
  all_goals omega

set_option maxHeartbeats 2000000 in
theorem cmp_any {w : World} (m n : Int) (sm : Sm m) (sn : Sm n) : Calls Tryz.prog 96 #[.string ⟨(itoa m).toArray⟩, .string ⟨(itoa n).toArray⟩] w (RetV w (.int .i64 (sgz m n))) := by
  have h1 := Lib.hid (fun V => sign_any (w := V) m)
  have h2 := Lib.hid (fun V => sign_any (w := V) n)
  have h3 := Lib.hid (fun V => negative_any (w := V) m)
  have h4 := Lib.hid (fun V => read_any (w := V) m (Nat.le_trans sm (by omega)))
  have h5 := Lib.hid (fun V => read_any (w := V) n (Nat.le_trans sn (by omega)))
  by_cases hs : m.sign = n.sign
  · rw [← hs] at h2
    have hne : (m.sign != m.sign) = false := by simp
    by_cases hm : m < 0
    · have hn : n < 0 := by
        rw [Int.sign_eq_neg_one_of_neg hm] at hs
        exact Int.neg_of_sign_eq_neg_one hs.symm
      rw [sgz_neg (by omega) (by omega)]
      have hb : decide (m < 0) = true := by simpa using hm
      rw [hb] at h3
      have h6 := Lib.hid (fun (V : World) v1 v2 (q1 : Lim V v1 (limbs n.natAbs)) (q2 : Lim V v2 (limbs m.natAbs)) => compare_any q1 q2 (limbs_ok _) (limbs_ok _) (limbs_last _) (limbs_last _))
      simp only [val_limbs] at h6
      generalize (⟨(itoa m).toArray⟩ : ByteArray) = A at *
      generalize (⟨(itoa n).toArray⟩ : ByteArray) = B at *
      generalize m.sign = s at *
      generalize sgn n.natAbs m.natAbs = z at *
      clear sm sn hs hb hm hn
      go_enter Tryz.func96, Tryz.ntmps96
      go_wp2_with fail
      refine (h1.out _).mono ?_
      rintro e wn ⟨rfl, hb1⟩
      go_wp2_with fail
      refine (h2.out _).mono ?_
      rintro e wn ⟨rfl, hb2⟩
      go_wp2_with fail
      refine (h3.out _).mono ?_
      rintro e wn ⟨rfl, rfl⟩
      go_wp2_with fail
      refine (h5.out _).mono ?_
      rintro e wn ⟨r1, rfl, hl1, -, hb3⟩
      go_wp2_with fail
      refine (h4.out _).mono ?_
      rintro e wn ⟨r2, rfl, hl2, -, hb4⟩
      go_wp2_with fail
      refine (h6.out _ _ _ (hl1.below hb4) hl2).mono ?_
      rintro e wn ⟨rfl, hb5⟩
      go_wp2
      go_ret
      exact ⟨rfl, next_below (next_below (next_below (next_below hb1 hb2) hb3) hb4) hb5⟩
    · have hn : 0 ≤ n := by
        rcases Int.lt_or_le n 0 with h | h
        · rw [Int.sign_eq_neg_one_of_neg h] at hs
          exact absurd (Int.neg_of_sign_eq_neg_one hs) hm
        · exact h
      rw [sgz_pos (by omega) (by omega)]
      have hb : decide (m < 0) = false := by simpa using hm
      rw [hb] at h3
      have h6 := Lib.hid (fun (V : World) v1 v2 (q1 : Lim V v1 (limbs m.natAbs)) (q2 : Lim V v2 (limbs n.natAbs)) => compare_any q1 q2 (limbs_ok _) (limbs_ok _) (limbs_last _) (limbs_last _))
      simp only [val_limbs] at h6
      generalize (⟨(itoa m).toArray⟩ : ByteArray) = A at *
      generalize (⟨(itoa n).toArray⟩ : ByteArray) = B at *
      generalize m.sign = s at *
      generalize sgn m.natAbs n.natAbs = z at *
      clear sm sn hs hb hm hn
      go_enter Tryz.func96, Tryz.ntmps96
      go_wp2_with fail
      refine (h1.out _).mono ?_
      rintro e wn ⟨rfl, hb1⟩
      go_wp2_with fail
      refine (h2.out _).mono ?_
      rintro e wn ⟨rfl, hb2⟩
      go_wp2_with fail
      refine (h3.out _).mono ?_
      rintro e wn ⟨rfl, rfl⟩
      go_wp2_with fail
      refine (h4.out _).mono ?_
      rintro e wn ⟨r1, rfl, hl1, -, hb3⟩
      go_wp2_with fail
      refine (h5.out _).mono ?_
      rintro e wn ⟨r2, rfl, hl2, -, hb4⟩
      go_wp2_with fail
      refine (h6.out _ _ _ (hl1.below hb4) hl2).mono ?_
      rintro e wn ⟨rfl, hb5⟩
      go_wp2
      go_ret
      exact ⟨rfl, next_below (next_below (next_below (next_below hb1 hb2) hb3) hb4) hb5⟩
  · have hne : (m.sign != n.sign) = true := by simpa using hs
    have hcase : (m < n ∧ m.sign < n.sign) ∨ (n < m ∧ ¬ m.sign < n.sign) := by
      rcases Int.lt_trichotomy m 0 with h | h | h <;> rcases Int.lt_trichotomy n 0 with k | k | k
      all_goals first
        | (exfalso; apply hs; simp [Int.sign_eq_neg_one_of_neg, Int.sign_eq_one_of_pos, h, k]; done)
        | (exfalso; apply hs; rw [h, k]; done)
        | (left; refine ⟨by omega, ?_⟩; simp [Int.sign_eq_neg_one_of_neg, Int.sign_eq_one_of_pos, h, k]; done)
        | (right; refine ⟨by omega, ?_⟩; simp [Int.sign_eq_neg_one_of_neg, Int.sign_eq_one_of_pos, h, k]; done)
    rcases hcase with ⟨hc, hc2⟩ | ⟨hc, hc2⟩
    · rw [sgz_lt hc]
      have hb : decide (m.sign < n.sign) = true := by simpa using hc2
      generalize (⟨(itoa m).toArray⟩ : ByteArray) = A at *
      generalize (⟨(itoa n).toArray⟩ : ByteArray) = B at *
      generalize m.sign = s at *
      generalize n.sign = t at *
      clear sm sn hs hc
      go_enter Tryz.func96, Tryz.ntmps96
      go_wp2_with fail
      refine (h1.out _).mono ?_
      rintro e wn ⟨rfl, hb1⟩
      go_wp2_with fail
      refine (h2.out _).mono ?_
      rintro e wn ⟨rfl, hb2⟩
      go_wp2_with fail
      refine (h1.out _).mono ?_
      rintro e wn ⟨rfl, hb3⟩
      go_wp2_with fail
      refine (h2.out _).mono ?_
      rintro e wn ⟨rfl, hb4⟩
      go_wp2
      go_ret
      exact ⟨rfl, next_below (next_below (next_below hb1 hb2) hb3) hb4⟩
    · rw [sgz_gt hc]
      have hb : decide (m.sign < n.sign) = false := by simpa using hc2
      generalize (⟨(itoa m).toArray⟩ : ByteArray) = A at *
      generalize (⟨(itoa n).toArray⟩ : ByteArray) = B at *
      generalize m.sign = s at *
      generalize n.sign = t at *
      clear sm sn hs hc
      go_enter Tryz.func96, Tryz.ntmps96
      go_wp2_with fail
      refine (h1.out _).mono ?_
      rintro e wn ⟨rfl, hb1⟩
      go_wp2_with fail
      refine (h2.out _).mono ?_
      rintro e wn ⟨rfl, hb2⟩
      go_wp2_with fail
      refine (h1.out _).mono ?_
      rintro e wn ⟨rfl, hb3⟩
      go_wp2_with fail
      refine (h2.out _).mono ?_
      rintro e wn ⟨rfl, hb4⟩
      go_wp2
      go_ret
      exact ⟨rfl, next_below (next_below (next_below hb1 hb2) hb3) hb4⟩

set_option maxHeartbeats 1000000 in
theorem digits_any {w : World} (n : Int) (sn : Sm n) : Calls Tryz.prog 122 #[.string ⟨(itoa n).toArray⟩] w fun e w' => e = .returned (.int .i64 (nDigits n.natAbs)) ∧ w = w' := by
  obtain ⟨c, r, e1, e2, -, -⟩ := itoa_head n
  have hl := itoa_len2 n
  have hss := sn.text
  rw [e1] at hl hss ⊢
  have hsz : 0 < (⟨(c :: r).toArray⟩ : ByteArray).size := by rw [ba_size]; simp
  rw [← ba_size] at hl
  have hz : ∀ h : 0 < (⟨(c :: r).toArray⟩ : ByteArray).size, ((((⟨(c :: r).toArray⟩ : ByteArray)[0]'h).toNat : Int) == 45) = decide (c = 45) := by
    intro h
    have h1 : ((⟨(c :: r).toArray⟩ : ByteArray)[0]'h) = c := rfl
    rw [h1, Bool.eq_iff_iff, beq_iff_eq, decide_eq_true_eq]
    constructor
    · intro e; exact UInt8.toNat_inj.1 (show c.toNat = (45 : UInt8).toNat by have : (45 : UInt8).toNat = 45 := rfl; omega)
    · intro e; subst e; rfl
  rw [e2] at hz
  generalize (⟨(c :: r).toArray⟩ : ByteArray) = S at *
  clear e1 e2
  by_cases hn : n < 0
  · have hb : decide (n < 0) = true := by simpa using hn
    rw [hb] at hz
    rw [if_pos hn] at hl
    obtain ⟨k, hk⟩ : ∃ k : Nat, k = nDigits n.natAbs := ⟨_, rfl⟩
    rw [← hk] at hl ⊢
    have hsi : (S.size : Int) - 1 = (k : Int) := by omega
    clear hb hn hk
    go_enter Tryz.func122, Tryz.ntmps122
    go_wp2
    go_ret
    exact ⟨ret_int (by first | rfl | omega | simp), rfl⟩
  · have hb : decide (n < 0) = false := by simpa using hn
    rw [hb] at hz
    rw [if_neg hn] at hl
    obtain ⟨k, hk⟩ : ∃ k : Nat, k = nDigits n.natAbs := ⟨_, rfl⟩
    rw [← hk] at hl ⊢
    clear hb hn hk
    go_enter Tryz.func122, Tryz.ntmps122
    go_wp2
    go_ret
    exact ⟨ret_int (by first | rfl | omega | simp), rfl⟩

theorem nDigits_leD : ∀ {d n : Nat}, n < 10 ^ (d + 1) → nDigits n ≤ d + 1
  | 0, n, h => by rw [Lib.nDigits_small (by simpa using h)]; omega
  | d + 1, n, h => by
    by_cases h0 : n < 10
    · rw [Lib.nDigits_small h0]; omega
    · rw [Lib.nDigits_big h0]
      have := nDigits_leD (d := d) (n := n / 10) (by rw [Nat.pow_succ] at h; omega)
      omega

/-- Division that rounds to nought, against division that rounds down. -/
theorem fdiv_of_tdiv {m n : Int} (hn : n ≠ 0) : m.fdiv n = if m.tmod n ≠ 0 ∧ decide (m < 0) ≠ decide (n < 0) then m.tdiv n - 1 else m.tdiv n := by
  rw [Int.fdiv_eq_tdiv]
  by_cases hd : m.tmod n = 0
  · rw [if_pos (Int.dvd_iff_tmod_eq_zero.2 hd), if_neg (by simp [hd])]; omega
  · rw [if_neg (fun h => hd (Int.dvd_iff_tmod_eq_zero.1 h))]
    have hm0 : m ≠ 0 := by intro e; subst e; simp at hd
    rcases Int.lt_or_le m 0 with h1 | h1 <;> rcases Int.lt_or_le n 0 with h2 | h2
    · rw [if_neg (by omega), if_neg (by omega), if_neg (by simp [h1, h2]), Int.sign_eq_neg_one_of_neg h2]; omega
    · rw [if_neg (by omega), if_pos h2, if_pos ⟨hd, by simp [h1]; omega⟩, Int.sign_eq_one_of_pos (by omega)]
    · rw [if_pos h1, if_neg (by omega), if_pos ⟨hd, by simp [h2]; omega⟩]
    · rw [if_pos h1, if_pos h2, if_neg (by simp; omega)]; omega

set_option maxHeartbeats 4000000 in
set_option maxRecDepth 100000 in
theorem div_little {w : World} (m n : Int) (hl : (itoa m).length ≤ 9 ∧ (itoa n).length ≤ 9) (h0 : n ≠ 0) (hg : Good w) : Calls Tryz.prog 94 #[.string ⟨(itoa m).toArray⟩, .string ⟨(itoa n).toArray⟩] w (RetV w (.tuple #[.string ⟨(itoa (m.fdiv n)).toArray⟩, .string ⟨(itoa (m.fmod n)).toArray⟩])) := by
  have b1 := little_bound hl.1
  have b2 := little_bound hl.2
  have h1 := Lib.hid (little_yes (w := w) m n hl.1 hl.2)
  have hfd := fdiv_of_tdiv (m := m) h0
  have hmod := Int.fmod_def m n
  have hqr := Int.tdiv_mul_add_tmod m n
  have htb : (m.tdiv n).natAbs ≤ m.natAbs := by rw [Int.natAbs_tdiv]; exact Nat.div_le_self _ _
  have hma : (m.tmod n).natAbs ≤ m.natAbs := by rw [Int.natAbs_tmod]; exact Nat.mod_le _ _
  obtain ⟨t, ht⟩ : ∃ t, m.tdiv n = t := ⟨_, rfl⟩
  obtain ⟨s, hs⟩ : ∃ s, m.tmod n = s := ⟨_, rfl⟩
  rw [ht] at hfd hqr htb
  rw [hs] at hfd hqr hma
  generalize m.fdiv n = x at *
  generalize m.fmod n = f at *
  obtain ⟨p, hp⟩ : ∃ p, n * x = p := ⟨_, rfl⟩
  rw [hp] at hmod
  have hs0 : s ≠ 0 ∨ s = 0 := by omega
  have hmp : m - p = f := hmod.symm
  have hcase : (s ≠ 0 ∧ decide (m < 0) ≠ decide (n < 0) ∧ x = t - 1 ∧ f = s + n) ∨ (¬ (s ≠ 0 ∧ decide (m < 0) ≠ decide (n < 0)) ∧ x = t ∧ f = s) := by
    by_cases hc : s ≠ 0 ∧ decide (m < 0) ≠ decide (n < 0)
    · rw [if_pos hc] at hfd
      have e : n * x = t * n - n := by rw [hfd, Int.mul_sub, Int.mul_comm n t, Int.mul_one]
      exact .inl ⟨hc.1, hc.2, hfd, by omega⟩
    · rw [if_neg hc] at hfd
      have e : n * x = t * n := by rw [hfd, Int.mul_comm]
      exact .inr ⟨hc, hfd, by omega⟩
  have hx1 : -1000000001 ≤ x ∧ x ≤ 1000000001 := by rcases hcase with ⟨_, _, h, _⟩ | ⟨_, h, _⟩ <;> omega
  have hf1 : -2000000001 ≤ f ∧ f ≤ 2000000001 := by rcases hcase with ⟨_, _, _, h⟩ | ⟨_, _, h⟩ <;> omega
  have hp1 : -4000000001 ≤ p ∧ p ≤ 4000000001 := by omega
  have ht1 : -1000000001 ≤ t ∧ t ≤ 1000000001 := by omega
  have hs1 : -1000000001 ≤ s ∧ s ≤ 1000000001 := by omega
  obtain ⟨x1, x2⟩ := hx1
  obtain ⟨f1, f2⟩ := hf1
  obtain ⟨p1, p2⟩ := hp1
  obtain ⟨t1, t2⟩ := ht1
  obtain ⟨s1, s2⟩ := hs1
  obtain ⟨b11, b12⟩ := b1
  obtain ⟨b21, b22⟩ := b2
  have h2 := Lib.hid (fun (V : World) (hV : Below w.heap.size w V) => of_any (w := V) x (by omega) (by omega) (hg.below hV))
  have h3 := Lib.hid (fun (V : World) (hV : Below w.heap.size w V) => of_any (w := V) f (by omega) (by omega) (hg.below hV))
  have hn0 : (n == 0) = false := by simpa using h0
  generalize (⟨(itoa m).toArray⟩ : ByteArray) = A at *
  generalize (⟨(itoa n).toArray⟩ : ByteArray) = B at *
  generalize (⟨(itoa x).toArray⟩ : ByteArray) = C at *
  generalize (⟨(itoa f).toArray⟩ : ByteArray) = E at *
  rcases hcase with ⟨c1, c2, c3, -⟩ | ⟨c1, c3, -⟩
  · have q1 : (s != 0) = true := by simpa using c1
    have q2 : (decide (m < 0) != decide (n < 0)) = true := by simpa using c2
    have q3 : t - 1 = x := c3.symm
    clear hl hg hfd hqr htb hma hs0 c1 c2 c3 hmod
    obtain ⟨bm, hbm⟩ : ∃ bm, decide (m < 0) = bm := ⟨_, rfl⟩
    obtain ⟨bn, hbn⟩ : ∃ bn, decide (n < 0) = bn := ⟨_, rfl⟩
    rw [hbm, hbn] at q2
    cases bm <;> cases bn
    all_goals try (exfalso; simp at q2; done)
    all_goals
      clear q2
      go_enter Tryz.func94, Tryz.ntmps94
      go_wp2_with fail
      refine (h1.out).mono ?_
      rintro e wn ⟨rfl, hb1⟩
      go_wp2_with fail
      refine (h2.out _ hb1).mono ?_
      rintro e wn ⟨rfl, hb2⟩
      go_wp2_with fail
      refine (h3.out _ (next_below hb1 hb2)).mono ?_
      rintro e wn ⟨rfl, hb3⟩
      go_wp2
      go_ret2
      exact ⟨rfl, next_below (next_below hb1 hb2) hb3⟩
  · subst c3
    by_cases c4 : s = 0
    · have q1 : (s != 0) = false := by simpa using c4
      clear hl hg hfd hqr htb hma hs0 c1 c4 hmod
      go_enter Tryz.func94, Tryz.ntmps94
      go_wp2_with fail
      refine (h1.out).mono ?_
      rintro e wn ⟨rfl, hb1⟩
      go_wp2_with fail
      refine (h2.out _ hb1).mono ?_
      rintro e wn ⟨rfl, hb2⟩
      go_wp2_with fail
      refine (h3.out _ (next_below hb1 hb2)).mono ?_
      rintro e wn ⟨rfl, hb3⟩
      go_wp2
      go_ret2
      exact ⟨rfl, next_below (next_below hb1 hb2) hb3⟩
    · have q1 : (s != 0) = true := by simpa using c4
      have q2 : (decide (m < 0) != decide (n < 0)) = false := by
        rw [bne_eq_false_iff_eq]
        exact Classical.byContradiction fun h => c1 ⟨c4, h⟩
      clear hl hg hfd hqr htb hma hs0 c1 c4 hmod
      obtain ⟨bm, hbm⟩ : ∃ bm, decide (m < 0) = bm := ⟨_, rfl⟩
      obtain ⟨bn, hbn⟩ : ∃ bn, decide (n < 0) = bn := ⟨_, rfl⟩
      rw [hbm, hbn] at q2
      cases bm <;> cases bn
      all_goals try (exfalso; simp at q2; done)
      all_goals
        clear q2
        go_enter Tryz.func94, Tryz.ntmps94
        go_wp2_with fail
        refine (h1.out).mono ?_
        rintro e wn ⟨rfl, hb1⟩
        go_wp2_with fail
        refine (h2.out _ hb1).mono ?_
        rintro e wn ⟨rfl, hb2⟩
        go_wp2_with fail
        refine (h3.out _ (next_below hb1 hb2)).mono ?_
        rintro e wn ⟨rfl, hb3⟩
        go_wp2
        go_ret2
        exact ⟨rfl, next_below (next_below hb1 hb2) hb3⟩

theorem Sm.of_le {m n : Int} (h : Sm n) (hl : m.natAbs ≤ n.natAbs) : Sm m := by
  unfold Sm at *
  have h1 := Lib.lt_pow_nDigits n.natAbs
  have h2 : m.natAbs < 10 ^ nDigits n.natAbs := by omega
  have h3 := Lib.nDigits_pos n.natAbs
  have h4 := nDigits_leD (d := nDigits n.natAbs - 1) (n := m.natAbs) (by rw [show nDigits n.natAbs - 1 + 1 = nDigits n.natAbs by omega]; exact h2)
  omega

set_option maxHeartbeats 4000000 in
set_option maxRecDepth 100000 in
theorem div_any {w : World} (m n : Int) (sm : nDigits m.natAbs ≤ 40000) (sn : nDigits n.natAbs ≤ 40000) (h0 : n ≠ 0) (hg : Good w) : Calls Tryz.prog 94 #[.string ⟨(itoa m).toArray⟩, .string ⟨(itoa n).toArray⟩] w (RetV w (.tuple #[.string ⟨(itoa (m.fdiv n)).toArray⟩, .string ⟨(itoa (m.fmod n)).toArray⟩])) := by
  by_cases hl : (itoa m).length ≤ 9 ∧ (itoa n).length ≤ 9
  · exact div_little m n hl h0 hg
  · have Sm1 : Sm m := Nat.le_trans sm (by omega)
    have Sn1 : Sm n := Nat.le_trans sn (by omega)
    have sm1 := Sm1.digs
    have sn1 := Sn1.digs
    have h1 := Lib.hid (little_no (w := w) m n hl)
    have h2 := Lib.hid (fun V => read_any (w := V) m (Nat.le_trans sm (by omega)))
    have h3 := Lib.hid (fun V => read_any (w := V) n (Nat.le_trans sn (by omega)))
    have h4 := Lib.hid (fun V => negative_any (w := V) m)
    have h5 := Lib.hid (fun V => negative_any (w := V) n)
    have hnp : 0 < n.natAbs := by omega
    have h6 := Lib.hid (fun (V : World) v1 v2 (q1 : Lim V v1 (limbs m.natAbs)) (q2 : Lim V v2 (limbs n.natAbs)) => divide_any q1 q2 hnp (by omega) (by omega))
    have hqle : m.natAbs / n.natAbs ≤ m.natAbs := Nat.div_le_self _ _
    have h7 := Lib.hid (fun (V : World) v (q : Lim V v (limbs (m.natAbs / n.natAbs))) => write_any (decide (m < 0) != decide (n < 0)) q (by have := limbs_len_mono hqle; omega))
    obtain ⟨Q, hQ⟩ : ∃ Q, sg (decide (m < 0) != decide (n < 0)) (m.natAbs / n.natAbs) = Q := ⟨_, rfl⟩
    rw [hQ] at h7
    have hQa : Q.natAbs = m.natAbs / n.natAbs := by rw [← hQ, sg_natAbs]
    have sQ : Sm Q := Sm1.of_le (by omega)
    have hlen : (limbs (m.natAbs % n.natAbs)).length = 0 ↔ m.natAbs % n.natAbs = 0 := by rw [List.length_eq_zero_iff]; exact limbs_eq_nil
    obtain ⟨X, hX⟩ : ∃ X, m.fdiv n = X := ⟨_, rfl⟩
    have hmod := Int.fmod_def m n
    rw [hX] at hmod
    have hcase : (0 < (limbs (m.natAbs % n.natAbs)).length ∧ decide (m < 0) ≠ decide (n < 0) ∧ X = Q - 1) ∨ (¬ (0 < (limbs (m.natAbs % n.natAbs)).length ∧ decide (m < 0) ≠ decide (n < 0)) ∧ X = Q) := by
      have hsz : sg (decide (m < 0)) (m.natAbs % n.natAbs) = 0 ↔ m.natAbs % n.natAbs = 0 := by
        unfold sg; split <;> omega
      by_cases hc : 0 < (limbs (m.natAbs % n.natAbs)).length ∧ decide (m < 0) ≠ decide (n < 0)
      · have h := (div_law_other h0 (fun e => by have := hlen.2 (hsz.1 e); omega) hc.2).1
        rw [hQ, hX] at h
        exact .inl ⟨hc.1, hc.2, h.symm⟩
      · have hor : sg (decide (m < 0)) (m.natAbs % n.natAbs) = 0 ∨ decide (m < 0) = decide (n < 0) := by
          rcases Nat.eq_zero_or_pos (limbs (m.natAbs % n.natAbs)).length with e | e
          · exact .inl (hsz.2 (hlen.1 e))
          · exact .inr (Classical.byContradiction fun h => hc ⟨e, h⟩)
        have h := (div_law_same h0 hor).1
        rw [hQ, hX] at h
        exact .inr ⟨hc, h.symm⟩
    have hXa : X.natAbs ≤ m.natAbs + 1 := by rcases hcase with ⟨_, _, h⟩ | ⟨_, h⟩ <;> omega
    have sX : Sm X := by
      have q1 : Sm ((m.natAbs : Int) + 1) := by
        unfold Sm
        have h1 := Lib.lt_pow_nDigits m.natAbs
        have h2 := Lib.nDigits_pos m.natAbs
        have h3 : ((m.natAbs : Int) + 1).natAbs < 10 ^ (nDigits m.natAbs + 1) := by
          rw [Nat.pow_succ]; omega
        have h4 := nDigits_leD h3
        omega
      exact q1.of_le (by omega)
    have sXn : Sm (X * n) := by
      unfold Sm
      rw [Int.natAbs_mul]
      have h1 := Lib.lt_pow_nDigits n.natAbs
      have h2 := Lib.lt_pow_nDigits m.natAbs
      have h3 := Lib.nDigits_pos m.natAbs
      have h4 : X.natAbs * n.natAbs < 10 ^ (nDigits m.natAbs + nDigits n.natAbs + 1) := by
        have e : X.natAbs ≤ 10 ^ nDigits m.natAbs := by omega
        have e2 : X.natAbs * n.natAbs ≤ 10 ^ nDigits m.natAbs * 10 ^ nDigits n.natAbs := Nat.mul_le_mul e (Nat.le_of_lt h1)
        rw [← Nat.pow_add] at e2
        have e3 : 10 ^ (nDigits m.natAbs + nDigits n.natAbs) < 10 ^ (nDigits m.natAbs + nDigits n.natAbs + 1) := Nat.pow_lt_pow_right (by omega) (by omega)
        omega
      have h5 := nDigits_leD h4
      omega
    have h8 := Lib.hid (fun (V : World) (hV : Below w.heap.size w V) => sub_any (w := V) Q 1 sQ (by unfold Sm; decide +kernel) (hg.below hV))
    have e1 : itoa 1 = [49] := by decide +kernel
    rw [e1] at h8
    have h9 := Lib.hid (fun (V : World) (hV : Below w.heap.size w V) => mul_any (w := V) X n sX Sn1 (hg.below hV))
    have h10 := Lib.hid (fun (V : World) (hV : Below w.heap.size w V) => sub_any (w := V) m (X * n) Sm1 sXn (hg.below hV))
    have e2 : m - X * n = m.fmod n := by rw [hmod, Int.mul_comm]
    rw [e2] at h10
    generalize m.fmod n = F at *
    rw [hX]
    obtain ⟨bm, hbm⟩ : ∃ bm, decide (m < 0) = bm := ⟨_, rfl⟩
    obtain ⟨bn, hbn⟩ : ∃ bn, decide (n < 0) = bn := ⟨_, rfl⟩
    rw [hbm] at h4 h7 hcase
    rw [hbn] at h5 h7 hcase
    generalize hkr' : (limbs (m.natAbs % n.natAbs)).length = kr at *
    have HKR := Lib.hid hkr'
    clear hkr'
    generalize (⟨(itoa m).toArray⟩ : ByteArray) = A at *
    generalize (⟨(itoa n).toArray⟩ : ByteArray) = B at *
    generalize (⟨(itoa F).toArray⟩ : ByteArray) = E at *
    generalize (⟨(itoa (X * n)).toArray⟩ : ByteArray) = G at *
    rcases hcase with ⟨c1, c2, c3⟩ | ⟨c1, c3⟩
    · have q1 : decide ((0 : Int) < (kr : Int)) = true := by simpa using c1
      have q1' : 0 < kr := c1
      have q2 : (bm != bn) = true := by simpa using c2
      rw [← c3] at h8
      generalize (⟨(itoa X).toArray⟩ : ByteArray) = C at *
      generalize (⟨(itoa Q).toArray⟩ : ByteArray) = D at *
      clear hl hg sm sn Sm1 Sn1 hqle hQ hQa sQ hlen hX hmod hXa sX sXn e1 e2 c1 c2 c3 hbm hbn hnp
      cases bm <;> cases bn
      all_goals try (exfalso; simp at q2; done)
      all_goals
        clear q2
        go_enter Tryz.func94, Tryz.ntmps94
        go_wp2_with fail
        refine (h1.out).mono ?_
        rintro e wn ⟨rfl, hb1⟩
        go_wp2_with fail
        refine (h2.out _).mono ?_
        rintro e wn ⟨r1, rfl, hl1, -, hb2⟩
        go_wp2_with fail
        refine (h3.out _).mono ?_
        rintro e wn ⟨r2, rfl, hl2, -, hb3⟩
        go_wp2_with fail
        refine (h6.out _ _ _ (hl1.below hb3) hl2).mono ?_
        rintro e wn ⟨r3, r4, rfl, hl3, hl4, hb4⟩
        have hb14 := next_below (next_below (next_below hb1 hb2) hb3) hb4
        obtain ⟨a4, c4, hv4, -, -, -⟩ := id hl4
        rw [HKR.out] at hv4
        subst hv4
        clear hl4
        go_wp2_with fail
        refine (h4.out _).mono ?_
        rintro e wn ⟨rfl, rfl⟩
        go_wp2_with fail
        refine (h5.out _).mono ?_
        rintro e wn ⟨rfl, rfl⟩
        go_wp2_with fail
        refine (h7.out _ _ hl3).mono ?_
        rintro e wn ⟨rfl, hb5⟩
        have hb15 := next_below hb14 hb5
        go_wp2_with fail
        refine (h4.out _).mono ?_
        rintro e wn ⟨rfl, rfl⟩
        go_wp2_with fail
        refine (h5.out _).mono ?_
        rintro e wn ⟨rfl, rfl⟩
        go_wp2_with fail
        refine (h8.out _ hb15).mono ?_
        rintro e wn ⟨rfl, hb6⟩
        have hb16 := next_below hb15 hb6
        go_wp2_with fail
        refine (h9.out _ hb16).mono ?_
        rintro e wn ⟨rfl, hb7⟩
        go_wp2_with fail
        refine (h10.out _ (next_below hb16 hb7)).mono ?_
        rintro e wn ⟨rfl, hb8⟩
        go_wp2
        go_ret2
        exact ⟨rfl, next_below (next_below hb16 hb7) hb8⟩
    · subst c3
      by_cases c4 : 0 < kr
      · have q1 : decide ((0 : Int) < (kr : Int)) = true := by simpa using c4
        have q2 : (bm != bn) = false := by
          rw [bne_eq_false_iff_eq]
          exact Classical.byContradiction fun h => c1 ⟨c4, h⟩
        have q1' : 0 < kr := c4
        generalize (⟨(itoa X).toArray⟩ : ByteArray) = C at *
        clear hl hg sm sn Sm1 Sn1 hqle hQ hQa sQ hlen hX hmod hXa sX sXn e1 e2 c1 c4 hbm hbn hnp h8
        cases bm <;> cases bn
        all_goals try (exfalso; simp at q2; done)
        all_goals
          clear q2
          go_enter Tryz.func94, Tryz.ntmps94
          go_wp2_with fail
          refine (h1.out).mono ?_
          rintro e wn ⟨rfl, hb1⟩
          go_wp2_with fail
          refine (h2.out _).mono ?_
          rintro e wn ⟨r1, rfl, hl1, -, hb2⟩
          go_wp2_with fail
          refine (h3.out _).mono ?_
          rintro e wn ⟨r2, rfl, hl2, -, hb3⟩
          go_wp2_with fail
          refine (h6.out _ _ _ (hl1.below hb3) hl2).mono ?_
          rintro e wn ⟨r3, r4, rfl, hl3, hl4, hb4⟩
          have hb14 := next_below (next_below (next_below hb1 hb2) hb3) hb4
          obtain ⟨a4, c4, hv4, -, -, -⟩ := id hl4
          rw [HKR.out] at hv4
          subst hv4
          clear hl4
          go_wp2_with fail
          refine (h4.out _).mono ?_
          rintro e wn ⟨rfl, rfl⟩
          go_wp2_with fail
          refine (h5.out _).mono ?_
          rintro e wn ⟨rfl, rfl⟩
          go_wp2_with fail
          refine (h7.out _ _ hl3).mono ?_
          rintro e wn ⟨rfl, hb5⟩
          have hb15 := next_below hb14 hb5
          go_wp2_with fail
          refine (h4.out _).mono ?_
          rintro e wn ⟨rfl, rfl⟩
          go_wp2_with fail
          refine (h5.out _).mono ?_
          rintro e wn ⟨rfl, rfl⟩
          have hb16 := hb15
          go_wp2_with fail
          refine (h9.out _ hb16).mono ?_
          rintro e wn ⟨rfl, hb7⟩
          go_wp2_with fail
          refine (h10.out _ (next_below hb16 hb7)).mono ?_
          rintro e wn ⟨rfl, hb8⟩
          go_wp2
          go_ret2
          exact ⟨rfl, next_below (next_below hb16 hb7) hb8⟩
      · obtain rfl : kr = 0 := by omega
        have q1 : decide ((0 : Int) < ((0 : Nat) : Int)) = false := by decide
        generalize (⟨(itoa X).toArray⟩ : ByteArray) = C at *
        clear hl hg sm sn Sm1 Sn1 hqle hQ hQa sQ hlen hX hmod hXa sX sXn e1 e2 c1 c4 hbm hbn hnp h8
        go_enter Tryz.func94, Tryz.ntmps94
        go_wp2_with fail
        refine (h1.out).mono ?_
        rintro e wn ⟨rfl, hb1⟩
        go_wp2_with fail
        refine (h2.out _).mono ?_
        rintro e wn ⟨r1, rfl, hl1, -, hb2⟩
        go_wp2_with fail
        refine (h3.out _).mono ?_
        rintro e wn ⟨r2, rfl, hl2, -, hb3⟩
        go_wp2_with fail
        refine (h6.out _ _ _ (hl1.below hb3) hl2).mono ?_
        rintro e wn ⟨r3, r4, rfl, hl3, hl4, hb4⟩
        have hb14 := next_below (next_below (next_below hb1 hb2) hb3) hb4
        obtain ⟨a4, c4, hv4, -, -, -⟩ := id hl4
        rw [HKR.out] at hv4
        subst hv4
        clear hl4
        go_wp2_with fail
        refine (h4.out _).mono ?_
        rintro e wn ⟨rfl, rfl⟩
        go_wp2_with fail
        refine (h5.out _).mono ?_
        rintro e wn ⟨rfl, rfl⟩
        go_wp2_with fail
        refine (h7.out _ _ hl3).mono ?_
        rintro e wn ⟨rfl, hb5⟩
        have hb15 := next_below hb14 hb5
        have hb16 := hb15
        go_wp2_with fail
        refine (h9.out _ hb16).mono ?_
        rintro e wn ⟨rfl, hb7⟩
        go_wp2_with fail
        refine (h10.out _ (next_below hb16 hb7)).mono ?_
        rintro e wn ⟨rfl, hb8⟩
        go_wp2
        go_ret2
        exact ⟨rfl, next_below (next_below hb16 hb7) hb8⟩

end Go.Proofs.YtpmlmibceiolpaaGreatDoor.D4

/- The contracts of croupierref01.Gcd, croupierref02.Make and croupierref02.Of. -/
set_option linter.unusedSimpArgs false
set_option linter.unusedVariables false
namespace Go.Proofs.YtpmlmibceiolpaaGreatDoor.D4
open Go.RowKit
open Go.Lib (decDigits itoa nDigits)

theorem gcd_tmod (x y : Int) : Nat.gcd y.natAbs (x.tmod y).natAbs = Nat.gcd x.natAbs y.natAbs := by
  rw [Int.natAbs_tmod, Nat.gcd_comm x.natAbs y.natAbs, Nat.gcd_rec y.natAbs x.natAbs, Nat.gcd_comm]

set_option maxHeartbeats 2000000 in
set_option maxRecDepth 100000 in
theorem gcd_little {w : World} (m n : Int) (hl : (itoa m).length ≤ 9 ∧ (itoa n).length ≤ 9) (hg : Good w) : Calls Tryz.prog 91 #[.string ⟨(itoa m).toArray⟩, .string ⟨(itoa n).toArray⟩] w (RetV w (.string ⟨(itoa (Nat.gcd m.natAbs n.natAbs : Nat)).toArray⟩)) := by
  have b1 := little_bound hl.1
  have b2 := little_bound hl.2
  have h1 := Lib.hid (little_yes (w := w) m n hl.1 hl.2)
  obtain ⟨g, hgc⟩ : ∃ g, Nat.gcd m.natAbs n.natAbs = g := ⟨_, rfl⟩
  rw [hgc]
  have hgb : g ≤ 1000000000 := by
    rw [← hgc]
    rcases Nat.eq_zero_or_pos m.natAbs with e | e
    · rw [e, Nat.gcd_zero_left]; omega
    · exact Nat.le_trans (Nat.gcd_le_left _ e) (by omega)
  have h2 := Lib.hid (fun (V : World) (hV : Below w.heap.size w V) => of_any (w := V) (g : Int) (by omega) (by omega) (hg.below hV))
  have HGC := Lib.hid hgc
  obtain ⟨b11, b12⟩ := b1
  obtain ⟨b21, b22⟩ := b2
  generalize (⟨(itoa m).toArray⟩ : ByteArray) = A at *
  generalize (⟨(itoa n).toArray⟩ : ByteArray) = B at *
  generalize (⟨(itoa (g : Nat)).toArray⟩ : ByteArray) = C at *
  clear hl hg hgc
  go_enter Tryz.func91, Tryz.ntmps91
  go_wp2_with fail
  refine (h1.out).mono ?_
  rintro e wn ⟨rfl, hb1⟩
  have HB1 := Lib.hid hb1
  clear hb1
  go_wp2
  go_loop [5, 6] (fun u5 u6 => ∃ x y : Int, u5 = .int .i64 x ∧ u6 = .int .i64 y ∧ -1000000000 < x ∧ x < 1000000000 ∧ -1000000000 < y ∧ y < 1000000000 ∧ Hid (Nat.gcd x.natAbs y.natAbs = g)) (fun _ u6 => (intOf u6).natAbs)
  case atStart => exact ⟨m, n, rfl, rfl, b11, b12, b21, b22, HGC⟩
  case round =>
    obtain ⟨x, y, rfl, rfl, x1, x2, y1, y2, hG⟩ := hrel
    by_cases hy : y = 0
    · subst hy
      have hxg : max x (-x) = (g : Int) := by
        have := hG.out
        rw [Int.natAbs_zero, Nat.gcd_zero_right] at this
        omega
      go_wp2_with fail
      refine (h2.out _ HB1.out).mono ?_
      rintro e w2 ⟨rfl, hb2⟩
      go_wp2
      go_ret
      exact ⟨rfl, next_below HB1.out hb2⟩
    · have e1 : (y != 0) = true := by simpa using hy
      have e2 : (y == 0) = false := by simpa using hy
      obtain ⟨r, hr⟩ : ∃ r, x.tmod y = r := ⟨_, rfl⟩
      have hG2 := gcd_tmod x y
      have hra := Int.natAbs_tmod x y
      rw [hr] at hG2 hra
      have hlt : r.natAbs < y.natAbs := by rw [hra]; exact Nat.mod_lt _ (by omega)
      rw [hG.out] at hG2
      have HG2 := Lib.hid hG2
      have HLT := Lib.hid hlt
      have r1 : -1000000000 < r ∧ r < 1000000000 := by omega
      obtain ⟨r1, r2⟩ := r1
      clear hG2 hra hlt
      go_wp2
      go_round
      case rel => exact ⟨y, r, rfl, rfl, y1, y2, r1, r2, HG2⟩
      case measure => simp [intOf]; exact HLT.out

set_option maxHeartbeats 2000000 in
set_option maxRecDepth 100000 in
theorem gcd_any {w : World} (m n : Int) (sm : nDigits m.natAbs ≤ 40000) (sn : nDigits n.natAbs ≤ 40000) (hg : Good w) : Calls Tryz.prog 91 #[.string ⟨(itoa m).toArray⟩, .string ⟨(itoa n).toArray⟩] w (RetV w (.string ⟨(itoa (Nat.gcd m.natAbs n.natAbs : Nat)).toArray⟩)) := by
  by_cases hl : (itoa m).length ≤ 9 ∧ (itoa n).length ≤ 9
  · exact gcd_little m n hl hg
  · have Sm1 : Sm m := Nat.le_trans sm (by omega)
    have Sn1 : Sm n := Nat.le_trans sn (by omega)
    have sm1 := Sm1.digs
    have sn1 := Sn1.digs
    have h1 := Lib.hid (little_no (w := w) m n hl)
    have h2 := Lib.hid (fun V => read_any (w := V) m (Nat.le_trans sm (by omega)))
    have h3 := Lib.hid (fun V => read_any (w := V) n (Nat.le_trans sn (by omega)))
    obtain ⟨g, hgc⟩ : ∃ g, Nat.gcd m.natAbs n.natAbs = g := ⟨_, rfl⟩
    rw [hgc]
    have h4 := Lib.hid (fun (V : World) v (q : Lim V v (limbs g)) (hb : (limbs g).length ≤ 1000000) => write_any false q hb)
    have e : sg false g = (g : Int) := rfl
    rw [e] at h4
    have HGC := Lib.hid hgc
    have S1 := Lib.hid (And.intro sm1 sn1)
    generalize (⟨(itoa m).toArray⟩ : ByteArray) = A at *
    generalize (⟨(itoa n).toArray⟩ : ByteArray) = B at *
    generalize (⟨(itoa (g : Nat)).toArray⟩ : ByteArray) = C at *
    generalize m.natAbs = p0 at *
    generalize n.natAbs = q0 at *
    clear hl hg hgc sm sn Sm1 Sn1 e sm1 sn1
    go_enter Tryz.func91, Tryz.ntmps91
    go_wp2_with fail
    refine (h1.out).mono ?_
    rintro e wn ⟨rfl, hb1⟩
    go_wp2_with fail
    refine (h2.out _).mono ?_
    rintro e wn ⟨v1, rfl, hl1, -, hb2⟩
    go_wp2_with fail
    refine (h3.out _).mono ?_
    rintro e wn ⟨v2, rfl, hl2, -, hb3⟩
    have hl1' := Lib.hid (hl1.below hb3)
    have HL2 := Lib.hid hl2
    have HBB := Lib.hid (next_below (next_below hb1 hb2) hb3)
    clear hl1 hl2 hb1 hb2 hb3
    go_wp2
    go_loopg [9, 10] q0 (fun gk u9 u10 wr => ∃ (p : Nat) (b : Option Addr) (k c : Nat), u10 = .slice b k c ∧ Hid ((limbs gk).length = k) ∧ Hid (Nat.gcd p gk = g) ∧ Hid (Lim wr u9 (limbs p)) ∧ Hid (Lim wr u10 (limbs gk)) ∧ Hid ((limbs p).length ≤ 100000) ∧ Hid ((limbs gk).length ≤ 100000) ∧ Hid (Below w.heap.size w wr))
    case atStart =>
      obtain ⟨b, c, e, -, -, -⟩ := id HL2.out
      exact ⟨p0, b, _, c, e, Lib.hid rfl, HGC, hl1', HL2, Lib.hid S1.out.1, Lib.hid S1.out.2, HBB⟩
    case round =>
      obtain ⟨p, b, k, c, rfl, hk, hG, l1, l2, s1, s2, hK⟩ := hrel
      by_cases hk0 : 0 < k
      · have e1 : decide ((0 : Int) < (k : Int)) = true := by simpa using hk0
        have hgp : 0 < gk := by
          rcases Nat.eq_zero_or_pos gk with h | h
          · have := hk.out; rw [h, limbs_zero] at this; simp at this; omega
          · exact h
        have hdv := Lib.hid (divide_any l1.out l2.out hgp (Nat.le_trans s1.out (by omega)) (Nat.le_trans s2.out (by omega)))
        have HGP := Lib.hid hgp
        clear hgp
        go_wp2_with fail
        refine hdv.out.mono ?_
        rintro e V ⟨vq, vr, rfl, hq, hr, hV⟩
        obtain ⟨b', c', hv', -, -, -⟩ := id hr
        subst hv'
        have HR := Lib.hid hr
        have HV := Lib.hid hV
        clear hr hV hq
        go_wp2
        go_roundg (p % gk)
        case rel => exact ⟨gk, b', _, c', rfl, Lib.hid rfl, Lib.hid (gcd_swap hG.out rfl), Lib.hid (l2.out.below HV.out), HR, s2, Lib.hid (Nat.le_trans (limbs_len_mono (Nat.le_of_lt (Nat.mod_lt _ HGP.out))) s2.out), Lib.hid (next_below hK.out HV.out)⟩
        case measure => exact Nat.mod_lt _ HGP.out
      · obtain rfl : k = 0 := by omega
        have hgz : gk = 0 := limbs_eq_nil.1 (List.length_eq_zero_iff.1 hk.out)
        have hpg : p = g := by have := hG.out; rwa [hgz, Nat.gcd_zero_right] at this
        have hw := Lib.hid (h4.out wr _ (by have := l1.out; rwa [hpg] at this) (by have := s1.out; rw [hpg] at this; omega))
        clear hgz hpg
        go_wp2_with fail
        refine hw.out.mono ?_
        rintro e V ⟨rfl, hV⟩
        go_wp2
        go_ret
        exact ⟨rfl, next_below hK.out hV⟩

end Go.Proofs.YtpmlmibceiolpaaGreatDoor.D4
