/- The contracts of croupierref01: little, Of, Neg, Cmp, Add, Sub, Mul, Digits, over texts of integers. -/
import Derived.Test.YtpmlmibceiolpaaGreatDoorR1h
import Derived.Test.YtpmlmibceiolpaaGreatDoorR1f
set_option linter.unusedSimpArgs false
set_option linter.unusedVariables false
namespace Go.Proofs.YtpmlmibceiolpaaGreatDoor.D4
open Go.RowKit
open Go.Lib (decDigits itoa nDigits)

theorem decFrom_dig : ∀ (l : List UInt8) (acc : Nat), Dig l → Lib.decFrom acc l = some (rd acc l)
  | [], acc, _ => rfl
  | c :: r, acc, h => by
    have h1 := h c (by simp)
    have h2 : Lib.digitVal c = some (c.toNat - 48) := by
      unfold Lib.digitVal
      rw [if_pos h1]
    rw [Lib.decFrom, h2, rd_cons]
    exact decFrom_dig r _ (fun x hx => h x (by simp [hx]))

theorem decNat_dig {l : List UInt8} (h : Dig l) (h0 : l ≠ []) : Lib.decNat l = some (rd 0 l) := by
  unfold Lib.decNat
  rw [if_neg (by simpa using h0)]
  exact decFrom_dig l 0 h

theorem atoi_itoa (n : Int) : Lib.atoi (itoa n) = some n := by
  rw [itoa_sgnd]
  have hd := decDigits_dig n.natAbs
  have hr := rd_decDigits n.natAbs
  have h0 := decDigits_ne n.natAbs
  by_cases h : n < 0
  · have e : decide (n < 0) = true := by simpa using h
    rw [e]
    show Lib.atoi (45 :: decDigits n.natAbs) = _
    unfold Lib.atoi
    dsimp only
    rw [if_pos (by decide), decNat_dig hd h0, hr]
    simp; omega
  · have e : decide (n < 0) = false := by simpa using h
    rw [e]
    show Lib.atoi (decDigits n.natAbs) = _
    cases hc : decDigits n.natAbs with
    | nil => exact absurd hc h0
    | cons c r =>
      rw [hc] at hd hr h0
      have h1 := hd c (by simp)
      unfold Lib.atoi
      have n1 : (c == 45) = false := by rw [beq_eq_false_iff_ne]; intro e; subst e; exact absurd h1.1 (by decide)
      have n2 : (c == 43) = false := by rw [beq_eq_false_iff_ne]; intro e; subst e; exact absurd h1.1 (by decide)
      dsimp only
      rw [n1, n2]
      simp only [Bool.false_eq_true, if_false]
      rw [decNat_dig hd h0, hr]
      simp; omega

theorem itoa_len2 (n : Int) : (itoa n).length = nDigits n.natAbs + (if n < 0 then 1 else 0) := by
  rw [itoa_sgnd, sgnd_len, Lib.decDigits_length]
  by_cases h : n < 0 <;> simp [h]

theorem little_bound {n : Int} (h : (itoa n).length ≤ 9) : -1000000000 < n ∧ n < 1000000000 := by
  rw [itoa_len2] at h
  have h1 := Lib.lt_pow_nDigits n.natAbs
  have h2 : 10 ^ nDigits n.natAbs ≤ 10 ^ 9 := Nat.pow_le_pow_right (by omega) (by omega)
  omega

/-- A number that is not too long. -/
def Sm (n : Int) : Prop := nDigits n.natAbs ≤ 100000
theorem digs_digits {n d : Nat} (h : nDigits n ≤ d) : (limbs n).length ≤ d := by
  apply limbs_len_le
  refine Nat.lt_of_lt_of_le (Lib.lt_pow_nDigits n) ?_
  exact Nat.le_trans (Nat.pow_le_pow_right (by omega) h) (Nat.pow_le_pow_left (by omega) d)
theorem Sm.digs {n : Int} (h : Sm n) : (limbs n.natAbs).length ≤ 100000 := digs_digits h
theorem Sm.text {n : Int} (h : Sm n) : (⟨(itoa n).toArray⟩ : ByteArray).size ≤ 100001 := by
  rw [ba_size, itoa_len2]
  unfold Sm at h
  split <;> omega

theorem atoi_any {w : World} (n : Int) (h : (itoa n).length ≤ 9) : Calls Tryz.prog 123 #[.string ⟨(itoa n).toArray⟩] w (RetV w (.tuple #[.int .i64 n, .nilIface])) := by
  refine (Tryz.strconv_Atoi ⟨(itoa n).toArray⟩ n (by rw [ba_size]; omega) (atoi_itoa n) w).mono ?_
  rintro e w' ⟨rfl, t, rfl⟩
  exact ⟨rfl, Joins.below_bytesWorld _ _ _ _ (Nat.le_refl _)⟩

theorem of_any {w : World} (n : Int) (h0 : -9223372036854775808 ≤ n) (h1 : n ≤ 9223372036854775807) (hg : Good w) : Calls Tryz.prog 84 #[.int .i64 n] w (RetV w (.string ⟨(itoa n).toArray⟩)) := by
  have hc := Tryz.strconv_Itoa n h0 h1 w hg.1
  have HC := Lib.hid hc
  clear hc hg
  go_enter Tryz.func84, Tryz.ntmps84
  go_wp2_with fail
  refine HC.out.mono ?_
  rintro e w' ⟨rfl, k, os, hw⟩
  have hb : Below w.heap.size w w' := by rw [hw]; exact Lib.below_grow _ _ (Nat.le_refl _) _ _
  clear hw
  go_wp2
  go_ret
  exact ⟨rfl, hb⟩

set_option maxHeartbeats 1000000 in
theorem little_yes {w : World} (m n : Int) (hm : (itoa m).length ≤ 9) (hn : (itoa n).length ≤ 9) : Calls Tryz.prog 83 #[.string ⟨(itoa m).toArray⟩, .string ⟨(itoa n).toArray⟩] w (RetV w (.tuple #[.int .i64 m, .int .i64 n, .bool true])) := by
  have h1 := Lib.hid (atoi_any (w := w) m hm)
  have h2 := Lib.hid (fun V => atoi_any (w := V) n hn)
  have s1 : (⟨(itoa m).toArray⟩ : ByteArray).size ≤ 9 := by rw [ba_size]; exact hm
  have s2 : (⟨(itoa n).toArray⟩ : ByteArray).size ≤ 9 := by rw [ba_size]; exact hn
  generalize (⟨(itoa m).toArray⟩ : ByteArray) = A at *
  generalize (⟨(itoa n).toArray⟩ : ByteArray) = B at *
  clear hm hn
  have b1 : decide ((9 : Int) < (A.size : Int)) = false := by simp; omega
  have b2 : decide ((9 : Int) < (B.size : Int)) = false := by simp; omega
  have b3 : decide (9 < A.size) = false := by simp; omega
  have b4 : decide (9 < B.size) = false := by simp; omega
  go_enter Tryz.func83, Tryz.ntmps83
  go_wp2_with fail
  refine h1.out.mono ?_
  rintro e w1 ⟨rfl, hb1⟩
  go_wp2_with fail
  refine (h2.out _).mono ?_
  rintro e w2 ⟨rfl, hb2⟩
  go_wp2
  go_ret3
  exact ⟨rfl, next_below hb1 hb2⟩

set_option maxHeartbeats 1000000 in
theorem little_no {w : World} (m n : Int) (h : ¬ ((itoa m).length ≤ 9 ∧ (itoa n).length ≤ 9)) : Calls Tryz.prog 83 #[.string ⟨(itoa m).toArray⟩, .string ⟨(itoa n).toArray⟩] w (RetV w (.tuple #[.int .i64 0, .int .i64 0, .bool false])) := by
  rw [← ba_size (itoa m), ← ba_size (itoa n)] at h
  generalize (⟨(itoa m).toArray⟩ : ByteArray) = A at *
  generalize (⟨(itoa n).toArray⟩ : ByteArray) = B at *
  by_cases s1 : A.size ≤ 9
  · have b1 : decide ((9 : Int) < (A.size : Int)) = false := by simp; omega
    have b2 : decide ((9 : Int) < (B.size : Int)) = true := by simp; omega
    have b3 : decide (9 < A.size) = false := by simp; omega
    have b4 : decide (9 < B.size) = true := by simp; omega
    clear h s1
    go_enter Tryz.func83, Tryz.ntmps83
    go_wp2
    go_ret3
    exact ⟨rfl, Below.refl _ _⟩
  · have b1 : decide ((9 : Int) < (A.size : Int)) = true := by simp; omega
    have b3 : decide (9 < A.size) = true := by simp; omega
    clear h s1
    go_enter Tryz.func83, Tryz.ntmps83
    go_wp2
    go_ret3
    exact ⟨rfl, Below.refl _ _⟩

set_option maxHeartbeats 1000000 in
theorem neg_any {w : World} (m : Int) (sm : Sm m) : Calls Tryz.prog 93 #[.string ⟨(itoa m).toArray⟩] w (RetV w (.string ⟨(itoa (-m)).toArray⟩)) := by
  have h1 := Lib.hid (negative_any (w := w) m)
  have h2 := Lib.hid (read_any (w := w) m (Nat.le_trans sm (by omega)))
  have h3 := Lib.hid (fun (V : World) v (h : Lim V v (limbs m.natAbs)) => write_any (!decide (m < 0)) h (Nat.le_trans sm.digs (by omega)))
  have e : sg (!decide (m < 0)) m.natAbs = -m := by unfold sg; by_cases h : m < 0 <;> simp [h] <;> omega
  rw [e] at h3
  generalize (⟨(itoa m).toArray⟩ : ByteArray) = A at *
  generalize (⟨(itoa (-m)).toArray⟩ : ByteArray) = B at *
  generalize decide (m < 0) = b at *
  clear e sm
  go_enter Tryz.func93, Tryz.ntmps93
  go_wp2_with fail
  refine (h1.out).mono ?_
  rintro e wn ⟨rfl, rfl⟩
  go_wp2_with fail
  refine (h2.out).mono ?_
  rintro e wn ⟨r, rfl, hl, -, hb1⟩
  go_wp2_with fail
  refine (h3.out _ _ hl).mono ?_
  rintro e wn ⟨rfl, hb2⟩
  go_wp2
  go_ret
  exact ⟨rfl, next_below hb1 hb2⟩

theorem Sm.neg {m : Int} (h : Sm m) : Sm (-m) := by unfold Sm at *; rwa [Int.natAbs_neg]

set_option maxHeartbeats 2000000 in
theorem add_any {w : World} (m n : Int) (sm : Sm m) (sn : Sm n) (hg : Good w) : Calls Tryz.prog 50 #[.string ⟨(itoa m).toArray⟩, .string ⟨(itoa n).toArray⟩] w (RetV w (.string ⟨(itoa (m + n)).toArray⟩)) := by
  by_cases hl : (itoa m).length ≤ 9 ∧ (itoa n).length ≤ 9
  · have b1 := little_bound hl.1
    have b2 := little_bound hl.2
    have h1 := Lib.hid (little_yes (w := w) m n hl.1 hl.2)
    have h2 := Lib.hid (fun (V : World) hV => of_any (w := V) (m + n) (by omega) (by omega) (hg.below hV))
    obtain ⟨b11, b12⟩ := b1
    obtain ⟨b21, b22⟩ := b2
    generalize (⟨(itoa m).toArray⟩ : ByteArray) = A at *
    generalize (⟨(itoa n).toArray⟩ : ByteArray) = B at *
    generalize (⟨(itoa (m + n)).toArray⟩ : ByteArray) = C at *
    clear hl hg sm sn
    go_enter Tryz.func50, Tryz.ntmps50
    go_wp2_with fail
    refine (h1.out).mono ?_
    rintro e wn ⟨rfl, hb1⟩
    go_wp2_with fail
    refine (h2.out _ hb1).mono ?_
    rintro e wn ⟨rfl, hb2⟩
    go_wp2
    go_ret
    exact ⟨rfl, next_below hb1 hb2⟩
  · have h1 := Lib.hid (little_no (w := w) m n hl)
    have h2 := Lib.hid (fun V => read_any (w := V) m (Nat.le_trans sm (by omega)))
    have h3 := Lib.hid (fun V => read_any (w := V) n (Nat.le_trans sn (by omega)))
    have h4 := Lib.hid (fun V => negative_any (w := V) m)
    have h5 := Lib.hid (fun V => negative_any (w := V) n)
    have sm1 := sm.digs
    have sn1 := sn.digs
    by_cases hs : decide (m < 0) = decide (n < 0)
    · have h6 := Lib.hid (fun (V : World) v1 v2 (q1 : Lim V v1 (limbs m.natAbs)) (q2 : Lim V v2 (limbs n.natAbs)) => plus_any q1 q2 (limbs_ok _) (limbs_ok _) (limbs_last _) (limbs_last _) (by omega) (by omega))
      simp only [val_limbs] at h6
      have h7 := Lib.hid (fun (V : World) v (q : Lim V v (limbs (m.natAbs + n.natAbs))) => write_any (decide (m < 0)) q (by have := limbs_len_add m.natAbs n.natAbs; omega))
      have e : sg (decide (m < 0)) (m.natAbs + n.natAbs) = m + n := by
        unfold sg
        by_cases q : m < 0
        · have : n < 0 := by simpa [q] using hs
          simp [q]; omega
        · have : ¬ n < 0 := by simpa [q] using hs
          simp [q]; omega
      rw [e] at h7
      have hsb : (decide (m < 0) == decide (n < 0)) = true := by simpa using hs
      generalize (⟨(itoa m).toArray⟩ : ByteArray) = A at *
      generalize (⟨(itoa n).toArray⟩ : ByteArray) = B at *
      generalize (⟨(itoa (m + n)).toArray⟩ : ByteArray) = C at *
      generalize decide (m < 0) = b at *
      generalize decide (n < 0) = c at *
      clear hl hg sm sn e hs
      go_enter Tryz.func50, Tryz.ntmps50
      go_wp2_with fail
      refine (h1.out).mono ?_
      rintro e wn ⟨rfl, hb1⟩
      go_wp2_with fail
      refine (h2.out _).mono ?_
      rintro e wn ⟨r1, rfl, hl1, -, hb2⟩
      go_wp2_with fail
      refine (h3.out _).mono ?_
      rintro e wn ⟨r2, rfl, hl2, -, hb3⟩
      go_wp2_with fail
      refine (h4.out _).mono ?_
      rintro e wn ⟨rfl, rfl⟩
      go_wp2_with fail
      refine (h5.out _).mono ?_
      rintro e wn ⟨rfl, rfl⟩
      go_wp2_with fail
      refine (h4.out _).mono ?_
      rintro e wn ⟨rfl, rfl⟩
      go_wp2_with fail
      refine (h6.out _ _ _ (hl1.below hb3) hl2).mono ?_
      rintro e wn ⟨r3, rfl, hl3, -, hb4⟩
      go_wp2_with fail
      refine (h7.out _ _ hl3).mono ?_
      rintro e wn ⟨rfl, hb5⟩
      go_wp2
      go_ret
      exact ⟨rfl, next_below (next_below (next_below (next_below hb1 hb2) hb3) hb4) hb5⟩
    · have hsb : (decide (m < 0) == decide (n < 0)) = false := by simpa using hs
      have h6 := Lib.hid (fun (V : World) v1 v2 (q1 : Lim V v1 (limbs m.natAbs)) (q2 : Lim V v2 (limbs n.natAbs)) => compare_any q1 q2 (limbs_ok _) (limbs_ok _) (limbs_last _) (limbs_last _))
      simp only [val_limbs] at h6
      by_cases hc : n.natAbs ≤ m.natAbs
      · have hcb : decide (0 ≤ sgn m.natAbs n.natAbs) = true := by
          rw [decide_eq_true_eq]; unfold sgn; split
          · omega
          · split <;> omega
        have h7 := Lib.hid (fun (V : World) v1 v2 (q1 : Lim V v1 (limbs m.natAbs)) (q2 : Lim V v2 (limbs n.natAbs)) => minus_any q1 q2 (limbs_ok _) (limbs_ok _) (limbs_len_mono hc) (by rw [val_limbs, val_limbs]; exact hc) (by omega))
        simp only [val_limbs] at h7
        have h8 := Lib.hid (fun (V : World) v (q : Lim V v (limbs (m.natAbs - n.natAbs))) => write_any (decide (m < 0)) q (by have := limbs_len_mono (show m.natAbs - n.natAbs ≤ m.natAbs by omega); omega))
        have e : sg (decide (m < 0)) (m.natAbs - n.natAbs) = m + n := by
          unfold sg
          by_cases q : m < 0
          · have : ¬ n < 0 := by simpa [q] using hs
            simp [q]; omega
          · have : n < 0 := by simpa [q] using hs
            simp [q]; omega
        rw [e] at h8
        generalize (⟨(itoa m).toArray⟩ : ByteArray) = A at *
        generalize (⟨(itoa n).toArray⟩ : ByteArray) = B at *
        generalize (⟨(itoa (m + n)).toArray⟩ : ByteArray) = C at *
        generalize decide (m < 0) = b at *
        generalize decide (n < 0) = c at *
        generalize sgn m.natAbs n.natAbs = z at *
        clear hl hg sm sn e hs hc
        go_enter Tryz.func50, Tryz.ntmps50
        go_wp2_with fail
        refine (h1.out).mono ?_
        rintro e wn ⟨rfl, hb1⟩
        go_wp2_with fail
        refine (h2.out _).mono ?_
        rintro e wn ⟨r1, rfl, hl1, -, hb2⟩
        go_wp2_with fail
        refine (h3.out _).mono ?_
        rintro e wn ⟨r2, rfl, hl2, -, hb3⟩
        go_wp2_with fail
        refine (h4.out _).mono ?_
        rintro e wn ⟨rfl, rfl⟩
        go_wp2_with fail
        refine (h5.out _).mono ?_
        rintro e wn ⟨rfl, rfl⟩
        go_wp2_with fail
        refine (h6.out _ _ _ (hl1.below hb3) hl2).mono ?_
        rintro e wn ⟨rfl, hb4⟩
        go_wp2_with fail
        refine (h4.out _).mono ?_
        rintro e wn ⟨rfl, rfl⟩
        go_wp2_with fail
        refine (h7.out _ _ _ ((hl1.below hb3).below hb4) (hl2.below hb4)).mono ?_
        rintro e wn ⟨r3, rfl, hl3, -, hb5⟩
        go_wp2_with fail
        refine (h8.out _ _ hl3).mono ?_
        rintro e wn ⟨rfl, hb6⟩
        go_wp2
        go_ret
        exact ⟨rfl, next_below (next_below (next_below (next_below (next_below hb1 hb2) hb3) hb4) hb5) hb6⟩
      · have hc' : m.natAbs ≤ n.natAbs := by omega
        have hcb : decide (0 ≤ sgn m.natAbs n.natAbs) = false := by
          rw [decide_eq_false_iff_not]; unfold sgn; rw [if_pos (by omega)]; omega
        have h7 := Lib.hid (fun (V : World) v1 v2 (q1 : Lim V v1 (limbs n.natAbs)) (q2 : Lim V v2 (limbs m.natAbs)) => minus_any q1 q2 (limbs_ok _) (limbs_ok _) (limbs_len_mono hc') (by rw [val_limbs, val_limbs]; exact hc') (by omega))
        simp only [val_limbs] at h7
        have h8 := Lib.hid (fun (V : World) v (q : Lim V v (limbs (n.natAbs - m.natAbs))) => write_any (decide (n < 0)) q (by have := limbs_len_mono (show n.natAbs - m.natAbs ≤ n.natAbs by omega); omega))
        have e : sg (decide (n < 0)) (n.natAbs - m.natAbs) = m + n := by
          unfold sg
          by_cases q : m < 0
          · have : ¬ n < 0 := by simpa [q] using hs
            simp [this]; omega
          · have : n < 0 := by simpa [q] using hs
            simp [this]; omega
        rw [e] at h8
        generalize (⟨(itoa m).toArray⟩ : ByteArray) = A at *
        generalize (⟨(itoa n).toArray⟩ : ByteArray) = B at *
        generalize (⟨(itoa (m + n)).toArray⟩ : ByteArray) = C at *
        generalize decide (m < 0) = b at *
        generalize decide (n < 0) = c at *
        generalize sgn m.natAbs n.natAbs = z at *
        clear hl hg sm sn e hs hc hc'
        go_enter Tryz.func50, Tryz.ntmps50
        go_wp2_with fail
        refine (h1.out).mono ?_
        rintro e wn ⟨rfl, hb1⟩
        go_wp2_with fail
        refine (h2.out _).mono ?_
        rintro e wn ⟨r1, rfl, hl1, -, hb2⟩
        go_wp2_with fail
        refine (h3.out _).mono ?_
        rintro e wn ⟨r2, rfl, hl2, -, hb3⟩
        go_wp2_with fail
        refine (h4.out _).mono ?_
        rintro e wn ⟨rfl, rfl⟩
        go_wp2_with fail
        refine (h5.out _).mono ?_
        rintro e wn ⟨rfl, rfl⟩
        go_wp2_with fail
        refine (h6.out _ _ _ (hl1.below hb3) hl2).mono ?_
        rintro e wn ⟨rfl, hb4⟩
        go_wp2_with fail
        refine (h5.out _).mono ?_
        rintro e wn ⟨rfl, rfl⟩
        go_wp2_with fail
        refine (h7.out _ _ _ (hl2.below hb4) ((hl1.below hb3).below hb4)).mono ?_
        rintro e wn ⟨r3, rfl, hl3, -, hb5⟩
        go_wp2_with fail
        refine (h8.out _ _ hl3).mono ?_
        rintro e wn ⟨rfl, hb6⟩
        go_wp2
        go_ret
        exact ⟨rfl, next_below (next_below (next_below (next_below (next_below hb1 hb2) hb3) hb4) hb5) hb6⟩

theorem sub_any {w : World} (m n : Int) (sm : Sm m) (sn : Sm n) (hg : Good w) : Calls Tryz.prog 127 #[.string ⟨(itoa m).toArray⟩, .string ⟨(itoa n).toArray⟩] w (RetV w (.string ⟨(itoa (m - n)).toArray⟩)) := by
  have h1 := Lib.hid (neg_any (w := w) n sn)
  have h2 := Lib.hid (fun (V : World) hV => add_any (w := V) m (-n) sm sn.neg (hg.below hV))
  rw [← Int.sub_eq_add_neg] at h2
  generalize (⟨(itoa m).toArray⟩ : ByteArray) = A at *
  generalize (⟨(itoa n).toArray⟩ : ByteArray) = B at *
  generalize (⟨(itoa (m - n)).toArray⟩ : ByteArray) = C at *
  generalize (⟨(itoa (-n)).toArray⟩ : ByteArray) = D at *
  clear sm sn hg
  go_enter Tryz.func127, Tryz.ntmps127
  go_wp2_with fail
  refine (h1.out).mono ?_
  rintro e wn ⟨rfl, hb1⟩
  go_wp2_with fail
  refine (h2.out _ hb1).mono ?_
  rintro e wn ⟨rfl, hb2⟩
  go_wp2
  go_ret
  exact ⟨rfl, next_below hb1 hb2⟩

theorem sg_mul2 {m n : Int} : sg (decide (m < 0) != decide (n < 0)) (m.natAbs * n.natAbs) = m * n := sg_mul

set_option maxHeartbeats 2000000 in
theorem mul_any {w : World} (m n : Int) (sm : Sm m) (sn : Sm n) (hg : Good w) : Calls Tryz.prog 52 #[.string ⟨(itoa m).toArray⟩, .string ⟨(itoa n).toArray⟩] w (RetV w (.string ⟨(itoa (m * n)).toArray⟩)) := by
  by_cases hl : (itoa m).length ≤ 9 ∧ (itoa n).length ≤ 9
  · have b1 := little_bound hl.1
    have b2 := little_bound hl.2
    have h1 := Lib.hid (little_yes (w := w) m n hl.1 hl.2)
    have hp : -1000000000000000000 ≤ m * n ∧ m * n ≤ 1000000000000000000 := by
      have e1 : (m * n).natAbs = m.natAbs * n.natAbs := Int.natAbs_mul m n
      have e2 : m.natAbs * n.natAbs ≤ 1000000000 * 1000000000 := Nat.mul_le_mul (by omega) (by omega)
      omega
    have h2 := Lib.hid (fun (V : World) hV => of_any (w := V) (m * n) (by omega) (by omega) (hg.below hV))
    obtain ⟨b11, b12⟩ := b1
    obtain ⟨b21, b22⟩ := b2
    obtain ⟨p1, p2⟩ := hp
    generalize (⟨(itoa m).toArray⟩ : ByteArray) = A at *
    generalize (⟨(itoa n).toArray⟩ : ByteArray) = B at *
    generalize (⟨(itoa (m * n)).toArray⟩ : ByteArray) = C at *
    clear hl hg sm sn
    go_enter Tryz.func52, Tryz.ntmps52
    go_wp2_with fail
    refine (h1.out).mono ?_
    rintro e wn ⟨rfl, hb1⟩
    go_wp2_with fail
    refine (h2.out _ hb1).mono ?_
    rintro e wn ⟨rfl, hb2⟩
    go_wp2
    go_ret
    exact ⟨rfl, next_below hb1 hb2⟩
  · have h1 := Lib.hid (little_no (w := w) m n hl)
    have h2 := Lib.hid (fun V => read_any (w := V) m (Nat.le_trans sm (by omega)))
    have h3 := Lib.hid (fun V => read_any (w := V) n (Nat.le_trans sn (by omega)))
    have h4 := Lib.hid (fun V => negative_any (w := V) m)
    have h5 := Lib.hid (fun V => negative_any (w := V) n)
    have sm1 := sm.digs
    have sn1 := sn.digs
    have h6 := Lib.hid (fun (V : World) v1 v2 (q1 : Lim V v1 (limbs m.natAbs)) (q2 : Lim V v2 (limbs n.natAbs)) => times_any q1 q2 (limbs_ok _) (.inl (limbs_ok _)) (by omega) (by omega))
    simp only [val_limbs] at h6
    have h7 := Lib.hid (fun (V : World) v (q : Lim V v (limbs (m.natAbs * n.natAbs))) => write_any (decide (m < 0) != decide (n < 0)) q (by have := limbs_len_mul m.natAbs n.natAbs; omega))
    rw [sg_mul2] at h7
    generalize (⟨(itoa m).toArray⟩ : ByteArray) = A at *
    generalize (⟨(itoa n).toArray⟩ : ByteArray) = B at *
    generalize (⟨(itoa (m * n)).toArray⟩ : ByteArray) = C at *
    generalize decide (m < 0) = b at *
    generalize decide (n < 0) = c at *
    clear hl hg sm sn
    go_enter Tryz.func52, Tryz.ntmps52
    go_wp2_with fail
    refine (h1.out).mono ?_
    rintro e wn ⟨rfl, hb1⟩
    go_wp2_with fail
    refine (h4.out _).mono ?_
    rintro e wn ⟨rfl, rfl⟩
    go_wp2_with fail
    refine (h5.out _).mono ?_
    rintro e wn ⟨rfl, rfl⟩
    go_wp2_with fail
    refine (h2.out _).mono ?_
    rintro e wn ⟨r1, rfl, hl1, -, hb2⟩
    go_wp2_with fail
    refine (h3.out _).mono ?_
    rintro e wn ⟨r2, rfl, hl2, -, hb3⟩
    go_wp2_with fail
    refine (h6.out _ _ _ (hl1.below hb3) hl2).mono ?_
    rintro e wn ⟨r3, rfl, hl3, -, hb4⟩
    go_wp2_with fail
    refine (h7.out _ _ hl3).mono ?_
    rintro e wn ⟨rfl, hb5⟩
    go_wp2
    go_ret
    exact ⟨rfl, next_below (next_below (next_below (next_below hb1 hb2) hb3) hb4) hb5⟩

end Go.Proofs.YtpmlmibceiolpaaGreatDoor.D4
