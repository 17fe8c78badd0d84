/- The statement TailChooses, walked. -/
import Derived.Test.YtmhneibcbjgedaaGreatDoorTMath
import Derived.Test.YtmhneibcbjgedaaGreatDoorTWorks
import Derived.Test.YtmhneibcbjgedaaGreatDoorTWhole2
set_option linter.unusedSimpArgs false
set_option linter.unusedVariables false
namespace Go.Proofs.YtmhneibcbjgedaaGreatDoor
open Go.RowKit
open Go.Lib (decDigits itoa nDigits)

theorem choose_bin {w : World} {a b : Nat} (ha : a ≤ 200) (hb : b ≤ a) (hg : Good w) : Calls Tryz.prog 11 #[.int .i64 a, .int .i64 b] w (RetV w (.tuple #[.string ⟨(itoa (bin a b : Nat)).toArray⟩, .int .i64 0])) := by
  have h := choose_any (w := w) a b hg
  have e : cnt a b = 0 := by unfold cnt; rw [if_pos (by omega)]
  rw [e, if_pos rfl, Int.toNat_natCast, chz_bin a b hb] at h
  exact h

theorem bin_le : ∀ n k : Nat, bin n k ≤ 2 ^ n
  | _, 0 => by rw [bin_zero]; exact Nat.one_le_two_pow
  | 0, _ + 1 => by simp [bin]
  | n + 1, k + 1 => by
    show bin n k + bin n (k + 1) ≤ _
    have h1 := bin_le n k
    have h2 := bin_le n (k + 1)
    rw [Nat.pow_succ]; omega

theorem nDigits_le : ∀ {d n : Nat}, n < 10 ^ (d + 1) → nDigits n ≤ d + 1
  | 0, n, h => by rw [Lib.nDigits_small (by simpa using h)]; omega
  | d + 1, n, h => by
    by_cases h0 : n < 10
    · rw [Lib.nDigits_small h0]; omega
    · rw [Lib.nDigits_big h0]
      have := nDigits_le (d := d) (n := n / 10) (by rw [Nat.pow_succ] at h; omega)
      omega

theorem wadd_bin {w : World} {x y : Nat} (hx : x ≤ 2 ^ 200) (hy : y ≤ 2 ^ 200) (hg : Good w) : Calls Tryz.prog 18 #[.string ⟨(itoa (x : Int)).toArray⟩, .string ⟨(itoa (y : Int)).toArray⟩] w (RetV w (.tuple #[.string ⟨(itoa ((x + y : Nat) : Int)).toArray⟩, .int .i64 0])) := by
  have hl : ∀ z : Nat, z ≤ 2 ^ 201 → nDigits z ≤ 2000 := fun z hz => Nat.le_trans (nDigits_le (d := 99) (Nat.lt_of_le_of_lt hz (by decide))) (by omega)
  have hlen : ∀ z : Nat, z ≤ 2 ^ 201 → (itoa (z : Int)).length ≤ 268435000 := fun z hz => by
    rw [itoa_nat, Lib.decDigits_length]; exact Nat.le_trans (hl z hz) (by omega)
  have h2 : (2 : Nat) ^ 200 ≤ 2 ^ 201 := by decide
  have h3 : (2 : Nat) ^ 200 + 2 ^ 200 = 2 ^ 201 := by decide
  have h := wadd_any (w := w) (la := itoa (x : Int)) (lb := itoa (y : Int)) (hlen x (by omega)) (hlen y (by omega)) hg
  have e0 : werr [itoa (x : Int), itoa (y : Int)] = 0 := by
    have w1 : wcheck (itoa (x : Int)) = 0 := by rw [wcheck_itoa, Int.natAbs_natCast, if_neg (by have := hl x (by omega); omega)]
    have w2 : wcheck (itoa (y : Int)) = 0 := by rw [wcheck_itoa, Int.natAbs_natCast, if_neg (by have := hl y (by omega); omega)]
    simp [werr, w1, w2]
  unfold wopT wopE at h
  rw [e0, sread_itoa, sread_itoa, if_pos rfl] at h
  have e1 : nDigits ((x : Int) + y).natAbs ≤ 2000 := by
    have : ((x : Int) + y).natAbs = x + y := by omega
    rw [this]; exact hl _ (by omega)
  rw [if_pos e1, if_pos rfl] at h
  exact h

set_option maxHeartbeats 4000000 in
set_option maxRecDepth 100000 in
theorem chooses_any {w : World} (n k : Nat) (hn : n < 256) (hk : k < 256) (hg : Good w) : Calls Tryz.prog 4 #[.int .u8 n, .int .u8 k] w (RetV w (.bool true)) := by
  obtain ⟨a, ha⟩ : ∃ a : Nat, 1 + (n : Int) % 200 = a := ⟨1 + n % 200, by omega⟩
  have ha1 : 1 ≤ a := by omega
  have ha2 : a ≤ 200 := by omega
  obtain ⟨b, hb0⟩ : ∃ b : Nat, k % (a + 1) = b := ⟨k % (a + 1), rfl⟩
  have hb : (k : Int) % ((a : Int) + 1) = b := by rw [← hb0]; push_cast; rfl
  have hb2 : b ≤ a := by have := Nat.mod_lt k (show a + 1 > 0 by omega); omega
  obtain ⟨c, hc⟩ : ∃ c : Nat, (a : Int) - b = c := ⟨a - b, by omega⟩
  have hc2 : c ≤ a := by omega
  have hsym : bin a c = bin a b := by rw [bin_sym a b hb2]; congr 1; omega
  have HG : Gd w w := ⟨hg, Below.refl _ _⟩
  have h1 := fun (V : World) (hV : Good V) => choose_bin (w := V) ha2 hb2 hV
  have h2 := fun (V : World) (hV : Good V) => choose_bin (w := V) ha2 hc2 hV
  rw [hsym] at h2
  by_cases h0 : b = 0 ∨ b = a
  · have e1 : bin a b = 1 := by
      rcases h0 with h0 | h0
      · rw [h0, bin_zero]
      · rw [h0, bin_self]
    have e2 : itoa ((1 : Nat) : Int) = [49] := by decide +kernel
    rw [e1, e2] at h1 h2
    have H1 := Lib.hid h1
    have H2 := Lib.hid h2
    clear h1 h2 hsym e1 e2 hg hb0
    by_cases hz : b = 0
    · have hq0 : ((b : Int) == 0) = true := by simpa using hz
      clear h0 hz
      go_enter Tryz.func4, Tryz.ntmps4
      go_wp2_with fail
      refine (works_any HG.1).mono ?_; rintro e wn ⟨rfl, hbb⟩; replace HG := HG.next hbb; clear hbb
      go_wp2_with fail
      refine (H1.out _ HG.1).mono ?_; rintro e wn ⟨rfl, hbb⟩; replace HG := HG.next hbb; clear hbb
      go_wp2_with fail
      refine (H2.out _ HG.1).mono ?_; rintro e wn ⟨rfl, hbb⟩; replace HG := HG.next hbb; clear hbb
      go_wp2
      go_ret
      exact ⟨rfl, HG.2⟩
    · have hq0 : ((b : Int) == 0) = false := by simpa using hz
      have hq1 : ((b : Int) == (a : Int)) = true := by rcases h0 with h | h; omega; subst h; simp
      clear h0 hz
      go_enter Tryz.func4, Tryz.ntmps4
      go_wp2_with fail
      refine (works_any HG.1).mono ?_; rintro e wn ⟨rfl, hbb⟩; replace HG := HG.next hbb; clear hbb
      go_wp2_with fail
      refine (H1.out _ HG.1).mono ?_; rintro e wn ⟨rfl, hbb⟩; replace HG := HG.next hbb; clear hbb
      go_wp2_with fail
      refine (H2.out _ HG.1).mono ?_; rintro e wn ⟨rfl, hbb⟩; replace HG := HG.next hbb; clear hbb
      go_wp2
      go_ret
      exact ⟨rfl, HG.2⟩
  · obtain ⟨hz, hz2⟩ := not_or.1 h0
    have hq0 : ((b : Int) == 0) = false := by simpa using hz
    have hq1 : ((b : Int) == (a : Int)) = false := by simp; omega
    obtain ⟨a', ha'⟩ : ∃ a' : Nat, (a : Int) - 1 = a' := ⟨a - 1, by omega⟩
    obtain ⟨b', hb'⟩ : ∃ b' : Nat, (b : Int) - 1 = b' := ⟨b - 1, by omega⟩
    obtain rfl : a = a' + 1 := by omega
    obtain rfl : b = b' + 1 := by omega
    have h3 := fun (V : World) (hV : Good V) => choose_bin (w := V) (a := a') (b := b') (by omega) (by omega) hV
    have h4 := fun (V : World) (hV : Good V) => choose_bin (w := V) (a := a') (b := b' + 1) (by omega) (by omega) hV
    have h5 := fun (V : World) (hV : Good V) => wadd_bin (w := V) (x := bin a' b') (y := bin a' (b' + 1)) (Nat.le_trans (bin_le _ _) (Nat.pow_le_pow_right (by omega) (by omega))) (Nat.le_trans (bin_le _ _) (Nat.pow_le_pow_right (by omega) (by omega))) hV
    have e1 : bin (a' + 1) (b' + 1) = bin a' b' + bin a' (b' + 1) := rfl
    rw [e1] at h1 h2
    generalize (⟨(itoa ((bin a' b' + bin a' (b' + 1) : Nat) : Int)).toArray⟩ : ByteArray) = T at *
    generalize (⟨(itoa ((bin a' b' : Nat) : Int)).toArray⟩ : ByteArray) = T1 at *
    generalize (⟨(itoa ((bin a' (b' + 1) : Nat) : Int)).toArray⟩ : ByteArray) = T2 at *
    generalize hA : ((a' + 1 : Nat) : Int) = A at *
    generalize hB : ((b' + 1 : Nat) : Int) = B at *
    have H1 := Lib.hid h1
    have H2 := Lib.hid h2
    have H3 := Lib.hid h3
    have H4 := Lib.hid h4
    have H5 := Lib.hid h5
    have bA : 1 ≤ A ∧ A ≤ 200 := by omega
    have bB : 1 ≤ B ∧ B ≤ 200 := by omega
    obtain ⟨bA1, bA2⟩ := bA
    obtain ⟨bB1, bB2⟩ := bB
    clear h1 h2 h3 h4 h5 hsym e1 hg hb0 h0 hz hz2 hA hB ha1 ha2 hb2 hc2
    go_enter Tryz.func4, Tryz.ntmps4
    go_wp2_with fail
    refine (works_any HG.1).mono ?_; rintro e wn ⟨rfl, hbb⟩; replace HG := HG.next hbb; clear hbb
    go_wp2_with fail
    refine (H1.out _ HG.1).mono ?_; rintro e wn ⟨rfl, hbb⟩; replace HG := HG.next hbb; clear hbb
    go_wp2_with fail
    refine (H2.out _ HG.1).mono ?_; rintro e wn ⟨rfl, hbb⟩; replace HG := HG.next hbb; clear hbb
    go_wp2_with fail
    refine (H3.out _ HG.1).mono ?_; rintro e wn ⟨rfl, hbb⟩; replace HG := HG.next hbb; clear hbb
    go_wp2_with fail
    refine (H4.out _ HG.1).mono ?_; rintro e wn ⟨rfl, hbb⟩; replace HG := HG.next hbb; clear hbb
    go_wp2_with fail
    refine (H5.out _ HG.1).mono ?_; rintro e wn ⟨rfl, hbb⟩; replace HG := HG.next hbb; clear hbb
    go_wp2
    go_ret
    exact ⟨rfl, HG.2⟩

end Go.Proofs.YtmhneibcbjgedaaGreatDoor
