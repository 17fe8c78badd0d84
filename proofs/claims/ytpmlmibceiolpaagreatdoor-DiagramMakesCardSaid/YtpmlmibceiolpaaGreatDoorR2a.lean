/- The contracts of croupierref02.Make and croupierref02.Of. -/
import Derived.Test.YtpmlmibceiolpaaGreatDoorR1k
import Derived.Test.YtpmlmibceiolpaaGreatDoorCanon
import Derived.Test.YtpmlmibceiolpaaGreatDoorTFit
set_option linter.unusedSimpArgs false
set_option linter.unusedVariables false
namespace Go.Proofs.YtpmlmibceiolpaaGreatDoor.D4
open Go.RowKit
open Go.Lib (decDigits itoa nDigits)

/-- The text of a number. -/
def rt (x : Rat) : ByteArray := ⟨(ratText x).toArray⟩
/-- The text of an integer. -/
def it (m : Int) : ByteArray := ⟨(itoa m).toArray⟩

theorem it_one (m : Int) : ((it m).toList == [49]) = decide (m = 1) := by
  have hl : (it m).toList = itoa m := ba_list (itoa m)
  have h1 : itoa 1 = [49] := by decide +kernel
  by_cases h : m = 1
  · subst h
    rw [hl, h1]; simp
  · rw [decide_eq_false h, beq_eq_false_iff_ne, hl]
    intro hc
    exact h (itoa_inj (by rw [hc, h1]))

/- The contracts of croupierref01, with hidden texts. -/
theorem neg_it {w : World} (m : Int) (sm : Sm m) : Calls Tryz.prog 93 #[.string (it m)] w (RetV w (.string (it (-m)))) := neg_any m sm
theorem sign_it {w : World} (m : Int) : Calls Tryz.prog 92 #[.string (it m)] w (RetV w (.int .i64 m.sign)) := sign_any m
theorem gcd_it {w : World} (m n : Int) (sm : nDigits m.natAbs ≤ 40000) (sn : nDigits n.natAbs ≤ 40000) (hg : Good w) : Calls Tryz.prog 91 #[.string (it m), .string (it n)] w (RetV w (.string (it (Nat.gcd m.natAbs n.natAbs : Nat)))) := gcd_any m n sm sn hg
theorem div_it {w : World} (m n : Int) (sm : nDigits m.natAbs ≤ 40000) (sn : nDigits n.natAbs ≤ 40000) (h0 : n ≠ 0) (hg : Good w) : Calls Tryz.prog 94 #[.string (it m), .string (it n)] w (RetV w (.tuple #[.string (it (m.fdiv n)), .string (it (m.fmod n))])) := div_any m n sm sn h0 hg
theorem of_it {w : World} (n : Int) (h0 : -9223372036854775808 ≤ n) (h1 : n ≤ 9223372036854775807) (hg : Good w) : Calls Tryz.prog 84 #[.int .i64 n] w (RetV w (.string (it n))) := of_any n h0 h1 hg
theorem rt_one {x : Rat} (h : x.den = 1) : rt x = it x.num := by
  unfold rt it ratText
  rw [if_pos h, List.append_nil]
theorem rt_join {x : Rat} (h : x.den ≠ 1) : (it x.num ++ (⟨#[47]⟩ : ByteArray)) ++ it x.den = rt x := by
  unfold rt it ratText
  rw [if_neg h]
  refine ByteArray.ext ?_
  simp [ByteArray.data_append, Lib.itoa_nonneg]

theorem it_size {m : Int} (h : nDigits m.natAbs ≤ 99999) : (it m).size ≤ 100000 := by
  have e : (it m).size = (itoa m).length := by simp [it, ByteArray.size]
  rw [e]
  have := itoa_len m
  omega
theorem red_digs {n d : Int} (hd : d ≠ 0) (h : nDigits d.natAbs ≤ 40000) : nDigits (red n d).natAbs ≤ 40000 := by
  have e : (red n d).natAbs = Nat.gcd n.natAbs d.natAbs := by unfold red sg; split <;> omega
  rw [e]
  exact Nat.le_trans (nDigits_mono (Nat.gcd_le_right _ (by omega))) h

set_option maxHeartbeats 2000000 in
set_option maxRecDepth 100000 in
theorem rmake_any {w : World} (n d : Int) (sn : nDigits n.natAbs ≤ 40000) (sd : nDigits d.natAbs ≤ 40000) (hd : d ≠ 0) (hg : Good w) : Calls Tryz.prog 51 #[.string (it n), .string (it d)] w (RetV w (.string (rt (Rat.divInt n d)))) := by
  have h1 := Lib.hid (gcd_it (w := w) n d sn sd hg)
  have h2 := Lib.hid (fun V => sign_it (w := V) d)
  have hgd : nDigits (Nat.gcd n.natAbs d.natAbs) ≤ 40000 := Nat.le_trans (nDigits_mono (Nat.gcd_le_right _ (by omega))) sd
  have h3 := Lib.hid (fun V => neg_it (w := V) ((Nat.gcd n.natAbs d.natAbs : Nat) : Int) (Nat.le_trans hgd (by omega)))
  have hr := red_ne (n := n) hd
  have hrd := red_digs (n := n) hd sd
  have h4 := Lib.hid (fun (V : World) (hV : Good V) => div_it (w := V) n (red n d) sn hrd hr hV)
  have h5 := Lib.hid (fun (V : World) (hV : Good V) => div_it (w := V) d (red n d) sd hrd hr hV)
  rw [make_num hd] at h4
  rw [make_den hd] at h5
  have h6 := it_one ((Rat.divInt n d).den : Int)
  have hgood := Lib.hid (fun (V : World) (hV : Below w.heap.size w V) => hg.below hV)
  have hx1 := Lib.hid (fun h => rt_one (x := Rat.divInt n d) h)
  have hx2 := Lib.hid (fun h => rt_join (x := Rat.divInt n d) h)
  have hred : (d < 0 ∧ red n d = -((Nat.gcd n.natAbs d.natAbs : Nat) : Int)) ∨ (¬ d < 0 ∧ red n d = ((Nat.gcd n.natAbs d.natAbs : Nat) : Int)) := by
    unfold red sg
    by_cases h : d < 0
    · exact Or.inl ⟨h, by simp [h]⟩
    · exact Or.inr ⟨h, by simp [h]⟩
  have hsg : d.sign < 0 ↔ d < 0 := by
    rcases Int.lt_trichotomy d 0 with h | h | h
    · simp [Int.sign_eq_neg_one_of_neg h, h]
    · exact absurd h hd
    · rw [Int.sign_eq_one_of_pos h]; omega
  have hl1 : (it (Rat.divInt n d).num).size ≤ 100000 := it_size (Nat.le_trans (nDigits_mono (divInt_num_le n d)) (Nat.le_trans sn (by omega)))
  have hl2 : (it ((Rat.divInt n d).den : Int)).size ≤ 100000 := it_size (Nat.le_trans (nDigits_mono (Nat.le_trans (Nat.le_of_eq (Int.natAbs_natCast _)) (divInt_den_le n hd))) (Nat.le_trans sd (by omega)))
  generalize Rat.divInt n d = x at *
  rcases hred with ⟨hs, hrr⟩ | ⟨hs, hrr⟩
  · rw [hrr] at h4 h5
    have hb : decide (d.sign < 0) = true := by simpa using hsg.2 hs
    generalize it (n.fmod (-((Nat.gcd n.natAbs d.natAbs : Nat) : Int))) = M1 at *
    generalize it (d.fmod (-((Nat.gcd n.natAbs d.natAbs : Nat) : Int))) = M2 at *
    generalize it (n.fmod ((Nat.gcd n.natAbs d.natAbs : Nat) : Int)) = M1 at *
    generalize it (d.fmod ((Nat.gcd n.natAbs d.natAbs : Nat) : Int)) = M2 at *
    generalize red n d = r at *
    generalize ((Nat.gcd n.natAbs d.natAbs : Nat) : Int) = g at *
    have hb1 : ((it (x.den : Int)).toList == [49]) = decide (x.den = 1) := by rw [h6]; congr 1; exact propext (by omega)
    generalize d.sign = sgd at *
    clear hs hrr hsg hr hrd hgd sn sd hg h6 hd
    generalize it n = N at *
    generalize it d = D at *
    generalize it (-g) = G2 at *
    generalize it g = G at *
    by_cases hden : x.den = 1
    · have hc : decide (x.den = 1) = true := by simpa using hden
      rw [hc] at hb1
      have hy := hx1.out hden
      generalize it x.num = XN at *
      generalize it (x.den : Int) = XD at *
      generalize rt x = XR at *
      clear hc hden hx1 hx2
      subst hy
      go_enter Tryz.func51, Tryz.ntmps51
      go_wp2_with fail
      refine (h1.out).mono ?_
      rintro e wn ⟨rfl, k1⟩
      have K1 := Lib.hid k1
      clear k1
      go_wp2_with fail
      refine (h2.out _).mono ?_
      rintro e wn ⟨rfl, k2⟩
      have K2 := Lib.hid (next_below K1.out k2)
      clear k2
      go_wp2_with fail
      refine (h3.out _).mono ?_
      rintro e wn ⟨rfl, k3⟩
      have K3 := Lib.hid (next_below K2.out k3)
      clear k3
      go_wp2_with fail
      refine (h4.out _ (hgood.out _ K3.out)).mono ?_
      rintro e wn ⟨rfl, k4⟩
      have K4 := Lib.hid (next_below K3.out k4)
      clear k4
      go_wp2_with fail
      refine (h5.out _ (hgood.out _ K4.out)).mono ?_
      rintro e wn ⟨rfl, k5⟩
      have K5 := Lib.hid (next_below K4.out k5)
      clear k5
      go_wp2
      go_ret
      exact ⟨rfl, K5.out⟩
    · have hc : decide (x.den = 1) = false := by simpa using hden
      rw [hc] at hb1
      have hy := hx2.out hden
      generalize it x.num = XN at *
      generalize it (x.den : Int) = XD at *
      generalize rt x = XR at *
      clear hc hden hx1 hx2
      go_enter Tryz.func51, Tryz.ntmps51
      go_wp2_with fail
      refine (h1.out).mono ?_
      rintro e wn ⟨rfl, k1⟩
      have K1 := Lib.hid k1
      clear k1
      go_wp2_with fail
      refine (h2.out _).mono ?_
      rintro e wn ⟨rfl, k2⟩
      have K2 := Lib.hid (next_below K1.out k2)
      clear k2
      go_wp2_with fail
      refine (h3.out _).mono ?_
      rintro e wn ⟨rfl, k3⟩
      have K3 := Lib.hid (next_below K2.out k3)
      clear k3
      go_wp2_with fail
      refine (h4.out _ (hgood.out _ K3.out)).mono ?_
      rintro e wn ⟨rfl, k4⟩
      have K4 := Lib.hid (next_below K3.out k4)
      clear k4
      go_wp2_with fail
      refine (h5.out _ (hgood.out _ K4.out)).mono ?_
      rintro e wn ⟨rfl, k5⟩
      have K5 := Lib.hid (next_below K4.out k5)
      clear k5
      go_wp2
      go_ret
      exact ⟨by rw [← hy]; rfl, K5.out⟩
  · rw [hrr] at h4 h5
    have hb : decide (d.sign < 0) = false := by simpa using (fun h => hs (hsg.1 h))
    generalize it (n.fmod (-((Nat.gcd n.natAbs d.natAbs : Nat) : Int))) = M1 at *
    generalize it (d.fmod (-((Nat.gcd n.natAbs d.natAbs : Nat) : Int))) = M2 at *
    generalize it (n.fmod ((Nat.gcd n.natAbs d.natAbs : Nat) : Int)) = M1 at *
    generalize it (d.fmod ((Nat.gcd n.natAbs d.natAbs : Nat) : Int)) = M2 at *
    generalize red n d = r at *
    generalize ((Nat.gcd n.natAbs d.natAbs : Nat) : Int) = g at *
    have hb1 : ((it (x.den : Int)).toList == [49]) = decide (x.den = 1) := by rw [h6]; congr 1; exact propext (by omega)
    generalize d.sign = sgd at *
    clear hs hrr hsg hr hrd hgd sn sd hg h6 hd
    generalize it n = N at *
    generalize it d = D at *
    generalize it (-g) = G2 at *
    generalize it g = G at *
    by_cases hden : x.den = 1
    · have hc : decide (x.den = 1) = true := by simpa using hden
      rw [hc] at hb1
      have hy := hx1.out hden
      generalize it x.num = XN at *
      generalize it (x.den : Int) = XD at *
      generalize rt x = XR at *
      clear hc hden hx1 hx2
      subst hy
      go_enter Tryz.func51, Tryz.ntmps51
      go_wp2_with fail
      refine (h1.out).mono ?_
      rintro e wn ⟨rfl, k1⟩
      have K1 := Lib.hid k1
      clear k1
      go_wp2_with fail
      refine (h2.out _).mono ?_
      rintro e wn ⟨rfl, k2⟩
      have K2 := Lib.hid (next_below K1.out k2)
      clear k2
      have K3 := K2
      go_wp2_with fail
      refine (h4.out _ (hgood.out _ K3.out)).mono ?_
      rintro e wn ⟨rfl, k4⟩
      have K4 := Lib.hid (next_below K3.out k4)
      clear k4
      go_wp2_with fail
      refine (h5.out _ (hgood.out _ K4.out)).mono ?_
      rintro e wn ⟨rfl, k5⟩
      have K5 := Lib.hid (next_below K4.out k5)
      clear k5
      go_wp2
      go_ret
      exact ⟨rfl, K5.out⟩
    · have hc : decide (x.den = 1) = false := by simpa using hden
      rw [hc] at hb1
      have hy := hx2.out hden
      generalize it x.num = XN at *
      generalize it (x.den : Int) = XD at *
      generalize rt x = XR at *
      clear hc hden hx1 hx2
      go_enter Tryz.func51, Tryz.ntmps51
      go_wp2_with fail
      refine (h1.out).mono ?_
      rintro e wn ⟨rfl, k1⟩
      have K1 := Lib.hid k1
      clear k1
      go_wp2_with fail
      refine (h2.out _).mono ?_
      rintro e wn ⟨rfl, k2⟩
      have K2 := Lib.hid (next_below K1.out k2)
      clear k2
      have K3 := K2
      go_wp2_with fail
      refine (h4.out _ (hgood.out _ K3.out)).mono ?_
      rintro e wn ⟨rfl, k4⟩
      have K4 := Lib.hid (next_below K3.out k4)
      clear k4
      go_wp2_with fail
      refine (h5.out _ (hgood.out _ K4.out)).mono ?_
      rintro e wn ⟨rfl, k5⟩
      have K5 := Lib.hid (next_below K4.out k5)
      clear k5
      go_wp2
      go_ret
      exact ⟨by rw [← hy]; rfl, K5.out⟩

end Go.Proofs.YtpmlmibceiolpaaGreatDoor.D4
