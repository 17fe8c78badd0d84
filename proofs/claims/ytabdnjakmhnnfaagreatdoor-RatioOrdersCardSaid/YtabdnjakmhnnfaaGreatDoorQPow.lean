/- The contract of ratio.Pow. -/
import Derived.Test.YtabdnjakmhnnfaaGreatDoorQPowM
set_option linter.unusedSimpArgs false
set_option linter.unusedVariables false
namespace Go.Proofs.YtabdnjakmhnnfaaGreatDoor
open Go.RowKit
open Go.Lib (decDigits itoa nDigits)
open D4 (rt it)

/-- What Pow knows of its number. -/
structure PowFacts (x : Rat) (m : Nat) : Prop where
  fit : fitsD 2000 x
  ne : x.num ≠ 0 ∨ m = 0 ∨ ∀ k, k ≤ m → fitsD 2000 (x ^ k)
theorem PowFacts.step {x : Rat} {m k : Nat} (h : PowFacts x m) (hk : k < m) (hf : ¬ fitsD 2000 (x ^ (k + 1))) : ¬ fitsD 2000 (x ^ m) := by
  rcases h.ne with h1 | h1 | h1
  · exact fun h2 => hf (fit_pow_mono h1 (by omega) h2)
  · omega
  · exact absurd (h1 (k + 1) (by omega)) hf
theorem Sz.mul2 {x y : Rat} (hx : fitsD 2000 x) (hy : fitsD 2000 y) : Sz 5000 (x * y) := ((sz_of_fits hx).mul (sz_of_fits hy)).mono (by omega)

theorem blk_four {w : World} {g z : Nat} {t : TypeId} {cs : Array Value} (h : Blk w g t cs) (hne : z ≠ g) (a b c d : Value) : Blk ((((w.setCell ⟨z, 0, none⟩ a).setCell ⟨z, 1, none⟩ b).setCell ⟨z, 2, none⟩ c).setCell ⟨z, 3, none⟩ d) g t cs := by
  unfold Blk at h ⊢
  simp [World.setCell, Array.getElem?_modify, hne, h]

theorem sz_one' : Sz 268435456 1 := ⟨Nat.le_trans (limbs_len_le (k := 1) (by decide)) (by omega), Nat.le_trans (limbs_len_le (k := 1) (by decide)) (by omega)⟩
theorem pow_sz {x : Rat} (hx : fitsD 2000 x) (m : Nat) (hm : m ≤ 10000) : Sz 268435456 (x ^ m) := by
  have h1 := limbs_digits hx.1
  have h2 := limbs_digits hx.2
  refine ⟨?_, ?_⟩
  · rw [Rat.num_pow]
    have := len_pow (x := x.num) h1 m
    have h3 : m * 2000 ≤ 10000 * 2000 := Nat.mul_le_mul_right _ hm
    omega
  · rw [Rat.den_pow]
    have := len_pow (x := (x.den : Int)) (j := 2000) (by simpa using h2) m
    have h3 : m * 2000 ≤ 10000 * 2000 := Nat.mul_le_mul_right _ hm
    have e : ((x.den : Int) ^ m).natAbs = x.den ^ m := by rw [Int.natAbs_pow, Int.natAbs_natCast]
    rw [e] at this
    omega
/-- What the walks of Pow are handed. -/
theorem pow_hands {x : Rat} (hx : fitsD 2000 x) (m : Nat) :
    (∀ (V : World), Calls Tryz.prog 78 #[.int .i64 1, .int .i64 1] V (RetN V 1)) ∧
    (∀ (i : Nat), i < m → fitsD 2000 (x ^ i) → ∀ (V : World) v v', Nm V v (x ^ i) → Nm V v' x → Calls Tryz.prog 68 #[v, v'] V (RetN V (x ^ (i + 1)))) ∧
    (∀ (i : Nat), fitsD 2000 (x ^ i) → Sz 5000 (x ^ (i + 1))) ∧
    (∀ (i : Nat), 0 < i → Sz 5000 (x ^ i) → ∀ (V : World) v, Nm V v (x ^ i) → Good V → Calls Tryz.prog 80 #[v, .int .i64 2000] V (RetV V (.bool (decide (fitsD 2000 (x ^ i)))))) := by
  have s2 : ∀ (i : Nat), fitsD 2000 (x ^ i) → Sz 5000 (x ^ (i + 1)) := fun i h => by rw [Rat.pow_succ]; exact Sz.mul2 h hx
  refine ⟨fun V => ?_, fun i hi hf V v v' h1 h2 => ?_, s2, fun i hi hs V v h hg => ?_⟩
  · have h := num_of (w := V) (m := 1) (n := 1) (by omega) (by omega) (by omega) (by omega) (by omega)
    rw [show Rat.divInt 1 1 = 1 by decide +kernel] at h
    exact h
  · have h := num_mul (w := V) h1 h2 ((sz_of_fits hf).mono (by omega)) ((sz_of_fits hx).mono (by omega))
    rw [← Rat.pow_succ] at h
    exact h
  · have h3 := fits_any (w := V) 2000 h.pr (Nat.le_trans hs.1 (by omega)) (Nat.le_trans (by have := hs.2; simpa using this) (by omega)) hg
    have e : ∀ b : Bool, b = decide (fitsD 2000 (x ^ i)) → Calls Tryz.prog 80 #[v, .int .i64 2000] V (RetV V (.bool b)) → Calls Tryz.prog 80 #[v, .int .i64 2000] V (RetV V (.bool (decide (fitsD 2000 (x ^ i))))) := fun b hb hc => by rw [← hb]; exact hc
    refine e _ ?_ h3
    rw [Bool.eq_iff_iff]
    simp [fitsD]
    omega

set_option maxHeartbeats 16000000 in
set_option maxRecDepth 100000 in
/-- An exponent of at least nought, of a number that is not -1, 0 or 1 (or the exponent is 0). -/
theorem pow_plain {w : World} (ls : List UInt8) (m : Nat) (hl : ls.length ≤ 268435000) (h0 : rerr ls = 0) (hm : m ≤ 10000) (hsm : m = 0 ∨ (rval ls).den ≠ 1 ∨ 1 < rval ls * rval ls) (hg : Good w) : Calls Tryz.prog 20 #[.string ⟨ls.toArray⟩, .int .i64 (m : Int)] w (RetV w (tellV (rval ls ^ m))) := by
  have hc := rread_any (w := w) ls hl hg
  have hf := rerr_fits h0
  rw [h0] at hc
  generalize rval ls = x at *
  generalize (⟨ls.toArray⟩ : ByteArray) = S at *
  have HC := Lib.hid hc
  have HG := Lib.hid (fun (V : World) (hV : Below w.heap.size w V) => hg.below hV)
  obtain ⟨q1, q2, q3, q4⟩ := pow_hands hf m
  have HOF := Lib.hid q1
  have HMUL := Lib.hid q2
  have HSZ := Lib.hid q3
  have HFIT := Lib.hid (fun i (hi : 0 < i) => q4 i hi)
  have HF0 : Hid (fitsD 2000 (x ^ 0)) := Lib.hid (by rw [Rat.pow_zero]; decide +kernel)
  have hne : m = 0 ∨ x.num ≠ 0 := by
    rcases hsm with h | h | h
    · exact .inl h
    · refine .inr (fun e => h ?_)
      have := Rat.num_eq_zero.1 e
      rw [this]; rfl
    · refine .inr (fun e => ?_)
      have := Rat.num_eq_zero.1 e
      rw [this, Rat.zero_mul] at h
      exact absurd h (by decide)
  have hpf : PowFacts x m := ⟨hf, hne.symm.imp_right .inl⟩
  obtain ⟨RT, ER, hT⟩ := tellV_form (x ^ m)
  have hrno : ∀ i, i < m → ¬ fitsD 2000 (x ^ (i + 1)) → RT = ⟨#[]⟩ ∧ ER = 6 := fun i hi hn => by
    have h := hpf.step hi hn
    unfold tellV at hT
    rw [if_neg h] at hT
    simp at hT
    exact ⟨hT.1.symm, hT.2.symm⟩
  have htell : ∀ (V : World) v, Nm V v (x ^ m) → Good V → Calls Tryz.prog 73 #[v] V (RetV V (tellV (x ^ m))) := fun V v q hV => by
    have hs : Sz 268435456 (x ^ m) := by
      rcases hne with h | h
      · subst h; rw [Rat.pow_zero]; exact sz_one'
      · exact pow_sz hf m hm
    exact tell_any q hs hV
  rw [hT] at htell ⊢
  have HTELL := Lib.hid htell
  have HRNO := Lib.hid hrno
  have HW := Lib.hid (fun (V : World) v (q : Nm V v x) => isint_any (w := V) q.pr)
  have HMX := Lib.hid (fun (V : World) v v' (h1 : Nm V v x) (h2 : Nm V v' x) => num_mul (w := V) h1 h2 ((sz_of_fits hf).mono (by omega)) ((sz_of_fits hf).mono (by omega)))
  have HCM := Lib.hid (fun (V : World) v v' (h1 : Nm V v (x * x)) (h2 : Nm V v' 1) => num_cmp (w := V) h1 h2 ((Sz.mul2 hf hf).mono (by omega)) sz_one')
  have hm1 : ¬ ((m : Int) < -10000) := by omega
  have hm2 : ¬ (10000 < (m : Int)) := by omega
  have hm3 : ¬ ((m : Int) < 0) := by omega
  have hden : ((x.den : Int).natAbs = 1) = (x.den = 1) := propext (by omega)
  have hrc : 1 < x * x → ¬ rcmp (x * x) 1 ≤ 0 := fun h h2 => absurd (rcmp_le.1 h2) (Rat.not_le.2 h)
  have HRC := Lib.hid hrc
  clear hc hf q1 q2 q3 q4 hpf hT hrno htell hg h0 hl hrc
  go_enter Tryz.func20, Tryz.ntmps20
  go_upto_region 2 with (go_at_call 65; refine HC.out.mono ?_; rintro e w1 ⟨b, a, k, p, c, f, l, q, rfl, hn, hb⟩)
  have g6' := Blk.new w1 107 #[.bool b, .slice a k p, .bool c, .slice f l q, .int .i64 0]
  have hn' := (hn (by first | rfl | trivial)).below ((Below.refl _ _).alloc (Nat.le_refl _) (.cells #[.bool b, .slice a k p, .bool c, .slice f l q, .int .i64 0] 107))
  have hb6 : Below w.heap.size w (w1.alloc (.cells #[.bool b, .slice a k p, .bool c, .slice f l q, .int .i64 0] 107)) := hb.alloc hb.size _
  have HN := Lib.hid hn'
  have G6 := Lib.hid g6'
  have K2 := Lib.hid hb6
  clear hn hn' hb hb6 g6'
  generalize w1.heap.size = z6 at *
  generalize (w1.alloc (.cells #[.bool b, .slice a k p, .bool c, .slice f l q, .int .i64 0] 107)) = w2 at *
  obtain ⟨x0, x1, x2, x3, x4⟩ := G6.out.at5
  rcases Nat.eq_zero_or_pos m with hz | hz
  · subst hz
    clear hsm hne
    go_upto_region 11 with (go_at_call 78; refine (HOF.out _).mono ?_; rintro e w3 ⟨r, rfl, hr, hb3⟩; obtain ⟨b7, a7, k7, p7, c7, f7, l7, q7, rfl, -, -⟩ := id hr.parts; (try clear x0 x1 x2 x3 x4))
    have g7' := Blk.new w3 105 #[.bool b7, .slice a7 k7 p7, .bool c7, .slice f7 l7 q7]
    have hal : Below w3.heap.size w3 (w3.alloc (.cells #[.bool b7, .slice a7 k7 p7, .bool c7, .slice f7 l7 q7] 105)) := (Below.refl _ _).alloc (Nat.le_refl _) _
    have hz7 : w.heap.size ≤ w3.heap.size := (next_below K2.out hb3).size
    have hr' := hr.below hal
    have gx' := (G6.out.next hb3).next hal
    have nx' := (HN.out.below hb3).below hal
    have kk' := next_below (next_below K2.out hb3) hal
    have hne : w3.heap.size ≠ z6 := by have := (G6.out.next hb3).lt; omega
    rw [← Rat.pow_zero x] at hr'
    have G7 := Lib.hid g7'
    have R7 := Lib.hid hr'
    have GX := Lib.hid gx'
    have NX := Lib.hid nx'
    have KX := Lib.hid kk'
    clear g7' hal hr' gx' nx' kk' hr hb3
    generalize w3.heap.size = z7 at *
    generalize (w3.alloc (.cells #[.bool b7, .slice a7 k7 p7, .bool c7, .slice f7 l7 q7] 105)) = w4 at *
    go_wp2
    go_loopg [69] 0 (fun gk u69 wr => ∃ (i : Nat) (b7 : Bool) (a7 : Option Addr) (k7 p7 : Nat) (c7 : Bool) (f7 : Option Addr) (l7 q7 : Nat), u69 = .int .i64 (i : Int) ∧ i + gk = 0 ∧ Hid (Blk wr z7 105 #[.bool b7, .slice a7 k7 p7, .bool c7, .slice f7 l7 q7]) ∧ Hid (Nm wr (.agg #[.bool b7, .slice a7 k7 p7, .bool c7, .slice f7 l7 q7]) (x ^ i)) ∧ Hid (Blk wr z6 107 #[.bool b, .slice a k p, .bool c, .slice f l q, .int .i64 0]) ∧ Hid (Nm wr (.agg #[.bool b, .slice a k p, .bool c, .slice f l q]) x) ∧ Hid (fitsD 2000 (x ^ i)) ∧ Hid (Below w.heap.size w wr))
    case atStart => exact ⟨0, _, _, _, _, _, _, _, _, rfl, by omega, G7, R7, GX, NX, HF0, KX⟩
    case round =>
      obtain ⟨i, b7, a7, k7, p7, c7, f7, l7, q7, rfl, hi, hG7, hR7, hGX, hNX, hF, hK⟩ := hrel
      obtain ⟨y0, y1, y2, y3⟩ := hG7.out.at4
      obtain rfl : i = 0 := by omega
      have hi2 : ¬ (((0 : Nat) : Int) < ((0 : Nat) : Int)) := by omega
      go_wp2_with fail
      refine (HTELL.out _ _ hR7.out (HG.out _ hK.out)).mono ?_
      rintro e V6 ⟨rfl, kk⟩
      have e5 := Lib.hid (next_below hK.out kk)
      clear kk
      go_wp2
      go_ret2
      exact ⟨rfl, e5.out⟩
  · have hz1 : ((m : Int) ≠ 0) := by omega
    have hz2 : ((m : Int) == 0) = false := by rw [beq_eq_false_iff_ne]; exact hz1
    by_cases hd : x.den = 1
    · have hsq : 1 < x * x := by
        rcases hsm with h | h | h
        · omega
        · exact absurd hd h
        · exact h
      have hcm := HRC.out hsq
      have hwb : decide ((x.den : Int).natAbs = 1) = true := decide_eq_true (by omega)
      rw [hwb] at HW
      generalize rcmp (x * x) 1 = cm at *
      clear hsm hne hd hsq HRC hden hwb hz
      go_upto_region 8 with (first
        | (go_at_call 76; refine (HW.out _ _ HN.out).mono ?_; rintro e Va ⟨rfl, ka⟩; have ja := G6.out.next ka; obtain ⟨y0, y1, y2, y3, y4⟩ := ja.at5; have na := HN.out.below ka; clear x0 x1 x2 x3 x4)
        | (go_at_call 68; refine (HMX.out _ _ _ na na).mono ?_; rintro e Vb ⟨r1, rfl, hr1, kb⟩)
        | (go_at_call 78; refine (HOF.out _).mono ?_; rintro e Vc ⟨r2, rfl, hr2, kc⟩)
        | (go_at_call 77; refine (HCM.out _ _ _ (hr1.below kc) hr2).mono ?_; rintro e Vd ⟨rfl, kd⟩))
      have K8 := Lib.hid (next_below (next_below (next_below (next_below K2.out ka) kb) kc) kd)
      have G8 := Lib.hid (((ja.next kb).next kc).next kd)
      have N8 := Lib.hid (((na.below kb).below kc).below kd)
      clear ka kb kc kd ja na hr1 hr2 y0 y1 y2 y3 y4
      go_upto_region 11 with (go_at_call 78; refine (HOF.out _).mono ?_; rintro e w3 ⟨r, rfl, hr, hb3⟩; obtain ⟨b7, a7, k7, p7, c7, f7, l7, q7, rfl, -, -⟩ := id hr.parts; (try clear x0 x1 x2 x3 x4))
      have g7' := Blk.new w3 105 #[.bool b7, .slice a7 k7 p7, .bool c7, .slice f7 l7 q7]
      have hal : Below w3.heap.size w3 (w3.alloc (.cells #[.bool b7, .slice a7 k7 p7, .bool c7, .slice f7 l7 q7] 105)) := (Below.refl _ _).alloc (Nat.le_refl _) _
      have hz7 : w.heap.size ≤ w3.heap.size := (next_below K8.out hb3).size
      have hr' := hr.below hal
      have gx' := (G8.out.next hb3).next hal
      have nx' := (N8.out.below hb3).below hal
      have kk' := next_below (next_below K8.out hb3) hal
      have hne : w3.heap.size ≠ z6 := by have := (G8.out.next hb3).lt; omega
      rw [← Rat.pow_zero x] at hr'
      have G7 := Lib.hid g7'
      have R7 := Lib.hid hr'
      have GX := Lib.hid gx'
      have NX := Lib.hid nx'
      have KX := Lib.hid kk'
      clear g7' hal hr' gx' nx' kk' hr hb3
      generalize w3.heap.size = z7 at *
      generalize (w3.alloc (.cells #[.bool b7, .slice a7 k7 p7, .bool c7, .slice f7 l7 q7] 105)) = w4 at *
      go_wp2
      go_loopg [69] m (fun gk u69 wr => ∃ (i : Nat) (b7 : Bool) (a7 : Option Addr) (k7 p7 : Nat) (c7 : Bool) (f7 : Option Addr) (l7 q7 : Nat), u69 = .int .i64 (i : Int) ∧ i + gk = m ∧ Hid (Blk wr z7 105 #[.bool b7, .slice a7 k7 p7, .bool c7, .slice f7 l7 q7]) ∧ Hid (Nm wr (.agg #[.bool b7, .slice a7 k7 p7, .bool c7, .slice f7 l7 q7]) (x ^ i)) ∧ Hid (Blk wr z6 107 #[.bool b, .slice a k p, .bool c, .slice f l q, .int .i64 0]) ∧ Hid (Nm wr (.agg #[.bool b, .slice a k p, .bool c, .slice f l q]) x) ∧ Hid (fitsD 2000 (x ^ i)) ∧ Hid (Below w.heap.size w wr))
      case atStart => exact ⟨0, _, _, _, _, _, _, _, _, rfl, by omega, G7, R7, GX, NX, HF0, KX⟩
      case round =>
        obtain ⟨i, b7, a7, k7, p7, c7, f7, l7, q7, rfl, hi, hG7, hR7, hGX, hNX, hF, hK⟩ := hrel
        obtain ⟨y0, y1, y2, y3⟩ := hG7.out.at4
        by_cases hiz : i < m
        · have hi2 : (i : Int) < (m : Int) := by omega
          obtain ⟨x0, x1, x2, x3, x4⟩ := hGX.out.at5
          go_upto_region 14 with (go_at_call 68; refine (HMUL.out i hiz hF.out _ _ _ hR7.out hNX.out).mono ?_; rintro e V ⟨r, rfl, hr, hV⟩; obtain ⟨b8, a8, k8, p8, c8, f8, l8, q8, rfl, -, -⟩ := id hr.parts; have hg7 := hG7.out.next hV; have hgx := hGX.out.next hV; have hnx := hNX.out.below hV; have hk := next_below hK.out hV; have fr := hg7.fr4; obtain ⟨u0, u1, u2, u3⟩ := fr; clear y0 y1 y2 y3 x0 x1 x2 x3 x4; obtain ⟨y0, y1, y2, y3⟩ := hg7.at4)
          have pg7 := hg7.four (.bool b8) (.slice a8 k8 p8) (.bool c8) (.slice f8 l8 q8)
          have pr8 := hr.four hg7 (by decide) (.bool b8) (.slice a8 k8 p8) (.bool c8) (.slice f8 l8 q8)
          have pnx := hnx.four hg7 (by decide) (.bool b8) (.slice a8 k8 p8) (.bool c8) (.slice f8 l8 q8)
          have pgx := blk_four hgx hne (.bool b8) (.slice a8 k8 p8) (.bool c8) (.slice f8 l8 q8)
          have pk := below_four hk hz7 (.bool b8) (.slice a8 k8 p8) (.bool c8) (.slice f8 l8 q8)
          have PG7 := Lib.hid pg7
          have PR8 := Lib.hid pr8
          have PNX := Lib.hid pnx
          have PGX := Lib.hid pgx
          have PK := Lib.hid pk
          clear pg7 pr8 pnx pgx pk hg7 hgx hnx hk hr hV u0 u1 u2 u3 y0 y1 y2 y3 hG7 hR7 hGX hNX hK
          generalize ((((V.setCell ⟨z7, 0, none⟩ (.bool b8)).setCell ⟨z7, 1, none⟩ (.slice a8 k8 p8)).setCell ⟨z7, 2, none⟩ (.bool c8)).setCell ⟨z7, 3, none⟩ (.slice f8 l8 q8)) = V5 at *
          obtain ⟨y0, y1, y2, y3⟩ := PG7.out.at4
          by_cases hfk : fitsD 2000 (x ^ (i + 1))
          · have hfb : decide (fitsD 2000 (x ^ (i + 1))) = true := by simpa using hfk
            have HFK := Lib.hid hfk
            have hft := HFIT.out (i + 1) (by omega) (HSZ.out i hF.out) V5 _ PR8.out
            rw [hfb] at hft
            have HFT := Lib.hid hft
            clear hfk hfb hft
            go_wp2_with fail
            refine (HFT.out (HG.out _ PK.out)).mono ?_
            rintro e V6 ⟨rfl, kk⟩
            have e1 := Lib.hid (PG7.out.next kk)
            have e2 := Lib.hid (PR8.out.below kk)
            have e3 := Lib.hid (PGX.out.next kk)
            have e4 := Lib.hid (PNX.out.below kk)
            have e5 := Lib.hid (next_below PK.out kk)
            clear kk y0 y1 y2 y3
            go_wp2
            go_roundg (gk - 1)
            case rel => exact ⟨i + 1, _, _, _, _, _, _, _, _, by go_num, by omega, e1, e2, e3, e4, HFK, e5⟩
            case measure => omega
          · have hfb : decide (fitsD 2000 (x ^ (i + 1))) = false := by simpa using hfk
            have HNO := Lib.hid (HRNO.out i hiz hfk)
            have hft := HFIT.out (i + 1) (by omega) (HSZ.out i hF.out) V5 _ PR8.out
            rw [hfb] at hft
            have HFT := Lib.hid hft
            clear hfk hfb hft
            go_wp2_with fail
            refine (HFT.out (HG.out _ PK.out)).mono ?_
            rintro e V6 ⟨rfl, kk⟩
            have e5 := Lib.hid (next_below PK.out kk)
            clear kk y0 y1 y2 y3
            go_wp2
            go_ret2
            exact ⟨by rw [HNO.out.1, HNO.out.2]; rfl, e5.out⟩
        · obtain rfl : i = m := by omega
          have hi2 : ¬ (i : Int) < (i : Int) := by omega
          go_wp2_with fail
          refine (HTELL.out _ _ hR7.out (HG.out _ hK.out)).mono ?_
          rintro e V6 ⟨rfl, kk⟩
          have e5 := Lib.hid (next_below hK.out kk)
          clear kk
          go_wp2
          go_ret2
          exact ⟨rfl, e5.out⟩
    · have hwb : decide ((x.den : Int).natAbs = 1) = false := decide_eq_false (by omega)
      rw [hwb] at HW
      clear hsm hne hd HRC hden hwb hz
      go_upto_region 8 with (go_at_call 76; refine (HW.out _ _ HN.out).mono ?_; rintro e Va ⟨rfl, ka⟩; have ja := G6.out.next ka; obtain ⟨y0, y1, y2, y3, y4⟩ := ja.at5; have na := HN.out.below ka; clear x0 x1 x2 x3 x4)
      have K8 := Lib.hid (next_below K2.out ka)
      have G8 := Lib.hid ja
      have N8 := Lib.hid na
      clear ka ja na y0 y1 y2 y3 y4
      go_upto_region 11 with (go_at_call 78; refine (HOF.out _).mono ?_; rintro e w3 ⟨r, rfl, hr, hb3⟩; obtain ⟨b7, a7, k7, p7, c7, f7, l7, q7, rfl, -, -⟩ := id hr.parts; (try clear x0 x1 x2 x3 x4))
      have g7' := Blk.new w3 105 #[.bool b7, .slice a7 k7 p7, .bool c7, .slice f7 l7 q7]
      have hal : Below w3.heap.size w3 (w3.alloc (.cells #[.bool b7, .slice a7 k7 p7, .bool c7, .slice f7 l7 q7] 105)) := (Below.refl _ _).alloc (Nat.le_refl _) _
      have hz7 : w.heap.size ≤ w3.heap.size := (next_below K8.out hb3).size
      have hr' := hr.below hal
      have gx' := (G8.out.next hb3).next hal
      have nx' := (N8.out.below hb3).below hal
      have kk' := next_below (next_below K8.out hb3) hal
      have hne : w3.heap.size ≠ z6 := by have := (G8.out.next hb3).lt; omega
      rw [← Rat.pow_zero x] at hr'
      have G7 := Lib.hid g7'
      have R7 := Lib.hid hr'
      have GX := Lib.hid gx'
      have NX := Lib.hid nx'
      have KX := Lib.hid kk'
      clear g7' hal hr' gx' nx' kk' hr hb3
      generalize w3.heap.size = z7 at *
      generalize (w3.alloc (.cells #[.bool b7, .slice a7 k7 p7, .bool c7, .slice f7 l7 q7] 105)) = w4 at *
      go_wp2
      go_loopg [69] m (fun gk u69 wr => ∃ (i : Nat) (b7 : Bool) (a7 : Option Addr) (k7 p7 : Nat) (c7 : Bool) (f7 : Option Addr) (l7 q7 : Nat), u69 = .int .i64 (i : Int) ∧ i + gk = m ∧ Hid (Blk wr z7 105 #[.bool b7, .slice a7 k7 p7, .bool c7, .slice f7 l7 q7]) ∧ Hid (Nm wr (.agg #[.bool b7, .slice a7 k7 p7, .bool c7, .slice f7 l7 q7]) (x ^ i)) ∧ Hid (Blk wr z6 107 #[.bool b, .slice a k p, .bool c, .slice f l q, .int .i64 0]) ∧ Hid (Nm wr (.agg #[.bool b, .slice a k p, .bool c, .slice f l q]) x) ∧ Hid (fitsD 2000 (x ^ i)) ∧ Hid (Below w.heap.size w wr))
      case atStart => exact ⟨0, _, _, _, _, _, _, _, _, rfl, by omega, G7, R7, GX, NX, HF0, KX⟩
      case round =>
        obtain ⟨i, b7, a7, k7, p7, c7, f7, l7, q7, rfl, hi, hG7, hR7, hGX, hNX, hF, hK⟩ := hrel
        obtain ⟨y0, y1, y2, y3⟩ := hG7.out.at4
        by_cases hiz : i < m
        · have hi2 : (i : Int) < (m : Int) := by omega
          obtain ⟨x0, x1, x2, x3, x4⟩ := hGX.out.at5
          go_upto_region 14 with (go_at_call 68; refine (HMUL.out i hiz hF.out _ _ _ hR7.out hNX.out).mono ?_; rintro e V ⟨r, rfl, hr, hV⟩; obtain ⟨b8, a8, k8, p8, c8, f8, l8, q8, rfl, -, -⟩ := id hr.parts; have hg7 := hG7.out.next hV; have hgx := hGX.out.next hV; have hnx := hNX.out.below hV; have hk := next_below hK.out hV; have fr := hg7.fr4; obtain ⟨u0, u1, u2, u3⟩ := fr; clear y0 y1 y2 y3 x0 x1 x2 x3 x4; obtain ⟨y0, y1, y2, y3⟩ := hg7.at4)
          have pg7 := hg7.four (.bool b8) (.slice a8 k8 p8) (.bool c8) (.slice f8 l8 q8)
          have pr8 := hr.four hg7 (by decide) (.bool b8) (.slice a8 k8 p8) (.bool c8) (.slice f8 l8 q8)
          have pnx := hnx.four hg7 (by decide) (.bool b8) (.slice a8 k8 p8) (.bool c8) (.slice f8 l8 q8)
          have pgx := blk_four hgx hne (.bool b8) (.slice a8 k8 p8) (.bool c8) (.slice f8 l8 q8)
          have pk := below_four hk hz7 (.bool b8) (.slice a8 k8 p8) (.bool c8) (.slice f8 l8 q8)
          have PG7 := Lib.hid pg7
          have PR8 := Lib.hid pr8
          have PNX := Lib.hid pnx
          have PGX := Lib.hid pgx
          have PK := Lib.hid pk
          clear pg7 pr8 pnx pgx pk hg7 hgx hnx hk hr hV u0 u1 u2 u3 y0 y1 y2 y3 hG7 hR7 hGX hNX hK
          generalize ((((V.setCell ⟨z7, 0, none⟩ (.bool b8)).setCell ⟨z7, 1, none⟩ (.slice a8 k8 p8)).setCell ⟨z7, 2, none⟩ (.bool c8)).setCell ⟨z7, 3, none⟩ (.slice f8 l8 q8)) = V5 at *
          obtain ⟨y0, y1, y2, y3⟩ := PG7.out.at4
          by_cases hfk : fitsD 2000 (x ^ (i + 1))
          · have hfb : decide (fitsD 2000 (x ^ (i + 1))) = true := by simpa using hfk
            have HFK := Lib.hid hfk
            have hft := HFIT.out (i + 1) (by omega) (HSZ.out i hF.out) V5 _ PR8.out
            rw [hfb] at hft
            have HFT := Lib.hid hft
            clear hfk hfb hft
            go_wp2_with fail
            refine (HFT.out (HG.out _ PK.out)).mono ?_
            rintro e V6 ⟨rfl, kk⟩
            have e1 := Lib.hid (PG7.out.next kk)
            have e2 := Lib.hid (PR8.out.below kk)
            have e3 := Lib.hid (PGX.out.next kk)
            have e4 := Lib.hid (PNX.out.below kk)
            have e5 := Lib.hid (next_below PK.out kk)
            clear kk y0 y1 y2 y3
            go_wp2
            go_roundg (gk - 1)
            case rel => exact ⟨i + 1, _, _, _, _, _, _, _, _, by go_num, by omega, e1, e2, e3, e4, HFK, e5⟩
            case measure => omega
          · have hfb : decide (fitsD 2000 (x ^ (i + 1))) = false := by simpa using hfk
            have HNO := Lib.hid (HRNO.out i hiz hfk)
            have hft := HFIT.out (i + 1) (by omega) (HSZ.out i hF.out) V5 _ PR8.out
            rw [hfb] at hft
            have HFT := Lib.hid hft
            clear hfk hfb hft
            go_wp2_with fail
            refine (HFT.out (HG.out _ PK.out)).mono ?_
            rintro e V6 ⟨rfl, kk⟩
            have e5 := Lib.hid (next_below PK.out kk)
            clear kk y0 y1 y2 y3
            go_wp2
            go_ret2
            exact ⟨by rw [HNO.out.1, HNO.out.2]; rfl, e5.out⟩
        · obtain rfl : i = m := by omega
          have hi2 : ¬ (i : Int) < (i : Int) := by omega
          go_wp2_with fail
          refine (HTELL.out _ _ hR7.out (HG.out _ hK.out)).mono ?_
          rintro e V6 ⟨rfl, kk⟩
          have e5 := Lib.hid (next_below hK.out kk)
          clear kk
          go_wp2
          go_ret2
          exact ⟨rfl, e5.out⟩

set_option maxHeartbeats 4000000 in
set_option maxRecDepth 100000 in
/-- Exponents that are no exponents. -/
theorem pow_arg {w : World} (ls : List UInt8) (n : Int) (hl : ls.length ≤ 268435000) (h0 : rerr ls = 0) (hn : n < -10000 ∨ 10000 < n ∨ (n < 0 ∧ (rval ls).num = 0)) (hg : Good w) : Calls Tryz.prog 20 #[.string ⟨ls.toArray⟩, .int .i64 n] w (RetV w (.tuple #[.string ⟨#[]⟩, .int .i64 2])) := by
  have hc := rread_any (w := w) ls hl hg
  have hf := rerr_fits h0
  rw [h0] at hc
  generalize rval ls = x at *
  generalize (⟨ls.toArray⟩ : ByteArray) = S at *
  have HC := Lib.hid hc
  have HG := Lib.hid (fun (V : World) (hV : Below w.heap.size w V) => hg.below hV)
  have HSG := Lib.hid (fun (V : World) v (q : Nm V v x) => num_sign (w := V) q)
  clear hc hf hg h0 hl
  go_enter Tryz.func20, Tryz.ntmps20
  go_upto_region 2 with (go_at_call 65; refine HC.out.mono ?_; rintro e w1 ⟨b, a, k, p, c, f, l, q, rfl, hn, hb⟩)
  have g6' := Blk.new w1 107 #[.bool b, .slice a k p, .bool c, .slice f l q, .int .i64 0]
  have hn' := (hn (by first | rfl | trivial)).below ((Below.refl _ _).alloc (Nat.le_refl _) (.cells #[.bool b, .slice a k p, .bool c, .slice f l q, .int .i64 0] 107))
  have hb6 : Below w.heap.size w (w1.alloc (.cells #[.bool b, .slice a k p, .bool c, .slice f l q, .int .i64 0] 107)) := hb.alloc hb.size _
  have HN := Lib.hid hn'
  have G6 := Lib.hid g6'
  have K2 := Lib.hid hb6
  clear hn hn' hb hb6 g6'
  generalize w1.heap.size = z6 at *
  generalize (w1.alloc (.cells #[.bool b, .slice a k p, .bool c, .slice f l q, .int .i64 0] 107)) = w2 at *
  obtain ⟨x0, x1, x2, x3, x4⟩ := G6.out.at5
  by_cases h1 : n < -10000
  · go_wp2
    go_ret2
    exact ⟨rfl, K2.out⟩
  · by_cases h2 : 10000 < n
    · go_wp2
      go_ret2
      exact ⟨rfl, K2.out⟩
    · obtain ⟨h3, h4⟩ : n < 0 ∧ x.num = 0 := by omega
      have hs0 : x.num.sign = 0 := by rw [h4]; rfl
      rw [hs0] at HSG
      clear hn h4 hs0
      go_wp2_with fail
      refine (HSG.out _ _ HN.out).mono ?_
      rintro e V ⟨rfl, kk⟩
      have e5 := Lib.hid (next_below K2.out kk)
      clear kk
      go_wp2
      go_ret2
      exact ⟨rfl, e5.out⟩

set_option maxHeartbeats 4000000 in
set_option maxRecDepth 100000 in
/-- The texts that are refused. -/
theorem pow_form {w : World} (ls : List UInt8) (n : Int) (hl : ls.length ≤ 268435000) (h0 : rerr ls ≠ 0) (hg : Good w) : Calls Tryz.prog 20 #[.string ⟨ls.toArray⟩, .int .i64 n] w (RetV w (.tuple #[.string ⟨#[]⟩, .int .i64 (rerr ls)])) := by
  have hc := rread_any (w := w) ls hl hg
  generalize rval ls = x at *
  have hb0 : (rerr ls == 0) = false := by rw [beq_eq_false_iff_ne]; exact h0
  generalize rerr ls = er at *
  generalize (⟨ls.toArray⟩ : ByteArray) = S at *
  have HC := Lib.hid hc
  clear hc hl hg
  go_enter Tryz.func20, Tryz.ntmps20
  go_upto_region 2 with (go_at_call 65; refine HC.out.mono ?_; rintro e w1 ⟨b, a, k, p, c, f, l, q, rfl, hn, hb⟩)
  have g6' := Blk.new w1 107 #[.bool b, .slice a k p, .bool c, .slice f l q, .int .i64 er]
  have hb6 : Below w.heap.size w (w1.alloc (.cells #[.bool b, .slice a k p, .bool c, .slice f l q, .int .i64 er] 107)) := hb.alloc hb.size _
  have G6 := Lib.hid g6'
  have K2 := Lib.hid hb6
  clear hn hb hb6 g6'
  generalize w1.heap.size = z6 at *
  generalize (w1.alloc (.cells #[.bool b, .slice a k p, .bool c, .slice f l q, .int .i64 er] 107)) = w2 at *
  obtain ⟨x0, x1, x2, x3, x4⟩ := G6.out.at5
  go_upto_region 3 with fail
  have hB0 : Below w2.heap.size w2 w2.drew := (Below.refl _ _).drew
  refine wp_region_list 3 (by kernel_rfl) (by kernel_rfl) [] [fun v _ => v = .pointer (some ⟨z6, 4, none⟩), fun v _ => v = .int .i64 er, fun v _ => v = .string ⟨#[]⟩] (by simp only [List.take_succ_cons, List.take_zero]; rfl) (by simp only [List.drop_succ_cons, List.drop_zero]; rfl) (fun vals => by simp only [fam, Act.put, List.setIfInBounds_toArray, List.set_cons_zero, List.set_cons_succ, if_true]; rfl) (by repeat' (first | exact Stab.eq _ _ | exact Stab.wh _ _ | exact Stab.nm _ _ | exact Stab.new _ _ | exact Stab.newn _ _ | exact Stab.tw _ _ _ | exact Stab.lm _ _ _ | exact Stab.onet _ _ _ | exact trivial | apply And.intro)) trivial ?_ ?_
  · refine ⟨?_, ?_, ?_, trivial⟩
    all_goals
      intro vals w3 hB hp
      dsimp only
      (try simp [preOk, Region.binds, q_anygc, q_anytext] at hp)
      have hbb := next_below hB0 hB
      obtain ⟨y0, y1, y2, y3, y4⟩ := (G6.out.next hbb).at5
      clear hB x0 x1 x2 x3 x4
    case refine_2 =>
      have a0 := hp
      generalize vals 0 = v0 at *
      subst a0
      go_wp2
      (first | exact ⟨rfl, _, rfl, rfl, Below.refl _ _, trivial⟩ | (refine ⟨rfl, _, ?_, rfl, Below.refl _ _, trivial⟩; simp only [Act.put, List.setIfInBounds_toArray, List.set_cons_zero, List.set_cons_succ, hp]))
    all_goals
      go_wp2
      (first | exact ⟨rfl, _, rfl, rfl, Below.refl _ _, trivial⟩ | (refine ⟨rfl, _, ?_, rfl, Below.refl _ _, trivial⟩; simp only [Act.put, List.setIfInBounds_toArray, List.set_cons_zero, List.set_cons_succ, hp]))
  · rintro vals w3 hB ⟨p0, p1, p2, _⟩ hne
    have hbb := Lib.hid (next_below K2.out (next_below hB0 hB))
    simp at p1 p2
    generalize vals 1 = v1 at *
    subst p1
    generalize vals 2 = v2 at *
    subst p2
    clear hne p0 hB hB0 x0 x1 x2 x3 x4
    go_wp2
    go_ret2
    exact ⟨rfl, hbb.out⟩

theorem small_fits {x : Rat} (h : x = -1 ∨ x = 0 ∨ x = 1) (k : Nat) : fitsD 2000 (x ^ k) := by
  rcases h with rfl | rfl | rfl
  · rw [neg_rpow]; split <;> decide +kernel
  · cases k with
    | zero => rw [Rat.pow_zero]; decide +kernel
    | succ k => rw [zero_rpow]; decide +kernel
  · rw [one_rpow]; decide +kernel
theorem and_one_all (n : Int) : bits BinOp.and IntKind.i64 n 1 = n % 2 := by
  have h2 : (BitVec.ofInt 64 (1 : Int)).toNat = 1 := by decide
  show IntKind.i64.wrap ((BitVec.ofInt 64 n &&& BitVec.ofInt 64 1).toNat : Int) = _
  rw [BitVec.toNat_and, h2, Nat.and_one_is_mod, BitVec.toNat_ofInt, IntKind.wrap_i64]
  have e : (((2 ^ 64 : Nat)) : Int) = 18446744073709551616 := by decide
  rw [e]
  have h3 := Int.emod_nonneg n (show (18446744073709551616 : Int) ≠ 0 by decide)
  generalize hq : n % 18446744073709551616 = q at *
  have h4 : ((q.toNat % 2 : Nat) : Int) = n % 2 := by omega
  rw [h4]
  omega

set_option maxHeartbeats 16000000 in
set_option maxRecDepth 100000 in
/-- -1, 0 and 1: only the parity counts. -/
theorem pow_small {w : World} (ls : List UInt8) (n : Int) (hl : ls.length ≤ 268435000) (h0 : rerr ls = 0) (hn0 : n ≠ 0) (n1 : -10000 ≤ n) (n2 : n ≤ 10000) (hx1 : (rval ls).den = 1) (hx2 : rval ls * rval ls ≤ 1) (hx3 : ¬ (n < 0 ∧ (rval ls).num = 0)) (hg : Good w) : Calls Tryz.prog 20 #[.string ⟨ls.toArray⟩, .int .i64 n] w (RetV w (tellV (zpow (rval ls) n))) := by
  have hc := rread_any (w := w) ls hl hg
  have hf := rerr_fits h0
  rw [h0] at hc
  generalize rval ls = x at *
  generalize (⟨ls.toArray⟩ : ByteArray) = S at *
  have HC := Lib.hid hc
  have HG := Lib.hid (fun (V : World) (hV : Below w.heap.size w V) => hg.below hV)
  obtain ⟨m, hm⟩ : ∃ m : Nat, (m : Int) = 2 - n % 2 := ⟨(2 - n % 2).toNat, by omega⟩
  have hsm := small_rat hx1 hx2
  have hz := zpow_small hsm hn0 (fun h => hx3 ⟨h.1, by rw [h.2]; rfl⟩) hm
  rw [hz]
  have hall := small_fits hsm
  obtain ⟨q1, q2, q3, q4⟩ := pow_hands hf m
  have HOF := Lib.hid q1
  have HMUL := Lib.hid q2
  have HSZ := Lib.hid q3
  have HFIT := Lib.hid (fun i (hi : 0 < i) => q4 i hi)
  have HF0 : Hid (fitsD 2000 (x ^ 0)) := Lib.hid (hall 0)
  obtain ⟨RT, ER, hT⟩ := tellV_form (x ^ m)
  have hrno : ∀ i, i < m → ¬ fitsD 2000 (x ^ (i + 1)) → RT = ⟨#[]⟩ ∧ ER = 6 := fun i hi hn => absurd (hall _) hn
  have htell : ∀ (V : World) v, Nm V v (x ^ m) → Good V → Calls Tryz.prog 73 #[v] V (RetV V (tellV (x ^ m))) := fun V v q hV => tell_any q ((sz_of_fits (hall m)).mono (by omega)) hV
  rw [hT] at htell ⊢
  have HTELL := Lib.hid htell
  have HRNO := Lib.hid hrno
  have HW := Lib.hid (fun (V : World) v (q : Nm V v x) => isint_any (w := V) q.pr)
  have HSG := Lib.hid (fun (V : World) v (q : Nm V v x) => num_sign (w := V) q)
  have HMX := Lib.hid (fun (V : World) v v' (h1 : Nm V v x) (h2 : Nm V v' x) => num_mul (w := V) h1 h2 ((sz_of_fits hf).mono (by omega)) ((sz_of_fits hf).mono (by omega)))
  have HCM := Lib.hid (fun (V : World) v v' (h1 : Nm V v (x * x)) (h2 : Nm V v' 1) => num_cmp (w := V) h1 h2 ((Sz.mul2 hf hf).mono (by omega)) sz_one')
  have hwb : decide ((x.den : Int).natAbs = 1) = true := decide_eq_true (by omega)
  rw [hwb] at HW
  have hcm : rcmp (x * x) 1 ≤ 0 := rcmp_le.2 hx2
  generalize rcmp (x * x) 1 = cm at *
  have hm1 : ¬ (n < -10000) := by omega
  have hm2 : ¬ (10000 < n) := by omega
  have hm3 : ¬ ((m : Int) < 0) := by omega
  have hz2 : (n == 0) = false := by rw [beq_eq_false_iff_ne]; exact hn0
  obtain ⟨r0, hr0⟩ : ∃ r0, r0 = n % 2 := ⟨_, rfl⟩
  have hband : bits BinOp.and IntKind.i64 n 1 = r0 := by rw [and_one_all, hr0]
  have hr2 : (2 : Int) - r0 = (m : Int) := by omega
  have hr3 : 0 ≤ r0 ∧ r0 ≤ 1 := by omega
  obtain ⟨hr4, hr5⟩ := hr3
  clear hc q1 q2 q3 q4 hT hrno htell hg h0 hl hall hz hm hr0 hx1 hx2
  go_enter Tryz.func20, Tryz.ntmps20
  go_upto_region 2 with (go_at_call 65; refine HC.out.mono ?_; rintro e w1 ⟨b, a, k, p, c, f, l, q, rfl, hn, hb⟩)
  have g6' := Blk.new w1 107 #[.bool b, .slice a k p, .bool c, .slice f l q, .int .i64 0]
  have hn' := (hn (by first | rfl | trivial)).below ((Below.refl _ _).alloc (Nat.le_refl _) (.cells #[.bool b, .slice a k p, .bool c, .slice f l q, .int .i64 0] 107))
  have hb6 : Below w.heap.size w (w1.alloc (.cells #[.bool b, .slice a k p, .bool c, .slice f l q, .int .i64 0] 107)) := hb.alloc hb.size _
  have HN := Lib.hid hn'
  have G6 := Lib.hid g6'
  have K2 := Lib.hid hb6
  clear hn hn' hb hb6 g6'
  generalize w1.heap.size = z6 at *
  generalize (w1.alloc (.cells #[.bool b, .slice a k p, .bool c, .slice f l q, .int .i64 0] 107)) = w2 at *
  obtain ⟨x0, x1, x2, x3, x4⟩ := G6.out.at5
  by_cases hneg : n < 0
  · have hs1 : (x.num.sign == 0) = false := by
      rw [beq_eq_false_iff_ne]
      intro e
      exact hx3 ⟨hneg, Int.sign_eq_zero_iff_zero.1 e⟩
    generalize x.num.sign = sg0 at *
    clear hx3 hsm hf hwb
    go_upto_region 6 with (go_at_call 72; refine (HSG.out _ _ HN.out).mono ?_; rintro e Vs ⟨rfl, ks⟩; (try clear x0 x1 x2 x3 x4))
    have K4 := Lib.hid (next_below K2.out ks)
    have G4 := Lib.hid (G6.out.next ks)
    have N4 := Lib.hid (HN.out.below ks)
    clear ks
    obtain ⟨x0, x1, x2, x3, x4⟩ := G4.out.at5
    go_upto_region 7 with (first
      | (go_at_call 76; refine (HW.out _ _ N4.out).mono ?_; rintro e Va ⟨rfl, ka⟩; have ja := G4.out.next ka; obtain ⟨y0, y1, y2, y3, y4⟩ := ja.at5; have na := N4.out.below ka; clear x0 x1 x2 x3 x4)
      | (go_at_call 68; refine (HMX.out _ _ _ na na).mono ?_; rintro e Vb ⟨r1, rfl, hr1, kb⟩)
      | (go_at_call 78; refine (HOF.out _).mono ?_; rintro e Vc ⟨r2, rfl, hr2, kc⟩)
      | (go_at_call 77; refine (HCM.out _ _ _ (hr1.below kc) hr2).mono ?_; rintro e Vd ⟨rfl, kd⟩))
    have K8 := Lib.hid (next_below (next_below (next_below (next_below K4.out ka) kb) kc) kd)
    have G8 := Lib.hid (((ja.next kb).next kc).next kd)
    have N8 := Lib.hid (((na.below kb).below kc).below kd)
    clear ka kb kc kd ja na hr1 hr2 y0 y1 y2 y3 y4
    go_upto_region 11 with (go_at_call 78; refine (HOF.out _).mono ?_; rintro e w3 ⟨r, rfl, hr, hb3⟩; obtain ⟨b7, a7, k7, p7, c7, f7, l7, q7, rfl, -, -⟩ := id hr.parts; (try clear x0 x1 x2 x3 x4))
    have g7' := Blk.new w3 105 #[.bool b7, .slice a7 k7 p7, .bool c7, .slice f7 l7 q7]
    have hal : Below w3.heap.size w3 (w3.alloc (.cells #[.bool b7, .slice a7 k7 p7, .bool c7, .slice f7 l7 q7] 105)) := (Below.refl _ _).alloc (Nat.le_refl _) _
    have hz7 : w.heap.size ≤ w3.heap.size := (next_below K8.out hb3).size
    have hr' := hr.below hal
    have gx' := (G8.out.next hb3).next hal
    have nx' := (N8.out.below hb3).below hal
    have kk' := next_below (next_below K8.out hb3) hal
    have hne : w3.heap.size ≠ z6 := by have := (G8.out.next hb3).lt; omega
    rw [← Rat.pow_zero x] at hr'
    have G7 := Lib.hid g7'
    have R7 := Lib.hid hr'
    have GX := Lib.hid gx'
    have NX := Lib.hid nx'
    have KX := Lib.hid kk'
    clear g7' hal hr' gx' nx' kk' hr hb3
    generalize w3.heap.size = z7 at *
    generalize (w3.alloc (.cells #[.bool b7, .slice a7 k7 p7, .bool c7, .slice f7 l7 q7] 105)) = w4 at *
    go_wp2
    go_loopg [69] m (fun gk u69 wr => ∃ (i : Nat) (b7 : Bool) (a7 : Option Addr) (k7 p7 : Nat) (c7 : Bool) (f7 : Option Addr) (l7 q7 : Nat), u69 = .int .i64 (i : Int) ∧ i + gk = m ∧ Hid (Blk wr z7 105 #[.bool b7, .slice a7 k7 p7, .bool c7, .slice f7 l7 q7]) ∧ Hid (Nm wr (.agg #[.bool b7, .slice a7 k7 p7, .bool c7, .slice f7 l7 q7]) (x ^ i)) ∧ Hid (Blk wr z6 107 #[.bool b, .slice a k p, .bool c, .slice f l q, .int .i64 0]) ∧ Hid (Nm wr (.agg #[.bool b, .slice a k p, .bool c, .slice f l q]) x) ∧ Hid (fitsD 2000 (x ^ i)) ∧ Hid (Below w.heap.size w wr))
    case atStart => exact ⟨0, _, _, _, _, _, _, _, _, rfl, by omega, G7, R7, GX, NX, HF0, KX⟩
    case round =>
      obtain ⟨i, b7, a7, k7, p7, c7, f7, l7, q7, rfl, hi, hG7, hR7, hGX, hNX, hF, hK⟩ := hrel
      obtain ⟨y0, y1, y2, y3⟩ := hG7.out.at4
      by_cases hiz : i < m
      · have hi2 : (i : Int) < (m : Int) := by omega
        obtain ⟨x0, x1, x2, x3, x4⟩ := hGX.out.at5
        go_upto_region 14 with (go_at_call 68; refine (HMUL.out i hiz hF.out _ _ _ hR7.out hNX.out).mono ?_; rintro e V ⟨r, rfl, hr, hV⟩; obtain ⟨b8, a8, k8, p8, c8, f8, l8, q8, rfl, -, -⟩ := id hr.parts; have hg7 := hG7.out.next hV; have hgx := hGX.out.next hV; have hnx := hNX.out.below hV; have hk := next_below hK.out hV; have fr := hg7.fr4; obtain ⟨u0, u1, u2, u3⟩ := fr; clear y0 y1 y2 y3 x0 x1 x2 x3 x4; obtain ⟨y0, y1, y2, y3⟩ := hg7.at4)
        have pg7 := hg7.four (.bool b8) (.slice a8 k8 p8) (.bool c8) (.slice f8 l8 q8)
        have pr8 := hr.four hg7 (by decide) (.bool b8) (.slice a8 k8 p8) (.bool c8) (.slice f8 l8 q8)
        have pnx := hnx.four hg7 (by decide) (.bool b8) (.slice a8 k8 p8) (.bool c8) (.slice f8 l8 q8)
        have pgx := blk_four hgx hne (.bool b8) (.slice a8 k8 p8) (.bool c8) (.slice f8 l8 q8)
        have pk := below_four hk hz7 (.bool b8) (.slice a8 k8 p8) (.bool c8) (.slice f8 l8 q8)
        have PG7 := Lib.hid pg7
        have PR8 := Lib.hid pr8
        have PNX := Lib.hid pnx
        have PGX := Lib.hid pgx
        have PK := Lib.hid pk
        clear pg7 pr8 pnx pgx pk hg7 hgx hnx hk hr hV u0 u1 u2 u3 y0 y1 y2 y3 hG7 hR7 hGX hNX hK
        generalize ((((V.setCell ⟨z7, 0, none⟩ (.bool b8)).setCell ⟨z7, 1, none⟩ (.slice a8 k8 p8)).setCell ⟨z7, 2, none⟩ (.bool c8)).setCell ⟨z7, 3, none⟩ (.slice f8 l8 q8)) = V5 at *
        obtain ⟨y0, y1, y2, y3⟩ := PG7.out.at4
        by_cases hfk : fitsD 2000 (x ^ (i + 1))
        · have hfb : decide (fitsD 2000 (x ^ (i + 1))) = true := by simpa using hfk
          have HFK := Lib.hid hfk
          have hft := HFIT.out (i + 1) (by omega) (HSZ.out i hF.out) V5 _ PR8.out
          rw [hfb] at hft
          have HFT := Lib.hid hft
          clear hfk hfb hft
          go_wp2_with fail
          refine (HFT.out (HG.out _ PK.out)).mono ?_
          rintro e V6 ⟨rfl, kk⟩
          have e1 := Lib.hid (PG7.out.next kk)
          have e2 := Lib.hid (PR8.out.below kk)
          have e3 := Lib.hid (PGX.out.next kk)
          have e4 := Lib.hid (PNX.out.below kk)
          have e5 := Lib.hid (next_below PK.out kk)
          clear kk y0 y1 y2 y3
          go_wp2
          go_roundg (gk - 1)
          case rel => exact ⟨i + 1, _, _, _, _, _, _, _, _, by go_num, by omega, e1, e2, e3, e4, HFK, e5⟩
          case measure => omega
        · have hfb : decide (fitsD 2000 (x ^ (i + 1))) = false := by simpa using hfk
          have HNO := Lib.hid (HRNO.out i hiz hfk)
          have hft := HFIT.out (i + 1) (by omega) (HSZ.out i hF.out) V5 _ PR8.out
          rw [hfb] at hft
          have HFT := Lib.hid hft
          clear hfk hfb hft
          go_wp2_with fail
          refine (HFT.out (HG.out _ PK.out)).mono ?_
          rintro e V6 ⟨rfl, kk⟩
          have e5 := Lib.hid (next_below PK.out kk)
          clear kk y0 y1 y2 y3
          go_wp2
          go_ret2
          exact ⟨by rw [HNO.out.1, HNO.out.2]; rfl, e5.out⟩
      · obtain rfl : i = m := by omega
        have hi2 : ¬ (i : Int) < (i : Int) := by omega
        go_wp2_with fail
        refine (HTELL.out _ _ hR7.out (HG.out _ hK.out)).mono ?_
        rintro e V6 ⟨rfl, kk⟩
        have e5 := Lib.hid (next_below hK.out kk)
        clear kk
        go_wp2
        go_ret2
        exact ⟨rfl, e5.out⟩
  · clear hx3 hsm hf hwb HSG
    have K4 := K2
    have G4 := G6
    have N4 := HN
    go_upto_region 7 with (first
      | (go_at_call 76; refine (HW.out _ _ N4.out).mono ?_; rintro e Va ⟨rfl, ka⟩; have ja := G4.out.next ka; obtain ⟨y0, y1, y2, y3, y4⟩ := ja.at5; have na := N4.out.below ka; clear x0 x1 x2 x3 x4)
      | (go_at_call 68; refine (HMX.out _ _ _ na na).mono ?_; rintro e Vb ⟨r1, rfl, hr1, kb⟩)
      | (go_at_call 78; refine (HOF.out _).mono ?_; rintro e Vc ⟨r2, rfl, hr2, kc⟩)
      | (go_at_call 77; refine (HCM.out _ _ _ (hr1.below kc) hr2).mono ?_; rintro e Vd ⟨rfl, kd⟩))
    have K8 := Lib.hid (next_below (next_below (next_below (next_below K4.out ka) kb) kc) kd)
    have G8 := Lib.hid (((ja.next kb).next kc).next kd)
    have N8 := Lib.hid (((na.below kb).below kc).below kd)
    clear ka kb kc kd ja na hr1 hr2 y0 y1 y2 y3 y4
    go_upto_region 11 with (go_at_call 78; refine (HOF.out _).mono ?_; rintro e w3 ⟨r, rfl, hr, hb3⟩; obtain ⟨b7, a7, k7, p7, c7, f7, l7, q7, rfl, -, -⟩ := id hr.parts; (try clear x0 x1 x2 x3 x4))
    have g7' := Blk.new w3 105 #[.bool b7, .slice a7 k7 p7, .bool c7, .slice f7 l7 q7]
    have hal : Below w3.heap.size w3 (w3.alloc (.cells #[.bool b7, .slice a7 k7 p7, .bool c7, .slice f7 l7 q7] 105)) := (Below.refl _ _).alloc (Nat.le_refl _) _
    have hz7 : w.heap.size ≤ w3.heap.size := (next_below K8.out hb3).size
    have hr' := hr.below hal
    have gx' := (G8.out.next hb3).next hal
    have nx' := (N8.out.below hb3).below hal
    have kk' := next_below (next_below K8.out hb3) hal
    have hne : w3.heap.size ≠ z6 := by have := (G8.out.next hb3).lt; omega
    rw [← Rat.pow_zero x] at hr'
    have G7 := Lib.hid g7'
    have R7 := Lib.hid hr'
    have GX := Lib.hid gx'
    have NX := Lib.hid nx'
    have KX := Lib.hid kk'
    clear g7' hal hr' gx' nx' kk' hr hb3
    generalize w3.heap.size = z7 at *
    generalize (w3.alloc (.cells #[.bool b7, .slice a7 k7 p7, .bool c7, .slice f7 l7 q7] 105)) = w4 at *
    go_wp2
    go_loopg [69] m (fun gk u69 wr => ∃ (i : Nat) (b7 : Bool) (a7 : Option Addr) (k7 p7 : Nat) (c7 : Bool) (f7 : Option Addr) (l7 q7 : Nat), u69 = .int .i64 (i : Int) ∧ i + gk = m ∧ Hid (Blk wr z7 105 #[.bool b7, .slice a7 k7 p7, .bool c7, .slice f7 l7 q7]) ∧ Hid (Nm wr (.agg #[.bool b7, .slice a7 k7 p7, .bool c7, .slice f7 l7 q7]) (x ^ i)) ∧ Hid (Blk wr z6 107 #[.bool b, .slice a k p, .bool c, .slice f l q, .int .i64 0]) ∧ Hid (Nm wr (.agg #[.bool b, .slice a k p, .bool c, .slice f l q]) x) ∧ Hid (fitsD 2000 (x ^ i)) ∧ Hid (Below w.heap.size w wr))
    case atStart => exact ⟨0, _, _, _, _, _, _, _, _, rfl, by omega, G7, R7, GX, NX, HF0, KX⟩
    case round =>
      obtain ⟨i, b7, a7, k7, p7, c7, f7, l7, q7, rfl, hi, hG7, hR7, hGX, hNX, hF, hK⟩ := hrel
      obtain ⟨y0, y1, y2, y3⟩ := hG7.out.at4
      by_cases hiz : i < m
      · have hi2 : (i : Int) < (m : Int) := by omega
        obtain ⟨x0, x1, x2, x3, x4⟩ := hGX.out.at5
        go_upto_region 14 with (go_at_call 68; refine (HMUL.out i hiz hF.out _ _ _ hR7.out hNX.out).mono ?_; rintro e V ⟨r, rfl, hr, hV⟩; obtain ⟨b8, a8, k8, p8, c8, f8, l8, q8, rfl, -, -⟩ := id hr.parts; have hg7 := hG7.out.next hV; have hgx := hGX.out.next hV; have hnx := hNX.out.below hV; have hk := next_below hK.out hV; have fr := hg7.fr4; obtain ⟨u0, u1, u2, u3⟩ := fr; clear y0 y1 y2 y3 x0 x1 x2 x3 x4; obtain ⟨y0, y1, y2, y3⟩ := hg7.at4)
        have pg7 := hg7.four (.bool b8) (.slice a8 k8 p8) (.bool c8) (.slice f8 l8 q8)
        have pr8 := hr.four hg7 (by decide) (.bool b8) (.slice a8 k8 p8) (.bool c8) (.slice f8 l8 q8)
        have pnx := hnx.four hg7 (by decide) (.bool b8) (.slice a8 k8 p8) (.bool c8) (.slice f8 l8 q8)
        have pgx := blk_four hgx hne (.bool b8) (.slice a8 k8 p8) (.bool c8) (.slice f8 l8 q8)
        have pk := below_four hk hz7 (.bool b8) (.slice a8 k8 p8) (.bool c8) (.slice f8 l8 q8)
        have PG7 := Lib.hid pg7
        have PR8 := Lib.hid pr8
        have PNX := Lib.hid pnx
        have PGX := Lib.hid pgx
        have PK := Lib.hid pk
        clear pg7 pr8 pnx pgx pk hg7 hgx hnx hk hr hV u0 u1 u2 u3 y0 y1 y2 y3 hG7 hR7 hGX hNX hK
        generalize ((((V.setCell ⟨z7, 0, none⟩ (.bool b8)).setCell ⟨z7, 1, none⟩ (.slice a8 k8 p8)).setCell ⟨z7, 2, none⟩ (.bool c8)).setCell ⟨z7, 3, none⟩ (.slice f8 l8 q8)) = V5 at *
        obtain ⟨y0, y1, y2, y3⟩ := PG7.out.at4
        by_cases hfk : fitsD 2000 (x ^ (i + 1))
        · have hfb : decide (fitsD 2000 (x ^ (i + 1))) = true := by simpa using hfk
          have HFK := Lib.hid hfk
          have hft := HFIT.out (i + 1) (by omega) (HSZ.out i hF.out) V5 _ PR8.out
          rw [hfb] at hft
          have HFT := Lib.hid hft
          clear hfk hfb hft
          go_wp2_with fail
          refine (HFT.out (HG.out _ PK.out)).mono ?_
          rintro e V6 ⟨rfl, kk⟩
          have e1 := Lib.hid (PG7.out.next kk)
          have e2 := Lib.hid (PR8.out.below kk)
          have e3 := Lib.hid (PGX.out.next kk)
          have e4 := Lib.hid (PNX.out.below kk)
          have e5 := Lib.hid (next_below PK.out kk)
          clear kk y0 y1 y2 y3
          go_wp2
          go_roundg (gk - 1)
          case rel => exact ⟨i + 1, _, _, _, _, _, _, _, _, by go_num, by omega, e1, e2, e3, e4, HFK, e5⟩
          case measure => omega
        · have hfb : decide (fitsD 2000 (x ^ (i + 1))) = false := by simpa using hfk
          have HNO := Lib.hid (HRNO.out i hiz hfk)
          have hft := HFIT.out (i + 1) (by omega) (HSZ.out i hF.out) V5 _ PR8.out
          rw [hfb] at hft
          have HFT := Lib.hid hft
          clear hfk hfb hft
          go_wp2_with fail
          refine (HFT.out (HG.out _ PK.out)).mono ?_
          rintro e V6 ⟨rfl, kk⟩
          have e5 := Lib.hid (next_below PK.out kk)
          clear kk y0 y1 y2 y3
          go_wp2
          go_ret2
          exact ⟨by rw [HNO.out.1, HNO.out.2]; rfl, e5.out⟩
      · obtain rfl : i = m := by omega
        have hi2 : ¬ (i : Int) < (i : Int) := by omega
        go_wp2_with fail
        refine (HTELL.out _ _ hR7.out (HG.out _ hK.out)).mono ?_
        rintro e V6 ⟨rfl, kk⟩
        have e5 := Lib.hid (next_below hK.out kk)
        clear kk
        go_wp2
        go_ret2
        exact ⟨rfl, e5.out⟩

theorem not_small {x : Rat} (h : ¬ (x = -1 ∨ x = 0 ∨ x = 1)) : x.den ≠ 1 ∨ 1 < x * x := by
  by_cases h1 : x.den = 1
  · refine .inr (Rat.not_le.1 fun h2 => h (small_rat h1 h2))
  · exact .inl h1
theorem inv_fit {x : Rat} (hx : fitsD 2000 x) : fitsD 2000 (1 / x) := by
  have e : (1 : Rat) / x = Rat.divInt x.den x.num := by rw [Rat.div_def, Rat.one_mul, Rat.inv_def]
  rw [e]
  by_cases h0 : x.num = 0
  · rw [h0]; simp; decide +kernel
  · refine ⟨Nat.le_trans (D4.nDigits_mono (D4.divInt_num_le _ _)) (by rw [Int.natAbs_natCast]; exact hx.2), Nat.le_trans (D4.nDigits_mono (D4.divInt_den_le _ h0)) hx.1⟩
theorem inv_small {x : Rat} (h0 : x ≠ 0) (h : ¬ (x = -1 ∨ x = 0 ∨ x = 1)) : ¬ (1 / x = -1 ∨ 1 / x = 0 ∨ 1 / x = 1) := by
  have h1 := Rat.div_mul_cancel (a := (1 : Rat)) h0
  rintro (e | e | e)
  · rw [e] at h1; exact h (.inl (by grind))
  · rw [e, Rat.zero_mul] at h1; exact absurd h1 (by decide)
  · rw [e] at h1; exact h (.inr (.inr (by grind)))

set_option maxHeartbeats 16000000 in
set_option maxRecDepth 100000 in
/-- An exponent less than nought. -/
theorem pow_neg {w : World} (ls : List UInt8) (n : Int) (hl : ls.length ≤ 268435000) (h0 : rerr ls = 0) (hn0 : n < 0) (n1 : -10000 ≤ n) (hx3 : (rval ls).num ≠ 0) (hsm : ¬ (rval ls = -1 ∨ rval ls = 0 ∨ rval ls = 1)) (hg : Good w) : Calls Tryz.prog 20 #[.string ⟨ls.toArray⟩, .int .i64 n] w (RetV w (tellV (zpow (rval ls) n))) := by
  have hc := rread_any (w := w) ls hl hg
  have hf := rerr_fits h0
  rw [h0] at hc
  generalize rval ls = x at *
  generalize (⟨ls.toArray⟩ : ByteArray) = S at *
  have HC := Lib.hid hc
  have HG := Lib.hid (fun (V : World) (hV : Below w.heap.size w V) => hg.below hV)
  have hx0 : x ≠ 0 := fun e => hx3 (by rw [e]; rfl)
  obtain ⟨m, hm⟩ : ∃ m : Nat, (m : Int) = -n := ⟨(-n).toNat, by omega⟩
  have hz : zpow x n = (1 / x) ^ m := by
    unfold zpow
    rw [if_neg (by omega)]
    congr 1
    omega
  rw [hz]
  have hif := inv_fit hf
  have hrec := fun (V : World) (hV : Good V) => pow_plain (w := V) (ratText (1 / x)) m (text_len hif) (rerr_fit hif) (by omega) (by rw [rval_ratText]; exact .inr (not_small (inv_small hx0 hsm))) hV
  rw [rval_ratText] at hrec
  obtain ⟨RT, ER, hT⟩ := tellV_form ((1 / x) ^ m)
  rw [hT] at hrec ⊢
  rw [hm] at hrec
  have hR1 : ∃ R1 : ByteArray, R1 = ⟨(ratText (1 / x)).toArray⟩ := ⟨_, rfl⟩
  obtain ⟨R1, hR1⟩ := hR1
  rw [← hR1] at hrec
  have htx := fun (V : World) v (q : Nm V v (1 / x)) (hV : Good V) => num_text (w := V) q ((sz_of_fits hif).mono (by omega)) hV
  rw [← hR1] at htx
  have HREC := Lib.hid hrec
  have HTX := Lib.hid htx
  have HDV := Lib.hid (fun (V : World) v v' (h1 : Nm V v 1) (h2 : Nm V v' x) => num_div (w := V) h1 h2 sz_one' ((sz_of_fits hf).mono (by omega)) hx3)
  obtain ⟨q1, -, -, -⟩ := pow_hands hf 0
  have HOF := Lib.hid q1
  have HW := Lib.hid (fun (V : World) v (q : Nm V v x) => isint_any (w := V) q.pr)
  have HSG := Lib.hid (fun (V : World) v (q : Nm V v x) => num_sign (w := V) q)
  have HMX := Lib.hid (fun (V : World) v v' (h1 : Nm V v x) (h2 : Nm V v' x) => num_mul (w := V) h1 h2 ((sz_of_fits hf).mono (by omega)) ((sz_of_fits hf).mono (by omega)))
  have HCM := Lib.hid (fun (V : World) v v' (h1 : Nm V v (x * x)) (h2 : Nm V v' 1) => num_cmp (w := V) h1 h2 ((Sz.mul2 hf hf).mono (by omega)) sz_one')
  have hm1 : ¬ (n < -10000) := by omega
  have hm2 : ¬ (10000 < n) := by omega
  have hz2 : (n == 0) = false := by rw [beq_eq_false_iff_ne]; omega
  have hs1 : (x.num.sign == 0) = false := by
    rw [beq_eq_false_iff_ne]
    intro e
    exact hx3 (Int.sign_eq_zero_iff_zero.1 e)
  generalize x.num.sign = sg0 at *
  have hns := not_small hsm
  have hrc : 1 < x * x → ¬ rcmp (x * x) 1 ≤ 0 := fun h h2 => absurd (rcmp_le.1 h2) (Rat.not_le.2 h)
  have HRC := Lib.hid hrc
  have hden : ((x.den : Int).natAbs = 1) = (x.den = 1) := propext (by omega)
  clear hc q1 hrec htx hT hg h0 hl hf hx3 hsm hx0 hm hz hif hR1 hrc
  go_enter Tryz.func20, Tryz.ntmps20
  go_upto_region 2 with (go_at_call 65; refine HC.out.mono ?_; rintro e w1 ⟨b, a, k, p, c, f, l, q, rfl, hn, hb⟩)
  have g6' := Blk.new w1 107 #[.bool b, .slice a k p, .bool c, .slice f l q, .int .i64 0]
  have hn' := (hn (by first | rfl | trivial)).below ((Below.refl _ _).alloc (Nat.le_refl _) (.cells #[.bool b, .slice a k p, .bool c, .slice f l q, .int .i64 0] 107))
  have hb6 : Below w.heap.size w (w1.alloc (.cells #[.bool b, .slice a k p, .bool c, .slice f l q, .int .i64 0] 107)) := hb.alloc hb.size _
  have HN := Lib.hid hn'
  have G6 := Lib.hid g6'
  have K2 := Lib.hid hb6
  clear hn hn' hb hb6 g6'
  generalize w1.heap.size = z6 at *
  generalize (w1.alloc (.cells #[.bool b, .slice a k p, .bool c, .slice f l q, .int .i64 0] 107)) = w2 at *
  obtain ⟨x0, x1, x2, x3, x4⟩ := G6.out.at5
  go_upto_region 6 with (go_at_call 72; refine (HSG.out _ _ HN.out).mono ?_; rintro e Vs ⟨rfl, ks⟩; (try clear x0 x1 x2 x3 x4))
  have K4 := Lib.hid (next_below K2.out ks)
  have G4 := Lib.hid (G6.out.next ks)
  have N4 := Lib.hid (HN.out.below ks)
  clear ks
  obtain ⟨x0, x1, x2, x3, x4⟩ := G4.out.at5
  by_cases hd : x.den = 1
  · have hsq : 1 < x * x := by
      rcases hns with h | h
      · exact absurd hd h
      · exact h
    have hcm := HRC.out hsq
    have hwb : decide ((x.den : Int).natAbs = 1) = true := decide_eq_true (by omega)
    rw [hwb] at HW
    generalize rcmp (x * x) 1 = cm at *
    clear hns hd hsq HRC hden hwb
    go_upto_region 9 with (first
      | (go_at_call 76; refine (HW.out _ _ N4.out).mono ?_; rintro e Va ⟨rfl, ka⟩; have ja := G4.out.next ka; obtain ⟨y0, y1, y2, y3, y4⟩ := ja.at5; have na := N4.out.below ka; clear x0 x1 x2 x3 x4)
      | (go_at_call 68; refine (HMX.out _ _ _ na na).mono ?_; rintro e Vb ⟨r1, rfl, hr1, kb⟩)
      | (go_at_call 78; refine (HOF.out _).mono ?_; rintro e Vc ⟨r2, rfl, hr2, kc⟩)
      | (go_at_call 77; refine (HCM.out _ _ _ (hr1.below kc) hr2).mono ?_; rintro e Vd ⟨rfl, kd⟩))
    have K8 := Lib.hid (next_below (next_below (next_below (next_below K4.out ka) kb) kc) kd)
    have G8 := Lib.hid (((ja.next kb).next kc).next kd)
    have N8 := Lib.hid (((na.below kb).below kc).below kd)
    clear ka kb kc kd ja na hr1 hr2 y0 y1 y2 y3 y4
    generalize hw0 : Vd = w0 at *
    clear hw0
    have hB0 : Below w0.heap.size w0 w0.drew := (Below.refl _ _).drew
    refine wp_region_list 10 (by kernel_rfl) (by kernel_rfl) [] [fun v w' => Nm w' v (1), fun v _ => v = .pointer (some ⟨z6, 0, none⟩), fun v _ => v = .agg #[.bool b, .slice a k p, .bool c, .slice f l q], fun v w' => Nm w' v (1 / x), fun v _ => v = .string R1, fun v _ => v = .int .i64 n, fun v _ => v = .int .i64 (-n), fun v _ => v = .tuple #[.string RT, .int .i64 ER], fun v _ => v = .string RT, fun v _ => v = .int .i64 ER] (by simp only [List.take_succ_cons, List.take_zero]; rfl) (by simp only [List.drop_succ_cons, List.drop_zero]; rfl) (fun vals => by simp only [fam, Act.put, List.setIfInBounds_toArray, List.set_cons_zero, List.set_cons_succ, if_true]; rfl) (by repeat' (first | exact Stab.eq _ _ | exact Stab.wh _ _ | exact Stab.nm _ _ | exact Stab.new _ _ | exact Stab.newn _ _ | exact Stab.tw _ _ _ | exact Stab.lm _ _ _ | exact Stab.onet _ _ _ | exact trivial | apply And.intro)) trivial ?_ ?_
    · refine ⟨?_, ?_, ?_, ?_, ?_, ?_, ?_, ?_, ?_, ?_, trivial⟩
      all_goals
        intro vals w3 hB hp
        dsimp only
        (try simp [preOk, Region.binds, q_anygc, q_anytext] at hp)
        have hbb := next_below hB0 hB
        obtain ⟨y0, y1, y2, y3, y4⟩ := (G8.out.next hbb).at5
        have nb := N8.out.below hbb
        have kb := next_below K8.out hbb
        clear hB
      case refine_1 =>
        go_wp2_with (go_at_call 78; refine (HOF.out _).mono ?_; rintro e w5 ⟨r, rfl, hr, hb5⟩)
        exact ⟨rfl, _, rfl, hr, hb5, trivial⟩
      case refine_3 =>
        have a0 := hp
        generalize vals 1 = v1 at *
        subst a0
        go_wp2
        (first | exact ⟨rfl, _, rfl, rfl, Below.refl _ _, trivial⟩ | (refine ⟨rfl, _, ?_, rfl, Below.refl _ _, trivial⟩; simp only [Act.put, List.setIfInBounds_toArray, List.set_cons_zero, List.set_cons_succ, hp]))
      case refine_4 =>
        have a0 := hp.1
        have a1 : vals 2 = .agg #[.bool b, .slice a k p, .bool c, .slice f l q] := by first | exact hp.2.1 | exact hp.2
        clear hp
        generalize vals 0 = v0 at *
        generalize vals 2 = v2 at *
        subst a1
        go_wp2_with (go_at_call 74; refine (HDV.out _ _ _ a0 nb).mono ?_; rintro e w5 ⟨r, rfl, hr, hb5⟩)
        exact ⟨rfl, _, rfl, hr, hb5, trivial⟩
      case refine_5 =>
        generalize vals 3 = v3 at *
        go_wp2_with (go_at_call 79; refine (HTX.out _ _ hp (HG.out _ kb)).mono ?_; rintro e w5 ⟨rfl, hb5⟩)
        exact ⟨rfl, _, rfl, rfl, hb5, trivial⟩
      case refine_7 =>
        have a0 := hp
        generalize vals 5 = v5 at *
        subst a0
        go_wp2
        (first | exact ⟨rfl, _, rfl, rfl, Below.refl _ _, trivial⟩ | (refine ⟨rfl, _, ?_, rfl, Below.refl _ _, trivial⟩; simp only [Act.put, List.setIfInBounds_toArray, List.set_cons_zero, List.set_cons_succ, hp]))
      case refine_8 =>
        have a0 := hp.1
        have a1 : vals 6 = .int .i64 (-n) := by first | exact hp.2.1 | exact hp.2
        clear hp
        generalize vals 4 = v4 at *
        subst a0
        generalize vals 6 = v6 at *
        subst a1
        go_wp2_with (go_at_call 20; refine (HREC.out _ (HG.out _ kb)).mono ?_; rintro e w5 ⟨rfl, hb5⟩)
        exact ⟨rfl, _, rfl, rfl, hb5, trivial⟩
      case refine_9 | refine_10 =>
        have a0 := hp
        generalize vals 7 = v7 at *
        subst a0
        go_wp2
        (first | exact ⟨rfl, _, rfl, rfl, Below.refl _ _, trivial⟩ | (refine ⟨rfl, _, ?_, rfl, Below.refl _ _, trivial⟩; simp only [Act.put, List.setIfInBounds_toArray, List.set_cons_zero, List.set_cons_succ, hp]))
      all_goals
        go_wp2
        (first | exact ⟨rfl, _, rfl, rfl, Below.refl _ _, trivial⟩ | (refine ⟨rfl, _, ?_, rfl, Below.refl _ _, trivial⟩; simp only [Act.put, List.setIfInBounds_toArray, List.set_cons_zero, List.set_cons_succ, hp]))
    · rintro vals w3 hB ⟨p0, p1, p2, p3, p4, p5, p6, p7, p8, p9, _⟩ hne
      have hbb := Lib.hid (next_below K8.out (next_below hB0 hB))
      simp at p8 p9
      generalize vals 8 = v8 at *
      subst p8
      generalize vals 9 = v9 at *
      subst p9
      clear hne p0 p1 p2 p3 p4 p5 p6 p7 hB hB0
      go_wp2
      go_ret2
      exact ⟨rfl, hbb.out⟩
  · have hwb : decide ((x.den : Int).natAbs = 1) = false := decide_eq_false (by omega)
    rw [hwb] at HW
    clear hns hd HRC hden hwb
    go_upto_region 9 with (go_at_call 76; refine (HW.out _ _ N4.out).mono ?_; rintro e Va ⟨rfl, ka⟩; have ja := G4.out.next ka; obtain ⟨y0, y1, y2, y3, y4⟩ := ja.at5; have na := N4.out.below ka; clear x0 x1 x2 x3 x4)
    have K8 := Lib.hid (next_below K4.out ka)
    have G8 := Lib.hid ja
    have N8 := Lib.hid na
    clear ka ja na y0 y1 y2 y3 y4
    generalize hw0 : Va = w0 at *
    clear hw0
    have hB0 : Below w0.heap.size w0 w0.drew := (Below.refl _ _).drew
    refine wp_region_list 10 (by kernel_rfl) (by kernel_rfl) [] [fun v w' => Nm w' v (1), fun v _ => v = .pointer (some ⟨z6, 0, none⟩), fun v _ => v = .agg #[.bool b, .slice a k p, .bool c, .slice f l q], fun v w' => Nm w' v (1 / x), fun v _ => v = .string R1, fun v _ => v = .int .i64 n, fun v _ => v = .int .i64 (-n), fun v _ => v = .tuple #[.string RT, .int .i64 ER], fun v _ => v = .string RT, fun v _ => v = .int .i64 ER] (by simp only [List.take_succ_cons, List.take_zero]; rfl) (by simp only [List.drop_succ_cons, List.drop_zero]; rfl) (fun vals => by simp only [fam, Act.put, List.setIfInBounds_toArray, List.set_cons_zero, List.set_cons_succ, if_true]; rfl) (by repeat' (first | exact Stab.eq _ _ | exact Stab.wh _ _ | exact Stab.nm _ _ | exact Stab.new _ _ | exact Stab.newn _ _ | exact Stab.tw _ _ _ | exact Stab.lm _ _ _ | exact Stab.onet _ _ _ | exact trivial | apply And.intro)) trivial ?_ ?_
    · refine ⟨?_, ?_, ?_, ?_, ?_, ?_, ?_, ?_, ?_, ?_, trivial⟩
      all_goals
        intro vals w3 hB hp
        dsimp only
        (try simp [preOk, Region.binds, q_anygc, q_anytext] at hp)
        have hbb := next_below hB0 hB
        obtain ⟨y0, y1, y2, y3, y4⟩ := (G8.out.next hbb).at5
        have nb := N8.out.below hbb
        have kb := next_below K8.out hbb
        clear hB
      case refine_1 =>
        go_wp2_with (go_at_call 78; refine (HOF.out _).mono ?_; rintro e w5 ⟨r, rfl, hr, hb5⟩)
        exact ⟨rfl, _, rfl, hr, hb5, trivial⟩
      case refine_3 =>
        have a0 := hp
        generalize vals 1 = v1 at *
        subst a0
        go_wp2
        (first | exact ⟨rfl, _, rfl, rfl, Below.refl _ _, trivial⟩ | (refine ⟨rfl, _, ?_, rfl, Below.refl _ _, trivial⟩; simp only [Act.put, List.setIfInBounds_toArray, List.set_cons_zero, List.set_cons_succ, hp]))
      case refine_4 =>
        have a0 := hp.1
        have a1 : vals 2 = .agg #[.bool b, .slice a k p, .bool c, .slice f l q] := by first | exact hp.2.1 | exact hp.2
        clear hp
        generalize vals 0 = v0 at *
        generalize vals 2 = v2 at *
        subst a1
        go_wp2_with (go_at_call 74; refine (HDV.out _ _ _ a0 nb).mono ?_; rintro e w5 ⟨r, rfl, hr, hb5⟩)
        exact ⟨rfl, _, rfl, hr, hb5, trivial⟩
      case refine_5 =>
        generalize vals 3 = v3 at *
        go_wp2_with (go_at_call 79; refine (HTX.out _ _ hp (HG.out _ kb)).mono ?_; rintro e w5 ⟨rfl, hb5⟩)
        exact ⟨rfl, _, rfl, rfl, hb5, trivial⟩
      case refine_7 =>
        have a0 := hp
        generalize vals 5 = v5 at *
        subst a0
        go_wp2
        (first | exact ⟨rfl, _, rfl, rfl, Below.refl _ _, trivial⟩ | (refine ⟨rfl, _, ?_, rfl, Below.refl _ _, trivial⟩; simp only [Act.put, List.setIfInBounds_toArray, List.set_cons_zero, List.set_cons_succ, hp]))
      case refine_8 =>
        have a0 := hp.1
        have a1 : vals 6 = .int .i64 (-n) := by first | exact hp.2.1 | exact hp.2
        clear hp
        generalize vals 4 = v4 at *
        subst a0
        generalize vals 6 = v6 at *
        subst a1
        go_wp2_with (go_at_call 20; refine (HREC.out _ (HG.out _ kb)).mono ?_; rintro e w5 ⟨rfl, hb5⟩)
        exact ⟨rfl, _, rfl, rfl, hb5, trivial⟩
      case refine_9 | refine_10 =>
        have a0 := hp
        generalize vals 7 = v7 at *
        subst a0
        go_wp2
        (first | exact ⟨rfl, _, rfl, rfl, Below.refl _ _, trivial⟩ | (refine ⟨rfl, _, ?_, rfl, Below.refl _ _, trivial⟩; simp only [Act.put, List.setIfInBounds_toArray, List.set_cons_zero, List.set_cons_succ, hp]))
      all_goals
        go_wp2
        (first | exact ⟨rfl, _, rfl, rfl, Below.refl _ _, trivial⟩ | (refine ⟨rfl, _, ?_, rfl, Below.refl _ _, trivial⟩; simp only [Act.put, List.setIfInBounds_toArray, List.set_cons_zero, List.set_cons_succ, hp]))
    · rintro vals w3 hB ⟨p0, p1, p2, p3, p4, p5, p6, p7, p8, p9, _⟩ hne
      have hbb := Lib.hid (next_below K8.out (next_below hB0 hB))
      simp at p8 p9
      generalize vals 8 = v8 at *
      subst p8
      generalize vals 9 = v9 at *
      subst p9
      clear hne p0 p1 p2 p3 p4 p5 p6 p7 hB hB0
      go_wp2
      go_ret2
      exact ⟨rfl, hbb.out⟩

/-- Pow, at any text and exponent. -/
theorem pow_any {w : World} (ls : List UInt8) (n : Int) (hl : ls.length ≤ 268435000) (hg : Good w) : Calls Tryz.prog 20 #[.string ⟨ls.toArray⟩, .int .i64 n] w (RetV w (.tuple #[.string (powT ls n), .int .i64 (powE ls n)])) := by
  by_cases h0 : rerr ls = 0
  · by_cases hn : n < -10000 ∨ 10000 < n ∨ (n < 0 ∧ (rval ls).num = 0)
    · have e : powE ls n = 2 := by unfold powE; rw [if_pos h0, if_pos hn]
      have eT : powT ls n = ⟨#[]⟩ := by unfold powT; rw [e]; rfl
      rw [e, eT]
      exact pow_arg ls n hl h0 hn hg
    · have e : powE ls n = if fitsD 2000 (zpow (rval ls) n) then 0 else 6 := by unfold powE; rw [if_pos h0, if_neg hn]
      have et : tellV (zpow (rval ls) n) = .tuple #[.string (powT ls n), .int .i64 (powE ls n)] := by
        unfold tellV
        by_cases hf : fitsD 2000 (zpow (rval ls) n)
        · rw [if_pos hf] at e ⊢
          unfold powT
          rw [e]; rfl
        · rw [if_neg hf] at e ⊢
          unfold powT
          rw [e]; rfl
      rw [← et]
      by_cases hs : n ≠ 0 ∧ (rval ls = -1 ∨ rval ls = 0 ∨ rval ls = 1)
      · have hd : (rval ls).den = 1 := by rcases hs.2 with h | h | h <;> rw [h] <;> rfl
        have hq : rval ls * rval ls ≤ 1 := by rcases hs.2 with h | h | h <;> rw [h] <;> decide +kernel
        exact pow_small ls n hl h0 hs.1 (by omega) (by omega) hd hq (by omega) hg
      · by_cases hneg : n < 0
        · exact pow_neg ls n hl h0 hneg (by omega) (by omega) (fun h => hs ⟨by omega, h⟩) hg
        · obtain ⟨m, rfl⟩ : ∃ m : Nat, n = (m : Int) := ⟨n.toNat, by omega⟩
          have hz : zpow (rval ls) (m : Int) = rval ls ^ m := by unfold zpow; rw [if_pos (by omega), Int.toNat_natCast]
          rw [hz]
          refine pow_plain ls m hl h0 (by omega) ?_ hg
          by_cases hm : m = 0
          · exact .inl hm
          · exact .inr (not_small (fun h => hs ⟨by omega, h⟩))
  · have e : powE ls n = rerr ls := by unfold powE; rw [if_neg h0]
    have eT : powT ls n = ⟨#[]⟩ := by unfold powT; rw [e, if_neg h0]
    rw [e, eT]
    exact pow_form ls n hl h0 hg
end Go.Proofs.YtabdnjakmhnnfaaGreatDoor
