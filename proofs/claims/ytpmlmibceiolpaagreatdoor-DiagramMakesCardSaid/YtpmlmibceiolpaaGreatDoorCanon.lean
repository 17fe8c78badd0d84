/- ratio.read at any text; ratio.Check, ratio.Short, ratio.told, whole.Of. -/
import Derived.Test.YtpmlmibceiolpaaGreatDoorRRead3
set_option linter.unusedSimpArgs false
set_option linter.unusedVariables false
namespace Go.Proofs.YtpmlmibceiolpaaGreatDoor
open Go.RowKit
open Go.Lib (decDigits itoa nDigits)

theorem index_split : ∀ (l : List UInt8), 0 ≤ Lib.index l [47] → l = l.take (Lib.index l [47]).toNat ++ 47 :: l.drop ((Lib.index l [47]).toNat + 1) := by
  intro l
  induction l with
  | nil => intro h; exact absurd h (by decide)
  | cons c r ih =>
    intro h
    simp only [Lib.index] at h ⊢
    by_cases hp : ([47] : List UInt8).isPrefixOf (c :: r) = true
    · rw [if_pos hp]
      simp [List.isPrefixOf] at hp
      subst hp
      rfl
    · rw [if_neg hp] at h ⊢
      by_cases h1 : (Lib.index r [47] == -1) = true
      · rw [if_pos h1] at h; exact absurd h (by decide)
      · rw [if_neg h1] at h ⊢
        have h2 := Lib.index_ge r [47]
        have h3 : Lib.index r [47] ≠ -1 := by simpa using h1
        have h4 : 0 ≤ Lib.index r [47] := by omega
        have h5 : (Lib.index r [47] + 1).toNat = (Lib.index r [47]).toNat + 1 := by omega
        rw [h5]
        simp only [List.take_succ_cons, List.drop_succ_cons, List.cons_append]
        rw [← ih h4]

theorem cut_cases (l : List UInt8) : (Lib.cut l [47] = (l, [], false)) ∨ ∃ n d, Lib.cut l [47] = (n, d, true) ∧ l = n ++ 47 :: d := by
  unfold Lib.cut
  by_cases h : 0 ≤ Lib.index l [47]
  · rw [if_pos h]
    exact .inr ⟨_, _, rfl, index_split l h⟩
  · rw [if_neg h]; exact .inl rfl

theorem rread_any {w : World} (l : List UInt8) (hl : l.length ≤ 268435000) (hg : Good w) :
    Calls Tryz.prog 102 #[.string ⟨l.toArray⟩] w (RetR w (rerr l) (rval l)) := by
  unfold rerr rval
  rcases cut_cases l with hc | ⟨n, d, hc, hs⟩
  · rw [hc]
    simp only [Bool.false_eq_true, if_false]
    by_cases h5 : wcheck l = 5
    · rw [if_pos h5]
      exact rread_form hc (by omega) (by omega) (by simp) hg (.inl h5) _
    · rw [if_neg h5]
      obtain ⟨neg, ds, e1, e2, e3, e4⟩ := wcheck_form h5
      rw [e4]
      have h := rread_int (w := w) (neg := neg) e2 (by have := sgnd_ge neg ds; rw [← e1] at this; omega) hg (by rw [← e1]; exact h5)
      rw [← e1] at h
      exact h
  · rw [hc]
    simp only [if_true]
    have hln : n.length + d.length ≤ 268435000 := by rw [hs] at hl; simp at hl; omega
    by_cases h5 : wcheck n = 5 ∨ wcheck d = 5
    · rw [if_pos h5]
      exact rread_form hc (by omega) (by omega) (by omega) hg (h5.imp id (fun h => ⟨rfl, h⟩)) _
    · rw [if_neg h5]
      obtain ⟨h1, h2⟩ := not_or.1 h5
      obtain ⟨neg, ds, e1, e2, e3, e4⟩ := wcheck_form h1
      obtain ⟨neg2, es, f1, f2, f3, f4⟩ := wcheck_form h2
      rw [e4, f4]
      have a1 := sgnd_ge neg ds
      have a2 := sgnd_ge neg2 es
      rw [← e1] at a1
      rw [← f1] at a2
      have h := rread_frac (w := w) (neg := neg) (neg2 := neg2) e2 f2 (by omega) hg (by rw [← e1]; exact h1) (by rw [← f1]; exact h2)
      rw [← e1, ← f1, ← hs] at h
      unfold fracErr at h
      exact h

/-- Numbers that were read are small. -/
theorem rval_sz {l : List UInt8} (hl : l.length ≤ 268435000) (h0 : rerr l = 0) : Sz 268435456 (rval l) := by
  unfold rerr at h0
  unfold rval
  rcases cut_cases l with hc | ⟨n, d, hc, hs⟩
  · rw [hc] at h0 ⊢
    simp only [Bool.false_eq_true, if_false] at h0 ⊢
    by_cases h5 : wcheck l = 5
    · rw [if_pos h5] at h0; exact absurd h0 (by decide)
    · obtain ⟨neg, ds, e1, e2, e3, e4⟩ := wcheck_form h5
      rw [e4]
      have a1 := sgnd_ge neg ds
      rw [← e1] at a1
      exact ⟨by rw [Rat.num_intCast]; exact sg_len e2 (by omega), by rw [Rat.den_intCast]; exact Nat.le_trans (limbs_len_le (k := 1) (by decide)) (by omega)⟩
  · rw [hc] at h0 ⊢
    simp only [if_true] at h0 ⊢
    have hln : n.length + d.length ≤ 268435000 := by rw [hs] at hl; simp at hl; omega
    by_cases h5 : wcheck n = 5 ∨ wcheck d = 5
    · rw [if_pos h5] at h0; exact absurd h0 (by decide)
    · rw [if_neg h5] at h0
      obtain ⟨h1, h2⟩ := not_or.1 h5
      obtain ⟨neg, ds, e1, e2, e3, e4⟩ := wcheck_form h1
      obtain ⟨neg2, es, f1, f2, f3, f4⟩ := wcheck_form h2
      have a1 := sgnd_ge neg ds
      have a2 := sgnd_ge neg2 es
      rw [← e1] at a1
      rw [← f1] at a2
      by_cases hd : sread d ≤ 1 ∨ Nat.gcd (sread n).natAbs (sread d).natAbs ≠ 1
      · rw [if_pos hd] at h0; exact absurd h0 (by decide)
      · have hd1 : ¬ sread d ≤ 1 := fun h => hd (.inl h)
        refine Sz.make (by omega) ?_ ?_
        · rw [e4]; exact sg_len e2 (by omega)
        · rw [f4]; exact sg_len f2 (by omega)

theorem field_err (b c : Bool) (a f : Option Addr) (k p l q : Nat) (err : Int) (w : World) : (Instr.field 150 (.agg #[.bool b, .slice a k p, .bool c, .slice f l q, .int .i64 err]) 1).run Tryz.prog w = .ok (.int .i64 err) w := by kernel_rfl

end Go.Proofs.YtpmlmibceiolpaaGreatDoor

/- ratio.Short, ratio.told, whole.Of. -/
set_option linter.unusedSimpArgs false
set_option linter.unusedVariables false
namespace Go.Proofs.YtpmlmibceiolpaaGreatDoor
open Go.RowKit
open Go.Lib (decDigits itoa nDigits)

/-- Is a text a short number? -/
def rshort (l : List UInt8) : Bool := decide (rerr l = 0) && (decide ((nDigits (rval l).num.natAbs : Int) ≤ 4) && decide ((nDigits ((rval l).den : Int).natAbs : Int) ≤ 4))

end Go.Proofs.YtpmlmibceiolpaaGreatDoor

/- Canonical texts: reading gives back what was written, and what reads without a form error was written so. No program in sight. -/
set_option linter.unusedSimpArgs false
set_option linter.unusedVariables false
namespace Go.Proofs.YtpmlmibceiolpaaGreatDoor
open Go.RowKit
open Go.Lib (decDigits itoa nDigits)

theorem divInt_red0 {m n : Int} (hn : 1 < n) (hg : Nat.gcd m.natAbs n.natAbs = 1) : m = (Rat.divInt m n).num ∧ n = (Rat.divInt m n).den := by
  have h1 : Int.gcd n m = 1 := by unfold Int.gcd; rw [Nat.gcd_comm]; exact hg
  have h2 : n.sign = 1 := Int.sign_eq_one_of_pos (by omega)
  refine ⟨?_, ?_⟩
  · rw [Rat.num_divInt, h1, h2]; simp
  · rw [Rat.den_divInt, if_neg (by omega), h1]; simp; omega

theorem itoa_sgnd (n : Int) : itoa n = sgnd (decide (n < 0)) (decDigits n.natAbs) := by
  unfold itoa sgnd
  by_cases h : n < 0
  · rw [if_pos h]; simp [h]
  · rw [if_neg h]
    have e : n.toNat = n.natAbs := by omega
    simp [h, e]

theorem hasPrefix_dig {ds : List UInt8} (h : Dig ds) : Lib.hasPrefix ds [45] = false := by
  cases ds with
  | nil => rfl
  | cons c r =>
    have := h c (by simp)
    unfold Lib.hasPrefix
    simp [List.isPrefixOf]
    intro e
    subst e
    exact absurd this.1 (by decide)

theorem hasPrefix_sgnd {neg : Bool} {ds : List UInt8} (h : Dig ds) : Lib.hasPrefix (sgnd neg ds) [45] = neg := by
  cases neg
  · simpa [sgnd] using hasPrefix_dig h
  · simp [sgnd, Lib.hasPrefix, List.isPrefixOf]

theorem unsgn_sgnd {neg : Bool} {ds : List UInt8} (h : Dig ds) : unsgn (sgnd neg ds) = ds := trim_neg h neg

theorem sread_sgnd {neg : Bool} {ds : List UInt8} (h : Dig ds) : sread (sgnd neg ds) = sg neg (rd 0 ds) := by
  unfold sread
  rw [hasPrefix_sgnd h, unsgn_sgnd h]

theorem sread_itoa (n : Int) : sread (itoa n) = n := by
  rw [itoa_sgnd, sread_sgnd (decDigits_dig _), rd_decDigits]
  unfold sg
  by_cases h : n < 0
  · simp [h]; omega
  · simp [h]; omega

theorem all_dig {l : List UInt8} (h : Dig l) : l.all isDig = true := by
  rw [List.all_eq_true]
  intro c hc
  have := h c hc
  unfold isDig
  simpa using this

theorem wcheck_itoa (n : Int) : wcheck (itoa n) = if 2000 < nDigits n.natAbs then 6 else 0 := by
  rcases Int.lt_trichotomy n 0 with h | h | h
  all_goals try (
    have hp : 0 < n.natAbs := by omega
    have hu : unsgn (itoa n) = decDigits n.natAbs := by rw [itoa_sgnd]; exact unsgn_sgnd (decDigits_dig _)
    have hne : itoa n ≠ [48] := by
      intro e
      have e2 := sread_itoa n
      rw [e] at e2
      have : sread [48] = 0 := by decide
      omega
    unfold wcheck
    rw [if_neg hne, hu]
    have hl := Lib.decDigits_length n.natAbs
    have ha := all_dig (decDigits_dig n.natAbs)
    have hh := decDigits_head hp
    cases hd : decDigits n.natAbs with
    | nil => exact absurd hd (decDigits_ne _)
    | cons c r =>
      rw [hd] at hl ha hh
      have hc : c ≠ 48 := by intro e; subst e; exact hh _ rfl rfl
      simp only []
      rw [if_neg hc, if_pos ha, hl])
  subst h
  have e0 : itoa 0 = [48] := by decide +kernel
  rw [e0]
  have e1 : nDigits (Int.natAbs 0) = 1 := Lib.nDigits_small (by decide)
  rw [e1]
  decide

theorem wcheck_canon {l : List UInt8} (h : wcheck l ≠ 5) : l = itoa (sread l) := by
  by_cases h0 : l = [48]
  · subst h0; decide +kernel
  · have hu := unsgn_form l
    unfold wcheck at h
    rw [if_neg h0] at h
    cases hd : unsgn l with
    | nil => rw [hd] at h; exact absurd rfl h
    | cons c r =>
      rw [hd] at h
      simp only at h
      by_cases hc : c = 48
      · rw [if_pos hc] at h; exact absurd rfl h
      · rw [if_neg hc] at h
        by_cases ha : (c :: r).all isDig = true
        · have hdg := dig_of_all ha
          have hcn : c.toNat ≠ 48 := by
            intro e
            apply hc
            have := u8_ofNat (c := c) (by omega)
            rw [e] at this
            exact this.symm
          have hr := decDigits_rd r.length (c :: r) rfl hdg (fun x hx => by simp at hx; subst hx; exact .inl hcn)
          have hpos : 0 < rd 0 (c :: r) := by
            rcases Nat.eq_zero_or_pos (rd 0 (c :: r)) with e | e
            · rw [e] at hr
              have e2 : decDigits 0 = [48] := by decide +kernel
              rw [e2] at hr
              injection hr with hr1 _
              exact absurd hr1.symm hc
            · exact e
          unfold sread
          rw [hd, itoa_sgnd, sg_natAbs, hr, sg_neg]
          have e3 : decide (0 < rd 0 (c :: r)) = true := by simpa using hpos
          rw [e3, Bool.and_true, ← hd]
          exact hu
        · rw [if_neg ha] at h; exact absurd rfl h

theorem wcheck_vals (l : List UInt8) : wcheck l = 5 ∨ (∃ n, l = itoa n ∧ sread l = n ∧ wcheck l = if 2000 < nDigits n.natAbs then 6 else 0) := by
  by_cases h : wcheck l = 5
  · exact .inl h
  · refine .inr ⟨sread l, wcheck_canon h, rfl, ?_⟩
    conv => lhs; rw [wcheck_canon h]
    exact wcheck_itoa _

theorem itoa_inj {m n : Int} (h : itoa m = itoa n) : m = n := by rw [← sread_itoa m, h, sread_itoa]

theorem itoa_no (n : Int) : ∀ c ∈ itoa n, c ≠ 47 := by rw [itoa_sgnd]; exact sgnd_no (decDigits_dig _)

theorem itoa_nat (n : Nat) : itoa (n : Int) = decDigits n := Lib.itoa_nonneg n

/-- The text of a number, cut. -/
theorem cut_ratText (x : Rat) : Lib.cut (ratText x) [47] = if x.den = 1 then (itoa x.num, [], false) else (itoa x.num, itoa x.den, true) := by
  unfold ratText
  by_cases h : x.den = 1
  · rw [if_pos h, if_pos h, List.append_nil]
    exact cut_none (itoa_no _)
  · rw [if_neg h, if_neg h, itoa_nat]
    exact cut_some (itoa_no _)

theorem rval_ratText (x : Rat) : rval (ratText x) = x := by
  unfold rval
  rw [cut_ratText]
  by_cases h : x.den = 1
  · rw [if_pos h]
    simp only [Bool.false_eq_true, if_false]
    unfold ratText
    rw [if_pos h, List.append_nil, sread_itoa]
    apply Rat.ext
    · simp
    · simp [h]
  · rw [if_neg h]
    simp only [if_true]
    rw [sread_itoa, sread_itoa]
    exact Rat.num_divInt_den x

theorem wcheck_five (n : Int) : wcheck (itoa n) ≠ 5 := by
  rw [wcheck_itoa]; split <;> decide

/-- Do both parts have at most so many digits? -/
def fitsD (k : Nat) (x : Rat) : Prop := nDigits x.num.natAbs ≤ k ∧ nDigits x.den ≤ k
instance (k : Nat) (x : Rat) : Decidable (fitsD k x) := by unfold fitsD; exact inferInstance

theorem nDigits_one : nDigits 1 = 1 := Lib.nDigits_small (by decide)

theorem rerr_ratText (x : Rat) : rerr (ratText x) = if fitsD 2000 x then 0 else 6 := by
  unfold rerr
  rw [cut_ratText]
  by_cases h : x.den = 1
  · rw [if_pos h]
    simp only [Bool.false_eq_true, if_false]
    have e : ratText x = itoa x.num := by unfold ratText; rw [if_pos h, List.append_nil]
    rw [e, if_neg (wcheck_five _), sread_itoa]
    have e1 : nDigits x.den = 1 := by rw [h]; exact nDigits_one
    by_cases hd : 2000 < nDigits x.num.natAbs
    · rw [if_pos hd, if_neg (fun hf : fitsD 2000 x => by have := hf.1; omega)]
    · rw [if_neg hd, if_pos (show fitsD 2000 x from ⟨by omega, by omega⟩)]
  · rw [if_neg h]
    simp only [if_true]
    rw [sread_itoa, sread_itoa, if_neg (by intro e; rcases e with e | e <;> exact wcheck_five _ e)]
    have h1 := x.den_nz
    have h2 := x.reduced
    rw [if_neg (by
      intro e
      rcases e with e | e
      · omega
      · exact e (by rw [Int.natAbs_natCast]; exact h2))]
    rw [Int.natAbs_natCast]
    by_cases hd : 2000 < nDigits x.num.natAbs ∨ 2000 < nDigits x.den
    · rw [if_pos hd, if_neg (fun hf : fitsD 2000 x => by have h3 := hf.1; have h4 := hf.2; omega)]
    · rw [if_neg hd, if_pos (show fitsD 2000 x from ⟨by omega, by omega⟩)]

theorem ratText_inj {x y : Rat} (h : ratText x = ratText y) : x = y := by rw [← rval_ratText x, h, rval_ratText]

/-- Whatever reads without a form error is the text of its number. -/
theorem rerr_canon {l : List UInt8} (h : rerr l ≠ 5) : l = ratText (rval l) := by
  unfold rerr at h
  unfold rval
  rcases cut_cases l with hc | ⟨n, d, hc, hs⟩
  · rw [hc] at h ⊢
    simp only [Bool.false_eq_true, if_false] at h ⊢
    by_cases h5 : wcheck l = 5
    · rw [if_pos h5] at h; exact absurd rfl h
    · unfold ratText
      rw [Rat.den_intCast, if_pos rfl, List.append_nil, Rat.num_intCast]
      exact wcheck_canon h5
  · rw [hc] at h ⊢
    simp only [if_true] at h ⊢
    by_cases h5 : wcheck n = 5 ∨ wcheck d = 5
    · rw [if_pos h5] at h; exact absurd rfl h
    · rw [if_neg h5] at h
      obtain ⟨h1, h2⟩ := not_or.1 h5
      by_cases hd : sread d ≤ 1 ∨ Nat.gcd (sread n).natAbs (sread d).natAbs ≠ 1
      · rw [if_pos hd] at h; exact absurd rfl h
      · obtain ⟨hd1, hd2⟩ := not_or.1 hd
        have hd2' : Nat.gcd (sread n).natAbs (sread d).natAbs = 1 := Classical.byContradiction fun e => hd2 e
        obtain ⟨e1, e2⟩ := divInt_red0 (by omega) hd2'
        unfold ratText
        rw [← e1]
        have e3 : ((Rat.divInt (sread n) (sread d)).den : Int) = sread d := e2.symm
        have e4 : (Rat.divInt (sread n) (sread d)).den ≠ 1 := by omega
        rw [if_neg e4, hs]
        have e5 : decDigits (Rat.divInt (sread n) (sread d)).den = itoa (sread d) := by rw [← itoa_nat, e3]
        rw [e5, ← wcheck_canon h1, ← wcheck_canon h2]

theorem rerr_vals (l : List UInt8) : rerr l = 5 ∨ (∃ x, l = ratText x ∧ rval l = x ∧ rerr l = if fitsD 2000 x then 0 else 6) := by
  by_cases h : rerr l = 5
  · exact .inl h
  · refine .inr ⟨rval l, rerr_canon h, rfl, ?_⟩
    conv => lhs; rw [rerr_canon h]
    exact rerr_ratText _

theorem limbs_digits {n d : Nat} (h : nDigits n ≤ d) : (limbs n).length ≤ d := by
  apply limbs_len_le
  refine Nat.lt_of_lt_of_le (Lib.lt_pow_nDigits n) ?_
  exact Nat.le_trans (Nat.pow_le_pow_right (by omega) h) (Nat.pow_le_pow_left (by omega) d)

theorem sz_of_fits {k : Nat} {x : Rat} (h : fitsD k x) : Sz k x := ⟨limbs_digits h.1, limbs_digits h.2⟩

theorem rerr_fits {l : List UInt8} (h : rerr l = 0) : fitsD 2000 (rval l) := by
  rcases rerr_vals l with e | ⟨x, e1, e2, e3⟩
  · rw [e] at h; exact absurd h (by decide)
  · rw [e2]
    rw [e3] at h
    by_cases hf : fitsD 2000 x
    · exact hf
    · rw [if_neg hf] at h; exact absurd h (by decide)

end Go.Proofs.YtpmlmibceiolpaaGreatDoor
