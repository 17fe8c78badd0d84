/- ratio.read at any text; ratio.Check, ratio.Short, ratio.told, whole.Of. -/
import Derived.Test.YtmhneibcbjgedaaGreatDoorRRead3
set_option linter.unusedSimpArgs false
set_option linter.unusedVariables false
namespace Go.Proofs.YtmhneibcbjgedaaGreatDoor
open Go.RowKit
open Go.Lib (decDigits itoa nDigits)

theorem index_split : ∀ (l : List UInt8), 0 ≤ Lib.index l [47] → l = l.take (Lib.index l [47]).toNat ++ 47 :: l.drop ((Lib.index l [47]).toNat + 1) := by
  intro l
  induction l with
  | nil => intro h; exact absurd h (by decide)
  | cons c r ih =>
    intro h
    simp only [Lib.index] at h ⊢
    by_cases hp : ([47] : List UInt8).isPrefixOf (c :: r) = true
    · rw [if_pos hp]
      simp [List.isPrefixOf] at hp
      subst hp
      rfl
    · rw [if_neg hp] at h ⊢
      by_cases h1 : (Lib.index r [47] == -1) = true
      · rw [if_pos h1] at h; exact absurd h (by decide)
      · rw [if_neg h1] at h ⊢
        have h2 := Lib.index_ge r [47]
        have h3 : Lib.index r [47] ≠ -1 := by simpa using h1
        have h4 : 0 ≤ Lib.index r [47] := by omega
        have h5 : (Lib.index r [47] + 1).toNat = (Lib.index r [47]).toNat + 1 := by omega
        rw [h5]
        simp only [List.take_succ_cons, List.drop_succ_cons, List.cons_append]
        rw [← ih h4]

theorem cut_cases (l : List UInt8) : (Lib.cut l [47] = (l, [], false)) ∨ ∃ n d, Lib.cut l [47] = (n, d, true) ∧ l = n ++ 47 :: d := by
  unfold Lib.cut
  by_cases h : 0 ≤ Lib.index l [47]
  · rw [if_pos h]
    exact .inr ⟨_, _, rfl, index_split l h⟩
  · rw [if_neg h]; exact .inl rfl

theorem rread_any {w : World} (l : List UInt8) (hl : l.length ≤ 268435000) (hg : Good w) :
    Calls Tryz.prog 80 #[.string ⟨l.toArray⟩] w (RetR w (rerr l) (rval l)) := by
  unfold rerr rval
  rcases cut_cases l with hc | ⟨n, d, hc, hs⟩
  · rw [hc]
    simp only [Bool.false_eq_true, if_false]
    by_cases h5 : wcheck l = 5
    · rw [if_pos h5]
      exact rread_form hc (by omega) (by omega) (by simp) hg (.inl h5) _
    · rw [if_neg h5]
      obtain ⟨neg, ds, e1, e2, e3, e4⟩ := wcheck_form h5
      rw [e4]
      have h := rread_int (w := w) (neg := neg) e2 (by have := sgnd_ge neg ds; rw [← e1] at this; omega) hg (by rw [← e1]; exact h5)
      rw [← e1] at h
      exact h
  · rw [hc]
    simp only [if_true]
    have hln : n.length + d.length ≤ 268435000 := by rw [hs] at hl; simp at hl; omega
    by_cases h5 : wcheck n = 5 ∨ wcheck d = 5
    · rw [if_pos h5]
      exact rread_form hc (by omega) (by omega) (by omega) hg (h5.imp id (fun h => ⟨rfl, h⟩)) _
    · rw [if_neg h5]
      obtain ⟨h1, h2⟩ := not_or.1 h5
      obtain ⟨neg, ds, e1, e2, e3, e4⟩ := wcheck_form h1
      obtain ⟨neg2, es, f1, f2, f3, f4⟩ := wcheck_form h2
      rw [e4, f4]
      have a1 := sgnd_ge neg ds
      have a2 := sgnd_ge neg2 es
      rw [← e1] at a1
      rw [← f1] at a2
      have h := rread_frac (w := w) (neg := neg) (neg2 := neg2) e2 f2 (by omega) hg (by rw [← e1]; exact h1) (by rw [← f1]; exact h2)
      rw [← e1, ← f1, ← hs] at h
      unfold fracErr at h
      exact h

/-- Numbers that were read are small. -/
theorem rval_sz {l : List UInt8} (hl : l.length ≤ 268435000) (h0 : rerr l = 0) : Sz 268435456 (rval l) := by
  unfold rerr at h0
  unfold rval
  rcases cut_cases l with hc | ⟨n, d, hc, hs⟩
  · rw [hc] at h0 ⊢
    simp only [Bool.false_eq_true, if_false] at h0 ⊢
    by_cases h5 : wcheck l = 5
    · rw [if_pos h5] at h0; exact absurd h0 (by decide)
    · obtain ⟨neg, ds, e1, e2, e3, e4⟩ := wcheck_form h5
      rw [e4]
      have a1 := sgnd_ge neg ds
      rw [← e1] at a1
      exact ⟨by rw [Rat.num_intCast]; exact sg_len e2 (by omega), by rw [Rat.den_intCast]; exact Nat.le_trans (limbs_len_le (k := 1) (by decide)) (by omega)⟩
  · rw [hc] at h0 ⊢
    simp only [if_true] at h0 ⊢
    have hln : n.length + d.length ≤ 268435000 := by rw [hs] at hl; simp at hl; omega
    by_cases h5 : wcheck n = 5 ∨ wcheck d = 5
    · rw [if_pos h5] at h0; exact absurd h0 (by decide)
    · rw [if_neg h5] at h0
      obtain ⟨h1, h2⟩ := not_or.1 h5
      obtain ⟨neg, ds, e1, e2, e3, e4⟩ := wcheck_form h1
      obtain ⟨neg2, es, f1, f2, f3, f4⟩ := wcheck_form h2
      have a1 := sgnd_ge neg ds
      have a2 := sgnd_ge neg2 es
      rw [← e1] at a1
      rw [← f1] at a2
      by_cases hd : sread d ≤ 1 ∨ Nat.gcd (sread n).natAbs (sread d).natAbs ≠ 1
      · rw [if_pos hd] at h0; exact absurd h0 (by decide)
      · have hd1 : ¬ sread d ≤ 1 := fun h => hd (.inl h)
        refine Sz.make (by omega) ?_ ?_
        · rw [e4]; exact sg_len e2 (by omega)
        · rw [f4]; exact sg_len f2 (by omega)

theorem field_err (b c : Bool) (a f : Option Addr) (k p l q : Nat) (err : Int) (w : World) : (Instr.field 106 (.agg #[.bool b, .slice a k p, .bool c, .slice f l q, .int .i64 err]) 1).run Tryz.prog w = .ok (.int .i64 err) w := by kernel_rfl

set_option maxHeartbeats 1000000 in
set_option maxRecDepth 100000 in
theorem rcheck_any {w : World} (l : List UInt8) (hl : l.length ≤ 268435000) (hg : Good w) :
    Calls Tryz.prog 90 #[.string ⟨l.toArray⟩] w (RetV w (.int .i64 (rerr l))) := by
  have hc := Lib.hid (rread_any l hl hg)
  generalize rerr l = err at *
  generalize rval l = x at *
  generalize (⟨l.toArray⟩ : ByteArray) = L at *
  have fl : ∀ (b c : Bool) (a f : Option Addr) (k p l q : Nat) (w : World), (Instr.field 106 (.agg #[.bool b, .slice a k p, .bool c, .slice f l q, .int .i64 err]) 1).run Tryz.prog w = .ok (.int .i64 err) w := by
    intro b c a f k p l q w
    exact field_err b c a f k p l q err w
  go_enter Tryz.func90, Tryz.ntmps90
  go_wp2_with (go_at_call 80; refine hc.out.mono ?_; rintro e w1 ⟨b, a, k, p, c, f, l, q, rfl, hn, hb⟩)
  go_ret
  exact ⟨rfl, hb⟩

end Go.Proofs.YtmhneibcbjgedaaGreatDoor
