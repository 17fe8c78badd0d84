/- The contract of ratio.read: a text as a number, or its error. -/
import Derived.Test.YtmhneibcbjgedaaGreatDoorCheck
set_option linter.unusedSimpArgs false
set_option linter.unusedVariables false
namespace Go.Proofs.YtmhneibcbjgedaaGreatDoor
open Go.RowKit
open Go.Lib (decDigits itoa nDigits)

/-- What a text of an integer reads as. -/
def sread (l : List UInt8) : Int := sg (Lib.hasPrefix l [45]) (rd 0 (unsgn l))

theorem unsgn_form (l : List UInt8) : l = sgnd (Lib.hasPrefix l [45]) (unsgn l) := by
  unfold unsgn Lib.trimPrefix sgnd
  cases h : Lib.hasPrefix l [45]
  · simp
  · unfold Lib.hasPrefix at h
    cases l with
    | nil => simp [List.isPrefixOf] at h
    | cons c r =>
      simp [List.isPrefixOf] at h
      subst h; simp

theorem dig_of_all {l : List UInt8} (h : l.all isDig = true) : Dig l := by
  intro c hc
  have := List.all_eq_true.1 h c hc
  unfold isDig at this
  simpa using this

theorem wcheck_form {l : List UInt8} (h : wcheck l ≠ 5) : ∃ neg ds, l = sgnd neg ds ∧ Dig ds ∧ ds ≠ [] ∧ sread l = sg neg (rd 0 ds) := by
  unfold wcheck at h
  by_cases h0 : l = [48]
  · subst h0
    exact ⟨false, [48], rfl, dig_of_all (by decide), by simp, rfl⟩
  · rw [if_neg h0] at h
    refine ⟨Lib.hasPrefix l [45], unsgn l, unsgn_form l, ?_, ?_, rfl⟩
    · cases hu : unsgn l with
      | nil => rw [hu] at h; exact absurd rfl h
      | cons c r =>
        rw [hu] at h
        simp only at h
        by_cases hc : c = 48
        · rw [if_pos hc] at h; exact absurd rfl h
        · rw [if_neg hc] at h
          by_cases ha : (c :: r).all isDig = true
          · exact dig_of_all ha
          · rw [if_neg ha] at h; exact absurd rfl h
    · intro e; rw [e] at h; exact absurd rfl h

theorem sgnd_ge (neg : Bool) (ds : List UInt8) : ds.length ≤ (sgnd neg ds).length := by rw [sgnd_len]; omega

/-- The error of a text of a number. -/
def rerr (l : List UInt8) : Int :=
  if (Lib.cut l [47]).2.2 = true then
    if wcheck (Lib.cut l [47]).1 = 5 ∨ wcheck (Lib.cut l [47]).2.1 = 5 then 5
    else if sread (Lib.cut l [47]).2.1 ≤ 1 ∨ Nat.gcd (sread (Lib.cut l [47]).1).natAbs (sread (Lib.cut l [47]).2.1).natAbs ≠ 1 then 5
    else if 2000 < nDigits (sread (Lib.cut l [47]).1).natAbs ∨ 2000 < nDigits (sread (Lib.cut l [47]).2.1).natAbs then 6 else 0
  else if wcheck l = 5 then 5 else if 2000 < nDigits (sread l).natAbs then 6 else 0
/-- Its number. -/
def rval (l : List UInt8) : Rat := if (Lib.cut l [47]).2.2 = true then Rat.divInt (sread (Lib.cut l [47]).1) (sread (Lib.cut l [47]).2.1) else (sread l : Rat)

/-- What read hands back. -/
def RetR (w : World) (err : Int) (x : Rat) (e : Ending) (w' : World) : Prop :=
  ∃ b a, ∃ k p : Nat, ∃ c f, ∃ l q : Nat, e = .returned (.agg #[.bool b, .slice a k p, .bool c, .slice f l q, .int .i64 err]) ∧ (err = 0 → Nm w' (.agg #[.bool b, .slice a k p, .bool c, .slice f l q]) x) ∧ Below w.heap.size w w'

theorem Blk.at5 {w : World} {g : Nat} {t : TypeId} {u0 u1 u2 u3 u4 : Value} (h : Blk w g t #[u0, u1, u2, u3, u4]) : w.cell? ⟨g, 0, none⟩ = some u0 ∧ w.cell? ⟨g, 1, none⟩ = some u1 ∧ w.cell? ⟨g, 2, none⟩ = some u2 ∧ w.cell? ⟨g, 3, none⟩ = some u3 ∧ w.cell? ⟨g, 4, none⟩ = some u4 :=
  ⟨by simpa using h.cell 0, by simpa using h.cell 1, by simpa using h.cell 2, by simpa using h.cell 3, by simpa using h.cell 4⟩
theorem Blk.fr5 {w : World} {g : Nat} {t : TypeId} {cs : Array Value} (h : Blk w g t cs) : w.frozen? ⟨g, 0, none⟩ = false ∧ w.frozen? ⟨g, 1, none⟩ = false ∧ w.frozen? ⟨g, 2, none⟩ = false ∧ w.frozen? ⟨g, 3, none⟩ = false ∧ w.frozen? ⟨g, 4, none⟩ = false :=
  ⟨h.frozen 0, h.frozen 1, h.frozen 2, h.frozen 3, h.frozen 4⟩
theorem Blk.five {w : World} {g : Nat} {t : TypeId} {u0 u1 u2 u3 u4 : Value} (h : Blk w g t #[u0, u1, u2, u3, u4]) (x y z u v : Value) : Blk (((((w.setCell ⟨g, 0, none⟩ x).setCell ⟨g, 1, none⟩ y).setCell ⟨g, 2, none⟩ z).setCell ⟨g, 3, none⟩ u).setCell ⟨g, 4, none⟩ v) g t #[x, y, z, u, v] := by
  simpa using ((((h.set_ 0 x).set_ 1 y).set_ 2 z).set_ 3 u).set_ 4 v
theorem below_five {B : Nat} {a w : World} {g : Nat} (h : Below B a w) (hg : B ≤ g) (x y z u v : Value) : Below B a (((((w.setCell ⟨g, 0, none⟩ x).setCell ⟨g, 1, none⟩ y).setCell ⟨g, 2, none⟩ z).setCell ⟨g, 3, none⟩ u).setCell ⟨g, 4, none⟩ v) :=
  (below_four h hg x y z u).setCell (p := ⟨g, 4, none⟩) hg v
theorem Nm.five {w : World} {v : Value} {n : Rat} {g : Nat} {t : TypeId} {u0 u1 u2 u3 u4 : Value} (h : Nm w v n) (hb : Blk w g t #[u0, u1, u2, u3, u4]) (ht : t ≠ 122) (x y z u s : Value) : Nm (((((w.setCell ⟨g, 0, none⟩ x).setCell ⟨g, 1, none⟩ y).setCell ⟨g, 2, none⟩ z).setCell ⟨g, 3, none⟩ u).setCell ⟨g, 4, none⟩ s) v n := by
  obtain ⟨a, b, c, d, h1, h2, h3⟩ := h
  have far : ∀ {y : Value} {n : Int}, Wh w y n → Wh (((((w.setCell ⟨g, 0, none⟩ x).setCell ⟨g, 1, none⟩ y).setCell ⟨g, 2, none⟩ z).setCell ⟨g, 3, none⟩ u).setCell ⟨g, 4, none⟩ s) y n → True := fun _ _ => trivial
  have key : ∀ {v : Value} {n : Int}, Wh w v n → Wh (((((w.setCell ⟨g, 0, none⟩ x).setCell ⟨g, 1, none⟩ y).setCell ⟨g, 2, none⟩ z).setCell ⟨g, 3, none⟩ u).setCell ⟨g, 4, none⟩ s) v n := by
    rintro v n ⟨sv, hv, hl⟩
    exact ⟨sv, hv, ((((hl.far hb ht x).far (hb.set_ 0 x) ht y).far ((hb.set_ 0 x).set_ 1 y) ht z).far (((hb.set_ 0 x).set_ 1 y).set_ 2 z) ht u).far ((((hb.set_ 0 x).set_ 1 y).set_ 2 z).set_ 3 u) ht s⟩
  exact ⟨a, b, c, d, h1, key h2, key h3⟩

set_option maxHeartbeats 2000000 in
set_option maxRecDepth 100000 in
/-- A text that is malformed at once. -/
theorem rread_form {w : World} {l n d : List UInt8} {f : Bool} (hcut : Lib.cut l [47] = (n, d, f)) (hl : l.length ≤ 4294960000) (hnl : n.length ≤ 4294960000) (hdl : d.length ≤ 4294960000) (hg : Good w) (h5 : wcheck n = 5 ∨ (f = true ∧ wcheck d = 5)) (x : Rat) :
    Calls Tryz.prog 80 #[.string ⟨l.toArray⟩] w (RetR w 5 x) := by
  obtain ⟨W, hW, hB, hsz, j1⟩ := entA w 106 #[.bool false, .slice none 0 0, .bool false, .slice none 0 0, .int .i64 0]
  have HW := Lib.hid hW
  clear hW hsz
  have hc := cut_any (w := W) l (hg.below hB) (by omega) hcut
  have c1 := fun (V : World) => check_any (w := V) n (by omega)
  have c2 := fun (V : World) => check_any (w := V) d (by omega)
  have hone : ((⟨#[49]⟩ : ByteArray)) = ⟨#[49]⟩ := rfl
  generalize hwn : wcheck n = wn at *
  generalize hwd : wcheck d = wd at *
  obtain ⟨L, hL⟩ : ∃ L : ByteArray, L = ⟨l.toArray⟩ := ⟨_, rfl⟩
  obtain ⟨N, hN⟩ : ∃ N : ByteArray, N = ⟨n.toArray⟩ := ⟨_, rfl⟩
  obtain ⟨D, hD⟩ : ∃ D : ByteArray, D = ⟨d.toArray⟩ := ⟨_, rfl⟩
  rw [← hL] at hc ⊢
  rw [← hN, ← hD] at hc
  rw [← hN] at c1
  rw [← hD] at c2
  have HC := Lib.hid hc
  have C1 := Lib.hid c1
  have C2 := Lib.hid c2
  clear hc c1 c2 hwn hwd hL hN hD hcut hg hone
  go_enter Tryz.func80, Tryz.ntmps80
  go_upto_region 1 with fail
  rw [← HW.out]
  by_cases hw5 : wn = 5
  · subst hw5
    clear h5
    cases f
    all_goals
      go_upto_region 5 with (first
        | (go_at_call 128; refine HC.out.mono ?_; rintro e w1 ⟨rfl, hb1⟩)
        | (go_at_call 124; refine (C1.out _).mono ?_; rintro e w2 ⟨rfl, hb2⟩))
      have hb := hB.trans ((hb1.trans (hb2.mono hb1.size)).mono hB.size)
      have i1 := (j1.next hb1).next hb2
      obtain ⟨q0, q1, q2, q3, q4⟩ := i1.at5
      obtain ⟨u0, u1, u2, u3, u4⟩ := i1.fr5
      go_wp2
      have hj := i1.five (.bool false) (.slice none 0 0) (.bool false) (.slice none 0 0) (.int .i64 5)
      obtain ⟨d0, d1, d2, d3, d4⟩ := hj.at5
      refine bodyPost_ret (v := .agg #[.bool false, .slice none 0 0, .bool false, .slice none 0 0, .int .i64 5]) (by simp [results, Tryz.results80, go_sem, d0, d1, d2, d3, d4]) rfl ⟨_, _, _, _, _, _, _, _, rfl, fun h => absurd h (by decide), below_five hb (Nat.le_refl _) _ _ _ _ _⟩
  · obtain ⟨rfl, rfl⟩ := h5.resolve_left hw5
    have hw5' : (wn == 5) = false := by simpa using hw5
    clear h5 hw5
    go_upto_region 5 with (first
      | (go_at_call 128; refine HC.out.mono ?_; rintro e w1 ⟨rfl, hb1⟩)
      | (go_at_call_of 124 (Value.string N); refine (C1.out _).mono ?_; rintro e w2 ⟨rfl, hb2⟩; have tok := hb2)
      | (go_at_call 124; refine (C2.out _).mono ?_; rintro e w3 ⟨rfl, hb3⟩))
    have hb12 := hb1.trans (hb2.mono hb1.size)
    have hb := hB.trans ((hb12.trans (hb3.mono hb12.size)).mono hB.size)
    have i1 := ((j1.next hb1).next hb2).next hb3
    obtain ⟨q0, q1, q2, q3, q4⟩ := i1.at5
    obtain ⟨u0, u1, u2, u3, u4⟩ := i1.fr5
    go_wp2
    have hj := i1.five (.bool false) (.slice none 0 0) (.bool false) (.slice none 0 0) (.int .i64 5)
    obtain ⟨d0, d1, d2, d3, d4⟩ := hj.at5
    refine bodyPost_ret (v := .agg #[.bool false, .slice none 0 0, .bool false, .slice none 0 0, .int .i64 5]) (by simp [results, Tryz.results80, go_sem, d0, d1, d2, d3, d4]) rfl ⟨_, _, _, _, _, _, _, _, rfl, fun h => absurd h (by decide), below_five hb (Nat.le_refl _) _ _ _ _ _⟩

end Go.Proofs.YtmhneibcbjgedaaGreatDoor
