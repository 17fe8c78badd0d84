/- The contracts of exact.From and of the small methods of numbers: parts, wholeness, digits, text. -/
import Derived.Test.YtmhneibcbjgedaaGreatDoorRead
set_option linter.unusedSimpArgs false
set_option linter.unusedVariables false
namespace Go.Proofs.YtmhneibcbjgedaaGreatDoor
open Go.RowKit
open Go.Lib (decDigits itoa nDigits)

/-- A numerator and a denominator, in lowest terms or not. -/
def Pr (w : World) (v : Value) (m n : Int) : Prop := ∃ a b c d, v = .agg #[a, b, c, d] ∧ Wh w (.agg #[a, b]) m ∧ Wh w (.agg #[c, d]) n
theorem Nm.pr {w : World} {v : Value} {x : Rat} (h : Nm w v x) : Pr w v x.num x.den := h
theorem Pr.nm {w : World} {v : Value} {m n : Int} {x : Rat} (h : Pr w v m n) (hm : m = x.num) (hn : n = x.den) : Nm w v x := by subst hm; subst hn; exact h
theorem Pr.below {w w' : World} {v : Value} {m n : Int} (h : Pr w v m n) (hb : Below w.heap.size w w') : Pr w' v m n := by
  obtain ⟨a, b, c, d, h1, h2, h3⟩ := h
  exact ⟨a, b, c, d, h1, h2.below hb, h3.below hb⟩
theorem Pr.parts {w : World} {v : Value} {m n : Int} (h : Pr w v m n) : ∃ b a, ∃ k p : Nat, ∃ c e, ∃ l q : Nat, v = .agg #[.bool b, .slice a k p, .bool c, .slice e l q] ∧ Wh w (.agg #[.bool b, .slice a k p]) m ∧ Wh w (.agg #[.bool c, .slice e l q]) n := by
  obtain ⟨v1, v2, v3, v4, rfl, h1, h2⟩ := h
  obtain ⟨b, a, k, p, e1⟩ := h1.parts
  obtain ⟨c, e, l, q, e2⟩ := h2.parts
  injection e1 with e1
  injection e2 with e2
  simp at e1 e2
  obtain ⟨rfl, rfl⟩ := e1
  obtain ⟨rfl, rfl⟩ := e2
  exact ⟨b, a, k, p, c, e, l, q, rfl, h1, h2⟩
theorem Pr.four {w : World} {v : Value} {m n : Int} {g : Nat} {t : TypeId} {u0 u1 u2 u3 : Value} (h : Pr w v m n) (hb : Blk w g t #[u0, u1, u2, u3]) (ht : t ≠ 122) (x y z u : Value) : Pr ((((w.setCell ⟨g, 0, none⟩ x).setCell ⟨g, 1, none⟩ y).setCell ⟨g, 2, none⟩ z).setCell ⟨g, 3, none⟩ u) v m n := by
  obtain ⟨a, b, c, d, h1, h2, h3⟩ := h
  exact ⟨a, b, c, d, h1, h2.four hb ht x y z u, h3.four hb ht x y z u⟩
def RetP (w : World) (m n : Int) (e : Ending) (w' : World) : Prop := ∃ r, e = .returned r ∧ Pr w' r m n ∧ Below w.heap.size w w'

theorem index_none : ∀ (l : List UInt8), (∀ c ∈ l, c ≠ 47) → Lib.index l [47] = -1 := by
  intro l
  induction l with
  | nil => intro _; rfl
  | cons c r ih =>
    intro h
    have h1 := ih (fun x hx => h x (List.mem_cons_of_mem _ hx))
    have h2 := h c (List.mem_cons_self ..)
    simp only [Lib.index, h1]
    have : ([47] : List UInt8).isPrefixOf (c :: r) = false := by
      simp only [List.isPrefixOf, Bool.and_eq_false_iff]
      left; rw [beq_eq_false_iff_ne]; exact fun e => h2 e.symm
    rw [this]; rfl
theorem index_some : ∀ (a b : List UInt8), (∀ c ∈ a, c ≠ 47) → Lib.index (a ++ 47 :: b) [47] = a.length := by
  intro a
  induction a with
  | nil => intro b _; simp [Lib.index, List.isPrefixOf]
  | cons c r ih =>
    intro b h
    have h1 := ih b (fun x hx => h x (List.mem_cons_of_mem _ hx))
    have h2 := h c (List.mem_cons_self ..)
    simp only [List.cons_append, Lib.index, h1]
    have : ([47] : List UInt8).isPrefixOf (c :: (r ++ 47 :: b)) = false := by
      simp only [List.isPrefixOf, Bool.and_eq_false_iff]
      left; rw [beq_eq_false_iff_ne]; exact fun e => h2 e.symm
    rw [this]
    have : ((r.length : Int) == -1) = false := by rw [beq_eq_false_iff_ne]; omega
    rw [this]; simp

theorem cut_none {l : List UInt8} (h : ∀ c ∈ l, c ≠ 47) : Lib.cut l [47] = (l, [], false) := by
  unfold Lib.cut; rw [index_none l h]; rfl
theorem cut_some {a b : List UInt8} (h : ∀ c ∈ a, c ≠ 47) : Lib.cut (a ++ 47 :: b) [47] = (a, b, true) := by
  unfold Lib.cut
  rw [index_some a b h, if_pos (by omega)]
  simp

theorem sgnd_no {neg : Bool} {ds : List UInt8} (h : Dig ds) : ∀ c ∈ sgnd neg ds, c ≠ 47 := by
  intro c hc
  unfold sgnd at hc
  rcases List.mem_append.1 hc with h1 | h1
  · cases neg
    · cases h1
    · simp at h1; subst h1; decide
  · intro e; subst e
    exact absurd (h 47 h1).1 (by decide)

/-- A call of strings.Cut. -/
theorem cut_any {w : World} (l : List UInt8) (hg : Good w) (hl : l.length < 4294967281) {a b : List UInt8} {f : Bool} (hc : Lib.cut l [47] = (a, b, f)) :
    Calls Tryz.prog 128 #[.string ⟨l.toArray⟩, .string ⟨#[47]⟩] w (RetV w (.tuple #[.string ⟨a.toArray⟩, .string ⟨b.toArray⟩, .bool f])) := by
  obtain ⟨_, m, hm⟩ := hg
  refine (Tryz.strings_Cut ⟨l.toArray⟩ ⟨#[47]⟩ m w (by show l.toArray.size < _; rw [List.size_toArray]; exact hl) hm).mono ?_
  rintro e w' ⟨rfl, n, rfl⟩
  have e1 : Lib.cut (⟨l.toArray⟩ : ByteArray).data.toList (⟨#[47]⟩ : ByteArray).data.toList = (a, b, f) := hc
  rw [e1]
  exact ⟨rfl, (Drawn.of w n).below _⟩

set_option maxHeartbeats 1000000 in
set_option maxRecDepth 100000 in
/-- A text without a slash. -/
theorem from_whole {w : World} (neg : Bool) {ds : List UInt8} (hd : Dig ds) (hlen : ds.length ≤ 4294967000) (hg : Good w) :
    Calls Tryz.prog 91 #[.string ⟨(sgnd neg ds).toArray⟩] w (RetP w (sg neg (rd 0 ds)) 1) := by
  obtain ⟨W, hW, hB, hsz, j1⟩ := entA w 69 #[.bool false, .slice none 0 0, .bool false, .slice none 0 0]
  have HW := Lib.hid hW
  clear hW hsz
  have hcut := cut_any (w := W) (sgnd neg ds) (hg.below hB) (by rw [sgnd_len]; cases neg <;> simp <;> omega) (cut_none (sgnd_no hd))
  have HC := Lib.hid hcut
  have hrd := fun (V : World) => read_any (w := V) neg hd (by omega)
  have HR := Lib.hid hrd
  clear hcut hrd hg
  obtain ⟨S, hS⟩ : ∃ S : ByteArray, S = ⟨(sgnd neg ds).toArray⟩ := ⟨_, rfl⟩
  rw [← hS] at HC HR ⊢
  clear hS
  go_enter Tryz.func91, Tryz.ntmps91
  go_upto_region 1 with fail
  rw [← HW.out]
  go_wp2_with (first
    | (go_at_call 128; refine HC.out.mono ?_; rintro e w1 ⟨rfl, hb1⟩)
    | (go_at_call 125; refine (HR.out _).mono ?_; rintro e w2 ⟨r, rfl, hr, hb2⟩; obtain ⟨b4, a4, k4, p4, rfl⟩ := hr.parts)
    | (go_at_call 83; refine (small_any (n := 1) (by decide) (by decide)).mono ?_; rintro e w3 ⟨r3, rfl, hr3, hb3⟩; obtain ⟨b5, a5, k5, p5, rfl⟩ := hr3.parts; have hj := ((j1.next hb1).next hb2).next hb3; obtain ⟨c0, c1, c2, c3⟩ := hj.at4; obtain ⟨u0, u1, u2, u3⟩ := hj.fr4; have jw := Lib.hid (hj.four (.bool b4) (.slice a4 k4 p4) (.bool b5) (.slice a5 k5 p5)); have pw := Lib.hid (Pr.four ⟨_, _, _, _, rfl, hr.below hb3, hr3⟩ hj (by decide) (.bool b4) (.slice a4 k4 p4) (.bool b5) (.slice a5 k5 p5)); have pb := Lib.hid (next_below (next_below (next_below hB hb1) hb2) hb3); clear hr hr3))
  obtain ⟨d0, d1, d2, d3⟩ := jw.out.at4
  refine bodyPost_ret (v := .agg #[.bool b4, .slice a4 k4 p4, .bool b5, .slice a5 k5 p5]) (by simp [results, Tryz.results91, go_sem, d0, d1, d2, d3]) rfl ⟨_, rfl, pw.out, below_four pb.out (Nat.le_refl _) _ _ _ _⟩

set_option maxHeartbeats 1000000 in
set_option maxRecDepth 100000 in
/-- A text with a slash. -/
theorem from_frac {w : World} (neg neg2 : Bool) {ds es : List UInt8} (hd : Dig ds) (he : Dig es) (hlen : ds.length + es.length ≤ 4294967000) (hg : Good w) :
    Calls Tryz.prog 91 #[.string ⟨(sgnd neg ds ++ 47 :: sgnd neg2 es).toArray⟩] w (RetP w (sg neg (rd 0 ds)) (sg neg2 (rd 0 es))) := by
  obtain ⟨W, hW, hB, hsz, j1⟩ := entA w 69 #[.bool false, .slice none 0 0, .bool false, .slice none 0 0]
  have HW := Lib.hid hW
  clear hW hsz
  have hcut := cut_any (w := W) (sgnd neg ds ++ 47 :: sgnd neg2 es) (hg.below hB) (by simp only [List.length_append, List.length_cons]; rw [sgnd_len, sgnd_len]; cases neg <;> cases neg2 <;> simp <;> omega) (cut_some (sgnd_no hd))
  have HC := Lib.hid hcut
  have hrd := fun (V : World) => read_any (w := V) neg hd (by omega)
  have hrd2 := fun (V : World) => read_any (w := V) neg2 he (by omega)
  have HR := Lib.hid hrd
  have HR2 := Lib.hid hrd2
  clear hcut hrd hrd2 hg
  obtain ⟨Q, hQ⟩ : ∃ Q : ByteArray, Q = ⟨(sgnd neg ds ++ 47 :: sgnd neg2 es).toArray⟩ := ⟨_, rfl⟩
  obtain ⟨S, hS⟩ : ∃ S : ByteArray, S = ⟨(sgnd neg ds).toArray⟩ := ⟨_, rfl⟩
  obtain ⟨T, hT⟩ : ∃ T : ByteArray, T = ⟨(sgnd neg2 es).toArray⟩ := ⟨_, rfl⟩
  rw [← hQ] at HC ⊢
  rw [← hS, ← hT] at HC
  rw [← hS] at HR
  rw [← hT] at HR2
  clear hS hT hQ
  go_enter Tryz.func91, Tryz.ntmps91
  go_upto_region 1 with fail
  rw [← HW.out]
  go_wp2_with (first
    | (go_at_call 128; refine HC.out.mono ?_; rintro e w1 ⟨rfl, hb1⟩)
    | (go_at_call_of 125 (Value.string S); refine (HR.out _).mono ?_; rintro e w2 ⟨r, rfl, hr, hb2⟩; obtain ⟨b4, a4, k4, p4, rfl⟩ := hr.parts)
    | (go_at_call_of 125 (Value.string T); refine (HR2.out _).mono ?_; rintro e w3 ⟨r3, rfl, hr3, hb3⟩; obtain ⟨b5, a5, k5, p5, rfl⟩ := hr3.parts; have hj := ((j1.next hb1).next hb2).next hb3; obtain ⟨c0, c1, c2, c3⟩ := hj.at4; obtain ⟨u0, u1, u2, u3⟩ := hj.fr4; have jw := Lib.hid (hj.four (.bool b4) (.slice a4 k4 p4) (.bool b5) (.slice a5 k5 p5)); have pw := Lib.hid (Pr.four ⟨_, _, _, _, rfl, hr.below hb3, hr3⟩ hj (by decide) (.bool b4) (.slice a4 k4 p4) (.bool b5) (.slice a5 k5 p5)); have pb := Lib.hid (next_below (next_below (next_below hB hb1) hb2) hb3); clear hr hr3))
  obtain ⟨d0, d1, d2, d3⟩ := jw.out.at4
  refine bodyPost_ret (v := .agg #[.bool b4, .slice a4 k4 p4, .bool b5, .slice a5 k5 p5]) (by simp [results, Tryz.results91, go_sem, d0, d1, d2, d3]) rfl ⟨_, rfl, pw.out, below_four pb.out (Nat.le_refl _) _ _ _ _⟩

end Go.Proofs.YtmhneibcbjgedaaGreatDoor
