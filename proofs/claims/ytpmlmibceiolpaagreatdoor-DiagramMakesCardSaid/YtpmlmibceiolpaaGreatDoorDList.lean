/- Numbers that fit; lists of numbers and of texts. -/
import Derived.Test.YtpmlmibceiolpaaGreatDoorTFit
import Derived.Test.YtpmlmibceiolpaaGreatDoorTWhole
set_option linter.unusedSimpArgs false
set_option linter.unusedVariables false
namespace Go.Proofs.YtpmlmibceiolpaaGreatDoor
open Go.RowKit
open Go.Lib (decDigits itoa nDigits)

theorem fits_mul {k l : Nat} {x y : Rat} (hx : fitsD k x) (hy : fitsD l y) : fitsD (k + l) (x * y) := by
  rw [← rat_mul x y]
  refine ⟨Nat.le_trans (D4.nDigits_mono (D4.divInt_num_le _ _)) (D4.nDigits_imul hx.1 hy.1), Nat.le_trans (D4.nDigits_mono (D4.divInt_den_le _ (Int.mul_ne_zero (den_ne x) (den_ne y)))) (D4.nDigits_imul (D4.den_fit x hx) (D4.den_fit y hy))⟩
theorem fits_add {k : Nat} {x y : Rat} (hx : fitsD k x) (hy : fitsD k y) : fitsD (k + k + 1) (x + y) := by
  rw [← rat_add x y]
  refine ⟨Nat.le_trans (D4.nDigits_mono (D4.divInt_num_le _ _)) (D4.nDigits_iadd (D4.nDigits_imul hx.1 (D4.den_fit y hy)) (D4.nDigits_imul hy.1 (D4.den_fit x hx))), Nat.le_trans (D4.nDigits_mono (D4.divInt_den_le _ (Int.mul_ne_zero (den_ne x) (den_ne y)))) (Nat.le_trans (D4.nDigits_imul (D4.den_fit x hx) (D4.den_fit y hy)) (by omega))⟩
theorem fits_add2 {j k : Nat} {x y : Rat} (hx : fitsD j x) (hy : fitsD k y) : fitsD (j + k + 1) (x + y) := by
  rw [← rat_add x y]
  have h1 := D4.nDigits_imul hx.1 (D4.den_fit y hy)
  have h2 := D4.nDigits_imul hy.1 (D4.den_fit x hx)
  rw [Nat.add_comm k j] at h2
  refine ⟨Nat.le_trans (D4.nDigits_mono (D4.divInt_num_le _ _)) (D4.nDigits_iadd h1 h2), Nat.le_trans (D4.nDigits_mono (D4.divInt_den_le _ (Int.mul_ne_zero (den_ne x) (den_ne y)))) (Nat.le_trans (D4.nDigits_imul (D4.den_fit x hx) (D4.den_fit y hy)) (by omega))⟩
theorem fits_up {j k : Nat} {x : Rat} (h : fitsD j x) (hk : j ≤ k) : fitsD k x := ⟨Nat.le_trans h.1 hk, Nat.le_trans h.2 hk⟩
end Go.Proofs.YtpmlmibceiolpaaGreatDoor

/- Lists of numbers on the heap: exact.List, exact.Zero. -/
set_option linter.unusedSimpArgs false
set_option linter.unusedVariables false
namespace Go.Proofs.YtpmlmibceiolpaaGreatDoor
open Go.RowKit
open Go.Lib (decDigits itoa nDigits)

def Nms (w : World) : List Value → List Rat → Prop
  | [], [] => True
  | a :: b :: c :: d :: r, x :: xs => Nm w (.agg #[a, b, c, d]) x ∧ Nms w r xs
  | _, _ => False
theorem Nms.below_old {w w' : World} (hb : Below w.heap.size w w') : ∀ (cs : List Value) (xs : List Rat), Nms w cs xs → Nms w' cs xs
  | [], [], _ => trivial
  | a :: b :: c :: d :: r, n :: ns, h => ⟨h.1.below hb, Nms.below_old hb r ns h.2⟩
  | [], _ :: _, h => h.elim
  | [_], [], h => h.elim
  | [_], _ :: _, h => h.elim
  | [_, _], [], h => h.elim
  | [_, _], _ :: _, h => h.elim
  | [_, _, _], [], h => h.elim
  | [_, _, _], _ :: _, h => h.elim
  | _ :: _ :: _ :: _ :: _, [], h => h.elim
theorem Nms.below {w w' : World} {cs : List Value} {xs : List Rat} (h : Nms w cs xs) (hb : Below w.heap.size w w') : Nms w' cs xs := Nms.below_old hb cs xs h
theorem Nms.snoc {w : World} {a b c d : Value} {x : Rat} (hn : Nm w (.agg #[a, b, c, d]) x) : ∀ (cs : List Value) (xs : List Rat), Nms w cs xs → Nms w (cs ++ [a, b, c, d]) (xs ++ [x])
  | [], [], _ => ⟨hn, trivial⟩
  | x :: y :: z :: u :: r, m :: ns, h => ⟨h.1, Nms.snoc hn r ns h.2⟩
  | [], _ :: _, h => h.elim
  | [_], [], h => h.elim
  | [_], _ :: _, h => h.elim
  | [_, _], [], h => h.elim
  | [_, _], _ :: _, h => h.elim
  | [_, _, _], [], h => h.elim
  | [_, _, _], _ :: _, h => h.elim
  | _ :: _ :: _ :: _ :: _, [], h => h.elim
theorem Nm.of_grown {w w' : World} {t : TypeId} {row : Option Nat} (hg : w.grownBy w' row) (hr : ∀ g, row = some g → ∃ cs, Blk w g t cs) (ht : t ≠ 143) {v : Value} {x : Rat} (h : Nm w v x) : Nm w' v x := by
  obtain ⟨a, b, c, d, h1, h2, h3⟩ := h
  exact ⟨a, b, c, d, h1, Whs.of_grown hg hr ht h2, Whs.of_grown hg hr ht h3⟩
theorem Nms.grown {w w' : World} {t : TypeId} {row : Option Nat} (hg : w.grownBy w' row) (hr : ∀ g, row = some g → ∃ cs, Blk w g t cs) (ht : t ≠ 143) : ∀ (cs : List Value) (xs : List Rat), Nms w cs xs → Nms w' cs xs
  | [], [], _ => trivial
  | a :: b :: c :: d :: r, n :: ns, h => ⟨Nm.of_grown hg hr ht h.1, Nms.grown hg hr ht r ns h.2⟩
  | [], _ :: _, h => h.elim
  | [_], [], h => h.elim
  | [_], _ :: _, h => h.elim
  | [_, _], [], h => h.elim
  | [_, _], _ :: _, h => h.elim
  | [_, _, _], [], h => h.elim
  | [_, _, _], _ :: _, h => h.elim
  | _ :: _ :: _ :: _ :: _, [], h => h.elim
theorem Nms.at_ {w : World} : ∀ (cs : List Value) (xs : List Rat) (i : Nat), Nms w cs xs → i < xs.length → ∃ a b c d, cs[4 * i]? = some a ∧ cs[4 * i + 1]? = some b ∧ cs[4 * i + 2]? = some c ∧ cs[4 * i + 3]? = some d ∧ Nm w (.agg #[a, b, c, d]) (xs.getD i 0)
  | [], [], _, _, hi => by simp at hi
  | a :: b :: c :: d :: r, n :: ns, 0, h, _ => ⟨a, b, c, d, rfl, rfl, rfl, rfl, h.1⟩
  | a :: b :: c :: d :: r, n :: ns, i + 1, h, hi => by
    obtain ⟨x, y, z, u, h1, h2, h3, h4, h5⟩ := Nms.at_ r ns i h.2 (by simpa using hi)
    exact ⟨x, y, z, u, h1, h2, h3, h4, by simpa using h5⟩
  | [], _ :: _, _, h, _ => h.elim
  | [_], [], _, h, _ => h.elim
  | [_], _ :: _, _, h, _ => h.elim
  | [_, _], [], _, h, _ => h.elim
  | [_, _], _ :: _, _, h, _ => h.elim
  | [_, _, _], [], _, h, _ => h.elim
  | [_, _, _], _ :: _, _, h, _ => h.elim
  | _ :: _ :: _ :: _ :: _, [], _, h, _ => h.elim

/-- A slice of numbers of the call's own. -/
def NRow (w : World) (B : Nat) (v : Value) (xs : List Rat) : Prop := ∃ cs, w.ownsRow B 88 4 v xs.length cs ∧ Nms w cs xs
theorem NRow.blk {w : World} {B : Nat} {v : Value} {n : Nat} {cs : List Value} (h : w.ownsRow B 88 4 v n cs) : ∀ g, v.ownBlock = some g → ∃ cs, Blk w g 88 cs := by
  intro g hg
  obtain ⟨_, h⟩ := h
  rcases h with ⟨rfl, _⟩ | ⟨g', cap, cur, rfl, h1, h2, _⟩
  · cases hg
  · cases hg; exact ⟨cur, h2⟩
theorem NRow.below {w w' : World} {B : Nat} {v : Value} {xs : List Rat} (h : NRow w B v xs) (hb : Below w.heap.size w w') : NRow w' B v xs := by
  obtain ⟨cs, h1, h2⟩ := h
  exact ⟨cs, h1.below2 hb, h2.below hb⟩
theorem NRow.len {w : World} {B : Nat} {v : Value} {xs : List Rat} (h : NRow w B v xs) : ∃ a, ∃ c : Nat, v = .slice a xs.length c := by
  obtain ⟨cs, ⟨_, h⟩, _⟩ := h
  rcases h with ⟨rfl, h0⟩ | ⟨g, cap, cur, rfl, _⟩
  · exact ⟨none, 0, by rw [h0]⟩
  · exact ⟨_, cap, rfl⟩
/-- Numbers that lie in a slice. -/
def Nums (w : World) (v : Value) (xs : List Rat) : Prop := ∃ (g c : Nat), v = .slice (some ⟨g, 0, none⟩) xs.length c ∧ xs.length ≤ c ∧ c ≤ maxLen ∧ ∀ i, i < xs.length → ∃ y0 y1 y2 y3, w.cell? ⟨g, 4 * i, none⟩ = some y0 ∧ w.cell? ⟨g, 4 * i + 1, none⟩ = some y1 ∧ w.cell? ⟨g, 4 * i + 2, none⟩ = some y2 ∧ w.cell? ⟨g, 4 * i + 3, none⟩ = some y3 ∧ Nm w (.agg #[y0, y1, y2, y3]) (xs.getD i 0)
theorem Nums.below {w w' : World} {v : Value} {xs : List Rat} (h : Nums w v xs) (hb : Below w.heap.size w w') : Nums w' v xs := by
  obtain ⟨g, c, rfl, h1, h2, h3⟩ := h
  refine ⟨g, c, rfl, h1, h2, fun i hi => ?_⟩
  obtain ⟨y0, y1, y2, y3, c0, c1, c2, c3, hn⟩ := h3 i hi
  have hlt := World.block_lt_of_cell? w ⟨g, 4 * i, none⟩ c0
  exact ⟨y0, y1, y2, y3, (hb.cell (p := ⟨g, 4 * i, none⟩) hlt).trans c0, (hb.cell (p := ⟨g, 4 * i + 1, none⟩) hlt).trans c1, (hb.cell (p := ⟨g, 4 * i + 2, none⟩) hlt).trans c2, (hb.cell (p := ⟨g, 4 * i + 3, none⟩) hlt).trans c3, hn.below hb⟩
theorem NRow.nums {w : World} {B : Nat} {v : Value} {xs : List Rat} (h : NRow w B v xs) (h0 : xs ≠ []) : Nums w v xs := by
  obtain ⟨cs, ⟨hl, h⟩, h2⟩ := h
  rcases h with ⟨_, he⟩ | ⟨g, cap, cur, rfl, hB, hg, hn, hm, hc, ht⟩
  · exact absurd (List.length_eq_zero_iff.1 he) h0
  · refine ⟨g, cap, rfl, hn, hm, fun i hi => ?_⟩
    obtain ⟨a, b, c, d, e0, e1, e2, e3, hx⟩ := Nms.at_ cs xs i h2 hi
    have hc' : ∀ j u, j < xs.length * 4 → cs[j]? = some u → w.cell? ⟨g, j, none⟩ = some u := by
      intro j u hj hu
      rw [cell_of_row w g j cur 88 (0, 0) hg]
      rw [← ht, List.getElem?_take, if_pos hj] at hu
      simpa using hu
    exact ⟨a, b, c, d, hc' _ _ (by omega) e0, hc' _ _ (by omega) e1, hc' _ _ (by omega) e2, hc' _ _ (by omega) e3, hx⟩
theorem divInt_red {m n : Int} (hn : 1 < n) (hg : Nat.gcd m.natAbs n.natAbs = 1) : m = (Rat.divInt m n).num ∧ n = (Rat.divInt m n).den := by
  have h1 : Int.gcd n m = 1 := by unfold Int.gcd; rw [Nat.gcd_comm]; exact hg
  have h2 : n.sign = 1 := Int.sign_eq_one_of_pos (by omega)
  refine ⟨?_, ?_⟩
  · rw [Rat.num_divInt, h1, h2]; simp
  · rw [Rat.den_divInt, if_neg (by omega), h1]; simp; omega

theorem nm_int {w : World} {v : Value} {m : Int} (h : Pr w v m 1) : Nm w v (m : Rat) := h.nm (by simp) (by simp)

/-- exact.From at a text that is a number. -/
theorem from_any {w : World} (l : List UInt8) (hl : l.length ≤ 268435000) (h0 : rerr l = 0) (hg : Good w) :
    Calls Tryz.prog 43 #[.string ⟨l.toArray⟩] w (RetN w (rval l)) := by
  unfold rerr at h0
  unfold rval
  rcases cut_cases l with hc | ⟨n, d, hc, hs⟩
  · rw [hc] at h0 ⊢
    simp only [Bool.false_eq_true, if_false] at h0 ⊢
    by_cases h5 : wcheck l = 5
    · rw [if_pos h5] at h0; exact absurd h0 (by decide)
    · obtain ⟨neg, ds, e1, e2, e3, e4⟩ := wcheck_form h5
      rw [e4]
      have a1 := sgnd_ge neg ds
      rw [← e1] at a1
      have h := from_whole (w := w) neg e2 (by omega) hg
      rw [← e1] at h
      exact h.mono fun e w' ⟨r, h1, h2, h3⟩ => ⟨r, h1, nm_int h2, h3⟩
  · rw [hc] at h0 ⊢
    simp only [if_true] at h0 ⊢
    have hln : n.length + d.length ≤ 268435000 := by rw [hs] at hl; simp at hl; omega
    by_cases h5 : wcheck n = 5 ∨ wcheck d = 5
    · rw [if_pos h5] at h0; exact absurd h0 (by decide)
    · rw [if_neg h5] at h0
      obtain ⟨h1, h2⟩ := not_or.1 h5
      obtain ⟨neg, ds, e1, e2, e3, e4⟩ := wcheck_form h1
      obtain ⟨neg2, es, f1, f2, f3, f4⟩ := wcheck_form h2
      have a1 := sgnd_ge neg ds
      have a2 := sgnd_ge neg2 es
      rw [← e1] at a1
      rw [← f1] at a2
      by_cases hd : sread d ≤ 1 ∨ Nat.gcd (sread n).natAbs (sread d).natAbs ≠ 1
      · rw [if_pos hd] at h0; exact absurd h0 (by decide)
      · have hd1 : ¬ sread d ≤ 1 := fun h => hd (.inl h)
        have hd2 : Nat.gcd (sread n).natAbs (sread d).natAbs = 1 := Classical.byContradiction fun h => hd (.inr h)
        have h := from_frac (w := w) neg neg2 e2 f2 (by omega) hg
        rw [← e1, ← f1, ← hs, ← e4, ← f4] at h
        have h3 := divInt_red (by omega) hd2
        exact h.mono fun e w' ⟨r, g1, g2, g3⟩ => ⟨r, g1, g2.nm h3.1 h3.2, g3⟩


theorem infoNum : (Tryz.prog.info? 88).map (fun i => (i.zero, i.size, i.bytes)) = some (some (.agg #[.bool false, .slice none 0 0, .bool false, .slice none 0 0]), 4, 64) := by kernel_rfl
theorem cell_new_four (w : World) (t : TypeId) (x y z u : Value) : ∀ j v, [x, y, z, u][j]? = some v → (w.alloc (.cells #[x, y, z, u] t)).cell? ((⟨w.heap.size, 0, none⟩ : Addr).add j) = some v := by
  intro j v hj
  match j, hj with
  | 0, hj => simp at hj; subst hj; simp [Addr.add]
  | 1, hj => simp at hj; subst hj; simp [Addr.add]
  | 2, hj => simp at hj; subst hj; simp [Addr.add]
  | 3, hj => simp at hj; subst hj; simp [Addr.add]
/-- Texts that lie in a slice. -/
def Qs (w : World) (v : Value) (ts : List (List UInt8)) : Prop := ∃ (a : Option Addr) (c : Nat), v = .slice a ts.length c ∧ ts.length ≤ c ∧ c ≤ maxLen ∧ (ts = [] ∨ ∃ p : Addr, a = some p) ∧ ∀ p : Addr, a = some p → ∀ i, i < ts.length → w.cell? (p.add i) = some (.string ⟨(ts.getD i []).toArray⟩)
theorem Qs.below {w w' : World} {v : Value} {ts : List (List UInt8)} (h : Qs w v ts) (hb : Below w.heap.size w w') : Qs w' v ts := by
  obtain ⟨a, c, rfl, h1, h2, h3, h4⟩ := h
  refine ⟨a, c, rfl, h1, h2, h3, fun p hp i hi => ?_⟩
  have hc := h4 p hp i hi
  exact (hb.cell (p := p.add i) (World.block_lt_of_cell? w (p.add i) hc)).trans hc
def RetNs (w : World) (xs : List Rat) (e : Ending) (w' : World) : Prop := ∃ B v, e = .returned v ∧ NRow w' B v xs ∧ Below w.heap.size w w'

end Go.Proofs.YtpmlmibceiolpaaGreatDoor
