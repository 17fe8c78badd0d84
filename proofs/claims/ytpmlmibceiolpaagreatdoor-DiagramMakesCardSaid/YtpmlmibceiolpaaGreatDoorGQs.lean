/- Slices of texts. -/
import Derived.Test.YtpmlmibceiolpaaGreatDoorDList
import Derived.Laws.OwnMore
set_option linter.unusedSimpArgs false
set_option linter.unusedVariables false
namespace Go.Proofs.YtpmlmibceiolpaaGreatDoor
open Go.RowKit
open Go.Lib (decDigits itoa nDigits)

theorem Qs.blk {w : World} {g c : Nat} {cs : Array Value} (ts : List (List UInt8)) (hb : Blk w g 40 cs) (h1 : ts.length ≤ c) (h2 : c ≤ maxLen) (hc : ∀ i, i < ts.length → cs[i]? = some (.string ⟨(ts.getD i []).toArray⟩)) : Qs w (.slice (some ⟨g, 0, none⟩) ts.length c) ts :=
  ⟨_, c, rfl, h1, h2, .inr ⟨_, rfl⟩, fun p hp i hi => by
    cases hp
    have := (hb.cell i).trans (hc i hi)
    by_cases e : i = 0
    · subst e; simpa [Addr.add] using this
    · simpa [Addr.add, e] using this⟩
theorem Qs.nil (w : World) : Qs w (.slice none 0 0) [] := ⟨none, 0, rfl, Nat.le_refl _, by unfold maxLen; omega, .inl rfl, fun p hp => by cases hp⟩
/-- A guarded operation that is wanted goes as one without a guard. -/
theorem wpList_want {P : Program} {ops : Array Oper} {Q : Exit → Act → World → Prop} {a : Act} {w : World} {rest : List Oper} {o : Oper} (hw : Region.wanted o (yielded ops a.tmps) = true) (h : wpList P ops Q ({ o with guard := none } :: rest) a w) : wpList P ops Q (o :: rest) a w := by
  unfold wpList at h ⊢
  rw [if_pos hw]
  have h2 : Region.wanted { o with guard := none } (yielded ops a.tmps) = true := by simp [Region.wanted]
  rw [if_pos h2] at h
  exact h
def qv (l : List UInt8) : Value := .string ⟨l.toArray⟩
/-- A slice of texts of the call's own. -/
def QRow (w : World) (B : Nat) (v : Value) (ts : List (List UInt8)) : Prop := w.ownsRow B 40 1 v ts.length (ts.map qv)
theorem QRow.nil (w : World) (B : Nat) : QRow w B (.slice none 0 0) [] := ⟨rfl, .inl ⟨rfl, rfl⟩⟩
theorem QRow.len {w : World} {B : Nat} {v : Value} {ts : List (List UInt8)} (h : QRow w B v ts) : ∃ a, ∃ c : Nat, v = .slice a ts.length c := by
  obtain ⟨hl, h⟩ := h
  rcases h with ⟨rfl, h1⟩ | ⟨g, cap, cur, rfl, r⟩
  · exact ⟨none, 0, by rw [h1]⟩
  · exact ⟨_, cap, rfl⟩
theorem QRow.below {w w' : World} {B N : Nat} {v : Value} {ts : List (List UInt8)} (h : QRow w B v ts) (hb : Below N w w') (hN : ∀ k, v.ownBlock = some k → k < N) : QRow w' B v ts := by
  obtain ⟨hl, h⟩ := h
  refine ⟨hl, ?_⟩
  rcases h with h | ⟨g, cap, cur, rfl, hB, hg, r⟩
  · exact .inl h
  · exact .inr ⟨g, cap, cur, rfl, hB, (hb.block g (hN g rfl)).trans hg, r⟩
theorem QRow.next {w w' : World} {B : Nat} {v : Value} {ts : List (List UInt8)} (h : QRow w B v ts) (hb : Below w.heap.size w w') : QRow w' B v ts :=
  h.below hb (fun k hk => (World.ownsRow.lt h k hk).2)
theorem QRow.snoc {w : World} {B : Nat} {v : Value} {ts : List (List UInt8)} {s : List UInt8} {k : Nat} (hk : ts.length = k) (h : w.ownsRow B 40 1 v (k + 1) (ts.map qv ++ [qv s])) : QRow w B v (ts ++ [s]) := by
  subst hk
  unfold QRow
  simpa using h
theorem QRow.owns {w : World} {B : Nat} {v : Value} {ts : List (List UInt8)} {k : Nat} (hk : ts.length = k) (h : QRow w B v ts) : w.ownsRow B 40 1 v k (ts.map qv) := by
  subst hk; exact h
theorem QRow.qs {w : World} {B : Nat} {v : Value} {ts : List (List UInt8)} (h : QRow w B v ts) : Qs w v ts := by
  obtain ⟨hl, h⟩ := h
  rcases h with ⟨rfl, h1⟩ | ⟨g, cap, cur, rfl, hB, hg, hn, hm, hc, ht⟩
  · have : ts = [] := List.length_eq_zero_iff.1 h1
    subst this; exact Qs.nil w
  · refine ⟨_, cap, rfl, hn, hm, .inr ⟨_, rfl⟩, fun p hp i hi => ?_⟩
    cases hp
    have e := cell_of_row w g i cur 40 (0, 0) hg
    have h1 : (cur.toList.take (ts.length * 1))[i]? = some (.string ⟨(ts.getD i []).toArray⟩) := by
      rw [ht, List.getElem?_map, List.getElem?_eq_getElem hi, List.getD_eq_getElem?_getD, List.getElem?_eq_getElem hi]; rfl
    rw [List.getElem?_take, if_pos (by omega)] at h1
    have h2 : w.cell? ⟨g, i, none⟩ = some (.string ⟨(ts.getD i []).toArray⟩) := by rw [e]; simpa using h1
    by_cases e0 : i = 0
    · subst e0; simpa [Addr.add] using h2
    · simpa [Addr.add, e0] using h2
theorem Qs.lit {w : World} {g : Nat} {cs : Array Value} (ts : List (List UInt8)) (hb : Blk w g 40 cs) (e : cs = (ts.map qv).toArray) (h2 : ts.length ≤ 1000) : Qs w (.slice (some ⟨g, 0, none⟩) ts.length ts.length) ts :=
  Qs.blk ts hb (Nat.le_refl _) (by unfold maxLen; omega) (fun i hi => by
    rw [e, List.getElem?_toArray, List.getElem?_map, List.getElem?_eq_getElem hi, List.getD_eq_getElem?_getD, List.getElem?_eq_getElem hi]; rfl)
theorem QRow.form {w : World} {B : Nat} {v : Value} {ts : List (List UInt8)} (h : QRow w B v ts) {n : Nat} (hn : ts.length = n) (h0 : 0 < n) : ∃ g, ∃ c : Nat, v = .slice (some ⟨g, 0, none⟩) n c ∧ B ≤ g ∧ g < w.heap.size := by
  subst hn
  obtain ⟨hl, h⟩ := h
  rcases h with ⟨rfl, h1⟩ | ⟨g, cap, cur, rfl, hB, hg, hn, hm, hc, ht⟩
  · omega
  · exact ⟨g, cap, rfl, hB, (Array.getElem?_eq_some_iff.1 hg).1⟩
theorem Qs.grown {w w' : World} {g n c : Nat} {ts : List (List UInt8)} {row : Option Nat} (h : Qs w (.slice (some ⟨g, 0, none⟩) n c) ts) (hg : w.grownBy w' row) (hne : some g ≠ row) : Qs w' (.slice (some ⟨g, 0, none⟩) n c) ts := by
  obtain ⟨a, c', e, h1, h2, h3, h4⟩ := h
  refine ⟨a, c', e, h1, h2, h3, fun p hp i hi => ?_⟩
  have hc := h4 p hp i hi
  have hl := World.block_lt_of_cell? w (p.add i) hc
  injection e with e1
  rw [hp] at e1
  injection e1 with e2
  have hb : (p.add i).block = g := by rw [← e2]; unfold Addr.add; split <;> rfl
  have hk := hg.block g (by rw [hb] at hl; exact hl) hne
  rw [show w'.cell? (p.add i) = w.cell? (p.add i) from World.cell?_of_block (w := w) (by rw [hb]; exact hk)]
  exact hc
theorem infoQ : (Tryz.prog.info? 40).map (fun i => (i.zero, i.size, i.bytes)) = some (some (.string ⟨#[]⟩), 1, 16) := by kernel_rfl
theorem cell_new_q (w : World) (t : TypeId) (x : ByteArray) : ∀ j u, [Value.string x][j]? = some u → (w.alloc (.cells #[.string x] t)).cell? ((⟨w.heap.size, 0, none⟩ : Addr).add j) = some u := by
  intro j u hj
  match j, hj with
  | 0, hj => simp at hj; subst hj; simp [Addr.add]
theorem cell_blk_q {w : World} {g : Nat} {t : TypeId} {x : ByteArray} (h : Blk w g t #[.string x]) : ∀ j u, [Value.string x][j]? = some u → w.cell? ((⟨g, 0, none⟩ : Addr).add j) = some u := by
  intro j u hj
  match j, hj with
  | 0, hj =>
    simp at hj; subst hj
    have := h.cell 0
    simpa [Addr.add] using this
end Go.Proofs.YtpmlmibceiolpaaGreatDoor
