/- The contracts of whole.read, whole.told, whole.apply and whole.Add. -/
import Derived.Test.YtpmlmibceiolpaaGreatDoorCanon
import Derived.Test.YtpmlmibceiolpaaGreatDoorOrd
set_option linter.unusedSimpArgs false
set_option linter.unusedVariables false
namespace Go.Proofs.YtpmlmibceiolpaaGreatDoor
open Go.RowKit
open Go.Lib (decDigits itoa nDigits)

theorem Wh.of_same {A B : World} {v : Value} {n : Int} (h : Wh A v n) (hs : ∀ (k : Nat) cs f, A.heap[k]? = some (.cells cs 143 f) → B.heap[k]? = A.heap[k]?) : Wh B v n := by
  obtain ⟨sv, h1, a, cap, e, h2, h3, h4⟩ := h
  refine ⟨sv, h1, a, cap, e, h2, h3, h4.imp id ?_⟩
  rintro ⟨b, o, ha, ⟨cs, f, hb⟩, hc⟩
  have e1 := hs b cs f hb
  exact ⟨b, o, ha, ⟨cs, f, e1.trans hb⟩, fun i hi => (World.cell?_of_block (w := A) e1).trans (hc i hi)⟩

/-- The first error of texts of integers. -/
def werr : List (List UInt8) → Int
  | [] => 0
  | l :: r => if wcheck l = 0 then werr r else wcheck l

theorem werr_append : ∀ (a b : List (List UInt8)), werr (a ++ b) = if werr a = 0 then werr b else werr a
  | [], b => by simp [werr]
  | l :: r, b => by
    have h1 := werr_append r b
    by_cases h : wcheck l = 0
    · simp [werr, h, h1]
    · simp [werr, h]

theorem werr_step {ts : List (List UInt8)} {k : Nat} (hk : k < ts.length) (h : werr (ts.take k) = 0) (h2 : wcheck (ts.getD k []) = 0) : werr (ts.take (k + 1)) = 0 := by
  rw [List.take_succ_eq_append_getElem hk, werr_append, if_pos h]
  have e : ts.getD k [] = ts[k] := by simp [List.getD, List.getElem?_eq_getElem hk]
  rw [e] at h2
  simp [werr, h2]

theorem werr_stop {ts : List (List UInt8)} {k : Nat} (hk : k < ts.length) (h : werr (ts.take k) = 0) (h2 : wcheck (ts.getD k []) ≠ 0) : werr ts = wcheck (ts.getD k []) := by
  have e : ts.getD k [] = ts[k] := by simp [List.getD, List.getElem?_eq_getElem hk]
  rw [e] at h2 ⊢
  have e2 : ts = ts.take k ++ (ts[k] :: ts.drop (k + 1)) := by
    rw [← List.drop_eq_getElem_cons hk, List.take_append_drop]
  conv => lhs; rw [e2]
  rw [werr_append, if_pos h]
  simp [werr, h2]

theorem wread_any {w : World} (l : List UInt8) (h0 : wcheck l = 0) (hl : l.length ≤ 268435000) : Calls Tryz.prog 75 #[.string ⟨l.toArray⟩] w (RetW w (sread l)) := by
  obtain ⟨neg, ds, e1, e2, e3, e4⟩ := wcheck_form (l := l) (by rw [h0]; decide)
  have a1 := sgnd_ge neg ds
  rw [← e1] at a1
  have h := read_any (w := w) neg e2 (by omega)
  rw [← e4] at h
  have e : (⟨(sgnd neg ds).toArray⟩ : ByteArray) = ⟨l.toArray⟩ := by rw [e1]
  rw [e] at h
  exact h

/-- Cells that read as integers, two a piece. -/
def Whs (w : World) : List Value → List Int → Prop
  | [], [] => True
  | a :: b :: r, n :: ns => Wh w (.agg #[a, b]) n ∧ Whs w r ns
  | _, _ => False

theorem Whs.below_old {w w' : World} (hb : Below w.heap.size w w') : ∀ (cs : List Value) (ns : List Int), Whs w cs ns → Whs w' cs ns
  | [], [], _ => trivial
  | a :: b :: r, n :: ns, h => ⟨h.1.below hb, Whs.below_old hb r ns h.2⟩
  | [], _ :: _, h => h.elim
  | [_], [], h => h.elim
  | [_], _ :: _, h => h.elim
  | _ :: _ :: _, [], h => h.elim
theorem Whs.below {w w' : World} {cs : List Value} {ns : List Int} (h : Whs w cs ns) (hb : Below w.heap.size w w') : Whs w' cs ns := Whs.below_old hb cs ns h
theorem Whs.snoc {w : World} {a b : Value} {n : Int} (hn : Wh w (.agg #[a, b]) n) : ∀ (cs : List Value) (ns : List Int), Whs w cs ns → Whs w (cs ++ [a, b]) (ns ++ [n])
  | [], [], _ => ⟨hn, trivial⟩
  | x :: y :: r, m :: ns, h => ⟨h.1, Whs.snoc hn r ns h.2⟩
  | [], _ :: _, h => h.elim
  | [_], [], h => h.elim
  | [_], _ :: _, h => h.elim
  | _ :: _ :: _, [], h => h.elim
theorem Whs.of_grown {w w' : World} {t : TypeId} {row : Option Nat} (hg : w.grownBy w' row) (hr : ∀ g, row = some g → ∃ cs, Blk w g t cs) (ht : t ≠ 143) {v : Value} {n : Int} (h : Wh w v n) : Wh w' v n :=
  h.of_same fun k cs f hb => hg.block k (Array.getElem?_eq_some_iff.1 hb).1 (fun e => by
    obtain ⟨cs', h'⟩ := hr k e.symm
    exact Blk.ne_ h' hb ht rfl)
theorem Whs.grown {w w' : World} {t : TypeId} {row : Option Nat} (hg : w.grownBy w' row) (hr : ∀ g, row = some g → ∃ cs, Blk w g t cs) (ht : t ≠ 143) : ∀ (cs : List Value) (ns : List Int), Whs w cs ns → Whs w' cs ns
  | [], [], _ => trivial
  | a :: b :: r, n :: ns, h => ⟨Whs.of_grown hg hr ht h.1, Whs.grown hg hr ht r ns h.2⟩
  | [], _ :: _, h => h.elim
  | [_], [], h => h.elim
  | [_], _ :: _, h => h.elim
  | _ :: _ :: _, [], h => h.elim

/-- A slice of integers of the call's own. -/
def WRow (w : World) (B : Nat) (v : Value) (ns : List Int) : Prop := ∃ cs, w.ownsRow B 86 2 v ns.length cs ∧ Whs w cs ns
theorem WRow.nil (w : World) (B : Nat) : WRow w B (.slice none 0 0) [] := ⟨[], World.ownsRow_nil _ _ _ _, trivial⟩
theorem WRow.blk {w : World} {B : Nat} {v : Value} {n : Nat} {cs : List Value} (h : w.ownsRow B 86 2 v n cs) : ∀ g, v.ownBlock = some g → ∃ cs, Blk w g 86 cs := by
  intro g hg
  obtain ⟨_, h⟩ := h
  rcases h with ⟨rfl, _⟩ | ⟨g', cap, cur, rfl, h1, h2, _⟩
  · cases hg
  · cases hg; exact ⟨cur, h2⟩
theorem WRow.below {w w' : World} {B : Nat} {v : Value} {ns : List Int} (h : WRow w B v ns) (hb : Below w.heap.size w w') : WRow w' B v ns := by
  obtain ⟨cs, h1, h2⟩ := h
  refine ⟨cs, ?_, h2.below hb⟩
  obtain ⟨hl, h1⟩ := h1
  refine ⟨hl, h1.imp id ?_⟩
  rintro ⟨g, cap, cur, rfl, hB, hg, h3⟩
  exact ⟨g, cap, cur, rfl, hB, (hb.block g (Array.getElem?_eq_some_iff.1 hg).1).trans hg, h3⟩
theorem _root_.Go.World.ownsRow.below2 {w w' : World} {B n : Nat} {t : TypeId} {sz : Nat} {v : Value} {cs : List Value} (h : w.ownsRow B t sz v n cs) (hb : Below w.heap.size w w') : w'.ownsRow B t sz v n cs := by
  obtain ⟨hl, h1⟩ := h
  refine ⟨hl, h1.imp id ?_⟩
  rintro ⟨g, cap, cur, rfl, hB, hg, h3⟩
  exact ⟨g, cap, cur, rfl, hB, (hb.block g (Array.getElem?_eq_some_iff.1 hg).1).trans hg, h3⟩
theorem WRow.len {w : World} {B : Nat} {v : Value} {ns : List Int} (h : WRow w B v ns) : ∃ a, ∃ c : Nat, v = .slice a ns.length c := by
  obtain ⟨cs, ⟨_, h⟩, _⟩ := h
  rcases h with ⟨rfl, h0⟩ | ⟨g, cap, cur, rfl, _⟩
  · exact ⟨none, 0, by rw [h0]⟩
  · exact ⟨_, cap, rfl⟩

/-- Two integers in a slice. -/
def WTwo (w : World) (v : Value) (m n : Int) : Prop := ∃ (g c : Nat) (x0 x1 y0 y1 : Value), v = .slice (some ⟨g, 0, none⟩) 2 c ∧ g < w.heap.size ∧ 2 ≤ c ∧ c ≤ maxLen ∧ w.cell? ⟨g, 0, none⟩ = some x0 ∧ w.cell? ⟨g, 1, none⟩ = some x1 ∧ w.cell? ⟨g, 2, none⟩ = some y0 ∧ w.cell? ⟨g, 3, none⟩ = some y1 ∧ Wh w (.agg #[x0, x1]) m ∧ Wh w (.agg #[y0, y1]) n
theorem WRow.two {w : World} {B : Nat} {v : Value} {m n : Int} (h : WRow w B v [m, n]) : WTwo w v m n := by
  obtain ⟨cs, ⟨hl, h⟩, h2⟩ := h
  match cs, h2 with
  | [x0, x1, y0, y1], h2 =>
    obtain ⟨hx, hy, _⟩ := h2
    rcases h with ⟨_, h0⟩ | ⟨g, cap, cur, rfl, hB, hg, hn, hm, hc, ht⟩
    · cases h0
    · have hc' : ∀ i u, [x0, x1, y0, y1][i]? = some u → w.cell? ⟨g, i, none⟩ = some u := by
        intro i u hu
        rw [cell_of_row w g i cur 86 (0, 0) hg]
        have hi : i < 4 := by
          rcases Nat.lt_or_ge i 4 with h | h
          · exact h
          · rw [List.getElem?_eq_none (by simpa using h)] at hu; cases hu
        rw [← ht, List.getElem?_take] at hu
        rw [if_pos (show i < [m, n].length * 2 from hi)] at hu
        simpa using hu
      exact ⟨g, cap, x0, x1, y0, y1, rfl, (Array.getElem?_eq_some_iff.1 hg).1, hn, hm, hc' 0 _ rfl, hc' 1 _ rfl, hc' 2 _ rfl, hc' 3 _ rfl, hx, hy⟩

theorem infoWhole : (Tryz.prog.info? 86).map (fun i => (i.zero, i.size, i.bytes)) = some (some (.agg #[.bool false, .slice none 0 0]), 2, 32) := by kernel_rfl

theorem cell_new_two (w : World) (t : TypeId) (x y : Value) : ∀ j u, [x, y][j]? = some u → (w.alloc (.cells #[x, y] t)).cell? ((⟨w.heap.size, 0, none⟩ : Addr).add j) = some u := by
  intro j u hj
  match j, hj with
  | 0, hj => simp at hj; subst hj; simp [Addr.add]
  | 1, hj => simp at hj; subst hj; simp [Addr.add]

/-- What read hands back. -/
def RetWs (w : World) (err : Int) (ns : List Int) (e : Ending) (w' : World) : Prop := ∃ v, e = .returned (.tuple #[v, .int .i64 err]) ∧ (err = 0 → ∃ B, WRow w' B v ns) ∧ Below w.heap.size w w'

/-- What told makes of an integer. -/
def wtellV (n : Int) : Value := if nDigits n.natAbs ≤ 2000 then .tuple #[.string ⟨(itoa n).toArray⟩, .int .i64 0] else .tuple #[.string ⟨#[]⟩, .int .i64 6]
theorem wtellV_form (n : Int) : ∃ T e, wtellV n = .tuple #[.string T, .int .i64 e] := by
  unfold wtellV
  split
  · exact ⟨_, _, rfl⟩
  · exact ⟨_, _, rfl⟩

end Go.Proofs.YtpmlmibceiolpaaGreatDoor
