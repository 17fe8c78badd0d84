/- The contracts of whole.read, whole.told, whole.apply and whole.Add. -/
import Derived.Test.YtabdnjakmhnnfaaGreatDoorCanon
import Derived.Test.YtabdnjakmhnnfaaGreatDoorOrd
set_option linter.unusedSimpArgs false
set_option linter.unusedVariables false
namespace Go.Proofs.YtabdnjakmhnnfaaGreatDoor
open Go.RowKit
open Go.Lib (decDigits itoa nDigits)

theorem Wh.of_same {A B : World} {v : Value} {n : Int} (h : Wh A v n) (hs : ∀ (k : Nat) cs f, A.heap[k]? = some (.cells cs 147 f) → B.heap[k]? = A.heap[k]?) : Wh B v n := by
  obtain ⟨sv, h1, a, cap, e, h2, h3, h4⟩ := h
  refine ⟨sv, h1, a, cap, e, h2, h3, h4.imp id ?_⟩
  rintro ⟨b, o, ha, ⟨cs, f, hb⟩, hc⟩
  have e1 := hs b cs f hb
  exact ⟨b, o, ha, ⟨cs, f, e1.trans hb⟩, fun i hi => (World.cell?_of_block (w := A) e1).trans (hc i hi)⟩

/-- The first error of texts of integers. -/
def werr : List (List UInt8) → Int
  | [] => 0
  | l :: r => if wcheck l = 0 then werr r else wcheck l

theorem werr_append : ∀ (a b : List (List UInt8)), werr (a ++ b) = if werr a = 0 then werr b else werr a
  | [], b => by simp [werr]
  | l :: r, b => by
    have h1 := werr_append r b
    by_cases h : wcheck l = 0
    · simp [werr, h, h1]
    · simp [werr, h]

theorem werr_step {ts : List (List UInt8)} {k : Nat} (hk : k < ts.length) (h : werr (ts.take k) = 0) (h2 : wcheck (ts.getD k []) = 0) : werr (ts.take (k + 1)) = 0 := by
  rw [List.take_succ_eq_append_getElem hk, werr_append, if_pos h]
  have e : ts.getD k [] = ts[k] := by simp [List.getD, List.getElem?_eq_getElem hk]
  rw [e] at h2
  simp [werr, h2]

theorem werr_stop {ts : List (List UInt8)} {k : Nat} (hk : k < ts.length) (h : werr (ts.take k) = 0) (h2 : wcheck (ts.getD k []) ≠ 0) : werr ts = wcheck (ts.getD k []) := by
  have e : ts.getD k [] = ts[k] := by simp [List.getD, List.getElem?_eq_getElem hk]
  rw [e] at h2 ⊢
  have e2 : ts = ts.take k ++ (ts[k] :: ts.drop (k + 1)) := by
    rw [← List.drop_eq_getElem_cons hk, List.take_append_drop]
  conv => lhs; rw [e2]
  rw [werr_append, if_pos h]
  simp [werr, h2]

theorem wread_any {w : World} (l : List UInt8) (h0 : wcheck l = 0) (hl : l.length ≤ 268435000) : Calls Tryz.prog 83 #[.string ⟨l.toArray⟩] w (RetW w (sread l)) := by
  obtain ⟨neg, ds, e1, e2, e3, e4⟩ := wcheck_form (l := l) (by rw [h0]; decide)
  have a1 := sgnd_ge neg ds
  rw [← e1] at a1
  have h := read_any (w := w) neg e2 (by omega)
  rw [← e4] at h
  have e : (⟨(sgnd neg ds).toArray⟩ : ByteArray) = ⟨l.toArray⟩ := by rw [e1]
  rw [e] at h
  exact h

/-- Cells that read as integers, two a piece. -/
def Whs (w : World) : List Value → List Int → Prop
  | [], [] => True
  | a :: b :: r, n :: ns => Wh w (.agg #[a, b]) n ∧ Whs w r ns
  | _, _ => False

theorem Whs.below_old {w w' : World} (hb : Below w.heap.size w w') : ∀ (cs : List Value) (ns : List Int), Whs w cs ns → Whs w' cs ns
  | [], [], _ => trivial
  | a :: b :: r, n :: ns, h => ⟨h.1.below hb, Whs.below_old hb r ns h.2⟩
  | [], _ :: _, h => h.elim
  | [_], [], h => h.elim
  | [_], _ :: _, h => h.elim
  | _ :: _ :: _, [], h => h.elim
theorem Whs.below {w w' : World} {cs : List Value} {ns : List Int} (h : Whs w cs ns) (hb : Below w.heap.size w w') : Whs w' cs ns := Whs.below_old hb cs ns h
theorem Whs.snoc {w : World} {a b : Value} {n : Int} (hn : Wh w (.agg #[a, b]) n) : ∀ (cs : List Value) (ns : List Int), Whs w cs ns → Whs w (cs ++ [a, b]) (ns ++ [n])
  | [], [], _ => ⟨hn, trivial⟩
  | x :: y :: r, m :: ns, h => ⟨h.1, Whs.snoc hn r ns h.2⟩
  | [], _ :: _, h => h.elim
  | [_], [], h => h.elim
  | [_], _ :: _, h => h.elim
  | _ :: _ :: _, [], h => h.elim
theorem Whs.of_grown {w w' : World} {t : TypeId} {row : Option Nat} (hg : w.grownBy w' row) (hr : ∀ g, row = some g → ∃ cs, Blk w g t cs) (ht : t ≠ 147) {v : Value} {n : Int} (h : Wh w v n) : Wh w' v n :=
  h.of_same fun k cs f hb => hg.block k (Array.getElem?_eq_some_iff.1 hb).1 (fun e => by
    obtain ⟨cs', h'⟩ := hr k e.symm
    exact Blk.ne_ h' hb ht rfl)
theorem Whs.grown {w w' : World} {t : TypeId} {row : Option Nat} (hg : w.grownBy w' row) (hr : ∀ g, row = some g → ∃ cs, Blk w g t cs) (ht : t ≠ 147) : ∀ (cs : List Value) (ns : List Int), Whs w cs ns → Whs w' cs ns
  | [], [], _ => trivial
  | a :: b :: r, n :: ns, h => ⟨Whs.of_grown hg hr ht h.1, Whs.grown hg hr ht r ns h.2⟩
  | [], _ :: _, h => h.elim
  | [_], [], h => h.elim
  | [_], _ :: _, h => h.elim
  | _ :: _ :: _, [], h => h.elim

/-- A slice of integers of the call's own. -/
def WRow (w : World) (B : Nat) (v : Value) (ns : List Int) : Prop := ∃ cs, w.ownsRow B 103 2 v ns.length cs ∧ Whs w cs ns
theorem WRow.nil (w : World) (B : Nat) : WRow w B (.slice none 0 0) [] := ⟨[], World.ownsRow_nil _ _ _ _, trivial⟩
theorem WRow.blk {w : World} {B : Nat} {v : Value} {n : Nat} {cs : List Value} (h : w.ownsRow B 103 2 v n cs) : ∀ g, v.ownBlock = some g → ∃ cs, Blk w g 103 cs := by
  intro g hg
  obtain ⟨_, h⟩ := h
  rcases h with ⟨rfl, _⟩ | ⟨g', cap, cur, rfl, h1, h2, _⟩
  · cases hg
  · cases hg; exact ⟨cur, h2⟩
theorem WRow.below {w w' : World} {B : Nat} {v : Value} {ns : List Int} (h : WRow w B v ns) (hb : Below w.heap.size w w') : WRow w' B v ns := by
  obtain ⟨cs, h1, h2⟩ := h
  refine ⟨cs, ?_, h2.below hb⟩
  obtain ⟨hl, h1⟩ := h1
  refine ⟨hl, h1.imp id ?_⟩
  rintro ⟨g, cap, cur, rfl, hB, hg, h3⟩
  exact ⟨g, cap, cur, rfl, hB, (hb.block g (Array.getElem?_eq_some_iff.1 hg).1).trans hg, h3⟩
theorem _root_.Go.World.ownsRow.below2 {w w' : World} {B n : Nat} {t : TypeId} {sz : Nat} {v : Value} {cs : List Value} (h : w.ownsRow B t sz v n cs) (hb : Below w.heap.size w w') : w'.ownsRow B t sz v n cs := by
  obtain ⟨hl, h1⟩ := h
  refine ⟨hl, h1.imp id ?_⟩
  rintro ⟨g, cap, cur, rfl, hB, hg, h3⟩
  exact ⟨g, cap, cur, rfl, hB, (hb.block g (Array.getElem?_eq_some_iff.1 hg).1).trans hg, h3⟩
theorem WRow.len {w : World} {B : Nat} {v : Value} {ns : List Int} (h : WRow w B v ns) : ∃ a, ∃ c : Nat, v = .slice a ns.length c := by
  obtain ⟨cs, ⟨_, h⟩, _⟩ := h
  rcases h with ⟨rfl, h0⟩ | ⟨g, cap, cur, rfl, _⟩
  · exact ⟨none, 0, by rw [h0]⟩
  · exact ⟨_, cap, rfl⟩

/-- Two integers in a slice. -/
def WTwo (w : World) (v : Value) (m n : Int) : Prop := ∃ (g c : Nat) (x0 x1 y0 y1 : Value), v = .slice (some ⟨g, 0, none⟩) 2 c ∧ g < w.heap.size ∧ 2 ≤ c ∧ c ≤ maxLen ∧ w.cell? ⟨g, 0, none⟩ = some x0 ∧ w.cell? ⟨g, 1, none⟩ = some x1 ∧ w.cell? ⟨g, 2, none⟩ = some y0 ∧ w.cell? ⟨g, 3, none⟩ = some y1 ∧ Wh w (.agg #[x0, x1]) m ∧ Wh w (.agg #[y0, y1]) n
theorem WRow.two {w : World} {B : Nat} {v : Value} {m n : Int} (h : WRow w B v [m, n]) : WTwo w v m n := by
  obtain ⟨cs, ⟨hl, h⟩, h2⟩ := h
  match cs, h2 with
  | [x0, x1, y0, y1], h2 =>
    obtain ⟨hx, hy, _⟩ := h2
    rcases h with ⟨_, h0⟩ | ⟨g, cap, cur, rfl, hB, hg, hn, hm, hc, ht⟩
    · cases h0
    · have hc' : ∀ i u, [x0, x1, y0, y1][i]? = some u → w.cell? ⟨g, i, none⟩ = some u := by
        intro i u hu
        rw [cell_of_row w g i cur 103 (0, 0) hg]
        have hi : i < 4 := by
          rcases Nat.lt_or_ge i 4 with h | h
          · exact h
          · rw [List.getElem?_eq_none (by simpa using h)] at hu; cases hu
        rw [← ht, List.getElem?_take] at hu
        rw [if_pos (show i < [m, n].length * 2 from hi)] at hu
        simpa using hu
      exact ⟨g, cap, x0, x1, y0, y1, rfl, (Array.getElem?_eq_some_iff.1 hg).1, hn, hm, hc' 0 _ rfl, hc' 1 _ rfl, hc' 2 _ rfl, hc' 3 _ rfl, hx, hy⟩

theorem infoWhole : (Tryz.prog.info? 103).map (fun i => (i.zero, i.size, i.bytes)) = some (some (.agg #[.bool false, .slice none 0 0]), 2, 32) := by kernel_rfl

theorem cell_new_two (w : World) (t : TypeId) (x y : Value) : ∀ j u, [x, y][j]? = some u → (w.alloc (.cells #[x, y] t)).cell? ((⟨w.heap.size, 0, none⟩ : Addr).add j) = some u := by
  intro j u hj
  match j, hj with
  | 0, hj => simp at hj; subst hj; simp [Addr.add]
  | 1, hj => simp at hj; subst hj; simp [Addr.add]

/-- What read hands back. -/
def RetWs (w : World) (err : Int) (ns : List Int) (e : Ending) (w' : World) : Prop := ∃ v, e = .returned (.tuple #[v, .int .i64 err]) ∧ (err = 0 → ∃ B, WRow w' B v ns) ∧ Below w.heap.size w w'

set_option maxHeartbeats 1000000 in
set_option maxRecDepth 100000 in
theorem wreads_any {w : World} {b cap : Nat} (ts : List (List UInt8)) (n : Nat) (hn : ts.length = n) (hlen : n ≤ 1000) (hcap : n ≤ cap) (hcm : cap ≤ maxLen) (hts : ∀ l ∈ ts, l.length ≤ 268435000) (hc : ∀ i, i < n → w.cell? ⟨b, i, none⟩ = some (.string ⟨(ts.getD i []).toArray⟩)) :
    Calls Tryz.prog 148 #[.slice (some ⟨b, 0, none⟩) n cap] w (RetWs w (werr ts) (ts.map sread)) := by
  obtain ⟨i0, hi, hz0, hz1, hz2⟩ := info_parts infoWhole
  have HN := Lib.hid hn
  have HC := Lib.hid hc
  have HTS := Lib.hid hts
  clear hn hc hts
  unfold maxLen at hcm
  go_enter Tryz.func148, Tryz.ntmps148
  go_wp2
  go_loopw [4, 10] (fun v i wr => ∃ k : Nat, k ≤ n ∧ i = .int .i64 k ∧ Hid (werr (ts.take k) = 0) ∧ Hid (WRow wr w.heap.size v ((ts.take k).map sread)) ∧ Hid (Below w.heap.size w wr)) (fun _ i _ => n - (intOf i).toNat)
  case atStart => exact ⟨0, Nat.zero_le _, rfl, Lib.hid rfl, Lib.hid (WRow.nil _ _), Lib.hid (Below.refl _ _)⟩
  case round =>
    obtain ⟨k, hk, rfl, hE, hR, hB⟩ := hrel
    by_cases hlt : k < n
    · have hcl := HC.out k hlt
      have hbl := World.block_lt_of_cell? w ⟨b, k, none⟩ hcl
      have g0 : wr.cell? ⟨b, k, none⟩ = _ := (hB.out.cell (p := ⟨b, k, none⟩) hbl).trans hcl
      have hlti : ((k : Int) < n) := by omega
      have hkl : k < ts.length := by have := HN.out; omega
      have hll : (ts.getD k []).length ≤ 268435000 := HTS.out _ (by simp [List.getD, List.getElem?_eq_getElem hkl])
      have hck := fun V => check_any (w := V) (ts.getD k []) (by omega)
      clear hcl hbl
      by_cases h0 : wcheck (ts.getD k []) = 0
      · have hrd := fun V => wread_any (w := V) (ts.getD k []) h0 hll
        have hE2 := Lib.hid (werr_step hkl hE.out h0)
        have hmap : (ts.take (k + 1)).map sread = (ts.take k).map sread ++ [sread (ts.getD k [])] := by
          rw [List.take_succ_eq_append_getElem hkl, List.map_append]; simp [List.getD, List.getElem?_eq_getElem hkl]
        have HMAP := Lib.hid hmap
        rw [h0] at hck
        have HCK := Lib.hid hck
        have HRD := Lib.hid hrd
        clear hck hrd h0 hmap
        generalize sread (ts.getD k []) = z at *
        generalize (⟨(ts.getD k []).toArray⟩ : ByteArray) = S at *
        have hln : ((ts.take k).map sread).length = k := by simp; omega
        obtain ⟨a, c, hv⟩ := hR.out.len
        rw [hln] at hv
        subst hv
        obtain ⟨cs, hrow, hwh⟩ := hR.out
        rw [hln] at hrow
        have HROW := Lib.hid hrow
        have HWH := Lib.hid hwh
        clear hln hll hkl hrow hwh
        go_upto_region 8 with (go_at_call 81; refine (HCK.out _).mono ?_; rintro e w1 ⟨rfl, hb1⟩)
        go_wp2_with (first
          | (go_at_call 83; refine (HRD.out _).mono ?_; rintro e w2 ⟨r, rfl, hr, hb2⟩; obtain ⟨b5, a5, k5, p5, rfl⟩ := hr.parts)
          | (at_builtin; refine wpList_append_own _ rfl (.tmp 19) (.tmp 22) 171 rfl w.heap.size 103 i0 (.agg #[.bool false, .slice none 0 0]) 2 32 Tryz.underlying171 hi hz0 hz1 hz2 rfl (by decide) (.slice a k c) k _ rfl (((HROW.out.below2 hb1).below2 hb2).alloc _) ⟨w2.heap.size, 0, none⟩ 1 1 [.bool b5, .slice a5 k5 p5] rfl rfl (cell_new_two _ _ _ _) (by intro u hu; simp at hu; rcases hu with rfl | rfl <;> rfl) (by unfold maxLen; omega) (by omega) (by have h1 := hB.out.size; have h2 := hb1.size; have h3 := hb2.size; simp; omega) ?_; intro v' w3 hown3 hgrow3 hnil3))
        go_roundw
        case rel =>
          have hbb := next_below hb1 hb2
          have hbl := WRow.blk (((HROW.out.below2 hb1).below2 hb2).alloc (.cells #[.bool b5, .slice a5 k5 p5] 103))
          have hbo : Below w2.heap.size w2 (w2.alloc (.cells #[.bool b5, .slice a5 k5 p5] 103)) := (Below.refl _ _).alloc (Nat.le_refl _) _
          have hq1 := Whs.grown hgrow3 hbl (by decide) _ _ ((HWH.out.below hbb).below hbo)
          have hq2 := Whs.of_grown hgrow3 hbl (by decide) (hr.below hbo)
          have hq3 := Whs.snoc hq2 _ _ hq1
          rw [← HMAP.out] at hq3
          refine ⟨k + 1, by omega, by go_num, hE2, Lib.hid ⟨_, ?_, hq3⟩, Lib.hid ?_⟩
          · rw [List.length_map, List.length_take, Nat.min_eq_left (by have := HN.out; omega)]; exact hown3
          · exact ((hB.out.trans (hbb.mono hB.out.size)).alloc (by have h1 := hB.out.size; have h2 := hbb.size; omega) _).grown hgrow3 (by have h1 := hB.out.size; have h2 := hbb.size; simp; omega) (fun g hg => (World.ownsRow.lt HROW.out g hg).1)
        case measure => simp [intOf]; omega
      · have hst := werr_stop hkl hE.out h0
        generalize wcheck (ts.getD k []) = er at *
        generalize (⟨(ts.getD k []).toArray⟩ : ByteArray) = S at *
        have hne : (er != 0) = true := by simpa using h0
        have HST := Lib.hid hst
        have HCK := Lib.hid hck
        have H0 := Lib.hid h0
        clear hst hck h0
        go_wp2_with (go_at_call 81; refine (HCK.out _).mono ?_; rintro e w1 ⟨rfl, hb1⟩)
        go_ret2
        rw [HST.out]
        exact ⟨_, rfl, fun h => absurd h H0.out, hB.out.trans (hb1.mono hB.out.size)⟩
    · obtain rfl : k = n := by omega
      have he : ts.take k = ts := List.take_of_length_le (by have := HN.out; omega)
      rw [he] at hE hR
      clear he
      go_wp2
      go_ret2
      rw [hE.out]
      exact ⟨_, rfl, fun _ => ⟨_, hR.out⟩, hB.out⟩

/-- What told makes of an integer. -/
def wtellV (n : Int) : Value := if nDigits n.natAbs ≤ 2000 then .tuple #[.string ⟨(itoa n).toArray⟩, .int .i64 0] else .tuple #[.string ⟨#[]⟩, .int .i64 6]
theorem wtellV_form (n : Int) : ∃ T e, wtellV n = .tuple #[.string T, .int .i64 e] := by
  unfold wtellV
  split
  · exact ⟨_, _, rfl⟩
  · exact ⟨_, _, rfl⟩

set_option maxHeartbeats 1000000 in
theorem wtold_any {w : World} {v : Value} {n : Int} (h : Wh w v n) (s : Fit n) (hg : Good w) : Calls Tryz.prog 149 #[v] w (RetV w (wtellV n)) := by
  obtain ⟨b, a, k, p, rfl⟩ := h.parts
  obtain ⟨W, hW, hB, hsz, j1⟩ := entA w 103 #[.bool b, .slice a k p]
  have HW := Lib.hid hW
  have HBB := Lib.hid hB
  have hd := digits_any (w := W) (h.below hB) s (hg.below hB)
  have ht := fun (V : World) (hh : Below W.heap.size W V) => text_any (w := V) (h.below (next_below hB hh)) s (hg.below (next_below hB hh))
  have x0 := j1.cell0
  have x1 := j1.cell1
  unfold wtellV
  by_cases hn : nDigits n.natAbs ≤ 2000
  · rw [if_pos hn]
    have hni : ¬ (2000 < (nDigits n.natAbs : Int)) := by omega
    generalize (nDigits n.natAbs : Int) = d at *
    generalize (⟨(itoa n).toArray⟩ : ByteArray) = T at *
    have HD := Lib.hid hd
    have HT := Lib.hid ht
    clear hd ht hn s h hW hsz hB hg
    go_enter Tryz.func149, Tryz.ntmps149
    go_upto_region 1 with fail
    rw [← HW.out]
    go_wp2_with (first
      | (go_at_call 131; refine HD.out.mono ?_; rintro e w1 ⟨rfl, hb1⟩; have i1 := j1.next hb1; have y0 := i1.cell0; have y1 := i1.cell1)
      | (go_at_call 87; refine (HT.out _ hb1).mono ?_; rintro e w2 ⟨rfl, hb2⟩))
    go_ret2
    exact ⟨rfl, HBB.out.trans ((next_below hb1 hb2).mono HBB.out.size)⟩
  · rw [if_neg hn]
    have hni : 2000 < (nDigits n.natAbs : Int) := by omega
    generalize (nDigits n.natAbs : Int) = d at *
    have HD := Lib.hid hd
    clear hd ht hn s h hW hsz hB hg
    go_enter Tryz.func149, Tryz.ntmps149
    go_upto_region 1 with fail
    rw [← HW.out]
    go_wp2_with (go_at_call 131; refine HD.out.mono ?_; rintro e w1 ⟨rfl, hb1⟩)
    go_ret2
    exact ⟨rfl, HBB.out.trans (hb1.mono HBB.out.size)⟩

end Go.Proofs.YtabdnjakmhnnfaaGreatDoor
