/- The contract of croupierref09.Choose: numbers of choices by adding up. -/
import Derived.Test.YtmhneibcbjgedaaGreatDoorR2b
import Derived.Test.YtmhneibcbjgedaaGreatDoorTMath
set_option linter.unusedSimpArgs false
set_option linter.unusedVariables false
namespace Go.Proofs.YtmhneibcbjgedaaGreatDoor
open Go.RowKit
open Go.Lib (decDigits itoa nDigits)
open D4 (rt it)

/-- A slice of texts of the call's own. -/
def TRow (w : World) (B : Nat) (v : Value) (l : List ByteArray) : Prop := w.ownsRow B 9 1 v l.length (l.map Value.string)
theorem TRow.new (w : World) (s : ByteArray) {B : Nat} (hB : B ≤ w.heap.size) : TRow (w.alloc (.cells #[.string s] 9)) B (.slice (some ⟨w.heap.size, 0, none⟩) 1 1) [s] :=
  ⟨by simp, .inr ⟨w.heap.size, 1, #[.string s], rfl, hB, heap_alloc_new w _, by simp, by decide, rfl, by simp⟩⟩
theorem TRow.form {w : World} {B : Nat} {v : Value} {l : List ByteArray} (h : TRow w B v l) {n : Nat} (hn : l.length = n) (h0 : 0 < n) :
    ∃ g, ∃ c : Nat, v = .slice (some ⟨g, 0, none⟩) n c ∧ B ≤ g ∧ g < w.heap.size ∧ ∀ i s, l[i]? = some s → w.cell? ⟨g, i, none⟩ = some (.string s) := by
  subst hn
  obtain ⟨hl, h⟩ := h
  rcases h with ⟨rfl, h1⟩ | ⟨g, cap, cur, rfl, hB, hg, hn, hm, hc, ht⟩
  · omega
  · refine ⟨g, cap, rfl, hB, (Array.getElem?_eq_some_iff.1 hg).1, fun i s hs => ?_⟩
    have hi : i < l.length := (List.getElem?_eq_some_iff.1 hs).1
    have e := cell_of_row w g (0 + i) cur 9 (0, 0) hg
    rw [Nat.zero_add] at e
    rw [e]
    have h1 : (cur.toList.take (l.length * 1))[i]? = some (.string s) := by
      rw [ht, List.getElem?_map, hs]; rfl
    rw [List.getElem?_take, if_pos (by omega)] at h1
    simpa using h1
theorem TRow.below {w w' : World} {B N : Nat} {v : Value} {l : List ByteArray} (h : TRow w B v l) (hb : Below N w w') (hN : ∀ k, v.ownBlock = some k → k < N) : TRow w' B v l := by
  obtain ⟨hl, h⟩ := h
  refine ⟨hl, ?_⟩
  rcases h with h | ⟨g, cap, cur, rfl, hB, hg, r⟩
  · exact .inl h
  · exact .inr ⟨g, cap, cur, rfl, hB, (hb.block g (hN g rfl)).trans hg, r⟩
theorem TRow.next {w w' : World} {B : Nat} {v : Value} {l : List ByteArray} (h : TRow w B v l) (hb : Below w.heap.size w w') : TRow w' B v l :=
  h.below hb (fun k hk => (World.ownsRow.lt h k hk).2)
theorem TRow.mono {w : World} {B B' : Nat} {v : Value} {l : List ByteArray} (h : TRow w B v l) (hb : B' ≤ B) : TRow w B' v l := by
  obtain ⟨hl, h⟩ := h
  refine ⟨hl, ?_⟩
  rcases h with h | ⟨g, cap, cur, rfl, hB, r⟩
  · exact .inl h
  · exact .inr ⟨g, cap, cur, rfl, Nat.le_trans hb hB, r⟩
theorem TRow.snoc {w : World} {B : Nat} {v : Value} {l : List ByteArray} {s : ByteArray} {k : Nat} (hk : l.length = k) (h : w.ownsRow B 9 1 v (k + 1) (l.map Value.string ++ [.string s])) : TRow w B v (l ++ [s]) := by
  subst hk
  unfold TRow
  simpa using h
theorem cell_new_text (w : World) (t : TypeId) (x : ByteArray) : ∀ j u, [Value.string x][j]? = some u → (w.alloc (.cells #[.string x] t)).cell? ((⟨w.heap.size, 0, none⟩ : Addr).add j) = some u := by
  intro j u hj
  match j, hj with
  | 0, hj => simp at hj; subst hj; simp [Addr.add]
theorem cell_blk_text {w : World} {g : Nat} {t : TypeId} {x : ByteArray} (h : Blk w g t #[.string x]) : ∀ j u, [Value.string x][j]? = some u → w.cell? ((⟨g, 0, none⟩ : Addr).add j) = some u := by
  intro j u hj
  match j, hj with
  | 0, hj =>
    simp at hj; subst hj
    have := h.cell 0
    simpa [Addr.add] using this
theorem infoS : (Tryz.prog.info? 9).map (fun i => (i.zero, i.size, i.bytes)) = some (some (.string ⟨#[]⟩), 1, 16) := by kernel_rfl

/-- The first numbers of a row of Pascal's triangle. -/
def rowL (n m : Nat) : List ByteArray := (List.range m).map fun j => it ((bin n j : Nat) : Int)
theorem rowL_len (n m : Nat) : (rowL n m).length = m := by simp [rowL]
theorem rowL_succ (n m : Nat) : rowL n (m + 1) = rowL n m ++ [it ((bin n m : Nat) : Int)] := by simp [rowL, List.range_succ]
theorem rowL_at {n m j : Nat} (h : j < m) : (rowL n m)[j]? = some (it ((bin n j : Nat) : Int)) := by
  unfold rowL
  rw [List.getElem?_map, List.getElem?_range h]; rfl
theorem it_1 : it ((1 : Nat) : Int) = ⟨#[49]⟩ := by decide +kernel
theorem rowL_one (n : Nat) : rowL n 1 = [⟨#[49]⟩] := by
  show [it ((bin n 0 : Nat) : Int)] = _
  rw [bin_zero, it_1]
/-- A fresh slice of one text. -/
def OneT (V : World) (s : ByteArray) (v : Value) (w : World) : Prop := ∃ g, v = .slice (some ⟨g, 0, none⟩) 1 1 ∧ V.heap.size ≤ g ∧ Blk w g 9 #[.string s]
theorem Stab.onet (W V : World) (s : ByteArray) : Stab W (OneT V s) := fun v w1 w2 h1 h2 ⟨g, a, b, c⟩ => ⟨g, a, b, c.next h2⟩
theorem bin_lt {n k : Nat} (h : n ≤ 40) : bin n k < 10 ^ 13 := by
  have h1 : ∀ n k : Nat, bin n k ≤ 2 ^ n := by
    intro n
    induction n with
    | zero => intro k; cases k with
      | zero => exact Nat.le_refl _
      | succ k => exact Nat.zero_le _
    | succ n ih => intro k; cases k with
      | zero => exact Nat.one_le_two_pow
      | succ k =>
        show bin n k + bin n (k + 1) ≤ _
        have a := ih k
        have b := ih (k + 1)
        rw [Nat.pow_succ]; omega
  have h2 := Nat.pow_le_pow_right (n := 2) (by omega) h
  exact Nat.lt_of_le_of_lt (Nat.le_trans (h1 n k) h2) (by decide)

set_option maxHeartbeats 8000000 in
set_option maxRecDepth 100000 in
theorem choose_ref {w : World} (n k : Nat) (hn : n ≤ 40) (hk : k ≤ n) (hg : Good w) : Calls Tryz.prog 21 #[.int .i64 n, .int .i64 k] w (RetV w (.string (it ((bin n k : Nat) : Int)))) := by
  obtain ⟨i0, hi0, hz0, hz1, hz2⟩ := info_parts infoS
  have sm : ∀ n k, n ≤ 40 → D4.Sm ((bin n k : Nat) : Int) := fun n k h => Nat.le_trans (D4.nDigits_le (d := 12) (by have := bin_lt (k := k) h; simpa using this)) (by omega)
  have HA := Lib.hid (fun (i m : Nat) (hi : i < n) (V : World) (hV : Good V) => by
    have h := D4.add_it (w := V) ((bin i m : Nat) : Int) ((bin i (m + 1) : Nat) : Int) (sm _ _ (by omega)) (sm _ _ (by omega)) hV
    rw [show ((bin i m : Nat) : Int) + ((bin i (m + 1) : Nat) : Int) = ((bin (i + 1) (m + 1) : Nat) : Int) by rw [← Int.natCast_add]; rfl] at h
    exact h)
  have HG := Lib.hid (fun (V : World) (hV : Below w.heap.size w V) => hg.below hV)
  clear sm hg
  go_enter Tryz.func21, Tryz.ntmps21
  go_wp2
  go_loopg [5, 6] n (fun gk u5 u6 wr => ∃ i : Nat, u6 = .int .i64 (i : Int) ∧ i + gk = n ∧ Hid (TRow wr w.heap.size u5 (rowL i (i + 1))) ∧ Hid (Below w.heap.size w wr))
  case atStart => exact ⟨0, rfl, by omega, Lib.hid (by rw [rowL_one]; exact TRow.new _ _ (Nat.le_refl _)), Lib.hid ((Below.refl _ _).alloc (Nat.le_refl _) _)⟩
  case round =>
    obtain ⟨i, rfl, hi, hR, hB⟩ := hrel
    obtain ⟨g, c, rfl, hgB, hgl, hce⟩ := hR.out.form (rowL_len _ _) (by omega)
    have HCE := Lib.hid hce
    clear hce
    generalize hgb : gk = gb at *
    generalize hwb : wr = wb at *
    clear hgb hwb
    by_cases hz : i < n
    · have hzi : (i : Int) < (n : Int) := by omega
      have hbs := hB.out.size
      have HI := Lib.hid (fun m => HA.out i m hz)
      clear HA
      have rl : (rowL i (i + 1)).length = i + 1 := rowL_len _ _
      go_wp2
      go_loopg [7, 8] i (fun gk u7 u8 wr => ∃ m : Nat, u8 = .int .i64 ((m : Int) + 1) ∧ m + gk = i ∧ Hid (TRow wr wb.heap.size u7 (rowL (i + 1) (m + 1))) ∧ Hid (Below wb.heap.size wb wr))
      case atStart => exact ⟨0, rfl, by omega, Lib.hid (by rw [rowL_one]; exact TRow.new _ _ (Nat.le_refl _)), Lib.hid ((Below.refl _ _).alloc (Nat.le_refl _) _)⟩
      case round =>
        obtain ⟨m, rfl, hm, hN, hK⟩ := hrel
        obtain ⟨g7, c7, rfl, hg7B, hg7l, -⟩ := hN.out.form (rowL_len _ _) (by omega)
        have hks := hK.out.size
        by_cases hmi : m < i
        · have hmi2 : (m : Int) + 1 < (i : Int) + 1 := by omega
          have x0 := HCE.out m _ (rowL_at (by omega))
          have x1 := HCE.out (m + 1) _ (rowL_at (by omega))
          have H1 := HI.out m
          generalize it ((bin i m : Nat) : Int) = A at *
          generalize it ((bin i (m + 1) : Nat) : Int) = C at *
          have hs1 : rowL (i + 1) (m + 1 + 1) = rowL (i + 1) (m + 1) ++ [it ((bin (i + 1) (m + 1) : Nat) : Int)] := rowL_succ _ _
          generalize it ((bin (i + 1) (m + 1) : Nat) : Int) = S at *
          have HS1 := Lib.hid hs1
          have HAD := Lib.hid H1
          have rl7 : (rowL (i + 1) (m + 1)).length = m + 1 := rowL_len _ _
          have HL7 := Lib.hid rl7
          clear hs1 H1 HI rl rl7
          go_upto_region 9 with fail
          have hB0 : Below wr.heap.size wr wr.drew := (Below.refl _ _).drew
          refine wp_region_list 12 (by kernel_rfl) (by kernel_rfl) [] [fun v _ => v = .slice (some ⟨g7, 0, none⟩) (m + 1) c7, fun v _ => v = .slice (some ⟨g, 0, none⟩) (i + 1) c, fun v _ => v = .int .i64 ((m : Int) + 1), fun v _ => v = .int .i64 (m : Int), fun v _ => v = .pointer (some ⟨g, m, none⟩), fun v _ => v = .string A, fun v _ => v = .slice (some ⟨g, 0, none⟩) (i + 1) c, fun v _ => v = .int .i64 ((m : Int) + 1), fun v _ => v = .pointer (some ⟨g, m + 1, none⟩), fun v _ => v = .string C, fun v _ => v = .string S, OneT wr S] (by simp only [List.take_succ_cons, List.take_zero]; rfl) (by simp only [List.drop_succ_cons, List.drop_zero]; rfl) (fun vals => by simp only [fam, Act.put, List.setIfInBounds_toArray, List.set_cons_zero, List.set_cons_succ, if_true]; rfl) (by repeat' (first | exact Stab.eq _ _ | exact Stab.wh _ _ | exact Stab.nm _ _ | exact Stab.new _ _ | exact Stab.newn _ _ | exact Stab.tw _ _ _ | exact Stab.lm _ _ _ | exact Stab.onet _ _ _ | exact trivial | apply And.intro)) trivial ?_ ?_
          · refine ⟨?_, ?_, ?_, ?_, ?_, ?_, ?_, ?_, ?_, ?_, ?_, ?_, trivial⟩
            all_goals
              intro vals w1 hB1 hp
              dsimp only
              (try simp [preOk, Region.binds, D4.anygc, D4.anytext] at hp)
              have hb := next_below hB0 hB1
              have hbb : Below wb.heap.size wb w1 := next_below hK.out hb
              have y0 := (hbb.cell (p := ⟨g, m, none⟩) hgl).trans x0
              have y1 := (hbb.cell (p := ⟨g, m + 1, none⟩) hgl).trans x1
              clear hB1
            case refine_4 =>
              have a0 := hp
              generalize vals 2 = z2 at *
              subst a0
              go_wp2
              (first | exact ⟨rfl, _, rfl, rfl, Below.refl _ _, trivial⟩ | (refine ⟨rfl, _, ?_, rfl, Below.refl _ _, trivial⟩; simp only [Act.put, List.setIfInBounds_toArray, List.set_cons_zero, List.set_cons_succ, hp]))
            case refine_5 =>
              obtain ⟨a0, a1⟩ := hp
              generalize vals 1 = z1 at *
              subst a0
              generalize vals 3 = z3 at *
              subst a1
              go_wp2
              (first | exact ⟨rfl, _, rfl, rfl, Below.refl _ _, trivial⟩ | (refine ⟨rfl, _, ?_, rfl, Below.refl _ _, trivial⟩; simp only [Act.put, List.setIfInBounds_toArray, List.set_cons_zero, List.set_cons_succ, hp]))
            case refine_6 =>
              have a0 := hp
              generalize vals 4 = z4 at *
              subst a0
              go_wp2
              (first | exact ⟨rfl, _, rfl, rfl, Below.refl _ _, trivial⟩ | (refine ⟨rfl, _, ?_, rfl, Below.refl _ _, trivial⟩; simp only [Act.put, List.setIfInBounds_toArray, List.set_cons_zero, List.set_cons_succ, hp]))
            case refine_9 =>
              obtain ⟨a0, a1⟩ := hp
              generalize vals 6 = z6 at *
              subst a0
              generalize vals 7 = z7 at *
              subst a1
              go_wp2
              (first | exact ⟨rfl, _, rfl, rfl, Below.refl _ _, trivial⟩ | (refine ⟨rfl, _, ?_, rfl, Below.refl _ _, trivial⟩; simp only [Act.put, List.setIfInBounds_toArray, List.set_cons_zero, List.set_cons_succ, hp]))
            case refine_10 =>
              have a0 := hp
              generalize vals 8 = z8 at *
              subst a0
              go_wp2
              (first | exact ⟨rfl, _, rfl, rfl, Below.refl _ _, trivial⟩ | (refine ⟨rfl, _, ?_, rfl, Below.refl _ _, trivial⟩; simp only [Act.put, List.setIfInBounds_toArray, List.set_cons_zero, List.set_cons_succ, hp]))
            case refine_11 =>
              obtain ⟨a0, a1⟩ := hp
              generalize vals 5 = z5 at *
              subst a0
              generalize vals 9 = z9 at *
              subst a1
              go_wp2_with ((go_at_call 55; refine (HAD.out _ (HG.out _ (hB.out.trans (hbb.mono hbs)))).mono ?_; rintro e w2 ⟨rfl, hb2⟩))
              exact ⟨rfl, _, rfl, rfl, hb2, trivial⟩
            case refine_12 =>
              have a0 := hp
              generalize vals 10 = z10 at *
              subst a0
              go_wp2
              exact ⟨rfl, _, rfl, ⟨_, rfl, hb.size, Blk.new _ _ _⟩, (Below.refl _ _).alloc (Nat.le_refl _) _, trivial⟩
            all_goals
              go_wp2
              (first | exact ⟨rfl, _, rfl, rfl, Below.refl _ _, trivial⟩ | (refine ⟨rfl, _, ?_, rfl, Below.refl _ _, trivial⟩; simp only [Act.put, List.setIfInBounds_toArray, List.set_cons_zero, List.set_cons_succ, hp]))
          · rintro vals w1 hB1 ⟨z0, z1, z2, z3, z4, z5, z6, z7, z8, z9, z10, z11, _⟩ hne
            have hb := next_below hB0 hB1
            have hbb : Below wb.heap.size wb w1 := next_below hK.out hb
            have hbs1 := hbb.size
            simp at z0 z11
            generalize vals 0 = v0 at *
            subst z0
            generalize vals 11 = v11 at *
            obtain ⟨g2, rfl, hg2, hB2⟩ := z11
            have hown : w1.ownsRow wb.heap.size 9 1 (.slice (some ⟨g7, 0, none⟩) (m + 1) c7) (m + 1) ((rowL (i + 1) (m + 1)).map Value.string) := by
              have h := hN.out.next hb
              unfold TRow at h
              rwa [HL7.out] at h
            have HOWN := Lib.hid hown
            have HBB := Lib.hid hbb
            have HB2 := Lib.hid hB2
            clear hne z1 z2 z3 z4 z5 z6 z7 z8 z9 z10 hB1 hB0 hb hbb hown hB2 HAD x0 x1
            go_wp2_with (at_builtin; refine wpList_append_own _ rfl (.tmp 22) (.tmp 33) 84 rfl wb.heap.size 9 i0 (.string ⟨#[]⟩) 1 16 Tryz.underlying84 hi0 hz0 hz1 hz2 rfl (by decide) (.slice (some ⟨g7, 0, none⟩) (m + 1) c7) (m + 1) _ rfl HOWN.out ⟨g2, 0, none⟩ 1 1 [.string S] rfl rfl (cell_blk_text HB2.out) (by intro u hu; simp at hu; subst hu; rfl) (by unfold maxLen; omega) (by omega) (by omega) ?_; intro v' w2 hown1 hgrow1 hnil1)
            go_roundg (gk - 1)
            case rel => exact ⟨m + 1, by go_num, by omega, Lib.hid (by rw [HS1.out]; exact TRow.snoc HL7.out hown1), Lib.hid (HBB.out.grown hgrow1 hbs1 (fun q hq => (World.ownsRow.lt HOWN.out q hq).1))⟩
            case measure => omega
        · obtain rfl : m = i := by omega
          have hmi2 : ¬ (m : Int) + 1 < (m : Int) + 1 := by omega
          have hs1 : rowL (m + 1) (m + 1 + 1) = rowL (m + 1) (m + 1) ++ [⟨#[49]⟩] := by rw [rowL_succ, bin_self, it_1]
          have HS1 := Lib.hid hs1
          have rl7 : (rowL (m + 1) (m + 1)).length = m + 1 := rowL_len _ _
          have HL7 := Lib.hid rl7
          have hown : wr.ownsRow wb.heap.size 9 1 (.slice (some ⟨g7, 0, none⟩) (m + 1) c7) (m + 1) ((rowL (m + 1) (m + 1)).map Value.string) := by
            have h := hN.out
            unfold TRow at h
            rwa [HL7.out] at h
          have HOWN := Lib.hid hown
          clear hs1 rl7 hown rl HI
          go_wp2_with (at_builtin; refine wpList_append_own _ rfl (.tmp 35) (.tmp 36) 84 rfl wb.heap.size 9 i0 (.string ⟨#[]⟩) 1 16 Tryz.underlying84 hi0 hz0 hz1 hz2 rfl (by decide) (.slice (some ⟨g7, 0, none⟩) (m + 1) c7) (m + 1) _ rfl (HOWN.out.alloc _) ⟨wr.heap.size, 0, none⟩ 1 1 [.string ⟨#[49]⟩] rfl rfl (cell_new_text _ _ _) (by intro u hu; simp at hu; subst hu; rfl) (by unfold maxLen; omega) (by omega) (by simp; omega) ?_; intro v' w2 hown1 hgrow1 hnil1)
          go_roundg (gb - 1)
          case rel => exact ⟨m + 1, by go_num, by omega, Lib.hid (by rw [HS1.out]; exact (TRow.snoc HL7.out hown1).mono hbs), Lib.hid (hB.out.trans (((hK.out.alloc hks _).grown hgrow1 (by simp; omega) (fun q hq => (World.ownsRow.lt HOWN.out q hq).1)).mono hbs))⟩
          case measure => omega
    · obtain rfl : i = n := by omega
      have hc0 := HCE.out k _ (rowL_at (by omega))
      go_wp2
      go_ret
      exact ⟨rfl, hB.out⟩
end Go.Proofs.YtmhneibcbjgedaaGreatDoor
