/- The contracts of the small methods of numbers: parts, wholeness, digits, text, one. -/
import Derived.Test.YtmhneibcbjgedaaGreatDoorFrom
set_option linter.unusedSimpArgs false
set_option linter.unusedVariables false
namespace Go.Proofs.YtmhneibcbjgedaaGreatDoor
open Go.RowKit
open Go.Lib (decDigits itoa nDigits)

set_option maxHeartbeats 1000000 in
set_option maxRecDepth 100000 in
theorem parts_any {w : World} {v : Value} {m n : Int} (h : Pr w v m n) : Calls Tryz.prog 95 #[v] w (RetW2 w m n) := by
  obtain ⟨b, a, k, p, c, e, l, q, rfl, h1, h2⟩ := h.parts
  obtain ⟨W, hW, hB, hsz, j1, j2, j3⟩ := entC w 69 65 65 #[.bool b, .slice a k p, .bool c, .slice e l q] #[.bool false, .slice none 0 0] #[.bool false, .slice none 0 0]
  have j3 : Blk W (w.heap.size + 1 + 1) 65 #[.bool false, .slice none 0 0] := j3
  have HW := Lib.hid hW
  clear hW hsz
  have m1 := h1.below hB
  have m2 := h2.below hB
  obtain ⟨x0, x1, x2, x3⟩ := j1.at4
  have e30 := j2.cell0
  have e31 := j2.cell1
  have e3f := j2.frozen 0
  have e3g := j2.frozen 1
  have e40 := j3.cell0
  have e41 := j3.cell1
  have e4f := j3.frozen 0
  have e4g := j3.frozen 1
  have pb := put_both (Z := W) j2 j3 (by omega) (.bool b) (.slice a k p) (.bool c) (.slice e l q)
  have pq := m1.both j2 j3 (by omega) (.bool b) (.slice a k p) (.bool c) (.slice e l q)
  have pr := m2.both j2 j3 (by omega) (.bool b) (.slice a k p) (.bool c) (.slice e l q)
  have pB : Below w.heap.size w _ := below_both (g8 := w.heap.size + 1) (g9 := w.heap.size + 1 + 1) hB (by omega) (by omega) (.bool b) (.slice a k p) (.bool c) (.slice e l q)
  have HH := Lib.hid (And.intro pb (And.intro pq (And.intro pr pB)))
  clear pb pq pr pB h h1 h2 m1 m2
  go_enter Tryz.func95, Tryz.ntmps95
  go_upto_region 1 with fail
  rw [← HW.out]
  go_region_held3 (fun w' => w'.cell? ⟨w.heap.size, 0, none⟩ = some (.bool b) ∧ w'.cell? ⟨w.heap.size, 1, none⟩ = some (.slice a k p) ∧ w'.cell? ⟨w.heap.size, 2, none⟩ = some (.bool c) ∧ w'.cell? ⟨w.heap.size, 3, none⟩ = some (.slice e l q)) (first | ((try dsimp only); refine ⟨?_, ?_, ?_, ?_⟩ <;> repeat' (first | with_reducible assumption | with_reducible refine cell_drew ?_ | with_reducible refine cell_far ?_ (by omega) _)) | go_keep) (first
    | fail)
  generalize ((((W.setCell ⟨w.heap.size + 1, 0, none⟩ (.bool b)).setCell ⟨w.heap.size + 1, 1, none⟩ (.slice a k p)).setCell ⟨w.heap.size + 1 + 1, 0, none⟩ (.bool c)).setCell ⟨w.heap.size + 1 + 1, 1, none⟩ (.slice e l q)) = w9 at *
  obtain ⟨⟨g1, g2⟩, pq, pr, pB⟩ := HH.out
  have p0 := g1.cell0
  have p1 := g1.cell1
  have p2 := g2.cell0
  have p3 := g2.cell1
  go_wp2_with fail
  refine bodyPost_ret (v := .tuple #[.agg #[.bool b, .slice a k p], .agg #[.bool c, .slice e l q]]) (by simp [results, Tryz.results95, go_sem, p0, p1, p2, p3]) rfl ⟨_, _, rfl, pq.drew, pr.drew, pB.drew⟩

theorem one_limbs {n : Int} (h : (limbs n.natAbs).length = 1) : ∃ x, limbs n.natAbs = [x] ∧ x = n.natAbs := by
  match hl : limbs n.natAbs, h with
  | [x], _ =>
    have h3 := val_limbs n.natAbs
    rw [hl] at h3
    simp [val] at h3
    exact ⟨x, rfl, h3⟩

set_option maxHeartbeats 1000000 in
set_option maxRecDepth 100000 in
theorem isint_any {w : World} {v : Value} {m n : Int} (h : Pr w v m n) : Calls Tryz.prog 100 #[v] w (RetV w (.bool (decide (n.natAbs = 1)))) := by
  obtain ⟨b, a, k, p, c, e, l, q, rfl, h1, h2⟩ := h.parts
  obtain ⟨W, hW, hB, hsz, j1⟩ := entA w 69 #[.bool b, .slice a k p, .bool c, .slice e l q]
  have HW := Lib.hid hW
  clear hW hsz
  obtain ⟨a2, q2, e2, hlim⟩ := h2.form
  injection e2 with e2
  simp at e2
  obtain ⟨hcc, rfl, rfl, rfl⟩ := e2
  clear hcc
  have hlim := hlim.below hB
  obtain ⟨x0, x1, x2, x3⟩ := j1.at4
  clear h h1 h2
  by_cases hl : (limbs n.natAbs).length = 1
  · obtain ⟨x, hx, hxn⟩ := one_limbs hl
    rw [hl] at x3 j1 HW ⊢
    rw [hx] at hlim
    obtain ⟨bl, ol, rfl, q0⟩ := hlim.at_one
    have HXN := Lib.hid hxn
    clear hlim hl hx hxn
    by_cases hx1 : x = 1
    · have ed : decide (n.natAbs = 1) = true := by simp; rw [← HXN.out]; exact hx1
      rw [ed]
      subst hx1
      go_enter Tryz.func100, Tryz.ntmps100
      go_upto_region 1 with fail
      rw [← HW.out]
      go_wp2
      go_ret
      exact ⟨rfl, hB⟩
    · have ed : decide (n.natAbs = 1) = false := by simp; rw [← HXN.out]; exact hx1
      rw [ed]
      have hx2 : ((x : Int) == 1) = false := by simp; omega
      go_enter Tryz.func100, Tryz.ntmps100
      go_upto_region 1 with fail
      rw [← HW.out]
      go_wp2
      go_ret
      exact ⟨rfl, hB⟩
  · have ed : decide (n.natAbs = 1) = false := by
      simp; intro e; apply hl; rw [e]; rfl
    rw [ed]
    generalize (limbs n.natAbs).length = kk at *
    have hk2 : ((kk : Int) == 1) = false := by simp; omega
    clear hlim ed
    go_enter Tryz.func100, Tryz.ntmps100
    go_upto_region 1 with fail
    rw [← HW.out]
    go_wp2
    go_ret
    exact ⟨rfl, hB⟩

set_option maxHeartbeats 1000000 in
set_option maxRecDepth 100000 in
theorem fits_any {w : World} {v : Value} {m n : Int} (d : Int) (h : Pr w v m n) (s1 : Fit m) (s2 : Fit n) (hg : Good w) : Calls Tryz.prog 127 #[v, .int .i64 d] w (RetV w (.bool (decide ((nDigits m.natAbs : Int) ≤ d) && decide ((nDigits n.natAbs : Int) ≤ d)))) := by
  obtain ⟨b, a, k, p, c, e, l, q, rfl, h1, h2⟩ := h.parts
  obtain ⟨W, hW, hB, hsz, j1⟩ := entA w 69 #[.bool b, .slice a k p, .bool c, .slice e l q]
  have HW := Lib.hid hW
  clear hW hsz
  obtain ⟨x0, x1, x2, x3⟩ := j1.at4
  have c1 := digits_any (h1.below hB) s1 (hg.below hB)
  have c2 := fun (V : World) h => digits_any (w := V) (h2.below (hB.trans (h.mono hB.size))) s2 ((hg.below hB).below h)
  generalize nDigits m.natAbs = d1 at *
  generalize nDigits n.natAbs = d2 at *
  have C1 := Lib.hid c1
  have C2 := Lib.hid c2
  clear c1 c2 h h1 h2 hg
  by_cases hd1 : (d1 : Int) ≤ d
  · have e1 : decide ((d1 : Int) ≤ d) = true := by simpa using hd1
    rw [e1, Bool.true_and]
    go_enter Tryz.func127, Tryz.ntmps127
    go_upto_region 1 with fail
    rw [← HW.out]
    go_wp2_with (first
      | (go_at_call_of 137 (Value.agg #[Value.bool b, Value.slice a k p]); refine C1.out.mono ?_; rintro e w1 ⟨rfl, hb1⟩; have i1 := j1.next hb1; obtain ⟨y0, y1, y2, y3⟩ := i1.at4; have tok := hb1)
      | (go_at_call 137; refine (C2.out _ hb1).mono ?_; rintro e w2 ⟨rfl, hb2⟩))
    go_ret
    exact ⟨rfl, (hB.trans (hb1.mono hB.size)).trans (hb2.mono (Nat.le_trans hB.size hb1.size))⟩
  · have e1 : decide ((d1 : Int) ≤ d) = false := by simpa using hd1
    rw [e1, Bool.false_and]
    go_enter Tryz.func127, Tryz.ntmps127
    go_upto_region 1 with fail
    rw [← HW.out]
    go_wp2_with (go_at_call 137; refine C1.out.mono ?_; rintro e w1 ⟨rfl, hb1⟩)
    go_ret
    exact ⟨rfl, hB.trans (hb1.mono hB.size)⟩

set_option maxHeartbeats 1000000 in
theorem one_any {w : World} : Calls Tryz.prog 92 #[] w (RetN w 1) := by
  obtain ⟨W, hW, hB, hsz, j1⟩ := entA w 69 #[.bool false, .slice none 0 0, .bool false, .slice none 0 0]
  have HW := Lib.hid hW
  clear hW hsz
  go_enter Tryz.func92, Tryz.ntmps92
  go_upto_region 1 with fail
  rw [← HW.out]
  go_wp2_with (go_at_call 48; refine (num_of (m := 1) (n := 1) (by decide) (by decide) (by decide) (by decide) (by decide)).mono ?_; rintro e w3 ⟨r3, rfl, hr3, hb3⟩; obtain ⟨b9, a9, k9, q9, c9, e9, l9, r9, rfl, f9, g9⟩ := hr3.parts; have hj := j1.next hb3; obtain ⟨c0, c1, c2, c3⟩ := hj.at4; obtain ⟨u0, u1, u2, u3⟩ := hj.fr4; have jw := Lib.hid (hj.four (.bool b9) (.slice a9 k9 q9) (.bool c9) (.slice e9 l9 r9)); have pw := Lib.hid (hr3.four hj (by decide) (.bool b9) (.slice a9 k9 q9) (.bool c9) (.slice e9 l9 r9)); have pb := Lib.hid (next_below hB hb3); clear hr3 f9 g9)
  obtain ⟨d0, d1, d2, d3⟩ := jw.out.at4
  refine bodyPost_ret (v := .agg #[.bool b9, .slice a9 k9 q9, .bool c9, .slice e9 l9 r9]) (by simp [results, Tryz.results92, go_sem, d0, d1, d2, d3]) rfl ⟨_, rfl, pw.out, below_four pb.out (Nat.le_refl _) _ _ _ _⟩

/-- The canonical text of a number. -/
def ratText (x : Rat) : List UInt8 := itoa x.num ++ (if x.den = 1 then [] else 47 :: decDigits x.den)

theorem nDigits_limbs (n : Nat) : nDigits n ≤ 9 * (limbs n).length + 1 := by
  have h := shown_len (l := limbs n) (k := 0) (limbs_ok n)
  rcases Nat.eq_zero_or_pos n with h0 | h0
  · subst h0; rw [Lib.nDigits_small (by decide)]; omega
  · have h1 := limbs_length_pos h0
    unfold shown at h
    rw [if_neg (by omega), List.drop_zero, val_limbs, Lib.decDigits_length] at h
    exact h
theorem itoa_len (n : Int) : (itoa n).length ≤ nDigits n.natAbs + 1 := by
  unfold itoa
  split
  · rw [List.length_cons, Lib.decDigits_length]; omega
  · rw [Lib.decDigits_length, show n.toNat = n.natAbs by omega]; omega

set_option maxHeartbeats 1000000 in
set_option maxRecDepth 100000 in
theorem num_text {w : World} {v : Value} {x : Rat} (h : Nm w v x) (s : Sz 268435456 x) (hg : Good w) : Calls Tryz.prog 43 #[v] w (RetV w (.string ⟨(ratText x).toArray⟩)) := by
  obtain ⟨b, a, k, p, c, e, l, q, rfl, h1, h2⟩ := h.parts
  obtain ⟨W, hW, hB, hsz, j1⟩ := entA w 69 #[.bool b, .slice a k p, .bool c, .slice e l q]
  have HW := Lib.hid hW
  clear hW hsz
  obtain ⟨x0, x1, x2, x3⟩ := j1.at4
  have isi := isint_any (h.pr.below hB)
  have c1 := fun (V : World) hh => text_any (w := V) (h1.below (hB.trans (Below.mono hh hB.size))) (Fit.of_len s.1 (by omega)) ((hg.below hB).below hh)
  have c2 := fun (V : World) hh => text_any (w := V) (h2.below (hB.trans (Below.mono hh hB.size))) (Fit.of_len s.den (by omega)) ((hg.below hB).below hh)
  have b1 := itoa_len x.num
  have b2 := itoa_len (x.den : Int)
  have b3 := nDigits_limbs x.num.natAbs
  have b4 := nDigits_limbs (x.den : Int).natAbs
  have b5 := s.1
  have b6 := s.den
  have ht : ratText x = itoa x.num ++ (if x.den = 1 then [] else 47 :: itoa x.den) := by unfold ratText; rw [Lib.itoa_nonneg]
  rw [ht]
  have sz1 : (⟨(itoa x.num).toArray⟩ : ByteArray).size = (itoa x.num).length := by show (itoa x.num).toArray.size = _; rw [List.size_toArray]
  have sz2 : (⟨(itoa (x.den : Int)).toArray⟩ : ByteArray).size = (itoa (x.den : Int)).length := by show (itoa (x.den : Int)).toArray.size = _; rw [List.size_toArray]
  have hcat : (⟨(itoa x.num).toArray⟩ : ByteArray) ++ ⟨#[47]⟩ ++ ⟨(itoa (x.den : Int)).toArray⟩ = ⟨(itoa x.num ++ 47 :: itoa (x.den : Int)).toArray⟩ := by
    rw [show (#[47] : Array UInt8) = [47].toArray from rfl, ByteArray.mk_append_mk, ByteArray.mk_append_mk, List.append_assoc]; rfl
  by_cases hd : x.den = 1
  · rw [if_pos hd, List.append_nil]
    have ed : decide ((x.den : Int).natAbs = 1) = true := by simpa using hd
    rw [ed] at isi
    generalize (⟨(itoa x.num).toArray⟩ : ByteArray) = S at *
    have C1 := Lib.hid c1
    have IS := Lib.hid isi
    clear c1 c2 isi b1 b2 b3 b4 b5 b6 ht sz1 sz2 hcat hd ed h h1 h2 hg s
    go_enter Tryz.func43, Tryz.ntmps43
    go_upto_region 1 with fail
    rw [← HW.out]
    go_wp2_with (first
      | (go_at_call 100; refine IS.out.mono ?_; rintro e w1 ⟨rfl, hb1⟩; have i1 := j1.next hb1; obtain ⟨y0, y1, y2, y3⟩ := i1.at4)
      | (go_at_call 39; refine (C1.out _ hb1).mono ?_; rintro e w2 ⟨rfl, hb2⟩))
    go_ret
    exact ⟨rfl, (hB.trans (hb1.mono hB.size)).trans (hb2.mono (Nat.le_trans hB.size hb1.size))⟩
  · rw [if_neg hd]
    have ed : decide ((x.den : Int).natAbs = 1) = false := by simpa using hd
    rw [ed] at isi
    generalize hS : (⟨(itoa x.num).toArray⟩ : ByteArray) = S at *
    generalize hT : (⟨(itoa (x.den : Int)).toArray⟩ : ByteArray) = T at *
    have bS : S.size ≤ 3000000000 := by omega
    have bT : T.size ≤ 3000000000 := by omega
    have C1 := Lib.hid c1
    have C2 := Lib.hid c2
    have IS := Lib.hid isi
    have HCAT := Lib.hid hcat
    clear c1 c2 isi b1 b2 b3 b4 b5 b6 ht sz1 sz2 hcat hd ed hS hT h h1 h2 hg s
    have bU : (S ++ ⟨#[47]⟩).size ≤ 3000000001 := by rw [ByteArray.size_append]; show S.size + 1 ≤ _; omega
    have bV : (⟨#[47]⟩ : ByteArray).size = 1 := rfl
    go_enter Tryz.func43, Tryz.ntmps43
    go_upto_region 1 with fail
    rw [← HW.out]
    go_upto_region 3 with (go_at_call 100; refine IS.out.mono ?_; rintro e w1 ⟨rfl, hb1⟩)
    have j1 := j1.next hb1
    have hBn := hB.trans (hb1.mono hB.size)
    have C1' := Lib.hid (fun (V : World) hh => C1.out V (hb1.trans (Below.mono hh hb1.size)))
    have C2' := Lib.hid (fun (V : World) hh => C2.out V (hb1.trans (Below.mono hh hb1.size)))
    have hb1s := hb1.size
    have hBs := hB.size
    have C1 := C1'
    have C2 := C2'
    clear hB hb1 x0 x1 x2 x3
    have hB0 : Below w1.heap.size w1 w1.drew := (Below.refl _ _).drew
    refine wp_region_list 8 (by kernel_rfl) (by kernel_rfl) [] [fun v _ => v = .pointer (some ⟨w.heap.size, 0, none⟩), fun v _ => v = .agg #[.bool b, .slice a k p], fun v _ => v = .string S, fun v _ => v = .string (S ++ ⟨#[47]⟩), fun v _ => v = .pointer (some ⟨w.heap.size, 2, none⟩), fun v _ => v = .agg #[.bool c, .slice e l q], fun v _ => v = .string T, fun v _ => v = .string (S ++ ⟨#[47]⟩ ++ T)] (by simp only [List.take_succ_cons, List.take_zero]; rfl) (by simp only [List.drop_succ_cons, List.drop_zero]; rfl) (fun vals => by simp only [fam, Act.put, List.setIfInBounds_toArray, List.set_cons_zero, List.set_cons_succ, if_true]; rfl) (by repeat' (first | exact Stab.eq _ _ | exact Stab.wh _ _ | exact Stab.nm _ _ | exact Stab.new _ _ | exact Stab.newn _ _ | exact trivial | apply And.intro)) trivial ?_ ?_
    · refine ⟨?_, ?_, ?_, ?_, ?_, ?_, ?_, ?_, trivial⟩
      all_goals
        intro vals wv hB hp
        dsimp only
        (try simp [preOk, Region.binds] at hp)
        have hb := next_below hB0 hB
        have hbl0 := j1.next hb
        have hc0_0 := hbl0.cell 0
        have hc0_1 := hbl0.cell 1
        have hc0_2 := hbl0.cell 2
        have hc0_3 := hbl0.cell 3
        simp at hc0_0 hc0_1 hc0_2 hc0_3
        clear hB
      case refine_3 =>
        have q0 := hp
        generalize vals 1 = x1 at *
        subst q0
        go_wp2_with ((go_at_call 39; refine (C1.out _ hb).mono ?_; rintro e w2 ⟨rfl, hb2⟩))
        exact ⟨rfl, _, rfl, rfl, hb2, trivial⟩
      case refine_4 =>
        have q0 := hp
        generalize vals 2 = x2 at *
        subst q0
        go_wp2
        exact ⟨rfl, _, rfl, rfl, Below.refl _ _, trivial⟩
      case refine_7 =>
        obtain ⟨q0, q1⟩ := hp
        generalize vals 5 = x5 at *
        subst q0
        generalize vals 2 = x2 at *
        subst q1
        go_wp2_with ((go_at_call 39; refine (C2.out _ hb).mono ?_; rintro e w2 ⟨rfl, hb2⟩))
        exact ⟨rfl, _, rfl, rfl, hb2, trivial⟩
      case refine_8 =>
        obtain ⟨q0, q1⟩ := hp
        generalize vals 3 = x3 at *
        subst q0
        generalize vals 6 = x6 at *
        subst q1
        go_wp2
        exact ⟨rfl, _, rfl, rfl, Below.refl _ _, trivial⟩
      all_goals
        go_wp2
        (first | exact ⟨rfl, _, rfl, rfl, Below.refl _ _, trivial⟩ | (refine ⟨rfl, _, ?_, rfl, Below.refl _ _, trivial⟩; simp only [Act.put, List.setIfInBounds_toArray, List.set_cons_zero, List.set_cons_succ, hp]))
    · rintro vals wv hB ⟨p0, p1, p2, p3, p4, p5, p6, p7, _⟩ hne
      have hb := next_below hB0 hB
      have hbN := hBn.trans (hb.mono hBn.size)
      simp at p7
      generalize vals 7 = v7 at *
      subst p7
      clear hB hne p0 p1 p2 p3 p4 p5 p6
      go_wp2
      go_ret
      exact ⟨by rw [HCAT.out]; rfl, hbN⟩

end Go.Proofs.YtmhneibcbjgedaaGreatDoor
