/- The contracts of whole.apply and of the functions that stand on it, over texts. -/
import Derived.Test.YtabdnjakmhnnfaaGreatDoorTWhole
import Derived.Test.YtabdnjakmhnnfaaGreatDoorCanon
set_option linter.unusedSimpArgs false
set_option linter.unusedVariables false
namespace Go.Proofs.YtabdnjakmhnnfaaGreatDoor
open Go.RowKit
open Go.Lib (decDigits itoa nDigits)

/-- The error of an operation on two texts, and its text. -/
def wopE (z : Int) (la lb : List UInt8) : Int := if werr [la, lb] = 0 then (if nDigits z.natAbs ≤ 2000 then 0 else 6) else werr [la, lb]
def wopT (z : Int) (la lb : List UInt8) : List UInt8 := if wopE z la lb = 0 then itoa z else []
theorem wop_val (z : Int) (la lb : List UInt8) : (if werr [la, lb] = 0 then wtellV z else .tuple #[.string ⟨#[]⟩, .int .i64 (werr [la, lb])]) = (.tuple #[.string ⟨(wopT z la lb).toArray⟩, .int .i64 (wopE z la lb)] : Value) := by
  unfold wopT wopE wtellV
  by_cases h0 : werr [la, lb] = 0
  · rw [if_pos h0, if_pos h0]
    by_cases hf : nDigits z.natAbs ≤ 2000
    · rw [if_pos hf, if_pos hf, if_pos rfl]
    · rw [if_neg hf, if_neg hf, if_neg (by decide)]
  · rw [if_neg h0, if_neg h0, if_neg h0]

theorem wcheck_small {l : List UInt8} (h : wcheck l = 0) : (limbs (sread l).natAbs).length ≤ 2000 := by
  rcases wcheck_vals l with e | ⟨n, e1, e2, e3⟩
  · rw [e] at h; exact absurd h (by decide)
  · rw [e2]
    rw [e3] at h
    by_cases hd : 2000 < nDigits n.natAbs
    · rw [if_pos hd] at h; exact absurd h (by decide)
    · exact limbs_digits (by omega)
theorem werr_two {la lb : List UInt8} (h : werr [la, lb] = 0) : wcheck la = 0 ∧ wcheck lb = 0 := by
  unfold werr werr werr at h
  by_cases h0 : wcheck la = 0
  · rw [if_pos h0] at h
    refine ⟨h0, ?_⟩
    by_cases h1 : wcheck lb = 0
    · exact h1
    · rw [if_neg h1] at h; exact h
  · rw [if_neg h0] at h; exact absurd h h0

theorem two_cells (w : World) (x y : List UInt8) : ∀ i, i < 2 → (w.alloc (.cells #[.string ⟨x.toArray⟩, .string ⟨y.toArray⟩] 9)).cell? ⟨w.heap.size, i, none⟩ = some (.string ⟨(([x, y] : List (List UInt8)).getD i []).toArray⟩) := by
  intro i hi
  match i, hi with
  | 0, _ => simp
  | 1, _ => simp

set_option maxHeartbeats 2000000 in
set_option maxRecDepth 100000 in
theorem wapply_sub {w : World} {la lb : List UInt8} (hla : la.length ≤ 268435000) (hlb : lb.length ≤ 268435000) (hgd : Good w) :
    Calls Tryz.prog 108 #[.string ⟨la.toArray⟩, .string ⟨lb.toArray⟩, .func (.func 112) #[] #[]] w (RetV w (.tuple #[.string ⟨(wopT (sread la - sread lb) la lb).toArray⟩, .int .i64 (wopE (sread la - sread lb) la lb)])) := by
  rw [← wop_val]
  obtain ⟨W, hW, hB, hsz, j0⟩ := entA w 9 #[.string ⟨la.toArray⟩, .string ⟨lb.toArray⟩]
  have HW := Lib.hid hW
  have HBB := Lib.hid hB
  have hr := wreads_any (w := W) (b := w.heap.size) (cap := 2) [la, lb] 2 rfl (by omega) (by omega) (by unfold maxLen; omega) (by intro l hl; simp at hl; rcases hl with rfl | rfl <;> assumption) (by rw [HW.out]; exact two_cells w la lb)
  have e0 : [la, lb].map sread = [sread la, sread lb] := rfl
  rw [e0] at hr
  by_cases h0 : werr [la, lb] = 0
  · rw [if_pos h0]
    rw [h0] at hr
    obtain ⟨ha, hb⟩ := werr_two h0
    have f1 := wcheck_small ha
    have f2 := wcheck_small hb
    generalize sread la = m at *
    generalize sread lb = n at *
    have s1 : Fit m := Fit.of_len f1 (by omega)
    have s2 : Fit n := Fit.of_len f2 (by omega)
    have s3 : Fit (m - n) := by rw [Int.sub_eq_add_neg]; exact Fit.of_len (len_add f1 (by rw [Int.natAbs_neg]; exact f2)) (by omega)
    have ho := fun (V : World) v0 v1 (q0 : Wh V v0 m) (q1 : Wh V v1 n) => sub_any (w := V) q0 q1 s1 s2
    generalize hz : (m - n) = z at *
    have ht := fun (V : World) v (q : Wh V v z) (hh : Below W.heap.size W V) => wtold_any (w := V) q s3 (hgd.below (next_below hB hh))
    obtain ⟨T, er, hT⟩ := wtellV_form z
    rw [hT] at ht ⊢
    have HR := Lib.hid hr
    have HO := Lib.hid ho
    have HT := Lib.hid ht
    generalize (⟨la.toArray⟩ : ByteArray) = SA at *
    generalize (⟨lb.toArray⟩ : ByteArray) = SB at *
    clear hr ho ht hT h0 ha hb f1 f2 s1 s2 s3 hW hsz hB hz e0 hla hlb
    go_enter Tryz.func108, Tryz.ntmps108
    go_upto_region 1 with fail
    go_wp2_with fail
    rw [← HW.out]
    refine HR.out.mono ?_
    rintro e w1 ⟨v, rfl, hv, hb1⟩
    obtain ⟨B, hv⟩ := hv (by first | rfl | trivial)
    obtain ⟨g, c, x0, x1, y0, y1, rfl, hgl, hc1, hc2, c0, c1, c2, c3, q0, q1⟩ := hv.two
    clear hv
    unfold maxLen at hc2
    have HQ := Lib.hid (And.intro q0 q1)
    have HC := Lib.hid (And.intro c0 (And.intro c1 (And.intro c2 c3)))
    clear q0 q1 c0 c1 c2 c3
    go_upto_region 4 with fail
    have hB0 : Below w1.heap.size w1 w1.drew := (Below.refl _ _).drew
    refine wp_region_list 11 (by kernel_rfl) (by kernel_rfl) [] [fun v _ => v = .func (.func 112) #[] #[], fun v _ => v = .slice (some ⟨g, 0, none⟩) 2 c, fun v _ => v = .pointer (some ⟨g, 0, none⟩), fun v _ => v = .agg #[x0, x1], fun v _ => v = .slice (some ⟨g, 0, none⟩) 2 c, fun v _ => v = .pointer (some ⟨g, 2, none⟩), fun v _ => v = .agg #[y0, y1], fun v w' => Wh w' v (z), fun v _ => v = .tuple #[.string T, .int .i64 er], fun v _ => v = .string T, fun v _ => v = .int .i64 er] (by simp only [List.take_succ_cons, List.take_zero]; rfl) (by simp only [List.drop_succ_cons, List.drop_zero]; rfl) (fun vals => by simp only [fam, Act.put, List.setIfInBounds_toArray, List.set_cons_zero, List.set_cons_succ, if_true]; rfl) (by repeat' (first | exact Stab.eq _ _ | exact Stab.wh _ _ | exact Stab.nm _ _ | exact Stab.new _ _ | exact Stab.newn _ _ | exact Stab.tw _ _ _ | exact Stab.lm _ _ _ | exact Stab.onet _ _ _ | exact trivial | apply And.intro)) trivial ?_ ?_
    · refine ⟨?_, ?_, ?_, ?_, ?_, ?_, ?_, ?_, ?_, ?_, ?_, trivial⟩
      all_goals
        intro vals w2 hB hp
        dsimp only
        (try simp [preOk, Region.binds] at hp)
        have hb := next_below hB0 hB
        have c0 := (hb.cell (p := ⟨g, 0, none⟩) hgl).trans HC.out.1
        have c1 := (hb.cell (p := ⟨g, 1, none⟩) hgl).trans HC.out.2.1
        have c2 := (hb.cell (p := ⟨g, 2, none⟩) hgl).trans HC.out.2.2.1
        have c3 := (hb.cell (p := ⟨g, 3, none⟩) hgl).trans HC.out.2.2.2
        clear hB
      case refine_3 =>
        generalize vals 1 = t1 at *
        subst hp
        go_wp2
        exact ⟨rfl, _, rfl, rfl, Below.refl _ _, trivial⟩
      case refine_4 =>
        generalize vals 2 = t1 at *
        subst hp
        go_wp2
        exact ⟨rfl, _, rfl, rfl, Below.refl _ _, trivial⟩
      case refine_6 =>
        generalize vals 4 = t1 at *
        subst hp
        go_wp2
        exact ⟨rfl, _, rfl, rfl, Below.refl _ _, trivial⟩
      case refine_7 =>
        generalize vals 5 = t1 at *
        subst hp
        go_wp2
        exact ⟨rfl, _, rfl, rfl, Below.refl _ _, trivial⟩
      case refine_8 =>
        obtain ⟨p0, p1, p2⟩ := hp
        generalize vals 0 = t0 at *
        subst p0
        generalize vals 3 = t3 at *
        subst p1
        generalize vals 6 = t6 at *
        subst p2
        go_wp2_with (go_at_call 112; refine (HO.out _ _ _ (HQ.out.1.below hb) (HQ.out.2.below hb)).mono ?_; rintro e w3 ⟨r, rfl, hr, hb3⟩)
        exact ⟨rfl, _, rfl, hr, hb3, trivial⟩
      case refine_9 =>
        generalize vals 7 = t7 at *
        go_wp2_with (go_at_call 149; refine (HT.out _ _ hp (next_below hb1 hb)).mono ?_; rintro e w3 ⟨rfl, hb3⟩)
        exact ⟨rfl, _, rfl, rfl, hb3, trivial⟩
      case refine_10 =>
        generalize vals 8 = t8 at *
        subst hp
        go_wp2
        exact ⟨rfl, _, rfl, rfl, Below.refl _ _, trivial⟩
      case refine_11 =>
        generalize vals 8 = t8 at *
        subst hp
        go_wp2
        exact ⟨rfl, _, rfl, rfl, Below.refl _ _, trivial⟩
      all_goals
        go_wp2
        (first | exact ⟨rfl, _, rfl, rfl, Below.refl _ _, trivial⟩ | (refine ⟨rfl, _, ?_, rfl, Below.refl _ _, trivial⟩; simp only [Act.put, List.setIfInBounds_toArray, List.set_cons_zero, List.set_cons_succ, hp]))
    · rintro vals w2 hB ⟨p0, p1, p2, p3, p4, p5, p6, p7, p8, p9, p10, _⟩ hne
      have hb := next_below hB0 hB
      generalize vals 9 = v9 at *
      subst p9
      generalize vals 10 = v10 at *
      subst p10
      clear hne p0 p1 p2 p3 p4 p5 p6 p7 p8 hB
      go_wp2
      go_ret2
      exact ⟨rfl, HBB.out.trans ((next_below hb1 hb).mono HBB.out.size)⟩
  · rw [if_neg h0]
    generalize werr [la, lb] = er at *
    have hne : (er != 0) = true := by simpa using h0
    have HR := Lib.hid hr
    generalize (⟨la.toArray⟩ : ByteArray) = SA at *
    generalize (⟨lb.toArray⟩ : ByteArray) = SB at *
    clear hr h0 hW hsz hB hla hlb
    go_enter Tryz.func108, Tryz.ntmps108
    go_upto_region 1 with fail
    go_wp2_with fail
    rw [← HW.out]
    refine HR.out.mono ?_
    rintro e w1 ⟨v, rfl, hv, hb1⟩
    clear hv
    go_wp2
    go_ret2
    exact ⟨rfl, HBB.out.trans (hb1.mono HBB.out.size)⟩

set_option maxHeartbeats 1000000 in
theorem wsub_any {w : World} {la lb : List UInt8} (hla : la.length ≤ 268435000) (hlb : lb.length ≤ 268435000) (hgd : Good w) :
    Calls Tryz.prog 56 #[.string ⟨la.toArray⟩, .string ⟨lb.toArray⟩] w (RetV w (.tuple #[.string ⟨(wopT (sread la - sread lb) la lb).toArray⟩, .int .i64 (wopE (sread la - sread lb) la lb)])) := by
  have hb := wapply_sub (w := w) hla hlb hgd
  generalize wopT (sread la - sread lb) la lb = R at *
  generalize wopE (sread la - sread lb) la lb = E at *
  have HBO := Lib.hid hb
  generalize (⟨la.toArray⟩ : ByteArray) = SA at *
  generalize (⟨lb.toArray⟩ : ByteArray) = SB at *
  generalize (⟨R.toArray⟩ : ByteArray) = SR at *
  clear hb
  go_enter Tryz.func56, Tryz.ntmps56
  go_wp2_with (go_at_call 108; refine HBO.out.mono ?_; rintro e w1 ⟨rfl, hb1⟩)
  go_ret2
  exact ⟨rfl, hb1⟩

end Go.Proofs.YtabdnjakmhnnfaaGreatDoor
