/- The contracts of croupierref02.cut and Parts. -/
import Derived.Test.YtpmlmibceiolpaaGreatDoorR2a
set_option linter.unusedSimpArgs false
set_option linter.unusedVariables false
namespace Go.Proofs.YtpmlmibceiolpaaGreatDoor.D4
open Go.RowKit
open Go.Lib (decDigits itoa nDigits)

theorem anytext : (Region.Mode.any == Region.Mode.text) = false := rfl
theorem anygc : (Region.Mode.any == Region.Mode.gc) = false := rfl
theorem index_find : ∀ (l : List UInt8), Lib.index l [47] = if l.findIdx (· == 47) < l.length then ((l.findIdx (· == 47) : Nat) : Int) else -1
  | [] => by decide
  | c :: r => by
    have ih := index_find r
    simp only [Lib.index, List.findIdx_cons, List.length_cons]
    by_cases hc : c = 47
    · subst hc
      simp [List.isPrefixOf]
    · have h1 : ([47] : List UInt8).isPrefixOf (c :: r) = false := by simp [List.isPrefixOf]; exact fun e => hc e.symm
      have h2 : (c == 47) = false := by simpa using hc
      rw [h1, h2, ih]
      by_cases hl : r.findIdx (· == 47) < r.length
      · simp [hl]
      · simp [hl]
theorem cut_find (l : List UInt8) : Lib.cut l [47] = if l.findIdx (· == 47) < l.length then (l.take (l.findIdx (· == 47)), l.drop (l.findIdx (· == 47) + 1), true) else (l, [], false) := by
  unfold Lib.cut
  rw [index_find]
  by_cases hl : l.findIdx (· == 47) < l.length
  · simp [hl]
  · simp [hl]

/-- What cut hands back. -/
def cutV (l : List UInt8) : Value := if (Lib.cut l [47]).2.2 = true then .tuple #[.string ⟨(Lib.cut l [47]).1.toArray⟩, .string ⟨(Lib.cut l [47]).2.1.toArray⟩, .bool true] else .tuple #[.string ⟨l.toArray⟩, .string ⟨#[49]⟩, .bool false]

set_option maxHeartbeats 4000000 in
set_option maxRecDepth 100000 in
theorem cut2_any {w : World} (l : List UInt8) (hl : l.length ≤ 1000000) : Calls Tryz.prog 82 #[.string ⟨l.toArray⟩] w (RetV w (cutV l)) := by
  obtain ⟨i, hi⟩ : ∃ i, i = l.findIdx (· == 47) := ⟨_, rfl⟩
  have hc := cut_find l
  rw [← hi] at hc
  have hile : i ≤ l.length := by rw [hi]; exact List.findIdx_le_length
  have hno : ∀ k, k < i → ∀ h : k < l.length, ((l[k].toNat : Int) == 47) = false := by
    intro k hk h
    rw [hi] at hk
    have := List.not_of_lt_findIdx hk
    rw [beq_eq_false_iff_ne]
    intro e
    apply Bool.eq_false_iff.1 this
    rw [beq_iff_eq]
    exact UInt8.toNat_inj.1 (show l[k].toNat = (47 : UInt8).toNat by have : (47 : UInt8).toNat = 47 := rfl; omega)
  have hyes : ∀ h : i < l.length, ((l[i].toNat : Int) == 47) = true := by
    intro h
    have h2 : l.findIdx (· == 47) < l.length := by rw [← hi]; exact h
    have := List.findIdx_getElem (w := h2)
    rw [beq_iff_eq] at this
    subst hi
    rw [this]; rfl
  have hsz := ba_size l
  have hget : ∀ k (h : k < (⟨l.toArray⟩ : ByteArray).size) (h2 : k < l.length), ((⟨l.toArray⟩ : ByteArray)[k]'h) = l[k] := fun k h h2 => by
    show l.toArray[k] = l[k]
    simp
  have hno' : ∀ k, k < i → ∀ h : k < (⟨l.toArray⟩ : ByteArray).size, ((((⟨l.toArray⟩ : ByteArray)[k]'h).toNat : Int) == 47) = false := fun k hk h => by
    have h2 : k < l.length := by rw [ba_size] at h; exact h
    rw [hget k h h2]; exact hno k hk h2
  have hyes' : ∀ h : i < (⟨l.toArray⟩ : ByteArray).size, ((((⟨l.toArray⟩ : ByteArray)[i]'h).toNat : Int) == 47) = true := fun h => by
    have h2 : i < l.length := by rw [ba_size] at h; exact h
    rw [hget i h h2]; exact hyes h2
  have HNO := Lib.hid hno'
  have HYES := Lib.hid hyes'
  by_cases hlt : i < l.length
  · have hv : cutV l = .tuple #[.string ((⟨l.toArray⟩ : ByteArray).extract 0 i), .string ((⟨l.toArray⟩ : ByteArray).extract (i + 1) (⟨l.toArray⟩ : ByteArray).size), .bool true] := by
      unfold cutV
      rw [hc, if_pos hlt, if_pos rfl, extract_list, extract_list, ba_size, List.take_length]
      rfl
    have HV := Lib.hid hv.symm
    generalize cutV l = R at *
    generalize (⟨l.toArray⟩ : ByteArray) = S at *
    obtain ⟨n, hn⟩ : ∃ n, n = l.length := ⟨_, rfl⟩
    rw [← hn] at hlt hile hsz hl
    clear hno hyes hno' hyes' hc hi hv hget hn
    go_enter Tryz.func82, Tryz.ntmps82
    go_wp2
    go_loop [5] (fun u5 => ∃ k : Nat, k ≤ i ∧ u5 = .int .i64 k) (fun u5 => n - (intOf u5).toNat)
    case atStart => exact ⟨0, Nat.zero_le _, rfl⟩
    case round =>
      obtain ⟨k, hk, rfl⟩ := hrel
      have hkS : k < S.size := by omega
      by_cases hki : k < i
      · have hx := HNO.out k hki hkS
        go_wp2
        go_round
        case rel => exact ⟨k + 1, by omega, by go_num⟩
        case measure => simp [intOf]; omega
      · obtain rfl : k = i := by omega
        have hx := HYES.out hkS
        go_upto_region 5 with fail
        have hB0 : Below w.heap.size w w.drew := (Below.refl _ _).drew
        refine wp_region_list 8 (by kernel_rfl) (by kernel_rfl) [] [fun v _ => v = .string S, fun v _ => v = .int .i64 (k : Int), fun v _ => v = .string (S.extract 0 k), fun v _ => v = .string S, fun v _ => v = .int .i64 (k : Int), fun v _ => v = .int .i64 ((k : Int) + 1), fun v _ => v = .string (S.extract (k + 1) S.size), fun v _ => v = .string (S.extract 0 k)] (by simp only [List.take_succ_cons, List.take_zero]; rfl) (by simp only [List.drop_succ_cons, List.drop_zero]; rfl) (fun vals => by simp only [fam, Act.put, List.setIfInBounds_toArray, List.set_cons_zero, List.set_cons_succ, if_true]; rfl) (by repeat' (first | exact Stab.eq _ _ | exact Stab.wh _ _ | exact Stab.nm _ _ | exact Stab.new _ _ | exact Stab.newn _ _ | exact Stab.tw _ _ _ | exact Stab.lm _ _ _ | exact trivial | apply And.intro)) trivial ?_ ?_
        · refine ⟨?_, ?_, ?_, ?_, ?_, ?_, ?_, ?_, trivial⟩
          all_goals
            intro vals w1 hB hp
            dsimp only
            (try simp [preOk, Region.binds, anygc, anytext] at hp)
          case refine_3 =>
            obtain ⟨a0, a1⟩ := hp
            generalize vals 0 = x0 at *
            subst a0
            generalize vals 1 = x1 at *
            subst a1
            go_wp2
            (first | exact ⟨rfl, _, rfl, rfl, Below.refl _ _, trivial⟩ | (refine ⟨rfl, _, ?_, rfl, Below.refl _ _, trivial⟩; simp only [Act.put, List.setIfInBounds_toArray, List.set_cons_zero, List.set_cons_succ, hp]))
          case refine_6 =>
            have a0 := hp
            generalize vals 4 = x4 at *
            subst a0
            go_wp2
            (first | exact ⟨rfl, _, rfl, rfl, Below.refl _ _, trivial⟩ | (refine ⟨rfl, _, ?_, rfl, Below.refl _ _, trivial⟩; simp only [Act.put, List.setIfInBounds_toArray, List.set_cons_zero, List.set_cons_succ, hp]))
          case refine_7 =>
            obtain ⟨a0, a1⟩ := hp
            generalize vals 3 = x3 at *
            subst a0
            generalize vals 5 = x5 at *
            subst a1
            go_wp2
            (first | exact ⟨rfl, _, rfl, rfl, Below.refl _ _, trivial⟩ | (refine ⟨rfl, _, ?_, rfl, Below.refl _ _, trivial⟩; simp only [Act.put, List.setIfInBounds_toArray, List.set_cons_zero, List.set_cons_succ, hp]))
          case refine_8 =>
            have a0 := hp.1
            generalize vals 2 = x2 at *
            subst a0
            go_wp2
            (first | exact ⟨rfl, _, rfl, rfl, Below.refl _ _, trivial⟩ | (refine ⟨rfl, _, ?_, rfl, Below.refl _ _, trivial⟩; simp only [Act.put, List.setIfInBounds_toArray, List.set_cons_zero, List.set_cons_succ, hp]))
          all_goals
            go_wp2
            (first | exact ⟨rfl, _, rfl, rfl, Below.refl _ _, trivial⟩ | (refine ⟨rfl, _, ?_, rfl, Below.refl _ _, trivial⟩; simp only [Act.put, List.setIfInBounds_toArray, List.set_cons_zero, List.set_cons_succ, hp]))
        · rintro vals w1 hB ⟨z0, z1, z2, z3, z4, z5, z6, z7, _⟩ hne
          have hb := next_below hB0 hB
          simp at z6 z7
          clear hB hne
          generalize vals 6 = x6 at *
          subst z6
          generalize vals 7 = x7 at *
          subst z7
          clear z0 z1 z2 z3 z4 z5
          go_wp2
          exact bodyPost_ret (v := .tuple #[.string (S.extract 0 k), .string (S.extract (k + 1) n), .bool true]) (by simp [results, Tryz.results82, go_sem]) rfl ⟨by rw [← HV.out, hsz], hb⟩
  · have hv : cutV l = .tuple #[.string ⟨l.toArray⟩, .string ⟨#[49]⟩, .bool false] := by
      unfold cutV
      rw [hc, if_neg hlt, if_neg (by simp)]
    have HV := Lib.hid hv.symm
    generalize cutV l = R at *
    generalize (⟨l.toArray⟩ : ByteArray) = S at *
    obtain ⟨n, hn⟩ : ∃ n, n = l.length := ⟨_, rfl⟩
    rw [← hn] at hlt hile hsz hl
    obtain rfl : i = n := by omega
    clear hno hyes hno' hyes' hc hi hv hget hn hlt hile
    go_enter Tryz.func82, Tryz.ntmps82
    go_wp2
    go_loop [5] (fun u5 => ∃ k : Nat, k ≤ i ∧ u5 = .int .i64 k) (fun u5 => i - (intOf u5).toNat)
    case atStart => exact ⟨0, Nat.zero_le _, rfl⟩
    case round =>
      obtain ⟨k, hk, rfl⟩ := hrel
      by_cases hki : k < i
      · have hkS : k < S.size := by omega
        have hx := HNO.out k hki hkS
        go_wp2
        go_round
        case rel => exact ⟨k + 1, by omega, by go_num⟩
        case measure => simp [intOf]; omega
      · obtain rfl : k = i := by omega
        go_wp2
        exact bodyPost_ret (v := .tuple #[.string S, .string ⟨#[49]⟩, .bool false]) (by simp [results, Tryz.results82, go_sem]) rfl ⟨by rw [← HV.out], Below.refl _ _⟩

/- Over numbers. -/

/-- Numbers of at most 19000 digits a part. -/
def Mid (x : Rat) : Prop := fitsD 19000 x
theorem rt_len {x : Rat} (h : fitsD 40000 x) : (ratText x).length ≤ 1000000 := by
  unfold ratText
  rw [List.length_append]
  have h1 := itoa_len x.num
  have h2 := h.1
  have h3 := h.2
  have h4 := Lib.decDigits_length x.den
  split
  · simp; omega
  · simp; omega
theorem int_of_den {x : Rat} (h : x.den = 1) : x = (x.num : Rat) := Rat.ext (by rw [Rat.num_intCast]) (by rw [Rat.den_intCast, h])
theorem add_ints {x y : Rat} (h : x.den = 1) (h2 : y.den = 1) : it (x.num + y.num) = rt (x + y) := by
  have e : x + y = ((x.num + y.num : Int) : Rat) := by
    conv => lhs; rw [int_of_den h, int_of_den h2]
    push_cast; rfl
  rw [e, rt_one (Rat.den_intCast _), Rat.num_intCast]
theorem mul_ints {x y : Rat} (h : x.den = 1) (h2 : y.den = 1) : it (x.num * y.num) = rt (x * y) := by
  have e : x * y = ((x.num * y.num : Int) : Rat) := by
    conv => lhs; rw [int_of_den h, int_of_den h2]
    push_cast; rfl
  rw [e, rt_one (Rat.den_intCast _), Rat.num_intCast]
theorem neg_make (x : Rat) : Rat.divInt (-x.num) x.den = -x := by rw [← Rat.neg_divInt, Rat.num_divInt_den]
theorem sgz_sub (a b : Int) : sgz a b = (a - b).sign := by
  unfold sgz
  rcases Int.lt_trichotomy a b with h | h | h
  · rw [if_pos h, Int.sign_eq_neg_one_of_neg (by omega)]
  · subst h; simp
  · rw [if_neg (by omega), if_pos h, Int.sign_eq_one_of_pos (by omega)]
theorem add_it {w : World} (m n : Int) (sm : Sm m) (sn : Sm n) (hg : Good w) : Calls Tryz.prog 50 #[.string (it m), .string (it n)] w (RetV w (.string (it (m + n)))) := add_any m n sm sn hg
theorem mul_it {w : World} (m n : Int) (sm : Sm m) (sn : Sm n) (hg : Good w) : Calls Tryz.prog 52 #[.string (it m), .string (it n)] w (RetV w (.string (it (m * n)))) := mul_any m n sm sn hg
theorem cmp_it {w : World} (m n : Int) (sm : Sm m) (sn : Sm n) : Calls Tryz.prog 96 #[.string (it m), .string (it n)] w (RetV w (.int .i64 (sgz m n))) := cmp_any m n sm sn
theorem digits_it {w : World} (m : Int) (sm : Sm m) : Calls Tryz.prog 122 #[.string (it m)] w (RetV w (.int .i64 (nDigits m.natAbs))) := (digits_any m sm).mono fun e w' h => ⟨h.1, h.2 ▸ Below.refl _ _⟩

theorem cutV_rt (x : Rat) : cutV (ratText x) = .tuple #[.string (it x.num), .string (it (x.den : Int)), .bool (decide (x.den ≠ 1))] := by
  unfold cutV
  rw [cut_ratText]
  by_cases h : x.den = 1
  · have e := rt_one h
    have e1 : it 1 = ⟨#[49]⟩ := by decide +kernel
    unfold rt at e
    simp [h, e, e1]
  · simp [h]; exact ⟨rfl, rfl⟩

set_option maxHeartbeats 2000000 in
theorem parts_rt {w : World} {x : Rat} (hx : fitsD 40000 x) : Calls Tryz.prog 49 #[.string (rt x)] w (RetV w (.tuple #[.string (it x.num), .string (it (x.den : Int))])) := by
  have h := cut2_any (w := w) (ratText x) (rt_len hx)
  rw [cutV_rt] at h
  have H1 := Lib.hid (show Calls Tryz.prog 82 #[.string (rt x)] w (RetV w (.tuple #[.string (it x.num), .string (it (x.den : Int)), .bool (decide (x.den ≠ 1))])) from h)
  have HB0 := Lib.hid (Below.refl w.heap.size w)
  generalize it x.num = A at *
  generalize it (x.den : Int) = B at *
  generalize decide (x.den ≠ 1) = b at *
  generalize rt x = S at *
  clear h hx
  go_enter Tryz.func49, Tryz.ntmps49
  go_wp2_with fail
  refine (H1.out).mono ?_
  rintro e V ⟨rfl, kk⟩
  have K1 := Lib.hid (next_below HB0.out kk)
  clear kk
  go_wp2
  go_ret2
  exact ⟨rfl, K1.out⟩

set_option maxHeartbeats 2000000 in
theorem neg_rt {w : World} {x : Rat} (hx : fitsD 40000 x) (hg : Good w) : Calls Tryz.prog 53 #[.string (rt x)] w (RetV w (.string (rt (-x)))) := by
  have H1 := Lib.hid (fun (V : World) => parts_rt (w := V) hx)
  have H2 := Lib.hid (fun (V : World) => neg_it (w := V) x.num (Nat.le_trans hx.1 (by omega)))
  have H3 := Lib.hid (fun (V : World) (hV : Good V) => rmake_any (w := V) (-x.num) x.den (by rw [Int.natAbs_neg]; exact hx.1) (den_fit x hx) (den_ne x) hV)
  rw [neg_make] at H3
  have HG := Lib.hid (fun (V : World) (hV : Below w.heap.size w V) => hg.below hV)
  have HB0 := Lib.hid (Below.refl w.heap.size w)
  generalize it (-x.num) = C at *
  generalize it x.num = A at *
  generalize it (x.den : Int) = B at *
  generalize rt (-x) = R at *
  generalize rt x = S at *
  clear hx hg
  go_enter Tryz.func53, Tryz.ntmps53
  go_wp2_with fail
  refine (H1.out _).mono ?_
  rintro e V ⟨rfl, kk⟩
  have K1 := Lib.hid (next_below HB0.out kk)
  clear kk
  go_wp2_with fail
  refine (H2.out _).mono ?_
  rintro e V ⟨rfl, kk⟩
  have K2 := Lib.hid (next_below K1.out kk)
  clear kk
  go_wp2_with fail
  refine (H3.out _ (HG.out _ K2.out)).mono ?_
  rintro e V ⟨rfl, kk⟩
  have K3 := Lib.hid (next_below K2.out kk)
  clear kk
  go_wp2
  go_ret
  exact ⟨rfl, K3.out⟩

set_option maxHeartbeats 4000000 in
theorem add_rt {w : World} {x y : Rat} (hx : Mid x) (hy : Mid y) (hg : Good w) : Calls Tryz.prog 25 #[.string (rt x), .string (rt y)] w (RetV w (.string (rt (x + y)))) := by
  have hx' : fitsD 40000 x := ⟨Nat.le_trans hx.1 (by omega), Nat.le_trans hx.2 (by omega)⟩
  have hy' : fitsD 40000 y := ⟨Nat.le_trans hy.1 (by omega), Nat.le_trans hy.2 (by omega)⟩
  have nx := hx.1
  have ny := hy.1
  have dx := den_fit x hx
  have dy := den_fit y hy
  have H1 := Lib.hid (fun (V : World) => parts_rt (w := V) hx')
  have H2 := Lib.hid (fun (V : World) => parts_rt (w := V) hy')
  have e1 := it_one (x.den : Int)
  have e2 := it_one (y.den : Int)
  have HG := Lib.hid (fun (V : World) (hV : Below w.heap.size w V) => hg.below hV)
  have HB0 := Lib.hid (Below.refl w.heap.size w)
  have sm : ∀ {z : Int}, nDigits z.natAbs ≤ 19000 → Sm z := fun h => Nat.le_trans h (by omega)
  by_cases hb : x.den = 1 ∧ y.den = 1
  · have q1 : decide ((x.den : Int) = 1) = true := by simp [hb.1]
    have q2 : decide ((y.den : Int) = 1) = true := by simp [hb.2]
    rw [q1] at e1
    rw [q2] at e2
    have H3 := Lib.hid (fun (V : World) (hV : Good V) => add_it (w := V) x.num y.num (sm nx) (sm ny) hV)
    have e3 := add_ints hb.1 hb.2
    rw [e3] at H3
    clear q1 q2 hb e3
    generalize rt (x + y) = R at *
    generalize it x.num = A at *
    generalize it (x.den : Int) = B at *
    generalize it y.num = C at *
    generalize it (y.den : Int) = E at *
    generalize rt x = S at *
    generalize rt y = T at *
    clear hx hy hx' hy' hg nx ny dx dy sm
    go_enter Tryz.func25, Tryz.ntmps25
    go_wp2_with fail
    refine (H1.out _).mono ?_
    rintro e V ⟨rfl, kk⟩
    have K1 := Lib.hid (next_below HB0.out kk)
    clear kk
    go_wp2_with fail
    refine (H2.out _).mono ?_
    rintro e V ⟨rfl, kk⟩
    have K2 := Lib.hid (next_below K1.out kk)
    clear kk
    go_wp2_with fail
    refine (H3.out _ (HG.out _ K2.out)).mono ?_
    rintro e V ⟨rfl, kk⟩
    have K3 := Lib.hid (next_below K2.out kk)
    clear kk
    go_wp2
    go_ret
    exact ⟨rfl, K3.out⟩
  · have m1 := nDigits_imul nx dy
    have m2 := nDigits_imul ny dx
    have m3 := nDigits_imul dx dy
    have m4 := nDigits_iadd m1 m2
    have H3 := Lib.hid (fun (V : World) (hV : Good V) => mul_it (w := V) x.num y.den (sm nx) (sm dy) hV)
    have H4 := Lib.hid (fun (V : World) (hV : Good V) => mul_it (w := V) y.num x.den (sm ny) (sm dx) hV)
    have H5 := Lib.hid (fun (V : World) (hV : Good V) => add_it (w := V) (x.num * y.den) (y.num * x.den) (Nat.le_trans m1 (by omega)) (Nat.le_trans m2 (by omega)) hV)
    have H6 := Lib.hid (fun (V : World) (hV : Good V) => mul_it (w := V) x.den y.den (sm dx) (sm dy) hV)
    have HM := Lib.hid (fun (V : World) (hV : Good V) => rmake_any (w := V) (x.num * y.den + y.num * x.den) (x.den * y.den) (Nat.le_trans m4 (by omega)) (Nat.le_trans m3 (by omega)) (Int.mul_ne_zero (den_ne x) (den_ne y)) hV)
    clear m1 m2 m3 m4
    rw [rat_add] at HM
    generalize rt (x + y) = R at *
    generalize it (x.num * (y.den : Int) + y.num * (x.den : Int)) = Z at *
    generalize it (x.num * (y.den : Int)) = Z1 at *
    generalize it (y.num * (x.den : Int)) = Z2 at *
    generalize it ((x.den : Int) * (y.den : Int)) = Z3 at *
    generalize it x.num = A at *
    generalize it y.num = C at *
    generalize rt x = S at *
    generalize rt y = T at *
    have hbb : (x.den = 1 ∧ ¬ y.den = 1) ∨ ¬ x.den = 1 := by
      by_cases h : x.den = 1
      · exact Or.inl ⟨h, fun h2 => hb ⟨h, h2⟩⟩
      · exact Or.inr h
    rcases hbb with ⟨h1, h2⟩ | h1
    · have q1 : decide ((x.den : Int) = 1) = true := by simp [h1]
      have q2 : decide ((y.den : Int) = 1) = false := by simp; omega
      rw [q1] at e1
      rw [q2] at e2
      generalize it (x.den : Int) = B at *
      generalize it (y.den : Int) = E at *
      clear hx hy hx' hy' hg nx ny dx dy sm hb h1 h2 q1 q2
      go_enter Tryz.func25, Tryz.ntmps25
      go_wp2_with fail
      refine (H1.out _).mono ?_
      rintro e V ⟨rfl, kk⟩
      have K1 := Lib.hid (next_below HB0.out kk)
      clear kk
      go_wp2_with fail
      refine (H2.out _).mono ?_
      rintro e V ⟨rfl, kk⟩
      have K2 := Lib.hid (next_below K1.out kk)
      clear kk
      go_wp2_with fail
      refine (H3.out _ (HG.out _ K2.out)).mono ?_
      rintro e V ⟨rfl, kk⟩
      have K3 := Lib.hid (next_below K2.out kk)
      clear kk
      go_wp2_with fail
      refine (H4.out _ (HG.out _ K3.out)).mono ?_
      rintro e V ⟨rfl, kk⟩
      have K4 := Lib.hid (next_below K3.out kk)
      clear kk
      go_wp2_with fail
      refine (H5.out _ (HG.out _ K4.out)).mono ?_
      rintro e V ⟨rfl, kk⟩
      have K5 := Lib.hid (next_below K4.out kk)
      clear kk
      go_wp2_with fail
      refine (H6.out _ (HG.out _ K5.out)).mono ?_
      rintro e V ⟨rfl, kk⟩
      have K6 := Lib.hid (next_below K5.out kk)
      clear kk
      go_wp2_with fail
      refine (HM.out _ (HG.out _ K6.out)).mono ?_
      rintro e V ⟨rfl, kk⟩
      have K7 := Lib.hid (next_below K6.out kk)
      clear kk
      go_wp2
      go_ret
      exact ⟨rfl, K7.out⟩
    · have q1 : decide ((x.den : Int) = 1) = false := by simp; omega
      rw [q1] at e1
      generalize it (x.den : Int) = B at *
      generalize it (y.den : Int) = E at *
      clear hx hy hx' hy' hg nx ny dx dy sm hb h1 q1 e2
      go_enter Tryz.func25, Tryz.ntmps25
      go_wp2_with fail
      refine (H1.out _).mono ?_
      rintro e V ⟨rfl, kk⟩
      have K1 := Lib.hid (next_below HB0.out kk)
      clear kk
      go_wp2_with fail
      refine (H2.out _).mono ?_
      rintro e V ⟨rfl, kk⟩
      have K2 := Lib.hid (next_below K1.out kk)
      clear kk
      go_wp2_with fail
      refine (H3.out _ (HG.out _ K2.out)).mono ?_
      rintro e V ⟨rfl, kk⟩
      have K3 := Lib.hid (next_below K2.out kk)
      clear kk
      go_wp2_with fail
      refine (H4.out _ (HG.out _ K3.out)).mono ?_
      rintro e V ⟨rfl, kk⟩
      have K4 := Lib.hid (next_below K3.out kk)
      clear kk
      go_wp2_with fail
      refine (H5.out _ (HG.out _ K4.out)).mono ?_
      rintro e V ⟨rfl, kk⟩
      have K5 := Lib.hid (next_below K4.out kk)
      clear kk
      go_wp2_with fail
      refine (H6.out _ (HG.out _ K5.out)).mono ?_
      rintro e V ⟨rfl, kk⟩
      have K6 := Lib.hid (next_below K5.out kk)
      clear kk
      go_wp2_with fail
      refine (HM.out _ (HG.out _ K6.out)).mono ?_
      rintro e V ⟨rfl, kk⟩
      have K7 := Lib.hid (next_below K6.out kk)
      clear kk
      go_wp2
      go_ret
      exact ⟨rfl, K7.out⟩

set_option maxHeartbeats 4000000 in
theorem mul_rt {w : World} {x y : Rat} (hx : Mid x) (hy : Mid y) (hg : Good w) : Calls Tryz.prog 27 #[.string (rt x), .string (rt y)] w (RetV w (.string (rt (x * y)))) := by
  have hx' : fitsD 40000 x := ⟨Nat.le_trans hx.1 (by omega), Nat.le_trans hx.2 (by omega)⟩
  have hy' : fitsD 40000 y := ⟨Nat.le_trans hy.1 (by omega), Nat.le_trans hy.2 (by omega)⟩
  have nx := hx.1
  have ny := hy.1
  have dx := den_fit x hx
  have dy := den_fit y hy
  have H1 := Lib.hid (fun (V : World) => parts_rt (w := V) hx')
  have H2 := Lib.hid (fun (V : World) => parts_rt (w := V) hy')
  have e1 := it_one (x.den : Int)
  have e2 := it_one (y.den : Int)
  have HG := Lib.hid (fun (V : World) (hV : Below w.heap.size w V) => hg.below hV)
  have HB0 := Lib.hid (Below.refl w.heap.size w)
  have sm : ∀ {z : Int}, nDigits z.natAbs ≤ 19000 → Sm z := fun h => Nat.le_trans h (by omega)
  by_cases hb : x.den = 1 ∧ y.den = 1
  · have q1 : decide ((x.den : Int) = 1) = true := by simp [hb.1]
    have q2 : decide ((y.den : Int) = 1) = true := by simp [hb.2]
    rw [q1] at e1
    rw [q2] at e2
    have H3 := Lib.hid (fun (V : World) (hV : Good V) => mul_it (w := V) x.num y.num (sm nx) (sm ny) hV)
    have e3 := mul_ints hb.1 hb.2
    rw [e3] at H3
    clear q1 q2 hb e3
    generalize rt (x * y) = R at *
    generalize it x.num = A at *
    generalize it (x.den : Int) = B at *
    generalize it y.num = C at *
    generalize it (y.den : Int) = E at *
    generalize rt x = S at *
    generalize rt y = T at *
    clear hx hy hx' hy' hg nx ny dx dy sm
    go_enter Tryz.func27, Tryz.ntmps27
    go_wp2_with fail
    refine (H1.out _).mono ?_
    rintro e V ⟨rfl, kk⟩
    have K1 := Lib.hid (next_below HB0.out kk)
    clear kk
    go_wp2_with fail
    refine (H2.out _).mono ?_
    rintro e V ⟨rfl, kk⟩
    have K2 := Lib.hid (next_below K1.out kk)
    clear kk
    go_wp2_with fail
    refine (H3.out _ (HG.out _ K2.out)).mono ?_
    rintro e V ⟨rfl, kk⟩
    have K3 := Lib.hid (next_below K2.out kk)
    clear kk
    go_wp2
    go_ret
    exact ⟨rfl, K3.out⟩
  · have m1 := nDigits_imul nx ny
    have m3 := nDigits_imul dx dy
    have H3 := Lib.hid (fun (V : World) (hV : Good V) => mul_it (w := V) x.num y.num (sm nx) (sm ny) hV)
    have H6 := Lib.hid (fun (V : World) (hV : Good V) => mul_it (w := V) x.den y.den (sm dx) (sm dy) hV)
    have HM := Lib.hid (fun (V : World) (hV : Good V) => rmake_any (w := V) (x.num * y.num) (x.den * y.den) (Nat.le_trans m1 (by omega)) (Nat.le_trans m3 (by omega)) (Int.mul_ne_zero (den_ne x) (den_ne y)) hV)
    clear m1 m3
    rw [rat_mul] at HM
    generalize rt (x * y) = R at *
    generalize it (x.num * y.num) = Z1 at *
    generalize it ((x.den : Int) * (y.den : Int)) = Z3 at *
    generalize it x.num = A at *
    generalize it y.num = C at *
    generalize rt x = S at *
    generalize rt y = T at *
    have hbb : (x.den = 1 ∧ ¬ y.den = 1) ∨ ¬ x.den = 1 := by
      by_cases h : x.den = 1
      · exact Or.inl ⟨h, fun h2 => hb ⟨h, h2⟩⟩
      · exact Or.inr h
    rcases hbb with ⟨h1, h2⟩ | h1
    · have q1 : decide ((x.den : Int) = 1) = true := by simp [h1]
      have q2 : decide ((y.den : Int) = 1) = false := by simp; omega
      rw [q1] at e1
      rw [q2] at e2
      generalize it (x.den : Int) = B at *
      generalize it (y.den : Int) = E at *
      clear hx hy hx' hy' hg nx ny dx dy sm hb h1 h2 q1 q2
      go_enter Tryz.func27, Tryz.ntmps27
      go_wp2_with fail
      refine (H1.out _).mono ?_
      rintro e V ⟨rfl, kk⟩
      have K1 := Lib.hid (next_below HB0.out kk)
      clear kk
      go_wp2_with fail
      refine (H2.out _).mono ?_
      rintro e V ⟨rfl, kk⟩
      have K2 := Lib.hid (next_below K1.out kk)
      clear kk
      go_wp2_with fail
      refine (H3.out _ (HG.out _ K2.out)).mono ?_
      rintro e V ⟨rfl, kk⟩
      have K3 := Lib.hid (next_below K2.out kk)
      clear kk
      go_wp2_with fail
      refine (H6.out _ (HG.out _ K3.out)).mono ?_
      rintro e V ⟨rfl, kk⟩
      have K4 := Lib.hid (next_below K3.out kk)
      clear kk
      go_wp2_with fail
      refine (HM.out _ (HG.out _ K4.out)).mono ?_
      rintro e V ⟨rfl, kk⟩
      have K5 := Lib.hid (next_below K4.out kk)
      clear kk
      go_wp2
      go_ret
      exact ⟨rfl, K5.out⟩
    · have q1 : decide ((x.den : Int) = 1) = false := by simp; omega
      rw [q1] at e1
      generalize it (x.den : Int) = B at *
      generalize it (y.den : Int) = E at *
      clear hx hy hx' hy' hg nx ny dx dy sm hb h1 q1 e2
      go_enter Tryz.func27, Tryz.ntmps27
      go_wp2_with fail
      refine (H1.out _).mono ?_
      rintro e V ⟨rfl, kk⟩
      have K1 := Lib.hid (next_below HB0.out kk)
      clear kk
      go_wp2_with fail
      refine (H2.out _).mono ?_
      rintro e V ⟨rfl, kk⟩
      have K2 := Lib.hid (next_below K1.out kk)
      clear kk
      go_wp2_with fail
      refine (H3.out _ (HG.out _ K2.out)).mono ?_
      rintro e V ⟨rfl, kk⟩
      have K3 := Lib.hid (next_below K2.out kk)
      clear kk
      go_wp2_with fail
      refine (H6.out _ (HG.out _ K3.out)).mono ?_
      rintro e V ⟨rfl, kk⟩
      have K4 := Lib.hid (next_below K3.out kk)
      clear kk
      go_wp2_with fail
      refine (HM.out _ (HG.out _ K4.out)).mono ?_
      rintro e V ⟨rfl, kk⟩
      have K5 := Lib.hid (next_below K4.out kk)
      clear kk
      go_wp2
      go_ret
      exact ⟨rfl, K5.out⟩

theorem Mid.neg {x : Rat} (h : Mid x) : Mid (-x) := ⟨by rw [Rat.neg_num, Int.natAbs_neg]; exact h.1, by rw [Rat.neg_den]; exact h.2⟩
theorem Mid.big {x : Rat} (h : Mid x) : fitsD 40000 x := ⟨Nat.le_trans h.1 (by omega), Nat.le_trans h.2 (by omega)⟩
set_option maxHeartbeats 2000000 in
theorem sub_rt {w : World} {x y : Rat} (hx : Mid x) (hy : Mid y) (hg : Good w) : Calls Tryz.prog 26 #[.string (rt x), .string (rt y)] w (RetV w (.string (rt (x - y)))) := by
  have H1 := Lib.hid (fun (V : World) (hV : Good V) => neg_rt (w := V) hy.big hV)
  have H2 := Lib.hid (fun (V : World) (hV : Good V) => add_rt (w := V) hx hy.neg hV)
  rw [← Rat.sub_eq_add_neg] at H2
  have HG := Lib.hid (fun (V : World) (hV : Below w.heap.size w V) => hg.below hV)
  have HB0 := Lib.hid (Below.refl w.heap.size w)
  generalize rt (x - y) = R at *
  generalize rt (-y) = Q at *
  generalize rt x = S at *
  generalize rt y = T at *
  clear hx hy hg
  go_enter Tryz.func26, Tryz.ntmps26
  go_wp2_with fail
  refine (H1.out _ (HG.out _ HB0.out)).mono ?_
  rintro e V ⟨rfl, kk⟩
  have K1 := Lib.hid (next_below HB0.out kk)
  clear kk
  go_wp2_with fail
  refine (H2.out _ (HG.out _ K1.out)).mono ?_
  rintro e V ⟨rfl, kk⟩
  have K2 := Lib.hid (next_below K1.out kk)
  clear kk
  go_wp2
  go_ret
  exact ⟨rfl, K2.out⟩

set_option maxHeartbeats 2000000 in
theorem cmp_rt {w : World} {x y : Rat} (hx : Mid x) (hy : Mid y) (hg : Good w) : Calls Tryz.prog 54 #[.string (rt x), .string (rt y)] w (RetV w (.int .i64 (rcmp x y))) := by
  have nx := hx.1
  have ny := hy.1
  have dx := den_fit x hx
  have dy := den_fit y hy
  have H1 := Lib.hid (fun (V : World) => parts_rt (w := V) hx.big)
  have H2 := Lib.hid (fun (V : World) => parts_rt (w := V) hy.big)
  have sm : ∀ {z : Int}, nDigits z.natAbs ≤ 19000 → Sm z := fun h => Nat.le_trans h (by omega)
  have m1 := nDigits_imul nx dy
  have m2 := nDigits_imul ny dx
  have H3 := Lib.hid (fun (V : World) (hV : Good V) => mul_it (w := V) x.num y.den (sm nx) (sm dy) hV)
  have H4 := Lib.hid (fun (V : World) (hV : Good V) => mul_it (w := V) y.num x.den (sm ny) (sm dx) hV)
  have H5 := Lib.hid (fun (V : World) => cmp_it (w := V) (x.num * y.den) (y.num * x.den) (Nat.le_trans m1 (by omega)) (Nat.le_trans m2 (by omega)))
  rw [sgz_sub] at H5
  have HR : rcmp x y = (x.num * y.den - y.num * x.den).sign := rfl
  rw [← HR] at H5
  have HG := Lib.hid (fun (V : World) (hV : Below w.heap.size w V) => hg.below hV)
  have HB0 := Lib.hid (Below.refl w.heap.size w)
  generalize rcmp x y = R at *
  generalize it (x.num * (y.den : Int)) = Z1 at *
  generalize it (y.num * (x.den : Int)) = Z2 at *
  generalize it x.num = A at *
  generalize it (x.den : Int) = B at *
  generalize it y.num = C at *
  generalize it (y.den : Int) = E at *
  generalize rt x = S at *
  generalize rt y = T at *
  clear hx hy hg nx ny dx dy sm m1 m2 HR
  go_enter Tryz.func54, Tryz.ntmps54
  go_wp2_with fail
  refine (H1.out _).mono ?_
  rintro e V ⟨rfl, kk⟩
  have K1 := Lib.hid (next_below HB0.out kk)
  clear kk
  go_wp2_with fail
  refine (H2.out _).mono ?_
  rintro e V ⟨rfl, kk⟩
  have K2 := Lib.hid (next_below K1.out kk)
  clear kk
  go_wp2_with fail
  refine (H3.out _ (HG.out _ K2.out)).mono ?_
  rintro e V ⟨rfl, kk⟩
  have K3 := Lib.hid (next_below K2.out kk)
  clear kk
  go_wp2_with fail
  refine (H4.out _ (HG.out _ K3.out)).mono ?_
  rintro e V ⟨rfl, kk⟩
  have K4 := Lib.hid (next_below K3.out kk)
  clear kk
  go_wp2_with fail
  refine (H5.out _).mono ?_
  rintro e V ⟨rfl, kk⟩
  have K5 := Lib.hid (next_below K4.out kk)
  clear kk
  go_wp2
  go_ret
  exact ⟨rfl, K5.out⟩

set_option maxHeartbeats 2000000 in
theorem fits_rt {w : World} {x : Rat} (d : Nat) (hx : fitsD 40000 x) : Calls Tryz.prog 81 #[.string (rt x), .int .i64 d] w (RetV w (.bool (decide (nDigits x.num.natAbs ≤ d) && decide (nDigits x.den ≤ d)))) := by
  have H1 := Lib.hid (fun (V : World) => parts_rt (w := V) hx)
  have H2 := Lib.hid (fun (V : World) => digits_it (w := V) x.num (Nat.le_trans hx.1 (by omega)))
  have H3 := Lib.hid (fun (V : World) => digits_it (w := V) x.den (Nat.le_trans (den_fit x hx) (by omega)))
  rw [Int.natAbs_natCast] at H3
  have HB0 := Lib.hid (Below.refl w.heap.size w)
  generalize nDigits x.num.natAbs = a at *
  generalize nDigits x.den = b at *
  generalize it x.num = A at *
  generalize it (x.den : Int) = B at *
  generalize rt x = S at *
  clear hx
  by_cases ha : a ≤ d
  · have hai : (a : Int) ≤ (d : Int) := by omega
    have hr : (decide (a ≤ d) && decide (b ≤ d)) = decide (b ≤ d) := by
      rw [decide_eq_true ha, Bool.true_and]
    rw [hr]
    clear hr ha
    go_enter Tryz.func81, Tryz.ntmps81
    go_wp2_with fail
    refine (H1.out _).mono ?_
    rintro e V ⟨rfl, kk⟩
    have K1 := Lib.hid (next_below HB0.out kk)
    clear kk
    go_wp2_with fail
    refine (H2.out _).mono ?_
    rintro e V ⟨rfl, kk⟩
    have K2 := Lib.hid (next_below K1.out kk)
    clear kk
    go_wp2_with fail
    refine (H3.out _).mono ?_
    rintro e V ⟨rfl, kk⟩
    have K3 := Lib.hid (next_below K2.out kk)
    clear kk
    go_wp2
    go_ret
    exact ⟨rfl, K3.out⟩
  · have hai : ¬ (a : Int) ≤ (d : Int) := by omega
    have hr : (decide (a ≤ d) && decide (b ≤ d)) = false := by
      rw [decide_eq_false ha, Bool.false_and]
    rw [hr]
    clear hr ha
    go_enter Tryz.func81, Tryz.ntmps81
    go_wp2_with fail
    refine (H1.out _).mono ?_
    rintro e V ⟨rfl, kk⟩
    have K1 := Lib.hid (next_below HB0.out kk)
    clear kk
    go_wp2_with fail
    refine (H2.out _).mono ?_
    rintro e V ⟨rfl, kk⟩
    have K2 := Lib.hid (next_below K1.out kk)
    clear kk
    go_wp2
    go_ret
    exact ⟨rfl, K2.out⟩
end Go.Proofs.YtpmlmibceiolpaaGreatDoor.D4
