/- The contracts of tail.masses and of its iterator. -/
import Derived.Test.YtmhneibcbjgedaaGreatDoorSeqV
import Derived.Test.YtmhneibcbjgedaaGreatDoorTChance
set_option linter.unusedSimpArgs false
set_option linter.unusedVariables false
namespace Go.Proofs.YtmhneibcbjgedaaGreatDoor
open Go.RowKit Go.Shelf
attribute [local go_sem] Oper.semAt_some

/-- A mass, times the denominator to the power of the trials. -/
def massz (n : Nat) (a d : Int) (i : Nat) : Int := chz n i * a ^ i * (d - a) ^ (n - i)

set_option maxHeartbeats 1000000 in
theorem masses_any (n k : Int) (b : Bool) (a : Option Addr) (ka pa : Nat) (c : Bool) (e : Option Addr) (l q : Nat) (w : World) :
    Calls Tryz.prog 94 #[.int .i64 n, .int .i64 k, .agg #[.bool b, .slice a ka pa, .bool c, .slice e l q]] w fun o w' => o = .returned (.func (.func 134) #[] #[.pointer (some ⟨w.heap.size + 1 + 1, 0, none⟩), .pointer (some ⟨w.heap.size + 1, 0, none⟩), .pointer (some ⟨w.heap.size, 0, none⟩)]) ∧
      w' = ((w.alloc (.cells #[.int .i64 n] 3)).alloc (.cells #[.int .i64 k] 3)).alloc (.cells #[.bool b, .slice a ka pa, .bool c, .slice e l q] 69) := by
  go_enter Tryz.func94, Tryz.ntmps94
  go_wp2
  go_ret
  exact ⟨rfl, rfl⟩

set_option maxRecDepth 100000 in
set_option maxHeartbeats 2000000 in
theorem masses_in (m : Nat) (hm : 1 ≤ m) (y bs : Nat) (n k : Nat) (hn : n ≤ 1000) (hk : k ≤ n + 1) (x : Rat) (hx1 : (limbs x.num.natAbs).length ≤ 1) (hx2 : (limbs (x.den : Int).natAbs).length ≤ 1) (pb kb nb : Nat) (b : Bool) (a : Option Addr) (ka pa : Nat) (c : Bool) (e : Option Addr) (l q : Nat) (J : Nat → World → Prop)
    (hJ : ∀ i A B, J i A → Below A.heap.size A B → J i B)
    (hY : ∀ i v W1, J i W1 → i < n + 1 - k → (∃ b a, ∃ k p : Nat, v = .agg #[.bool b, .slice a k p]) → Wh W1 v (massz n x.num x.den (k + i)) → YieldAt Fence.wide (m - 1) Tryz.prog y #[v] W1 fun e W' => e = .returned (.bool true) ∧ J (i + 1) W' ∧ Kp bs W1 W')
    (W : World) (hi : IsWh W bs) (h1 : Blk W pb 69 #[.bool b, .slice a ka pa, .bool c, .slice e l q]) (h2 : Blk W kb 3 #[.int .i64 k]) (h3 : Blk W nb 3 #[.int .i64 n]) (hx : Nm W (.agg #[.bool b, .slice a ka pa, .bool c, .slice e l q]) x) (h0 : J 0 W) :
    CallsIn Fence.wide m Tryz.prog 134 #[.func (.yield y) #[] #[], .pointer (some ⟨pb, 0, none⟩), .pointer (some ⟨kb, 0, none⟩), .pointer (some ⟨nb, 0, none⟩)] W fun e W' => (∃ v, e = .returned v) ∧ J (n + 1 - k) W' := by
  refine callsIn_of_wp Tryz.func134 rfl trivial ?_ rfl
  simp only [Tryz.ntmps134, List.size_toArray, List.length_cons, List.length_nil, Nat.reduceAdd, Nat.reduceSub, Array.replicate_succ, Array.replicate_zero, List.push_toArray, List.append_toArray, List.nil_append, List.cons_append]
  obtain ⟨z0, z1, z2, z3⟩ := h1.at4
  have HJ := Lib.hid hJ
  have HY := Lib.hid hY
  clear hJ hY
  have F1 : Fit x.num := Fit.of_len hx1 (by omega)
  have F2 : Fit (x.den : Int) := Fit.of_len hx2 (by omega)
  gi_wp2_with (first
    | (refine ⟨trivial, ?_⟩; gi_at_call 95; refine (callsIn_wide.2 (parts_any hx)).mono ?_; rintro o w1 ⟨v1, v2, rfl, hr1, hr2, hb1⟩; obtain ⟨b5, a5, k5, p5, rfl⟩ := hr1.parts; obtain ⟨b6, a6, k6, p6, rfl⟩ := hr2.parts)
    | (refine ⟨trivial, ?_⟩; gi_at_call 131; refine (callsIn_wide.2 (sub_any ((hr2.more (.cells #[.bool b5, .slice a5 k5 p5] 65)).more (.cells #[.bool b6, .slice a6 k6 p6] 65)) ((hr1.more (.cells #[.bool b5, .slice a5 k5 p5] 65)).more (.cells #[.bool b6, .slice a6 k6 p6] 65)) F2 F1)).mono ?_; rintro o w2 ⟨v3, rfl, hr3, hb2⟩; obtain ⟨b7, a7, k7, p7, rfl⟩ := hr3.parts; have hk2 := ((((h2.next hb1).alloc (.cells #[.bool b5, .slice a5 k5 p5] 65)).alloc (.cells #[.bool b6, .slice a6 k6 p6] 65)).next hb2).alloc (.cells #[.bool b7, .slice a7 k7 p7] 65); have hk0 := hk2.cell 0; simp at hk0))
  obtain ⟨us0, us1, hbs⟩ := hi
  have hne3 : nb ≠ bs := Blk.ne_ h3 hbs (by decide)
  have hlt := hbs.lt
  have hbd1 : Below W.heap.size W ((w1.alloc (.cells #[.bool b5, .slice a5 k5 p5] 65)).alloc (.cells #[.bool b6, .slice a6 k6 p6] 65)) := (hb1.alloc hb1.size _).alloc (by have := hb1.size; simp; omega) _
  have hbd2 := next_below hbd1 hb2
  have hbd3 : Below W.heap.size W (w2.alloc (.cells #[.bool b7, .slice a7 k7 p7] 65)) := hbd2.alloc hbd2.size _
  have hsz1 := hb1.size
  have hsz2 := hbd2.size
  have e5 : Blk (w2.alloc (.cells #[.bool b7, .slice a7 k7 p7] 65)) w1.heap.size 65 #[.bool b5, .slice a5 k5 p5] := (((Blk.new w1 65 #[.bool b5, .slice a5 k5 p5]).alloc _).next hb2).alloc _
  have e7 := Blk.new w2 65 #[.bool b7, .slice a7 k7 p7]
  have e3 := h3.next hbd3
  have g5 := Lib.hid ((((hr1.more (.cells #[.bool b5, .slice a5 k5 p5] 65)).more (.cells #[.bool b6, .slice a6 k6 p6] 65)).below hb2).more (.cells #[.bool b7, .slice a7 k7 p7] 65))
  have g7 := Lib.hid (hr3.more (.cells #[.bool b7, .slice a7 k7 p7] 65))
  have HI : Hid (IsWh (w2.alloc (.cells #[.bool b7, .slice a7 k7 p7] 65)) bs) := Lib.hid ⟨us0, us1, hbs.next hbd3⟩
  have hJ3 := HJ.out _ _ _ h0 hbd3
  have hne5 : w1.heap.size ≠ bs := by omega
  have hne7 : w2.heap.size ≠ bs := by omega
  have F3 : (limbs ((x.den : Int) - x.num).natAbs).length ≤ 2 := by
    rw [Int.sub_eq_add_neg]; exact len_add hx2 (by rw [Int.natAbs_neg]; exact hx1)
  have FF := Lib.hid (And.intro hx1 F3)
  clear hbd1 hbd2 hbd3 hb1 hb2 hr1 hr2 hr3 hk2 hk0 h1 h2 h3 hx h0 z0 z1 z2 z3 hbs hlt hsz1 hsz2 F1 F2 F3 hx1 hx2
  generalize w1.heap.size = z5 at *
  generalize w2.heap.size = z7 at *
  generalize (w2.alloc (.cells #[.bool b7, .slice a7 k7 p7] 65)) = W3 at *
  gi_loopw [8] (fun u8 wr => ∃ i : Nat, k ≤ i ∧ i ≤ n + 1 ∧ u8 = .int .i64 i ∧ Hid (J (i - k) wr) ∧ Hid (Kp bs W3 wr)) (fun u8 _ => n + 1 - (intOf u8).toNat)
  case atStart => exact ⟨k, Nat.le_refl _, hk, rfl, Lib.hid (by rw [Nat.sub_self]; exact hJ3), Lib.hid (Kp.refl _ _)⟩
  case round =>
    obtain ⟨i, hki, hin, rfl, hJi, hKi⟩ := hrel
    have e3' := e3.kp hKi.out hne3
    have e5' := e5.kp hKi.out hne5
    have e7' := e7.kp hKi.out hne7
    have c3 := e3'.cell 0
    simp at c3
    by_cases hlt : i ≤ n
    · have q5 := Lib.hid (g5.out.kp hKi.out HI.out)
      have q7 := Lib.hid (g7.out.kp hKi.out HI.out)
      obtain ⟨hp0, hp1⟩ := chz_len hn i hlt
      have hp2 := len_pow FF.out.1 i
      have hp3 := len_pow FF.out.2 (n - i)
      have HP := Lib.hid (And.intro hp1 (And.intro hp2 hp3))
      have hlti : ((i : Int) ≤ n) := by omega
      clear hp0 hp1 hp2 hp3
      gi_wp2
      have hB0 : Below wr.heap.size wr wr.drew := (Below.refl _ _).drew
      obtain ⟨r, hr⟩ : ∃ r : Nat, (n : Int) - i = r := ⟨n - i, by omega⟩
      have hrn : n - i = r := by omega
      have HR := Lib.hid hr
      rw [hrn] at HP
      refine wpIn_region_fam 14 (by kernel_rfl) (by kernel_rfl) [] [fun v _ => v = .func (.yield y) #[] #[], fun v _ => v = .int .i64 n, fun v _ => v = .int .i64 i, fun v w' => Wh w' v (chz n i), fun v _ => v = .agg #[.bool b5, .slice a5 k5 p5], fun v _ => v = .int .i64 i, fun v w' => Wh w' v (x.num ^ i), fun v w' => Wh w' v (chz n i * x.num ^ i), fun v _ => v = .agg #[.bool b7, .slice a7 k7 p7], fun v _ => v = .int .i64 n, fun v _ => v = .int .i64 i, fun v _ => v = .int .i64 ((n : Int) - i), fun v w' => Wh w' v (((x.den : Int) - x.num) ^ r), fun v w' => Wh w' v (chz n i * x.num ^ i * ((x.den : Int) - x.num) ^ r)] (by simp only [List.take_succ_cons, List.take_zero]; rfl) (by simp only [List.drop_succ_cons, List.drop_zero]; rfl) (fun vals => by simp only [fam, Act.put, List.setIfInBounds_toArray, List.set_cons_zero, List.set_cons_succ, if_true]; rfl) (by repeat' (first | exact Stab.eq _ _ | exact Stab.wh _ _ | exact Stab.nm _ _ | exact Stab.new _ _ | exact Stab.newn _ _ | exact Stab.tw _ _ _ | exact trivial | apply And.intro)) trivial ?_ ?_
      · refine ⟨?_, ?_, ?_, ?_, ?_, ?_, ?_, ?_, ?_, ?_, ?_, ?_, ?_, ?_, trivial⟩
        all_goals
          intro vals w4 hB hp
          dsimp only
          (try simp [preOk, Region.binds] at hp)
          have hb := next_below hB0 hB
          have d3 := (e3'.next hb).cell 0
          simp at d3
          have d50 := (e5'.next hb).cell0
          have d51 := (e5'.next hb).cell1
          have d70 := (e7'.next hb).cell0
          have d71 := (e7'.next hb).cell1
          clear hB c3
        case refine_4 =>
          obtain ⟨q0, q1⟩ := hp
          generalize vals 1 = x1 at *
          subst q0
          generalize vals 2 = x2 at *
          subst q1
          go_wp2_with (go_at_call 38; refine (choices_any n i hn hlt).mono ?_; rintro o w5 ⟨rv, rfl, hr, hb5⟩)
          exact ⟨rfl, _, rfl, hr, hb5, trivial⟩
        case refine_7 =>
          obtain ⟨q0, q1, q2⟩ := hp
          generalize vals 4 = x4 at *
          subst q0
          generalize vals 5 = x5 at *
          subst q1
          go_wp2_with (go_at_call 97; refine (power_any i (by omega) (q5.out.below hb) (Nat.le_trans FF.out.1 (by omega))).mono ?_; rintro o w5 ⟨rv, rfl, hr, hb5⟩)
          exact ⟨rfl, _, rfl, hr, hb5, trivial⟩
        case refine_8 =>
          obtain ⟨q0, q1⟩ := hp
          go_wp2_with (go_at_call 84; refine (mul_any q0 q1 (Fit.of_len HP.out.1 (by omega)) (Fit.of_len HP.out.2.1 (by omega))).mono ?_; rintro o w5 ⟨rv, rfl, hr, hb5⟩)
          exact ⟨rfl, _, rfl, hr, hb5, trivial⟩
        case refine_12 =>
          obtain ⟨q0, q1⟩ := hp
          generalize vals 9 = x9 at *
          subst q0
          generalize vals 10 = x10 at *
          subst q1
          go_wp2
          exact ⟨rfl, _, rfl, (by show Value.int _ _ = Value.int _ _; rw [hr]), Below.refl _ _, trivial⟩
        case refine_13 =>
          obtain ⟨q0, q1, q2⟩ := hp
          rw [HR.out] at q1
          generalize vals 8 = x8 at *
          subst q0
          generalize vals 11 = x11 at *
          subst q1
          go_wp2_with (go_at_call 97; refine (power_any r (by omega) (q7.out.below hb) (Nat.le_trans FF.out.2 (by omega))).mono ?_; rintro o w5 ⟨rv, rfl, hr, hb5⟩)
          exact ⟨rfl, _, rfl, hr, hb5, trivial⟩
        case refine_14 =>
          obtain ⟨q0, q1⟩ := hp
          go_wp2_with (go_at_call 84; refine (mul_any q0 q1 (Fit.of_len (len_mul HP.out.1 HP.out.2.1) (by omega)) (Fit.of_len HP.out.2.2 (by omega))).mono ?_; rintro o w5 ⟨rv, rfl, hr, hb5⟩)
          exact ⟨rfl, _, rfl, hr, hb5, trivial⟩
        all_goals
          go_wp2
          (first | exact ⟨rfl, _, rfl, rfl, Below.refl _ _, trivial⟩ | (refine ⟨rfl, _, ?_, rfl, Below.refl _ _, trivial⟩; simp only [Act.put, List.setIfInBounds_toArray, List.set_cons_zero, List.set_cons_succ, hp]))
      · rintro vals w4 hB ⟨p0, p1, p2, p3, p4, p5', p6', p7', p8, p9, p10, p11, p12, p13, _⟩ hne
        have hb := next_below hB0 hB
        simp at p0 p13
        generalize vals 0 = v0 at *
        subst p0
        generalize vals 13 = v13 at *
        have hw : Wh w4 v13 (massz n x.num x.den (k + (i - k))) := by
          unfold massz
          rw [show k + (i - k) = i by omega, hrn]
          exact p13
        obtain ⟨fn, tmps, assign, body, hy, hR⟩ := HY.out (i - k) v13 w4 (HJ.out _ _ _ hJi.out hb) (by omega) p13.parts hw
        have HKB := Lib.hid (hKi.out.trans (Kp.of_below hb))
        clear hne p1 p2 p3 p4 p5' p6' p7' p8 p9 p10 p11 p12 hw hB hB0 HY
        generalize vals 1 = t1 at *
        generalize vals 2 = t2 at *
        generalize vals 3 = t3 at *
        generalize vals 4 = t4 at *
        generalize vals 5 = t5 at *
        generalize vals 6 = t6 at *
        generalize vals 7 = t7 at *
        generalize vals 8 = t8 at *
        generalize vals 9 = t9 at *
        generalize vals 10 = t10 at *
        generalize vals 11 = t11 at *
        generalize vals 12 = t12 at *
        gi_wp2
        refine hR.mono ?_
        rintro o W5 ⟨rfl, hJ5, hK5⟩
        gi_wp2
        go_roundw
        case rel => exact ⟨i + 1, by omega, by omega, by go_num, Lib.hid (by rw [show i + 1 - k = i - k + 1 by omega]; exact hJ5), Lib.hid (HKB.out.trans hK5)⟩
        case measure => simp [intOf]; omega
    · obtain rfl : i = n + 1 := by omega
      gi_wp2
      go_end0
      exact ⟨⟨_, rfl⟩, hJi.out⟩

end Go.Proofs.YtmhneibcbjgedaaGreatDoor
