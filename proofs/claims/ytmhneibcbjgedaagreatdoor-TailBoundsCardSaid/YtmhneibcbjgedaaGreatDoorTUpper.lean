/- The contracts of tail.masses and of its iterator. -/
import Derived.Test.YtmhneibcbjgedaaGreatDoorSeqV
import Derived.Test.YtmhneibcbjgedaaGreatDoorTChance
set_option linter.unusedSimpArgs false
set_option linter.unusedVariables false
namespace Go.Proofs.YtmhneibcbjgedaaGreatDoor
open Go.RowKit Go.Shelf
attribute [local go_sem] Oper.semAt_some

/-- A mass, times the denominator to the power of the trials. -/
def massz (n : Nat) (a d : Int) (i : Nat) : Int := chz n i * a ^ i * (d - a) ^ (n - i)

set_option maxHeartbeats 1000000 in
theorem masses_any (n k : Int) (b : Bool) (a : Option Addr) (ka pa : Nat) (c : Bool) (e : Option Addr) (l q : Nat) (w : World) :
    Calls Tryz.prog 94 #[.int .i64 n, .int .i64 k, .agg #[.bool b, .slice a ka pa, .bool c, .slice e l q]] w fun o w' => o = .returned (.func (.func 134) #[] #[.pointer (some ⟨w.heap.size + 1 + 1, 0, none⟩), .pointer (some ⟨w.heap.size + 1, 0, none⟩), .pointer (some ⟨w.heap.size, 0, none⟩)]) ∧
      w' = ((w.alloc (.cells #[.int .i64 n] 3)).alloc (.cells #[.int .i64 k] 3)).alloc (.cells #[.bool b, .slice a ka pa, .bool c, .slice e l q] 69) := by
  go_enter Tryz.func94, Tryz.ntmps94
  go_wp2
  go_ret
  exact ⟨rfl, rfl⟩

set_option maxRecDepth 100000 in
set_option maxHeartbeats 2000000 in
theorem masses_in (m : Nat) (hm : 1 ≤ m) (y bs : Nat) (n k : Nat) (hn : n ≤ 1000) (hk : k ≤ n + 1) (x : Rat) (hx1 : (limbs x.num.natAbs).length ≤ 1) (hx2 : (limbs (x.den : Int).natAbs).length ≤ 1) (pb kb nb : Nat) (b : Bool) (a : Option Addr) (ka pa : Nat) (c : Bool) (e : Option Addr) (l q : Nat) (J : Nat → World → Prop)
    (hJ : ∀ i A B, J i A → Below A.heap.size A B → J i B)
    (hY : ∀ i v W1, J i W1 → i < n + 1 - k → (∃ b a, ∃ k p : Nat, v = .agg #[.bool b, .slice a k p]) → Wh W1 v (massz n x.num x.den (k + i)) → YieldAt Fence.wide (m - 1) Tryz.prog y #[v] W1 fun e W' => e = .returned (.bool true) ∧ J (i + 1) W' ∧ Kp bs W1 W')
    (W : World) (hi : IsWh W bs) (h1 : Blk W pb 69 #[.bool b, .slice a ka pa, .bool c, .slice e l q]) (h2 : Blk W kb 3 #[.int .i64 k]) (h3 : Blk W nb 3 #[.int .i64 n]) (hx : Nm W (.agg #[.bool b, .slice a ka pa, .bool c, .slice e l q]) x) (h0 : J 0 W) :
    CallsIn Fence.wide m Tryz.prog 134 #[.func (.yield y) #[] #[], .pointer (some ⟨pb, 0, none⟩), .pointer (some ⟨kb, 0, none⟩), .pointer (some ⟨nb, 0, none⟩)] W fun e W' => (∃ v, e = .returned v) ∧ J (n + 1 - k) W' := by
  refine callsIn_of_wp Tryz.func134 rfl trivial ?_ rfl
  simp only [Tryz.ntmps134, List.size_toArray, List.length_cons, List.length_nil, Nat.reduceAdd, Nat.reduceSub, Array.replicate_succ, Array.replicate_zero, List.push_toArray, List.append_toArray, List.nil_append, List.cons_append]
  obtain ⟨z0, z1, z2, z3⟩ := h1.at4
  have HJ := Lib.hid hJ
  have HY := Lib.hid hY
  clear hJ hY
  have F1 : Fit x.num := Fit.of_len hx1 (by omega)
  have F2 : Fit (x.den : Int) := Fit.of_len hx2 (by omega)
  gi_wp2_with (first
    | (refine ⟨trivial, ?_⟩; gi_at_call 95; refine (callsIn_wide.2 (parts_any hx)).mono ?_; rintro o w1 ⟨v1, v2, rfl, hr1, hr2, hb1⟩; obtain ⟨b5, a5, k5, p5, rfl⟩ := hr1.parts; obtain ⟨b6, a6, k6, p6, rfl⟩ := hr2.parts)
    | (refine ⟨trivial, ?_⟩; gi_at_call 131; refine (callsIn_wide.2 (sub_any ((hr2.more (.cells #[.bool b5, .slice a5 k5 p5] 65)).more (.cells #[.bool b6, .slice a6 k6 p6] 65)) ((hr1.more (.cells #[.bool b5, .slice a5 k5 p5] 65)).more (.cells #[.bool b6, .slice a6 k6 p6] 65)) F2 F1)).mono ?_; rintro o w2 ⟨v3, rfl, hr3, hb2⟩; obtain ⟨b7, a7, k7, p7, rfl⟩ := hr3.parts; have hk2 := ((((h2.next hb1).alloc (.cells #[.bool b5, .slice a5 k5 p5] 65)).alloc (.cells #[.bool b6, .slice a6 k6 p6] 65)).next hb2).alloc (.cells #[.bool b7, .slice a7 k7 p7] 65); have hk0 := hk2.cell 0; simp at hk0))
  obtain ⟨us0, us1, hbs⟩ := hi
  have hne3 : nb ≠ bs := Blk.ne_ h3 hbs (by decide)
  have hlt := hbs.lt
  have hbd1 : Below W.heap.size W ((w1.alloc (.cells #[.bool b5, .slice a5 k5 p5] 65)).alloc (.cells #[.bool b6, .slice a6 k6 p6] 65)) := (hb1.alloc hb1.size _).alloc (by have := hb1.size; simp; omega) _
  have hbd2 := next_below hbd1 hb2
  have hbd3 : Below W.heap.size W (w2.alloc (.cells #[.bool b7, .slice a7 k7 p7] 65)) := hbd2.alloc hbd2.size _
  have hsz1 := hb1.size
  have hsz2 := hbd2.size
  have e5 : Blk (w2.alloc (.cells #[.bool b7, .slice a7 k7 p7] 65)) w1.heap.size 65 #[.bool b5, .slice a5 k5 p5] := (((Blk.new w1 65 #[.bool b5, .slice a5 k5 p5]).alloc _).next hb2).alloc _
  have e7 := Blk.new w2 65 #[.bool b7, .slice a7 k7 p7]
  have e3 := h3.next hbd3
  have g5 := Lib.hid ((((hr1.more (.cells #[.bool b5, .slice a5 k5 p5] 65)).more (.cells #[.bool b6, .slice a6 k6 p6] 65)).below hb2).more (.cells #[.bool b7, .slice a7 k7 p7] 65))
  have g7 := Lib.hid (hr3.more (.cells #[.bool b7, .slice a7 k7 p7] 65))
  have HI : Hid (IsWh (w2.alloc (.cells #[.bool b7, .slice a7 k7 p7] 65)) bs) := Lib.hid ⟨us0, us1, hbs.next hbd3⟩
  have hJ3 := HJ.out _ _ _ h0 hbd3
  have hne5 : w1.heap.size ≠ bs := by omega
  have hne7 : w2.heap.size ≠ bs := by omega
  have F3 : (limbs ((x.den : Int) - x.num).natAbs).length ≤ 2 := by
    rw [Int.sub_eq_add_neg]; exact len_add hx2 (by rw [Int.natAbs_neg]; exact hx1)
  have FF := Lib.hid (And.intro hx1 F3)
  clear hbd1 hbd2 hbd3 hb1 hb2 hr1 hr2 hr3 hk2 hk0 h1 h2 h3 hx h0 z0 z1 z2 z3 hbs hlt hsz1 hsz2 F1 F2 F3 hx1 hx2
  generalize w1.heap.size = z5 at *
  generalize w2.heap.size = z7 at *
  generalize (w2.alloc (.cells #[.bool b7, .slice a7 k7 p7] 65)) = W3 at *
  gi_loopw [8] (fun u8 wr => ∃ i : Nat, k ≤ i ∧ i ≤ n + 1 ∧ u8 = .int .i64 i ∧ Hid (J (i - k) wr) ∧ Hid (Kp bs W3 wr)) (fun u8 _ => n + 1 - (intOf u8).toNat)
  case atStart => exact ⟨k, Nat.le_refl _, hk, rfl, Lib.hid (by rw [Nat.sub_self]; exact hJ3), Lib.hid (Kp.refl _ _)⟩
  case round =>
    obtain ⟨i, hki, hin, rfl, hJi, hKi⟩ := hrel
    have e3' := e3.kp hKi.out hne3
    have e5' := e5.kp hKi.out hne5
    have e7' := e7.kp hKi.out hne7
    have c3 := e3'.cell 0
    simp at c3
    by_cases hlt : i ≤ n
    · have q5 := Lib.hid (g5.out.kp hKi.out HI.out)
      have q7 := Lib.hid (g7.out.kp hKi.out HI.out)
      obtain ⟨hp0, hp1⟩ := chz_len hn i hlt
      have hp2 := len_pow FF.out.1 i
      have hp3 := len_pow FF.out.2 (n - i)
      have HP := Lib.hid (And.intro hp1 (And.intro hp2 hp3))
      have hlti : ((i : Int) ≤ n) := by omega
      clear hp0 hp1 hp2 hp3
      gi_wp2
      have hB0 : Below wr.heap.size wr wr.drew := (Below.refl _ _).drew
      obtain ⟨r, hr⟩ : ∃ r : Nat, (n : Int) - i = r := ⟨n - i, by omega⟩
      have hrn : n - i = r := by omega
      have HR := Lib.hid hr
      rw [hrn] at HP
      refine wpIn_region_fam 14 (by kernel_rfl) (by kernel_rfl) [] [fun v _ => v = .func (.yield y) #[] #[], fun v _ => v = .int .i64 n, fun v _ => v = .int .i64 i, fun v w' => Wh w' v (chz n i), fun v _ => v = .agg #[.bool b5, .slice a5 k5 p5], fun v _ => v = .int .i64 i, fun v w' => Wh w' v (x.num ^ i), fun v w' => Wh w' v (chz n i * x.num ^ i), fun v _ => v = .agg #[.bool b7, .slice a7 k7 p7], fun v _ => v = .int .i64 n, fun v _ => v = .int .i64 i, fun v _ => v = .int .i64 ((n : Int) - i), fun v w' => Wh w' v (((x.den : Int) - x.num) ^ r), fun v w' => Wh w' v (chz n i * x.num ^ i * ((x.den : Int) - x.num) ^ r)] (by simp only [List.take_succ_cons, List.take_zero]; rfl) (by simp only [List.drop_succ_cons, List.drop_zero]; rfl) (fun vals => by simp only [fam, Act.put, List.setIfInBounds_toArray, List.set_cons_zero, List.set_cons_succ, if_true]; rfl) (by repeat' (first | exact Stab.eq _ _ | exact Stab.wh _ _ | exact Stab.nm _ _ | exact Stab.new _ _ | exact Stab.newn _ _ | exact Stab.tw _ _ _ | exact trivial | apply And.intro)) trivial ?_ ?_
      · refine ⟨?_, ?_, ?_, ?_, ?_, ?_, ?_, ?_, ?_, ?_, ?_, ?_, ?_, ?_, trivial⟩
        all_goals
          intro vals w4 hB hp
          dsimp only
          (try simp [preOk, Region.binds] at hp)
          have hb := next_below hB0 hB
          have d3 := (e3'.next hb).cell 0
          simp at d3
          have d50 := (e5'.next hb).cell0
          have d51 := (e5'.next hb).cell1
          have d70 := (e7'.next hb).cell0
          have d71 := (e7'.next hb).cell1
          clear hB c3
        case refine_4 =>
          obtain ⟨q0, q1⟩ := hp
          generalize vals 1 = x1 at *
          subst q0
          generalize vals 2 = x2 at *
          subst q1
          go_wp2_with (go_at_call 38; refine (choices_any n i hn hlt).mono ?_; rintro o w5 ⟨rv, rfl, hr, hb5⟩)
          exact ⟨rfl, _, rfl, hr, hb5, trivial⟩
        case refine_7 =>
          obtain ⟨q0, q1, q2⟩ := hp
          generalize vals 4 = x4 at *
          subst q0
          generalize vals 5 = x5 at *
          subst q1
          go_wp2_with (go_at_call 97; refine (power_any i (by omega) (q5.out.below hb) (Nat.le_trans FF.out.1 (by omega))).mono ?_; rintro o w5 ⟨rv, rfl, hr, hb5⟩)
          exact ⟨rfl, _, rfl, hr, hb5, trivial⟩
        case refine_8 =>
          obtain ⟨q0, q1⟩ := hp
          go_wp2_with (go_at_call 84; refine (mul_any q0 q1 (Fit.of_len HP.out.1 (by omega)) (Fit.of_len HP.out.2.1 (by omega))).mono ?_; rintro o w5 ⟨rv, rfl, hr, hb5⟩)
          exact ⟨rfl, _, rfl, hr, hb5, trivial⟩
        case refine_12 =>
          obtain ⟨q0, q1⟩ := hp
          generalize vals 9 = x9 at *
          subst q0
          generalize vals 10 = x10 at *
          subst q1
          go_wp2
          exact ⟨rfl, _, rfl, (by show Value.int _ _ = Value.int _ _; rw [hr]), Below.refl _ _, trivial⟩
        case refine_13 =>
          obtain ⟨q0, q1, q2⟩ := hp
          rw [HR.out] at q1
          generalize vals 8 = x8 at *
          subst q0
          generalize vals 11 = x11 at *
          subst q1
          go_wp2_with (go_at_call 97; refine (power_any r (by omega) (q7.out.below hb) (Nat.le_trans FF.out.2 (by omega))).mono ?_; rintro o w5 ⟨rv, rfl, hr, hb5⟩)
          exact ⟨rfl, _, rfl, hr, hb5, trivial⟩
        case refine_14 =>
          obtain ⟨q0, q1⟩ := hp
          go_wp2_with (go_at_call 84; refine (mul_any q0 q1 (Fit.of_len (len_mul HP.out.1 HP.out.2.1) (by omega)) (Fit.of_len HP.out.2.2 (by omega))).mono ?_; rintro o w5 ⟨rv, rfl, hr, hb5⟩)
          exact ⟨rfl, _, rfl, hr, hb5, trivial⟩
        all_goals
          go_wp2
          (first | exact ⟨rfl, _, rfl, rfl, Below.refl _ _, trivial⟩ | (refine ⟨rfl, _, ?_, rfl, Below.refl _ _, trivial⟩; simp only [Act.put, List.setIfInBounds_toArray, List.set_cons_zero, List.set_cons_succ, hp]))
      · rintro vals w4 hB ⟨p0, p1, p2, p3, p4, p5', p6', p7', p8, p9, p10, p11, p12, p13, _⟩ hne
        have hb := next_below hB0 hB
        simp at p0 p13
        generalize vals 0 = v0 at *
        subst p0
        generalize vals 13 = v13 at *
        have hw : Wh w4 v13 (massz n x.num x.den (k + (i - k))) := by
          unfold massz
          rw [show k + (i - k) = i by omega, hrn]
          exact p13
        obtain ⟨fn, tmps, assign, body, hy, hR⟩ := HY.out (i - k) v13 w4 (HJ.out _ _ _ hJi.out hb) (by omega) p13.parts hw
        have HKB := Lib.hid (hKi.out.trans (Kp.of_below hb))
        clear hne p1 p2 p3 p4 p5' p6' p7' p8 p9 p10 p11 p12 hw hB hB0 HY
        generalize vals 1 = t1 at *
        generalize vals 2 = t2 at *
        generalize vals 3 = t3 at *
        generalize vals 4 = t4 at *
        generalize vals 5 = t5 at *
        generalize vals 6 = t6 at *
        generalize vals 7 = t7 at *
        generalize vals 8 = t8 at *
        generalize vals 9 = t9 at *
        generalize vals 10 = t10 at *
        generalize vals 11 = t11 at *
        generalize vals 12 = t12 at *
        gi_wp2
        refine hR.mono ?_
        rintro o W5 ⟨rfl, hJ5, hK5⟩
        gi_wp2
        go_roundw
        case rel => exact ⟨i + 1, by omega, by omega, by go_num, Lib.hid (by rw [show i + 1 - k = i - k + 1 by omega]; exact hJ5), Lib.hid (HKB.out.trans hK5)⟩
        case measure => simp [intOf]; omega
    · obtain rfl : i = n + 1 := by omega
      gi_wp2
      go_end0
      exact ⟨⟨_, rfl⟩, hJi.out⟩

end Go.Proofs.YtmhneibcbjgedaaGreatDoor

/- The contract of tail.upper. -/
set_option linter.unusedSimpArgs false
set_option linter.unusedVariables false
namespace Go.Proofs.YtmhneibcbjgedaaGreatDoor
open Go.RowKit Go.Shelf
attribute [local go_sem] Oper.semAt_some

/-- The sum of the first so many. -/
def sumz (f : Nat → Int) : Nat → Int
  | 0 => 0
  | j + 1 => sumz f j + f j

theorem sumz_len {f : Nat → Int} {L N : Nat} (hL : 1 ≤ L) (hf : ∀ i, i < N → (limbs (f i).natAbs).length ≤ L) : ∀ j, j ≤ N → (limbs (sumz f j).natAbs).length ≤ L + j
  | 0, _ => by
    show (limbs (0 : Int).natAbs).length ≤ L + 0
    exact Nat.le_trans (limbs_len_le (k := 1) (by decide)) (by omega)
  | j + 1, h => by
    have h1 := sumz_len hL hf j (by omega)
    have h2 : (limbs (f j).natAbs).length ≤ L + j := Nat.le_trans (hf j (by omega)) (by omega)
    exact len_add h1 h2

theorem massz_len {n : Nat} (hn : n ≤ 1000) {a d : Int} (ha : (limbs a.natAbs).length ≤ 1) (hd : (limbs d.natAbs).length ≤ 1) (i : Nat) (hi : i ≤ n) : (limbs (massz n a d i).natAbs).length ≤ 5000 := by
  have h1 := (chz_len hn i hi).2
  have h2 := len_pow ha i
  have h3 : (limbs (d - a).natAbs).length ≤ 2 := by
    rw [Int.sub_eq_add_neg]; exact len_add hd (by rw [Int.natAbs_neg]; exact ha)
  have h4 := len_pow h3 (n - i)
  exact Nat.le_trans (len_mul (len_mul h1 h2) h4) (by omega)

theorem Kp.two {W : World} {bs : Nat} {u0 u1 : Value} (h : Blk W bs 65 #[u0, u1]) (x y : Value) : Kp bs W ((W.setCell ⟨bs, 0, none⟩ x).setCell ⟨bs, 1, none⟩ y) :=
  ⟨by simp, fun k o hk h1 _ => by
    have e1 := Below.heap_setCell W ⟨bs, 0, none⟩ x k hk
    have e2 := Below.heap_setCell (W.setCell ⟨bs, 0, none⟩ x) ⟨bs, 1, none⟩ y k hk
    rw [e2, e1]; exact h1, fun _ => ⟨x, y, h.two x y⟩⟩

theorem below_turn {n₀ : Nat} {A W : World} {l : Nat} {o : Obj} (o' : Obj) (h : Below n₀ A W) (hl : W.heap[l]? = some o) (hn : n₀ ≤ l) : Below n₀ A (W.putObj l o') :=
  h.trans ((Below.refl n₀ W).grown (grownBy_putObj' W l o') (by have := (Array.getElem?_eq_some_iff.1 hl).1; omega) (fun k e => by cases e; omega))

/-- The variable that holds the sum. -/
def SumAt (V : World) (g : Nat) (z : Int) : Prop := ∃ (b : Bool) (a : Option Addr) (k p : Nat), Blk V g 65 #[.bool b, .slice a k p] ∧ Wh V (.agg #[.bool b, .slice a k p]) z

theorem KeepsFrom.of_below {B : Nat} {A C : World} (h : Below A.heap.size A C) : KeepsFrom B A C :=
  ⟨h.size, fun k o _ hk _ => (h.block k (Array.getElem?_eq_some_iff.1 hk).1).trans hk⟩

theorem masses_seq (m : Nat) (hm : 1 ≤ m) (bs : Nat) (n k : Nat) (hn : n ≤ 1000) (hk : k ≤ n + 1) (x : Rat) (hx1 : (limbs x.num.natAbs).length ≤ 1) (hx2 : (limbs (x.den : Int).natAbs).length ≤ 1) (pb kb nb : Nat) (b : Bool) (a : Option Addr) (ka pa : Nat) (c : Bool) (e : Option Addr) (l q : Nat)
    (w : World) (hi : IsWh w bs) (h1 : Blk w pb 69 #[.bool b, .slice a ka pa, .bool c, .slice e l q]) (h2 : Blk w kb 3 #[.int .i64 k]) (h3 : Blk w nb 3 #[.int .i64 n]) (hx : Nm w (.agg #[.bool b, .slice a ka pa, .bool c, .slice e l q]) x) :
    SeqV m Tryz.prog 134 #[.pointer (some ⟨pb, 0, none⟩), .pointer (some ⟨kb, 0, none⟩), .pointer (some ⟨nb, 0, none⟩)] bs (fun i => massz n x.num x.den (k + i)) (n + 1 - k) w :=
  fun y J W hW hJ hY h0 => masses_in m hm y bs n k hn hk x hx1 hx2 pb kb nb b a ka pa c e l q J hJ hY W (by obtain ⟨u0, u1, hb⟩ := hi; exact ⟨u0, u1, hb.next hW⟩) (h1.next hW) (h2.next hW) (h3.next hW) (hx.below hW) h0

set_option maxRecDepth 100000 in
set_option maxHeartbeats 2000000 in
theorem upper_any {w : World} {v : Value} {x : Rat} (n k : Nat) (hn : n ≤ 1000) (hk : k ≤ n + 1) (hx1 : (limbs x.num.natAbs).length ≤ 1) (hx2 : (limbs (x.den : Int).natAbs).length ≤ 1) (hx : Nm w v x) :
    Calls Tryz.prog 41 #[.int .i64 n, .int .i64 k, v] w (RetN w (Rat.divInt (sumz (fun i => massz n x.num x.den (k + i)) (n + 1 - k)) ((x.den : Int) ^ n))) := by
  obtain ⟨b, a, ka, pa, c, e, l, q, rfl, -, -⟩ := hx.parts
  obtain ⟨W, hW, hB, hsz, j5, j6⟩ := entB w 69 69 #[.bool b, .slice a ka pa, .bool c, .slice e l q] #[.bool false, .slice none 0 0, .bool false, .slice none 0 0]
  have HW := Lib.hid hW
  have HSZ := Lib.hid hsz
  clear hW hsz
  have hxW := Lib.hid (hx.below hB)
  have HBB := Lib.hid hB
  clear hx hB
  obtain ⟨f, hf⟩ : ∃ f : Nat → Int, (fun i => massz n x.num x.den (k + i)) = f := ⟨_, rfl⟩
  have hfl : ∀ i, i < n + 1 - k → (limbs (f i).natAbs).length ≤ 5000 := fun i hi => by rw [← hf]; exact massz_len hn hx1 hx2 _ (by omega)
  have HFL := Lib.hid (fun j hj => sumz_len (by omega) hfl j hj)
  have HF1 := Lib.hid hfl
  have HF := Lib.hid hf
  rw [hf]
  clear hf hfl
  refine (callsIn_wide (n := 5)).1 ?_
  refine callsIn_of_wp_marks Tryz.func41 rfl trivial ?_ rfl
  simp only [Tryz.ntmps41, List.size_toArray, List.length_cons, List.length_nil, Nat.reduceAdd, Nat.reduceSub, Array.replicate_succ, Array.replicate_zero, List.push_toArray, List.append_toArray, List.nil_append, List.cons_append]
  obtain ⟨x0, x1, x2, x3⟩ := j5.at4
  gi_wp2_with (first
    | (refine ⟨trivial, ?_⟩; gi_at_call 83; rw [← HW.out]; refine (callsIn_wide.2 (small_any (by decide) (by decide))).mono ?_; rintro o w1 ⟨r7, rfl, hr7, hb7⟩; obtain ⟨b7, a7, k7, p7, rfl⟩ := hr7.parts; obtain ⟨y0, y1, y2, y3⟩ := ((j5.next hb7).alloc (.cells #[.bool b7, .slice a7 k7 p7] 65)).at4)
    | (refine ⟨trivial, ?_⟩; gi_at_call 94; refine (callsIn_wide.2 (masses_any _ _ _ _ _ _ _ _ _ _ _)).mono ?_; rintro o w' ⟨rfl, rfl⟩))
  have g7 := Blk.new w1 65 #[.bool b7, .slice a7 k7 p7]
  have f7 := hr7.more (.cells #[.bool b7, .slice a7 k7 p7] 65)
  have hbL : Below w1.heap.size w1 ((((w1.alloc (.cells #[.bool b7, .slice a7 k7 p7] 65)).alloc (.cells #[.int .i64 n] 3)).alloc (.cells #[.int .i64 k] 3)).alloc (.cells #[.bool b, .slice a ka pa, .bool c, .slice e l q] 69)) :=
    ((((Below.refl _ _).alloc (Nat.le_refl _) _).alloc (by simp) _).alloc (by simp; omega) _).alloc (by simp; omega) _
  have m1 := Blk.new (w1.alloc (.cells #[.bool b7, .slice a7 k7 p7] 65)) 3 #[.int .i64 n]
  have m2 := Blk.new ((w1.alloc (.cells #[.bool b7, .slice a7 k7 p7] 65)).alloc (.cells #[.int .i64 n] 3)) 3 #[.int .i64 k]
  have m3 := Blk.new (((w1.alloc (.cells #[.bool b7, .slice a7 k7 p7] 65)).alloc (.cells #[.int .i64 n] 3)).alloc (.cells #[.int .i64 k] 3)) 69 #[.bool b, .slice a ka pa, .bool c, .slice e l q]
  have M1 := (m1.alloc (.cells #[.int .i64 k] 3)).alloc (.cells #[.bool b, .slice a ka pa, .bool c, .slice e l q] 69)
  have M2 := m2.alloc (.cells #[.bool b, .slice a ka pa, .bool c, .slice e l q] 69)
  have G7 := ((g7.alloc (.cells #[.int .i64 n] 3)).alloc (.cells #[.int .i64 k] 3)).alloc (.cells #[.bool b, .slice a ka pa, .bool c, .slice e l q] 69)
  have F7 := ((f7.more (.cells #[.int .i64 n] 3)).more (.cells #[.int .i64 k] 3)).more (.cells #[.bool b, .slice a ka pa, .bool c, .slice e l q] 69)
  have hxL := (hxW.out.below hb7).below hbL
  have hszL : w1.heap.size + 4 = ((((w1.alloc (.cells #[.bool b7, .slice a7 k7 p7] 65)).alloc (.cells #[.int .i64 n] 3)).alloc (.cells #[.int .i64 k] 3)).alloc (.cells #[.bool b, .slice a ka pa, .bool c, .slice e l q] 69)).heap.size := by simp
  simp only [World.size_alloc] at M1 M2 m3
  have i5 := j5.next hb7
  have i6 := j6.next hb7
  have HB7 := Lib.hid hb7
  clear g7 f7 m1 m2 hr7 hb7
  generalize ((((w1.alloc (.cells #[.bool b7, .slice a7 k7 p7] 65)).alloc (.cells #[.int .i64 n] 3)).alloc (.cells #[.int .i64 k] 3)).alloc (.cells #[.bool b, .slice a ka pa, .bool c, .slice e l q] 69)) = WL at *
  have hseq := masses_seq 4 (by omega) w1.heap.size n k hn hk x hx1 hx2 _ _ _ b a ka pa c e l q WL ⟨_, _, G7⟩ m3 M2 M1 hxL
  rw [HF.out] at hseq
  refine wpIn_rangeFunc_V (by omega) (gf := 134) (lb := #[.pointer (some ⟨w1.heap.size + 1 + 1 + 1, 0, none⟩), .pointer (some ⟨w1.heap.size + 1 + 1, 0, none⟩), .pointer (some ⟨w1.heap.size + 1, 0, none⟩)]) rfl (enters_of Tryz.func134 (by kernel_rfl) rfl)
    hseq (Below.refl _ _) rfl
    (fun j V => SumAt V w1.heap.size (sumz f j) ∧ Below w1.heap.size w1 V)
    ?_ ?_ ⟨⟨b7, a7, k7, p7, G7, F7⟩, hbL⟩ ?_ ?_
  · rintro j A l o o' hl hA ho ⟨⟨b7, a7, k7, p7, h1, h2⟩, h3⟩
    exact ⟨⟨b7, a7, k7, p7, h1.turn o' hA ho, h2.turn o' hA ho⟩, below_turn o' h3 hA (by omega)⟩
  · rintro j A C ⟨⟨b7, a7, k7, p7, h1, h2⟩, h3⟩ h4
    exact ⟨⟨b7, a7, k7, p7, h1.next h4, h2.below h4⟩, next_below h3 h4⟩
  · rintro y j v V ⟨⟨b8, a8, k8, p8, h1, h2⟩, h3⟩ hj ⟨b9, a9, k9, p9, rfl⟩ hv
    gi_wp2
    refine ⟨(Below.refl _ _).alloc (Nat.le_refl _) _, fun j1 o o' hj1 hj2 ho hoc => ?_⟩
    have r7 := (h1.alloc (.cells #[.bool b9, .slice a9 k9 p9] 65)).turn o' ho hoc
    have r8 := (Blk.new V 65 #[.bool b9, .slice a9 k9 p9]).turn o' ho hoc
    have s7 := (h2.more (.cells #[.bool b9, .slice a9 k9 p9] 65)).turn o' ho hoc
    have s8 := (hv.more (.cells #[.bool b9, .slice a9 k9 p9] 65)).turn o' ho hoc
    have hB2 := Lib.hid (below_turn o' (h3.alloc h3.size (.cells #[.bool b9, .slice a9 k9 p9] 65)) ho (by omega))
    have FS := Lib.hid (And.intro (HFL.out j (by omega)) (HF1.out j hj))
    generalize (V.alloc (.cells #[.bool b9, .slice a9 k9 p9] 65)).putObj j1 o' = V2 at *
    generalize V.heap.size = z8 at *
    have S7 := Lib.hid s7
    have S8 := Lib.hid s8
    clear s7 s8 h1 h2 h3 hv ho hoc hj1 hj2 y0 y1 y2 y3 x0 x1 x2 x3 i5 i6 M1 M2 m3 G7 F7 hxL hseq hbL
    have c0 := r7.cell0
    have c1 := r7.cell1
    have d0 := r8.cell0
    have d1 := r8.cell1
    gi_wp2_with (refine ⟨trivial, ?_⟩; gi_at_call 53; refine (CallsIn.inRound y (callsIn_wide.2 (add_any S7.out S8.out (Fit.of_len FS.out.1 (by omega)) (Fit.of_len FS.out.2 (by omega))))).mono ?_; rintro o w5 ⟨r5, rfl, hr5, hb5⟩; obtain ⟨b5, a5, k5, p5, rfl⟩ := hr5.parts; have t7 := r7.next hb5; have u0 := t7.cell0; have u1 := t7.cell1; have u2 := t7.frozen 0; have u3 := t7.frozen 1)
    exact ⟨(KeepsFrom.of_below hb5).trans (((KeepsOthers.setCell _ _ _).from _).trans ((KeepsOthers.setCell _ _ _).from _)), (Kp.of_below hb5).trans (Kp.two t7 _ _), ⟨b5, a5, k5, p5, t7.two _ _, hr5.two t7 (by decide) _ _⟩, below_two (hB2.out.trans (hb5.mono hB2.out.size)) (Nat.le_refl _) _ _⟩
  · rintro D V hD ⟨⟨b8, a8, k8, p8, h1, h2⟩, h3⟩ hK
    have n5 := i5.next h3
    have n6 := i6.next h3
    have hxV := Lib.hid (((hxW.out.below HB7.out).below h3).pr)
    obtain ⟨c0, c1, c2, c3⟩ := n5.at4
    have HKD := Lib.hid hK
    have S2 := Lib.hid h2
    have HB3 := Lib.hid (HB7.out.trans (h3.mono HB7.out.size))
    have hDlt : D < V.heap.size := (Array.getElem?_eq_some_iff.1 hK).1
    have hV1 : w1.heap.size ≤ V.heap.size := h3.size
    have F1 : Fit x.num := Fit.of_len hx1 (by omega)
    have F2 : Fit (x.den : Int) := Fit.of_len hx2 (by omega)
    clear y0 y1 y2 y3 x0 x1 x2 x3 i5 i6 M1 M2 m3 G7 F7 hxL hseq hbL h2 hK h3
    gi_wp2_with (first
      | (refine ⟨trivial, ?_⟩; gi_at_call 95; refine (callsIn_wide.2 (parts_any hxV.out)).mono ?_; rintro o w4 ⟨v1, v2, rfl, hr1, hr2, hb4⟩; obtain ⟨b5, a5, k5, p5, rfl⟩ := hr1.parts; obtain ⟨b6, a6, k6, p6, rfl⟩ := hr2.parts))
    have Hb4 : Below V.heap.size V ((w4.alloc (.cells #[.bool b5, .slice a5 k5 p5] 65)).alloc (.cells #[.bool b6, .slice a6 k6 p6] 65)) := (hb4.alloc hb4.size _).alloc (by have := hb4.size; simp; omega) _
    have t10 : Blk ((w4.alloc (.cells #[.bool b5, .slice a5 k5 p5] 65)).alloc (.cells #[.bool b6, .slice a6 k6 p6] 65)) (w4.heap.size + 1) 65 #[.bool b6, .slice a6 k6 p6] := by
      have := Blk.new (w4.alloc (.cells #[.bool b5, .slice a5 k5 p5] 65)) 65 #[.bool b6, .slice a6 k6 p6]
      simpa using this
    have t7 := h1.next Hb4
    have t6 := n6.next Hb4
    have s7 := Lib.hid (S2.out.below Hb4)
    have s10 := Lib.hid ((hr2.more (.cells #[.bool b5, .slice a5 k5 p5] 65)).more (.cells #[.bool b6, .slice a6 k6 p6] 65))
    have HB4 := Lib.hid Hb4
    have hsz4 := Hb4.size
    have HPW := Lib.hid (len_pow hx2 n)
    have HSM := Lib.hid (HFL.out (n + 1 - k) (Nat.le_refl _))
    clear hr1 hr2 hb4 Hb4 c0 c1 c2 c3 h1 n5 n6 F1 F2
    generalize w4.heap.size = z9 at *
    generalize ((w4.alloc (.cells #[.bool b5, .slice a5 k5 p5] 65)).alloc (.cells #[.bool b6, .slice a6 k6 p6] 65)) = W4 at *
    have hB0 : Below W4.heap.size W4 W4.drew := (Below.refl _ _).drew
    refine wpIn_region_fam 5 (by kernel_rfl) (by kernel_rfl) [] [fun v _ => v = .agg #[.bool b8, .slice a8 k8 p8], fun v _ => v = .agg #[.bool b6, .slice a6 k6 p6], fun v _ => v = .int .i64 n, fun v w' => Wh w' v ((x.den : Int) ^ n), fun v w' => Nm w' v (Rat.divInt (sumz f (n + 1 - k)) ((x.den : Int) ^ n))] (by simp only [List.take_succ_cons, List.take_zero]; rfl) (by simp only [List.drop_succ_cons, List.drop_zero]; rfl) (fun vals => by simp only [fam, Act.put, List.setIfInBounds_toArray, List.set_cons_zero, List.set_cons_succ, if_true]; rfl) (by repeat' (first | exact Stab.eq _ _ | exact Stab.wh _ _ | exact Stab.nm _ _ | exact Stab.new _ _ | exact Stab.newn _ _ | exact Stab.tw _ _ _ | exact trivial | apply And.intro)) trivial ?_ ?_
    · refine ⟨?_, ?_, ?_, ?_, ?_, trivial⟩
      all_goals
        intro vals w5 hB hp
        dsimp only
        (try simp [preOk, Region.binds] at hp)
        have hb := next_below hB0 hB
        have d70 := (t7.next hb).cell0
        have d71 := (t7.next hb).cell1
        have d100 := (t10.next hb).cell0
        have d101 := (t10.next hb).cell1
        clear hB
      case refine_4 =>
        obtain ⟨q0, q1⟩ := hp
        generalize vals 1 = x1 at *
        subst q0
        generalize vals 2 = x2 at *
        subst q1
        go_wp2_with (go_at_call 97; refine (power_any n hn (s10.out.below hb) (Nat.le_trans hx2 (by omega))).mono ?_; rintro o w6 ⟨rv, rfl, hr, hb6⟩)
        exact ⟨rfl, _, rfl, hr, hb6, trivial⟩
      case refine_5 =>
        obtain ⟨q0, q1⟩ := hp
        generalize vals 0 = x0 at *
        subst q0
        go_wp2_with (go_at_call 96; refine (make_any (s7.out.below hb) q1 (Fit.of_len HSM.out (by omega)) (Fit.of_len HPW.out (by omega)) (Int.pow_ne_zero (den_ne x))).mono ?_; rintro o w6 ⟨rv, rfl, hr, hb6⟩)
        exact ⟨rfl, _, rfl, hr, hb6, trivial⟩
      all_goals
        go_wp2
        (first | exact ⟨rfl, _, rfl, rfl, Below.refl _ _, trivial⟩ | (refine ⟨rfl, _, ?_, rfl, Below.refl _ _, trivial⟩; simp only [Act.put, List.setIfInBounds_toArray, List.set_cons_zero, List.set_cons_succ, hp]))
    · rintro vals w5 hB ⟨p0, p1, p2, p3, p4, _⟩ hne
      have hb := next_below hB0 hB
      simp at p4
      generalize vals 4 = v4 at *
      obtain ⟨b9, a9, k9, q9, c9, e9, l9, r9, rfl, f9, g9⟩ := p4.parts
      have j6' := t6.next hb
      obtain ⟨c0, c1, c2, c3⟩ := j6'.at4
      obtain ⟨u0, u1, u2, u3⟩ := j6'.fr4
      clear hne p0 p1 p2 p3 f9 g9
      generalize vals 0 = t0 at *
      generalize vals 1 = t1 at *
      generalize vals 2 = t2 at *
      generalize vals 3 = t3 at *
      gi_wp2
      have hD5 : w5.heap[D]? = some (.deferred (some [])) := (hb.block D (by omega)).trans ((HB4.out.block D hDlt).trans HKD.out)
      have hws : W.heap.size = w.heap.size + 2 := HSZ.out
      have hw1 : W.heap.size ≤ w1.heap.size := HB7.out.size
      have hDne : D ≠ w.heap.size + 1 := by omega
      have hD6 := (Below.heap_setCell (((w5.setCell ⟨w.heap.size + 1, 0, none⟩ (.bool b9)).setCell ⟨w.heap.size + 1, 1, none⟩ (.slice a9 k9 q9)).setCell ⟨w.heap.size + 1, 2, none⟩ (.bool c9)) ⟨w.heap.size + 1, 3, none⟩ (.slice e9 l9 r9) D hDne).trans ((Below.heap_setCell ((w5.setCell ⟨w.heap.size + 1, 0, none⟩ (.bool b9)).setCell ⟨w.heap.size + 1, 1, none⟩ (.slice a9 k9 q9)) ⟨w.heap.size + 1, 2, none⟩ (.bool c9) D hDne).trans ((Below.heap_setCell (w5.setCell ⟨w.heap.size + 1, 0, none⟩ (.bool b9)) ⟨w.heap.size + 1, 1, none⟩ (.slice a9 k9 q9) D hDne).trans ((Below.heap_setCell w5 ⟨w.heap.size + 1, 0, none⟩ (.bool b9) D hDne).trans hD5)))
      have jj := j6'.four (.bool b9) (.slice a9 k9 q9) (.bool c9) (.slice e9 l9 r9)
      have nn := p4.four j6' (by decide) (.bool b9) (.slice a9 k9 q9) (.bool c9) (.slice e9 l9 r9)
      have bb : Below w.heap.size w _ := below_four (g := w.heap.size + 1) (HBB.out.trans ((HB3.out.trans ((HB4.out.trans (hb.mono HB4.out.size)).mono HB3.out.size)).mono HBB.out.size)) (by omega) (.bool b9) (.slice a9 k9 q9) (.bool c9) (.slice e9 l9 r9)
      generalize ((((w5.setCell ⟨w.heap.size + 1, 0, none⟩ (.bool b9)).setCell ⟨w.heap.size + 1, 1, none⟩ (.slice a9 k9 q9)).setCell ⟨w.heap.size + 1, 2, none⟩ (.bool c9)).setCell ⟨w.heap.size + 1, 3, none⟩ (.slice e9 l9 r9)) = W6 at *
      refine ⟨by simp, .inl ⟨_, _, rfl, run_takeDeferred hD6, ?_⟩⟩
      have d0 := fun o' => (jj.turn o' hD6 rfl).at4.1
      have d1 := fun o' => (jj.turn o' hD6 rfl).at4.2.1
      have d2 := fun o' => (jj.turn o' hD6 rfl).at4.2.2.1
      have d3 := fun o' => (jj.turn o' hD6 rfl).at4.2.2.2
      refine ⟨.agg #[.bool b9, .slice a9 k9 q9, .bool c9, .slice e9 l9 r9], by simp [results, Tryz.results41, go_sem, d0, d1, d2, d3], _, rfl, ?_, below_turn _ bb hD6 (by omega)⟩
      obtain ⟨na, nb, nc, nd, ne, n1, n2⟩ := nn
      exact ⟨na, nb, nc, nd, ne, n1.turn _ hD6 rfl, n2.turn _ hD6 rfl⟩

end Go.Proofs.YtmhneibcbjgedaaGreatDoor
