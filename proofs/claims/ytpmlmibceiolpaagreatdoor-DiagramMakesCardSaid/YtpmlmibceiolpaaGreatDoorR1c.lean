/- The contracts of croupierref01: cut, negative, compare, read (digits in base 10000). -/
import Derived.Test.YtpmlmibceiolpaaGreatDoorD4Rep
import Derived.Test.YtpmlmibceiolpaaGreatDoorTPow
set_option linter.unusedSimpArgs false
set_option linter.unusedVariables false
namespace Go.Proofs.YtpmlmibceiolpaaGreatDoor.D4
open Go.RowKit
open Go.Lib (decDigits itoa nDigits)

/-- A slice that lies in no block below B. -/
def Above (B : Nat) (v : Value) : Prop := ∀ a k c, v = .slice (some a) k c → B ≤ a.block
theorem Above.mono {B C : Nat} {v : Value} (h : Above B v) (hb : C ≤ B) : Above C v := fun a k c e => Nat.le_trans hb (h a k c e)
theorem Above.row {w : World} {B n sz : Nat} {t : TypeId} {v : Value} {xs : List Value} (h : w.ownsRow B t sz v n xs) : Above B v := by
  obtain ⟨_, h⟩ := h
  rcases h with ⟨rfl, _⟩ | ⟨g, cap, cur, rfl, hB, _⟩
  · intro a k c e; cases e
  · intro a k c e; cases e; exact hB
theorem Above.cut {B n k c : Nat} {a : Option Addr} (h : Above B (.slice a n c)) : Above B (.slice a k c) := by
  intro a' k' c' e
  cases e
  exact h a' n c rfl

/-- What a function hands back that makes the digits of a number. -/
def RetI (w : World) (n : Nat) (e : Ending) (w' : World) : Prop := ∃ r, e = .returned r ∧ Lim w' r (limbs n) ∧ Above w.heap.size r ∧ Below w.heap.size w w'
/-- The same, where what was handed in may be handed back, shortened. -/
def RetK (v : Value) (w : World) (n : Nat) (e : Ending) (w' : World) : Prop := ∃ r, e = .returned r ∧ Lim w' r (limbs n) ∧ (∀ B, Above B v → Above B r) ∧ Below w.heap.size w w'

theorem last_take {l : List Nat} {k : Nat} (hk : k < l.length) (h : l.getD k 0 ≠ 0) : Last (l.take (k + 1)) := by
  intro _
  have e : (l.take (k + 1)).length - 1 = k := by simp; omega
  rw [e]
  have e2 : (l.take (k + 1)).getD k 0 = l.getD k 0 := by
    simp [List.getD, List.getElem?_take]
  rw [e2]; exact h

theorem val_take_zero {l : List Nat} {k : Nat} (h : l.getD k 0 = 0) : val (l.take (k + 1)) = val (l.take k) := by
  rw [val_take_succ, h]; simp

theorem Lim.take {w : World} {a : Option Addr} {n cap : Nat} {l : List Nat} (h : Lim w (.slice a n cap) l) {k : Nat} (hk : k ≤ l.length) : Lim w (.slice a k cap) (l.take k) := by
  obtain ⟨a', c', e, h1, h2, h3⟩ := h
  injection e with ea en ec
  subst ea en ec
  have hl : (l.take k).length = k := by simp; omega
  refine ⟨a, cap, by rw [hl], by omega, h2, ?_⟩
  rcases h3 with h3 | ⟨b, o, ha, hc⟩
  · subst h3; exact .inl (by simp)
  · exact .inr ⟨b, o, ha, hc.1, fun i hi => by
      rw [hl] at hi
      rw [hc.2 i (by omega)]
      congr 3
      simp [List.getD, List.getElem?_take, hi]⟩

set_option maxHeartbeats 1000000 in
theorem cut_any {w : World} {v : Value} {l : List Nat} (h : Lim w v l) (ho : Ok l) :
    Calls Tryz.prog 125 #[v] w (RetK v w (val l)) := by
  obtain ⟨a, cap, rfl, hcap, hm, h3⟩ := id h
  have hmm := hm
  unfold maxLen at hm
  generalize hn : l.length = n at *
  have HN := Lib.hid hn
  have HL := Lib.hid h
  clear hn h
  go_enter Tryz.func125, Tryz.ntmps125
  go_wp2
  go_loop [0] (fun t => ∃ k : Nat, k ≤ n ∧ t = .slice a k cap ∧ Hid (val (l.take k) = val l)) (fun t => match t with | .slice _ k _ => k | _ => 0)
  case atStart => exact ⟨n, Nat.le_refl _, rfl, Lib.hid (by rw [← HN.out, List.take_length])⟩
  case round =>
    obtain ⟨k, hk, rfl, hv⟩ := hrel
    by_cases hk0 : 0 < k
    · obtain ⟨j, rfl⟩ : ∃ j, k = j + 1 := ⟨k - 1, by omega⟩
      have hj : ((j + 1 : Nat) : Int) - 1 = (j : Int) := by omega
      have hji : (j : Int) < ((j + 1 : Nat) : Int) := by omega
      rcases h3 with h3 | ⟨b, o, rfl, hc⟩
      · exfalso; have := HN.out; rw [h3] at this; simp at this; omega
      have g1 : w.cell? ⟨b, o + j, none⟩ = some (.int .i64 (l.getD j 0)) := hc.2 j (by have := HN.out; omega)
      by_cases hx : l.getD j 0 = 0
      · rw [hx] at g1
        have HV := Lib.hid (val_take_zero hx)
        clear hx
        go_wp2
        go_round
        case rel => exact ⟨j, by omega, by first | rfl | go_num, Lib.hid (by rw [← HV.out]; exact hv.out)⟩
        case measure => simp
      · have hlast := Lib.hid (last_take (by have := HN.out; omega) hx)
        generalize hxe : l.getD j 0 = x at *
        have hne : ((x : Int) == 0) = false := by simpa using hx
        clear hx hxe
        go_wp2
        go_ret
        refine ⟨_, rfl, ?_, fun B hB => hB.cut, Below.refl _ _⟩
        rw [← hv.out, limbs_val (ho.take _) hlast.out]
        exact HL.out.take (by have := HN.out; omega)
    · obtain rfl : k = 0 := by omega
      go_wp2
      go_ret
      refine ⟨_, rfl, ?_, fun B hB => hB.cut, Below.refl _ _⟩
      rw [← hv.out]
      exact HL.out.take (Nat.zero_le _)

end Go.Proofs.YtpmlmibceiolpaaGreatDoor.D4

/- Append of a slice of ints that came in, nil or not, onto a row of the call's own. -/
set_option linter.unusedSimpArgs false
set_option linter.unusedVariables false
namespace Go.Proofs.YtpmlmibceiolpaaGreatDoor.D4
open Go.RowKit

/-- Nothing is added where the source is nil. -/
theorem app_nothing {P : Program} (w : World) (base : Nat) (t ty e : TypeId) (i : TypeInfo) (size : Nat) (ht : P.underlying t = some (.slice e)) (hi : P.info? e = some i) (v : Value) (n : Nat) (xs : List Value) (hown : w.ownsRow base e size v n xs) (c : Nat) :
    (Builtin.append_ #[t, t] ty #[v, .slice none 0 c]).run P w = .ok v w := by
  obtain ⟨hl, h⟩ := hown
  rcases h with ⟨rfl, rfl⟩ | ⟨g, cap, cur, rfl, _, _, hn, _⟩
  · simp [Builtin.append_, run_underlying ht, sizeOf, typeInfo, hi, Builtin.lenOf, Builtin.firstCells]
  · simp [Builtin.append_, run_underlying ht, sizeOf, typeInfo, hi, Builtin.lenOf, Builtin.firstCells, hn, storeCells]

theorem wpList_append_lim {w : World} {ops : Array Oper} {rest : List Oper} {o : Oper} {a : Act} {Q : Exit → Act → World → Prop} (hgd : o.guard = none) (s x : Operand)
    (ho : o.op = .call { callee := .builtin .append, args := #[s, x], argTypes := #[93, 93] })
    (base : Nat) (v : Value) (n : Nat) (xs : List Value) (hs : a.eval s = v) (hown : w.ownsRow base 3 1 v n xs)
    (y : Value) (l : List Nat) (hx : a.eval x = y) (hl : Lim w y l) (h63 : n + l.length ≤ 10000000) (hbase : base ≤ w.heap.size)
    (h : ∀ v' w', w'.ownsRow base 3 1 v' (n + l.length) (xs ++ l.map fun (x : Nat) => Value.int .i64 x) → w.grownBy w' v.ownBlock → wpList Tryz.prog ops Q rest (a.put o.dst v') w') : wpList Tryz.prog ops Q (o :: rest) a w := by
  obtain ⟨i0, hi, hz0, hz1, hz2⟩ := info_parts info64
  obtain ⟨ad, cap, rfl, hcap, hm, hc⟩ := hl
  rcases ad with _ | ad
  · have e : l = [] := by
      rcases hc with hc | ⟨b, o, hb, _⟩
      · exact hc
      · cases hb
    subst e
    refine wpList_plain hgd fun K hK => ?_
    have hrun := app_nothing (P := Tryz.prog) w base 93 o.type 3 i0 1 Tryz.underlying93 hi v n xs hown cap
    unfold Oper.wp
    have hx' : a.eval x = .slice none 0 cap := hx
    simp [execOp, ho, resolve, invoke, builtin, hs, hx', hrun, Result.andThen]
    exact hK _ _ (h v w (by simpa using hown) (World.grownBy.refl w _))
  · refine wpList_append_own w hgd s x 93 ho base 3 i0 (.int .i64 0) 1 8 Tryz.underlying93 hi hz0 hz1 hz2 rfl (by decide) v n xs hs hown ad l.length cap (l.map fun (x : Nat) => Value.int .i64 x) hx (by simp) ?_ (int_oneCell l) (by unfold maxLen; omega) (by omega) hbase (fun v' w' h1 h2 _ => h v' w' h1 h2)
    intro j u hj
    rcases hc with hc | ⟨b, o, hb, hcc⟩
    · subst hc; simp at hj
    · cases hb
      have hj' : j < l.length := by
        have := (List.getElem?_eq_some_iff.1 hj).1
        simpa using this
      have h1 := hcc.2 j hj'
      simp [List.getElem?_eq_getElem hj'] at hj
      subst hj
      have e : (⟨b, o, none⟩ : Addr).add j = ⟨b, o + j, none⟩ := by
        unfold Addr.add
        split
        · rename_i h; subst h; rfl
        · rfl
      rw [e, h1]
      simp [List.getD, List.getElem?_eq_getElem hj']

end Go.Proofs.YtpmlmibceiolpaaGreatDoor.D4

/- The contracts of croupierref01: negative, Sign, compare, read. -/
set_option linter.unusedSimpArgs false
set_option linter.unusedVariables false
namespace Go.Proofs.YtpmlmibceiolpaaGreatDoor.D4
open Go.RowKit
open Go.Lib (decDigits itoa nDigits)

theorem itoa_head (n : Int) : ∃ c r, itoa n = c :: r ∧ decide (c = 45) = decide (n < 0) ∧ (c = 45 → r = decDigits n.natAbs) ∧ (c ≠ 45 → c :: r = decDigits n.natAbs) := by
  rw [itoa_sgnd]
  by_cases h : n < 0
  · refine ⟨45, decDigits n.natAbs, by simp [sgnd, h], by simp [h], fun _ => rfl, fun e => absurd rfl e⟩
  · have hd := decDigits_dig n.natAbs
    cases hc : decDigits n.natAbs with
    | nil => exact absurd hc (decDigits_ne _)
    | cons c r =>
      rw [hc] at hd
      have h1 := hd c (by simp)
      have h2 : c ≠ 45 := by intro e; subst e; exact absurd h1.1 (by decide)
      refine ⟨c, r, by simp [sgnd, h], by simp [h, h2], fun e => absurd e h2, fun _ => rfl⟩

set_option maxHeartbeats 1000000 in
theorem negative_any {w : World} (n : Int) : Calls Tryz.prog 86 #[.string ⟨(itoa n).toArray⟩] w fun e w' => e = .returned (.bool (decide (n < 0))) ∧ w = w' := by
  obtain ⟨c, r, e1, e2, -, -⟩ := itoa_head n
  rw [e1, ← e2]
  have hsz : 0 < (⟨(c :: r).toArray⟩ : ByteArray).size := by rw [ba_size]; simp
  have hz : ∀ h : 0 < (⟨(c :: r).toArray⟩ : ByteArray).size, ((((⟨(c :: r).toArray⟩ : ByteArray)[0]'h).toNat : Int) == 45) = decide (c = 45) := by
    intro h
    have h1 : ((⟨(c :: r).toArray⟩ : ByteArray)[0]'h) = c := rfl
    rw [h1, Bool.eq_iff_iff, beq_iff_eq, decide_eq_true_eq]
    constructor
    · intro e; exact UInt8.toNat_inj.1 (show c.toNat = (45 : UInt8).toNat by have : (45 : UInt8).toNat = 45 := rfl; omega)
    · intro e; subst e; rfl
  generalize (⟨(c :: r).toArray⟩ : ByteArray) = S at *
  generalize decide (c = 45) = b at *
  clear e1 e2
  go_enter Tryz.func86, Tryz.ntmps86
  go_wp2
  go_ret
  exact ⟨by simp [hz], rfl⟩

theorem itoa_zero_iff (n : Int) : (itoa n = [48]) ↔ n = 0 := by
  constructor
  · intro h
    have e : itoa 0 = [48] := by decide +kernel
    exact itoa_inj (h.trans e.symm)
  · intro h; subst h; decide +kernel

theorem sign_any {w : World} (n : Int) : Calls Tryz.prog 92 #[.string ⟨(itoa n).toArray⟩] w (RetV w (.int .i64 n.sign)) := by
  have hneg := Lib.hid (negative_any (w := w) n)
  have hz := itoa_zero_iff n
  have hl := ba_list (itoa n)
  by_cases h0 : n = 0
  · have hs : ((⟨(itoa n).toArray⟩ : ByteArray).toList == [48]) = true := by rw [beq_iff_eq, hl]; exact hz.2 h0
    rw [h0]
    rw [h0] at hs
    have e0 : (itoa 0) = [48] := by decide +kernel
    rw [e0]
    clear hneg hs hz hl
    go_enter Tryz.func92, Tryz.ntmps92
    go_wp2
    go_ret
    exact ⟨rfl, Below.refl _ _⟩
  · have hs : ((⟨(itoa n).toArray⟩ : ByteArray).toList == [48]) = false := by rw [beq_eq_false_iff_ne, hl]; intro e; exact h0 (hz.1 e)
    clear hz hl
    generalize (⟨(itoa n).toArray⟩ : ByteArray) = S at *
    by_cases h1 : n < 0
    · have e1 : n.sign = -1 := Int.sign_eq_neg_one_of_neg h1
      have e2 : decide (n < 0) = true := by simpa using h1
      rw [e1]
      rw [e2] at hneg
      clear h0 h1 e1 e2
      go_enter Tryz.func92, Tryz.ntmps92
      go_wp2_with (go_at_call 86; refine hneg.out.mono ?_; rintro e w' ⟨rfl, rfl⟩)
      go_ret
      exact ⟨rfl, Below.refl _ _⟩
    · have e1 : n.sign = 1 := Int.sign_eq_one_of_pos (by omega)
      have e2 : decide (n < 0) = false := by simpa using h1
      rw [e1]
      rw [e2] at hneg
      clear h0 h1 e1 e2
      go_enter Tryz.func92, Tryz.ntmps92
      go_wp2_with (go_at_call 86; refine hneg.out.mono ?_; rintro e w' ⟨rfl, rfl⟩)
      go_ret
      exact ⟨rfl, Below.refl _ _⟩

set_option maxHeartbeats 1000000 in
theorem compare_any {w : World} {v1 v2 : Value} {l1 l2 : List Nat} (h1 : Lim w v1 l1) (h2 : Lim w v2 l2) (o1 : Ok l1) (o2 : Ok l2) (k1 : Last l1) (k2 : Last l2) :
    Calls Tryz.prog 89 #[v1, v2] w (RetV w (.int .i64 (sgn (val l1) (val l2)))) := by
  obtain ⟨a1, c1, rfl, hc1, hm1, h1⟩ := h1
  obtain ⟨a2, c2, rfl, hc2, hm2, h2⟩ := h2
  unfold maxLen at hm1 hm2
  by_cases hz : sgn l1.length l2.length = 0
  · have hl := sgn_zero hz
    rw [← hl] at hc2 hz ⊢
    generalize hn : l1.length = n at *
    have HN := Lib.hid hn
    have HL := Lib.hid hl
    clear hn hl hz
    go_enter Tryz.func89, Tryz.ntmps89
    go_wp2
    go_loopw [5] (fun i wr => ∃ k : Nat, k ≤ n ∧ i = .int .i64 ((k : Int) - 1) ∧ Hid (l1.drop k = l2.drop k) ∧ Drawn w wr) (fun i _ => (intOf i + 1).toNat)
    case atStart => exact ⟨n, Nat.le_refl _, rfl, Lib.hid (by rw [← HN.out, List.drop_length, HN.out, HL.out, List.drop_length]), Drawn.refl _⟩
    case round =>
      obtain ⟨k, hk, rfl, HD, hw⟩ := hrel
      by_cases hk0 : 0 < k
      · obtain ⟨j, rfl⟩ : ∃ j, k = j + 1 := ⟨k - 1, by omega⟩
        have hj : ((j + 1 : Nat) : Int) - 1 = (j : Int) := by omega
        rw [hj]
        clear hj
        rcases h1 with h1 | ⟨b1, p1, rfl, hc⟩
        · exfalso; have := HN.out; rw [h1] at this; simp at this; omega
        rcases h2 with h2 | ⟨b2, p2, rfl, hc'⟩
        · exfalso; have := HL.out; rw [h2] at this; simp at this; omega
        have g1 : wr.cell? ⟨b1, p1 + j, none⟩ = some (.int .i64 (l1.getD j 0)) := (hw.cell _).trans <| hc.2 j (by have := HN.out; omega)
        have g2 : wr.cell? ⟨b2, p2 + j, none⟩ = some (.int .i64 (l2.getD j 0)) := (hw.cell _).trans <| hc'.2 j (by have := HL.out; omega)
        have hfin := fun hs => sgn_at o1 o2 (k := j) (by have := HN.out; omega) (HN.out.trans HL.out) HD.out hs
        generalize hx : l1.getD j 0 = x at g1 hfin
        generalize hy : l2.getD j 0 = y at g2 hfin
        have HX := Lib.hid hx
        have HY := Lib.hid hy
        have HF := Lib.hid hfin
        clear hx hy hfin
        have hi1 : (j : Int) < (n : Int) := by omega
        by_cases hs : x = y
        · have hs2 : ((x : Int) != (y : Int)) = false := by simp [hs]
          have HS := Lib.hid hs
          clear hs
          go_wp2
          go_quiet (fail)
          go_wp2
          go_roundw
          case rel => exact ⟨j, by omega, by go_num, Lib.hid (by rw [drop_eq (by have := HN.out; omega), drop_eq (l := l2) (by have := HL.out; omega), HX.out, HY.out, HD.out, HS.out]), hw.more _⟩
          case measure => simp [intOf]
        · have hs2 : ((x : Int) != (y : Int)) = true := by simp; omega
          by_cases hlt : x < y
          · have e1 := sgn_lt hlt
            rw [e1] at HF
            have HF2 := Lib.hid (HF.out (by decide))
            have hltb : decide ((x : Int) < (y : Int)) = true := by simpa using hlt
            clear hs e1 HF
            go_wp2
            go_quiet (fail)
            go_wp2
            go_quiet (fail)
            go_wp2
            go_ret
            exact ⟨ret_int HF2.out.symm, (Drawn.below (by first | exact (hw.more _).more _ | exact hw.more _) _)⟩
          · have e1 := sgn_gt (show y < x by omega)
            rw [e1] at HF
            have HF2 := Lib.hid (HF.out (by decide))
            have hltb : decide ((x : Int) < (y : Int)) = false := by simpa using hlt
            clear hs e1 HF
            go_wp2
            go_quiet (fail)
            go_wp2
            go_quiet (fail)
            go_wp2
            go_ret
            exact ⟨ret_int HF2.out.symm, (Drawn.below (by first | exact (hw.more _).more _ | exact hw.more _) _)⟩
      · obtain rfl : k = 0 := by omega
        have hfin : sgn (val l1) (val l2) = 0 := by
          have hd := HD.out
          simp only [List.drop_zero] at hd
          rw [hd, sgn_self]
        have HF := Lib.hid hfin
        clear hfin
        go_wp2
        go_ret
        exact ⟨ret_int HF.out.symm, hw.below _⟩
  · have hfin := sgn_len o1 o2 k1 k2 hz
    have hne : ((l1.length : Int) != (l2.length : Int)) = true := by
      simp
      intro e
      exact hz (by rw [show l1.length = l2.length by omega, sgn_self])
    by_cases hlt : l1.length < l2.length
    · rw [hfin, sgn_lt hlt]
      have hb : decide (l1.length < l2.length) = true := by simpa using hlt
      have hb2 : decide ((l1.length : Int) < (l2.length : Int)) = true := by simpa using hlt
      generalize l1.length = n1 at *
      generalize l2.length = n2 at *
      clear hfin hz h1 h2
      go_enter Tryz.func89, Tryz.ntmps89
      go_wp2
      go_ret
      exact ⟨rfl, Below.refl _ _⟩
    · have hgt : l2.length < l1.length := by simp at hne; omega
      rw [hfin, sgn_gt hgt]
      have hb : decide (l1.length < l2.length) = false := by simpa using hlt
      have hb2 : decide ((l1.length : Int) < (l2.length : Int)) = false := by simpa using hlt
      generalize l1.length = n1 at *
      generalize l2.length = n2 at *
      clear hfin hz h1 h2
      go_enter Tryz.func89, Tryz.ntmps89
      go_wp2
      go_ret
      exact ⟨rfl, Below.refl _ _⟩

end Go.Proofs.YtpmlmibceiolpaaGreatDoor.D4

/- The contract of croupierref01.read. -/
set_option linter.unusedSimpArgs false
set_option linter.unusedVariables false
namespace Go.Proofs.YtpmlmibceiolpaaGreatDoor.D4
open Go.RowKit
open Go.Lib (decDigits itoa nDigits)

theorem rd_snoc {l : List UInt8} {c : UInt8} : rd 0 (l ++ [c]) = rd 0 l * 10 + (c.toNat - 48) := by
  rw [rd_append, rd_cons, rd_nil]; simp

theorem rd_piece {ds : List UInt8} {a i : Nat} (ha : a ≤ i) (hi : i < ds.length) : rd 0 ((ds.take (i + 1)).drop a) = rd 0 ((ds.take i).drop a) * 10 + ((ds.getD i 0).toNat - 48) := by
  rw [List.take_succ_eq_append_getElem hi, List.drop_append_of_le_length (by simp; omega), rd_snoc]
  simp [List.getD, List.getElem?_eq_getElem hi]

theorem rd_none {ds : List UInt8} {a : Nat} : rd 0 ((ds.take a).drop a) = 0 := by
  rw [List.drop_eq_nil_of_le (by simp; omega)]; rfl

theorem rd_small {ds : List UInt8} (hd : Dig ds) {a i : Nat} (h : i ≤ a + 4) : rd 0 ((ds.take i).drop a) < 10000 := by
  have h1 := rd_lt ((hd.take i).drop a)
  have h2 : 10 ^ ((ds.take i).drop a).length ≤ 10 ^ 4 := Nat.pow_le_pow_right (by omega) (by simp; omega)
  omega

set_option maxHeartbeats 2000000 in
set_option maxRecDepth 100000 in
theorem read_any {w : World} (n : Int) (hlen : nDigits n.natAbs ≤ 1000000) : Calls Tryz.prog 85 #[.string ⟨(itoa n).toArray⟩] w (RetI w n.natAbs) := by
  obtain ⟨i0, hi, hz0, hz1, hz2⟩ := info_parts info64
  obtain ⟨c, r, e1, e2, e3, e4⟩ := itoa_head n
  have hrd := rd_decDigits n.natAbs
  have hdg := decDigits_dig n.natAbs
  have hdl := Lib.decDigits_length n.natAbs
  obtain ⟨ds, hds⟩ : ∃ ds, decDigits n.natAbs = ds := ⟨_, rfl⟩
  rw [hds] at hrd hdg hdl e3 e4
  rw [e1]
  have hsz : 0 < (⟨(c :: r).toArray⟩ : ByteArray).size := by rw [ba_size]; simp
  have hz : ∀ h : 0 < (⟨(c :: r).toArray⟩ : ByteArray).size, ((((⟨(c :: r).toArray⟩ : ByteArray)[0]'h).toNat : Int) == 45) = decide (c = 45) := by
    intro h
    have h1 : ((⟨(c :: r).toArray⟩ : ByteArray)[0]'h) = c := rfl
    rw [h1, Bool.eq_iff_iff, beq_iff_eq, decide_eq_true_eq]
    constructor
    · intro e; exact UInt8.toNat_inj.1 (show c.toNat = (45 : UInt8).toNat by have : (45 : UInt8).toNat = 45 := rfl; omega)
    · intro e; subst e; rfl
  have hex : (⟨(c :: r).toArray⟩ : ByteArray).extract 1 (⟨(c :: r).toArray⟩ : ByteArray).size = ⟨r.toArray⟩ := by
    rw [extract_list, ba_size]; simp
  obtain ⟨T, hT⟩ : ∃ T : ByteArray, T = ⟨ds.toArray⟩ := ⟨_, rfl⟩
  have hTs : T.size = ds.length := by rw [hT, ba_size]
  have hTc : ∀ i (h : i < T.size), (T[i]'h).toNat = (ds.getD i 0).toNat := by
    intro i h
    subst hT
    have h2 : i < ds.length := by rw [ba_size] at h; exact h
    have : (⟨ds.toArray⟩ : ByteArray)[i]'h = ds[i] := by
      show ds.toArray[i] = ds[i]
      simp
    rw [this]; simp [List.getD, List.getElem?_eq_getElem h2]
  rw [← hrd]
  have HTC := Lib.hid hTc
  have HDG := Lib.hid hdg
  obtain ⟨L, hL⟩ : ∃ L, L = ds.length := ⟨_, rfl⟩
  rw [← hL] at hTs hdl
  rw [← hdl] at hlen
  have HL := Lib.hid hL
  clear hTc hdg hL hdl hrd hds e1
  by_cases hc : c = 45
  case' pos =>
    have hr := e3 hc
    replace hex := hex.trans (show (⟨r.toArray⟩ : ByteArray) = T by rw [hr, hT])
    have hcb : decide (c = 45) = true := by simpa using hc
    rw [hcb] at hz
  case' neg =>
    have hr := e4 hc
    rw [hr, ← hT] at hz hsz ⊢
    have hcb : decide (c = 45) = false := by simpa using hc
    rw [hcb] at hz
    clear hex
  all_goals
    clear hr hT e2 e3 e4 hc hcb
    try generalize (⟨(c :: r).toArray⟩ : ByteArray) = S at *
    go_enter Tryz.func85, Tryz.ntmps85
    go_upto_region 3 with fail
    try rw [hex]
    try clear hex
    clear hz
    go_wp2
    go_loopw [3, 4] (fun u3 u4 wr => ∃ (e : Int) (xs : List Nat), u4 = .int .i64 e ∧ e ≤ 1000000 ∧ -4 ≤ e ∧ Hid (e = L - 4 * xs.length) ∧ Hid (val xs = rd 0 (ds.drop e.toNat)) ∧ Hid (Ok xs) ∧ Hid (Row wr w.heap.size u3 xs) ∧ Hid (Below w.heap.size w wr)) (fun _ u4 _ => (intOf u4).toNat)
    case atStart => exact ⟨L, [], rfl, by omega, by omega, Lib.hid (by simp), Lib.hid (by rw [Int.toNat_natCast, HL.out, List.drop_length]; rfl), Lib.hid Ok.nil, Lib.hid (Row.nil _ _), Lib.hid (Below.refl _ _)⟩
    case round =>
      obtain ⟨e, xs, rfl, he1, he2, hE, hV, hO, hR, hB⟩ := hrel
      by_cases h0 : 0 < e
      · obtain ⟨m, rfl⟩ : ∃ m : Nat, e = (m : Int) := ⟨e.toNat, by omega⟩
        have hm0 : 0 < m := by omega
        have hmL : m ≤ L := by have := hE.out; omega
        have hmax : max (0 : Int) ((m : Int) - 4) = ((m - 4 : Nat) : Int) := by omega
        have hrc := rd_chunk (xs := xs) HDG.out hm0 (by rw [← HL.out]; exact hmL) (by have := hE.out; rw [← HL.out]; omega) (by have := hV.out; rwa [Int.toNat_natCast] at this) hO.out
        have HRC := Lib.hid hrc
        obtain ⟨a, hva⟩ : ∃ a : Nat, a = m - 4 := ⟨_, rfl⟩
        rw [← hva] at hmax
        have HA := Lib.hid hva
        have ha1 : a ≤ m := by omega
        have ha2 : m ≤ a + 4 := by omega
        obtain ⟨av, cv, rfl⟩ := hR.out.len
        have hxl : xs.length ≤ 1000000 := by have := hE.out; omega
        generalize hk : xs.length = k at hxl hR hE
        have HKL := Lib.hid hk
        clear hk hrc hva
        go_wp2
        go_loop [5, 6] (fun u5 u6 => ∃ i : Nat, a ≤ i ∧ i ≤ m ∧ u6 = .int .i64 i ∧ u5 = .int .i64 (rd 0 ((ds.take i).drop a) : Nat)) (fun _ u6 => m - (intOf u6).toNat)
        case atStart => exact ⟨a, Nat.le_refl _, ha1, rfl, by rw [rd_none]; rfl⟩
        case round =>
          obtain ⟨i, hia, him, rfl, rfl⟩ := hrel
          by_cases hlt : i < m
          · have hpc := Lib.hid (rd_piece (ds := ds) hia (by rw [← HL.out]; omega))
            have hsm := rd_small HDG.out (a := a) (i := i) (by omega)
            have hiT : i < T.size := by omega
            have hx1 := HTC.out i hiT
            have hx2 := HDG.out ((ds.getD i 0)) (by simp [List.getD, List.getElem?_eq_getElem (show i < ds.length by rw [← HL.out]; omega)])
            have hb1 : 48 ≤ (T[i]'hiT).toNat := by omega
            have hb2 : (T[i]'hiT).toNat ≤ 57 := by omega
            have HX := Lib.hid hx1
            have hilt : ((i : Int) < m) := by omega
            generalize hp : rd 0 ((ds.take i).drop a) = p at *
            clear hx1 hx2 hp
            go_wp2
            go_round
            case rel => exact ⟨i + 1, by omega, by omega, by go_num, by rw [hpc.out]; congr 1; have := HX.out; omega⟩
            case measure => simp [intOf]; omega
          · obtain rfl : i = m := by omega
            have hown : wr.ownsRow w.heap.size 3 1 (.slice av k cv) k (xs.map fun (x : Nat) => Value.int .i64 x) := by have h := hR.out; unfold Row at h; rwa [HKL.out] at h
            have HOWN := Lib.hid hown
            clear hown
            rw [← HA.out] at HRC
            generalize rd 0 ((ds.take i).drop a) = y at *
            go_wp2_with (at_builtin; refine wpList_append_own _ rfl (.tmp 34) (.tmp 36) 93 rfl w.heap.size 3 i0 (.int .i64 0) 1 8 Tryz.underlying93 hi hz0 hz1 hz2 rfl (by decide) (.slice av k cv) k _ rfl (HOWN.out.alloc _) ⟨wr.heap.size, 0, none⟩ 1 1 [.int .i64 (y : Int)] rfl rfl (cell_new_int _ _ _) (by intro u hu; simp at hu; subst hu; rfl) (by unfold maxLen; omega) (by omega) (by have := hB.out.size; simp; omega) ?_; intro v' w2 hown1 hgrow1 hnil1)
            go_roundw
            case rel =>
              have hr1 : Row w2 w.heap.size v' (xs ++ [y]) := Row.snoc (by rw [HKL.out]; exact hown1) rfl
              exact ⟨(i : Int) - 4, xs ++ [y], rfl, by omega, by omega, Lib.hid (by have := hE.out; have := HKL.out; simp; omega), Lib.hid (by rw [HRC.out.1, show ((i : Int) - 4).toNat = a by have := HA.out; omega]), Lib.hid HRC.out.2.2, Lib.hid hr1, Lib.hid ((hB.out.alloc hB.out.size _).grown hgrow1 (by have := hB.out.size; simp; omega) (fun q hq => (World.ownsRow.lt HOWN.out q hq).1))⟩
            case measure => simp [intOf]; omega
      · have hvv : val xs = rd 0 ds := by
          have := hV.out
          rw [show e.toNat = 0 by omega, List.drop_zero] at this
          exact this
        have HC := Lib.hid (cut_any hR.out.lim hO.out)
        have HVV := Lib.hid hvv
        clear hvv
        go_wp2_with (go_at_call 125; refine HC.out.mono ?_; rintro e w1 ⟨r, rfl, hr, hab, hb1⟩)
        go_ret
        rw [← HVV.out]
        exact ⟨_, rfl, hr, hab _ (Above.row hR.out), next_below hB.out hb1⟩

end Go.Proofs.YtpmlmibceiolpaaGreatDoor.D4
