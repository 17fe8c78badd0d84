/- RatioOne: a draft of an integer that comes in by value, whole.Gcd and whole.Mul at integers, the walk. -/
import Derived.Test.YtabdnjakmhnnfaaGreatDoorQOpen
import Derived.Test.YtabdnjakmhnnfaaGreatDoorQField
import Derived.Test.YtabdnjakmhnnfaaGreatDoorQWhole2
import Derived.Test.YtabdnjakmhnnfaaGreatDoorQParts
set_option linter.unusedSimpArgs false
set_option linter.unusedVariables false
namespace Go.Proofs.YtabdnjakmhnnfaaGreatDoor
open Go.ChangeShapes Go.WideShapes Go.RowKit Go.Joins Go.Deep
open Go.Lib (decDigits itoa nDigits)
open D4 (rt it)

/-- What an integer draft's argument is. -/
def Draft1At (w : World) (v : Value) : Prop := ∃ (neg : Bool) (a : Option Addr) (k c : Nat) (zs : List Nat) (t : Nat), v = .agg #[.bool neg, .slice a k c, .int .u8 t] ∧ t < 256 ∧ (∀ z ∈ zs, z < 256) ∧ U8s w (.slice a k c) zs
/-- What Text answers. -/
theorem Draft1At.text {w : World} {v : Value} (h : Draft1At w v) : ∃ (neg : Bool) (a : Option Addr) (k c : Nat) (t : Int) (m : Int), v = .agg #[.bool neg, .slice a k c, .int .u8 t] ∧ nDigits m.natAbs ≤ 240 ∧
    ∀ V : World, Below w.heap.size w V → Calls Tryz.prog 44 #[.agg #[.bool neg, .slice a k c, .int .u8 t]] V (RetV V (.string (it m))) := by
  obtain ⟨neg, a, k, c, zs, t, rfl, h1, h2, h3⟩ := h
  have l1 : (dsOf zs).length ≤ 30 := by rw [dsOf_len]; omega
  exact ⟨neg, a, k, c, t, _, rfl, draftN_digits (neg := neg) (t := t) (dsOf_lt zs) l1, fun V hV => dtext_any neg _ zs t h1 h2 (h3.below hV)⟩
theorem Blk.at3 {w : World} {g : Nat} {t : TypeId} {u0 u1 u2 : Value} (h : Blk w g t #[u0, u1, u2]) : w.cell? ⟨g, 0, none⟩ = some u0 ∧ w.cell? ⟨g, 1, none⟩ = some u1 ∧ w.cell? ⟨g, 2, none⟩ = some u2 :=
  ⟨by simpa using h.cell 0, by simpa using h.cell 1, by simpa using h.cell 2⟩
section
variable {H : Type} {enc : TypeId × Value → H} {W : World}
set_option maxRecDepth 100000 in
theorem open_draft1 {r : Reach} {b0 : Nat} {v : Value} {d : DataW H} {p : List MemPlace} (hv : Value.okWide Tryz.prog W r b0 42 v) (h : DataW.Trod enc Tryz.prog W 0 (fun _ => true) true 42 v d p) : Draft1At W v := by
  obtain ⟨cs, rfl, hsz⟩ := okWide_struct Tryz.underlying42 hv
  obtain ⟨fuel, hf⟩ := h
  have hcs : (Value.cells (.agg cs)).toList = cs.toList := by simp [Value.cells]
  rw [hcs] at hf
  obtain ⟨n1, a1, k1, c1, zs1, t1, e1, q1, q2, q3⟩ := open_d1 hf
  refine ⟨n1, a1, k1, c1, zs1, t1, ?_, q1, q2, q3⟩
  congr 1
  apply Array.ext'
  rw [e1]
end


theorem wop_it {m n z : Int} (hm : nDigits m.natAbs ≤ 2000) (hn : nDigits n.natAbs ≤ 2000) (hz : nDigits z.natAbs ≤ 2000) : wopE z (itoa m) (itoa n) = 0 ∧ wopT z (itoa m) (itoa n) = itoa z := by
  have e1 : wcheck (itoa m) = 0 := by rw [wcheck_itoa, if_neg (by omega)]
  have e2 : wcheck (itoa n) = 0 := by rw [wcheck_itoa, if_neg (by omega)]
  have e : wopE z (itoa m) (itoa n) = 0 := by
    unfold wopE werr werr werr
    rw [if_pos e1, if_pos e2, if_pos rfl, if_pos hz]
  exact ⟨e, by unfold wopT; rw [if_pos e]⟩
theorem wmul_it {w : World} {m n : Int} (hm : nDigits m.natAbs ≤ 2000) (hn : nDigits n.natAbs ≤ 2000) (hz : nDigits (m * n).natAbs ≤ 2000) (hg : Good w) : Calls Tryz.prog 54 #[.string (it m), .string (it n)] w (RetV w (.tuple #[.string (it (m * n)), .int .i64 0])) := by
  have h := wmul_any (w := w) (la := itoa m) (lb := itoa n) (it_len hm) (it_len hn) hg
  rw [sread_itoa, sread_itoa, (wop_it hm hn hz).1, (wop_it hm hn hz).2] at h
  exact h
theorem wgcd_it {w : World} {m n : Int} (hm : nDigits m.natAbs ≤ 2000) (hn : nDigits n.natAbs ≤ 2000) (h1 : Nat.gcd m.natAbs n.natAbs = 1) (hg : Good w) : Calls Tryz.prog 53 #[.string (it m), .string (it n)] w (RetV w (.tuple #[.string ⟨#[49]⟩, .int .i64 0])) := by
  have h := wgcd_any (w := w) (la := itoa m) (lb := itoa n) (it_len hm) (it_len hn) hg
  have hz : nDigits ((Nat.gcd m.natAbs n.natAbs : Nat) : Int).natAbs ≤ 2000 := by rw [h1]; decide +kernel
  rw [sread_itoa, sread_itoa, (wop_it hm hn hz).1, (wop_it hm hn hz).2, h1] at h
  have e : (⟨(itoa ((1 : Nat) : Int)).toArray⟩ : ByteArray) = ⟨#[49]⟩ := by decide +kernel
  rw [e] at h
  exact h
theorem make_zero {w : World} (hg : Good w) : Calls Tryz.prog 21 #[.string (it 0), .string (it 0)] w (RetV w (.tuple #[.string ⟨#[]⟩, .int .i64 2])) := by
  have h := rmake_full (w := w) (itoa 0) (itoa 0) (by decide +kernel) (by decide +kernel) hg
  have e : makE (itoa 0) (itoa 0) = 2 := by decide +kernel
  have eT : makT (itoa 0) (itoa 0) = ⟨#[]⟩ := by unfold makT; rw [e]; rfl
  rw [e, eT] at h
  exact h
theorem self_make (x : Rat) : Rat.divInt x.num (x.den : Int) = x := by rw [Rat.num_divInt_den]
theorem times_make (x : Rat) {k : Int} (hk : k ≠ 0) : Rat.divInt (x.num * k) ((x.den : Int) * k) = x := by rw [Rat.divInt_mul_right hk, self_make]
theorem it_nopre (n : Nat) : Lib.hasPrefix (it (n : Int)).data.toList (⟨#[45]⟩ : ByteArray).data.toList = false := by
  show Lib.hasPrefix (itoa (n : Int)) [45] = false
  rw [itoa_sgnd, hasPrefix_sgnd (decDigits_dig _)]
  simp
theorem it_zero_dec (m : Int) : ((it m).toList == [48]) = decide (m = 0) := it_zero_iff m

set_option maxHeartbeats 32000000 in
set_option maxRecDepth 100000 in
theorem one_walk {w : World} (x : Rat) (k : Int) (n1x n2x : Bool) (a1x a2x : Option Addr) (k1x c1x k2x c2x : Nat) (t1x t2x : Int) (n1y : Bool) (a1y : Option Addr) (k1y c1y : Nat) (t1y : Int) (fx : fitsD 240 x) (fk : nDigits k.natAbs ≤ 240)
    (hx : ∀ V : World, Below w.heap.size w V → Good V → Calls Tryz.prog 36 #[.agg #[.bool n1x, .slice a1x k1x c1x, .int .u8 t1x, .bool n2x, .slice a2x k2x c2x, .int .u8 t2x]] V (RetV V (.string (rt x))))
    (hy : ∀ V : World, Below w.heap.size w V → Calls Tryz.prog 44 #[.agg #[.bool n1y, .slice a1y k1y c1y, .int .u8 t1y]] V (RetV V (.string (it k)))) (hg : Good w) :
    Calls Tryz.prog 10 #[.agg #[.bool n1x, .slice a1x k1x c1x, .int .u8 t1x, .bool n2x, .slice a2x k2x c2x, .int .u8 t2x], .agg #[.bool n1y, .slice a1y k1y c1y, .int .u8 t1y]] w (RetV w (.bool true)) := by
  obtain ⟨W, hW, hB, hsz, jx, jy⟩ := entB w 44 42 #[.bool n1x, .slice a1x k1x c1x, .int .u8 t1x, .bool n2x, .slice a2x k2x c2x, .int .u8 t2x] #[.bool n1y, .slice a1y k1y c1y, .int .u8 t1y]
  have HW := Lib.hid hW
  have JX := Lib.hid jx
  have JY := Lib.hid jy
  have HB := Lib.hid hB
  have HG := Lib.hid (fun (V : World) (hV : Below W.heap.size W V) => (hg.below hB).below hV)
  have H1 := Lib.hid (fun (V : World) (hV : Good V) => works_any hV)
  have HX := Lib.hid (fun (V : World) (hV : Below W.heap.size W V) => hx V (hB.trans (hV.mono hB.size)) ((hg.below hB).below hV))
  have HY := Lib.hid (fun (V : World) (hV : Below W.heap.size W V) => hy V (hB.trans (hV.mono hB.size)))
  have f2 := fits_up (k := 2000) fx (by omega)
  have dd := D4.den_fit x fx
  have d1 : nDigits (x.num * k).natAbs ≤ 2000 := Nat.le_trans (D4.nDigits_imul fx.1 fk) (by omega)
  have d2 : nDigits ((x.den : Int) * k).natAbs ≤ 2000 := Nat.le_trans (D4.nDigits_imul dd fk) (by omega)
  have HPA := Lib.hid (fun (V : World) (hV : Good V) => rparts_rt (w := V) f2 hV)
  have hch := fun (V : World) (hV : Good V) => rcheck_any (w := V) (ratText x) (text_len f2) hV
  rw [rerr_fit f2] at hch
  have HCH := Lib.hid (show ∀ V : World, Good V → Calls Tryz.prog 14 #[.string (rt x)] V (RetV V (.int .i64 0)) from hch)
  have hmk := fun (V : World) (hV : Good V) => rmk_any (w := V) (n := x.num) (d := (x.den : Int)) (Nat.le_trans fx.1 (by omega)) (Nat.le_trans dd (by omega)) (den_ne x) hV
  rw [self_make] at hmk
  have HMK := Lib.hid hmk
  have HGC := Lib.hid (fun (V : World) (hV : Good V) => wgcd_it (w := V) (m := x.num) (n := (x.den : Int)) (Nat.le_trans fx.1 (by omega)) (Nat.le_trans dd (by omega)) (by rw [Int.natAbs_natCast]; exact x.reduced) hV)
  have HM1 := Lib.hid (fun (V : World) (hV : Good V) => wmul_it (w := V) (m := x.num) (n := k) (Nat.le_trans fx.1 (by omega)) (Nat.le_trans fk (by omega)) d1 hV)
  have HM2 := Lib.hid (fun (V : World) (hV : Good V) => wmul_it (w := V) (m := (x.den : Int)) (n := k) (Nat.le_trans dd (by omega)) (Nat.le_trans fk (by omega)) d2 hV)
  have hpre := fun (V : World) => Tryz.strings_HasPrefix (it (x.den : Int)) ⟨#[45]⟩ V
  have hnp : Lib.hasPrefix (it (x.den : Int)).data.toList [45] = false := it_nopre x.den
  have HPRE := Lib.hid hpre
  have hdz : ((it (x.den : Int)).toList == [48]) = false := by rw [it_zero_dec]; exact decide_eq_false (den_ne x)
  have hkz := it_zero_dec k
  have HLAST : Hid ((decide (k = 0) = true ∧ ∀ V : World, Good V → Calls Tryz.prog 21 #[.string (it (x.num * k)), .string (it ((x.den : Int) * k))] V (RetV V (.tuple #[.string ⟨#[]⟩, .int .i64 2]))) ∨
      (decide (k = 0) = false ∧ ∀ V : World, Good V → Calls Tryz.prog 21 #[.string (it (x.num * k)), .string (it ((x.den : Int) * k))] V (RetV V (.tuple #[.string (rt x), .int .i64 0])))) := Lib.hid (by
    by_cases hk : k = 0
    · refine .inl ⟨decide_eq_true hk, fun V hV => ?_⟩
      rw [hk, Int.mul_zero, Int.mul_zero]; exact make_zero hV
    · refine .inr ⟨decide_eq_false hk, fun V hV => ?_⟩
      have h := rmk_any (w := V) (n := x.num * k) (d := (x.den : Int) * k) d1 d2 (Int.mul_ne_zero (den_ne x) hk) hV
      rw [times_make x hk] at h
      exact h)
  generalize decide (k = 0) = kz at *
  generalize it (x.num * k) = NK at *
  generalize it ((x.den : Int) * k) = DK at *
  generalize it x.num = NT at *
  generalize it (x.den : Int) = DT at *
  generalize it k = KT at *
  generalize rt x = RX at *
  clear hW hB jx jy hx hy hg fx fk f2 dd d1 d2 hch hmk hpre hsz
  go_enter Tryz.func10, Tryz.ntmps10
  go_upto_region 1 with fail
  rw [← HW.out]
  clear HW
  go_upto_region 3 with (go_at_call 12; refine (H1.out _ (HG.out _ (Below.refl _ _))).mono ?_; rintro e V ⟨rfl, kk⟩)
  have K1 := Lib.hid kk
  have JX1 := Lib.hid (JX.out.next kk)
  have JY1 := Lib.hid (JY.out.next kk)
  clear kk
  have hB0 : Below V.heap.size V V.drew := (Below.refl _ _).drew
  refine wp_region_list 4 (by kernel_rfl) (by kernel_rfl) [] [fun v _ => v = .agg #[.bool n1x, .slice a1x k1x c1x, .int .u8 t1x, .bool n2x, .slice a2x k2x c2x, .int .u8 t2x], fun v _ => v = .string RX, fun v _ => v = .agg #[.bool n1y, .slice a1y k1y c1y, .int .u8 t1y], fun v _ => v = .string KT] (by simp only [List.take_succ_cons, List.take_zero]; rfl) (by simp only [List.drop_succ_cons, List.drop_zero]; rfl) (fun vals => by simp only [fam, Act.put, List.setIfInBounds_toArray, List.set_cons_zero, List.set_cons_succ, if_true]; rfl) (by repeat' (first | exact Stab.eq _ _ | exact Stab.wh _ _ | exact Stab.nm _ _ | exact Stab.new _ _ | exact Stab.newn _ _ | exact Stab.tw _ _ _ | exact Stab.lm _ _ _ | exact Stab.onet _ _ _ | exact trivial | apply And.intro)) trivial ?_ ?_
  · refine ⟨?_, ?_, ?_, ?_, trivial⟩
    all_goals
      intro vals w1 hB1 hp
      dsimp only
      (try simp [preOk, Region.binds, D4.anygc, D4.anytext] at hp)
      have hb := next_below hB0 hB1
      have kb := next_below K1.out hb
      clear hB1
    case refine_1 =>
      obtain ⟨y0, y1, y2, y3, y4, y5⟩ := (JX1.out.next hb).at6
      go_wp2
      (first | exact ⟨rfl, _, rfl, rfl, Below.refl _ _, trivial⟩ | (refine ⟨rfl, _, ?_, rfl, Below.refl _ _, trivial⟩; simp only [Act.put, List.setIfInBounds_toArray, List.set_cons_zero, List.set_cons_succ, hp]))
    case refine_2 =>
      have a0 : vals 0 = .agg #[.bool n1x, .slice a1x k1x c1x, .int .u8 t1x, .bool n2x, .slice a2x k2x c2x, .int .u8 t2x] := by first | exact hp.1 | exact hp
      clear hp
      generalize vals 0 = z0 at *
      subst a0
      go_wp2_with (go_at_call 36; refine (HX.out _ kb).mono ?_; rintro e w5 ⟨rfl, hb5⟩)
      exact ⟨rfl, _, rfl, rfl, hb5, trivial⟩
    case refine_3 =>
      obtain ⟨y0, y1, y2⟩ := (JY1.out.next hb).at3
      go_wp2
      (first | exact ⟨rfl, _, rfl, rfl, Below.refl _ _, trivial⟩ | (refine ⟨rfl, _, ?_, rfl, Below.refl _ _, trivial⟩; simp only [Act.put, List.setIfInBounds_toArray, List.set_cons_zero, List.set_cons_succ, hp]))
    case refine_4 =>
      have a0 : vals 2 = .agg #[.bool n1y, .slice a1y k1y c1y, .int .u8 t1y] := by first | exact hp.1 | exact hp
      clear hp
      generalize vals 2 = z2 at *
      subst a0
      go_wp2_with (go_at_call 44; refine (HY.out _ kb).mono ?_; rintro e w5 ⟨rfl, hb5⟩)
      exact ⟨rfl, _, rfl, rfl, hb5, trivial⟩
  · rintro vals w1 hB1 ⟨z0, z1, z2, z3, _⟩ hne
    have hG := Lib.hid (next_below K1.out (next_below hB0 hB1))
    have y1 := z1
    have y3 := z3
    (try dsimp only at y1 y3)
    generalize vals 1 = v1 at *
    subst y1
    generalize vals 3 = v3 at *
    subst y3
    clear hne z0 z1 z2 z3 hB1 hB0 K1 JX JY JX1 JY1 HX HY H1
    go_wp2_with fail
    refine (HPA.out _ (HG.out _ hG.out)).mono ?_; rintro e wn ⟨rfl, hb⟩; replace hG := Lib.hid (next_below hG.out hb); clear hb
    go_wp2_with fail
    refine (HCH.out _ (HG.out _ hG.out)).mono ?_; rintro e wn ⟨rfl, hb⟩; replace hG := Lib.hid (next_below hG.out hb); clear hb
    go_wp2_with fail
    refine (is_any _).mono ?_; rintro e wn ⟨gz, rfl, hz, hb⟩; replace hG := Lib.hid (next_below hG.out hb); clear hb; replace hz := Lib.hid hz
    go_wp2_with fail
    refine (HMK.out _ (HG.out _ hG.out)).mono ?_; rintro e wn ⟨rfl, hb⟩; replace hG := Lib.hid (next_below hG.out hb); replace hz := Lib.hid (hz.out.next hb); clear hb
    go_wp2_with fail
    refine (is_true hz.out).mono ?_; rintro e wn ⟨rfl, hb⟩; replace hG := Lib.hid (next_below hG.out hb); clear hb hz
    go_wp2_with fail
    refine (HGC.out _ (HG.out _ hG.out)).mono ?_; rintro e wn ⟨rfl, hb⟩; replace hG := Lib.hid (next_below hG.out hb); clear hb
    go_wp2_with fail
    refine (HM1.out _ (HG.out _ hG.out)).mono ?_; rintro e wn ⟨rfl, hb⟩; replace hG := Lib.hid (next_below hG.out hb); clear hb
    go_wp2_with fail
    refine (HM2.out _ (HG.out _ hG.out)).mono ?_; rintro e wn ⟨rfl, hb⟩; replace hG := Lib.hid (next_below hG.out hb); clear hb
    go_wp2_with fail
    refine (HPRE.out _).mono ?_; rintro e wn ⟨rfl, rfl⟩
    rcases HLAST.out with ⟨rfl, HL⟩ | ⟨rfl, HL⟩
    · replace HL := Lib.hid HL
      clear HLAST HPA HCH HMK HGC HM1 HM2 HPRE
      go_wp2_with fail
      refine (fails_any _).mono ?_; rintro e wn ⟨gz, rfl, hz, hb⟩; replace hG := Lib.hid (next_below hG.out hb); clear hb; replace hz := Lib.hid hz
      go_wp2_with fail
      refine (HL.out _ (HG.out _ hG.out)).mono ?_; rintro e wn ⟨rfl, hb⟩; replace hG := Lib.hid (next_below hG.out hb); replace hz := Lib.hid (hz.out.next hb); clear hb
      go_wp2_with fail
      refine (fails_true hz.out).mono ?_; rintro e wn ⟨rfl, hb⟩; replace hG := Lib.hid (next_below hG.out hb); clear hb hz
      go_wp2
      go_ret
      exact ⟨rfl, HB.out.trans (hG.out.mono HB.out.size)⟩
    · replace HL := Lib.hid HL
      clear HLAST HPA HCH HMK HGC HM1 HM2 HPRE
      go_wp2_with fail
      refine (is_any _).mono ?_; rintro e wn ⟨gz, rfl, hz, hb⟩; replace hG := Lib.hid (next_below hG.out hb); clear hb; replace hz := Lib.hid hz
      go_wp2_with fail
      refine (HL.out _ (HG.out _ hG.out)).mono ?_; rintro e wn ⟨rfl, hb⟩; replace hG := Lib.hid (next_below hG.out hb); replace hz := Lib.hid (hz.out.next hb); clear hb
      go_wp2_with fail
      refine (is_true hz.out).mono ?_; rintro e wn ⟨rfl, hb⟩; replace hG := Lib.hid (next_below hG.out hb); clear hb hz
      go_wp2
      go_ret
      exact ⟨rfl, HB.out.trans (hG.out.mono HB.out.size)⟩
theorem one_law {w : World} {v1 v2 : Value} (h1 : DraftAt w v1) (h2 : Draft1At w v2) (hg : Good w) : Calls Tryz.prog 10 #[v1, v2] w (RetV w (.bool true)) := by
  obtain ⟨n1x, n2x, a1x, a2x, k1x, c1x, k2x, c2x, t1x, t2x, x, rfl, fx, hx⟩ := h1.q
  obtain ⟨n1y, a1y, k1y, c1y, t1y, my, rfl, fy, hy⟩ := h2.text
  exact one_walk x my _ _ _ _ _ _ _ _ _ _ _ _ _ _ _ fx fy hx hy hg
end Go.Proofs.YtabdnjakmhnnfaaGreatDoor
