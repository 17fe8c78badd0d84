/- RatioMakes: a draft of an integer that comes in by value, the parts, the walk. -/
import Derived.Test.YtabdnjakmhnnfaaGreatDoorQSums
import Derived.Test.YtabdnjakmhnnfaaGreatDoorQRefs
import Derived.Deep.QuietTactic
import Derived.BigQuiet
import Derived.WalkSmall
set_option linter.unusedSimpArgs false
set_option linter.unusedVariables false
namespace Go.Proofs.YtabdnjakmhnnfaaGreatDoor
open Go.ChangeShapes Go.WideShapes Go.RowKit Go.Joins Go.Deep
open Go.Lib (decDigits itoa nDigits)
open D4 (rt it Mid)

/-- What an integer draft's argument is. -/
def Draft1At (w : World) (v : Value) : Prop := ∃ (neg : Bool) (a : Option Addr) (k c : Nat) (zs : List Nat) (t : Nat), v = .agg #[.bool neg, .slice a k c, .int .u8 t] ∧ t < 256 ∧ (∀ z ∈ zs, z < 256) ∧ U8s w (.slice a k c) zs
/-- What Text answers. -/
theorem Draft1At.text {w : World} {v : Value} (h : Draft1At w v) : ∃ (neg : Bool) (a : Option Addr) (k c : Nat) (t : Int) (m : Int), v = .agg #[.bool neg, .slice a k c, .int .u8 t] ∧ nDigits m.natAbs ≤ 240 ∧
    ∀ V : World, Below w.heap.size w V → Calls Tryz.prog 44 #[.agg #[.bool neg, .slice a k c, .int .u8 t]] V (RetV V (.string (it m))) := by
  obtain ⟨neg, a, k, c, zs, t, rfl, h1, h2, h3⟩ := h
  have l1 : (dsOf zs).length ≤ 30 := by rw [dsOf_len]; omega
  exact ⟨neg, a, k, c, t, _, rfl, draftN_digits (neg := neg) (t := t) (dsOf_lt zs) l1, fun V hV => dtext_any neg _ zs t h1 h2 (h3.below hV)⟩
theorem Blk.at3 {w : World} {g : Nat} {t : TypeId} {u0 u1 u2 : Value} (h : Blk w g t #[u0, u1, u2]) : w.cell? ⟨g, 0, none⟩ = some u0 ∧ w.cell? ⟨g, 1, none⟩ = some u1 ∧ w.cell? ⟨g, 2, none⟩ = some u2 :=
  ⟨by simpa using h.cell 0, by simpa using h.cell 1, by simpa using h.cell 2⟩
section
variable {H : Type} {enc : TypeId × Value → H} {W : World}
set_option maxRecDepth 100000 in
theorem open_draft1 {r : Reach} {b0 : Nat} {v : Value} {d : DataW H} {p : List MemPlace} (hv : Value.okWide Tryz.prog W r b0 42 v) (h : DataW.Trod enc Tryz.prog W 0 (fun _ => true) true 42 v d p) : Draft1At W v := by
  obtain ⟨cs, rfl, hsz⟩ := okWide_struct Tryz.underlying42 hv
  obtain ⟨fuel, hf⟩ := h
  have hcs : (Value.cells (.agg cs)).toList = cs.toList := by simp [Value.cells]
  rw [hcs] at hf
  obtain ⟨n1, a1, k1, c1, zs1, t1, e1, q1, q2, q3⟩ := open_d1 hf
  refine ⟨n1, a1, k1, c1, zs1, t1, ?_, q1, q2, q3⟩
  congr 1
  apply Array.ext'
  rw [e1]
end

theorem jxa (A B C D E F G H : ByteArray) (X : World) : (Instr.index 67 (.agg #[.string A, .string B, .string C, .string D, .string E, .string F, .string G, .string H]) (.int .i64 0)).run Tryz.prog X = .ok (.agg #[.string A, .string B]) X := by kernel_rfl
theorem jxb (A B C D E F G H : ByteArray) (X : World) : (Instr.index 67 (.agg #[.string A, .string B, .string C, .string D, .string E, .string F, .string G, .string H]) (.int .i64 1)).run Tryz.prog X = .ok (.agg #[.string C, .string D]) X := by kernel_rfl
theorem jxc (A B C D E F G H : ByteArray) (X : World) : (Instr.index 67 (.agg #[.string A, .string B, .string C, .string D, .string E, .string F, .string G, .string H]) (.int .i64 2)).run Tryz.prog X = .ok (.agg #[.string E, .string F]) X := by kernel_rfl
theorem jxd (A B C D E F G H : ByteArray) (X : World) : (Instr.index 67 (.agg #[.string A, .string B, .string C, .string D, .string E, .string F, .string G, .string H]) (.int .i64 3)).run Tryz.prog X = .ok (.agg #[.string G, .string H]) X := by kernel_rfl
theorem jxi0 (a b : Int) (X : World) : (Instr.index 61 (.agg #[.int .i64 a, .int .i64 b]) (.int .i64 0)).run Tryz.prog X = .ok (.int .i64 a) X := by kernel_rfl
theorem jxi1 (a b : Int) (X : World) : (Instr.index 61 (.agg #[.int .i64 a, .int .i64 b]) (.int .i64 1)).run Tryz.prog X = .ok (.int .i64 b) X := by kernel_rfl
theorem canon_it {l : List UInt8} (h : wcheck l = 0) : (⟨l.toArray⟩ : ByteArray) = it (sread l) := by
  have hl := wcheck_canon (l := l) (by omega)
  conv => lhs; rw [hl]
  rfl
theorem wcheck_digits {l : List UInt8} (h : wcheck l = 0) : nDigits (sread l).natAbs ≤ 2000 := by
  have hl := wcheck_canon (l := l) (by omega)
  rw [hl, wcheck_itoa] at h
  by_cases hd : 2000 < nDigits (sread l).natAbs
  · rw [if_pos hd] at h; exact absurd h (by decide)
  · omega

/-- What the fraction of two texts is. -/
theorem pair_makes (l0 l1 : List UInt8) (h0 : l0.length ≤ 600) (h1 : l1.length ≤ 600) : ∃ (Q R : ByteArray) (E w0 w1 : Int),
    Hid (∀ V : World, Good V → Calls Tryz.prog 21 #[.string ⟨l0.toArray⟩, .string ⟨l1.toArray⟩] V (RetV V (.tuple #[.string Q, .int .i64 E]))) ∧
    Hid (∀ V : World, Good V → Calls Tryz.prog 45 #[.string ⟨l0.toArray⟩] V (RetV V (.int .i64 w0))) ∧
    Hid (∀ V : World, Good V → Calls Tryz.prog 45 #[.string ⟨l1.toArray⟩] V (RetV V (.int .i64 w1))) ∧
    ((w0 ≠ 0 ∧ Q = ⟨#[]⟩ ∧ E = w0) ∨ (w0 = 0 ∧ w1 ≠ 0 ∧ Q = ⟨#[]⟩ ∧ E = w1) ∨
      (w0 = 0 ∧ w1 = 0 ∧ ((⟨l1.toArray⟩ : ByteArray).toList == [48]) = true ∧ Q = ⟨#[]⟩ ∧ E = 2) ∨
      (w0 = 0 ∧ w1 = 0 ∧ ((⟨l1.toArray⟩ : ByteArray).toList == [48]) = false ∧ Hid (∀ V : World, Good V → Calls Tryz.prog 46 #[.string ⟨l0.toArray⟩, .string ⟨l1.toArray⟩] V (RetV V (.string R))) ∧
        Hid (∀ V : World, Good V → Calls Tryz.prog 29 #[.string Q, .int .i64 E, .string R] V (RetV V (.bool true))))) := by
  refine ⟨makT l0 l1, rt (Rat.divInt (sread l0) (sread l1)), makE l0 l1, wcheck l0, wcheck l1, Lib.hid (fun V hV => rmake_full l0 l1 (by omega) (by omega) hV), Lib.hid (fun V hV => check1_any l0 (by omega)), Lib.hid (fun V hV => check1_any l1 (by omega)), ?_⟩
  by_cases c0 : wcheck l0 = 0
  · by_cases c1 : wcheck l1 = 0
    · by_cases hz : l1 = [48]
      · have e : makE l0 l1 = 2 := by unfold makE; rw [if_pos c0, if_pos c1, if_pos hz]
        exact .inr (.inr (.inl ⟨c0, c1, by rw [hz]; decide +kernel, by unfold makT; rw [e]; rfl, e⟩))
      · have e : makE l0 l1 = 0 := by unfold makE; rw [if_pos c0, if_pos c1, if_neg hz]
        have d0 := wcheck_digits c0
        have d1 := wcheck_digits c1
        have hne : sread l1 ≠ 0 := by
          intro h
          have := wcheck_canon (l := l1) (by omega)
          rw [h] at this
          exact hz (this.trans (by decide +kernel))
        refine .inr (.inr (.inr ⟨c0, c1, by rw [ba_list, beq_eq_false_iff_ne]; exact hz, Lib.hid (fun V hV => ?_), Lib.hid (fun V hV => ?_)⟩))
        · rw [canon_it c0, canon_it c1]; exact D4.rmake_any _ _ (by omega) (by omega) hne hV
        · have ff : fitsD 2000 (Rat.divInt (sread l0) (sread l1)) := ⟨Nat.le_trans (D4.nDigits_mono (D4.divInt_num_le _ _)) d0, Nat.le_trans (D4.nDigits_mono (D4.divInt_den_le _ hne)) d1⟩
          refine ltold_any (fits_up ff (by omega)) ?_
          unfold makT tellV
          rw [e, if_pos rfl, if_pos ff]; rfl
    · have e : makE l0 l1 = wcheck l1 := by unfold makE; rw [if_pos c0, if_neg c1]
      exact .inr (.inl ⟨c0, c1, by unfold makT; rw [e, if_neg c1], e⟩)
  · have e : makE l0 l1 = wcheck l0 := by unfold makE; rw [if_neg c0]
    exact .inl ⟨c0, by unfold makT; rw [e, if_neg c0], e⟩
/-- What the fraction of two ints is. -/
theorem pair_of (n k : Int) (n0 : -9223372036854775808 ≤ n) (n1 : n ≤ 9223372036854775807) (k0 : -9223372036854775808 ≤ k) (k1 : k ≤ 9223372036854775807) : ∃ (Q : ByteArray) (E : Int),
    Hid (∀ V : World, Good V → Calls Tryz.prog 22 #[.int .i64 n, .int .i64 k] V (RetV V (.tuple #[.string Q, .int .i64 E]))) ∧
    ((k = 0 ∧ Q = ⟨#[]⟩ ∧ E = 2) ∨ (k ≠ 0 ∧ E = 0 ∧ Hid (∀ V : World, Good V → Calls Tryz.prog 47 #[.int .i64 n, .int .i64 k] V (RetV V (.string Q))))) := by
  by_cases hk : k = 0
  · subst hk
    exact ⟨⟨#[]⟩, 2, Lib.hid (fun V hV => rofr_zero n0 n1 hV), .inl ⟨rfl, rfl, rfl⟩⟩
  · exact ⟨rt (Rat.divInt n k), 0, Lib.hid (fun V hV => rofr_any n0 n1 k0 k1 hk hV), .inr ⟨hk, rfl, Lib.hid (fun V hV => D4.rof_any n k n0 n1 k0 k1 hk hV)⟩⟩
theorem int_text_le {m : Int} (h : nDigits m.natAbs ≤ 240) : (itoa m).length ≤ 600 := by have := itoa_len m; omega

set_option maxHeartbeats 32000000 in
set_option maxRecDepth 100000 in
theorem makes_walk {w : World} (A B : ByteArray) (mx my : Int) (n1x : Bool) (a1x : Option Addr) (k1x c1x : Nat) (t1x : Int) (n1y : Bool) (a1y : Option Addr) (k1y c1y : Nat) (t1y : Int) (n d : Int) (n0 : -9223372036854775808 ≤ n) (n1 : n ≤ 9223372036854775807) (d0 : -9223372036854775808 ≤ d) (d1 : d ≤ 9223372036854775807) (fx : nDigits mx.natAbs ≤ 240) (fy : nDigits my.natAbs ≤ 240)
    (hx : ∀ V : World, Below w.heap.size w V → Calls Tryz.prog 44 #[.agg #[.bool n1x, .slice a1x k1x c1x, .int .u8 t1x]] V (RetV V (.string (it mx))))
    (hy : ∀ V : World, Below w.heap.size w V → Calls Tryz.prog 44 #[.agg #[.bool n1y, .slice a1y k1y c1y, .int .u8 t1y]] V (RetV V (.string (it my)))) (hg : Good w) :
    Calls Tryz.prog 8 #[.string A, .string B, .agg #[.bool n1x, .slice a1x k1x c1x, .int .u8 t1x], .agg #[.bool n1y, .slice a1y k1y c1y, .int .u8 t1y], .int .i64 n, .int .i64 d] w (RetV w (.bool true)) := by
  have la : (A.data.toList.take 60).length ≤ 600 := by rw [List.length_take]; omega
  have lb : (B.data.toList.take 60).length ≤ 600 := by rw [List.length_take]; omega
  have lx := int_text_le fx
  have ly := int_text_le fy
  obtain ⟨W, hW, hB, hsz, jx, jy⟩ := entB w 42 42 #[.bool n1x, .slice a1x k1x c1x, .int .u8 t1x] #[.bool n1y, .slice a1y k1y c1y, .int .u8 t1y]
  have HW := Lib.hid hW
  have JX := Lib.hid jx
  have JY := Lib.hid jy
  have HB := Lib.hid hB
  have HG := Lib.hid (fun (V : World) (hV : Below W.heap.size W V) => (hg.below hB).below hV)
  have H1 := Lib.hid (fun (V : World) (hV : Good V) => works_any hV)
  have hxq := fun (V' : World) (hV' : Below W.heap.size W V') => hx V' (hB.trans (hV'.mono hB.size))
  have hyq := fun (V' : World) (hV' : Below W.heap.size W V') => hy V' (hB.trans (hV'.mono hB.size))
  have erx : it mx = ⟨(itoa mx).toArray⟩ := rfl
  have ery : it my = ⟨(itoa my).toArray⟩ := rfl
  rw [erx] at hxq
  rw [ery] at hyq
  have HX := Lib.hid hxq
  have HY := Lib.hid hyq
  have LA := Lib.hid la
  have LB := Lib.hid lb
  have LX := Lib.hid lx
  have LY := Lib.hid ly
  obtain ⟨ma, hma⟩ : ∃ m : Nat, m = min A.size 60 := ⟨_, rfl⟩
  obtain ⟨mb, hmb⟩ : ∃ m : Nat, m = min B.size 60 := ⟨_, rfl⟩
  have ia : min (A.size : Int) 60 = (ma : Int) := by omega
  have ib : min (B.size : Int) 60 = (mb : Int) := by omega
  have sa : ma ≤ A.size := by omega
  have sb : mb ≤ B.size := by omega
  have sa' : (ma : Int) ≤ (A.size : Int) := by omega
  have sb' : (mb : Int) ≤ (B.size : Int) := by omega
  have ea : A.extract 0 ma = ⟨(A.data.toList.take 60).toArray⟩ := by rw [hma, cut60]
  have eb : B.extract 0 mb = ⟨(B.data.toList.take 60).toArray⟩ := by rw [hmb, cut60]
  have EA := Lib.hid ea
  have EB := Lib.hid eb
  have IA := Lib.hid ia
  have IB := Lib.hid ib
  have hdm : -12 < d.tmod 12 ∧ d.tmod 12 < 12 := by
    have h1 := Int.tmod_lt_of_pos d (show (0 : Int) < 12 by decide)
    have h2 := Int.lt_tmod_of_pos d (show (0 : Int) < 12 by decide)
    omega
  have HOF := Lib.hid (fun (k : Int) (k0 : -9223372036854775808 ≤ k) (k1 : k ≤ 9223372036854775807) => pair_of n k n0 n1 k0 k1)
  have HDM := Lib.hid hdm
  clear la lb lx ly erx ery hx hy hg hW hB hsz jx jy hxq hyq hma hmb ea eb fx fy hdm ia ib
  generalize (A.data.toList.take 60) = la at *
  generalize (B.data.toList.take 60) = lb at *
  generalize itoa mx = lx at *
  generalize itoa my = ly at *
  go_enter Tryz.func8, Tryz.ntmps8
  go_upto_region 1 with fail
  rw [← HW.out]
  clear HW
  go_wp2_with fail
  refine (H1.out _ (HG.out _ (Below.refl _ _))).mono ?_
  rintro e wn ⟨rfl, b1⟩
  have B1 := Lib.hid b1
  have JX1 := Lib.hid (JX.out.next b1)
  have JY1 := Lib.hid (JY.out.next b1)
  clear b1 H1 JX JY
  go_upto_region 3 with fail
  have ia := IA.out
  have ib := IB.out
  go_quiet (fail)
  clear ia ib
  rw [EA.out, EB.out]
  clear EA EB IA IB sa sb sa' sb'
  have hbq : Below wn.heap.size wn (wn.drewN nq) := below_drewN (Below.refl _ _) nq
  have B2 := Lib.hid (next_below B1.out hbq)
  have JX2 := Lib.hid (JX1.out.next hbq)
  have JY2 := Lib.hid (JY1.out.next hbq)
  clear JX1 JY1 B1 hbq
  have JX1 := JX2
  have JY1 := JY2
  clear JX2 JY2
  generalize wn.drewN nq = w1 at *
  go_upto_region 4 with fail
  have hB0 : Below w1.heap.size w1 w1.drew := (Below.refl _ _).drew
  generalize w1 = wn at *
  refine wp_region_list 18 (by kernel_rfl) (by kernel_rfl) [] [fun v _ => v = .string ⟨la.toArray⟩, fun v _ => v = .string ⟨lb.toArray⟩, fun v _ => v = .agg #[.string ⟨la.toArray⟩, .string ⟨lb.toArray⟩], fun v _ => v = .string ⟨la.toArray⟩, fun v _ => v = .agg #[.bool n1y, .slice a1y k1y c1y, .int .u8 t1y], fun v _ => v = .string ⟨ly.toArray⟩, fun v _ => v = .agg #[.string ⟨la.toArray⟩, .string ⟨ly.toArray⟩], fun v _ => v = .agg #[.bool n1x, .slice a1x k1x c1x, .int .u8 t1x], fun v _ => v = .string ⟨lx.toArray⟩, fun v _ => v = .string ⟨lb.toArray⟩, fun v _ => v = .agg #[.string ⟨lx.toArray⟩, .string ⟨lb.toArray⟩], fun v _ => v = .agg #[.bool n1x, .slice a1x k1x c1x, .int .u8 t1x], fun v _ => v = .string ⟨lx.toArray⟩, fun v _ => v = .agg #[.bool n1y, .slice a1y k1y c1y, .int .u8 t1y], fun v _ => v = .string ⟨ly.toArray⟩, fun v _ => v = .agg #[.string ⟨lx.toArray⟩, .string ⟨ly.toArray⟩], fun v _ => v = .agg #[.string ⟨la.toArray⟩, .string ⟨lb.toArray⟩, .string ⟨la.toArray⟩, .string ⟨ly.toArray⟩, .string ⟨lx.toArray⟩, .string ⟨lb.toArray⟩, .string ⟨lx.toArray⟩, .string ⟨ly.toArray⟩], fun v _ => v = .int .i64 0] (by simp only [List.take_succ_cons, List.take_zero]; rfl) (by simp only [List.drop_succ_cons, List.drop_zero]; rfl) (fun vals => by simp only [fam, Act.put, List.setIfInBounds_toArray, List.set_cons_zero, List.set_cons_succ, if_true]; rfl) (by repeat' (first | exact Stab.eq _ _ | exact Stab.wh _ _ | exact Stab.nm _ _ | exact Stab.new _ _ | exact Stab.newn _ _ | exact Stab.tw _ _ _ | exact Stab.lm _ _ _ | exact Stab.onet _ _ _ | exact trivial | apply And.intro)) trivial ?_ ?_
  · refine ⟨?_, ?_, ?_, ?_, ?_, ?_, ?_, ?_, ?_, ?_, ?_, ?_, ?_, ?_, ?_, ?_, ?_, ?_, trivial⟩
    all_goals
      intro vals w1 hB1 hp
      dsimp only
      (try simp [preOk, Region.binds, D4.anygc, D4.anytext] at hp)
      have hb := next_below hB0 hB1
      have kb := next_below B2.out hb
      clear hB1
    case refine_1 =>
      go_wp2
      (first | exact ⟨rfl, _, rfl, rfl, Below.refl _ _, trivial⟩ | (refine ⟨rfl, _, ?_, rfl, Below.refl _ _, trivial⟩; simp only [Act.put, List.setIfInBounds_toArray, List.set_cons_zero, List.set_cons_succ, hp]))
    case refine_2 =>
      go_wp2
      (first | exact ⟨rfl, _, rfl, rfl, Below.refl _ _, trivial⟩ | (refine ⟨rfl, _, ?_, rfl, Below.refl _ _, trivial⟩; simp only [Act.put, List.setIfInBounds_toArray, List.set_cons_zero, List.set_cons_succ, hp]))
    case refine_3 =>
      have a0 : vals 0 = .string ⟨la.toArray⟩ := by first | exact hp.1 | exact hp | exact hp.2 | exact hp.2.1 | exact hp.2.2 | exact hp.2.2.1 | exact hp.2.2.2 | simp [hp]
      have a1 : vals 1 = .string ⟨lb.toArray⟩ := by first | exact hp.1 | exact hp | exact hp.2 | exact hp.2.1 | exact hp.2.2 | exact hp.2.2.1 | exact hp.2.2.2 | simp [hp]
      clear hp
      generalize vals 0 = z0 at *
      subst a0
      generalize vals 1 = z1 at *
      subst a1
      go_wp2
      exact ⟨rfl, _, rfl, rfl, Below.refl _ _, trivial⟩
    case refine_4 =>
      go_wp2
      (first | exact ⟨rfl, _, rfl, rfl, Below.refl _ _, trivial⟩ | (refine ⟨rfl, _, ?_, rfl, Below.refl _ _, trivial⟩; simp only [Act.put, List.setIfInBounds_toArray, List.set_cons_zero, List.set_cons_succ, hp]))
    case refine_5 =>
      obtain ⟨y0, y1, y2⟩ := (JY1.out.next hb).at3
      go_wp2
      (first | exact ⟨rfl, _, rfl, rfl, Below.refl _ _, trivial⟩ | (refine ⟨rfl, _, ?_, rfl, Below.refl _ _, trivial⟩; simp only [Act.put, List.setIfInBounds_toArray, List.set_cons_zero, List.set_cons_succ, hp]))
    case refine_6 =>
      have a4 : vals 4 = .agg #[.bool n1y, .slice a1y k1y c1y, .int .u8 t1y] := by first | exact hp.1 | exact hp | exact hp.2 | exact hp.2.1 | exact hp.2.2 | exact hp.2.2.1 | exact hp.2.2.2 | simp [hp]
      clear hp
      generalize vals 4 = z4 at *
      subst a4
      go_wp2_with (go_at_call 44; refine (HY.out _ kb).mono ?_; rintro e w5 ⟨rfl, hb5⟩)
      exact ⟨rfl, _, rfl, rfl, hb5, trivial⟩
    case refine_7 =>
      have a3 : vals 3 = .string ⟨la.toArray⟩ := by first | exact hp.1 | exact hp | exact hp.2 | exact hp.2.1 | exact hp.2.2 | exact hp.2.2.1 | exact hp.2.2.2 | simp [hp]
      have a5 : vals 5 = .string ⟨ly.toArray⟩ := by first | exact hp.1 | exact hp | exact hp.2 | exact hp.2.1 | exact hp.2.2 | exact hp.2.2.1 | exact hp.2.2.2 | simp [hp]
      clear hp
      generalize vals 3 = z3 at *
      subst a3
      generalize vals 5 = z5 at *
      subst a5
      go_wp2
      exact ⟨rfl, _, rfl, rfl, Below.refl _ _, trivial⟩
    case refine_8 =>
      obtain ⟨y0, y1, y2⟩ := (JX1.out.next hb).at3
      go_wp2
      (first | exact ⟨rfl, _, rfl, rfl, Below.refl _ _, trivial⟩ | (refine ⟨rfl, _, ?_, rfl, Below.refl _ _, trivial⟩; simp only [Act.put, List.setIfInBounds_toArray, List.set_cons_zero, List.set_cons_succ, hp]))
    case refine_9 =>
      have a7 : vals 7 = .agg #[.bool n1x, .slice a1x k1x c1x, .int .u8 t1x] := by first | exact hp.1 | exact hp | exact hp.2 | exact hp.2.1 | exact hp.2.2 | exact hp.2.2.1 | exact hp.2.2.2 | simp [hp]
      clear hp
      generalize vals 7 = z7 at *
      subst a7
      go_wp2_with (go_at_call 44; refine (HX.out _ kb).mono ?_; rintro e w5 ⟨rfl, hb5⟩)
      exact ⟨rfl, _, rfl, rfl, hb5, trivial⟩
    case refine_10 =>
      go_wp2
      (first | exact ⟨rfl, _, rfl, rfl, Below.refl _ _, trivial⟩ | (refine ⟨rfl, _, ?_, rfl, Below.refl _ _, trivial⟩; simp only [Act.put, List.setIfInBounds_toArray, List.set_cons_zero, List.set_cons_succ, hp]))
    case refine_11 =>
      have a8 : vals 8 = .string ⟨lx.toArray⟩ := by first | exact hp.1 | exact hp | exact hp.2 | exact hp.2.1 | exact hp.2.2 | exact hp.2.2.1 | exact hp.2.2.2 | simp [hp]
      have a9 : vals 9 = .string ⟨lb.toArray⟩ := by first | exact hp.1 | exact hp | exact hp.2 | exact hp.2.1 | exact hp.2.2 | exact hp.2.2.1 | exact hp.2.2.2 | simp [hp]
      clear hp
      generalize vals 8 = z8 at *
      subst a8
      generalize vals 9 = z9 at *
      subst a9
      go_wp2
      exact ⟨rfl, _, rfl, rfl, Below.refl _ _, trivial⟩
    case refine_12 =>
      obtain ⟨y0, y1, y2⟩ := (JX1.out.next hb).at3
      go_wp2
      (first | exact ⟨rfl, _, rfl, rfl, Below.refl _ _, trivial⟩ | (refine ⟨rfl, _, ?_, rfl, Below.refl _ _, trivial⟩; simp only [Act.put, List.setIfInBounds_toArray, List.set_cons_zero, List.set_cons_succ, hp]))
    case refine_13 =>
      have a11 : vals 11 = .agg #[.bool n1x, .slice a1x k1x c1x, .int .u8 t1x] := by first | exact hp.1 | exact hp | exact hp.2 | exact hp.2.1 | exact hp.2.2 | exact hp.2.2.1 | exact hp.2.2.2 | simp [hp]
      clear hp
      generalize vals 11 = z11 at *
      subst a11
      go_wp2_with (go_at_call 44; refine (HX.out _ kb).mono ?_; rintro e w5 ⟨rfl, hb5⟩)
      exact ⟨rfl, _, rfl, rfl, hb5, trivial⟩
    case refine_14 =>
      obtain ⟨y0, y1, y2⟩ := (JY1.out.next hb).at3
      go_wp2
      (first | exact ⟨rfl, _, rfl, rfl, Below.refl _ _, trivial⟩ | (refine ⟨rfl, _, ?_, rfl, Below.refl _ _, trivial⟩; simp only [Act.put, List.setIfInBounds_toArray, List.set_cons_zero, List.set_cons_succ, hp]))
    case refine_15 =>
      have a13 : vals 13 = .agg #[.bool n1y, .slice a1y k1y c1y, .int .u8 t1y] := by first | exact hp.1 | exact hp | exact hp.2 | exact hp.2.1 | exact hp.2.2 | exact hp.2.2.1 | exact hp.2.2.2 | simp [hp]
      clear hp
      generalize vals 13 = z13 at *
      subst a13
      go_wp2_with (go_at_call 44; refine (HY.out _ kb).mono ?_; rintro e w5 ⟨rfl, hb5⟩)
      exact ⟨rfl, _, rfl, rfl, hb5, trivial⟩
    case refine_16 =>
      have a12 : vals 12 = .string ⟨lx.toArray⟩ := by first | exact hp.1 | exact hp | exact hp.2 | exact hp.2.1 | exact hp.2.2 | exact hp.2.2.1 | exact hp.2.2.2 | simp [hp]
      have a14 : vals 14 = .string ⟨ly.toArray⟩ := by first | exact hp.1 | exact hp | exact hp.2 | exact hp.2.1 | exact hp.2.2 | exact hp.2.2.1 | exact hp.2.2.2 | simp [hp]
      clear hp
      generalize vals 12 = z12 at *
      subst a12
      generalize vals 14 = z14 at *
      subst a14
      go_wp2
      exact ⟨rfl, _, rfl, rfl, Below.refl _ _, trivial⟩
    case refine_17 =>
      have a2 : vals 2 = .agg #[.string ⟨la.toArray⟩, .string ⟨lb.toArray⟩] := by first | exact hp.1 | exact hp | exact hp.2 | exact hp.2.1 | exact hp.2.2 | exact hp.2.2.1 | exact hp.2.2.2 | simp [hp]
      have a6 : vals 6 = .agg #[.string ⟨la.toArray⟩, .string ⟨ly.toArray⟩] := by first | exact hp.1 | exact hp | exact hp.2 | exact hp.2.1 | exact hp.2.2 | exact hp.2.2.1 | exact hp.2.2.2 | simp [hp]
      have a10 : vals 10 = .agg #[.string ⟨lx.toArray⟩, .string ⟨lb.toArray⟩] := by first | exact hp.1 | exact hp | exact hp.2 | exact hp.2.1 | exact hp.2.2 | exact hp.2.2.1 | exact hp.2.2.2 | simp [hp]
      have a15 : vals 15 = .agg #[.string ⟨lx.toArray⟩, .string ⟨ly.toArray⟩] := by first | exact hp.1 | exact hp | exact hp.2 | exact hp.2.1 | exact hp.2.2 | exact hp.2.2.1 | exact hp.2.2.2 | simp [hp]
      clear hp
      generalize vals 2 = z2 at *
      subst a2
      generalize vals 6 = z6 at *
      subst a6
      generalize vals 10 = z10 at *
      subst a10
      generalize vals 15 = z15 at *
      subst a15
      go_wp2
      exact ⟨rfl, _, rfl, rfl, Below.refl _ _, trivial⟩
    case refine_18 =>
      go_wp2
      (first | exact ⟨rfl, _, rfl, rfl, Below.refl _ _, trivial⟩ | (refine ⟨rfl, _, ?_, rfl, Below.refl _ _, trivial⟩; simp only [Act.put, List.setIfInBounds_toArray, List.set_cons_zero, List.set_cons_succ, hp]))
  · rintro vals w1 hB1 ⟨z0, z1, z2, z3, z4, z5, z6, z7, z8, z9, z10, z11, z12, z13, z14, z15, z16, z17, _⟩ hne
    have B3 := Lib.hid (next_below B2.out (next_below hB0 hB1))
    have y16 := z16
    have y17 := z17
    clear z0 z1 z2 z3 z4 z5 z6 z7 z8 z9 z10 z11 z12 z13 z14 z15 z16 z17 hne hB1 hB0 JX1 JY1 B2 HX HY
    (try dsimp only at y16 y17)
    generalize vals 16 = v16 at *
    subst y16
    generalize vals 17 = v17 at *
    subst y17
    go_wp2
    go_loopg [51] 4 (fun gk u51 wr => ∃ i : Nat, u51 = .int .i64 (i : Int) ∧ i + gk = 4 ∧ Hid (Below W.heap.size W wr))
    case atStart => exact ⟨0, rfl, rfl, B3⟩
    case round =>
      obtain ⟨i, rfl, hi, hK⟩ := hrel
      by_cases hi4 : i < 4
      · have hi5 : (i : Int) < 4 := by omega
        obtain ⟨l0, l1, P0, P1, hP0, hP1, hx, hl0, hl1⟩ : ∃ (l0 l1 : List UInt8) (P0 P1 : ByteArray), P0 = ⟨l0.toArray⟩ ∧ P1 = ⟨l1.toArray⟩ ∧ (∀ X, (Instr.index 67 (.agg #[.string ⟨la.toArray⟩, .string ⟨lb.toArray⟩, .string ⟨la.toArray⟩, .string ⟨ly.toArray⟩, .string ⟨lx.toArray⟩, .string ⟨lb.toArray⟩, .string ⟨lx.toArray⟩, .string ⟨ly.toArray⟩]) (.int .i64 (i : Int))).run Tryz.prog X = .ok (.agg #[.string P0, .string P1]) X) ∧ Hid (l0.length ≤ 600) ∧ Hid (l1.length ≤ 600) := by
          obtain rfl | rfl | rfl | rfl : i = 0 ∨ i = 1 ∨ i = 2 ∨ i = 3 := by omega
          · exact ⟨la, lb, _, _, rfl, rfl, fun X => jxa _ _ _ _ _ _ _ _ X, LA, LB⟩
          · exact ⟨la, ly, _, _, rfl, rfl, fun X => jxb _ _ _ _ _ _ _ _ X, LA, LY⟩
          · exact ⟨lx, lb, _, _, rfl, rfl, fun X => jxc _ _ _ _ _ _ _ _ X, LX, LB⟩
          · exact ⟨lx, ly, _, _, rfl, rfl, fun X => jxd _ _ _ _ _ _ _ _ X, LX, LY⟩
        obtain ⟨Wx, hWx, hBx, hszx, jx⟩ := entA wr 65 #[.string P0, .string P1]
        have K0 := Lib.hid (next_below hK.out hBx)
        have J0 := Lib.hid jx
        have HWX := Lib.hid hWx
        have c0 := jx.cell0
        have c1 := jx.cell1
        have HP0 := Lib.hid hP0
        have HP1 := Lib.hid hP1
        clear hBx hszx jx hWx hP0 hP1
        obtain ⟨Q, R, E, w0, w1, HMK, HC0, HC1, hc⟩ := pair_makes l0 l1 hl0.out hl1.out
        rw [← HP0.out, ← HP1.out] at HMK hc
        rw [← HP0.out] at HC0
        rw [← HP1.out] at HC1
        clear HP0 HP1 hl0 hl1 LA LB LX LY HOF HDM
        have HC := Lib.hid hc
        clear hc
        go_upto_region 7 with fail
        rw [← HWX.out]
        generalize wr.heap.size = gx at *
        clear HWX hK hx
        go_wp2_with fail
        refine (HMK.out _ (HG.out _ K0.out)).mono ?_
        rintro e V ⟨rfl, kk⟩
        have K1 := Lib.hid (next_below K0.out kk)
        have J1 := Lib.hid (J0.out.next kk)
        clear kk c0 c1
        have c0 := J1.out.cell0
        have c1 := J1.out.cell1
        go_wp2_with fail
        refine (HC0.out _ (HG.out _ K1.out)).mono ?_
        rintro e V ⟨rfl, kk⟩
        have K2 := Lib.hid (next_below K1.out kk)
        have J2 := Lib.hid (J1.out.next kk)
        clear kk c0 c1
        have c0 := J2.out.cell0
        have c1 := J2.out.cell1
        rcases HC.out with ⟨f0, h1, h2⟩ | ⟨f0, f1, h1, h2⟩ | ⟨f0, f1, hz, h1, h2⟩ | ⟨f0, f1, hz, G1, G2⟩
        · clear HC HMK HC0 HC1
          subst h1 h2
          go_wp2
          go_roundg (gk - 1)
          case rel => exact ⟨i + 1, by go_num, by omega, K2⟩
          case measure => omega
        · clear HC HMK HC0
          subst h1 h2 f0
          go_wp2_with fail
          refine (HC1.out _ (HG.out _ K2.out)).mono ?_
          rintro e V ⟨rfl, kk⟩
          have K3 := Lib.hid (next_below K2.out kk)
          have J3 := Lib.hid (J2.out.next kk)
          clear kk c0 c1
          have c0 := J3.out.cell0
          have c1 := J3.out.cell1
          go_wp2
          go_roundg (gk - 1)
          case rel => exact ⟨i + 1, by go_num, by omega, K3⟩
          case measure => omega
        · clear HC HMK HC0
          subst h1 h2 f0 f1
          go_wp2_with fail
          refine (HC1.out _ (HG.out _ K2.out)).mono ?_
          rintro e V ⟨rfl, kk⟩
          have K3 := Lib.hid (next_below K2.out kk)
          have J3 := Lib.hid (J2.out.next kk)
          clear kk c0 c1
          have c0 := J3.out.cell0
          have c1 := J3.out.cell1
          go_wp2
          go_roundg (gk - 1)
          case rel => exact ⟨i + 1, by go_num, by omega, K3⟩
          case measure => omega
        · clear HC HMK HC0
          subst f0 f1
          go_wp2_with fail
          refine (HC1.out _ (HG.out _ K2.out)).mono ?_
          rintro e V ⟨rfl, kk⟩
          have K3 := Lib.hid (next_below K2.out kk)
          have J3 := Lib.hid (J2.out.next kk)
          clear kk c0 c1
          have c0 := J3.out.cell0
          have c1 := J3.out.cell1
          go_wp2_with fail
          refine (G1.out _ (HG.out _ K3.out)).mono ?_
          rintro e V ⟨rfl, kk⟩
          have K4 := Lib.hid (next_below K3.out kk)
          have J4 := Lib.hid (J3.out.next kk)
          clear kk c0 c1
          have c0 := J4.out.cell0
          have c1 := J4.out.cell1
          go_wp2_with fail
          refine (G2.out _ (HG.out _ K4.out)).mono ?_
          rintro e V ⟨rfl, kk⟩
          have K5 := Lib.hid (next_below K4.out kk)
          have J5 := Lib.hid (J4.out.next kk)
          clear kk c0 c1
          have c0 := J5.out.cell0
          have c1 := J5.out.cell1
          go_wp2
          go_roundg (gk - 1)
          case rel => exact ⟨i + 1, by go_num, by omega, K5⟩
          case measure => omega
      · obtain rfl : i = 4 := by omega
        generalize gk = go at *
        clear LA LB LX LY
        have hdm := HDM.out
        go_upto_region 20 with fail
        go_loopg [100] 2 (fun gk u100 ws => ∃ j : Nat, u100 = .int .i64 (j : Int) ∧ j + gk = 2 ∧ Hid (Below W.heap.size W ws))
        case atStart => exact ⟨0, rfl, rfl, hK⟩
        case round =>
          obtain ⟨j, rfl, hj, hM⟩ := hrel
          by_cases hj2 : j < 2
          · have hj3 : (j : Int) < 2 := by omega
            obtain ⟨q, hjx, q0, q1⟩ : ∃ q : Int, (∀ X, (Instr.index 61 (.agg #[.int .i64 d, .int .i64 (d.tmod 12)]) (.int .i64 (j : Int))).run Tryz.prog X = .ok (.int .i64 q) X) ∧ -9223372036854775808 ≤ q ∧ q ≤ 9223372036854775807 := by
              obtain rfl | rfl : j = 0 ∨ j = 1 := by omega
              · exact ⟨_, fun X => jxi0 _ _ X, d0, d1⟩
              · exact ⟨_, fun X => jxi1 _ _ X, by omega, by omega⟩
            obtain ⟨Q, E, HO, ho⟩ := HOF.out q q0 q1
            have HC := Lib.hid ho
            clear ho HOF HDM
            have K0 := hM
            clear hM
            go_upto_region 22 with fail
            clear hjx
            go_wp2_with fail
            refine (HO.out _ (HG.out _ K0.out)).mono ?_
            rintro e V ⟨rfl, kk⟩
            have K1 := Lib.hid (next_below K0.out kk)
            clear kk
            rcases HC.out with ⟨f0, h1, h2⟩ | ⟨f0, h1, G⟩
            · clear HC HO
              subst h1 h2 f0
              go_wp2
              go_roundg (gk - 1)
              case rel => exact ⟨j + 1, by go_num, by omega, K1⟩
              case measure => omega
            · clear HC HO
              subst h1
              go_wp2_with fail
              refine (G.out _ (HG.out _ K1.out)).mono ?_
              rintro e V ⟨rfl, kk⟩
              have K2 := Lib.hid (next_below K1.out kk)
              clear kk
              go_wp2
              go_roundg (gk - 1)
              case rel => exact ⟨j + 1, by go_num, by omega, K2⟩
              case measure => omega
          · obtain rfl : j = 2 := by omega
            go_wp2
            go_ret
            exact ⟨rfl, HB.out.trans (hM.out.mono HB.out.size)⟩
theorem makes_law {w : World} (A B : ByteArray) {v1 v2 : Value} (h1 : Draft1At w v1) (h2 : Draft1At w v2) (n d : Int) (n0 : -9223372036854775808 ≤ n) (n1 : n ≤ 9223372036854775807) (d0 : -9223372036854775808 ≤ d) (d1 : d ≤ 9223372036854775807) (hg : Good w) : Calls Tryz.prog 8 #[.string A, .string B, v1, v2, .int .i64 n, .int .i64 d] w (RetV w (.bool true)) := by
  obtain ⟨n1x, a1x, k1x, c1x, t1x, mx, rfl, fx, hx⟩ := h1.text
  obtain ⟨n1y, a1y, k1y, c1y, t1y, my, rfl, fy, hy⟩ := h2.text
  exact makes_walk A B mx my _ _ _ _ _ _ _ _ _ _ n d n0 n1 d0 d1 fx fy hx hy hg
end Go.Proofs.YtabdnjakmhnnfaaGreatDoor
