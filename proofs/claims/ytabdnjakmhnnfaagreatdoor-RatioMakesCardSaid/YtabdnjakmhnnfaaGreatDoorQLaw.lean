/- What the comparisons of chapter 02 share: law's cut, told, failed and four. -/
import Derived.Test.YtabdnjakmhnnfaaGreatDoorQField
import Derived.Test.YtabdnjakmhnnfaaGreatDoorR2c
set_option linter.unusedSimpArgs false
set_option linter.unusedVariables false
namespace Go.Proofs.YtabdnjakmhnnfaaGreatDoor
open Go.RowKit
open Go.Lib (decDigits itoa nDigits)
open D4 (rt it)

theorem Blk.at8 {w : World} {g : Nat} {t : TypeId} {u0 u1 u2 u3 u4 u5 u6 u7 : Value} (h : Blk w g t #[u0, u1, u2, u3, u4, u5, u6, u7]) : w.cell? ⟨g, 0, none⟩ = some u0 ∧ w.cell? ⟨g, 1, none⟩ = some u1 ∧ w.cell? ⟨g, 2, none⟩ = some u2 ∧ w.cell? ⟨g, 3, none⟩ = some u3 ∧ w.cell? ⟨g, 4, none⟩ = some u4 ∧ w.cell? ⟨g, 5, none⟩ = some u5 ∧ w.cell? ⟨g, 6, none⟩ = some u6 ∧ w.cell? ⟨g, 7, none⟩ = some u7 :=
  ⟨by simpa using h.cell 0, by simpa using h.cell 1, by simpa using h.cell 2, by simpa using h.cell 3, by simpa using h.cell 4, by simpa using h.cell 5, by simpa using h.cell 6, by simpa using h.cell 7⟩
theorem Blk.fr8 {w : World} {g : Nat} {t : TypeId} {cs : Array Value} (h : Blk w g t cs) : w.frozen? ⟨g, 0, none⟩ = false ∧ w.frozen? ⟨g, 1, none⟩ = false ∧ w.frozen? ⟨g, 2, none⟩ = false ∧ w.frozen? ⟨g, 3, none⟩ = false ∧ w.frozen? ⟨g, 4, none⟩ = false ∧ w.frozen? ⟨g, 5, none⟩ = false ∧ w.frozen? ⟨g, 6, none⟩ = false ∧ w.frozen? ⟨g, 7, none⟩ = false :=
  ⟨h.frozen 0, h.frozen 1, h.frozen 2, h.frozen 3, h.frozen 4, h.frozen 5, h.frozen 6, h.frozen 7⟩
theorem Blk.eight {w : World} {g : Nat} {t : TypeId} {u0 u1 u2 u3 u4 u5 u6 u7 : Value} (h : Blk w g t #[u0, u1, u2, u3, u4, u5, u6, u7]) (y0 y1 y2 y3 y4 y5 y6 y7 : Value) : Blk ((((((((w.setCell ⟨g, 0, none⟩ y0).setCell ⟨g, 1, none⟩ y1).setCell ⟨g, 2, none⟩ y2).setCell ⟨g, 3, none⟩ y3).setCell ⟨g, 4, none⟩ y4).setCell ⟨g, 5, none⟩ y5).setCell ⟨g, 6, none⟩ y6).setCell ⟨g, 7, none⟩ y7) g t #[y0, y1, y2, y3, y4, y5, y6, y7] := by
  simpa using ((((((((h.set_ 0 y0).set_ 1 y1).set_ 2 y2).set_ 3 y3).set_ 4 y4).set_ 5 y5).set_ 6 y6).set_ 7 y7)
theorem below_eight {B : Nat} {a w : World} {g : Nat} (h : Below B a w) (hg : B ≤ g) (y0 y1 y2 y3 y4 y5 y6 y7 : Value) : Below B a ((((((((w.setCell ⟨g, 0, none⟩ y0).setCell ⟨g, 1, none⟩ y1).setCell ⟨g, 2, none⟩ y2).setCell ⟨g, 3, none⟩ y3).setCell ⟨g, 4, none⟩ y4).setCell ⟨g, 5, none⟩ y5).setCell ⟨g, 6, none⟩ y6).setCell ⟨g, 7, none⟩ y7) :=
  ((((((((h.setCell (p := ⟨g, 0, none⟩) hg y0).setCell (p := ⟨g, 1, none⟩) hg y1).setCell (p := ⟨g, 2, none⟩) hg y2).setCell (p := ⟨g, 3, none⟩) hg y3).setCell (p := ⟨g, 4, none⟩) hg y4).setCell (p := ⟨g, 5, none⟩) hg y5).setCell (p := ⟨g, 6, none⟩) hg y6).setCell (p := ⟨g, 7, none⟩) hg y7)
theorem cut_text (S : ByteArray) (m : Nat) : S.extract 0 m = ⟨(S.data.toList.take m).toArray⟩ := by
  have h := extract_list S.data.toList 0 m
  simpa using h
theorem take_min {α : Type} (l : List α) (k : Nat) : l.take (min l.length k) = l.take k := by
  by_cases h : l.length ≤ k
  · rw [Nat.min_eq_left h, List.take_length, List.take_of_length_le h]
  · rw [Nat.min_eq_right (by omega)]
theorem cut60 (S : ByteArray) : S.extract 0 (min S.size 60) = ⟨(S.data.toList.take 60).toArray⟩ := by
  rw [cut_text, show S.size = S.data.toList.length from (Array.length_toList).symm, take_min]

set_option maxHeartbeats 4000000 in
theorem lcut_any {w : World} (S : ByteArray) : Calls Tryz.prog 34 #[.string S] w (RetV w (.string ⟨(S.data.toList.take 60).toArray⟩)) := by
  obtain ⟨m, hm⟩ : ∃ m : Nat, m = min S.size 60 := ⟨_, rfl⟩
  have hmi : min (S.size : Int) 60 = (m : Int) := by omega
  have hms : m ≤ S.size := by omega
  have hmS : (m : Int) ≤ (S.size : Int) := by omega
  have hS : S.extract 0 m = ⟨(S.data.toList.take 60).toArray⟩ := by rw [hm, cut60]
  have HS := Lib.hid hS
  clear hS hm
  go_enter Tryz.func34, Tryz.ntmps34
  go_wp2
  go_ret
  exact ⟨by rw [← HS.out]; rfl, Below.refl _ _⟩

set_option maxHeartbeats 4000000 in
theorem ltold_any {w : World} {x : Rat} (hx : fitsD 40000 x) {T : ByteArray} {e : Int} (h : (.tuple #[.string T, .int .i64 e] : Value) = tellV x) : Calls Tryz.prog 29 #[.string T, .int .i64 e, .string (rt x)] w (RetV w (.bool true)) := by
  have HF := Lib.hid (fun (V : World) => D4.fits_rt (w := V) (x := x) 2000 hx)
  unfold tellV at h
  by_cases hf : fitsD 2000 x
  · rw [if_pos hf] at h
    have hT : T = rt x := by simp at h; exact h.1
    have he : e = 0 := by simp at h; exact h.2
    subst hT he
    clear h
    have hd : (decide (nDigits x.num.natAbs ≤ 2000) && decide (nDigits x.den ≤ 2000)) = true := by simp; exact hf
    rw [hd] at HF
    generalize rt x = R at *
    clear hd hf hx
    go_enter Tryz.func29, Tryz.ntmps29
    go_upto_region 1 with fail
    go_wp2_with fail
    refine (HF.out _).mono ?_
    rintro e V ⟨rfl, kk⟩
    go_wp2
    go_ret
    exact ⟨rfl, kk⟩
  · rw [if_neg hf] at h
    have hT : T = ⟨#[]⟩ := by simp at h; exact h.1
    have he : e = 6 := by simp at h; exact h.2
    subst hT he
    clear h
    have hd : (decide (nDigits x.num.natAbs ≤ 2000) && decide (nDigits x.den ≤ 2000)) = false := by
      rw [← Bool.not_eq_true]; simp; intro h1; have h2 : ¬ nDigits x.den ≤ 2000 := fun h2 => hf ⟨h1, h2⟩
      omega
    rw [hd] at HF
    generalize rt x = R at *
    clear hd hf hx
    go_enter Tryz.func29, Tryz.ntmps29
    go_upto_region 1 with fail
    go_wp2_with fail
    refine (HF.out _).mono ?_
    rintro e V ⟨rfl, kk⟩
    go_wp2
    go_ret
    exact ⟨rfl, kk⟩

/-- The error of the first of two texts that has one. -/
def failE (la lb : List UInt8) : Int := if rerr la = 0 then rerr lb else rerr la
set_option maxHeartbeats 4000000 in
theorem failed_any {w : World} (la lb : List UInt8) (ha : la.length ≤ 39000) (hb : lb.length ≤ 39000) (hg : Good w) : Calls Tryz.prog 28 #[.string ⟨la.toArray⟩, .string ⟨lb.toArray⟩] w (RetV w (.int .i64 (failE la lb))) := by
  have HG := Lib.hid (fun (V : World) (hV : Below w.heap.size w V) => hg.below hV)
  have HA := Lib.hid (fun (V : World) (hV : Good V) => D4.check2_any (w := V) la ha hV)
  have HB := Lib.hid (fun (V : World) (hV : Good V) => D4.check2_any (w := V) lb hb hV)
  obtain ⟨F, hF⟩ : ∃ F, F = failE la lb := ⟨_, rfl⟩
  rw [← hF]
  unfold failE at hF
  have HF := Lib.hid hF
  generalize (⟨la.toArray⟩ : ByteArray) = SA at *
  generalize (⟨lb.toArray⟩ : ByteArray) = SB at *
  generalize rerr la = ea at *
  generalize rerr lb = eb at *
  clear hF hg ha hb
  go_enter Tryz.func28, Tryz.ntmps28
  go_upto_region 1 with fail
  go_wp2_with fail
  refine (HA.out _ (HG.out _ (Below.refl _ _))).mono ?_
  rintro e V ⟨rfl, kk⟩
  by_cases hea : ea = 0
  · have hF := HF.out
    rw [if_pos hea] at hF
    subst hF
    subst hea
    go_wp2_with fail
    refine (HB.out _ (HG.out _ kk)).mono ?_
    rintro e V2 ⟨rfl, kk2⟩
    go_wp2
    go_ret
    exact ⟨rfl, next_below kk kk2⟩
  · have hF := HF.out
    rw [if_neg hea] at hF
    subst hF
    go_wp2
    go_ret
    exact ⟨rfl, kk⟩

set_option maxHeartbeats 16000000 in
set_option maxRecDepth 100000 in
theorem four_any {w : World} (A B RX RY : ByteArray) (n1x n2x : Bool) (a1x a2x : Option Addr) (k1x c1x k2x c2x : Nat) (t1x t2x : Int) (n1y n2y : Bool) (a1y a2y : Option Addr) (k1y c1y k2y c2y : Nat) (t1y t2y : Int)
    (hx : ∀ V : World, Below w.heap.size w V → Calls Tryz.prog 36 #[.agg #[.bool n1x, .slice a1x k1x c1x, .int .u8 t1x, .bool n2x, .slice a2x k2x c2x, .int .u8 t2x]] V (RetV V (.string RX)))
    (hy : ∀ V : World, Below w.heap.size w V → Calls Tryz.prog 36 #[.agg #[.bool n1y, .slice a1y k1y c1y, .int .u8 t1y, .bool n2y, .slice a2y k2y c2y, .int .u8 t2y]] V (RetV V (.string RY))) :
    Calls Tryz.prog 26 #[.string A, .string B, .agg #[.bool n1x, .slice a1x k1x c1x, .int .u8 t1x, .bool n2x, .slice a2x k2x c2x, .int .u8 t2x], .agg #[.bool n1y, .slice a1y k1y c1y, .int .u8 t1y, .bool n2y, .slice a2y k2y c2y, .int .u8 t2y]] w (RetV w (.agg #[.string ⟨(A.data.toList.take 60).toArray⟩, .string ⟨(B.data.toList.take 60).toArray⟩, .string ⟨(A.data.toList.take 60).toArray⟩, .string RY, .string RX, .string ⟨(B.data.toList.take 60).toArray⟩, .string RX, .string RY])) := by
  have HCA := Lib.hid (fun (V : World) => lcut_any (w := V) A)
  have HCB := Lib.hid (fun (V : World) => lcut_any (w := V) B)
  generalize (⟨(A.data.toList.take 60).toArray⟩ : ByteArray) = CA at *
  generalize (⟨(B.data.toList.take 60).toArray⟩ : ByteArray) = CB at *
  obtain ⟨W, hW, hB, hsz, jx, jy, jr⟩ := entC w 44 44 46 #[.bool n1x, .slice a1x k1x c1x, .int .u8 t1x, .bool n2x, .slice a2x k2x c2x, .int .u8 t2x] #[.bool n1y, .slice a1y k1y c1y, .int .u8 t1y, .bool n2y, .slice a2y k2y c2y, .int .u8 t2y] #[.string ⟨#[]⟩, .string ⟨#[]⟩, .string ⟨#[]⟩, .string ⟨#[]⟩, .string ⟨#[]⟩, .string ⟨#[]⟩, .string ⟨#[]⟩, .string ⟨#[]⟩]
  have HW := Lib.hid hW
  have HB := Lib.hid hB
  have HSZ := Lib.hid hsz
  have JX1 := Lib.hid jx
  have JY1 := Lib.hid jy
  have JR := Lib.hid (show Blk W (w.heap.size + 1 + 1) 46 _ from jr)
  have HX := Lib.hid (fun (V : World) (hV : Below W.heap.size W V) => hx V (hB.trans (hV.mono hB.size)))
  have HY := Lib.hid (fun (V : World) (hV : Below W.heap.size W V) => hy V (hB.trans (hV.mono hB.size)))
  clear hW hB jx jy jr hx hy hsz
  go_enter Tryz.func26, Tryz.ntmps26
  go_upto_region 1 with fail
  rw [← HW.out]
  have K1 := Lib.hid (Below.refl W.heap.size W)
  have hB0 : Below W.heap.size W W.drew := (Below.refl _ _).drew
  refine wp_region_list 21 (by kernel_rfl) (by kernel_rfl) [] [fun v _ => v = .string A, fun v _ => v = .string CA, fun v _ => v = .string B, fun v _ => v = .string CB, fun v _ => v = .agg #[.string CA, .string CB], fun v _ => v = .string A, fun v _ => v = .string CA, fun v _ => v = .agg #[.bool n1y, .slice a1y k1y c1y, .int .u8 t1y, .bool n2y, .slice a2y k2y c2y, .int .u8 t2y], fun v _ => v = .string RY, fun v _ => v = .agg #[.string CA, .string RY], fun v _ => v = .agg #[.bool n1x, .slice a1x k1x c1x, .int .u8 t1x, .bool n2x, .slice a2x k2x c2x, .int .u8 t2x], fun v _ => v = .string RX, fun v _ => v = .string B, fun v _ => v = .string CB, fun v _ => v = .agg #[.string RX, .string CB], fun v _ => v = .agg #[.bool n1x, .slice a1x k1x c1x, .int .u8 t1x, .bool n2x, .slice a2x k2x c2x, .int .u8 t2x], fun v _ => v = .string RX, fun v _ => v = .agg #[.bool n1y, .slice a1y k1y c1y, .int .u8 t1y, .bool n2y, .slice a2y k2y c2y, .int .u8 t2y], fun v _ => v = .string RY, fun v _ => v = .agg #[.string RX, .string RY], fun v _ => v = .agg #[.string CA, .string CB, .string CA, .string RY, .string RX, .string CB, .string RX, .string RY]] (by simp only [List.take_succ_cons, List.take_zero]; rfl) (by simp only [List.drop_succ_cons, List.drop_zero]; rfl) (fun vals => by simp only [fam, Act.put, List.setIfInBounds_toArray, List.set_cons_zero, List.set_cons_succ, if_true]; rfl) (by repeat' (first | exact Stab.eq _ _ | exact Stab.wh _ _ | exact Stab.nm _ _ | exact Stab.new _ _ | exact Stab.newn _ _ | exact Stab.tw _ _ _ | exact Stab.lm _ _ _ | exact Stab.onet _ _ _ | exact trivial | apply And.intro)) trivial ?_ ?_
  · refine ⟨?_, ?_, ?_, ?_, ?_, ?_, ?_, ?_, ?_, ?_, ?_, ?_, ?_, ?_, ?_, ?_, ?_, ?_, ?_, ?_, ?_, trivial⟩
    all_goals
      intro vals w1 hB1 hp
      dsimp only
      (try simp [preOk, Region.binds, D4.anygc, D4.anytext] at hp)
      have hb := next_below hB0 hB1
      have kb := next_below K1.out hb
      clear hB1
    case refine_1 =>
      go_wp2
      (first | exact ⟨rfl, _, rfl, rfl, Below.refl _ _, trivial⟩ | (refine ⟨rfl, _, ?_, rfl, Below.refl _ _, trivial⟩; simp only [Act.put, List.setIfInBounds_toArray, List.set_cons_zero, List.set_cons_succ, hp]))
    case refine_2 =>
      have a0 : vals 0 = .string A := by first | exact hp.1 | exact hp | exact hp.2 | exact hp.2.1 | exact hp.2.2 | exact hp.2.2.1 | exact hp.2.2.2 | simp [hp]
      clear hp
      generalize vals 0 = z0 at *
      subst a0
      go_wp2_with (go_at_call 34; refine (HCA.out w1).mono ?_; rintro e w5 ⟨rfl, hb5⟩)
      exact ⟨rfl, _, rfl, rfl, hb5, trivial⟩
    case refine_3 =>
      go_wp2
      (first | exact ⟨rfl, _, rfl, rfl, Below.refl _ _, trivial⟩ | (refine ⟨rfl, _, ?_, rfl, Below.refl _ _, trivial⟩; simp only [Act.put, List.setIfInBounds_toArray, List.set_cons_zero, List.set_cons_succ, hp]))
    case refine_4 =>
      have a2 : vals 2 = .string B := by first | exact hp.1 | exact hp | exact hp.2 | exact hp.2.1 | exact hp.2.2 | exact hp.2.2.1 | exact hp.2.2.2 | simp [hp]
      clear hp
      generalize vals 2 = z2 at *
      subst a2
      go_wp2_with (go_at_call 34; refine (HCB.out w1).mono ?_; rintro e w5 ⟨rfl, hb5⟩)
      exact ⟨rfl, _, rfl, rfl, hb5, trivial⟩
    case refine_5 =>
      have a1 : vals 1 = .string CA := by first | exact hp.1 | exact hp | exact hp.2 | exact hp.2.1 | exact hp.2.2 | exact hp.2.2.1 | exact hp.2.2.2 | simp [hp]
      have a3 : vals 3 = .string CB := by first | exact hp.1 | exact hp | exact hp.2 | exact hp.2.1 | exact hp.2.2 | exact hp.2.2.1 | exact hp.2.2.2 | simp [hp]
      clear hp
      generalize vals 1 = z1 at *
      subst a1
      generalize vals 3 = z3 at *
      subst a3
      go_wp2
      exact ⟨rfl, _, rfl, rfl, Below.refl _ _, trivial⟩
    case refine_6 =>
      go_wp2
      (first | exact ⟨rfl, _, rfl, rfl, Below.refl _ _, trivial⟩ | (refine ⟨rfl, _, ?_, rfl, Below.refl _ _, trivial⟩; simp only [Act.put, List.setIfInBounds_toArray, List.set_cons_zero, List.set_cons_succ, hp]))
    case refine_7 =>
      have a5 : vals 5 = .string A := by first | exact hp.1 | exact hp | exact hp.2 | exact hp.2.1 | exact hp.2.2 | exact hp.2.2.1 | exact hp.2.2.2 | simp [hp]
      clear hp
      generalize vals 5 = z5 at *
      subst a5
      go_wp2_with (go_at_call 34; refine (HCA.out w1).mono ?_; rintro e w5 ⟨rfl, hb5⟩)
      exact ⟨rfl, _, rfl, rfl, hb5, trivial⟩
    case refine_8 =>
      obtain ⟨y0, y1, y2, y3, y4, y5⟩ := (JY1.out.next hb).at6
      go_wp2
      (first | exact ⟨rfl, _, rfl, rfl, Below.refl _ _, trivial⟩ | (refine ⟨rfl, _, ?_, rfl, Below.refl _ _, trivial⟩; simp only [Act.put, List.setIfInBounds_toArray, List.set_cons_zero, List.set_cons_succ, hp]))
    case refine_9 =>
      have a7 : vals 7 = .agg #[.bool n1y, .slice a1y k1y c1y, .int .u8 t1y, .bool n2y, .slice a2y k2y c2y, .int .u8 t2y] := by first | exact hp.1 | exact hp | exact hp.2 | exact hp.2.1 | exact hp.2.2 | exact hp.2.2.1 | exact hp.2.2.2 | simp [hp]
      clear hp
      generalize vals 7 = z7 at *
      subst a7
      go_wp2_with (go_at_call 36; refine (HY.out _ kb).mono ?_; rintro e w5 ⟨rfl, hb5⟩)
      exact ⟨rfl, _, rfl, rfl, hb5, trivial⟩
    case refine_10 =>
      have a6 : vals 6 = .string CA := by first | exact hp.1 | exact hp | exact hp.2 | exact hp.2.1 | exact hp.2.2 | exact hp.2.2.1 | exact hp.2.2.2 | simp [hp]
      have a8 : vals 8 = .string RY := by first | exact hp.1 | exact hp | exact hp.2 | exact hp.2.1 | exact hp.2.2 | exact hp.2.2.1 | exact hp.2.2.2 | simp [hp]
      clear hp
      generalize vals 6 = z6 at *
      subst a6
      generalize vals 8 = z8 at *
      subst a8
      go_wp2
      exact ⟨rfl, _, rfl, rfl, Below.refl _ _, trivial⟩
    case refine_11 =>
      obtain ⟨y0, y1, y2, y3, y4, y5⟩ := (JX1.out.next hb).at6
      go_wp2
      (first | exact ⟨rfl, _, rfl, rfl, Below.refl _ _, trivial⟩ | (refine ⟨rfl, _, ?_, rfl, Below.refl _ _, trivial⟩; simp only [Act.put, List.setIfInBounds_toArray, List.set_cons_zero, List.set_cons_succ, hp]))
    case refine_12 =>
      have a10 : vals 10 = .agg #[.bool n1x, .slice a1x k1x c1x, .int .u8 t1x, .bool n2x, .slice a2x k2x c2x, .int .u8 t2x] := by first | exact hp.1 | exact hp | exact hp.2 | exact hp.2.1 | exact hp.2.2 | exact hp.2.2.1 | exact hp.2.2.2 | simp [hp]
      clear hp
      generalize vals 10 = z10 at *
      subst a10
      go_wp2_with (go_at_call 36; refine (HX.out _ kb).mono ?_; rintro e w5 ⟨rfl, hb5⟩)
      exact ⟨rfl, _, rfl, rfl, hb5, trivial⟩
    case refine_13 =>
      go_wp2
      (first | exact ⟨rfl, _, rfl, rfl, Below.refl _ _, trivial⟩ | (refine ⟨rfl, _, ?_, rfl, Below.refl _ _, trivial⟩; simp only [Act.put, List.setIfInBounds_toArray, List.set_cons_zero, List.set_cons_succ, hp]))
    case refine_14 =>
      have a12 : vals 12 = .string B := by first | exact hp.1 | exact hp | exact hp.2 | exact hp.2.1 | exact hp.2.2 | exact hp.2.2.1 | exact hp.2.2.2 | simp [hp]
      clear hp
      generalize vals 12 = z12 at *
      subst a12
      go_wp2_with (go_at_call 34; refine (HCB.out w1).mono ?_; rintro e w5 ⟨rfl, hb5⟩)
      exact ⟨rfl, _, rfl, rfl, hb5, trivial⟩
    case refine_15 =>
      have a11 : vals 11 = .string RX := by first | exact hp.1 | exact hp | exact hp.2 | exact hp.2.1 | exact hp.2.2 | exact hp.2.2.1 | exact hp.2.2.2 | simp [hp]
      have a13 : vals 13 = .string CB := by first | exact hp.1 | exact hp | exact hp.2 | exact hp.2.1 | exact hp.2.2 | exact hp.2.2.1 | exact hp.2.2.2 | simp [hp]
      clear hp
      generalize vals 11 = z11 at *
      subst a11
      generalize vals 13 = z13 at *
      subst a13
      go_wp2
      exact ⟨rfl, _, rfl, rfl, Below.refl _ _, trivial⟩
    case refine_16 =>
      obtain ⟨y0, y1, y2, y3, y4, y5⟩ := (JX1.out.next hb).at6
      go_wp2
      (first | exact ⟨rfl, _, rfl, rfl, Below.refl _ _, trivial⟩ | (refine ⟨rfl, _, ?_, rfl, Below.refl _ _, trivial⟩; simp only [Act.put, List.setIfInBounds_toArray, List.set_cons_zero, List.set_cons_succ, hp]))
    case refine_17 =>
      have a15 : vals 15 = .agg #[.bool n1x, .slice a1x k1x c1x, .int .u8 t1x, .bool n2x, .slice a2x k2x c2x, .int .u8 t2x] := by first | exact hp.1 | exact hp | exact hp.2 | exact hp.2.1 | exact hp.2.2 | exact hp.2.2.1 | exact hp.2.2.2 | simp [hp]
      clear hp
      generalize vals 15 = z15 at *
      subst a15
      go_wp2_with (go_at_call 36; refine (HX.out _ kb).mono ?_; rintro e w5 ⟨rfl, hb5⟩)
      exact ⟨rfl, _, rfl, rfl, hb5, trivial⟩
    case refine_18 =>
      obtain ⟨y0, y1, y2, y3, y4, y5⟩ := (JY1.out.next hb).at6
      go_wp2
      (first | exact ⟨rfl, _, rfl, rfl, Below.refl _ _, trivial⟩ | (refine ⟨rfl, _, ?_, rfl, Below.refl _ _, trivial⟩; simp only [Act.put, List.setIfInBounds_toArray, List.set_cons_zero, List.set_cons_succ, hp]))
    case refine_19 =>
      have a17 : vals 17 = .agg #[.bool n1y, .slice a1y k1y c1y, .int .u8 t1y, .bool n2y, .slice a2y k2y c2y, .int .u8 t2y] := by first | exact hp.1 | exact hp | exact hp.2 | exact hp.2.1 | exact hp.2.2 | exact hp.2.2.1 | exact hp.2.2.2 | simp [hp]
      clear hp
      generalize vals 17 = z17 at *
      subst a17
      go_wp2_with (go_at_call 36; refine (HY.out _ kb).mono ?_; rintro e w5 ⟨rfl, hb5⟩)
      exact ⟨rfl, _, rfl, rfl, hb5, trivial⟩
    case refine_20 =>
      have a16 : vals 16 = .string RX := by first | exact hp.1 | exact hp | exact hp.2 | exact hp.2.1 | exact hp.2.2 | exact hp.2.2.1 | exact hp.2.2.2 | simp [hp]
      have a18 : vals 18 = .string RY := by first | exact hp.1 | exact hp | exact hp.2 | exact hp.2.1 | exact hp.2.2 | exact hp.2.2.1 | exact hp.2.2.2 | simp [hp]
      clear hp
      generalize vals 16 = z16 at *
      subst a16
      generalize vals 18 = z18 at *
      subst a18
      go_wp2
      exact ⟨rfl, _, rfl, rfl, Below.refl _ _, trivial⟩
    case refine_21 =>
      have a4 : vals 4 = .agg #[.string CA, .string CB] := by first | exact hp.1 | exact hp | exact hp.2 | exact hp.2.1 | exact hp.2.2 | exact hp.2.2.1 | exact hp.2.2.2 | simp [hp]
      have a9 : vals 9 = .agg #[.string CA, .string RY] := by first | exact hp.1 | exact hp | exact hp.2 | exact hp.2.1 | exact hp.2.2 | exact hp.2.2.1 | exact hp.2.2.2 | simp [hp]
      have a14 : vals 14 = .agg #[.string RX, .string CB] := by first | exact hp.1 | exact hp | exact hp.2 | exact hp.2.1 | exact hp.2.2 | exact hp.2.2.1 | exact hp.2.2.2 | simp [hp]
      have a19 : vals 19 = .agg #[.string RX, .string RY] := by first | exact hp.1 | exact hp | exact hp.2 | exact hp.2.1 | exact hp.2.2 | exact hp.2.2.1 | exact hp.2.2.2 | simp [hp]
      clear hp
      generalize vals 4 = z4 at *
      subst a4
      generalize vals 9 = z9 at *
      subst a9
      generalize vals 14 = z14 at *
      subst a14
      generalize vals 19 = z19 at *
      subst a19
      go_wp2
      exact ⟨rfl, _, rfl, rfl, Below.refl _ _, trivial⟩
  · rintro vals w1 hB1 ⟨z0, z1, z2, z3, z4, z5, z6, z7, z8, z9, z10, z11, z12, z13, z14, z15, z16, z17, z18, z19, z20, _⟩ hne
    have hb := next_below hB0 hB1
    have z := z20
    simp at z
    generalize vals 20 = v20 at *
    subst z
    clear z0 z1 z2 z3 z4 z5 z6 z7 z8 z9 z10 z11 z12 z13 z14 z15 z16 z17 z18 z19 z20
    have JR2 := JR.out.next hb
    obtain ⟨x0, x1, x2, x3, x4, x5, x6, x7⟩ := JR2.at8
    obtain ⟨f0, f1, f2, f3, f4, f5, f6, f7⟩ := JR2.fr8
    clear hne hB1 hB0 HX HY HCA HCB JX1 JY1
    go_wp2
    refine bodyPost_ret_by (results_cell_row (p := 8) (ty := 46) rfl _ _ (w.heap.size + 1 + 1) _ _ _ _ rfl (JR2.eight _ _ _ _ _ _ _ _) Tryz.underlying46 rfl (by kernel_rfl)) rfl ⟨rfl, ?_⟩
    exact below_eight (HB.out.trans (hb.mono HB.out.size)) (by omega) _ _ _ _ _ _ _ _
end Go.Proofs.YtabdnjakmhnnfaaGreatDoor
