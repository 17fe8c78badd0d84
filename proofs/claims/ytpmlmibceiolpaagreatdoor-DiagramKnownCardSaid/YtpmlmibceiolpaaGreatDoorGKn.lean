/- DiagramKnown answers true. -/
import Derived.Test.YtpmlmibceiolpaaGreatDoorGKnM
set_option linter.unusedSimpArgs false
set_option linter.unusedVariables false
namespace Go.Proofs.YtpmlmibceiolpaaGreatDoor
open Go.RowKit

/-- A diagram and an error, both known. -/
def RetK (W : World) (m : Int) (n : Nat) (l : List Nd) (er : Int) (e : Ending) (W' : World) : Prop :=
  ∃ a c, e = .returned (.tuple #[.agg #[.int .i64 m, .slice a n c], .int .i64 er]) ∧ Nds W' (.slice a n c) l ∧ Below W.heap.size W W'
theorem retK_of {W : World} {r : Int × List Nd × Int} {m er : Int} {n : Nat} {l : List Nd} (hr : r = (m, l, er)) (hn : l.length = n) {e : Ending} {W' : World} (he : RetDg W r e W') : RetK W m n l er e W' := by
  subst hr hn
  exact he
theorem kOf {W : World} {v : Value} {m m' er : Int} {n : Nat} {t : List (List UInt8)} {l : List Nd} (hr : ofR m t = (m', l, er)) (hn : l.length = n) (h1 : t.length ≤ 1000000) (h2 : ∀ q ∈ t, q.length ≤ 268435000) (hv : Qs W v t) (hg : Good W) : Calls Tryz.prog 12 #[.int .i64 m, v] W (RetK W m' n l er) :=
  (dgof_any hv h1 h2 hg).mono fun e W' he => retK_of hr hn he
theorem kSum {W : World} {d : Value} {m v m' er : Int} {n : Nat} {l l' : List Nd} (hr : sumR v m l = (m', l', er)) (hn : l'.length = n) (h : DgIn W d m l) (hg : Good W) : Calls Tryz.prog 19 #[d, .int .i64 v] W (RetK W m' n l' er) :=
  (sum_any h hg).mono fun e W' he => retK_of hr hn he
theorem kFix {W : World} {d : Value} {m v b m' er : Int} {n : Nat} {l l' : List Nd} (hr : fixR v b m l = (m', l', er)) (hn : l'.length = n) (h : DgIn W d m l) (hg : Good W) : Calls Tryz.prog 20 #[d, .int .i64 v, .int .i64 b] W (RetK W m' n l' er) :=
  (fix_any h hg).mono fun e W' he => retK_of hr hn he
theorem kApply {W : World} {d d' : Value} {op m m2 m' er : Int} {n : Nat} {l l2 l' : List Nd} (hr : applyR op m l m2 l2 = (m', l', er)) (hn : l'.length = n) (h : DgIn W d m l) (h2 : DgIn W d' m2 l2) (hg : Good W) : Calls Tryz.prog 18 #[.int .i64 op, d, d'] W (RetK W m' n l' er) :=
  (apply_any h h2 hg).mono fun e W' he => retK_of hr hn he
theorem kEval {W : World} {d : Value} {m er : Int} {x : Nat} {l : List Nd} {t : List UInt8} (hr : evalR m l x = (t, er)) (hx : x < 18446744073709551616) (h : DgIn W d m l) (hg : Good W) : Calls Tryz.prog 24 #[d, .int .u64 (x : Int)] W (RetV W (.tuple #[.string ⟨t.toArray⟩, .int .i64 er])) := by
  have h1 := eval_any h hx hg
  simp only [hr] at h1
  exact h1
theorem kCheck {W : World} {d : Value} {m : Int} {l : List Nd} (hr : vldN m l = false) (h : DgIn W d m l) (hg : Good W) : Calls Tryz.prog 14 #[d] W (RetV W (.int .i64 260)) := by
  have h1 := dgcheck_any h hg
  rw [hr] at h1
  exact h1
theorem bApply {W : World} {d d' : Value} {m : Int} {l : List Nd} (hv : vldN m l = false) (h : DgIn W d m l) (h2 : DgIn W d' 2 LD) (hg : Good W) : Calls Tryz.prog 18 #[.int .i64 9, d, d'] W (RetK W 0 0 [] 260) :=
  kApply (n := 0) (bad_apply hv) rfl h h2 hg
theorem bApply2 {W : World} {d d' : Value} {m : Int} {l : List Nd} (hv : vldN m l = false) (h : DgIn W d m l) (h2 : DgIn W d' 2 LD) (hg : Good W) : Calls Tryz.prog 18 #[.int .i64 9, d', d] W (RetK W 0 0 [] 260) :=
  kApply (n := 0) (bad_apply2 hv) rfl h2 h hg
theorem bFix {W : World} {d : Value} {m : Int} {l : List Nd} (hv : vldN m l = false) (h : DgIn W d m l) (hg : Good W) : Calls Tryz.prog 20 #[d, .int .i64 9, .int .i64 9] W (RetK W 0 0 [] 260) :=
  kFix (n := 0) (bad_fix hv) rfl h hg
theorem ld_in {w : World} {a : Option Addr} {c : Nat} (h : Nds w (.slice a 3 c) LD) : DgIn w (.agg #[.int .i64 2, .slice a 3 c]) 2 LD := dgIn_of h (by decide) (by decide)
theorem kRepeat (W : World) : Calls Tryz.prog 32 #[.string ⟨#[48]⟩, .int .i64 1999] W (RetV W (.string ⟨(Lib.repeatL [48] 1999).toArray⟩)) :=
  (Tryz.strings_Repeat ⟨#[48]⟩ 1999 W (by omega) (by decide)).mono fun e W' h => h
theorem cat_one (l : List UInt8) : (⟨#[49]⟩ : ByteArray) ++ ⟨l.toArray⟩ = ⟨(49 :: l).toArray⟩ := ByteArray.ext (by simp [ByteArray.data_append])
theorem big_cat : (⟨#[49]⟩ : ByteArray) ++ ⟨(Lib.repeatL [48] 1999).toArray⟩ = ⟨BIG.toArray⟩ := by rw [cat_one, rep_big]
theorem rep_size (k : Nat) : (⟨(Lib.repeatL [48] k).toArray⟩ : ByteArray).size = k := by
  have h := Lib.repeatL_length [48] k
  rw [List.length_singleton, Nat.mul_one] at h
  simp [ByteArray.size, h]
theorem mk128 (w : World) : (Instr.makeSlice 27 (.int .i64 128) (.int .i64 128)).run Tryz.prog w = .ok (.slice (some ⟨w.heap.size, 0, none⟩) 128 128) (w.alloc (.cells (Array.replicate 128 (.string ⟨#[]⟩)) 40)) := by kernel_rfl

set_option maxHeartbeats 32000000 in
set_option maxRecDepth 100000 in
theorem known_any {W : World} (hg : Good W) : Calls Tryz.prog 9 #[] W (RetV W (.bool true)) := by
  have HG := Lib.hid (fun (V : World) (hV : Below W.heap.size W V) => hg.below hV)
  have K := Lib.hid (Below.refl W.heap.size W)
  clear hg
  go_enter Tryz.func9, Tryz.ntmps9
  go_wp2_with fail
  refine (wakes_any (HG.out _ K.out)).mono ?_
  rintro e w0 ⟨rfl, hb⟩
  replace K := Lib.hid (next_below K.out hb)
  clear hb
  go_upto_region 3 with fail
  obtain ⟨Y1, hY1, hB, hs, j⟩ := entA w0 40 #[.string ⟨#[48]⟩, .string ⟨#[49]⟩, .string ⟨#[48]⟩, .string ⟨#[49]⟩]
  have Q := Lib.hid (show Qs Y1 (.slice (some ⟨w0.heap.size, 0, none⟩) 4 4) TD from Qs.lit TD j rfl (by decide))
  have HY := Lib.hid hY1
  replace K := Lib.hid (next_below K.out hB)
  clear hY1 hB hs j
  have HC := Lib.hid (kOf (n := 3) wk_d rfl (by decide) (by decide) Q.out (HG.out _ K.out))
  go_wp2_with fail
  rw [← HY.out]
  clear HY
  refine (HC.out).mono ?_
  rintro e w2 ⟨a1, c1, rfl, nn, hb⟩
  clear HC Q
  replace K := Lib.hid (next_below K.out hb)
  have N1 := Lib.hid nn
  clear nn hb
  obtain ⟨X3, hX, hB, hs, j⟩ := entA w2 31 #[.int .i64 2, .slice a1 3 c1]
  replace K := Lib.hid (next_below K.out hB)
  replace N1 := Lib.hid (N1.out.below hB)
  have J1 := Lib.hid j
  have HX := Lib.hid hX
  clear hX hB hs j
  go_upto_region 4 with fail
  rw [← HX.out]
  clear HX
  generalize w2.heap.size = g1 at *
  obtain ⟨Y4, hY4, hB, hs, j⟩ := entA X3 40 #[.string ⟨#[53]⟩, .string ⟨#[53]⟩]
  have Q := Lib.hid (show Qs Y4 (.slice (some ⟨X3.heap.size, 0, none⟩) 2 2) TE from Qs.lit TE j rfl (by decide))
  have HY := Lib.hid hY4
  replace K := Lib.hid (next_below K.out hB)
  replace N1 := Lib.hid (N1.out.below hB)
  replace J1 := Lib.hid (J1.out.next hB)
  clear hY4 hB hs j
  have HC := Lib.hid (kOf (n := 1) kn_e rfl (by decide) (by decide) Q.out (HG.out _ K.out))
  go_wp2_with fail
  rw [← HY.out]
  clear HY
  refine (HC.out).mono ?_
  rintro e w5 ⟨a2, c2, rfl, nn, hb⟩
  clear HC Q
  replace K := Lib.hid (next_below K.out hb)
  replace N1 := Lib.hid (N1.out.below hb)
  replace J1 := Lib.hid (J1.out.next hb)
  have N2 := Lib.hid nn
  clear nn hb
  obtain ⟨X6, hX, hB, hs, j⟩ := entA w5 31 #[.int .i64 1, .slice a2 1 c2]
  replace K := Lib.hid (next_below K.out hB)
  replace N1 := Lib.hid (N1.out.below hB)
  replace J1 := Lib.hid (J1.out.next hB)
  replace N2 := Lib.hid (N2.out.below hB)
  have J2 := Lib.hid j
  have HX := Lib.hid hX
  clear hX hB hs j
  go_upto_region 5 with fail
  rw [← HX.out]
  clear HX
  generalize w5.heap.size = g2 at *
  obtain ⟨Y7, hY7, hB, hs, j⟩ := entA X6 40 #[.string ⟨#[55]⟩]
  have Q := Lib.hid (show Qs Y7 (.slice (some ⟨X6.heap.size, 0, none⟩) 1 1) TF from Qs.lit TF j rfl (by decide))
  have HY := Lib.hid hY7
  replace K := Lib.hid (next_below K.out hB)
  replace N1 := Lib.hid (N1.out.below hB)
  replace J1 := Lib.hid (J1.out.next hB)
  replace N2 := Lib.hid (N2.out.below hB)
  replace J2 := Lib.hid (J2.out.next hB)
  clear hY7 hB hs j
  have HC := Lib.hid (kOf (n := 1) kn_f rfl (by decide) (by decide) Q.out (HG.out _ K.out))
  go_wp2_with fail
  rw [← HY.out]
  clear HY
  refine (HC.out).mono ?_
  rintro e w8 ⟨a3, c3, rfl, nn, hb⟩
  clear HC Q
  replace K := Lib.hid (next_below K.out hb)
  replace N1 := Lib.hid (N1.out.below hb)
  replace J1 := Lib.hid (J1.out.next hb)
  replace N2 := Lib.hid (N2.out.below hb)
  replace J2 := Lib.hid (J2.out.next hb)
  have N3 := Lib.hid nn
  clear nn hb
  obtain ⟨X9, hX, hB, hs, j⟩ := entA w8 31 #[.int .i64 0, .slice a3 1 c3]
  replace K := Lib.hid (next_below K.out hB)
  replace N1 := Lib.hid (N1.out.below hB)
  replace J1 := Lib.hid (J1.out.next hB)
  replace N2 := Lib.hid (N2.out.below hB)
  replace J2 := Lib.hid (J2.out.next hB)
  replace N3 := Lib.hid (N3.out.below hB)
  have J3 := Lib.hid j
  have HX := Lib.hid hX
  clear hX hB hs j
  go_upto_region 6 with fail
  rw [← HX.out]
  clear HX
  generalize w8.heap.size = g3 at *
  have x10 : X9.cell? ⟨g1, 0, none⟩ = some (.int .i64 2) := J1.out.cell 0
  have x11 : X9.cell? ⟨g1, 1, none⟩ = some (.slice a1 3 c1) := J1.out.cell 1
  have HC := Lib.hid (kSum (n := 1) kn_s rfl (dgIn_of N1.out (by decide) (by decide)) (HG.out _ K.out))
  go_wp2_with fail
  refine (HC.out).mono ?_
  rintro e w10 ⟨a4, c4, rfl, nn, hb⟩
  clear x10 x11
  clear HC
  replace K := Lib.hid (next_below K.out hb)
  replace N1 := Lib.hid (N1.out.below hb)
  replace J1 := Lib.hid (J1.out.next hb)
  replace N2 := Lib.hid (N2.out.below hb)
  replace J2 := Lib.hid (J2.out.next hb)
  replace N3 := Lib.hid (N3.out.below hb)
  replace J3 := Lib.hid (J3.out.next hb)
  have N4 := Lib.hid nn
  clear nn hb
  obtain ⟨X11, hX, hB, hs, j⟩ := entA w10 31 #[.int .i64 2, .slice a4 1 c4]
  replace K := Lib.hid (next_below K.out hB)
  replace N1 := Lib.hid (N1.out.below hB)
  replace J1 := Lib.hid (J1.out.next hB)
  replace N2 := Lib.hid (N2.out.below hB)
  replace J2 := Lib.hid (J2.out.next hB)
  replace N3 := Lib.hid (N3.out.below hB)
  replace J3 := Lib.hid (J3.out.next hB)
  replace N4 := Lib.hid (N4.out.below hB)
  have J4 := Lib.hid j
  have HX := Lib.hid hX
  clear hX hB hs j
  go_upto_region 7 with fail
  rw [← HX.out]
  clear HX
  generalize w10.heap.size = g4 at *
  obtain ⟨Y12, hY12, hB, hs, j⟩ := entA X11 40 #[.string ⟨#[48]⟩, .string ⟨#[49]⟩]
  have Q := Lib.hid (show Qs Y12 (.slice (some ⟨X11.heap.size, 0, none⟩) 2 2) TH from Qs.lit TH j rfl (by decide))
  have HY := Lib.hid hY12
  replace K := Lib.hid (next_below K.out hB)
  replace N1 := Lib.hid (N1.out.below hB)
  replace J1 := Lib.hid (J1.out.next hB)
  replace N2 := Lib.hid (N2.out.below hB)
  replace J2 := Lib.hid (J2.out.next hB)
  replace N3 := Lib.hid (N3.out.below hB)
  replace J3 := Lib.hid (J3.out.next hB)
  replace N4 := Lib.hid (N4.out.below hB)
  replace J4 := Lib.hid (J4.out.next hB)
  clear hY12 hB hs j
  have HC := Lib.hid (kOf (n := 0) kn_h rfl (by decide) (by decide) Q.out (HG.out _ K.out))
  go_wp2_with fail
  rw [← HY.out]
  clear HY
  refine (HC.out).mono ?_
  rintro e w13 ⟨a13, c13, rfl, nn, hb⟩
  clear HC Q
  replace K := Lib.hid (next_below K.out hb)
  replace N1 := Lib.hid (N1.out.below hb)
  replace J1 := Lib.hid (J1.out.next hb)
  replace N2 := Lib.hid (N2.out.below hb)
  replace J2 := Lib.hid (J2.out.next hb)
  replace N3 := Lib.hid (N3.out.below hb)
  replace J3 := Lib.hid (J3.out.next hb)
  replace N4 := Lib.hid (N4.out.below hb)
  replace J4 := Lib.hid (J4.out.next hb)
  clear nn hb
  obtain ⟨X14, hX, hB, hs, j⟩ := entA w13 31 #[.int .i64 0, .slice a13 0 c13]
  replace K := Lib.hid (next_below K.out hB)
  replace N1 := Lib.hid (N1.out.below hB)
  replace J1 := Lib.hid (J1.out.next hB)
  replace N2 := Lib.hid (N2.out.below hB)
  replace J2 := Lib.hid (J2.out.next hB)
  replace N3 := Lib.hid (N3.out.below hB)
  replace J3 := Lib.hid (J3.out.next hB)
  replace N4 := Lib.hid (N4.out.below hB)
  replace J4 := Lib.hid (J4.out.next hB)
  have HX := Lib.hid hX
  clear hX hB hs j
  go_upto_region 8 with fail
  rw [← HX.out]
  clear HX
  generalize w13.heap.size = g13 at *
  have x10 : X14.cell? ⟨g1, 0, none⟩ = some (.int .i64 2) := J1.out.cell 0
  have x11 : X14.cell? ⟨g1, 1, none⟩ = some (.slice a1 3 c1) := J1.out.cell 1
  have HC := Lib.hid (kApply (n := 0) kn_i rfl (dgIn_of N1.out (by decide) (by decide)) (dgIn_of N1.out (by decide) (by decide)) (HG.out _ K.out))
  go_wp2_with fail
  refine (HC.out).mono ?_
  rintro e w15 ⟨a15, c15, rfl, nn, hb⟩
  clear x10 x11
  clear HC
  replace K := Lib.hid (next_below K.out hb)
  replace N1 := Lib.hid (N1.out.below hb)
  replace J1 := Lib.hid (J1.out.next hb)
  replace N2 := Lib.hid (N2.out.below hb)
  replace J2 := Lib.hid (J2.out.next hb)
  replace N3 := Lib.hid (N3.out.below hb)
  replace J3 := Lib.hid (J3.out.next hb)
  replace N4 := Lib.hid (N4.out.below hb)
  replace J4 := Lib.hid (J4.out.next hb)
  clear nn hb
  obtain ⟨X16, hX, hB, hs, j⟩ := entA w15 31 #[.int .i64 0, .slice a15 0 c15]
  replace K := Lib.hid (next_below K.out hB)
  replace N1 := Lib.hid (N1.out.below hB)
  replace J1 := Lib.hid (J1.out.next hB)
  replace N2 := Lib.hid (N2.out.below hB)
  replace J2 := Lib.hid (J2.out.next hB)
  replace N3 := Lib.hid (N3.out.below hB)
  replace J3 := Lib.hid (J3.out.next hB)
  replace N4 := Lib.hid (N4.out.below hB)
  replace J4 := Lib.hid (J4.out.next hB)
  have HX := Lib.hid hX
  clear hX hB hs j
  go_upto_region 9 with fail
  rw [← HX.out]
  clear HX
  generalize w15.heap.size = g15 at *
  have x10 : X16.cell? ⟨g1, 0, none⟩ = some (.int .i64 2) := J1.out.cell 0
  have x11 : X16.cell? ⟨g1, 1, none⟩ = some (.slice a1 3 c1) := J1.out.cell 1
  have HC := Lib.hid (kApply (n := 0) kn_j rfl (dgIn_of N1.out (by decide) (by decide)) (dgIn_of N1.out (by decide) (by decide)) (HG.out _ K.out))
  go_wp2_with fail
  refine (HC.out).mono ?_
  rintro e w17 ⟨a17, c17, rfl, nn, hb⟩
  clear x10 x11
  clear HC
  replace K := Lib.hid (next_below K.out hb)
  replace N1 := Lib.hid (N1.out.below hb)
  replace J1 := Lib.hid (J1.out.next hb)
  replace N2 := Lib.hid (N2.out.below hb)
  replace J2 := Lib.hid (J2.out.next hb)
  replace N3 := Lib.hid (N3.out.below hb)
  replace J3 := Lib.hid (J3.out.next hb)
  replace N4 := Lib.hid (N4.out.below hb)
  replace J4 := Lib.hid (J4.out.next hb)
  clear nn hb
  obtain ⟨X18, hX, hB, hs, j⟩ := entA w17 31 #[.int .i64 0, .slice a17 0 c17]
  replace K := Lib.hid (next_below K.out hB)
  replace N1 := Lib.hid (N1.out.below hB)
  replace J1 := Lib.hid (J1.out.next hB)
  replace N2 := Lib.hid (N2.out.below hB)
  replace J2 := Lib.hid (J2.out.next hB)
  replace N3 := Lib.hid (N3.out.below hB)
  replace J3 := Lib.hid (J3.out.next hB)
  replace N4 := Lib.hid (N4.out.below hB)
  replace J4 := Lib.hid (J4.out.next hB)
  have HX := Lib.hid hX
  clear hX hB hs j
  go_upto_region 10 with fail
  rw [← HX.out]
  clear HX
  generalize w17.heap.size = g17 at *
  have x10 : X18.cell? ⟨g1, 0, none⟩ = some (.int .i64 2) := J1.out.cell 0
  have x11 : X18.cell? ⟨g1, 1, none⟩ = some (.slice a1 3 c1) := J1.out.cell 1
  have HC := Lib.hid (kFix (n := 0) kn_k rfl (dgIn_of N1.out (by decide) (by decide)) (HG.out _ K.out))
  go_wp2_with fail
  refine (HC.out).mono ?_
  rintro e w19 ⟨a19, c19, rfl, nn, hb⟩
  clear x10 x11
  clear HC
  replace K := Lib.hid (next_below K.out hb)
  replace N1 := Lib.hid (N1.out.below hb)
  replace J1 := Lib.hid (J1.out.next hb)
  replace N2 := Lib.hid (N2.out.below hb)
  replace J2 := Lib.hid (J2.out.next hb)
  replace N3 := Lib.hid (N3.out.below hb)
  replace J3 := Lib.hid (J3.out.next hb)
  replace N4 := Lib.hid (N4.out.below hb)
  replace J4 := Lib.hid (J4.out.next hb)
  clear nn hb
  obtain ⟨X20, hX, hB, hs, j⟩ := entA w19 31 #[.int .i64 0, .slice a19 0 c19]
  replace K := Lib.hid (next_below K.out hB)
  replace N1 := Lib.hid (N1.out.below hB)
  replace J1 := Lib.hid (J1.out.next hB)
  replace N2 := Lib.hid (N2.out.below hB)
  replace J2 := Lib.hid (J2.out.next hB)
  replace N3 := Lib.hid (N3.out.below hB)
  replace J3 := Lib.hid (J3.out.next hB)
  replace N4 := Lib.hid (N4.out.below hB)
  replace J4 := Lib.hid (J4.out.next hB)
  have HX := Lib.hid hX
  clear hX hB hs j
  go_upto_region 11 with fail
  rw [← HX.out]
  clear HX
  generalize w19.heap.size = g19 at *
  have x10 : X20.cell? ⟨g1, 0, none⟩ = some (.int .i64 2) := J1.out.cell 0
  have x11 : X20.cell? ⟨g1, 1, none⟩ = some (.slice a1 3 c1) := J1.out.cell 1
  have HC := Lib.hid (kFix (n := 0) kn_l rfl (dgIn_of N1.out (by decide) (by decide)) (HG.out _ K.out))
  go_wp2_with fail
  refine (HC.out).mono ?_
  rintro e w21 ⟨a21, c21, rfl, nn, hb⟩
  clear x10 x11
  clear HC
  replace K := Lib.hid (next_below K.out hb)
  replace N1 := Lib.hid (N1.out.below hb)
  replace J1 := Lib.hid (J1.out.next hb)
  replace N2 := Lib.hid (N2.out.below hb)
  replace J2 := Lib.hid (J2.out.next hb)
  replace N3 := Lib.hid (N3.out.below hb)
  replace J3 := Lib.hid (J3.out.next hb)
  replace N4 := Lib.hid (N4.out.below hb)
  replace J4 := Lib.hid (J4.out.next hb)
  clear nn hb
  obtain ⟨X22, hX, hB, hs, j⟩ := entA w21 31 #[.int .i64 0, .slice a21 0 c21]
  replace K := Lib.hid (next_below K.out hB)
  replace N1 := Lib.hid (N1.out.below hB)
  replace J1 := Lib.hid (J1.out.next hB)
  replace N2 := Lib.hid (N2.out.below hB)
  replace J2 := Lib.hid (J2.out.next hB)
  replace N3 := Lib.hid (N3.out.below hB)
  replace J3 := Lib.hid (J3.out.next hB)
  replace N4 := Lib.hid (N4.out.below hB)
  replace J4 := Lib.hid (J4.out.next hB)
  have HX := Lib.hid hX
  clear hX hB hs j
  go_upto_region 12 with fail
  rw [← HX.out]
  clear HX
  generalize w21.heap.size = g21 at *
  have x10 : X22.cell? ⟨g1, 0, none⟩ = some (.int .i64 2) := J1.out.cell 0
  have x11 : X22.cell? ⟨g1, 1, none⟩ = some (.slice a1 3 c1) := J1.out.cell 1
  have HC := Lib.hid (kSum (n := 0) kn_m rfl (dgIn_of N1.out (by decide) (by decide)) (HG.out _ K.out))
  go_wp2_with fail
  refine (HC.out).mono ?_
  rintro e w23 ⟨a23, c23, rfl, nn, hb⟩
  clear x10 x11
  clear HC
  replace K := Lib.hid (next_below K.out hb)
  replace N1 := Lib.hid (N1.out.below hb)
  replace J1 := Lib.hid (J1.out.next hb)
  replace N2 := Lib.hid (N2.out.below hb)
  replace J2 := Lib.hid (J2.out.next hb)
  replace N3 := Lib.hid (N3.out.below hb)
  replace J3 := Lib.hid (J3.out.next hb)
  replace N4 := Lib.hid (N4.out.below hb)
  replace J4 := Lib.hid (J4.out.next hb)
  clear nn hb
  obtain ⟨X24, hX, hB, hs, j⟩ := entA w23 31 #[.int .i64 0, .slice a23 0 c23]
  replace K := Lib.hid (next_below K.out hB)
  replace N1 := Lib.hid (N1.out.below hB)
  replace J1 := Lib.hid (J1.out.next hB)
  replace N2 := Lib.hid (N2.out.below hB)
  replace J2 := Lib.hid (J2.out.next hB)
  replace N3 := Lib.hid (N3.out.below hB)
  replace J3 := Lib.hid (J3.out.next hB)
  replace N4 := Lib.hid (N4.out.below hB)
  replace J4 := Lib.hid (J4.out.next hB)
  have HX := Lib.hid hX
  clear hX hB hs j
  go_upto_region 13 with fail
  rw [← HX.out]
  clear HX
  generalize w23.heap.size = g23 at *
  have x10 : X24.cell? ⟨g1, 0, none⟩ = some (.int .i64 2) := J1.out.cell 0
  have x11 : X24.cell? ⟨g1, 1, none⟩ = some (.slice a1 3 c1) := J1.out.cell 1
  have x20 : X24.cell? ⟨g2, 0, none⟩ = some (.int .i64 1) := J2.out.cell 0
  have x21 : X24.cell? ⟨g2, 1, none⟩ = some (.slice a2 1 c2) := J2.out.cell 1
  have HC := Lib.hid (kApply (n := 0) kn_n rfl (dgIn_of N1.out (by decide) (by decide)) (dgIn_of N2.out (by decide) (by decide)) (HG.out _ K.out))
  go_wp2_with fail
  refine (HC.out).mono ?_
  rintro e w25 ⟨a25, c25, rfl, nn, hb⟩
  clear x10 x11
  clear x20 x21
  clear HC
  replace K := Lib.hid (next_below K.out hb)
  replace N1 := Lib.hid (N1.out.below hb)
  replace J1 := Lib.hid (J1.out.next hb)
  replace N2 := Lib.hid (N2.out.below hb)
  replace J2 := Lib.hid (J2.out.next hb)
  replace N3 := Lib.hid (N3.out.below hb)
  replace J3 := Lib.hid (J3.out.next hb)
  replace N4 := Lib.hid (N4.out.below hb)
  replace J4 := Lib.hid (J4.out.next hb)
  clear nn hb
  obtain ⟨X26, hX, hB, hs, j⟩ := entA w25 31 #[.int .i64 0, .slice a25 0 c25]
  replace K := Lib.hid (next_below K.out hB)
  replace N1 := Lib.hid (N1.out.below hB)
  replace J1 := Lib.hid (J1.out.next hB)
  replace N2 := Lib.hid (N2.out.below hB)
  replace J2 := Lib.hid (J2.out.next hB)
  replace N3 := Lib.hid (N3.out.below hB)
  replace J3 := Lib.hid (J3.out.next hB)
  replace N4 := Lib.hid (N4.out.below hB)
  replace J4 := Lib.hid (J4.out.next hB)
  have HX := Lib.hid hX
  clear hX hB hs j
  go_upto_region 14 with fail
  rw [← HX.out]
  clear HX
  generalize w25.heap.size = g25 at *
  have x0 : X26.cell? ⟨g1, 0, none⟩ = some (.int .i64 2) := J1.out.cell 0
  have x1 : X26.cell? ⟨g1, 1, none⟩ = some (.slice a1 3 c1) := J1.out.cell 1
  have HC := Lib.hid (kEval (x := 4) kn_o (by omega) (dgIn_of N1.out (by decide) (by decide)) (HG.out _ K.out))
  go_wp2_with fail
  refine (HC.out).mono ?_
  rintro e w27 ⟨rfl, hb⟩
  clear HC x0 x1
  replace K := Lib.hid (next_below K.out hb)
  replace N1 := Lib.hid (N1.out.below hb)
  replace J1 := Lib.hid (J1.out.next hb)
  replace N2 := Lib.hid (N2.out.below hb)
  replace J2 := Lib.hid (J2.out.next hb)
  replace N3 := Lib.hid (N3.out.below hb)
  replace J3 := Lib.hid (J3.out.next hb)
  replace N4 := Lib.hid (N4.out.below hb)
  replace J4 := Lib.hid (J4.out.next hb)
  clear hb
  go_upto_region 15 with fail
  have HC := Lib.hid (kOf (n := 0) kn_p rfl (by decide) (by decide) (Qs.nil _) (HG.out _ K.out))
  go_wp2_with fail
  refine (HC.out).mono ?_
  rintro e w28 ⟨a28, c28, rfl, nn, hb⟩
  clear HC
  replace K := Lib.hid (next_below K.out hb)
  replace N1 := Lib.hid (N1.out.below hb)
  replace J1 := Lib.hid (J1.out.next hb)
  replace N2 := Lib.hid (N2.out.below hb)
  replace J2 := Lib.hid (J2.out.next hb)
  replace N3 := Lib.hid (N3.out.below hb)
  replace J3 := Lib.hid (J3.out.next hb)
  replace N4 := Lib.hid (N4.out.below hb)
  replace J4 := Lib.hid (J4.out.next hb)
  clear nn hb
  obtain ⟨X29, hX, hB, hs, j⟩ := entA w28 31 #[.int .i64 0, .slice a28 0 c28]
  replace K := Lib.hid (next_below K.out hB)
  replace N1 := Lib.hid (N1.out.below hB)
  replace J1 := Lib.hid (J1.out.next hB)
  replace N2 := Lib.hid (N2.out.below hB)
  replace J2 := Lib.hid (J2.out.next hB)
  replace N3 := Lib.hid (N3.out.below hB)
  replace J3 := Lib.hid (J3.out.next hB)
  replace N4 := Lib.hid (N4.out.below hB)
  replace J4 := Lib.hid (J4.out.next hB)
  have HX := Lib.hid hX
  clear hX hB hs j
  go_upto_region 16 with fail
  rw [← HX.out]
  clear HX
  generalize w28.heap.size = g28 at *
  have hmk := mk128
  obtain ⟨Y30, hY30, hB, hs, j⟩ := entA X29 40 (Array.replicate 128 (.string ⟨#[]⟩))
  have Q := Lib.hid (show Qs Y30 (.slice (some ⟨X29.heap.size, 0, none⟩) 128 128) (List.replicate 128 []) from Qs.lit (List.replicate 128 []) j (by kernel_rfl) (by decide))
  have HY := Lib.hid hY30
  replace K := Lib.hid (next_below K.out hB)
  replace N1 := Lib.hid (N1.out.below hB)
  replace J1 := Lib.hid (J1.out.next hB)
  replace N2 := Lib.hid (N2.out.below hB)
  replace J2 := Lib.hid (J2.out.next hB)
  replace N3 := Lib.hid (N3.out.below hB)
  replace J3 := Lib.hid (J3.out.next hB)
  replace N4 := Lib.hid (N4.out.below hB)
  replace J4 := Lib.hid (J4.out.next hB)
  clear hY30 hB hs j
  have HC := Lib.hid (kOf (n := 0) kn_q rfl (by decide) (by decide) Q.out (HG.out _ K.out))
  go_wp2_with fail
  rw [← HY.out]
  clear HY
  refine (HC.out).mono ?_
  rintro e w31 ⟨a31, c31, rfl, nn, hb⟩
  clear HC Q
  replace K := Lib.hid (next_below K.out hb)
  replace N1 := Lib.hid (N1.out.below hb)
  replace J1 := Lib.hid (J1.out.next hb)
  replace N2 := Lib.hid (N2.out.below hb)
  replace J2 := Lib.hid (J2.out.next hb)
  replace N3 := Lib.hid (N3.out.below hb)
  replace J3 := Lib.hid (J3.out.next hb)
  replace N4 := Lib.hid (N4.out.below hb)
  replace J4 := Lib.hid (J4.out.next hb)
  clear nn hb
  obtain ⟨X32, hX, hB, hs, j⟩ := entA w31 31 #[.int .i64 0, .slice a31 0 c31]
  replace K := Lib.hid (next_below K.out hB)
  replace N1 := Lib.hid (N1.out.below hB)
  replace J1 := Lib.hid (J1.out.next hB)
  replace N2 := Lib.hid (N2.out.below hB)
  replace J2 := Lib.hid (J2.out.next hB)
  replace N3 := Lib.hid (N3.out.below hB)
  replace J3 := Lib.hid (J3.out.next hB)
  replace N4 := Lib.hid (N4.out.below hB)
  replace J4 := Lib.hid (J4.out.next hB)
  have HX := Lib.hid hX
  clear hX hB hs j
  go_upto_region 17 with fail
  rw [← HX.out]
  clear HX
  generalize w31.heap.size = g31 at *
  clear hmk
  obtain ⟨Y33, hY33, hB, hs, j⟩ := entA X32 40 #[.string ⟨#[48]⟩, .string ⟨#[48, 48]⟩]
  have Q := Lib.hid (show Qs Y33 (.slice (some ⟨X32.heap.size, 0, none⟩) 2 2) TR from Qs.lit TR j rfl (by decide))
  have HY := Lib.hid hY33
  replace K := Lib.hid (next_below K.out hB)
  replace N1 := Lib.hid (N1.out.below hB)
  replace J1 := Lib.hid (J1.out.next hB)
  replace N2 := Lib.hid (N2.out.below hB)
  replace J2 := Lib.hid (J2.out.next hB)
  replace N3 := Lib.hid (N3.out.below hB)
  replace J3 := Lib.hid (J3.out.next hB)
  replace N4 := Lib.hid (N4.out.below hB)
  replace J4 := Lib.hid (J4.out.next hB)
  clear hY33 hB hs j
  have HC := Lib.hid (kOf (n := 0) kn_r rfl (by decide) (by decide) Q.out (HG.out _ K.out))
  go_wp2_with fail
  rw [← HY.out]
  clear HY
  refine (HC.out).mono ?_
  rintro e w34 ⟨a34, c34, rfl, nn, hb⟩
  clear HC Q
  replace K := Lib.hid (next_below K.out hb)
  replace N1 := Lib.hid (N1.out.below hb)
  replace J1 := Lib.hid (J1.out.next hb)
  replace N2 := Lib.hid (N2.out.below hb)
  replace J2 := Lib.hid (J2.out.next hb)
  replace N3 := Lib.hid (N3.out.below hb)
  replace J3 := Lib.hid (J3.out.next hb)
  replace N4 := Lib.hid (N4.out.below hb)
  replace J4 := Lib.hid (J4.out.next hb)
  clear nn hb
  obtain ⟨X35, hX, hB, hs, j⟩ := entA w34 31 #[.int .i64 0, .slice a34 0 c34]
  replace K := Lib.hid (next_below K.out hB)
  replace N1 := Lib.hid (N1.out.below hB)
  replace J1 := Lib.hid (J1.out.next hB)
  replace N2 := Lib.hid (N2.out.below hB)
  replace J2 := Lib.hid (J2.out.next hB)
  replace N3 := Lib.hid (N3.out.below hB)
  replace J3 := Lib.hid (J3.out.next hB)
  replace N4 := Lib.hid (N4.out.below hB)
  replace J4 := Lib.hid (J4.out.next hB)
  have HX := Lib.hid hX
  clear hX hB hs j
  go_upto_region 18 with fail
  rw [← HX.out]
  clear HX
  generalize w34.heap.size = g34 at *
  have x0 : X35.cell? ⟨g1, 0, none⟩ = some (.int .i64 2) := J1.out.cell 0
  have x1 : X35.cell? ⟨g1, 1, none⟩ = some (.slice a1 3 c1) := J1.out.cell 1
  have HC := Lib.hid (kEval (x := 2) kn_z (by omega) (dgIn_of N1.out (by decide) (by decide)) (HG.out _ K.out))
  go_wp2_with fail
  refine (HC.out).mono ?_
  rintro e w36 ⟨rfl, hb⟩
  clear HC x0 x1
  replace K := Lib.hid (next_below K.out hb)
  replace N1 := Lib.hid (N1.out.below hb)
  replace J1 := Lib.hid (J1.out.next hb)
  replace N2 := Lib.hid (N2.out.below hb)
  replace J2 := Lib.hid (J2.out.next hb)
  replace N3 := Lib.hid (N3.out.below hb)
  replace J3 := Lib.hid (J3.out.next hb)
  replace N4 := Lib.hid (N4.out.below hb)
  replace J4 := Lib.hid (J4.out.next hb)
  clear hb
  go_upto_region 19 with fail
  go_upto_region 20 with fail
  obtain ⟨Y37, hY, hB, hs, j⟩ := entA w36 42 #[.int .i64 0, .int .i64 0, .int .i64 0, .string ⟨#[]⟩]
  have NX1 := Lib.hid (show Nds Y37 (.slice (some ⟨w36.heap.size, 0, none⟩) 1 1) LX1 from Nds.lit LX1 j rfl (by decide) (by decide))
  have HY := Lib.hid hY
  replace K := Lib.hid (next_below K.out hB)
  replace N1 := Lib.hid (N1.out.below hB)
  replace J1 := Lib.hid (J1.out.next hB)
  replace N2 := Lib.hid (N2.out.below hB)
  replace J2 := Lib.hid (J2.out.next hB)
  replace N3 := Lib.hid (N3.out.below hB)
  replace J3 := Lib.hid (J3.out.next hB)
  replace N4 := Lib.hid (N4.out.below hB)
  replace J4 := Lib.hid (J4.out.next hB)
  clear hY hB hs j
  go_wp2_with fail
  rw [← HY.out]
  clear HY
  generalize w36.heap.size = e1 at *
  refine (leaf_any _ _).mono ?_
  rintro e w38 ⟨rfl, hb⟩
  replace K := Lib.hid (next_below K.out hb)
  replace N1 := Lib.hid (N1.out.below hb)
  replace J1 := Lib.hid (J1.out.next hb)
  replace N2 := Lib.hid (N2.out.below hb)
  replace J2 := Lib.hid (J2.out.next hb)
  replace N3 := Lib.hid (N3.out.below hb)
  replace J3 := Lib.hid (J3.out.next hb)
  replace N4 := Lib.hid (N4.out.below hb)
  replace J4 := Lib.hid (J4.out.next hb)
  replace NX1 := Lib.hid (NX1.out.below hb)
  clear hb
  go_wp2_with fail
  refine (leaf_any _ _).mono ?_
  rintro e w39 ⟨rfl, hb⟩
  replace K := Lib.hid (next_below K.out hb)
  replace N1 := Lib.hid (N1.out.below hb)
  replace J1 := Lib.hid (J1.out.next hb)
  replace N2 := Lib.hid (N2.out.below hb)
  replace J2 := Lib.hid (J2.out.next hb)
  replace N3 := Lib.hid (N3.out.below hb)
  replace J3 := Lib.hid (J3.out.next hb)
  replace N4 := Lib.hid (N4.out.below hb)
  replace J4 := Lib.hid (J4.out.next hb)
  replace NX1 := Lib.hid (NX1.out.below hb)
  clear hb
  obtain ⟨Y40, hY, hB, hs, j⟩ := entA w39 42 #[.int .i64 1, .int .i64 0, .int .i64 0, .string ⟨#[48]⟩, .int .i64 1, .int .i64 0, .int .i64 0, .string ⟨#[49]⟩]
  have NX2 := Lib.hid (show Nds Y40 (.slice (some ⟨w39.heap.size, 0, none⟩) 2 2) LX2 from Nds.lit LX2 j rfl (by decide) (by decide))
  have HY := Lib.hid hY
  replace K := Lib.hid (next_below K.out hB)
  replace N1 := Lib.hid (N1.out.below hB)
  replace J1 := Lib.hid (J1.out.next hB)
  replace N2 := Lib.hid (N2.out.below hB)
  replace J2 := Lib.hid (J2.out.next hB)
  replace N3 := Lib.hid (N3.out.below hB)
  replace J3 := Lib.hid (J3.out.next hB)
  replace N4 := Lib.hid (N4.out.below hB)
  replace J4 := Lib.hid (J4.out.next hB)
  replace NX1 := Lib.hid (NX1.out.below hB)
  clear hY hB hs j
  go_wp2_with fail
  rw [← HY.out]
  clear HY
  generalize w39.heap.size = e2 at *
  refine (leaf_any _ _).mono ?_
  rintro e w41 ⟨rfl, hb⟩
  replace K := Lib.hid (next_below K.out hb)
  replace N1 := Lib.hid (N1.out.below hb)
  replace J1 := Lib.hid (J1.out.next hb)
  replace N2 := Lib.hid (N2.out.below hb)
  replace J2 := Lib.hid (J2.out.next hb)
  replace N3 := Lib.hid (N3.out.below hb)
  replace J3 := Lib.hid (J3.out.next hb)
  replace N4 := Lib.hid (N4.out.below hb)
  replace J4 := Lib.hid (J4.out.next hb)
  replace NX1 := Lib.hid (NX1.out.below hb)
  replace NX2 := Lib.hid (NX2.out.below hb)
  clear hb
  go_wp2_with fail
  refine (inner_any _ _ _).mono ?_
  rintro e w42 ⟨rfl, hb⟩
  replace K := Lib.hid (next_below K.out hb)
  replace N1 := Lib.hid (N1.out.below hb)
  replace J1 := Lib.hid (J1.out.next hb)
  replace N2 := Lib.hid (N2.out.below hb)
  replace J2 := Lib.hid (J2.out.next hb)
  replace N3 := Lib.hid (N3.out.below hb)
  replace J3 := Lib.hid (J3.out.next hb)
  replace N4 := Lib.hid (N4.out.below hb)
  replace J4 := Lib.hid (J4.out.next hb)
  replace NX1 := Lib.hid (NX1.out.below hb)
  replace NX2 := Lib.hid (NX2.out.below hb)
  clear hb
  obtain ⟨Y43, hY, hB, hs, j⟩ := entA w42 42 #[.int .i64 1, .int .i64 0, .int .i64 0, .string ⟨#[48]⟩, .int .i64 0, .int .i64 0, .int .i64 0, .string ⟨#[]⟩]
  have NX3 := Lib.hid (show Nds Y43 (.slice (some ⟨w42.heap.size, 0, none⟩) 2 2) LX3 from Nds.lit LX3 j rfl (by decide) (by decide))
  have HY := Lib.hid hY
  replace K := Lib.hid (next_below K.out hB)
  replace N1 := Lib.hid (N1.out.below hB)
  replace J1 := Lib.hid (J1.out.next hB)
  replace N2 := Lib.hid (N2.out.below hB)
  replace J2 := Lib.hid (J2.out.next hB)
  replace N3 := Lib.hid (N3.out.below hB)
  replace J3 := Lib.hid (J3.out.next hB)
  replace N4 := Lib.hid (N4.out.below hB)
  replace J4 := Lib.hid (J4.out.next hB)
  replace NX1 := Lib.hid (NX1.out.below hB)
  replace NX2 := Lib.hid (NX2.out.below hB)
  clear hY hB hs j
  go_wp2_with fail
  rw [← HY.out]
  clear HY
  generalize w42.heap.size = e3 at *
  refine (leaf_any _ _).mono ?_
  rintro e w44 ⟨rfl, hb⟩
  replace K := Lib.hid (next_below K.out hb)
  replace N1 := Lib.hid (N1.out.below hb)
  replace J1 := Lib.hid (J1.out.next hb)
  replace N2 := Lib.hid (N2.out.below hb)
  replace J2 := Lib.hid (J2.out.next hb)
  replace N3 := Lib.hid (N3.out.below hb)
  replace J3 := Lib.hid (J3.out.next hb)
  replace N4 := Lib.hid (N4.out.below hb)
  replace J4 := Lib.hid (J4.out.next hb)
  replace NX1 := Lib.hid (NX1.out.below hb)
  replace NX2 := Lib.hid (NX2.out.below hb)
  replace NX3 := Lib.hid (NX3.out.below hb)
  clear hb
  go_wp2_with fail
  refine (leaf_any _ _).mono ?_
  rintro e w45 ⟨rfl, hb⟩
  replace K := Lib.hid (next_below K.out hb)
  replace N1 := Lib.hid (N1.out.below hb)
  replace J1 := Lib.hid (J1.out.next hb)
  replace N2 := Lib.hid (N2.out.below hb)
  replace J2 := Lib.hid (J2.out.next hb)
  replace N3 := Lib.hid (N3.out.below hb)
  replace J3 := Lib.hid (J3.out.next hb)
  replace N4 := Lib.hid (N4.out.below hb)
  replace J4 := Lib.hid (J4.out.next hb)
  replace NX1 := Lib.hid (NX1.out.below hb)
  replace NX2 := Lib.hid (NX2.out.below hb)
  replace NX3 := Lib.hid (NX3.out.below hb)
  clear hb
  go_wp2_with fail
  refine (inner_any _ _ _).mono ?_
  rintro e w46 ⟨rfl, hb⟩
  replace K := Lib.hid (next_below K.out hb)
  replace N1 := Lib.hid (N1.out.below hb)
  replace J1 := Lib.hid (J1.out.next hb)
  replace N2 := Lib.hid (N2.out.below hb)
  replace J2 := Lib.hid (J2.out.next hb)
  replace N3 := Lib.hid (N3.out.below hb)
  replace J3 := Lib.hid (J3.out.next hb)
  replace N4 := Lib.hid (N4.out.below hb)
  replace J4 := Lib.hid (J4.out.next hb)
  replace NX1 := Lib.hid (NX1.out.below hb)
  replace NX2 := Lib.hid (NX2.out.below hb)
  replace NX3 := Lib.hid (NX3.out.below hb)
  clear hb
  obtain ⟨Y47, hY, hB, hs, j⟩ := entA w46 42 #[.int .i64 1, .int .i64 0, .int .i64 0, .string ⟨#[49]⟩, .int .i64 1, .int .i64 0, .int .i64 0, .string ⟨#[48]⟩, .int .i64 0, .int .i64 1, .int .i64 0, .string ⟨#[]⟩]
  have NX4 := Lib.hid (show Nds Y47 (.slice (some ⟨w46.heap.size, 0, none⟩) 3 3) LX4 from Nds.lit LX4 j rfl (by decide) (by decide))
  have HY := Lib.hid hY
  replace K := Lib.hid (next_below K.out hB)
  replace N1 := Lib.hid (N1.out.below hB)
  replace J1 := Lib.hid (J1.out.next hB)
  replace N2 := Lib.hid (N2.out.below hB)
  replace J2 := Lib.hid (J2.out.next hB)
  replace N3 := Lib.hid (N3.out.below hB)
  replace J3 := Lib.hid (J3.out.next hB)
  replace N4 := Lib.hid (N4.out.below hB)
  replace J4 := Lib.hid (J4.out.next hB)
  replace NX1 := Lib.hid (NX1.out.below hB)
  replace NX2 := Lib.hid (NX2.out.below hB)
  replace NX3 := Lib.hid (NX3.out.below hB)
  clear hY hB hs j
  go_wp2_with fail
  rw [← HY.out]
  clear HY
  generalize w46.heap.size = e4 at *
  refine (leaf_any _ _).mono ?_
  rintro e w48 ⟨rfl, hb⟩
  replace K := Lib.hid (next_below K.out hb)
  replace N1 := Lib.hid (N1.out.below hb)
  replace J1 := Lib.hid (J1.out.next hb)
  replace N2 := Lib.hid (N2.out.below hb)
  replace J2 := Lib.hid (J2.out.next hb)
  replace N3 := Lib.hid (N3.out.below hb)
  replace J3 := Lib.hid (J3.out.next hb)
  replace N4 := Lib.hid (N4.out.below hb)
  replace J4 := Lib.hid (J4.out.next hb)
  replace NX1 := Lib.hid (NX1.out.below hb)
  replace NX2 := Lib.hid (NX2.out.below hb)
  replace NX3 := Lib.hid (NX3.out.below hb)
  replace NX4 := Lib.hid (NX4.out.below hb)
  clear hb
  go_wp2_with fail
  refine (leaf_any _ _).mono ?_
  rintro e w49 ⟨rfl, hb⟩
  replace K := Lib.hid (next_below K.out hb)
  replace N1 := Lib.hid (N1.out.below hb)
  replace J1 := Lib.hid (J1.out.next hb)
  replace N2 := Lib.hid (N2.out.below hb)
  replace J2 := Lib.hid (J2.out.next hb)
  replace N3 := Lib.hid (N3.out.below hb)
  replace J3 := Lib.hid (J3.out.next hb)
  replace N4 := Lib.hid (N4.out.below hb)
  replace J4 := Lib.hid (J4.out.next hb)
  replace NX1 := Lib.hid (NX1.out.below hb)
  replace NX2 := Lib.hid (NX2.out.below hb)
  replace NX3 := Lib.hid (NX3.out.below hb)
  replace NX4 := Lib.hid (NX4.out.below hb)
  clear hb
  go_wp2_with fail
  refine (inner_any _ _ _).mono ?_
  rintro e w50 ⟨rfl, hb⟩
  replace K := Lib.hid (next_below K.out hb)
  replace N1 := Lib.hid (N1.out.below hb)
  replace J1 := Lib.hid (J1.out.next hb)
  replace N2 := Lib.hid (N2.out.below hb)
  replace J2 := Lib.hid (J2.out.next hb)
  replace N3 := Lib.hid (N3.out.below hb)
  replace J3 := Lib.hid (J3.out.next hb)
  replace N4 := Lib.hid (N4.out.below hb)
  replace J4 := Lib.hid (J4.out.next hb)
  replace NX1 := Lib.hid (NX1.out.below hb)
  replace NX2 := Lib.hid (NX2.out.below hb)
  replace NX3 := Lib.hid (NX3.out.below hb)
  replace NX4 := Lib.hid (NX4.out.below hb)
  clear hb
  obtain ⟨Y51, hY, hB, hs, j⟩ := entA w50 42 #[.int .i64 1, .int .i64 0, .int .i64 0, .string ⟨#[48]⟩, .int .i64 1, .int .i64 0, .int .i64 0, .string ⟨#[49]⟩, .int .i64 0, .int .i64 0, .int .i64 2, .string ⟨#[]⟩]
  have NX5 := Lib.hid (show Nds Y51 (.slice (some ⟨w50.heap.size, 0, none⟩) 3 3) LX5 from Nds.lit LX5 j rfl (by decide) (by decide))
  have HY := Lib.hid hY
  replace K := Lib.hid (next_below K.out hB)
  replace N1 := Lib.hid (N1.out.below hB)
  replace J1 := Lib.hid (J1.out.next hB)
  replace N2 := Lib.hid (N2.out.below hB)
  replace J2 := Lib.hid (J2.out.next hB)
  replace N3 := Lib.hid (N3.out.below hB)
  replace J3 := Lib.hid (J3.out.next hB)
  replace N4 := Lib.hid (N4.out.below hB)
  replace J4 := Lib.hid (J4.out.next hB)
  replace NX1 := Lib.hid (NX1.out.below hB)
  replace NX2 := Lib.hid (NX2.out.below hB)
  replace NX3 := Lib.hid (NX3.out.below hB)
  replace NX4 := Lib.hid (NX4.out.below hB)
  clear hY hB hs j
  go_wp2_with fail
  rw [← HY.out]
  clear HY
  generalize w50.heap.size = e5 at *
  refine (leaf_any _ _).mono ?_
  rintro e w52 ⟨rfl, hb⟩
  replace K := Lib.hid (next_below K.out hb)
  replace N1 := Lib.hid (N1.out.below hb)
  replace J1 := Lib.hid (J1.out.next hb)
  replace N2 := Lib.hid (N2.out.below hb)
  replace J2 := Lib.hid (J2.out.next hb)
  replace N3 := Lib.hid (N3.out.below hb)
  replace J3 := Lib.hid (J3.out.next hb)
  replace N4 := Lib.hid (N4.out.below hb)
  replace J4 := Lib.hid (J4.out.next hb)
  replace NX1 := Lib.hid (NX1.out.below hb)
  replace NX2 := Lib.hid (NX2.out.below hb)
  replace NX3 := Lib.hid (NX3.out.below hb)
  replace NX4 := Lib.hid (NX4.out.below hb)
  replace NX5 := Lib.hid (NX5.out.below hb)
  clear hb
  obtain ⟨Y53, hY, hB, hs, j⟩ := entA w52 42 #[.int .i64 7, .int .i64 0, .int .i64 0, .string ⟨#[48]⟩]
  have NX6 := Lib.hid (show Nds Y53 (.slice (some ⟨w52.heap.size, 0, none⟩) 1 1) LX6 from Nds.lit LX6 j rfl (by decide) (by decide))
  have HY := Lib.hid hY
  replace K := Lib.hid (next_below K.out hB)
  replace N1 := Lib.hid (N1.out.below hB)
  replace J1 := Lib.hid (J1.out.next hB)
  replace N2 := Lib.hid (N2.out.below hB)
  replace J2 := Lib.hid (J2.out.next hB)
  replace N3 := Lib.hid (N3.out.below hB)
  replace J3 := Lib.hid (J3.out.next hB)
  replace N4 := Lib.hid (N4.out.below hB)
  replace J4 := Lib.hid (J4.out.next hB)
  replace NX1 := Lib.hid (NX1.out.below hB)
  replace NX2 := Lib.hid (NX2.out.below hB)
  replace NX3 := Lib.hid (NX3.out.below hB)
  replace NX4 := Lib.hid (NX4.out.below hB)
  replace NX5 := Lib.hid (NX5.out.below hB)
  clear hY hB hs j
  go_wp2_with fail
  rw [← HY.out]
  clear HY
  generalize w52.heap.size = e6 at *
  refine (leaf_any _ _).mono ?_
  rintro e w54 ⟨rfl, hb⟩
  replace K := Lib.hid (next_below K.out hb)
  replace N1 := Lib.hid (N1.out.below hb)
  replace J1 := Lib.hid (J1.out.next hb)
  replace N2 := Lib.hid (N2.out.below hb)
  replace J2 := Lib.hid (J2.out.next hb)
  replace N3 := Lib.hid (N3.out.below hb)
  replace J3 := Lib.hid (J3.out.next hb)
  replace N4 := Lib.hid (N4.out.below hb)
  replace J4 := Lib.hid (J4.out.next hb)
  replace NX1 := Lib.hid (NX1.out.below hb)
  replace NX2 := Lib.hid (NX2.out.below hb)
  replace NX3 := Lib.hid (NX3.out.below hb)
  replace NX4 := Lib.hid (NX4.out.below hb)
  replace NX5 := Lib.hid (NX5.out.below hb)
  replace NX6 := Lib.hid (NX6.out.below hb)
  clear hb
  obtain ⟨Y55, hY, hB, hs, j⟩ := entA w54 42 #[.int .i64 (-1), .int .i64 0, .int .i64 0, .string ⟨#[48]⟩]
  have NX7 := Lib.hid (show Nds Y55 (.slice (some ⟨w54.heap.size, 0, none⟩) 1 1) LX7 from Nds.lit LX7 j rfl (by decide) (by decide))
  have HY := Lib.hid hY
  replace K := Lib.hid (next_below K.out hB)
  replace N1 := Lib.hid (N1.out.below hB)
  replace J1 := Lib.hid (J1.out.next hB)
  replace N2 := Lib.hid (N2.out.below hB)
  replace J2 := Lib.hid (J2.out.next hB)
  replace N3 := Lib.hid (N3.out.below hB)
  replace J3 := Lib.hid (J3.out.next hB)
  replace N4 := Lib.hid (N4.out.below hB)
  replace J4 := Lib.hid (J4.out.next hB)
  replace NX1 := Lib.hid (NX1.out.below hB)
  replace NX2 := Lib.hid (NX2.out.below hB)
  replace NX3 := Lib.hid (NX3.out.below hB)
  replace NX4 := Lib.hid (NX4.out.below hB)
  replace NX5 := Lib.hid (NX5.out.below hB)
  replace NX6 := Lib.hid (NX6.out.below hB)
  have HS7 := Lib.hid hs
  clear hY hB hs j
  have HY7 := HY
  clear HY
  have HE7 := Lib.hid (show w54.heap.size = w54.heap.size from rfl)
  generalize he7 : w54.heap.size = e7 at *
  clear HE7
  obtain ⟨Z56, hZ, hB, hs, j⟩ := entA Y55 31 #[.int .i64 0, .slice none 0 0, .int .i64 0, .slice (some ⟨e1, 0, none⟩) 1 1, .int .i64 1, .slice (some ⟨e2, 0, none⟩) 2 2, .int .i64 1, .slice (some ⟨e3, 0, none⟩) 2 2, .int .i64 1, .slice (some ⟨e4, 0, none⟩) 3 3, .int .i64 1, .slice (some ⟨e5, 0, none⟩) 3 3, .int .i64 7, .slice (some ⟨e6, 0, none⟩) 1 1, .int .i64 (-1), .slice (some ⟨e7, 0, none⟩) 1 1]
  replace K := Lib.hid (next_below K.out hB)
  replace N1 := Lib.hid (N1.out.below hB)
  replace J1 := Lib.hid (J1.out.next hB)
  replace N2 := Lib.hid (N2.out.below hB)
  replace J2 := Lib.hid (J2.out.next hB)
  replace N3 := Lib.hid (N3.out.below hB)
  replace J3 := Lib.hid (J3.out.next hB)
  replace N4 := Lib.hid (N4.out.below hB)
  replace J4 := Lib.hid (J4.out.next hB)
  replace NX1 := Lib.hid (NX1.out.below hB)
  replace NX2 := Lib.hid (NX2.out.below hB)
  replace NX3 := Lib.hid (NX3.out.below hB)
  replace NX4 := Lib.hid (NX4.out.below hB)
  replace NX5 := Lib.hid (NX5.out.below hB)
  replace NX6 := Lib.hid (NX6.out.below hB)
  replace NX7 := Lib.hid (NX7.out.below hB)
  have JZ := Lib.hid j
  have HZ := Lib.hid hZ
  have HE7 := Lib.hid he7
  clear hZ hB hs j he7
  go_upto_region 21 with fail
  rw [HE7.out]
  rw [← HS7.out]
  rw [← HY7.out, ← HZ.out]
  clear HY7 HZ HE7 HS7
  generalize Y55.heap.size = gz at *
  have K0 := Lib.hid (Below.refl Z56.heap.size Z56)
  go_loopw [207] (fun u207 wr => ∃ k : Nat, k ≤ 8 ∧ u207 = .int .i64 (k : Int) ∧ Hid (Below Z56.heap.size Z56 wr)) (fun u207 _ => 8 - (intOf u207).toNat)
  case atStart => exact ⟨0, by omega, rfl, K0⟩
  case round =>
    clear K0
    obtain ⟨k, hk, rfl, hB⟩ := hrel
    by_cases hlt : k < 8
    · have hlti : (k : Int) < 8 := by omega
      have HX8 : ∃ (mk : Int) (ak : Option Addr) (nk ck : Nat) (Lk : List Nd), wr.cell? ⟨gz, k * 2, none⟩ = some (.int .i64 mk) ∧ wr.cell? ⟨gz, k * 2 + 1, none⟩ = some (.slice ak nk ck) ∧ DgIn wr (.agg #[.int .i64 mk, .slice ak nk ck]) mk Lk ∧ vldN mk Lk = false := by
        have b := JZ.out.next hB.out
        obtain rfl | rfl | rfl | rfl | rfl | rfl | rfl | rfl : k = 0 ∨ k = 1 ∨ k = 2 ∨ k = 3 ∨ k = 4 ∨ k = 5 ∨ k = 6 ∨ k = 7 := by omega
        · exact ⟨0, none, 0, 0, [], b.cell 0, b.cell 1, dgIn_of (Nds.nil _) (by decide) (by decide), kx0⟩
        · exact ⟨0, some ⟨e1, 0, none⟩, 1, 1, LX1, b.cell 2, b.cell 3, dgIn_of (NX1.out.below hB.out) (by decide) (by decide), kx1⟩
        · exact ⟨1, some ⟨e2, 0, none⟩, 2, 2, LX2, b.cell 4, b.cell 5, dgIn_of (NX2.out.below hB.out) (by decide) (by decide), kx2⟩
        · exact ⟨1, some ⟨e3, 0, none⟩, 2, 2, LX3, b.cell 6, b.cell 7, dgIn_of (NX3.out.below hB.out) (by decide) (by decide), kx3⟩
        · exact ⟨1, some ⟨e4, 0, none⟩, 3, 3, LX4, b.cell 8, b.cell 9, dgIn_of (NX4.out.below hB.out) (by decide) (by decide), kx4⟩
        · exact ⟨1, some ⟨e5, 0, none⟩, 3, 3, LX5, b.cell 10, b.cell 11, dgIn_of (NX5.out.below hB.out) (by decide) (by decide), kx5⟩
        · exact ⟨7, some ⟨e6, 0, none⟩, 1, 1, LX6, b.cell 12, b.cell 13, dgIn_of (NX6.out.below hB.out) (by decide) (by decide), kx6⟩
        · exact ⟨-1, some ⟨e7, 0, none⟩, 1, 1, LX7, b.cell 14, b.cell 15, dgIn_of (NX7.out.below hB.out) (by decide) (by decide), kx7⟩
      obtain ⟨mk, ak, nk, ck, Lk, z0, z1, hd, hv⟩ := HX8
      have DX := Lib.hid hd
      have HV := Lib.hid hv
      clear hd hv
      have KQ := Lib.hid hB.out
      have NQ := Lib.hid (N1.out.below hB.out)
      have JQ := Lib.hid (J1.out.next hB.out)
      have KW := Lib.hid (next_below K.out hB.out)
      obtain ⟨X35, hX, hB9, hs, j⟩ := entA wr 31 #[.int .i64 mk, .slice ak nk ck]
      replace KQ := Lib.hid (next_below KQ.out hB9)
      replace KW := Lib.hid (next_below KW.out hB9)
      replace DX := Lib.hid (DX.out.below hB9)
      replace NQ := Lib.hid (NQ.out.below hB9)
      replace JQ := Lib.hid (JQ.out.next hB9)
      have J35 := Lib.hid j
      have HX := Lib.hid hX
      clear hX hB9 hs j
      go_upto_region 23 with fail
      rw [← HX.out]
      clear HX z0 z1
      generalize wr.heap.size = gx at *
      have x0 : X35.cell? ⟨gx, 0, none⟩ = some (.int .i64 mk) := J35.out.cell 0
      have x1 : X35.cell? ⟨gx, 1, none⟩ = some (.slice ak nk ck) := J35.out.cell 1
      have d0 : X35.cell? ⟨g1, 0, none⟩ = some (.int .i64 2) := JQ.out.cell 0
      have d1 : X35.cell? ⟨g1, 1, none⟩ = some (.slice a1 3 c1) := JQ.out.cell 1
      have HC := Lib.hid (bApply HV.out DX.out (ld_in NQ.out) (HG.out _ KW.out))
      go_wp2_with fail
      refine (HC.out).mono ?_
      rintro e v1 ⟨aa, cc, rfl, -, hb⟩
      clear HC x0 x1 d0 d1
      replace KQ := Lib.hid (next_below KQ.out hb)
      replace KW := Lib.hid (next_below KW.out hb)
      replace DX := Lib.hid (DX.out.below hb)
      replace NQ := Lib.hid (NQ.out.below hb)
      replace JQ := Lib.hid (JQ.out.next hb)
      replace J35 := Lib.hid (J35.out.next hb)
      clear hb
      obtain ⟨U1, hX, hB9, hs, j⟩ := entA v1 31 #[.int .i64 0, .slice aa 0 cc]
      replace KQ := Lib.hid (next_below KQ.out hB9)
      replace KW := Lib.hid (next_below KW.out hB9)
      replace DX := Lib.hid (DX.out.below hB9)
      replace NQ := Lib.hid (NQ.out.below hB9)
      replace JQ := Lib.hid (JQ.out.next hB9)
      replace J35 := Lib.hid (J35.out.next hB9)
      have HX := Lib.hid hX
      clear hX hB9 hs j
      go_upto_region 24 with fail
      rw [← HX.out]
      clear HX
      have x0 : U1.cell? ⟨gx, 0, none⟩ = some (.int .i64 mk) := J35.out.cell 0
      have x1 : U1.cell? ⟨gx, 1, none⟩ = some (.slice ak nk ck) := J35.out.cell 1
      have d0 : U1.cell? ⟨g1, 0, none⟩ = some (.int .i64 2) := JQ.out.cell 0
      have d1 : U1.cell? ⟨g1, 1, none⟩ = some (.slice a1 3 c1) := JQ.out.cell 1
      have HC := Lib.hid (bApply2 HV.out DX.out (ld_in NQ.out) (HG.out _ KW.out))
      go_wp2_with fail
      refine (HC.out).mono ?_
      rintro e v2 ⟨aa, cc, rfl, -, hb⟩
      clear HC x0 x1 d0 d1
      replace KQ := Lib.hid (next_below KQ.out hb)
      replace KW := Lib.hid (next_below KW.out hb)
      replace DX := Lib.hid (DX.out.below hb)
      replace NQ := Lib.hid (NQ.out.below hb)
      replace JQ := Lib.hid (JQ.out.next hb)
      replace J35 := Lib.hid (J35.out.next hb)
      clear hb
      obtain ⟨U2, hX, hB9, hs, j⟩ := entA v2 31 #[.int .i64 0, .slice aa 0 cc]
      replace KQ := Lib.hid (next_below KQ.out hB9)
      replace KW := Lib.hid (next_below KW.out hB9)
      replace DX := Lib.hid (DX.out.below hB9)
      replace NQ := Lib.hid (NQ.out.below hB9)
      replace JQ := Lib.hid (JQ.out.next hB9)
      replace J35 := Lib.hid (J35.out.next hB9)
      have HX := Lib.hid hX
      clear hX hB9 hs j
      go_upto_region 25 with fail
      rw [← HX.out]
      clear HX
      have x0 : U2.cell? ⟨gx, 0, none⟩ = some (.int .i64 mk) := J35.out.cell 0
      have x1 : U2.cell? ⟨gx, 1, none⟩ = some (.slice ak nk ck) := J35.out.cell 1
      have HC := Lib.hid (bFix HV.out DX.out (HG.out _ KW.out))
      go_wp2_with fail
      refine (HC.out).mono ?_
      rintro e v3 ⟨aa, cc, rfl, -, hb⟩
      clear HC x0 x1
      replace KQ := Lib.hid (next_below KQ.out hb)
      replace KW := Lib.hid (next_below KW.out hb)
      replace DX := Lib.hid (DX.out.below hb)
      replace NQ := Lib.hid (NQ.out.below hb)
      replace JQ := Lib.hid (JQ.out.next hb)
      replace J35 := Lib.hid (J35.out.next hb)
      clear hb
      obtain ⟨U3, hX, hB9, hs, j⟩ := entA v3 31 #[.int .i64 0, .slice aa 0 cc]
      replace KQ := Lib.hid (next_below KQ.out hB9)
      replace KW := Lib.hid (next_below KW.out hB9)
      replace DX := Lib.hid (DX.out.below hB9)
      replace NQ := Lib.hid (NQ.out.below hB9)
      replace JQ := Lib.hid (JQ.out.next hB9)
      replace J35 := Lib.hid (J35.out.next hB9)
      have HX := Lib.hid hX
      clear hX hB9 hs j
      go_upto_region 26 with fail
      rw [← HX.out]
      clear HX
      have x0 : U3.cell? ⟨gx, 0, none⟩ = some (.int .i64 mk) := J35.out.cell 0
      have x1 : U3.cell? ⟨gx, 1, none⟩ = some (.slice ak nk ck) := J35.out.cell 1
      have HC := Lib.hid (kCheck HV.out DX.out (HG.out _ KW.out))
      go_wp2_with fail
      refine (HC.out).mono ?_
      rintro e v4 ⟨rfl, hb⟩
      clear HC x0 x1
      replace KQ := Lib.hid (next_below KQ.out hb)
      replace KW := Lib.hid (next_below KW.out hb)
      replace DX := Lib.hid (DX.out.below hb)
      replace NQ := Lib.hid (NQ.out.below hb)
      replace JQ := Lib.hid (JQ.out.next hb)
      replace J35 := Lib.hid (J35.out.next hb)
      clear hb
      go_wp2
      go_roundw
      case rel => exact ⟨k + 1, by omega, by go_num, KQ⟩
      case measure => simp [intOf]; omega
    · obtain rfl : k = 8 := by omega
      replace K := Lib.hid (next_below K.out hB.out)
      replace N1 := Lib.hid (N1.out.below hB.out)
      replace J1 := Lib.hid (J1.out.next hB.out)
      replace N2 := Lib.hid (N2.out.below hB.out)
      replace J2 := Lib.hid (J2.out.next hB.out)
      replace N3 := Lib.hid (N3.out.below hB.out)
      replace J3 := Lib.hid (J3.out.next hB.out)
      replace N4 := Lib.hid (N4.out.below hB.out)
      replace J4 := Lib.hid (J4.out.next hB.out)
      replace NX1 := Lib.hid (NX1.out.below hB.out)
      replace NX2 := Lib.hid (NX2.out.below hB.out)
      replace NX3 := Lib.hid (NX3.out.below hB.out)
      replace NX4 := Lib.hid (NX4.out.below hB.out)
      replace NX5 := Lib.hid (NX5.out.below hB.out)
      replace NX6 := Lib.hid (NX6.out.below hB.out)
      replace NX7 := Lib.hid (NX7.out.below hB.out)
      clear hB NX1 NX2 NX3 NX4 NX5 NX6 NX7 JZ
      go_upto_region 29 with fail
      obtain ⟨RB, hRB⟩ : ∃ S : ByteArray, S = ⟨(Lib.repeatL [48] 1999).toArray⟩ := ⟨_, rfl⟩
      obtain ⟨SB, hSB⟩ : ∃ S : ByteArray, S = ⟨BIG.toArray⟩ := ⟨_, rfl⟩
      have HC := Lib.hid (kRepeat wr)
      rw [← hRB] at HC
      have hsz : RB.size = 1999 := by rw [hRB]; exact rep_size 1999
      have HCAT := Lib.hid (show (⟨#[49]⟩ : ByteArray) ++ RB = SB from by rw [hRB, hSB]; exact big_cat)
      have HSB := Lib.hid hSB
      clear hRB hSB
      go_wp2_with fail
      refine (HC.out).mono ?_
      rintro e q1 ⟨rfl, hb⟩
      clear HC
      replace K := Lib.hid (next_below K.out hb)
      replace N1 := Lib.hid (N1.out.below hb)
      replace J1 := Lib.hid (J1.out.next hb)
      replace N2 := Lib.hid (N2.out.below hb)
      replace J2 := Lib.hid (J2.out.next hb)
      replace N3 := Lib.hid (N3.out.below hb)
      replace J3 := Lib.hid (J3.out.next hb)
      replace N4 := Lib.hid (N4.out.below hb)
      replace J4 := Lib.hid (J4.out.next hb)
      clear hb
      have hs1 : (⟨#[49]⟩ : ByteArray).size = 1 := rfl
      go_upto_region 30 with fail
      rw [HCAT.out]
      clear hs1 hsz HCAT
      obtain ⟨LT, hLT⟩ : ∃ l, l = dgN S1 1 := ⟨_, rfl⟩
      obtain ⟨LU, hLU⟩ : ∃ l, l = dgN T1 1 := ⟨_, rfl⟩
      have HT := Lib.hid (And.intro hLT (And.intro (show LT.length ≤ 1000000 by rw [hLT]; have := S1_tbl.size; omega) (show ∀ n ∈ LT, n.2.2.2.length ≤ 268435000 by rw [hLT]; exact S1_tbl.leaf)))
      have HU := Lib.hid (And.intro hLU (And.intro (show LU.length ≤ 1000000 by rw [hLU]; have := T1_tbl.size; omega) (show ∀ n ∈ LU, n.2.2.2.length ≤ 268435000 by rw [hLU]; exact T1_tbl.leaf)))
      have HOV := Lib.hid (show applyR 3 1 LT 1 LU = (0, [], 6) by rw [hLT, hLU]; exact kn_over)
      have HLS := Lib.hid (show applyR 5 1 LT 1 LU = (1, LU, 0) by rw [hLT, hLU]; exact kn_least)
      obtain ⟨lt, hlt'⟩ : ∃ l, l = LT.length := ⟨_, rfl⟩
      obtain ⟨lu, hlu'⟩ : ∃ l, l = LU.length := ⟨_, rfl⟩
      have HLT := Lib.hid hlt'
      have HLU := Lib.hid hlu'
      clear hLT hLU hlt' hlu'
      obtain ⟨Y57, hY57, hB, hs, j⟩ := entA q1 40 #[.string SB, .string ⟨#[49, 48]⟩]
      have Q := Lib.hid (show Qs Y57 (.slice (some ⟨q1.heap.size, 0, none⟩) 2 2) S1 from Qs.lit S1 j (by rw [HSB.out]; rfl) (by decide))
      have HY := Lib.hid hY57
      replace K := Lib.hid (next_below K.out hB)
      replace N1 := Lib.hid (N1.out.below hB)
      replace J1 := Lib.hid (J1.out.next hB)
      replace N2 := Lib.hid (N2.out.below hB)
      replace J2 := Lib.hid (J2.out.next hB)
      replace N3 := Lib.hid (N3.out.below hB)
      replace J3 := Lib.hid (J3.out.next hB)
      replace N4 := Lib.hid (N4.out.below hB)
      replace J4 := Lib.hid (J4.out.next hB)
      clear hY57 hB hs j
      have HC := Lib.hid ((show Calls Tryz.prog 12 #[.int .i64 1, _] _ (RetOk _ 1 lt LT) from by rw [HLT.out, HT.out.1]; exact of_tbl S1_tbl Q.out (HG.out _ K.out)))
      go_wp2_with fail
      rw [← HY.out]
      clear HY
      refine (HC.out).mono ?_
      rintro e w58 ⟨a5, c5, rfl, nn, hb⟩
      clear HC Q
      replace K := Lib.hid (next_below K.out hb)
      replace N1 := Lib.hid (N1.out.below hb)
      replace J1 := Lib.hid (J1.out.next hb)
      replace N2 := Lib.hid (N2.out.below hb)
      replace J2 := Lib.hid (J2.out.next hb)
      replace N3 := Lib.hid (N3.out.below hb)
      replace J3 := Lib.hid (J3.out.next hb)
      replace N4 := Lib.hid (N4.out.below hb)
      replace J4 := Lib.hid (J4.out.next hb)
      have N5 := Lib.hid nn
      clear nn hb
      obtain ⟨X59, hX, hB, hs, j⟩ := entA w58 31 #[.int .i64 1, .slice a5 lt c5]
      replace K := Lib.hid (next_below K.out hB)
      replace N1 := Lib.hid (N1.out.below hB)
      replace J1 := Lib.hid (J1.out.next hB)
      replace N2 := Lib.hid (N2.out.below hB)
      replace J2 := Lib.hid (J2.out.next hB)
      replace N3 := Lib.hid (N3.out.below hB)
      replace J3 := Lib.hid (J3.out.next hB)
      replace N4 := Lib.hid (N4.out.below hB)
      replace J4 := Lib.hid (J4.out.next hB)
      replace N5 := Lib.hid (N5.out.below hB)
      have J5 := Lib.hid j
      have HX := Lib.hid hX
      clear hX hB hs j
      go_upto_region 31 with fail
      rw [← HX.out]
      clear HX
      generalize w58.heap.size = g5 at *
      obtain ⟨Y60, hY60, hB, hs, j⟩ := entA X59 40 #[.string ⟨#[49, 48]⟩, .string ⟨#[49]⟩]
      have Q := Lib.hid (show Qs Y60 (.slice (some ⟨X59.heap.size, 0, none⟩) 2 2) T1 from Qs.lit T1 j rfl (by decide))
      have HY := Lib.hid hY60
      replace K := Lib.hid (next_below K.out hB)
      replace N1 := Lib.hid (N1.out.below hB)
      replace J1 := Lib.hid (J1.out.next hB)
      replace N2 := Lib.hid (N2.out.below hB)
      replace J2 := Lib.hid (J2.out.next hB)
      replace N3 := Lib.hid (N3.out.below hB)
      replace J3 := Lib.hid (J3.out.next hB)
      replace N4 := Lib.hid (N4.out.below hB)
      replace J4 := Lib.hid (J4.out.next hB)
      replace N5 := Lib.hid (N5.out.below hB)
      replace J5 := Lib.hid (J5.out.next hB)
      clear hY60 hB hs j
      have HC := Lib.hid ((show Calls Tryz.prog 12 #[.int .i64 1, _] _ (RetOk _ 1 lu LU) from by rw [HLU.out, HU.out.1]; exact of_tbl T1_tbl Q.out (HG.out _ K.out)))
      go_wp2_with fail
      rw [← HY.out]
      clear HY
      refine (HC.out).mono ?_
      rintro e w61 ⟨a6, c6, rfl, nn, hb⟩
      clear HC Q
      replace K := Lib.hid (next_below K.out hb)
      replace N1 := Lib.hid (N1.out.below hb)
      replace J1 := Lib.hid (J1.out.next hb)
      replace N2 := Lib.hid (N2.out.below hb)
      replace J2 := Lib.hid (J2.out.next hb)
      replace N3 := Lib.hid (N3.out.below hb)
      replace J3 := Lib.hid (J3.out.next hb)
      replace N4 := Lib.hid (N4.out.below hb)
      replace J4 := Lib.hid (J4.out.next hb)
      replace N5 := Lib.hid (N5.out.below hb)
      replace J5 := Lib.hid (J5.out.next hb)
      have N6 := Lib.hid nn
      clear nn hb
      obtain ⟨X62, hX, hB, hs, j⟩ := entA w61 31 #[.int .i64 1, .slice a6 lu c6]
      replace K := Lib.hid (next_below K.out hB)
      replace N1 := Lib.hid (N1.out.below hB)
      replace J1 := Lib.hid (J1.out.next hB)
      replace N2 := Lib.hid (N2.out.below hB)
      replace J2 := Lib.hid (J2.out.next hB)
      replace N3 := Lib.hid (N3.out.below hB)
      replace J3 := Lib.hid (J3.out.next hB)
      replace N4 := Lib.hid (N4.out.below hB)
      replace J4 := Lib.hid (J4.out.next hB)
      replace N5 := Lib.hid (N5.out.below hB)
      replace J5 := Lib.hid (J5.out.next hB)
      replace N6 := Lib.hid (N6.out.below hB)
      have J6 := Lib.hid j
      have HX := Lib.hid hX
      clear hX hB hs j
      go_upto_region 32 with fail
      rw [← HX.out]
      clear HX
      generalize w61.heap.size = g6 at *
      have x50 : X62.cell? ⟨g5, 0, none⟩ = some (.int .i64 1) := J5.out.cell 0
      have x51 : X62.cell? ⟨g5, 1, none⟩ = some (.slice a5 lt c5) := J5.out.cell 1
      have x60 : X62.cell? ⟨g6, 0, none⟩ = some (.int .i64 1) := J6.out.cell 0
      have x61 : X62.cell? ⟨g6, 1, none⟩ = some (.slice a6 lu c6) := J6.out.cell 1
      have HC := Lib.hid (kApply (n := 0) HOV.out rfl (dgIn_of N5.out HT.out.2.1 HT.out.2.2) (dgIn_of N6.out HU.out.2.1 HU.out.2.2) (HG.out _ K.out))
      go_wp2_with fail
      refine (HC.out).mono ?_
      rintro e w63 ⟨a63, c63, rfl, nn, hb⟩
      clear x50 x51
      clear x60 x61
      clear HC
      replace K := Lib.hid (next_below K.out hb)
      replace N1 := Lib.hid (N1.out.below hb)
      replace J1 := Lib.hid (J1.out.next hb)
      replace N2 := Lib.hid (N2.out.below hb)
      replace J2 := Lib.hid (J2.out.next hb)
      replace N3 := Lib.hid (N3.out.below hb)
      replace J3 := Lib.hid (J3.out.next hb)
      replace N4 := Lib.hid (N4.out.below hb)
      replace J4 := Lib.hid (J4.out.next hb)
      replace N5 := Lib.hid (N5.out.below hb)
      replace J5 := Lib.hid (J5.out.next hb)
      replace N6 := Lib.hid (N6.out.below hb)
      replace J6 := Lib.hid (J6.out.next hb)
      clear nn hb
      obtain ⟨X64, hX, hB, hs, j⟩ := entA w63 31 #[.int .i64 0, .slice a63 0 c63]
      replace K := Lib.hid (next_below K.out hB)
      replace N1 := Lib.hid (N1.out.below hB)
      replace J1 := Lib.hid (J1.out.next hB)
      replace N2 := Lib.hid (N2.out.below hB)
      replace J2 := Lib.hid (J2.out.next hB)
      replace N3 := Lib.hid (N3.out.below hB)
      replace J3 := Lib.hid (J3.out.next hB)
      replace N4 := Lib.hid (N4.out.below hB)
      replace J4 := Lib.hid (J4.out.next hB)
      replace N5 := Lib.hid (N5.out.below hB)
      replace J5 := Lib.hid (J5.out.next hB)
      replace N6 := Lib.hid (N6.out.below hB)
      replace J6 := Lib.hid (J6.out.next hB)
      have HX := Lib.hid hX
      clear hX hB hs j
      go_upto_region 33 with fail
      rw [← HX.out]
      clear HX
      generalize w63.heap.size = g63 at *
      have x50 : X64.cell? ⟨g5, 0, none⟩ = some (.int .i64 1) := J5.out.cell 0
      have x51 : X64.cell? ⟨g5, 1, none⟩ = some (.slice a5 lt c5) := J5.out.cell 1
      have x60 : X64.cell? ⟨g6, 0, none⟩ = some (.int .i64 1) := J6.out.cell 0
      have x61 : X64.cell? ⟨g6, 1, none⟩ = some (.slice a6 lu c6) := J6.out.cell 1
      have HC := Lib.hid (kApply (n := lu) HLS.out HLU.out.symm (dgIn_of N5.out HT.out.2.1 HT.out.2.2) (dgIn_of N6.out HU.out.2.1 HU.out.2.2) (HG.out _ K.out))
      go_wp2_with fail
      refine (HC.out).mono ?_
      rintro e w65 ⟨a7, c7, rfl, nn, hb⟩
      clear x50 x51
      clear x60 x61
      clear HC
      replace K := Lib.hid (next_below K.out hb)
      replace N1 := Lib.hid (N1.out.below hb)
      replace J1 := Lib.hid (J1.out.next hb)
      replace N2 := Lib.hid (N2.out.below hb)
      replace J2 := Lib.hid (J2.out.next hb)
      replace N3 := Lib.hid (N3.out.below hb)
      replace J3 := Lib.hid (J3.out.next hb)
      replace N4 := Lib.hid (N4.out.below hb)
      replace J4 := Lib.hid (J4.out.next hb)
      replace N5 := Lib.hid (N5.out.below hb)
      replace J5 := Lib.hid (J5.out.next hb)
      replace N6 := Lib.hid (N6.out.below hb)
      replace J6 := Lib.hid (J6.out.next hb)
      have N7 := Lib.hid nn
      clear nn hb
      obtain ⟨X66, hX, hB, hs, j⟩ := entA w65 31 #[.int .i64 1, .slice a7 lu c7]
      replace K := Lib.hid (next_below K.out hB)
      replace N1 := Lib.hid (N1.out.below hB)
      replace J1 := Lib.hid (J1.out.next hB)
      replace N2 := Lib.hid (N2.out.below hB)
      replace J2 := Lib.hid (J2.out.next hB)
      replace N3 := Lib.hid (N3.out.below hB)
      replace J3 := Lib.hid (J3.out.next hB)
      replace N4 := Lib.hid (N4.out.below hB)
      replace J4 := Lib.hid (J4.out.next hB)
      replace N5 := Lib.hid (N5.out.below hB)
      replace J5 := Lib.hid (J5.out.next hB)
      replace N6 := Lib.hid (N6.out.below hB)
      replace J6 := Lib.hid (J6.out.next hB)
      replace N7 := Lib.hid (N7.out.below hB)
      have J7 := Lib.hid j
      have HX := Lib.hid hX
      clear hX hB hs j
      go_upto_region 34 with fail
      rw [← HX.out]
      clear HX
      generalize w65.heap.size = g7 at *
      have hBd : Below X66.heap.size X66 X66.drew := (Below.refl _ _).drew
      refine wp_region_list 48 (by kernel_rfl) (by kernel_rfl) [] [fun xv _ => xv = .bool true, fun xv _ => xv = .bool true, fun xv _ => xv = .int .i64 0, fun xv _ => xv = .bool true, fun xv _ => xv = .bool true, fun xv _ => xv = .bool true, fun xv _ => xv = .int .i64 0, fun xv _ => xv = .bool true, fun xv _ => xv = .bool true, fun xv _ => xv = .bool true, fun xv _ => xv = .int .i64 6, fun xv _ => xv = .bool true, fun xv _ => xv = .bool true, fun xv _ => xv = .bool true, fun xv _ => xv = .agg #[.int .i64 1, .slice a7 lu c7], fun xv _ => xv = .int .i64 0, fun xv w' => Qs w' xv T1, fun xv _ => xv = .bool true, fun xv _ => xv = .bool true, fun xv _ => xv = .bool true, fun xv _ => xv = .agg #[.int .i64 1, .slice a2 1 c2], fun xv _ => xv = .int .i64 0, fun xv _ => xv = .agg #[.int .i64 1, .int .i64 0, .int .i64 0, .string ⟨#[53]⟩], fun xv w' => Nds w' xv LE, fun xv _ => xv = .bool true, fun xv _ => xv = .bool true, fun xv _ => xv = .bool true, fun xv _ => xv = .agg #[.int .i64 0, .slice a3 1 c3], fun xv _ => xv = .int .i64 0, fun xv _ => xv = .agg #[.int .i64 0, .int .i64 0, .int .i64 0, .string ⟨#[55]⟩], fun xv w' => Nds w' xv LF, fun xv _ => xv = .bool true, fun xv _ => xv = .bool true, fun xv _ => xv = .bool true, fun xv _ => xv = .agg #[.int .i64 2, .slice a4 1 c4], fun xv _ => xv = .int .i64 0, fun xv w' => Qs w' xv TC, fun xv _ => xv = .bool true, fun xv _ => xv = .bool true, fun xv _ => xv = .bool true, fun xv _ => xv = .string ⟨#[48]⟩, fun xv _ => xv = .bool true, fun xv _ => xv = .bool true, fun xv _ => xv = .bool true, fun xv _ => xv = .int .i64 0, fun xv _ => xv = .bool true, fun xv _ => xv = .bool true, fun xv _ => xv = .bool true] (by simp only [List.take_succ_cons, List.take_zero]; rfl) (by simp only [List.drop_succ_cons, List.drop_zero]; rfl) (fun vals => by simp only [fam, Act.put, List.setIfInBounds_toArray, List.set_cons_zero, List.set_cons_succ, if_true]; rfl) (by repeat' (first | exact Stab.eq _ _ | exact Stab.wh _ _ | exact Stab.nm _ _ | exact Stab.new _ _ | exact Stab.newn _ _ | exact Stab.tw _ _ _ | exact Stab.lm _ _ _ | exact Stab.onet _ _ _ | exact Stab.pl _ _ _ | exact Stab.dg _ _ _ | exact Stab.nds _ _ | exact Stab.qs _ _ | exact trivial | apply And.intro)) trivial ?_ ?_
      · refine ⟨?_, ?_, ?_, ?_, ?_, ?_, ?_, ?_, ?_, ?_, ?_, ?_, ?_, ?_, ?_, ?_, ?_, ?_, ?_, ?_, ?_, ?_, ?_, ?_, ?_, ?_, ?_, ?_, ?_, ?_, ?_, ?_, ?_, ?_, ?_, ?_, ?_, ?_, ?_, ?_, ?_, ?_, ?_, ?_, ?_, ?_, ?_, ?_, trivial⟩
        all_goals
          intro vals wy hB1 hp
          dsimp only
          (try simp [preOk, Region.binds, r_anygc, r_anytext] at hp)
          have hb := next_below hBd hB1
          have KU := Lib.hid (next_below K.out hb)
          (try simp only [hp])
          clear hB1
        case refine_15 =>
          have y0 : wy.cell? ⟨g7, 0, none⟩ = some (.int .i64 1) := (J7.out.next hb).cell 0
          have y1 : wy.cell? ⟨g7, 1, none⟩ = some (.slice a7 lu c7) := (J7.out.next hb).cell 1
          go_wp2
          (first | exact ⟨rfl, _, rfl, rfl, Below.refl _ _, trivial⟩ | (refine ⟨rfl, _, ?_, rfl, Below.refl _ _, trivial⟩; simp only [Act.put, List.setIfInBounds_toArray, List.set_cons_zero, List.set_cons_succ, Nat.zero_add, Nat.reduceAdd, hp]))
        case refine_17 =>
          go_wp2
          (first | exact ⟨rfl, _, rfl, Qs.lit T1 (Blk.new _ _ _) rfl (by decide), (Below.refl _ _).alloc (Nat.le_refl _) _, trivial⟩ | (refine ⟨rfl, _, ?_, Qs.lit T1 (Blk.new _ _ _) rfl (by decide), (Below.refl _ _).alloc (Nat.le_refl _) _, trivial⟩; simp only [Act.put, List.setIfInBounds_toArray, List.set_cons_zero, List.set_cons_succ, Nat.zero_add, Nat.reduceAdd, hp]))
        case refine_18 =>
          have hn := hp.2.2.1
          have hdd : DgIn wy (.agg #[.int .i64 1, .slice a7 lu c7]) 1 (dgN T1 1) := by rw [← HU.out.1]; exact dgIn_of (N7.out.below hb) HU.out.2.1 HU.out.2.2
          have HCL := lists_tbl T1_tbl hdd hn (HG.out _ KU.out)
          go_wp2_with fail
          refine HCL.mono ?_
          rintro e w' ⟨rfl, hb2⟩
          go_wp2
          (first | exact ⟨rfl, _, rfl, rfl, hb2, trivial⟩ | (refine ⟨rfl, _, ?_, rfl, hb2, trivial⟩; simp only [Act.put, List.setIfInBounds_toArray, List.set_cons_zero, List.set_cons_succ, Nat.zero_add, Nat.reduceAdd, hp]))
        case refine_21 =>
          have y0 : wy.cell? ⟨g2, 0, none⟩ = some (.int .i64 1) := (J2.out.next hb).cell 0
          have y1 : wy.cell? ⟨g2, 1, none⟩ = some (.slice a2 1 c2) := (J2.out.next hb).cell 1
          go_wp2
          (first | exact ⟨rfl, _, rfl, rfl, Below.refl _ _, trivial⟩ | (refine ⟨rfl, _, ?_, rfl, Below.refl _ _, trivial⟩; simp only [Act.put, List.setIfInBounds_toArray, List.set_cons_zero, List.set_cons_succ, Nat.zero_add, Nat.reduceAdd, hp]))
        case refine_23 =>
          go_wp2_with fail
          refine (leaf_any _ _).mono ?_
          rintro e w' ⟨rfl, hb2⟩
          go_wp2
          (first | exact ⟨rfl, _, rfl, rfl, hb2, trivial⟩ | (refine ⟨rfl, _, ?_, rfl, hb2, trivial⟩; simp only [Act.put, List.setIfInBounds_toArray, List.set_cons_zero, List.set_cons_succ, Nat.zero_add, Nat.reduceAdd, hp]))
        case refine_24 =>
          go_wp2
          (first | exact ⟨rfl, _, rfl, Nds.lit LE (Blk.new _ _ _) rfl (by decide) (by decide), (Below.refl _ _).alloc (Nat.le_refl _) _, trivial⟩ | (refine ⟨rfl, _, ?_, Nds.lit LE (Blk.new _ _ _) rfl (by decide) (by decide), (Below.refl _ _).alloc (Nat.le_refl _) _, trivial⟩; simp only [Act.put, List.setIfInBounds_toArray, List.set_cons_zero, List.set_cons_succ, Nat.zero_add, Nat.reduceAdd, hp]))
        case refine_25 =>
          have hn := hp.2.2.1
          go_wp2_with fail
          refine (is_true ⟨_, rfl, N2.out.below hb⟩ hn (by decide)).mono ?_
          rintro e w' ⟨rfl, hb2⟩
          go_wp2
          (first | exact ⟨rfl, _, rfl, rfl, hb2, trivial⟩ | (refine ⟨rfl, _, ?_, rfl, hb2, trivial⟩; simp only [Act.put, List.setIfInBounds_toArray, List.set_cons_zero, List.set_cons_succ, Nat.zero_add, Nat.reduceAdd, hp]))
        case refine_28 =>
          have y0 : wy.cell? ⟨g3, 0, none⟩ = some (.int .i64 0) := (J3.out.next hb).cell 0
          have y1 : wy.cell? ⟨g3, 1, none⟩ = some (.slice a3 1 c3) := (J3.out.next hb).cell 1
          go_wp2
          (first | exact ⟨rfl, _, rfl, rfl, Below.refl _ _, trivial⟩ | (refine ⟨rfl, _, ?_, rfl, Below.refl _ _, trivial⟩; simp only [Act.put, List.setIfInBounds_toArray, List.set_cons_zero, List.set_cons_succ, Nat.zero_add, Nat.reduceAdd, hp]))
        case refine_30 =>
          go_wp2_with fail
          refine (leaf_any _ _).mono ?_
          rintro e w' ⟨rfl, hb2⟩
          go_wp2
          (first | exact ⟨rfl, _, rfl, rfl, hb2, trivial⟩ | (refine ⟨rfl, _, ?_, rfl, hb2, trivial⟩; simp only [Act.put, List.setIfInBounds_toArray, List.set_cons_zero, List.set_cons_succ, Nat.zero_add, Nat.reduceAdd, hp]))
        case refine_31 =>
          go_wp2
          (first | exact ⟨rfl, _, rfl, Nds.lit LF (Blk.new _ _ _) rfl (by decide) (by decide), (Below.refl _ _).alloc (Nat.le_refl _) _, trivial⟩ | (refine ⟨rfl, _, ?_, Nds.lit LF (Blk.new _ _ _) rfl (by decide) (by decide), (Below.refl _ _).alloc (Nat.le_refl _) _, trivial⟩; simp only [Act.put, List.setIfInBounds_toArray, List.set_cons_zero, List.set_cons_succ, Nat.zero_add, Nat.reduceAdd, hp]))
        case refine_32 =>
          have hn := hp.2.2.1
          go_wp2_with fail
          refine (is_true ⟨_, rfl, N3.out.below hb⟩ hn (by decide)).mono ?_
          rintro e w' ⟨rfl, hb2⟩
          go_wp2
          (first | exact ⟨rfl, _, rfl, rfl, hb2, trivial⟩ | (refine ⟨rfl, _, ?_, rfl, hb2, trivial⟩; simp only [Act.put, List.setIfInBounds_toArray, List.set_cons_zero, List.set_cons_succ, Nat.zero_add, Nat.reduceAdd, hp]))
        case refine_35 =>
          have y0 : wy.cell? ⟨g4, 0, none⟩ = some (.int .i64 2) := (J4.out.next hb).cell 0
          have y1 : wy.cell? ⟨g4, 1, none⟩ = some (.slice a4 1 c4) := (J4.out.next hb).cell 1
          go_wp2
          (first | exact ⟨rfl, _, rfl, rfl, Below.refl _ _, trivial⟩ | (refine ⟨rfl, _, ?_, rfl, Below.refl _ _, trivial⟩; simp only [Act.put, List.setIfInBounds_toArray, List.set_cons_zero, List.set_cons_succ, Nat.zero_add, Nat.reduceAdd, hp]))
        case refine_37 =>
          go_wp2
          (first | exact ⟨rfl, _, rfl, Qs.lit TC (Blk.new _ _ _) rfl (by decide), (Below.refl _ _).alloc (Nat.le_refl _) _, trivial⟩ | (refine ⟨rfl, _, ?_, Qs.lit TC (Blk.new _ _ _) rfl (by decide), (Below.refl _ _).alloc (Nat.le_refl _) _, trivial⟩; simp only [Act.put, List.setIfInBounds_toArray, List.set_cons_zero, List.set_cons_succ, Nat.zero_add, Nat.reduceAdd, hp]))
        case refine_38 =>
          have hn := hp.2.2.1
          go_wp2_with fail
          refine (wk_lc (dgIn_of (N4.out.below hb) (by decide) (by decide)) hn (HG.out _ KU.out)).mono ?_
          rintro e w' ⟨rfl, hb2⟩
          go_wp2
          (first | exact ⟨rfl, _, rfl, rfl, hb2, trivial⟩ | (refine ⟨rfl, _, ?_, rfl, hb2, trivial⟩; simp only [Act.put, List.setIfInBounds_toArray, List.set_cons_zero, List.set_cons_succ, Nat.zero_add, Nat.reduceAdd, hp]))
        all_goals
          go_wp2
          (first | exact ⟨rfl, _, rfl, rfl, Below.refl _ _, trivial⟩ | (refine ⟨rfl, _, ?_, rfl, Below.refl _ _, trivial⟩; simp only [Act.put, List.setIfInBounds_toArray, List.set_cons_zero, List.set_cons_succ, Nat.zero_add, Nat.reduceAdd, hp]))
      · rintro vals w7 hB1 ⟨p0, p1, p2, p3, p4, p5, p6, p7, p8, p9, p10, p11, p12, p13, p14, p15, p16, p17, p18, p19, p20, p21, p22, p23, p24, p25, p26, p27, p28, p29, p30, p31, p32, p33, p34, p35, p36, p37, p38, p39, p40, p41, p42, p43, p44, p45, p46, p47, _⟩ hne
        have hb := next_below hBd hB1
        simp only [List.getD_cons_zero, List.getD_cons_succ, Nat.zero_add, Nat.reduceAdd] at p47
        have K7 := Lib.hid (next_below K.out hb)
        clear hb hB1 hBd hne p0 p1 p2 p3 p4 p5 p6 p7 p8 p9 p10 p11 p12 p13 p14 p15 p16 p17 p18 p19 p20 p21 p22 p23 p24 p25 p26 p27 p28 p29 p30 p31 p32 p33 p34 p35 p36 p37 p38 p39 p40 p41 p42 p43 p44 p45 p46
        rw [p47]
        clear p47
        go_wp2
        go_ret
        exact ⟨rfl, K7.out⟩
end Go.Proofs.YtpmlmibceiolpaaGreatDoor
