/- DrawKnown returns true. -/
import Derived.Test.YtfjjdjhnodcfhaaGreatDoorDWorks
set_option linter.unusedSimpArgs false
set_option linter.unusedVariables false
namespace Go.Proofs.YtfjjdjhnodcfhaaGreatDoor
open Go.RowKit
open Go.Lib (decDigits itoa nDigits)
open D4 (rt it Mid)

theorem ext_take (l : List UInt8) (m : Nat) : (⟨l.toArray⟩ : ByteArray).extract 0 m = ⟨(l.take m).toArray⟩ := by
  have h := extract_list l 0 m
  simpa using h
theorem ba_app (a b : List UInt8) : (⟨a.toArray⟩ : ByteArray) ++ ⟨b.toArray⟩ = ⟨(a ++ b).toArray⟩ := by
  apply ByteArray.ext; simp [ByteArray.data_append]
def LN : List UInt8 := Lib.repeatL [48, 49] 100
def NT : ByteArray := ⟨LN.toArray⟩
theorem LN_len : LN.length = 200 := by unfold LN; rw [Lib.repeatL_length]; rfl
theorem NT_size : NT.size = 200 := by unfold NT; rw [ba_size, LN_len]
theorem NE_size : (NT.extract 0 199).size = 199 := by unfold NT; rw [ext_take, ba_size, List.length_take, LN_len]; rfl
theorem rep_long {w : World} : Calls Tryz.prog 10 #[.string ⟨#[48, 49]⟩, .int .i64 100] w (RetV w (.string NT)) := rep_any [48, 49] 100 (by decide) (by decide)
def W12 : List (List UInt8) := [[49, 47, 51], [50, 47, 51]]
theorem long_a {w : World} {v : Value} (hv : Qs w v W12) (hg : Good w) : Calls Tryz.prog 15 #[v, .string NT, .int .i64 4] w (RetV w (.bool true)) :=
  fails_true (u := 4) W12 LN (by decide +kernel) (by rw [LN_len]; decide) (by decide) (by decide) hv hg
theorem long_b {w : World} {v : Value} (hv : Qs w v W12) (hg : Good w) : Calls Tryz.prog 15 #[v, .string (NT ++ ⟨#[120]⟩), .int .i64 5] w (RetV w (.bool true)) := by
  have h := fails_true (u := 5) W12 (LN ++ [120]) (by decide +kernel) (by rw [List.length_append, LN_len]; decide) (by decide) (by decide) hv hg
  rw [← ba_app] at h
  exact h
theorem long_c {w : World} {v : Value} (hv : Qs w v W12) (hg : Good w) : Calls Tryz.prog 15 #[v, .string (NT ++ ⟨#[49]⟩), .int .i64 3] w (RetV w (.bool true)) := by
  have h := fails_true (u := 3) W12 (LN ++ [49]) (by decide +kernel) (by rw [List.length_append, LN_len]; decide) (by decide) (by decide) hv hg
  rw [← ba_app] at h
  exact h
theorem long_d {w : World} {v : Value} (hv : Qs w v W12) (hg : Good w) : Calls Tryz.prog 14 #[v, .string (NT.extract 0 199 ++ ⟨#[48]⟩), .int .i64 0, .int .i64 200] w (RetV w (.bool true)) := by
  have h := drawn_true (i := 0) (u := 200) W12 (LN.take 199 ++ [48]) (by decide +kernel) (by rw [List.length_append, List.length_take, LN_len]; decide) (by decide) (by decide) hv hg
  rw [← ba_app, ← ext_take] at h
  exact h
theorem many_ck {w : World} {v : Value} (hv : Qs w v (List.replicate 16 [49, 47, 49, 54])) (hg : Good w) : Calls Tryz.prog 13 #[v] w (RetV w (.int .i64 0)) := by
  have h := dcheck_any (List.replicate 16 [49, 47, 49, 54]) (by decide) (by decide) hv hg
  have e0 : (if okW (List.replicate 16 [49, 47, 49, 54]) then (0 : Int) else 100) = 0 := by decide +kernel
  rw [e0] at h
  exact h
theorem many_dr {w : World} {v : Value} (hv : Qs w v (List.replicate 16 [49, 47, 49, 54])) (hg : Good w) : Calls Tryz.prog 14 #[v, .string ⟨#[49, 48, 49, 48]⟩, .int .i64 10, .int .i64 4] w (RetV w (.bool true)) :=
  drawn_true (i := 10) (u := 4) (List.replicate 16 [49, 47, 49, 54]) [49, 48, 49, 48] (by decide +kernel) (by decide) (by decide) (by decide) hv hg
theorem more_ck {w : World} {v : Value} (hv : Qs w v ((List.replicate 16 [49, 47, 49, 54]) ++ [[48]])) (hg : Good w) : Calls Tryz.prog 13 #[v] w (RetV w (.int .i64 100)) := by
  have h := dcheck_any ((List.replicate 16 [49, 47, 49, 54]) ++ [[48]]) (by decide) (by decide) hv hg
  have e0 : (if okW ((List.replicate 16 [49, 47, 49, 54]) ++ [[48]]) then (0 : Int) else 100) = 100 := by decide +kernel
  rw [e0] at h
  exact h
theorem kn_0 {w : World} {v : Value} (hv : Qs w v ([] : List (List UInt8))) (hg : Good w) : Calls Tryz.prog 11 #[v, .int .i64 (-1), .int .i64 (-1)] w (RetV w (.tuple #[.string ⟨#[]⟩, .int .i64 100])) := by
  have h := dlaw_any ([] : List (List UInt8)) (-1) (-1) (by decide) (by decide) hv hg
  have e0 : lawS ([] : List (List UInt8)) (-1) (-1) = ⟨#[]⟩ := by decide +kernel
  have e1 : lawE ([] : List (List UInt8)) (-1) (-1) = 100 := by decide +kernel
  rw [e0, e1] at h
  exact h

theorem kn_1 {w : World} {v : Value} (hv : Qs w v ([[49, 47, 51], [50, 47, 51]] : List (List UInt8))) (hg : Good w) : Calls Tryz.prog 11 #[v, .int .i64 (-1), .int .i64 (5)] w (RetV w (.tuple #[.string ⟨#[]⟩, .int .i64 2])) := by
  have h := dlaw_any ([[49, 47, 51], [50, 47, 51]] : List (List UInt8)) (-1) (5) (by decide) (by decide) hv hg
  have e0 : lawS ([[49, 47, 51], [50, 47, 51]] : List (List UInt8)) (-1) (5) = ⟨#[]⟩ := by decide +kernel
  have e1 : lawE ([[49, 47, 51], [50, 47, 51]] : List (List UInt8)) (-1) (5) = 2 := by decide +kernel
  rw [e0, e1] at h
  exact h

theorem kn_2 {w : World} {v : Value} (hv : Qs w v ([[49, 47, 51], [50, 47, 51]] : List (List UInt8))) (hg : Good w) : Calls Tryz.prog 11 #[v, .int .i64 (1), .int .i64 (-1)] w (RetV w (.tuple #[.string ⟨#[]⟩, .int .i64 2])) := by
  have h := dlaw_any ([[49, 47, 51], [50, 47, 51]] : List (List UInt8)) (1) (-1) (by decide) (by decide) hv hg
  have e0 : lawS ([[49, 47, 51], [50, 47, 51]] : List (List UInt8)) (1) (-1) = ⟨#[]⟩ := by decide +kernel
  have e1 : lawE ([[49, 47, 51], [50, 47, 51]] : List (List UInt8)) (1) (-1) = 2 := by decide +kernel
  rw [e0, e1] at h
  exact h

theorem kn_3 {w : World} {v : Value} (hv : Qs w v ([[49, 47, 50], [49, 47, 50, 120]] : List (List UInt8))) (hg : Good w) : Calls Tryz.prog 12 #[v, .int .i64 (300)] w (RetV w (.tuple #[.string ⟨#[]⟩, .int .i64 100])) := by
  have h := dleft_any ([[49, 47, 50], [49, 47, 50, 120]] : List (List UInt8)) (300) (by decide) (by decide) hv hg
  have e0 : lefS ([[49, 47, 50], [49, 47, 50, 120]] : List (List UInt8)) (300) = ⟨#[]⟩ := by decide +kernel
  have e1 : lefE ([[49, 47, 50], [49, 47, 50, 120]] : List (List UInt8)) (300) = 100 := by decide +kernel
  rw [e0, e1] at h
  exact h

theorem kn_4 {w : World} {v : Value} (hv : Qs w v ([[49, 47, 49, 48, 48, 48, 48], [57, 57, 57, 57, 47, 49, 48, 48, 48, 48]] : List (List UInt8))) (hg : Good w) : Calls Tryz.prog 13 #[v] w (RetV w (.int .i64 100)) := by
  have h := dcheck_any ([[49, 47, 49, 48, 48, 48, 48], [57, 57, 57, 57, 47, 49, 48, 48, 48, 48]] : List (List UInt8)) (by decide) (by decide) hv hg
  have e0 : (if okW ([[49, 47, 49, 48, 48, 48, 48], [57, 57, 57, 57, 47, 49, 48, 48, 48, 48]] : List (List UInt8)) then (0 : Int) else 100) = 100 := by decide +kernel
  rw [e0] at h
  exact h

theorem kn_5 {w : World} {v : Value} (hv : Qs w v ([[57, 57, 57, 56, 47, 57, 57, 57, 57], [49, 47, 57, 57, 57, 57]] : List (List UInt8))) (hg : Good w) : Calls Tryz.prog 13 #[v] w (RetV w (.int .i64 0)) := by
  have h := dcheck_any ([[57, 57, 57, 56, 47, 57, 57, 57, 57], [49, 47, 57, 57, 57, 57]] : List (List UInt8)) (by decide) (by decide) hv hg
  have e0 : (if okW ([[57, 57, 57, 56, 47, 57, 57, 57, 57], [49, 47, 57, 57, 57, 57]] : List (List UInt8)) then (0 : Int) else 100) = 0 := by decide +kernel
  rw [e0] at h
  exact h

theorem kn_6 {w : World} {v : Value} (hv : Qs w v ([[48], [49], [48]] : List (List UInt8))) (hg : Good w) : Calls Tryz.prog 13 #[v] w (RetV w (.int .i64 0)) := by
  have h := dcheck_any ([[48], [49], [48]] : List (List UInt8)) (by decide) (by decide) hv hg
  have e0 : (if okW ([[48], [49], [48]] : List (List UInt8)) then (0 : Int) else 100) = 0 := by decide +kernel
  rw [e0] at h
  exact h

theorem kn_7 {w : World} {v : Value} (hv : Qs w v ([[50, 47, 50]] : List (List UInt8))) (hg : Good w) : Calls Tryz.prog 13 #[v] w (RetV w (.int .i64 100)) := by
  have h := dcheck_any ([[50, 47, 50]] : List (List UInt8)) (by decide) (by decide) hv hg
  have e0 : (if okW ([[50, 47, 50]] : List (List UInt8)) then (0 : Int) else 100) = 100 := by decide +kernel
  rw [e0] at h
  exact h

theorem kn_8 {w : World} {v : Value} (hv : Qs w v ([[49, 47, 51], [50, 47, 51]] : List (List UInt8))) (hg : Good w) : Calls Tryz.prog 12 #[v, .int .i64 (200)] w (RetV w (.tuple #[.string ⟨#[49, 47, 49, 54, 48, 54, 57, 51, 56, 48, 52, 52, 50, 53, 56, 57, 57, 48, 50, 55, 53, 53, 52, 49, 57, 54, 50, 48, 57, 50, 51, 52, 49, 49, 54, 50, 54, 48, 50, 53, 50, 50, 50, 48, 50, 57, 57, 51, 55, 56, 50, 55, 57, 50, 56, 51, 53, 51, 48, 49, 51, 55, 54]⟩, .int .i64 0])) := by
  have h := dleft_any ([[49, 47, 51], [50, 47, 51]] : List (List UInt8)) (200) (by decide) (by decide) hv hg
  have e0 : lefS ([[49, 47, 51], [50, 47, 51]] : List (List UInt8)) (200) = ⟨#[49, 47, 49, 54, 48, 54, 57, 51, 56, 48, 52, 52, 50, 53, 56, 57, 57, 48, 50, 55, 53, 53, 52, 49, 57, 54, 50, 48, 57, 50, 51, 52, 49, 49, 54, 50, 54, 48, 50, 53, 50, 50, 50, 48, 50, 57, 57, 51, 55, 56, 50, 55, 57, 50, 56, 51, 53, 51, 48, 49, 51, 55, 54]⟩ := by decide +kernel
  have e1 : lefE ([[49, 47, 51], [50, 47, 51]] : List (List UInt8)) (200) = 0 := by decide +kernel
  rw [e0, e1] at h
  exact h

theorem kn_9 {w : World} {v : Value} (hv : Qs w v ([[49, 47, 51], [50, 47, 51]] : List (List UInt8))) (hg : Good w) : Calls Tryz.prog 11 #[v, .int .i64 (0), .int .i64 (0)] w (RetV w (.tuple #[.string ⟨#[48]⟩, .int .i64 0])) := by
  have h := dlaw_any ([[49, 47, 51], [50, 47, 51]] : List (List UInt8)) (0) (0) (by decide) (by decide) hv hg
  have e0 : lawS ([[49, 47, 51], [50, 47, 51]] : List (List UInt8)) (0) (0) = ⟨#[48]⟩ := by decide +kernel
  have e1 : lawE ([[49, 47, 51], [50, 47, 51]] : List (List UInt8)) (0) (0) = 0 := by decide +kernel
  rw [e0, e1] at h
  exact h

theorem kn_10 {w : World} {v : Value} (hv : Qs w v ([[49, 47, 51], [50, 47, 51]] : List (List UInt8))) (hg : Good w) : Calls Tryz.prog 12 #[v, .int .i64 (0)] w (RetV w (.tuple #[.string ⟨#[49]⟩, .int .i64 0])) := by
  have h := dleft_any ([[49, 47, 51], [50, 47, 51]] : List (List UInt8)) (0) (by decide) (by decide) hv hg
  have e0 : lefS ([[49, 47, 51], [50, 47, 51]] : List (List UInt8)) (0) = ⟨#[49]⟩ := by decide +kernel
  have e1 : lefE ([[49, 47, 51], [50, 47, 51]] : List (List UInt8)) (0) = 0 := by decide +kernel
  rw [e0, e1] at h
  exact h

set_option maxHeartbeats 16000000 in
set_option maxRecDepth 100000 in
theorem drawKnown_any {w : World} (hg : Good w) : Calls Tryz.prog 3 #[] w (RetV w (.bool true)) := by
  have HG := Lib.hid (fun (V : World) (hV : Below w.heap.size w V) => hg.below hV)
  have hK := Lib.hid (Below.refl w.heap.size w)
  obtain ⟨i0, hi0, hz0, hz1, hz2⟩ := info_parts infoQ
  have HNA := Lib.hid (fun (V : World) v (hv : Qs V v W12) (hV : Good V) => long_a (w := V) hv hV)
  have HNB := Lib.hid (fun (V : World) v (hv : Qs V v W12) (hV : Good V) => long_b (w := V) hv hV)
  have HNC := Lib.hid (fun (V : World) v (hv : Qs V v W12) (hV : Good V) => long_c (w := V) hv hV)
  have HND := Lib.hid (fun (V : World) v (hv : Qs V v W12) (hV : Good V) => long_d (w := V) hv hV)
  have HRL := Lib.hid (fun (V : World) => rep_long (w := V))
  have HWK := Lib.hid (fun (V : World) (hV : Good V) => works_any (w := V) hV)
  have hsN := NT_size
  have hsE := NE_size
  generalize NT = nt at *
  clear hg
  go_enter Tryz.func3, Tryz.ntmps3
  go_wp2_with fail
  refine (HWK.out _ (HG.out _ hK.out)).mono ?_; rintro e w1 ⟨rfl, hb⟩
  replace hK := Lib.hid (next_below hK.out hb)
  clear hb
  go_wp2_with fail
  go_loopw [1, 15] (fun u1 u15 wr => ∃ k : Nat, k ≤ 16 ∧ u15 = .int .i64 (k : Int) ∧ Hid (QRow wr w.heap.size u1 (List.replicate k [49, 47, 49, 54])) ∧ Hid (Below w.heap.size w wr)) (fun _ u15 _ => 16 - (intOf u15).toNat)
  case atStart => exact ⟨0, by omega, rfl, Lib.hid (QRow.nil _ _), hK⟩
  case round =>
    clear hK
    obtain ⟨k, hk16, rfl, hR, hK⟩ := hrel
    by_cases hlt : k < 16
    · have hlti : ((k : Int) < 16) := by omega
      obtain ⟨a, c, hv⟩ := hR.out.len
      rw [List.length_replicate] at hv
      subst hv
      have HOWN := Lib.hid (hR.out.owns (k := k) (by simp))
      have hbs := hK.out.size
      go_wp2_with (at_builtin; refine wpList_append_own _ rfl (.tmp 17) (.tmp 18) 23 rfl w.heap.size 24 i0 (.string ⟨#[]⟩) 1 16 Tryz.underlying23 hi0 hz0 hz1 hz2 rfl (by decide) (.slice a k c) k _ rfl (HOWN.out.alloc _) ⟨wr.heap.size, 0, none⟩ 1 1 [.string ⟨#[49, 47, 49, 54]⟩] rfl rfl (cell_new_q _ _ _) (by intro u hu; simp at hu; subst hu; rfl) (by unfold maxLen; omega) (by omega) (by simp; omega) ?_; intro v' w2 hown1 hgrow1 hnil1)
      go_roundw
      case rel =>
        refine ⟨k + 1, by omega, by go_num, Lib.hid ?_, Lib.hid ?_⟩
        · rw [List.replicate_succ']
          exact QRow.snoc (by simp) hown1
        · exact (hK.out.alloc hbs _).grown hgrow1 (by simp; omega) (fun q hq => (World.ownsRow.lt HOWN.out q hq).1)
      case measure => simp [intOf]; omega
    · obtain rfl : k = 16 := by omega
      clear hlt hk16
      obtain ⟨gm, cm, rfl, hgm1, hgm2⟩ := hR.out.form (n := 16) (by simp) (by omega)
      have hROW := Lib.hid hR.out
      have q_m := Lib.hid hR.out.qs
      clear hR
      go_wp2_with fail
      have hbn : Below wr.heap.size wr (wr.alloc (.cells #[.string ⟨#[49, 47, 51]⟩, .string ⟨#[50, 47, 51]⟩] 24)) := (Below.refl _ _).alloc (Nat.le_refl _) _
      replace hK := Lib.hid (next_below hK.out hbn)
      replace q_m := Lib.hid (q_m.out.below hbn)
      replace hROW := Lib.hid (hROW.out.next hbn)
      clear hbn
      have q_w : Hid (Qs (wr.alloc (.cells #[.string ⟨#[49, 47, 51]⟩, .string ⟨#[50, 47, 51]⟩] 24)) (.slice (some ⟨wr.heap.size, 0, none⟩) 2 2) ([[49, 47, 51], [50, 47, 51]] : List (List UInt8))) := Lib.hid (Qs.lit (cs := #[.string ⟨#[49, 47, 51]⟩, .string ⟨#[50, 47, 51]⟩]) ([[49, 47, 51], [50, 47, 51]] : List (List UInt8)) (by have h := Blk.new wr 24 #[.string ⟨#[49, 47, 51]⟩, .string ⟨#[50, 47, 51]⟩]; simpa using h) rfl (by decide))
      have hgw : gm < wr.heap.size := hgm2
      refine (HRL.out _).mono ?_; rintro e w2 ⟨rfl, hb⟩
      replace hK := Lib.hid (next_below hK.out hb)
      replace q_m := Lib.hid (q_m.out.below hb)
      replace q_w := Lib.hid (q_w.out.below hb)
      replace hROW := Lib.hid (hROW.out.next hb)
      clear hb
      go_wp2_with fail
      refine (kn_0 (Qs.nil _) (HG.out _ hK.out)).mono ?_; rintro e w3 ⟨rfl, hb⟩
      replace hK := Lib.hid (next_below hK.out hb)
      replace q_m := Lib.hid (q_m.out.below hb)
      replace q_w := Lib.hid (q_w.out.below hb)
      replace hROW := Lib.hid (hROW.out.next hb)
      clear hb
      go_wp2_with fail
      refine (kn_1 q_w.out (HG.out _ hK.out)).mono ?_; rintro e w4 ⟨rfl, hb⟩
      replace hK := Lib.hid (next_below hK.out hb)
      replace q_m := Lib.hid (q_m.out.below hb)
      replace q_w := Lib.hid (q_w.out.below hb)
      replace hROW := Lib.hid (hROW.out.next hb)
      clear hb
      go_wp2_with fail
      refine (kn_2 q_w.out (HG.out _ hK.out)).mono ?_; rintro e w5 ⟨rfl, hb⟩
      replace hK := Lib.hid (next_below hK.out hb)
      replace q_m := Lib.hid (q_m.out.below hb)
      replace q_w := Lib.hid (q_w.out.below hb)
      replace hROW := Lib.hid (hROW.out.next hb)
      clear hb
      go_wp2_with fail
      have hbn : Below w5.heap.size w5 (w5.alloc (.cells #[.string ⟨#[49, 47, 50]⟩, .string ⟨#[49, 47, 50, 120]⟩] 24)) := (Below.refl _ _).alloc (Nat.le_refl _) _
      replace hK := Lib.hid (next_below hK.out hbn)
      replace q_m := Lib.hid (q_m.out.below hbn)
      replace q_w := Lib.hid (q_w.out.below hbn)
      replace hROW := Lib.hid (hROW.out.next hbn)
      clear hbn
      have q_x : Hid (Qs (w5.alloc (.cells #[.string ⟨#[49, 47, 50]⟩, .string ⟨#[49, 47, 50, 120]⟩] 24)) (.slice (some ⟨w5.heap.size, 0, none⟩) 2 2) ([[49, 47, 50], [49, 47, 50, 120]] : List (List UInt8))) := Lib.hid (Qs.lit (cs := #[.string ⟨#[49, 47, 50]⟩, .string ⟨#[49, 47, 50, 120]⟩]) ([[49, 47, 50], [49, 47, 50, 120]] : List (List UInt8)) (by have h := Blk.new w5 24 #[.string ⟨#[49, 47, 50]⟩, .string ⟨#[49, 47, 50, 120]⟩]; simpa using h) rfl (by decide))
      refine (kn_3 q_x.out (HG.out _ hK.out)).mono ?_; rintro e w6 ⟨rfl, hb⟩
      replace hK := Lib.hid (next_below hK.out hb)
      replace q_m := Lib.hid (q_m.out.below hb)
      replace q_w := Lib.hid (q_w.out.below hb)
      replace q_x := Lib.hid (q_x.out.below hb)
      replace hROW := Lib.hid (hROW.out.next hb)
      clear hb
      clear q_x
      go_wp2_with fail
      refine (many_ck q_m.out (HG.out _ hK.out)).mono ?_; rintro e w7 ⟨rfl, hb⟩
      replace hK := Lib.hid (next_below hK.out hb)
      replace q_m := Lib.hid (q_m.out.below hb)
      replace q_w := Lib.hid (q_w.out.below hb)
      replace hROW := Lib.hid (hROW.out.next hb)
      clear hb
      go_wp2_with fail
      refine (many_dr q_m.out (HG.out _ hK.out)).mono ?_; rintro e w8 ⟨rfl, hb⟩
      replace hK := Lib.hid (next_below hK.out hb)
      replace q_m := Lib.hid (q_m.out.below hb)
      replace q_w := Lib.hid (q_w.out.below hb)
      replace hROW := Lib.hid (hROW.out.next hb)
      clear hb
      have HOWN := Lib.hid (hROW.out.owns (k := 16) (by simp))
      have hbs := hK.out.size
      go_wp2_with (at_builtin; refine wpList_want rfl ?_; refine wpList_append_own _ rfl (.tmp 50) (.tmp 51) 23 rfl w.heap.size 24 i0 (.string ⟨#[]⟩) 1 16 Tryz.underlying23 hi0 hz0 hz1 hz2 rfl (by decide) (.slice (some ⟨gm, 0, none⟩) 16 cm) 16 _ rfl (HOWN.out.alloc _) ⟨w8.heap.size, 0, none⟩ 1 1 [.string ⟨#[48]⟩] rfl rfl (cell_new_q _ _ _) (by intro u hu; simp at hu; subst hu; rfl) (by unfold maxLen; omega) (by omega) (by simp; omega) ?_; intro v' wg hown1 hgrow1 hnil1)
      have q_n := (QRow.snoc (s := [48]) (ts := (List.replicate 16 [49, 47, 49, 54])) (by simp) hown1).qs
      replace q_w := Lib.hid ((q_w.out.below ((Below.refl _ _).alloc (Nat.le_refl _) _)).grown hgrow1 (by intro e; have e2 : wr.heap.size = gm := Option.some.inj e; omega))
      replace hK := Lib.hid ((hK.out.alloc hbs _).grown hgrow1 (by simp; omega) (fun q hq => (World.ownsRow.lt HOWN.out q hq).1))
      clear hROW q_m HOWN hown1 hgrow1 hnil1
      replace q_n := Lib.hid q_n
      obtain ⟨an, cn, hvn⟩ : ∃ a, ∃ c : Nat, v' = .slice a 17 c := by obtain ⟨a, c, rfl, -⟩ := q_n.out; exact ⟨a, c, rfl⟩
      subst hvn
      go_wp2_with fail
      refine (more_ck q_n.out (HG.out _ hK.out)).mono ?_; rintro e w9 ⟨rfl, hb⟩
      replace hK := Lib.hid (next_below hK.out hb)
      replace q_w := Lib.hid (q_w.out.below hb)
      replace q_n := Lib.hid (q_n.out.below hb)
      clear hb
      clear q_n
      go_wp2_with fail
      have hbn : Below w9.heap.size w9 (w9.alloc (.cells #[.string ⟨#[49, 47, 49, 48, 48, 48, 48]⟩, .string ⟨#[57, 57, 57, 57, 47, 49, 48, 48, 48, 48]⟩] 24)) := (Below.refl _ _).alloc (Nat.le_refl _) _
      replace hK := Lib.hid (next_below hK.out hbn)
      replace q_w := Lib.hid (q_w.out.below hbn)
      clear hbn
      have q_c : Hid (Qs (w9.alloc (.cells #[.string ⟨#[49, 47, 49, 48, 48, 48, 48]⟩, .string ⟨#[57, 57, 57, 57, 47, 49, 48, 48, 48, 48]⟩] 24)) (.slice (some ⟨w9.heap.size, 0, none⟩) 2 2) ([[49, 47, 49, 48, 48, 48, 48], [57, 57, 57, 57, 47, 49, 48, 48, 48, 48]] : List (List UInt8))) := Lib.hid (Qs.lit (cs := #[.string ⟨#[49, 47, 49, 48, 48, 48, 48]⟩, .string ⟨#[57, 57, 57, 57, 47, 49, 48, 48, 48, 48]⟩]) ([[49, 47, 49, 48, 48, 48, 48], [57, 57, 57, 57, 47, 49, 48, 48, 48, 48]] : List (List UInt8)) (by have h := Blk.new w9 24 #[.string ⟨#[49, 47, 49, 48, 48, 48, 48]⟩, .string ⟨#[57, 57, 57, 57, 47, 49, 48, 48, 48, 48]⟩]; simpa using h) rfl (by decide))
      refine (kn_4 q_c.out (HG.out _ hK.out)).mono ?_; rintro e w10 ⟨rfl, hb⟩
      replace hK := Lib.hid (next_below hK.out hb)
      replace q_w := Lib.hid (q_w.out.below hb)
      replace q_c := Lib.hid (q_c.out.below hb)
      clear hb
      clear q_c
      go_wp2_with fail
      have hbn : Below w10.heap.size w10 (w10.alloc (.cells #[.string ⟨#[57, 57, 57, 56, 47, 57, 57, 57, 57]⟩, .string ⟨#[49, 47, 57, 57, 57, 57]⟩] 24)) := (Below.refl _ _).alloc (Nat.le_refl _) _
      replace hK := Lib.hid (next_below hK.out hbn)
      replace q_w := Lib.hid (q_w.out.below hbn)
      clear hbn
      have q_c : Hid (Qs (w10.alloc (.cells #[.string ⟨#[57, 57, 57, 56, 47, 57, 57, 57, 57]⟩, .string ⟨#[49, 47, 57, 57, 57, 57]⟩] 24)) (.slice (some ⟨w10.heap.size, 0, none⟩) 2 2) ([[57, 57, 57, 56, 47, 57, 57, 57, 57], [49, 47, 57, 57, 57, 57]] : List (List UInt8))) := Lib.hid (Qs.lit (cs := #[.string ⟨#[57, 57, 57, 56, 47, 57, 57, 57, 57]⟩, .string ⟨#[49, 47, 57, 57, 57, 57]⟩]) ([[57, 57, 57, 56, 47, 57, 57, 57, 57], [49, 47, 57, 57, 57, 57]] : List (List UInt8)) (by have h := Blk.new w10 24 #[.string ⟨#[57, 57, 57, 56, 47, 57, 57, 57, 57]⟩, .string ⟨#[49, 47, 57, 57, 57, 57]⟩]; simpa using h) rfl (by decide))
      refine (kn_5 q_c.out (HG.out _ hK.out)).mono ?_; rintro e w11 ⟨rfl, hb⟩
      replace hK := Lib.hid (next_below hK.out hb)
      replace q_w := Lib.hid (q_w.out.below hb)
      replace q_c := Lib.hid (q_c.out.below hb)
      clear hb
      clear q_c
      go_wp2_with fail
      have hbn : Below w11.heap.size w11 (w11.alloc (.cells #[.string ⟨#[48]⟩, .string ⟨#[49]⟩, .string ⟨#[48]⟩] 24)) := (Below.refl _ _).alloc (Nat.le_refl _) _
      replace hK := Lib.hid (next_below hK.out hbn)
      replace q_w := Lib.hid (q_w.out.below hbn)
      clear hbn
      have q_c : Hid (Qs (w11.alloc (.cells #[.string ⟨#[48]⟩, .string ⟨#[49]⟩, .string ⟨#[48]⟩] 24)) (.slice (some ⟨w11.heap.size, 0, none⟩) 3 3) ([[48], [49], [48]] : List (List UInt8))) := Lib.hid (Qs.lit (cs := #[.string ⟨#[48]⟩, .string ⟨#[49]⟩, .string ⟨#[48]⟩]) ([[48], [49], [48]] : List (List UInt8)) (by have h := Blk.new w11 24 #[.string ⟨#[48]⟩, .string ⟨#[49]⟩, .string ⟨#[48]⟩]; simpa using h) rfl (by decide))
      refine (kn_6 q_c.out (HG.out _ hK.out)).mono ?_; rintro e w12 ⟨rfl, hb⟩
      replace hK := Lib.hid (next_below hK.out hb)
      replace q_w := Lib.hid (q_w.out.below hb)
      replace q_c := Lib.hid (q_c.out.below hb)
      clear hb
      clear q_c
      go_wp2_with fail
      have hbn : Below w12.heap.size w12 (w12.alloc (.cells #[.string ⟨#[50, 47, 50]⟩] 24)) := (Below.refl _ _).alloc (Nat.le_refl _) _
      replace hK := Lib.hid (next_below hK.out hbn)
      replace q_w := Lib.hid (q_w.out.below hbn)
      clear hbn
      have q_c : Hid (Qs (w12.alloc (.cells #[.string ⟨#[50, 47, 50]⟩] 24)) (.slice (some ⟨w12.heap.size, 0, none⟩) 1 1) ([[50, 47, 50]] : List (List UInt8))) := Lib.hid (Qs.lit (cs := #[.string ⟨#[50, 47, 50]⟩]) ([[50, 47, 50]] : List (List UInt8)) (by have h := Blk.new w12 24 #[.string ⟨#[50, 47, 50]⟩]; simpa using h) rfl (by decide))
      refine (kn_7 q_c.out (HG.out _ hK.out)).mono ?_; rintro e w13 ⟨rfl, hb⟩
      replace hK := Lib.hid (next_below hK.out hb)
      replace q_w := Lib.hid (q_w.out.below hb)
      replace q_c := Lib.hid (q_c.out.below hb)
      clear hb
      clear q_c
      go_wp2_with fail
      refine (HNA.out _ _ q_w.out (HG.out _ hK.out)).mono ?_; rintro e w14 ⟨rfl, hb⟩
      replace hK := Lib.hid (next_below hK.out hb)
      replace q_w := Lib.hid (q_w.out.below hb)
      clear hb
      go_wp2_with fail
      refine (HNB.out _ _ q_w.out (HG.out _ hK.out)).mono ?_; rintro e w15 ⟨rfl, hb⟩
      replace hK := Lib.hid (next_below hK.out hb)
      replace q_w := Lib.hid (q_w.out.below hb)
      clear hb
      go_wp2_with fail
      refine (HNC.out _ _ q_w.out (HG.out _ hK.out)).mono ?_; rintro e w16 ⟨rfl, hb⟩
      replace hK := Lib.hid (next_below hK.out hb)
      replace q_w := Lib.hid (q_w.out.below hb)
      clear hb
      go_wp2_with fail
      refine (fails_true (u := 100) ([] : List (List UInt8)) ([120] : List UInt8) (by decide +kernel) (by decide) (by decide) (by decide) (Qs.nil _) (HG.out _ hK.out)).mono ?_; rintro e w17 ⟨rfl, hb⟩
      replace hK := Lib.hid (next_below hK.out hb)
      replace q_w := Lib.hid (q_w.out.below hb)
      clear hb
      go_wp2_with fail
      refine (HND.out _ _ q_w.out (HG.out _ hK.out)).mono ?_; rintro e w18 ⟨rfl, hb⟩
      replace hK := Lib.hid (next_below hK.out hb)
      replace q_w := Lib.hid (q_w.out.below hb)
      clear hb
      go_wp2_with fail
      have hbn : Below w18.heap.size w18 (w18.alloc (.cells #[.string ⟨#[48]⟩, .string ⟨#[49]⟩, .string ⟨#[48]⟩] 24)) := (Below.refl _ _).alloc (Nat.le_refl _) _
      replace hK := Lib.hid (next_below hK.out hbn)
      replace q_w := Lib.hid (q_w.out.below hbn)
      clear hbn
      have q_d : Hid (Qs (w18.alloc (.cells #[.string ⟨#[48]⟩, .string ⟨#[49]⟩, .string ⟨#[48]⟩] 24)) (.slice (some ⟨w18.heap.size, 0, none⟩) 3 3) ([[48], [49], [48]] : List (List UInt8))) := Lib.hid (Qs.lit (cs := #[.string ⟨#[48]⟩, .string ⟨#[49]⟩, .string ⟨#[48]⟩]) ([[48], [49], [48]] : List (List UInt8)) (by have h := Blk.new w18 24 #[.string ⟨#[48]⟩, .string ⟨#[49]⟩, .string ⟨#[48]⟩]; simpa using h) rfl (by decide))
      refine (drawn_true (i := 1) (u := 0) ([[48], [49], [48]] : List (List UInt8)) ([] : List UInt8) (by decide +kernel) (by decide) (by decide) (by decide) q_d.out (HG.out _ hK.out)).mono ?_; rintro e w19 ⟨rfl, hb⟩
      replace hK := Lib.hid (next_below hK.out hb)
      replace q_w := Lib.hid (q_w.out.below hb)
      replace q_d := Lib.hid (q_d.out.below hb)
      clear hb
      clear q_d
      go_wp2_with fail
      have hbn : Below w19.heap.size w19 (w19.alloc (.cells #[.string ⟨#[49, 47, 50]⟩, .string ⟨#[49, 47, 50]⟩] 24)) := (Below.refl _ _).alloc (Nat.le_refl _) _
      replace hK := Lib.hid (next_below hK.out hbn)
      replace q_w := Lib.hid (q_w.out.below hbn)
      clear hbn
      have q_h : Hid (Qs (w19.alloc (.cells #[.string ⟨#[49, 47, 50]⟩, .string ⟨#[49, 47, 50]⟩] 24)) (.slice (some ⟨w19.heap.size, 0, none⟩) 2 2) ([[49, 47, 50], [49, 47, 50]] : List (List UInt8))) := Lib.hid (Qs.lit (cs := #[.string ⟨#[49, 47, 50]⟩, .string ⟨#[49, 47, 50]⟩]) ([[49, 47, 50], [49, 47, 50]] : List (List UInt8)) (by have h := Blk.new w19 24 #[.string ⟨#[49, 47, 50]⟩, .string ⟨#[49, 47, 50]⟩]; simpa using h) rfl (by decide))
      refine (drawn_true (i := 1) (u := 1) ([[49, 47, 50], [49, 47, 50]] : List (List UInt8)) ([49] : List UInt8) (by decide +kernel) (by decide) (by decide) (by decide) q_h.out (HG.out _ hK.out)).mono ?_; rintro e w20 ⟨rfl, hb⟩
      replace hK := Lib.hid (next_below hK.out hb)
      replace q_w := Lib.hid (q_w.out.below hb)
      replace q_h := Lib.hid (q_h.out.below hb)
      clear hb
      clear q_h
      go_wp2_with fail
      refine (HWK.out _ (HG.out _ hK.out)).mono ?_; rintro e w21 ⟨rfl, hb⟩
      replace hK := Lib.hid (next_below hK.out hb)
      replace q_w := Lib.hid (q_w.out.below hb)
      clear hb
      go_wp2_with fail
      refine (is_any _).mono ?_; rintro e w22 ⟨gz, rfl, hz, hb⟩; replace hz := Lib.hid hz
      replace hK := Lib.hid (next_below hK.out hb)
      replace q_w := Lib.hid (q_w.out.below hb)
      clear hb
      go_wp2_with fail
      refine (kn_8 q_w.out (HG.out _ hK.out)).mono ?_; rintro e w23 ⟨rfl, hb⟩
      replace hK := Lib.hid (next_below hK.out hb)
      replace q_w := Lib.hid (q_w.out.below hb)
      replace hz := Lib.hid (hz.out.next hb)
      clear hb
      go_wp2_with fail
      refine (is_true hz.out).mono ?_; rintro e w24 ⟨rfl, hb⟩
      replace hK := Lib.hid (next_below hK.out hb)
      replace q_w := Lib.hid (q_w.out.below hb)
      replace hz := Lib.hid (hz.out.next hb)
      clear hb
      clear hz
      go_wp2_with fail
      refine (is_any _).mono ?_; rintro e w25 ⟨gz, rfl, hz, hb⟩; replace hz := Lib.hid hz
      replace hK := Lib.hid (next_below hK.out hb)
      replace q_w := Lib.hid (q_w.out.below hb)
      clear hb
      go_wp2_with fail
      refine (kn_9 q_w.out (HG.out _ hK.out)).mono ?_; rintro e w26 ⟨rfl, hb⟩
      replace hK := Lib.hid (next_below hK.out hb)
      replace q_w := Lib.hid (q_w.out.below hb)
      replace hz := Lib.hid (hz.out.next hb)
      clear hb
      go_wp2_with fail
      refine (is_true hz.out).mono ?_; rintro e w27 ⟨rfl, hb⟩
      replace hK := Lib.hid (next_below hK.out hb)
      replace q_w := Lib.hid (q_w.out.below hb)
      replace hz := Lib.hid (hz.out.next hb)
      clear hb
      clear hz
      go_wp2_with fail
      refine (is_any _).mono ?_; rintro e w28 ⟨gz, rfl, hz, hb⟩; replace hz := Lib.hid hz
      replace hK := Lib.hid (next_below hK.out hb)
      replace q_w := Lib.hid (q_w.out.below hb)
      clear hb
      go_wp2_with fail
      refine (kn_10 q_w.out (HG.out _ hK.out)).mono ?_; rintro e w29 ⟨rfl, hb⟩
      replace hK := Lib.hid (next_below hK.out hb)
      replace q_w := Lib.hid (q_w.out.below hb)
      replace hz := Lib.hid (hz.out.next hb)
      clear hb
      go_wp2_with fail
      refine (is_true hz.out).mono ?_; rintro e w30 ⟨rfl, hb⟩
      replace hK := Lib.hid (next_below hK.out hb)
      replace q_w := Lib.hid (q_w.out.below hb)
      replace hz := Lib.hid (hz.out.next hb)
      clear hb
      clear hz
      go_wp2_with fail
      go_ret
      exact ⟨rfl, hK.out⟩
end Go.Proofs.YtfjjdjhnodcfhaaGreatDoor
