/- The examples of chapter 10: works. -/
import Derived.Test.YtfjjdjhnodcfhaaGreatDoorDQRow
import Derived.Test.YtfjjdjhnodcfhaaGreatDoorShelf
set_option linter.unusedSimpArgs false
set_option linter.unusedVariables false
namespace Go.Proofs.YtfjjdjhnodcfhaaGreatDoor
open Go.RowKit
open Go.Lib (decDigits itoa nDigits)
open D4 (rt it Mid)

theorem rep_any {w : World} (l : List UInt8) (n : Nat) (h1 : l.length = 1 ∨ l.length = 2) (hn : 2 ≤ n ∧ n ≤ 1000) : Calls Tryz.prog 10 #[.string ⟨l.toArray⟩, .int .i64 n] w (RetV w (.string ⟨(Lib.repeatL l n).toArray⟩)) := by
  have hs : (⟨l.toArray⟩ : ByteArray).size = l.length := ba_size l
  refine (Tryz.strings_Repeat_main ⟨l.toArray⟩ n w (by omega) (by omega) (by rw [hs]; rcases h1 with h | h <;> rw [h] <;> omega) (by rw [hs]; omega)).mono ?_
  rintro e w' ⟨rfl, h⟩
  exact ⟨rfl, h⟩
theorem wk_0 {w : World} {v : Value} (hv : Qs w v ([[49, 47, 51], [50, 47, 51]] : List (List UInt8))) (hg : Good w) : Calls Tryz.prog 11 #[v, .int .i64 (2), .int .i64 (0)] w (RetV w (.tuple #[.string ⟨#[]⟩, .int .i64 2])) := by
  have h := dlaw_any ([[49, 47, 51], [50, 47, 51]] : List (List UInt8)) (2) (0) (by decide) (by decide) hv hg
  have e0 : lawS ([[49, 47, 51], [50, 47, 51]] : List (List UInt8)) (2) (0) = ⟨#[]⟩ := by decide +kernel
  have e1 : lawE ([[49, 47, 51], [50, 47, 51]] : List (List UInt8)) (2) (0) = 2 := by decide +kernel
  rw [e0, e1] at h
  exact h

theorem wk_1 {w : World} {v : Value} (hv : Qs w v ([[49, 47, 51], [50, 47, 51]] : List (List UInt8))) (hg : Good w) : Calls Tryz.prog 12 #[v, .int .i64 (201)] w (RetV w (.tuple #[.string ⟨#[]⟩, .int .i64 2])) := by
  have h := dleft_any ([[49, 47, 51], [50, 47, 51]] : List (List UInt8)) (201) (by decide) (by decide) hv hg
  have e0 : lefS ([[49, 47, 51], [50, 47, 51]] : List (List UInt8)) (201) = ⟨#[]⟩ := by decide +kernel
  have e1 : lefE ([[49, 47, 51], [50, 47, 51]] : List (List UInt8)) (201) = 2 := by decide +kernel
  rw [e0, e1] at h
  exact h

theorem wk_2 {w : World} {v : Value} (hv : Qs w v ([[49, 47, 51], [50, 47, 51]] : List (List UInt8))) (hg : Good w) : Calls Tryz.prog 11 #[v, .int .i64 (0), .int .i64 (2)] w (RetV w (.tuple #[.string ⟨#[49, 47, 52]⟩, .int .i64 0])) := by
  have h := dlaw_any ([[49, 47, 51], [50, 47, 51]] : List (List UInt8)) (0) (2) (by decide) (by decide) hv hg
  have e0 : lawS ([[49, 47, 51], [50, 47, 51]] : List (List UInt8)) (0) (2) = ⟨#[49, 47, 52]⟩ := by decide +kernel
  have e1 : lawE ([[49, 47, 51], [50, 47, 51]] : List (List UInt8)) (0) (2) = 0 := by decide +kernel
  rw [e0, e1] at h
  exact h

theorem wk_3 {w : World} {v : Value} (hv : Qs w v ([[49, 47, 51], [50, 47, 51]] : List (List UInt8))) (hg : Good w) : Calls Tryz.prog 11 #[v, .int .i64 (1), .int .i64 (2)] w (RetV w (.tuple #[.string ⟨#[49, 47, 50]⟩, .int .i64 0])) := by
  have h := dlaw_any ([[49, 47, 51], [50, 47, 51]] : List (List UInt8)) (1) (2) (by decide) (by decide) hv hg
  have e0 : lawS ([[49, 47, 51], [50, 47, 51]] : List (List UInt8)) (1) (2) = ⟨#[49, 47, 50]⟩ := by decide +kernel
  have e1 : lawE ([[49, 47, 51], [50, 47, 51]] : List (List UInt8)) (1) (2) = 0 := by decide +kernel
  rw [e0, e1] at h
  exact h

theorem wk_4 {w : World} {v : Value} (hv : Qs w v ([[49, 47, 51], [50, 47, 51]] : List (List UInt8))) (hg : Good w) : Calls Tryz.prog 12 #[v, .int .i64 (2)] w (RetV w (.tuple #[.string ⟨#[49, 47, 52]⟩, .int .i64 0])) := by
  have h := dleft_any ([[49, 47, 51], [50, 47, 51]] : List (List UInt8)) (2) (by decide) (by decide) hv hg
  have e0 : lefS ([[49, 47, 51], [50, 47, 51]] : List (List UInt8)) (2) = ⟨#[49, 47, 52]⟩ := by decide +kernel
  have e1 : lefE ([[49, 47, 51], [50, 47, 51]] : List (List UInt8)) (2) = 0 := by decide +kernel
  rw [e0, e1] at h
  exact h

theorem wk_5 {w : World} {v : Value} (hv : Qs w v ([[49, 47, 52], [48], [49, 47, 52], [49, 47, 50]] : List (List UInt8))) (hg : Good w) : Calls Tryz.prog 11 #[v, .int .i64 (1), .int .i64 (10)] w (RetV w (.tuple #[.string ⟨#[48]⟩, .int .i64 0])) := by
  have h := dlaw_any ([[49, 47, 52], [48], [49, 47, 52], [49, 47, 50]] : List (List UInt8)) (1) (10) (by decide) (by decide) hv hg
  have e0 : lawS ([[49, 47, 52], [48], [49, 47, 52], [49, 47, 50]] : List (List UInt8)) (1) (10) = ⟨#[48]⟩ := by decide +kernel
  have e1 : lawE ([[49, 47, 52], [48], [49, 47, 52], [49, 47, 50]] : List (List UInt8)) (1) (10) = 0 := by decide +kernel
  rw [e0, e1] at h
  exact h

theorem wk_6 {w : World} {v : Value} (hv : Qs w v ([[49, 47, 52], [48], [49, 47, 52], [49, 47, 50]] : List (List UInt8))) (hg : Good w) : Calls Tryz.prog 12 #[v, .int .i64 (1)] w (RetV w (.tuple #[.string ⟨#[49, 47, 50]⟩, .int .i64 0])) := by
  have h := dleft_any ([[49, 47, 52], [48], [49, 47, 52], [49, 47, 50]] : List (List UInt8)) (1) (by decide) (by decide) hv hg
  have e0 : lefS ([[49, 47, 52], [48], [49, 47, 52], [49, 47, 50]] : List (List UInt8)) (1) = ⟨#[49, 47, 50]⟩ := by decide +kernel
  have e1 : lefE ([[49, 47, 52], [48], [49, 47, 52], [49, 47, 50]] : List (List UInt8)) (1) = 0 := by decide +kernel
  rw [e0, e1] at h
  exact h

theorem wk_7 {w : World} {v : Value} (hv : Qs w v ([[49, 47, 52], [48], [49, 47, 52], [49, 47, 50]] : List (List UInt8))) (hg : Good w) : Calls Tryz.prog 12 #[v, .int .i64 (2)] w (RetV w (.tuple #[.string ⟨#[48]⟩, .int .i64 0])) := by
  have h := dleft_any ([[49, 47, 52], [48], [49, 47, 52], [49, 47, 50]] : List (List UInt8)) (2) (by decide) (by decide) hv hg
  have e0 : lefS ([[49, 47, 52], [48], [49, 47, 52], [49, 47, 50]] : List (List UInt8)) (2) = ⟨#[48]⟩ := by decide +kernel
  have e1 : lefE ([[49, 47, 52], [48], [49, 47, 52], [49, 47, 50]] : List (List UInt8)) (2) = 0 := by decide +kernel
  rw [e0, e1] at h
  exact h

theorem wk_8 {w : World} {v : Value} (hv : Qs w v ([[49, 47, 50], [49, 47, 51]] : List (List UInt8))) (hg : Good w) : Calls Tryz.prog 13 #[v] w (RetV w (.int .i64 100)) := by
  have h := dcheck_any ([[49, 47, 50], [49, 47, 51]] : List (List UInt8)) (by decide) (by decide) hv hg
  have e0 : (if okW ([[49, 47, 50], [49, 47, 51]] : List (List UInt8)) then (0 : Int) else 100) = 100 := by decide +kernel
  rw [e0] at h
  exact h

theorem wk_9 {w : World} {v : Value} (hv : Qs w v ([[51, 47, 50], [45, 49, 47, 50]] : List (List UInt8))) (hg : Good w) : Calls Tryz.prog 13 #[v] w (RetV w (.int .i64 100)) := by
  have h := dcheck_any ([[51, 47, 50], [45, 49, 47, 50]] : List (List UInt8)) (by decide) (by decide) hv hg
  have e0 : (if okW ([[51, 47, 50], [45, 49, 47, 50]] : List (List UInt8)) then (0 : Int) else 100) = 100 := by decide +kernel
  rw [e0] at h
  exact h

theorem wk_10 {w : World} {v : Value} (hv : Qs w v ([] : List (List UInt8))) (hg : Good w) : Calls Tryz.prog 13 #[v] w (RetV w (.int .i64 100)) := by
  have h := dcheck_any ([] : List (List UInt8)) (by decide) (by decide) hv hg
  have e0 : (if okW ([] : List (List UInt8)) then (0 : Int) else 100) = 100 := by decide +kernel
  rw [e0] at h
  exact h

set_option maxHeartbeats 8000000 in
set_option maxRecDepth 100000 in
theorem works_any {w : World} (hg : Good w) : Calls Tryz.prog 9 #[] w (RetV w (.bool true)) := by
  have HG := Lib.hid (fun (V : World) (hV : Below w.heap.size w V) => hg.below hV)
  have hK := Lib.hid (Below.refl w.heap.size w)
  clear hg
  go_enter Tryz.func9, Tryz.ntmps9
  go_wp2_with fail
  have hbn : Below w.heap.size w (w.alloc (.cells #[.string ⟨#[49, 47, 51]⟩, .string ⟨#[50, 47, 51]⟩] 24)) := (Below.refl _ _).alloc (Nat.le_refl _) _
  replace hK := Lib.hid (next_below hK.out hbn)
  clear hbn
  have q_w : Hid (Qs (w.alloc (.cells #[.string ⟨#[49, 47, 51]⟩, .string ⟨#[50, 47, 51]⟩] 24)) (.slice (some ⟨w.heap.size, 0, none⟩) 2 2) ([[49, 47, 51], [50, 47, 51]] : List (List UInt8))) := Lib.hid (Qs.lit (cs := #[.string ⟨#[49, 47, 51]⟩, .string ⟨#[50, 47, 51]⟩]) ([[49, 47, 51], [50, 47, 51]] : List (List UInt8)) (by have h := Blk.new w 24 #[.string ⟨#[49, 47, 51]⟩, .string ⟨#[50, 47, 51]⟩]; simpa using h) rfl (by decide))
  have hbn : Below (w.alloc (.cells #[.string ⟨#[49, 47, 51]⟩, .string ⟨#[50, 47, 51]⟩] 24)).heap.size (w.alloc (.cells #[.string ⟨#[49, 47, 51]⟩, .string ⟨#[50, 47, 51]⟩] 24)) ((w.alloc (.cells #[.string ⟨#[49, 47, 51]⟩, .string ⟨#[50, 47, 51]⟩] 24)).alloc (.cells #[.string ⟨#[49, 47, 52]⟩, .string ⟨#[48]⟩, .string ⟨#[49, 47, 52]⟩, .string ⟨#[49, 47, 50]⟩] 24)) := (Below.refl _ _).alloc (Nat.le_refl _) _
  replace hK := Lib.hid (next_below hK.out hbn)
  replace q_w := Lib.hid (q_w.out.below hbn)
  clear hbn
  have q_v : Hid (Qs ((w.alloc (.cells #[.string ⟨#[49, 47, 51]⟩, .string ⟨#[50, 47, 51]⟩] 24)).alloc (.cells #[.string ⟨#[49, 47, 52]⟩, .string ⟨#[48]⟩, .string ⟨#[49, 47, 52]⟩, .string ⟨#[49, 47, 50]⟩] 24)) (.slice (some ⟨w.heap.size + 1, 0, none⟩) 4 4) ([[49, 47, 52], [48], [49, 47, 52], [49, 47, 50]] : List (List UInt8))) := Lib.hid (Qs.lit (cs := #[.string ⟨#[49, 47, 52]⟩, .string ⟨#[48]⟩, .string ⟨#[49, 47, 52]⟩, .string ⟨#[49, 47, 50]⟩]) ([[49, 47, 52], [48], [49, 47, 52], [49, 47, 50]] : List (List UInt8)) (by have h := Blk.new (w.alloc (.cells #[.string ⟨#[49, 47, 51]⟩, .string ⟨#[50, 47, 51]⟩] 24)) 24 #[.string ⟨#[49, 47, 52]⟩, .string ⟨#[48]⟩, .string ⟨#[49, 47, 52]⟩, .string ⟨#[49, 47, 50]⟩]; simpa using h) rfl (by decide))
  refine (wk_0 q_w.out (HG.out _ hK.out)).mono ?_; rintro e w1 ⟨rfl, hb⟩
  replace hK := Lib.hid (next_below hK.out hb)
  replace q_w := Lib.hid (q_w.out.below hb)
  replace q_v := Lib.hid (q_v.out.below hb)
  clear hb
  go_wp2_with fail
  refine (wk_1 q_w.out (HG.out _ hK.out)).mono ?_; rintro e w2 ⟨rfl, hb⟩
  replace hK := Lib.hid (next_below hK.out hb)
  replace q_w := Lib.hid (q_w.out.below hb)
  replace q_v := Lib.hid (q_v.out.below hb)
  clear hb
  go_wp2_with fail
  refine (drawn_true (i := 0) (u := 2) ([[49, 47, 51], [50, 47, 51]] : List (List UInt8)) ([48, 48] : List UInt8) (by decide +kernel) (by decide) (by decide) (by decide) q_w.out (HG.out _ hK.out)).mono ?_; rintro e w3 ⟨rfl, hb⟩
  replace hK := Lib.hid (next_below hK.out hb)
  replace q_w := Lib.hid (q_w.out.below hb)
  replace q_v := Lib.hid (q_v.out.below hb)
  clear hb
  go_wp2_with fail
  refine (drawn_true (i := 1) (u := 3) ([[49, 47, 51], [50, 47, 51]] : List (List UInt8)) ([48, 49, 49, 49] : List UInt8) (by decide +kernel) (by decide) (by decide) (by decide) q_w.out (HG.out _ hK.out)).mono ?_; rintro e w4 ⟨rfl, hb⟩
  replace hK := Lib.hid (next_below hK.out hb)
  replace q_w := Lib.hid (q_w.out.below hb)
  replace q_v := Lib.hid (q_v.out.below hb)
  clear hb
  go_wp2_with fail
  refine (drawn_true (i := 1) (u := 1) ([[49, 47, 51], [50, 47, 51]] : List (List UInt8)) ([49] : List UInt8) (by decide +kernel) (by decide) (by decide) (by decide) q_w.out (HG.out _ hK.out)).mono ?_; rintro e w5 ⟨rfl, hb⟩
  replace hK := Lib.hid (next_below hK.out hb)
  replace q_w := Lib.hid (q_w.out.below hb)
  replace q_v := Lib.hid (q_v.out.below hb)
  clear hb
  go_wp2_with fail
  refine (fails_true (u := 4) ([[49, 47, 51], [50, 47, 51]] : List (List UInt8)) ([48, 49] : List UInt8) (by decide +kernel) (by decide) (by decide) (by decide) q_w.out (HG.out _ hK.out)).mono ?_; rintro e w6 ⟨rfl, hb⟩
  replace hK := Lib.hid (next_below hK.out hb)
  replace q_w := Lib.hid (q_w.out.below hb)
  replace q_v := Lib.hid (q_v.out.below hb)
  clear hb
  go_wp2_with fail
  refine (drawn_true (i := 3) (u := 1) ([[49, 47, 52], [48], [49, 47, 52], [49, 47, 50]] : List (List UInt8)) ([49, 48] : List UInt8) (by decide +kernel) (by decide) (by decide) (by decide) q_v.out (HG.out _ hK.out)).mono ?_; rintro e w7 ⟨rfl, hb⟩
  replace hK := Lib.hid (next_below hK.out hb)
  replace q_w := Lib.hid (q_w.out.below hb)
  replace q_v := Lib.hid (q_v.out.below hb)
  clear hb
  go_wp2_with fail
  refine (drawn_true (i := 2) (u := 2) ([[49, 47, 52], [48], [49, 47, 52], [49, 47, 50]] : List (List UInt8)) ([48, 49, 49] : List UInt8) (by decide +kernel) (by decide) (by decide) (by decide) q_v.out (HG.out _ hK.out)).mono ?_; rintro e w8 ⟨rfl, hb⟩
  replace hK := Lib.hid (next_below hK.out hb)
  replace q_w := Lib.hid (q_w.out.below hb)
  replace q_v := Lib.hid (q_v.out.below hb)
  clear hb
  go_wp2_with fail
  have hbn : Below w8.heap.size w8 (w8.alloc (.cells #[.string ⟨#[49]⟩] 24)) := (Below.refl _ _).alloc (Nat.le_refl _) _
  replace hK := Lib.hid (next_below hK.out hbn)
  replace q_w := Lib.hid (q_w.out.below hbn)
  replace q_v := Lib.hid (q_v.out.below hbn)
  clear hbn
  have q_o : Hid (Qs (w8.alloc (.cells #[.string ⟨#[49]⟩] 24)) (.slice (some ⟨w8.heap.size, 0, none⟩) 1 1) ([[49]] : List (List UInt8))) := Lib.hid (Qs.lit (cs := #[.string ⟨#[49]⟩]) ([[49]] : List (List UInt8)) (by have h := Blk.new w8 24 #[.string ⟨#[49]⟩]; simpa using h) rfl (by decide))
  refine (drawn_true (i := 0) (u := 0) ([[49]] : List (List UInt8)) ([] : List UInt8) (by decide +kernel) (by decide) (by decide) (by decide) q_o.out (HG.out _ hK.out)).mono ?_; rintro e w9 ⟨rfl, hb⟩
  replace hK := Lib.hid (next_below hK.out hb)
  replace q_w := Lib.hid (q_w.out.below hb)
  replace q_v := Lib.hid (q_v.out.below hb)
  replace q_o := Lib.hid (q_o.out.below hb)
  clear hb
  clear q_o
  go_wp2_with fail
  refine (is_any _).mono ?_; rintro e w10 ⟨gz, rfl, hz, hb⟩; replace hz := Lib.hid hz
  replace hK := Lib.hid (next_below hK.out hb)
  replace q_w := Lib.hid (q_w.out.below hb)
  replace q_v := Lib.hid (q_v.out.below hb)
  clear hb
  go_wp2_with fail
  refine (wk_2 q_w.out (HG.out _ hK.out)).mono ?_; rintro e w11 ⟨rfl, hb⟩
  replace hK := Lib.hid (next_below hK.out hb)
  replace q_w := Lib.hid (q_w.out.below hb)
  replace q_v := Lib.hid (q_v.out.below hb)
  replace hz := Lib.hid (hz.out.next hb)
  clear hb
  go_wp2_with fail
  refine (is_true hz.out).mono ?_; rintro e w12 ⟨rfl, hb⟩
  replace hK := Lib.hid (next_below hK.out hb)
  replace q_w := Lib.hid (q_w.out.below hb)
  replace q_v := Lib.hid (q_v.out.below hb)
  replace hz := Lib.hid (hz.out.next hb)
  clear hb
  clear hz
  go_wp2_with fail
  refine (is_any _).mono ?_; rintro e w13 ⟨gz, rfl, hz, hb⟩; replace hz := Lib.hid hz
  replace hK := Lib.hid (next_below hK.out hb)
  replace q_w := Lib.hid (q_w.out.below hb)
  replace q_v := Lib.hid (q_v.out.below hb)
  clear hb
  go_wp2_with fail
  refine (wk_3 q_w.out (HG.out _ hK.out)).mono ?_; rintro e w14 ⟨rfl, hb⟩
  replace hK := Lib.hid (next_below hK.out hb)
  replace q_w := Lib.hid (q_w.out.below hb)
  replace q_v := Lib.hid (q_v.out.below hb)
  replace hz := Lib.hid (hz.out.next hb)
  clear hb
  go_wp2_with fail
  refine (is_true hz.out).mono ?_; rintro e w15 ⟨rfl, hb⟩
  replace hK := Lib.hid (next_below hK.out hb)
  replace q_w := Lib.hid (q_w.out.below hb)
  replace q_v := Lib.hid (q_v.out.below hb)
  replace hz := Lib.hid (hz.out.next hb)
  clear hb
  clear hz
  go_wp2_with fail
  refine (is_any _).mono ?_; rintro e w16 ⟨gz, rfl, hz, hb⟩; replace hz := Lib.hid hz
  replace hK := Lib.hid (next_below hK.out hb)
  replace q_w := Lib.hid (q_w.out.below hb)
  replace q_v := Lib.hid (q_v.out.below hb)
  clear hb
  go_wp2_with fail
  refine (wk_4 q_w.out (HG.out _ hK.out)).mono ?_; rintro e w17 ⟨rfl, hb⟩
  replace hK := Lib.hid (next_below hK.out hb)
  replace q_w := Lib.hid (q_w.out.below hb)
  replace q_v := Lib.hid (q_v.out.below hb)
  replace hz := Lib.hid (hz.out.next hb)
  clear hb
  go_wp2_with fail
  refine (is_true hz.out).mono ?_; rintro e w18 ⟨rfl, hb⟩
  replace hK := Lib.hid (next_below hK.out hb)
  replace q_w := Lib.hid (q_w.out.below hb)
  replace q_v := Lib.hid (q_v.out.below hb)
  replace hz := Lib.hid (hz.out.next hb)
  clear hb
  clear hz
  go_wp2_with fail
  refine (is_any _).mono ?_; rintro e w19 ⟨gz, rfl, hz, hb⟩; replace hz := Lib.hid hz
  replace hK := Lib.hid (next_below hK.out hb)
  replace q_w := Lib.hid (q_w.out.below hb)
  replace q_v := Lib.hid (q_v.out.below hb)
  clear hb
  go_wp2_with fail
  refine (wk_5 q_v.out (HG.out _ hK.out)).mono ?_; rintro e w20 ⟨rfl, hb⟩
  replace hK := Lib.hid (next_below hK.out hb)
  replace q_w := Lib.hid (q_w.out.below hb)
  replace q_v := Lib.hid (q_v.out.below hb)
  replace hz := Lib.hid (hz.out.next hb)
  clear hb
  go_wp2_with fail
  refine (is_true hz.out).mono ?_; rintro e w21 ⟨rfl, hb⟩
  replace hK := Lib.hid (next_below hK.out hb)
  replace q_w := Lib.hid (q_w.out.below hb)
  replace q_v := Lib.hid (q_v.out.below hb)
  replace hz := Lib.hid (hz.out.next hb)
  clear hb
  clear hz
  go_wp2_with fail
  refine (is_any _).mono ?_; rintro e w22 ⟨gz, rfl, hz, hb⟩; replace hz := Lib.hid hz
  replace hK := Lib.hid (next_below hK.out hb)
  replace q_w := Lib.hid (q_w.out.below hb)
  replace q_v := Lib.hid (q_v.out.below hb)
  clear hb
  go_wp2_with fail
  refine (wk_6 q_v.out (HG.out _ hK.out)).mono ?_; rintro e w23 ⟨rfl, hb⟩
  replace hK := Lib.hid (next_below hK.out hb)
  replace q_w := Lib.hid (q_w.out.below hb)
  replace q_v := Lib.hid (q_v.out.below hb)
  replace hz := Lib.hid (hz.out.next hb)
  clear hb
  go_wp2_with fail
  refine (is_true hz.out).mono ?_; rintro e w24 ⟨rfl, hb⟩
  replace hK := Lib.hid (next_below hK.out hb)
  replace q_w := Lib.hid (q_w.out.below hb)
  replace q_v := Lib.hid (q_v.out.below hb)
  replace hz := Lib.hid (hz.out.next hb)
  clear hb
  clear hz
  go_wp2_with fail
  refine (is_any _).mono ?_; rintro e w25 ⟨gz, rfl, hz, hb⟩; replace hz := Lib.hid hz
  replace hK := Lib.hid (next_below hK.out hb)
  replace q_w := Lib.hid (q_w.out.below hb)
  replace q_v := Lib.hid (q_v.out.below hb)
  clear hb
  go_wp2_with fail
  refine (wk_7 q_v.out (HG.out _ hK.out)).mono ?_; rintro e w26 ⟨rfl, hb⟩
  replace hK := Lib.hid (next_below hK.out hb)
  replace q_w := Lib.hid (q_w.out.below hb)
  replace q_v := Lib.hid (q_v.out.below hb)
  replace hz := Lib.hid (hz.out.next hb)
  clear hb
  go_wp2_with fail
  refine (is_true hz.out).mono ?_; rintro e w27 ⟨rfl, hb⟩
  replace hK := Lib.hid (next_below hK.out hb)
  replace q_w := Lib.hid (q_w.out.below hb)
  replace q_v := Lib.hid (q_v.out.below hb)
  replace hz := Lib.hid (hz.out.next hb)
  clear hb
  clear hz
  clear q_v
  go_wp2_with fail
  refine (fails_true (u := 5) ([[49, 47, 51], [50, 47, 51]] : List (List UInt8)) ([48, 120] : List UInt8) (by decide +kernel) (by decide) (by decide) (by decide) q_w.out (HG.out _ hK.out)).mono ?_; rintro e w28 ⟨rfl, hb⟩
  replace hK := Lib.hid (next_below hK.out hb)
  replace q_w := Lib.hid (q_w.out.below hb)
  clear hb
  go_wp2_with fail
  refine (rep_any [48] 201 (by decide) (by decide)).mono ?_; rintro e w29 ⟨rfl, hb⟩
  replace hK := Lib.hid (next_below hK.out hb)
  replace q_w := Lib.hid (q_w.out.below hb)
  clear hb
  go_wp2_with fail
  refine (fails_true (u := 3) ([[49, 47, 51], [50, 47, 51]] : List (List UInt8)) (Lib.repeatL [48] 201) (by decide +kernel) (by rw [Lib.repeatL_length]; decide) (by decide) (by decide) q_w.out (HG.out _ hK.out)).mono ?_; rintro e w30 ⟨rfl, hb⟩
  replace hK := Lib.hid (next_below hK.out hb)
  replace q_w := Lib.hid (q_w.out.below hb)
  clear hb
  clear q_w
  go_wp2_with fail
  have hbn : Below w30.heap.size w30 (w30.alloc (.cells #[.string ⟨#[49, 47, 50]⟩, .string ⟨#[49, 47, 51]⟩] 24)) := (Below.refl _ _).alloc (Nat.le_refl _) _
  replace hK := Lib.hid (next_below hK.out hbn)
  clear hbn
  have q_a : Hid (Qs (w30.alloc (.cells #[.string ⟨#[49, 47, 50]⟩, .string ⟨#[49, 47, 51]⟩] 24)) (.slice (some ⟨w30.heap.size, 0, none⟩) 2 2) ([[49, 47, 50], [49, 47, 51]] : List (List UInt8))) := Lib.hid (Qs.lit (cs := #[.string ⟨#[49, 47, 50]⟩, .string ⟨#[49, 47, 51]⟩]) ([[49, 47, 50], [49, 47, 51]] : List (List UInt8)) (by have h := Blk.new w30 24 #[.string ⟨#[49, 47, 50]⟩, .string ⟨#[49, 47, 51]⟩]; simpa using h) rfl (by decide))
  refine (wk_8 q_a.out (HG.out _ hK.out)).mono ?_; rintro e w31 ⟨rfl, hb⟩
  replace hK := Lib.hid (next_below hK.out hb)
  replace q_a := Lib.hid (q_a.out.below hb)
  clear hb
  clear q_a
  go_wp2_with fail
  have hbn : Below w31.heap.size w31 (w31.alloc (.cells #[.string ⟨#[51, 47, 50]⟩, .string ⟨#[45, 49, 47, 50]⟩] 24)) := (Below.refl _ _).alloc (Nat.le_refl _) _
  replace hK := Lib.hid (next_below hK.out hbn)
  clear hbn
  have q_b : Hid (Qs (w31.alloc (.cells #[.string ⟨#[51, 47, 50]⟩, .string ⟨#[45, 49, 47, 50]⟩] 24)) (.slice (some ⟨w31.heap.size, 0, none⟩) 2 2) ([[51, 47, 50], [45, 49, 47, 50]] : List (List UInt8))) := Lib.hid (Qs.lit (cs := #[.string ⟨#[51, 47, 50]⟩, .string ⟨#[45, 49, 47, 50]⟩]) ([[51, 47, 50], [45, 49, 47, 50]] : List (List UInt8)) (by have h := Blk.new w31 24 #[.string ⟨#[51, 47, 50]⟩, .string ⟨#[45, 49, 47, 50]⟩]; simpa using h) rfl (by decide))
  refine (wk_9 q_b.out (HG.out _ hK.out)).mono ?_; rintro e w32 ⟨rfl, hb⟩
  replace hK := Lib.hid (next_below hK.out hb)
  replace q_b := Lib.hid (q_b.out.below hb)
  clear hb
  clear q_b
  go_wp2_with fail
  refine (wk_10 (Qs.nil _) (HG.out _ hK.out)).mono ?_; rintro e w33 ⟨rfl, hb⟩
  replace hK := Lib.hid (next_below hK.out hb)
  clear hb
  go_wp2_with fail
  go_ret
  exact ⟨rfl, hK.out⟩
end Go.Proofs.YtfjjdjhnodcfhaaGreatDoor
