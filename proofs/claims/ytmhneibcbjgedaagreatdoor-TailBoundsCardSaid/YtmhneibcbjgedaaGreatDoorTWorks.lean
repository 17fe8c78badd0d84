/- The calls of the examples, reckoned. -/
import Derived.Test.YtmhneibcbjgedaaGreatDoorTLow
set_option linter.unusedSimpArgs false
set_option linter.unusedVariables false
namespace Go.Proofs.YtmhneibcbjgedaaGreatDoor
open Go.RowKit
open Go.Lib (decDigits itoa nDigits)

theorem known_0 {w : World} (hg : Good w) : Calls Tryz.prog 11 #[.int .i64 5, .int .i64 2] w (RetV w (.tuple #[.string { data := #[49, 48] }, .int .i64 0])) := by
  have h := choose_any (w := w) 5 2 hg
  have e2 : (if cnt 5 2 = 0 then itoa (chz 5 (2 : Int).toNat) else []) = [49, 48] := by decide +kernel
  have e1 : cnt 5 2 = 0 := by decide +kernel
  rw [e2, e1] at h
  exact h
theorem known_1 {w : World} (hg : Good w) : Calls Tryz.prog 11 #[.int .i64 200, .int .i64 1] w (RetV w (.tuple #[.string { data := #[50, 48, 48] }, .int .i64 0])) := by
  have h := choose_any (w := w) 200 1 hg
  have e2 : (if cnt 200 1 = 0 then itoa (chz 200 (1 : Int).toNat) else []) = [50, 48, 48] := by decide +kernel
  have e1 : cnt 200 1 = 0 := by decide +kernel
  rw [e2, e1] at h
  exact h
theorem known_2 {w : World} (hg : Good w) : Calls Tryz.prog 11 #[.int .i64 0, .int .i64 0] w (RetV w (.tuple #[.string { data := #[49] }, .int .i64 0])) := by
  have h := choose_any (w := w) 0 0 hg
  have e2 : (if cnt 0 0 = 0 then itoa (chz 0 (0 : Int).toNat) else []) = [49] := by decide +kernel
  have e1 : cnt 0 0 = 0 := by decide +kernel
  rw [e2, e1] at h
  exact h
theorem known_3 {w : World} (hg : Good w) : Calls Tryz.prog 11 #[.int .i64 201, .int .i64 1] w (RetV w (.tuple #[.string { data := #[] }, .int .i64 2])) := by
  have h := choose_any (w := w) 201 1 hg
  have e2 : (if cnt 201 1 = 0 then itoa (chz 201 (1 : Int).toNat) else []) = [] := by decide +kernel
  have e1 : cnt 201 1 = 2 := by decide +kernel
  rw [e2, e1] at h
  exact h
theorem known_4 {w : World} (hg : Good w) : Calls Tryz.prog 11 #[.int .i64 2, .int .i64 3] w (RetV w (.tuple #[.string { data := #[] }, .int .i64 2])) := by
  have h := choose_any (w := w) 2 3 hg
  have e2 : (if cnt 2 3 = 0 then itoa (chz 2 (3 : Int).toNat) else []) = [] := by decide +kernel
  have e1 : cnt 2 3 = 2 := by decide +kernel
  rw [e2, e1] at h
  exact h
theorem known_5 {w : World} (hg : Good w) : Calls Tryz.prog 12 #[.int .i64 2, .int .i64 1, .string { data := #[49, 47, 51] }] w (RetV w (.tuple #[.string { data := #[52, 47, 57] }, .int .i64 0])) := by
  have h := mass_any (w := w) 2 1 [49, 47, 51] (by decide) hg
  have e2 : (if errM 2 1 [49, 47, 51] = 0 then ratText (UV (2 : Int).toNat (1 : Int).toNat (rval [49, 47, 51]) - UV (2 : Int).toNat ((1 : Int).toNat + 1) (rval [49, 47, 51])) else []) = [52, 47, 57] := by decide +kernel
  have e1 : errM 2 1 [49, 47, 51] = 0 := by decide +kernel
  rw [e2, e1] at h
  exact h
theorem known_6 {w : World} (hg : Good w) : Calls Tryz.prog 12 #[.int .i64 3, .int .i64 0, .string { data := #[48] }] w (RetV w (.tuple #[.string { data := #[49] }, .int .i64 0])) := by
  have h := mass_any (w := w) 3 0 [48] (by decide) hg
  have e2 : (if errM 3 0 [48] = 0 then ratText (UV (3 : Int).toNat (0 : Int).toNat (rval [48]) - UV (3 : Int).toNat ((0 : Int).toNat + 1) (rval [48])) else []) = [49] := by decide +kernel
  have e1 : errM 3 0 [48] = 0 := by decide +kernel
  rw [e2, e1] at h
  exact h
theorem known_7 {w : World} (hg : Good w) : Calls Tryz.prog 14 #[.int .i64 2, .int .i64 1, .string { data := #[49, 47, 51] }] w (RetV w (.tuple #[.string { data := #[53, 47, 57] }, .int .i64 0])) := by
  have h := least_any (w := w) 2 1 [49, 47, 51] (by decide) hg
  have e2 : (if errM 2 1 [49, 47, 51] = 0 then ratText (UV (2 : Int).toNat (1 : Int).toNat (rval [49, 47, 51])) else []) = [53, 47, 57] := by decide +kernel
  have e1 : errM 2 1 [49, 47, 51] = 0 := by decide +kernel
  rw [e2, e1] at h
  exact h
theorem known_8 {w : World} (hg : Good w) : Calls Tryz.prog 14 #[.int .i64 3, .int .i64 0, .string { data := #[49, 47, 50] }] w (RetV w (.tuple #[.string { data := #[49] }, .int .i64 0])) := by
  have h := least_any (w := w) 3 0 [49, 47, 50] (by decide) hg
  have e2 : (if errM 3 0 [49, 47, 50] = 0 then ratText (UV (3 : Int).toNat (0 : Int).toNat (rval [49, 47, 50])) else []) = [49] := by decide +kernel
  have e1 : errM 3 0 [49, 47, 50] = 0 := by decide +kernel
  rw [e2, e1] at h
  exact h
theorem known_9 {w : World} (hg : Good w) : Calls Tryz.prog 15 #[.int .i64 1, .int .i64 1, .string { data := #[49, 47, 52] }, .int .i64 8] w (RetV w (.tuple #[.string { data := #[49, 47, 52] }, .int .i64 0])) := by
  have h := low_any (w := w) 1 1 [49, 47, 52] 8 (by decide) (by decide) (by decide) hg
  have e2 : (if errB 1 1 [49, 47, 52] 8 = 0 then lowT (1 : Int).toNat (1 : Int).toNat (8 : Int).toNat (rval [49, 47, 52]) else []) = [49, 47, 52] := by decide +kernel
  have e1 : errB 1 1 [49, 47, 52] 8 = 0 := by decide +kernel
  rw [e2, e1] at h
  exact h
theorem known_10 {w : World} (hg : Good w) : Calls Tryz.prog 16 #[.int .i64 1, .int .i64 0, .string { data := #[49, 47, 52] }, .int .i64 8] w (RetV w (.tuple #[.string { data := #[51, 47, 52] }, .int .i64 0])) := by
  have h := high_any (w := w) 1 0 [49, 47, 52] 8 (by decide) (by decide) (by decide) hg
  have e2 : (if errB 1 0 [49, 47, 52] 8 = 0 then highT (1 : Int).toNat (0 : Int).toNat (8 : Int).toNat (rval [49, 47, 52]) else []) = [51, 47, 52] := by decide +kernel
  have e1 : errB 1 0 [49, 47, 52] 8 = 0 := by decide +kernel
  rw [e2, e1] at h
  exact h
theorem known_11 {w : World} (hg : Good w) : Calls Tryz.prog 15 #[.int .i64 10, .int .i64 0, .string { data := #[49, 47, 49, 48] }, .int .i64 10] w (RetV w (.tuple #[.string { data := #[48] }, .int .i64 0])) := by
  have h := low_any (w := w) 10 0 [49, 47, 49, 48] 10 (by decide) (by decide) (by decide) hg
  have e2 : (if errB 10 0 [49, 47, 49, 48] 10 = 0 then lowT (10 : Int).toNat (0 : Int).toNat (10 : Int).toNat (rval [49, 47, 49, 48]) else []) = [48] := by decide +kernel
  have e1 : errB 10 0 [49, 47, 49, 48] 10 = 0 := by decide +kernel
  rw [e2, e1] at h
  exact h
theorem known_12 {w : World} (hg : Good w) : Calls Tryz.prog 16 #[.int .i64 10, .int .i64 10, .string { data := #[49, 47, 49, 48] }, .int .i64 10] w (RetV w (.tuple #[.string { data := #[49] }, .int .i64 0])) := by
  have h := high_any (w := w) 10 10 [49, 47, 49, 48] 10 (by decide) (by decide) (by decide) hg
  have e2 : (if errB 10 10 [49, 47, 49, 48] 10 = 0 then highT (10 : Int).toNat (10 : Int).toNat (10 : Int).toNat (rval [49, 47, 49, 48]) else []) = [49] := by decide +kernel
  have e1 : errB 10 10 [49, 47, 49, 48] 10 = 0 := by decide +kernel
  rw [e2, e1] at h
  exact h
theorem known_13 {w : World} (hg : Good w) : Calls Tryz.prog 15 #[.int .i64 10, .int .i64 10, .string { data := #[49, 47, 49, 48] }, .int .i64 10] w (RetV w (.tuple #[.string { data := #[55, 47, 49, 48] }, .int .i64 0])) := by
  have h := low_any (w := w) 10 10 [49, 47, 49, 48] 10 (by decide) (by decide) (by decide) hg
  have e2 : (if errB 10 10 [49, 47, 49, 48] 10 = 0 then lowT (10 : Int).toNat (10 : Int).toNat (10 : Int).toNat (rval [49, 47, 49, 48]) else []) = [55, 47, 49, 48] := by decide +kernel
  have e1 : errB 10 10 [49, 47, 49, 48] 10 = 0 := by decide +kernel
  rw [e2, e1] at h
  exact h
theorem known_14 {w : World} (hg : Good w) : Calls Tryz.prog 12 #[.int .i64 1, .int .i64 0, .string { data := #[50] }] w (RetV w (.tuple #[.string { data := #[] }, .int .i64 2])) := by
  have h := mass_any (w := w) 1 0 [50] (by decide) hg
  have e2 : (if errM 1 0 [50] = 0 then ratText (UV (1 : Int).toNat (0 : Int).toNat (rval [50]) - UV (1 : Int).toNat ((0 : Int).toNat + 1) (rval [50])) else []) = [] := by decide +kernel
  have e1 : errM 1 0 [50] = 2 := by decide +kernel
  rw [e2, e1] at h
  exact h
theorem known_15 {w : World} (hg : Good w) : Calls Tryz.prog 12 #[.int .i64 1, .int .i64 0, .string { data := #[49, 47, 49, 48, 48, 48, 48] }] w (RetV w (.tuple #[.string { data := #[] }, .int .i64 2])) := by
  have h := mass_any (w := w) 1 0 [49, 47, 49, 48, 48, 48, 48] (by decide) hg
  have e2 : (if errM 1 0 [49, 47, 49, 48, 48, 48, 48] = 0 then ratText (UV (1 : Int).toNat (0 : Int).toNat (rval [49, 47, 49, 48, 48, 48, 48]) - UV (1 : Int).toNat ((0 : Int).toNat + 1) (rval [49, 47, 49, 48, 48, 48, 48])) else []) = [] := by decide +kernel
  have e1 : errM 1 0 [49, 47, 49, 48, 48, 48, 48] = 2 := by decide +kernel
  rw [e2, e1] at h
  exact h
theorem known_16 {w : World} (hg : Good w) : Calls Tryz.prog 12 #[.int .i64 1, .int .i64 0, .string { data := #[50, 47, 50] }] w (RetV w (.tuple #[.string { data := #[] }, .int .i64 5])) := by
  have h := mass_any (w := w) 1 0 [50, 47, 50] (by decide) hg
  have e2 : (if errM 1 0 [50, 47, 50] = 0 then ratText (UV (1 : Int).toNat (0 : Int).toNat (rval [50, 47, 50]) - UV (1 : Int).toNat ((0 : Int).toNat + 1) (rval [50, 47, 50])) else []) = [] := by decide +kernel
  have e1 : errM 1 0 [50, 47, 50] = 5 := by decide +kernel
  rw [e2, e1] at h
  exact h
theorem known_17 {w : World} (hg : Good w) : Calls Tryz.prog 15 #[.int .i64 1, .int .i64 1, .string { data := #[49] }, .int .i64 8] w (RetV w (.tuple #[.string { data := #[] }, .int .i64 2])) := by
  have h := low_any (w := w) 1 1 [49] 8 (by decide) (by decide) (by decide) hg
  have e2 : (if errB 1 1 [49] 8 = 0 then lowT (1 : Int).toNat (1 : Int).toNat (8 : Int).toNat (rval [49]) else []) = [] := by decide +kernel
  have e1 : errB 1 1 [49] 8 = 2 := by decide +kernel
  rw [e2, e1] at h
  exact h
theorem known_18 {w : World} (hg : Good w) : Calls Tryz.prog 15 #[.int .i64 1, .int .i64 1, .string { data := #[48] }, .int .i64 8] w (RetV w (.tuple #[.string { data := #[] }, .int .i64 2])) := by
  have h := low_any (w := w) 1 1 [48] 8 (by decide) (by decide) (by decide) hg
  have e2 : (if errB 1 1 [48] 8 = 0 then lowT (1 : Int).toNat (1 : Int).toNat (8 : Int).toNat (rval [48]) else []) = [] := by decide +kernel
  have e1 : errB 1 1 [48] 8 = 2 := by decide +kernel
  rw [e2, e1] at h
  exact h
theorem known_19 {w : World} (hg : Good w) : Calls Tryz.prog 15 #[.int .i64 1, .int .i64 1, .string { data := #[49, 47, 50] }, .int .i64 0] w (RetV w (.tuple #[.string { data := #[] }, .int .i64 2])) := by
  have h := low_any (w := w) 1 1 [49, 47, 50] 0 (by decide) (by decide) (by decide) hg
  have e2 : (if errB 1 1 [49, 47, 50] 0 = 0 then lowT (1 : Int).toNat (1 : Int).toNat (0 : Int).toNat (rval [49, 47, 50]) else []) = [] := by decide +kernel
  have e1 : errB 1 1 [49, 47, 50] 0 = 2 := by decide +kernel
  rw [e2, e1] at h
  exact h
theorem known_20 {w : World} (hg : Good w) : Calls Tryz.prog 11 #[.int .i64 200, .int .i64 100] w (RetV w (.tuple #[.string { data := #[57, 48, 53, 52, 56, 53, 49, 52, 54, 53, 54, 49, 48, 51, 50, 56, 49, 49, 54, 53, 52, 48, 52, 49, 55, 55, 48, 55, 55, 52, 56, 52, 49, 54, 51, 56, 55, 52, 53, 48, 52, 53, 56, 57, 54, 55, 53, 52, 49, 51, 51, 51, 54, 56, 52, 49, 51, 50, 48] }, .int .i64 0])) := by
  have h := choose_any (w := w) 200 100 hg
  have e2 : (if cnt 200 100 = 0 then itoa (chz 200 (100 : Int).toNat) else []) = [57, 48, 53, 52, 56, 53, 49, 52, 54, 53, 54, 49, 48, 51, 50, 56, 49, 49, 54, 53, 52, 48, 52, 49, 55, 55, 48, 55, 55, 52, 56, 52, 49, 54, 51, 56, 55, 52, 53, 48, 52, 53, 56, 57, 54, 55, 53, 52, 49, 51, 51, 51, 54, 56, 52, 49, 51, 50, 48] := by decide +kernel
  have e1 : cnt 200 100 = 0 := by decide +kernel
  rw [e2, e1] at h
  exact h
theorem known_21 {w : World} (hg : Good w) : Calls Tryz.prog 11 #[.int .i64 (-1), .int .i64 0] w (RetV w (.tuple #[.string { data := #[] }, .int .i64 2])) := by
  have h := choose_any (w := w) (-1) 0 hg
  have e2 : (if cnt (-1) 0 = 0 then itoa (chz (-1) (0 : Int).toNat) else []) = [] := by decide +kernel
  have e1 : cnt (-1) 0 = 2 := by decide +kernel
  rw [e2, e1] at h
  exact h
theorem known_22 {w : World} (hg : Good w) : Calls Tryz.prog 11 #[.int .i64 3, .int .i64 (-1)] w (RetV w (.tuple #[.string { data := #[] }, .int .i64 2])) := by
  have h := choose_any (w := w) 3 (-1) hg
  have e2 : (if cnt 3 (-1) = 0 then itoa (chz 3 ((-1) : Int).toNat) else []) = [] := by decide +kernel
  have e1 : cnt 3 (-1) = 2 := by decide +kernel
  rw [e2, e1] at h
  exact h
theorem known_23 {w : World} (hg : Good w) : Calls Tryz.prog 12 #[.int .i64 201, .int .i64 0, .string { data := #[120] }] w (RetV w (.tuple #[.string { data := #[] }, .int .i64 2])) := by
  have h := mass_any (w := w) 201 0 [120] (by decide) hg
  have e2 : (if errM 201 0 [120] = 0 then ratText (UV (201 : Int).toNat (0 : Int).toNat (rval [120]) - UV (201 : Int).toNat ((0 : Int).toNat + 1) (rval [120])) else []) = [] := by decide +kernel
  have e1 : errM 201 0 [120] = 2 := by decide +kernel
  rw [e2, e1] at h
  exact h
theorem known_24 {w : World} (hg : Good w) : Calls Tryz.prog 12 #[.int .i64 1, .int .i64 2, .string { data := #[120] }] w (RetV w (.tuple #[.string { data := #[] }, .int .i64 2])) := by
  have h := mass_any (w := w) 1 2 [120] (by decide) hg
  have e2 : (if errM 1 2 [120] = 0 then ratText (UV (1 : Int).toNat (2 : Int).toNat (rval [120]) - UV (1 : Int).toNat ((2 : Int).toNat + 1) (rval [120])) else []) = [] := by decide +kernel
  have e1 : errM 1 2 [120] = 2 := by decide +kernel
  rw [e2, e1] at h
  exact h
theorem known_25 {w : World} (hg : Good w) : Calls Tryz.prog 14 #[.int .i64 1, .int .i64 1, .string { data := #[] }] w (RetV w (.tuple #[.string { data := #[] }, .int .i64 5])) := by
  have h := least_any (w := w) 1 1 [] (by decide) hg
  have e2 : (if errM 1 1 [] = 0 then ratText (UV (1 : Int).toNat (1 : Int).toNat (rval [])) else []) = [] := by decide +kernel
  have e1 : errM 1 1 [] = 5 := by decide +kernel
  rw [e2, e1] at h
  exact h
theorem known_26 {w : World} (hg : Good w) : Calls Tryz.prog 14 #[.int .i64 1, .int .i64 1, .string { data := #[45, 49, 47, 50] }] w (RetV w (.tuple #[.string { data := #[] }, .int .i64 2])) := by
  have h := least_any (w := w) 1 1 [45, 49, 47, 50] (by decide) hg
  have e2 : (if errM 1 1 [45, 49, 47, 50] = 0 then ratText (UV (1 : Int).toNat (1 : Int).toNat (rval [45, 49, 47, 50])) else []) = [] := by decide +kernel
  have e1 : errM 1 1 [45, 49, 47, 50] = 2 := by decide +kernel
  rw [e2, e1] at h
  exact h
theorem known_27 {w : World} (hg : Good w) : Calls Tryz.prog 15 #[.int .i64 1, .int .i64 1, .string { data := #[120] }, .int .i64 0] w (RetV w (.tuple #[.string { data := #[] }, .int .i64 5])) := by
  have h := low_any (w := w) 1 1 [120] 0 (by decide) (by decide) (by decide) hg
  have e2 : (if errB 1 1 [120] 0 = 0 then lowT (1 : Int).toNat (1 : Int).toNat (0 : Int).toNat (rval [120]) else []) = [] := by decide +kernel
  have e1 : errB 1 1 [120] 0 = 5 := by decide +kernel
  rw [e2, e1] at h
  exact h
theorem known_28 {w : World} (hg : Good w) : Calls Tryz.prog 15 #[.int .i64 1, .int .i64 2, .string { data := #[120] }, .int .i64 5] w (RetV w (.tuple #[.string { data := #[] }, .int .i64 2])) := by
  have h := low_any (w := w) 1 2 [120] 5 (by decide) (by decide) (by decide) hg
  have e2 : (if errB 1 2 [120] 5 = 0 then lowT (1 : Int).toNat (2 : Int).toNat (5 : Int).toNat (rval [120]) else []) = [] := by decide +kernel
  have e1 : errB 1 2 [120] 5 = 2 := by decide +kernel
  rw [e2, e1] at h
  exact h
theorem known_29 {w : World} (hg : Good w) : Calls Tryz.prog 16 #[.int .i64 1, .int .i64 1, .string { data := #[49, 47, 50] }, .int .i64 1001] w (RetV w (.tuple #[.string { data := #[] }, .int .i64 2])) := by
  have h := high_any (w := w) 1 1 [49, 47, 50] 1001 (by decide) (by decide) (by decide) hg
  have e2 : (if errB 1 1 [49, 47, 50] 1001 = 0 then highT (1 : Int).toNat (1 : Int).toNat (1001 : Int).toNat (rval [49, 47, 50]) else []) = [] := by decide +kernel
  have e1 : errB 1 1 [49, 47, 50] 1001 = 2 := by decide +kernel
  rw [e2, e1] at h
  exact h
theorem known_30 {w : World} (hg : Good w) : Calls Tryz.prog 16 #[.int .i64 1, .int .i64 1, .string { data := #[49, 47, 49, 48, 48, 48, 49] }, .int .i64 5] w (RetV w (.tuple #[.string { data := #[] }, .int .i64 2])) := by
  have h := high_any (w := w) 1 1 [49, 47, 49, 48, 48, 48, 49] 5 (by decide) (by decide) (by decide) hg
  have e2 : (if errB 1 1 [49, 47, 49, 48, 48, 48, 49] 5 = 0 then highT (1 : Int).toNat (1 : Int).toNat (5 : Int).toNat (rval [49, 47, 49, 48, 48, 48, 49]) else []) = [] := by decide +kernel
  have e1 : errB 1 1 [49, 47, 49, 48, 48, 48, 49] 5 = 2 := by decide +kernel
  rw [e2, e1] at h
  exact h
theorem known_31 {w : World} (hg : Good w) : Calls Tryz.prog 12 #[.int .i64 0, .int .i64 0, .string { data := #[48] }] w (RetV w (.tuple #[.string { data := #[49] }, .int .i64 0])) := by
  have h := mass_any (w := w) 0 0 [48] (by decide) hg
  have e2 : (if errM 0 0 [48] = 0 then ratText (UV (0 : Int).toNat (0 : Int).toNat (rval [48]) - UV (0 : Int).toNat ((0 : Int).toNat + 1) (rval [48])) else []) = [49] := by decide +kernel
  have e1 : errM 0 0 [48] = 0 := by decide +kernel
  rw [e2, e1] at h
  exact h
theorem known_32 {w : World} (hg : Good w) : Calls Tryz.prog 12 #[.int .i64 5, .int .i64 5, .string { data := #[49] }] w (RetV w (.tuple #[.string { data := #[49] }, .int .i64 0])) := by
  have h := mass_any (w := w) 5 5 [49] (by decide) hg
  have e2 : (if errM 5 5 [49] = 0 then ratText (UV (5 : Int).toNat (5 : Int).toNat (rval [49]) - UV (5 : Int).toNat ((5 : Int).toNat + 1) (rval [49])) else []) = [49] := by decide +kernel
  have e1 : errM 5 5 [49] = 0 := by decide +kernel
  rw [e2, e1] at h
  exact h
theorem known_33 {w : World} (hg : Good w) : Calls Tryz.prog 12 #[.int .i64 5, .int .i64 4, .string { data := #[49] }] w (RetV w (.tuple #[.string { data := #[48] }, .int .i64 0])) := by
  have h := mass_any (w := w) 5 4 [49] (by decide) hg
  have e2 : (if errM 5 4 [49] = 0 then ratText (UV (5 : Int).toNat (4 : Int).toNat (rval [49]) - UV (5 : Int).toNat ((4 : Int).toNat + 1) (rval [49])) else []) = [48] := by decide +kernel
  have e1 : errM 5 4 [49] = 0 := by decide +kernel
  rw [e2, e1] at h
  exact h
theorem known_34 {w : World} (hg : Good w) : Calls Tryz.prog 15 #[.int .i64 0, .int .i64 0, .string { data := #[49, 47, 50] }, .int .i64 1] w (RetV w (.tuple #[.string { data := #[48] }, .int .i64 0])) := by
  have h := low_any (w := w) 0 0 [49, 47, 50] 1 (by decide) (by decide) (by decide) hg
  have e2 : (if errB 0 0 [49, 47, 50] 1 = 0 then lowT (0 : Int).toNat (0 : Int).toNat (1 : Int).toNat (rval [49, 47, 50]) else []) = [48] := by decide +kernel
  have e1 : errB 0 0 [49, 47, 50] 1 = 0 := by decide +kernel
  rw [e2, e1] at h
  exact h
theorem known_35 {w : World} (hg : Good w) : Calls Tryz.prog 16 #[.int .i64 0, .int .i64 0, .string { data := #[49, 47, 50] }, .int .i64 1000] w (RetV w (.tuple #[.string { data := #[49] }, .int .i64 0])) := by
  have h := high_any (w := w) 0 0 [49, 47, 50] 1000 (by decide) (by decide) (by decide) hg
  have e2 : (if errB 0 0 [49, 47, 50] 1000 = 0 then highT (0 : Int).toNat (0 : Int).toNat (1000 : Int).toNat (rval [49, 47, 50]) else []) = [49] := by decide +kernel
  have e1 : errB 0 0 [49, 47, 50] 1000 = 0 := by decide +kernel
  rw [e2, e1] at h
  exact h
theorem known_36 {w : World} (hg : Good w) : Calls Tryz.prog 15 #[.int .i64 1, .int .i64 1, .string { data := #[49, 47, 50] }, .int .i64 1] w (RetV w (.tuple #[.string { data := #[48] }, .int .i64 0])) := by
  have h := low_any (w := w) 1 1 [49, 47, 50] 1 (by decide) (by decide) (by decide) hg
  have e2 : (if errB 1 1 [49, 47, 50] 1 = 0 then lowT (1 : Int).toNat (1 : Int).toNat (1 : Int).toNat (rval [49, 47, 50]) else []) = [48] := by decide +kernel
  have e1 : errB 1 1 [49, 47, 50] 1 = 0 := by decide +kernel
  rw [e2, e1] at h
  exact h
theorem known_37 {w : World} (hg : Good w) : Calls Tryz.prog 16 #[.int .i64 1, .int .i64 0, .string { data := #[49, 47, 50] }, .int .i64 1] w (RetV w (.tuple #[.string { data := #[49] }, .int .i64 0])) := by
  have h := high_any (w := w) 1 0 [49, 47, 50] 1 (by decide) (by decide) (by decide) hg
  have e2 : (if errB 1 0 [49, 47, 50] 1 = 0 then highT (1 : Int).toNat (0 : Int).toNat (1 : Int).toNat (rval [49, 47, 50]) else []) = [49] := by decide +kernel
  have e1 : errB 1 0 [49, 47, 50] 1 = 0 := by decide +kernel
  rw [e2, e1] at h
  exact h
theorem known_38 {w : World} (hg : Good w) : Calls Tryz.prog 15 #[.int .i64 1, .int .i64 1, .string { data := #[49, 47, 50] }, .int .i64 1000] w (RetV w (.tuple #[.string { data := #[49, 47, 50] }, .int .i64 0])) := by
  have h := low_any (w := w) 1 1 [49, 47, 50] 1000 (by decide) (by decide) (by decide) hg
  have e2 : (if errB 1 1 [49, 47, 50] 1000 = 0 then lowT (1 : Int).toNat (1 : Int).toNat (1000 : Int).toNat (rval [49, 47, 50]) else []) = [49, 47, 50] := by decide +kernel
  have e1 : errB 1 1 [49, 47, 50] 1000 = 0 := by decide +kernel
  rw [e2, e1] at h
  exact h
theorem known_39 {w : World} (hg : Good w) : Calls Tryz.prog 16 #[.int .i64 1, .int .i64 0, .string { data := #[49, 47, 50] }, .int .i64 2] w (RetV w (.tuple #[.string { data := #[49, 47, 50] }, .int .i64 0])) := by
  have h := high_any (w := w) 1 0 [49, 47, 50] 2 (by decide) (by decide) (by decide) hg
  have e2 : (if errB 1 0 [49, 47, 50] 2 = 0 then highT (1 : Int).toNat (0 : Int).toNat (2 : Int).toNat (rval [49, 47, 50]) else []) = [49, 47, 50] := by decide +kernel
  have e1 : errB 1 0 [49, 47, 50] 2 = 0 := by decide +kernel
  rw [e2, e1] at h
  exact h

/-- The great example: a long text. -/
theorem known_big : ∃ T : ByteArray, 1500 < (T.size : Int) ∧ ∀ w : World, Good w → Calls Tryz.prog 12 #[.int .i64 200, .int .i64 200, .string { data := #[57, 57, 57, 56, 47, 57, 57, 57, 57] }] w (RetV w (.tuple #[.string T, .int .i64 0])) := by
  refine ⟨⟨(ratText (UV 200 200 (rval [57, 57, 57, 56, 47, 57, 57, 57, 57]) - UV 200 201 (rval [57, 57, 57, 56, 47, 57, 57, 57, 57]))).toArray⟩, ?_, fun w hg => ?_⟩
  · have h : 1500 < (ratText (UV 200 200 (rval [57, 57, 57, 56, 47, 57, 57, 57, 57]) - UV 200 201 (rval [57, 57, 57, 56, 47, 57, 57, 57, 57]))).length := by decide +kernel
    rw [ba_size]; omega
  · have h := mass_any (w := w) 200 200 [57, 57, 57, 56, 47, 57, 57, 57, 57] (by decide) hg
    have e1 : errM 200 200 [57, 57, 57, 56, 47, 57, 57, 57, 57] = 0 := by decide +kernel
    rw [e1, if_pos rfl] at h
    exact h

end Go.Proofs.YtmhneibcbjgedaaGreatDoor

/- The contracts of the closures of the examples, and of works. -/
set_option linter.unusedSimpArgs false
set_option linter.unusedVariables false
namespace Go.Proofs.YtmhneibcbjgedaaGreatDoor
open Go.RowKit

/-- The library's variables hold what they hold, and what lay there lies there. -/
def Gd (w0 w : World) : Prop := Good w ∧ Below w0.heap.size w0 w
theorem Gd.next {w0 w w' : World} (h : Gd w0 w) (hb : Below w.heap.size w w') : Gd w0 w' := ⟨h.1.below hb, h.2.trans (hb.mono h.2.size)⟩
theorem Gd.more {w0 w : World} (h : Gd w0 w) (o : Obj) : Gd w0 (w.alloc o) := h.next ((Below.refl _ _).alloc (Nat.le_refl _) _)

theorem is_any {w : World} (s : ByteArray) : Calls Tryz.prog 17 #[.string s] w fun e w' => ∃ g : Nat, e = .returned (.func (.func 51) #[] #[.pointer (some ⟨g, 0, none⟩)]) ∧ Blk w' g 26 #[.string s] ∧ Below w.heap.size w w' := by
  go_enter Tryz.func17, Tryz.ntmps17
  go_wp2
  go_ret
  exact ⟨_, rfl, Blk.new _ _ _, (Below.refl _ _).alloc (Nat.le_refl _) _⟩
theorem fails_any {w : World} (n : Int) : Calls Tryz.prog 13 #[.int .i64 n] w fun e w' => ∃ g : Nat, e = .returned (.func (.func 44) #[] #[.pointer (some ⟨g, 0, none⟩)]) ∧ Blk w' g 23 #[.int .i64 n] ∧ Below w.heap.size w w' := by
  go_enter Tryz.func13, Tryz.ntmps13
  go_wp2
  go_ret
  exact ⟨_, rfl, Blk.new _ _ _, (Below.refl _ _).alloc (Nat.le_refl _) _⟩
theorem is_true {w : World} {g : Nat} {s : ByteArray} (h : Blk w g 26 #[.string s]) : Calls Tryz.prog 51 #[.string s, .int .i64 0, .pointer (some ⟨g, 0, none⟩)] w (RetV w (.bool true)) := by
  have hc := h.cell 0
  simp at hc
  go_enter Tryz.func51, Tryz.ntmps51
  go_wp2
  go_ret
  exact ⟨rfl, Below.refl _ _⟩
theorem fails_true {w : World} {g : Nat} {n : Int} (h : Blk w g 23 #[.int .i64 n]) : Calls Tryz.prog 44 #[.string { data := #[] }, .int .i64 n, .pointer (some ⟨g, 0, none⟩)] w (RetV w (.bool true)) := by
  have hc := h.cell 0
  simp at hc
  go_enter Tryz.func44, Tryz.ntmps44
  go_wp2
  go_ret
  exact ⟨rfl, Below.refl _ _⟩

set_option maxHeartbeats 4000000 in
set_option maxRecDepth 100000 in
theorem works_any {w : World} (hg : Good w) : Calls Tryz.prog 10 #[] w (RetV w (.bool true)) := by
  have hG : Gd w w := ⟨hg, Below.refl _ _⟩
  clear hg
  go_enter Tryz.func10, Tryz.ntmps10
  go_wp2_with fail
  refine (known_0 hG.1).mono ?_; rintro e wn ⟨rfl, hb⟩; replace hG := hG.next hb; clear hb
  go_wp2_with fail
  refine (known_1 hG.1).mono ?_; rintro e wn ⟨rfl, hb⟩; replace hG := hG.next hb; clear hb
  go_wp2_with fail
  refine (known_2 hG.1).mono ?_; rintro e wn ⟨rfl, hb⟩; replace hG := hG.next hb; clear hb
  go_wp2_with fail
  refine (known_3 hG.1).mono ?_; rintro e wn ⟨rfl, hb⟩; replace hG := hG.next hb; clear hb
  go_wp2_with fail
  refine (known_4 hG.1).mono ?_; rintro e wn ⟨rfl, hb⟩; replace hG := hG.next hb; clear hb
  go_wp2_with fail
  refine (is_any _).mono ?_; rintro e wn ⟨gz, rfl, hz, hb⟩; replace hG := hG.next hb; clear hb
  go_wp2_with fail
  refine (known_5 hG.1).mono ?_; rintro e wn ⟨rfl, hb⟩; replace hG := hG.next hb; replace hz := hz.next hb; clear hb
  go_wp2_with fail
  refine (is_true hz).mono ?_; rintro e wn ⟨rfl, hb⟩; replace hG := hG.next hb; clear hb hz
  go_wp2_with fail
  refine (is_any _).mono ?_; rintro e wn ⟨gz, rfl, hz, hb⟩; replace hG := hG.next hb; clear hb
  go_wp2_with fail
  refine (known_6 hG.1).mono ?_; rintro e wn ⟨rfl, hb⟩; replace hG := hG.next hb; replace hz := hz.next hb; clear hb
  go_wp2_with fail
  refine (is_true hz).mono ?_; rintro e wn ⟨rfl, hb⟩; replace hG := hG.next hb; clear hb hz
  go_wp2_with fail
  refine (is_any _).mono ?_; rintro e wn ⟨gz, rfl, hz, hb⟩; replace hG := hG.next hb; clear hb
  go_wp2_with fail
  refine (known_7 hG.1).mono ?_; rintro e wn ⟨rfl, hb⟩; replace hG := hG.next hb; replace hz := hz.next hb; clear hb
  go_wp2_with fail
  refine (is_true hz).mono ?_; rintro e wn ⟨rfl, hb⟩; replace hG := hG.next hb; clear hb hz
  go_wp2_with fail
  refine (is_any _).mono ?_; rintro e wn ⟨gz, rfl, hz, hb⟩; replace hG := hG.next hb; clear hb
  go_wp2_with fail
  refine (known_8 hG.1).mono ?_; rintro e wn ⟨rfl, hb⟩; replace hG := hG.next hb; replace hz := hz.next hb; clear hb
  go_wp2_with fail
  refine (is_true hz).mono ?_; rintro e wn ⟨rfl, hb⟩; replace hG := hG.next hb; clear hb hz
  go_wp2_with fail
  refine (is_any _).mono ?_; rintro e wn ⟨gz, rfl, hz, hb⟩; replace hG := hG.next hb; clear hb
  go_wp2_with fail
  refine (known_9 hG.1).mono ?_; rintro e wn ⟨rfl, hb⟩; replace hG := hG.next hb; replace hz := hz.next hb; clear hb
  go_wp2_with fail
  refine (is_true hz).mono ?_; rintro e wn ⟨rfl, hb⟩; replace hG := hG.next hb; clear hb hz
  go_wp2_with fail
  refine (is_any _).mono ?_; rintro e wn ⟨gz, rfl, hz, hb⟩; replace hG := hG.next hb; clear hb
  go_wp2_with fail
  refine (known_10 hG.1).mono ?_; rintro e wn ⟨rfl, hb⟩; replace hG := hG.next hb; replace hz := hz.next hb; clear hb
  go_wp2_with fail
  refine (is_true hz).mono ?_; rintro e wn ⟨rfl, hb⟩; replace hG := hG.next hb; clear hb hz
  go_wp2_with fail
  refine (is_any _).mono ?_; rintro e wn ⟨gz, rfl, hz, hb⟩; replace hG := hG.next hb; clear hb
  go_wp2_with fail
  refine (known_11 hG.1).mono ?_; rintro e wn ⟨rfl, hb⟩; replace hG := hG.next hb; replace hz := hz.next hb; clear hb
  go_wp2_with fail
  refine (is_true hz).mono ?_; rintro e wn ⟨rfl, hb⟩; replace hG := hG.next hb; clear hb hz
  go_wp2_with fail
  refine (is_any _).mono ?_; rintro e wn ⟨gz, rfl, hz, hb⟩; replace hG := hG.next hb; clear hb
  go_wp2_with fail
  refine (known_12 hG.1).mono ?_; rintro e wn ⟨rfl, hb⟩; replace hG := hG.next hb; replace hz := hz.next hb; clear hb
  go_wp2_with fail
  refine (is_true hz).mono ?_; rintro e wn ⟨rfl, hb⟩; replace hG := hG.next hb; clear hb hz
  go_wp2_with fail
  refine (is_any _).mono ?_; rintro e wn ⟨gz, rfl, hz, hb⟩; replace hG := hG.next hb; clear hb
  go_wp2_with fail
  refine (known_13 hG.1).mono ?_; rintro e wn ⟨rfl, hb⟩; replace hG := hG.next hb; replace hz := hz.next hb; clear hb
  go_wp2_with fail
  refine (is_true hz).mono ?_; rintro e wn ⟨rfl, hb⟩; replace hG := hG.next hb; clear hb hz
  go_wp2_with fail
  refine (fails_any _).mono ?_; rintro e wn ⟨gz, rfl, hz, hb⟩; replace hG := hG.next hb; clear hb
  go_wp2_with fail
  refine (known_14 hG.1).mono ?_; rintro e wn ⟨rfl, hb⟩; replace hG := hG.next hb; replace hz := hz.next hb; clear hb
  go_wp2_with fail
  refine (fails_true hz).mono ?_; rintro e wn ⟨rfl, hb⟩; replace hG := hG.next hb; clear hb hz
  go_wp2_with fail
  refine (fails_any _).mono ?_; rintro e wn ⟨gz, rfl, hz, hb⟩; replace hG := hG.next hb; clear hb
  go_wp2_with fail
  refine (known_15 hG.1).mono ?_; rintro e wn ⟨rfl, hb⟩; replace hG := hG.next hb; replace hz := hz.next hb; clear hb
  go_wp2_with fail
  refine (fails_true hz).mono ?_; rintro e wn ⟨rfl, hb⟩; replace hG := hG.next hb; clear hb hz
  go_wp2_with fail
  refine (fails_any _).mono ?_; rintro e wn ⟨gz, rfl, hz, hb⟩; replace hG := hG.next hb; clear hb
  go_wp2_with fail
  refine (known_16 hG.1).mono ?_; rintro e wn ⟨rfl, hb⟩; replace hG := hG.next hb; replace hz := hz.next hb; clear hb
  go_wp2_with fail
  refine (fails_true hz).mono ?_; rintro e wn ⟨rfl, hb⟩; replace hG := hG.next hb; clear hb hz
  go_wp2_with fail
  refine (fails_any _).mono ?_; rintro e wn ⟨gz, rfl, hz, hb⟩; replace hG := hG.next hb; clear hb
  go_wp2_with fail
  refine (known_17 hG.1).mono ?_; rintro e wn ⟨rfl, hb⟩; replace hG := hG.next hb; replace hz := hz.next hb; clear hb
  go_wp2_with fail
  refine (fails_true hz).mono ?_; rintro e wn ⟨rfl, hb⟩; replace hG := hG.next hb; clear hb hz
  go_wp2_with fail
  refine (fails_any _).mono ?_; rintro e wn ⟨gz, rfl, hz, hb⟩; replace hG := hG.next hb; clear hb
  go_wp2_with fail
  refine (known_18 hG.1).mono ?_; rintro e wn ⟨rfl, hb⟩; replace hG := hG.next hb; replace hz := hz.next hb; clear hb
  go_wp2_with fail
  refine (fails_true hz).mono ?_; rintro e wn ⟨rfl, hb⟩; replace hG := hG.next hb; clear hb hz
  go_wp2_with fail
  refine (fails_any _).mono ?_; rintro e wn ⟨gz, rfl, hz, hb⟩; replace hG := hG.next hb; clear hb
  go_wp2_with fail
  refine (known_19 hG.1).mono ?_; rintro e wn ⟨rfl, hb⟩; replace hG := hG.next hb; replace hz := hz.next hb; clear hb
  go_wp2_with fail
  refine (fails_true hz).mono ?_; rintro e wn ⟨rfl, hb⟩; replace hG := hG.next hb; clear hb hz
  go_wp2_with fail
  go_ret
  exact ⟨rfl, hG.2⟩

end Go.Proofs.YtmhneibcbjgedaaGreatDoor
