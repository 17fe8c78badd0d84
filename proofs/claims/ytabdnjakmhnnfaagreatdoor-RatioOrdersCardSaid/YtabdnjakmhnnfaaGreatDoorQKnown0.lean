/- The calls of the examples, reckoned; the closures; works. -/
import Derived.Test.YtabdnjakmhnnfaaGreatDoorQFull
import Derived.Test.YtabdnjakmhnnfaaGreatDoorQMake
import Derived.Test.YtabdnjakmhnnfaaGreatDoorQPow
set_option linter.unusedSimpArgs false
set_option linter.unusedVariables false
namespace Go.Proofs.YtabdnjakmhnnfaaGreatDoor
open Go.RowKit
open Go.Lib (decDigits itoa nDigits)
open D4 (rt it)

theorem ba_app (a b : List UInt8) : (⟨a.toArray⟩ : ByteArray) ++ ⟨b.toArray⟩ = ⟨(a ++ b).toArray⟩ := by
  apply ByteArray.ext; simp [ByteArray.data_append]
def NL : List UInt8 := Lib.repeatL [57] 2000
def NT : ByteArray := ⟨NL.toArray⟩
def TL : List UInt8 := [49, 47, 50] ++ Lib.repeatL [48] 1999
def TT : ByteArray := ⟨TL.toArray⟩
theorem big_0 : (⟨#[45, 49, 47]⟩ ++ NT : ByteArray) = ⟨([45, 49, 47] ++ NL).toArray⟩ := ba_app [45, 49, 47] NL
theorem big_1 : (NT ++ ⟨#[57]⟩ : ByteArray) = ⟨(NL ++ [57]).toArray⟩ := ba_app NL [57]
theorem big_2 : (⟨#[49, 47]⟩ ++ NT ++ ⟨#[57]⟩ : ByteArray) = ⟨([49, 47] ++ NL ++ [57]).toArray⟩ := by
  have h := ba_app [49, 47] NL
  exact (congrArg (· ++ (⟨#[57]⟩ : ByteArray)) h).trans (ba_app _ [57])
theorem big_3 : (⟨#[51, 47]⟩ ++ NT ++ ⟨#[57]⟩ : ByteArray) = ⟨([51, 47] ++ NL ++ [57]).toArray⟩ := by
  have h := ba_app [51, 47] NL
  exact (congrArg (· ++ (⟨#[57]⟩ : ByteArray)) h).trans (ba_app _ [57])
theorem NL_len : NL.length = 2000 := by unfold NL; rw [Lib.repeatL_length]; rfl
theorem TL_len : TL.length = 2002 := by unfold TL; rw [List.length_append, Lib.repeatL_length]; rfl
theorem NT_size : NT.size = 2000 := by unfold NT; rw [ba_size, NL_len]
theorem rep_nine {w : World} : Calls Tryz.prog 13 #[.string { data := #[57] }, .int .i64 2000] w (RetV w (.string NT)) := by
  refine (Tryz.strings_Repeat ⟨#[57]⟩ 2000 w (by omega) (by show 1 * 2000 ≤ _; omega)).mono ?_
  rintro e w' ⟨rfl, h⟩
  exact ⟨rfl, h⟩
theorem rep_zero {w : World} : Calls Tryz.prog 13 #[.string { data := #[48] }, .int .i64 1999] w (RetV w (.string ⟨(Lib.repeatL [48] 1999).toArray⟩)) := repeat_any 1999 (by omega)
theorem two_is : (⟨#[49, 47, 50]⟩ ++ ⟨(Lib.repeatL [48] 1999).toArray⟩ : ByteArray) = TT := ba_app [49, 47, 50] (Lib.repeatL [48] 1999)
theorem rep_size : (⟨(Lib.repeatL [48] 1999).toArray⟩ : ByteArray).size = 1999 := by rw [ba_size, Lib.repeatL_length]; rfl
theorem zpow_m1 {n : Int} (hn : n ≠ 0) : zpow (-1) n = if n % 2 = 0 then 1 else -1 := by
  obtain ⟨m, hm⟩ : ∃ m : Nat, (m : Int) = 2 - n % 2 := ⟨(2 - n % 2).toNat, by omega⟩
  rw [zpow_small (.inl rfl) hn (fun h => absurd h.2 (by decide)) hm, neg_rpow]
  congr 1
  exact propext (by omega)
theorem powE_m1 {n : Int} (hn : n ≠ 0) (h1 : -10000 ≤ n) (h2 : n ≤ 10000) : powE [45, 49] n = 0 := by
  unfold powE
  have e1 : rerr [45, 49] = 0 := by decide +kernel
  have e2 : rval [45, 49] = -1 := by decide +kernel
  have e3 : ((-1 : Rat)).num = -1 := by decide +kernel
  rw [if_pos e1, e2, e3, if_neg (by omega), zpow_m1 hn, if_pos]
  split <;> decide +kernel
theorem powT_m1 {n : Int} (hn : n ≠ 0) (h1 : -10000 ≤ n) (h2 : n ≤ 10000) : powT [45, 49] n = if n % 2 = 0 then ⟨#[49]⟩ else ⟨#[45, 49]⟩ := by
  unfold powT
  have e2 : rval [45, 49] = -1 := by decide +kernel
  rw [if_pos (powE_m1 hn h1 h2), e2, zpow_m1 hn]
  split <;> decide +kernel
theorem powE_z : powE [48] 10000 = 0 := by
  unfold powE
  have e1 : rerr [48] = 0 := by decide +kernel
  have e2 : rval [48] = 0 := by decide +kernel
  have e4 : zpow 0 10000 = 0 := zero_rpow 9999
  rw [if_pos e1, e2, if_neg (by omega), e4, if_pos]
  decide +kernel
theorem powT_z : powT [48] 10000 = ⟨#[48]⟩ := by
  unfold powT
  have e2 : rval [48] = 0 := by decide +kernel
  have e4 : zpow 0 10000 = 0 := zero_rpow 9999
  rw [if_pos powE_z, e2, e4]
  decide +kernel
theorem powE_two : powE [50] (-10000) = 6 := by
  unfold powE
  have e1 : rerr [50] = 0 := by decide +kernel
  have e2 : rval [50] = 2 := by decide +kernel
  have e4 : zpow 2 (-10000) = (1 / 2) ^ 10000 := rfl
  rw [if_pos e1, e2, if_neg (by intro h; rcases h with h | h | h; omega; omega; exact absurd h.2 (by decide +kernel)), e4, if_neg]
  rintro ⟨-, h⟩
  rw [Rat.den_pow] at h
  exact absurd h (by decide +kernel)
theorem powE_ten : powE [49, 47, 49, 48] 2000 = 6 := by
  unfold powE
  have e1 : rerr [49, 47, 49, 48] = 0 := by decide +kernel
  have e2 : rval [49, 47, 49, 48] = Rat.divInt 1 10 := by decide +kernel
  have e4 : zpow (Rat.divInt 1 10) 2000 = (Rat.divInt 1 10) ^ 2000 := rfl
  rw [if_pos e1, e2, if_neg (by omega), e4, if_neg]
  rintro ⟨-, h⟩
  rw [Rat.den_pow] at h
  exact absurd h (by decide +kernel)

theorem known_0 {w : World} (hg : Good w) : Calls Tryz.prog 14 #[.string { data := #[50, 47, 52] }] w (RetV w (.int .i64 5)) := by
  have e1 : rerr ([50, 47, 52] : List UInt8) = 5 := by decide +kernel
  have h := rcheck_any (w := w) ([50, 47, 52] : List UInt8) (by decide) hg
  rw [e1] at h
  exact h
theorem known_1 {w : World} (hg : Good w) : Calls Tryz.prog 14 #[.string { data := #[49, 47, 49] }] w (RetV w (.int .i64 5)) := by
  have e1 : rerr ([49, 47, 49] : List UInt8) = 5 := by decide +kernel
  have h := rcheck_any (w := w) ([49, 47, 49] : List UInt8) (by decide) hg
  rw [e1] at h
  exact h
theorem known_2 {w : World} (hg : Good w) : Calls Tryz.prog 14 #[.string { data := #[48, 47, 51] }] w (RetV w (.int .i64 5)) := by
  have e1 : rerr ([48, 47, 51] : List UInt8) = 5 := by decide +kernel
  have h := rcheck_any (w := w) ([48, 47, 51] : List UInt8) (by decide) hg
  rw [e1] at h
  exact h
theorem known_3 {w : World} (hg : Good w) : Calls Tryz.prog 14 #[.string { data := #[49, 47, 45, 50] }] w (RetV w (.int .i64 5)) := by
  have e1 : rerr ([49, 47, 45, 50] : List UInt8) = 5 := by decide +kernel
  have h := rcheck_any (w := w) ([49, 47, 45, 50] : List UInt8) (by decide) hg
  rw [e1] at h
  exact h
theorem known_4 {w : World} (hg : Good w) : Calls Tryz.prog 14 #[.string { data := #[51, 47] }] w (RetV w (.int .i64 5)) := by
  have e1 : rerr ([51, 47] : List UInt8) = 5 := by decide +kernel
  have h := rcheck_any (w := w) ([51, 47] : List UInt8) (by decide) hg
  rw [e1] at h
  exact h
theorem known_5 {w : World} (hg : Good w) : Calls Tryz.prog 48 #[.string { data := #[49, 47, 51] }, .string { data := #[50, 47, 55] }] w (RetV w (.tuple #[.int .i64 1, .int .i64 0])) := by
  have e1 : cmpE ([49, 47, 51] : List UInt8) ([50, 47, 55] : List UInt8) = 0 := by decide +kernel
  have e2 : cmpR ([49, 47, 51] : List UInt8) ([50, 47, 55] : List UInt8) = 1 := by decide +kernel
  have h := rcmp_any (w := w) (la := ([49, 47, 51] : List UInt8)) (lb := ([50, 47, 55] : List UInt8)) (by decide) (by decide) hg
  rw [e1, e2] at h
  exact h
theorem known_6 {w : World} (hg : Good w) : Calls Tryz.prog 23 #[.string { data := #[49] }, .int .i64 101] w (RetV w (.tuple #[.string { data := #[] }, .int .i64 2])) := by
  have e1 : decE ([49] : List UInt8) 101 = 2 := by decide +kernel
  have e2 : decS ([49] : List UInt8) 101 = ({ data := #[] } : ByteArray) := by decide +kernel
  have h := dec_any (w := w) ([49] : List UInt8) 101 (by decide) hg
  rw [e1, e2] at h
  exact h
theorem known_7 {w : World} (hg : Good w) : Calls Tryz.prog 21 #[.string { data := #[54] }, .string { data := #[45, 52] }] w (RetV w (.tuple #[.string { data := #[45, 51, 47, 50] }, .int .i64 0])) := by
  have e1 : makE ([54] : List UInt8) ([45, 52] : List UInt8) = 0 := by decide +kernel
  have e2 : makT ([54] : List UInt8) ([45, 52] : List UInt8) = ({ data := #[45, 51, 47, 50] } : ByteArray) := by decide +kernel
  have h := rmake_full (w := w) ([54] : List UInt8) ([45, 52] : List UInt8) (by decide) (by decide) hg
  rw [e1, e2] at h
  exact h
theorem known_8 {w : World} (hg : Good w) : Calls Tryz.prog 21 #[.string { data := #[48] }, .string { data := #[45, 55] }] w (RetV w (.tuple #[.string { data := #[48] }, .int .i64 0])) := by
  have e1 : makE ([48] : List UInt8) ([45, 55] : List UInt8) = 0 := by decide +kernel
  have e2 : makT ([48] : List UInt8) ([45, 55] : List UInt8) = ({ data := #[48] } : ByteArray) := by decide +kernel
  have h := rmake_full (w := w) ([48] : List UInt8) ([45, 55] : List UInt8) (by decide) (by decide) hg
  rw [e1, e2] at h
  exact h
theorem known_9 {w : World} (hg : Good w) : Calls Tryz.prog 21 #[.string { data := #[54] }, .string { data := #[51] }] w (RetV w (.tuple #[.string { data := #[50] }, .int .i64 0])) := by
  have e1 : makE ([54] : List UInt8) ([51] : List UInt8) = 0 := by decide +kernel
  have e2 : makT ([54] : List UInt8) ([51] : List UInt8) = ({ data := #[50] } : ByteArray) := by decide +kernel
  have h := rmake_full (w := w) ([54] : List UInt8) ([51] : List UInt8) (by decide) (by decide) hg
  rw [e1, e2] at h
  exact h
theorem known_10 {w : World} (hg : Good w) : Calls Tryz.prog 21 #[.string { data := #[49] }, .string { data := #[48] }] w (RetV w (.tuple #[.string { data := #[] }, .int .i64 2])) := by
  have e1 : makE ([49] : List UInt8) ([48] : List UInt8) = 2 := by decide +kernel
  have e2 : makT ([49] : List UInt8) ([48] : List UInt8) = ({ data := #[] } : ByteArray) := by decide +kernel
  have h := rmake_full (w := w) ([49] : List UInt8) ([48] : List UInt8) (by decide) (by decide) hg
  rw [e1, e2] at h
  exact h
theorem known_11 {w : World} (hg : Good w) : Calls Tryz.prog 19 #[.string { data := #[49, 47, 50] }, .string { data := #[49, 47, 51] }] w (RetV w (.tuple #[.string { data := #[53, 47, 54] }, .int .i64 0])) := by
  have e1 : opE (rval ([49, 47, 50] : List UInt8) + rval ([49, 47, 51] : List UInt8)) ([49, 47, 50] : List UInt8) ([49, 47, 51] : List UInt8) = 0 := by decide +kernel
  have e2 : opT (rval ([49, 47, 50] : List UInt8) + rval ([49, 47, 51] : List UInt8)) ([49, 47, 50] : List UInt8) ([49, 47, 51] : List UInt8) = [53, 47, 54] := by decide +kernel
  have h := radd_any (w := w) (la := ([49, 47, 50] : List UInt8)) (lb := ([49, 47, 51] : List UInt8)) (by decide) (by decide) hg
  rw [e1, e2] at h
  exact h
theorem known_12 {w : World} (hg : Good w) : Calls Tryz.prog 27 #[.string { data := #[49, 47, 50] }, .string { data := #[49, 47, 50] }] w (RetV w (.tuple #[.string { data := #[48] }, .int .i64 0])) := by
  have e1 : opE (rval ([49, 47, 50] : List UInt8) - rval ([49, 47, 50] : List UInt8)) ([49, 47, 50] : List UInt8) ([49, 47, 50] : List UInt8) = 0 := by decide +kernel
  have e2 : opT (rval ([49, 47, 50] : List UInt8) - rval ([49, 47, 50] : List UInt8)) ([49, 47, 50] : List UInt8) ([49, 47, 50] : List UInt8) = [48] := by decide +kernel
  have h := rsub_any (w := w) (la := ([49, 47, 50] : List UInt8)) (lb := ([49, 47, 50] : List UInt8)) (by decide) (by decide) hg
  rw [e1, e2] at h
  exact h
theorem known_13 {w : World} (hg : Good w) : Calls Tryz.prog 16 #[.string { data := #[45, 50, 47, 51] }, .string { data := #[51, 47, 50] }] w (RetV w (.tuple #[.string { data := #[45, 49] }, .int .i64 0])) := by
  have e1 : opE (rval ([45, 50, 47, 51] : List UInt8) * rval ([51, 47, 50] : List UInt8)) ([45, 50, 47, 51] : List UInt8) ([51, 47, 50] : List UInt8) = 0 := by decide +kernel
  have e2 : opT (rval ([45, 50, 47, 51] : List UInt8) * rval ([51, 47, 50] : List UInt8)) ([45, 50, 47, 51] : List UInt8) ([51, 47, 50] : List UInt8) = [45, 49] := by decide +kernel
  have h := rmul_any (w := w) (la := ([45, 50, 47, 51] : List UInt8)) (lb := ([51, 47, 50] : List UInt8)) (by decide) (by decide) hg
  rw [e1, e2] at h
  exact h
theorem known_14 {w : World} (hg : Good w) : Calls Tryz.prog 18 #[.string { data := #[49] }, .string { data := #[45, 50, 47, 51] }] w (RetV w (.tuple #[.string { data := #[45, 51, 47, 50] }, .int .i64 0])) := by
  have e1 : divE ([49] : List UInt8) ([45, 50, 47, 51] : List UInt8) = 0 := by decide +kernel
  have e2 : divT ([49] : List UInt8) ([45, 50, 47, 51] : List UInt8) = [45, 51, 47, 50] := by decide +kernel
  have h := rdiv_any (w := w) (la := ([49] : List UInt8)) (lb := ([45, 50, 47, 51] : List UInt8)) (by decide) (by decide) hg
  rw [e1, e2] at h
  exact h
theorem known_15 {w : World} (hg : Good w) : Calls Tryz.prog 20 #[.string { data := #[50, 47, 51] }, .int .i64 (-3)] w (RetV w (.tuple #[.string { data := #[50, 55, 47, 56] }, .int .i64 0])) := by
  have e1 : powE ([50, 47, 51] : List UInt8) (-3) = 0 := by decide +kernel
  have e2 : powT ([50, 47, 51] : List UInt8) (-3) = ({ data := #[50, 55, 47, 56] } : ByteArray) := by decide +kernel
  have h := pow_any (w := w) ([50, 47, 51] : List UInt8) (-3) (by decide) hg
  rw [e1, e2] at h
  exact h
theorem known_16 {w : World} (hg : Good w) : Calls Tryz.prog 20 #[.string { data := #[48] }, .int .i64 0] w (RetV w (.tuple #[.string { data := #[49] }, .int .i64 0])) := by
  have e1 : powE ([48] : List UInt8) 0 = 0 := by decide +kernel
  have e2 : powT ([48] : List UInt8) 0 = ({ data := #[49] } : ByteArray) := by decide +kernel
  have h := pow_any (w := w) ([48] : List UInt8) 0 (by decide) hg
  rw [e1, e2] at h
  exact h
theorem known_17 {w : World} (hg : Good w) : Calls Tryz.prog 20 #[.string { data := #[48] }, .int .i64 (-1)] w (RetV w (.tuple #[.string { data := #[] }, .int .i64 2])) := by
  have e1 : powE ([48] : List UInt8) (-1) = 2 := by decide +kernel
  have e2 : powT ([48] : List UInt8) (-1) = ({ data := #[] } : ByteArray) := by decide +kernel
  have h := pow_any (w := w) ([48] : List UInt8) (-1) (by decide) hg
  rw [e1, e2] at h
  exact h
theorem known_18 {w : World} (hg : Good w) : Calls Tryz.prog 39 #[.string { data := #[45, 49, 47, 50] }] w (RetV w (.tuple #[.string { data := #[45, 49] }, .int .i64 0])) := by
  have e1 : rt (Rat.divInt (-1) 2) = ({ data := #[45, 49, 47, 50] } : ByteArray) := by decide +kernel
  have e2 : it ((Rat.divInt (-1) 2)).floor = ({ data := #[45, 49] } : ByteArray) := by decide +kernel
  have h := rfloor_rt (w := w) (x := (Rat.divInt (-1) 2)) ⟨by decide +kernel, by decide +kernel⟩ hg
  rw [e1, e2] at h
  exact h
theorem known_19 {w : World} (hg : Good w) : Calls Tryz.prog 40 #[.string { data := #[45, 49, 47, 50] }] w (RetV w (.tuple #[.string { data := #[48] }, .int .i64 0])) := by
  have e1 : rt (Rat.divInt (-1) 2) = ({ data := #[45, 49, 47, 50] } : ByteArray) := by decide +kernel
  have e2 : it (-((-(Rat.divInt (-1) 2)).floor)) = ({ data := #[48] } : ByteArray) := by decide +kernel
  have h := rceil_rt (w := w) (x := (Rat.divInt (-1) 2)) ⟨by decide +kernel, by decide +kernel⟩ hg
  rw [e1, e2] at h
  exact h
theorem known_20 {w : World} (hg : Good w) : Calls Tryz.prog 23 #[.string { data := #[49, 47, 51] }, .int .i64 4] w (RetV w (.tuple #[.string { data := #[48, 46, 51, 51, 51, 51] }, .int .i64 0])) := by
  have e1 : decE ([49, 47, 51] : List UInt8) 4 = 0 := by decide +kernel
  have e2 : decS ([49, 47, 51] : List UInt8) 4 = ({ data := #[48, 46, 51, 51, 51, 51] } : ByteArray) := by decide +kernel
  have h := dec_any (w := w) ([49, 47, 51] : List UInt8) 4 (by decide) hg
  rw [e1, e2] at h
  exact h
theorem known_21 {w : World} (hg : Good w) : Calls Tryz.prog 23 #[.string { data := #[45, 49, 47, 51] }, .int .i64 2] w (RetV w (.tuple #[.string { data := #[45, 48, 46, 51, 52] }, .int .i64 0])) := by
  have e1 : decE ([45, 49, 47, 51] : List UInt8) 2 = 0 := by decide +kernel
  have e2 : decS ([45, 49, 47, 51] : List UInt8) 2 = ({ data := #[45, 48, 46, 51, 52] } : ByteArray) := by decide +kernel
  have h := dec_any (w := w) ([45, 49, 47, 51] : List UInt8) 2 (by decide) hg
  rw [e1, e2] at h
  exact h
theorem known_22 {w : World} (hg : Good w) : Calls Tryz.prog 23 #[.string { data := #[45, 49, 47, 49, 48, 48, 48] }, .int .i64 2] w (RetV w (.tuple #[.string { data := #[45, 48, 46, 48, 49] }, .int .i64 0])) := by
  have e1 : decE ([45, 49, 47, 49, 48, 48, 48] : List UInt8) 2 = 0 := by decide +kernel
  have e2 : decS ([45, 49, 47, 49, 48, 48, 48] : List UInt8) 2 = ({ data := #[45, 48, 46, 48, 49] } : ByteArray) := by decide +kernel
  have h := dec_any (w := w) ([45, 49, 47, 49, 48, 48, 48] : List UInt8) 2 (by decide) hg
  rw [e1, e2] at h
  exact h
theorem known_23 {w : World} (hg : Good w) : Calls Tryz.prog 23 #[.string { data := #[55, 47, 50] }, .int .i64 0] w (RetV w (.tuple #[.string { data := #[51] }, .int .i64 0])) := by
  have e1 : decE ([55, 47, 50] : List UInt8) 0 = 0 := by decide +kernel
  have e2 : decS ([55, 47, 50] : List UInt8) 0 = ({ data := #[51] } : ByteArray) := by decide +kernel
  have h := dec_any (w := w) ([55, 47, 50] : List UInt8) 0 (by decide) hg
  rw [e1, e2] at h
  exact h
theorem known_24 {w : World} (hg : Good w) : Calls Tryz.prog 24 #[.string { data := #[57, 57, 57, 57, 47, 55] }] w (RetV w (.bool true)) := by
  have e1 : rshort ([57, 57, 57, 57, 47, 55] : List UInt8) = true := by decide +kernel
  have h := rshort_any (w := w) ([57, 57, 57, 57, 47, 55] : List UInt8) (by decide) hg
  rw [e1] at h
  exact h
theorem known_25 {w : World} (hg : Good w) : Calls Tryz.prog 24 #[.string { data := #[49, 48, 48, 48, 48] }] w (RetV w (.bool false)) := by
  have e1 : rshort ([49, 48, 48, 48, 48] : List UInt8) = false := by decide +kernel
  have h := rshort_any (w := w) ([49, 48, 48, 48, 48] : List UInt8) (by decide) hg
  rw [e1] at h
  exact h
theorem known_26 {w : World} (hg : Good w) : Calls Tryz.prog 24 #[.string { data := #[49, 47, 50, 120] }] w (RetV w (.bool false)) := by
  have e1 : rshort ([49, 47, 50, 120] : List UInt8) = false := by decide +kernel
  have h := rshort_any (w := w) ([49, 47, 50, 120] : List UInt8) (by decide) hg
  rw [e1] at h
  exact h
set_option maxRecDepth 1000000 in
theorem known_27 {w : World} (hg : Good w) : Calls Tryz.prog 14 #[.string NT] w (RetV w (.int .i64 0)) := by
  have e1 : rerr NL = 0 := by decide +kernel
  have h := rcheck_any (w := w) NL (by simp [NL_len]) hg
  rw [e1] at h
  exact h
set_option maxRecDepth 1000000 in
theorem known_28 {w : World} (hg : Good w) : Calls Tryz.prog 14 #[.string (⟨#[45, 49, 47]⟩ ++ NT)] w (RetV w (.int .i64 0)) := by
  have e1 : rerr ([45, 49, 47] ++ NL) = 0 := by decide +kernel
  have h := rcheck_any (w := w) ([45, 49, 47] ++ NL) (by simp [NL_len]) hg
  rw [e1] at h
  rw [← big_0] at h
  exact h
set_option maxRecDepth 1000000 in
theorem known_29 {w : World} (hg : Good w) : Calls Tryz.prog 14 #[.string (NT ++ ⟨#[57]⟩)] w (RetV w (.int .i64 6)) := by
  have e1 : rerr (NL ++ [57]) = 6 := by decide +kernel
  have h := rcheck_any (w := w) (NL ++ [57]) (by simp [NL_len]) hg
  rw [e1] at h
  rw [← big_1] at h
  exact h
set_option maxRecDepth 1000000 in
theorem known_30 {w : World} (hg : Good w) : Calls Tryz.prog 14 #[.string (⟨#[49, 47]⟩ ++ NT ++ ⟨#[57]⟩)] w (RetV w (.int .i64 6)) := by
  have e1 : rerr ([49, 47] ++ NL ++ [57]) = 6 := by decide +kernel
  have h := rcheck_any (w := w) ([49, 47] ++ NL ++ [57]) (by simp [NL_len]) hg
  rw [e1] at h
  rw [← big_2] at h
  exact h
set_option maxRecDepth 1000000 in
theorem known_31 {w : World} (hg : Good w) : Calls Tryz.prog 14 #[.string (⟨#[51, 47]⟩ ++ NT ++ ⟨#[57]⟩)] w (RetV w (.int .i64 5)) := by
  have e1 : rerr ([51, 47] ++ NL ++ [57]) = 5 := by decide +kernel
  have h := rcheck_any (w := w) ([51, 47] ++ NL ++ [57]) (by simp [NL_len]) hg
  rw [e1] at h
  rw [← big_3] at h
  exact h
theorem known_32 {w : World} (hg : Good w) : Calls Tryz.prog 14 #[.string { data := #[49, 47, 50, 47, 51] }] w (RetV w (.int .i64 5)) := by
  have e1 : rerr ([49, 47, 50, 47, 51] : List UInt8) = 5 := by decide +kernel
  have h := rcheck_any (w := w) ([49, 47, 50, 47, 51] : List UInt8) (by decide) hg
  rw [e1] at h
  exact h
theorem known_33 {w : World} (hg : Good w) : Calls Tryz.prog 14 #[.string { data := #[47, 50] }] w (RetV w (.int .i64 5)) := by
  have e1 : rerr ([47, 50] : List UInt8) = 5 := by decide +kernel
  have h := rcheck_any (w := w) ([47, 50] : List UInt8) (by decide) hg
  rw [e1] at h
  exact h
theorem known_34 {w : World} (hg : Good w) : Calls Tryz.prog 14 #[.string { data := #[49, 47, 32, 50] }] w (RetV w (.int .i64 5)) := by
  have e1 : rerr ([49, 47, 32, 50] : List UInt8) = 5 := by decide +kernel
  have h := rcheck_any (w := w) ([49, 47, 32, 50] : List UInt8) (by decide) hg
  rw [e1] at h
  exact h
theorem known_35 {w : World} (hg : Good w) : Calls Tryz.prog 14 #[.string { data := #[49, 47, 48] }] w (RetV w (.int .i64 5)) := by
  have e1 : rerr ([49, 47, 48] : List UInt8) = 5 := by decide +kernel
  have h := rcheck_any (w := w) ([49, 47, 48] : List UInt8) (by decide) hg
  rw [e1] at h
  exact h
set_option maxRecDepth 1000000 in
theorem known_36 {w : World} (hg : Good w) : Calls Tryz.prog 16 #[.string TT, .string { data := #[49, 47, 49, 48] }] w (RetV w (.tuple #[.string { data := #[] }, .int .i64 6])) := by
  have e1 : opE (rval TL * rval ([49, 47, 49, 48] : List UInt8)) TL ([49, 47, 49, 48] : List UInt8) = 6 := by decide +kernel
  have e2 : opT (rval TL * rval ([49, 47, 49, 48] : List UInt8)) TL ([49, 47, 49, 48] : List UInt8) = [] := by decide +kernel
  have h := rmul_any (w := w) (la := TL) (lb := ([49, 47, 49, 48] : List UInt8)) (by rw [TL_len]; omega) (by decide) hg
  rw [e1, e2] at h
  exact h
set_option maxRecDepth 1000000 in
theorem known_37 {w : World} (hg : Good w) : Calls Tryz.prog 18 #[.string TT, .string TT] w (RetV w (.tuple #[.string { data := #[49] }, .int .i64 0])) := by
  have e1 : divE TL TL = 0 := by decide +kernel
  have e2 : divT TL TL = [49] := by decide +kernel
  have h := rdiv_any (w := w) (la := TL) (lb := TL) (by rw [TL_len]; omega) (by rw [TL_len]; omega) hg
  rw [e1, e2] at h
  exact h
set_option maxRecDepth 1000000 in
theorem known_38 {w : World} (hg : Good w) : Calls Tryz.prog 19 #[.string NT, .string { data := #[49, 47, 49, 48] }] w (RetV w (.tuple #[.string { data := #[] }, .int .i64 6])) := by
  have e1 : opE (rval NL + rval ([49, 47, 49, 48] : List UInt8)) NL ([49, 47, 49, 48] : List UInt8) = 6 := by decide +kernel
  have e2 : opT (rval NL + rval ([49, 47, 49, 48] : List UInt8)) NL ([49, 47, 49, 48] : List UInt8) = [] := by decide +kernel
  have h := radd_any (w := w) (la := NL) (lb := ([49, 47, 49, 48] : List UInt8)) (by rw [NL_len]; omega) (by decide) hg
  rw [e1, e2] at h
  exact h
theorem known_39 {w : World} (hg : Good w) : Calls Tryz.prog 20 #[.string { data := #[49, 47, 49, 48] }, .int .i64 2000] w (RetV w (.tuple #[.string { data := #[] }, .int .i64 6])) := by
  have e1 : powE ([49, 47, 49, 48] : List UInt8) 2000 = 6 := powE_ten
  have e2 : powT ([49, 47, 49, 48] : List UInt8) 2000 = ({ data := #[] } : ByteArray) := by unfold powT; rw [powE_ten]; rfl
  have h := pow_any (w := w) ([49, 47, 49, 48] : List UInt8) 2000 (by decide) hg
  rw [e1, e2] at h
  exact h
theorem known_40 {w : World} (hg : Good w) : Calls Tryz.prog 20 #[.string { data := #[45, 49] }, .int .i64 (-10000)] w (RetV w (.tuple #[.string { data := #[49] }, .int .i64 0])) := by
  have e1 : powE ([45, 49] : List UInt8) (-10000) = 0 := powE_m1 (by omega) (by omega) (by omega)
  have e2 : powT ([45, 49] : List UInt8) (-10000) = ({ data := #[49] } : ByteArray) := (powT_m1 (by omega) (by omega) (by omega)).trans (by decide +kernel)
  have h := pow_any (w := w) ([45, 49] : List UInt8) (-10000) (by decide) hg
  rw [e1, e2] at h
  exact h
theorem known_41 {w : World} (hg : Good w) : Calls Tryz.prog 20 #[.string { data := #[45, 49] }, .int .i64 (-9999)] w (RetV w (.tuple #[.string { data := #[45, 49] }, .int .i64 0])) := by
  have e1 : powE ([45, 49] : List UInt8) (-9999) = 0 := powE_m1 (by omega) (by omega) (by omega)
  have e2 : powT ([45, 49] : List UInt8) (-9999) = ({ data := #[45, 49] } : ByteArray) := (powT_m1 (by omega) (by omega) (by omega)).trans (by decide +kernel)
  have h := pow_any (w := w) ([45, 49] : List UInt8) (-9999) (by decide) hg
  rw [e1, e2] at h
  exact h
theorem known_42 {w : World} (hg : Good w) : Calls Tryz.prog 20 #[.string { data := #[50] }, .int .i64 (-10000)] w (RetV w (.tuple #[.string { data := #[] }, .int .i64 6])) := by
  have e1 : powE ([50] : List UInt8) (-10000) = 6 := powE_two
  have e2 : powT ([50] : List UInt8) (-10000) = ({ data := #[] } : ByteArray) := by unfold powT; rw [powE_two]; rfl
  have h := pow_any (w := w) ([50] : List UInt8) (-10000) (by decide) hg
  rw [e1, e2] at h
  exact h
theorem known_43 {w : World} (hg : Good w) : Calls Tryz.prog 20 #[.string { data := #[48] }, .int .i64 10000] w (RetV w (.tuple #[.string { data := #[48] }, .int .i64 0])) := by
  have e1 : powE ([48] : List UInt8) 10000 = 0 := powE_z
  have e2 : powT ([48] : List UInt8) 10000 = ({ data := #[48] } : ByteArray) := powT_z
  have h := pow_any (w := w) ([48] : List UInt8) 10000 (by decide) hg
  rw [e1, e2] at h
  exact h
theorem known_44 {w : World} (hg : Good w) : Calls Tryz.prog 20 #[.string { data := #[49] }, .int .i64 10001] w (RetV w (.tuple #[.string { data := #[] }, .int .i64 2])) := by
  have e1 : powE ([49] : List UInt8) 10001 = 2 := by decide +kernel
  have e2 : powT ([49] : List UInt8) 10001 = ({ data := #[] } : ByteArray) := by decide +kernel
  have h := pow_any (w := w) ([49] : List UInt8) 10001 (by decide) hg
  rw [e1, e2] at h
  exact h
theorem known_45 {w : World} (hg : Good w) : Calls Tryz.prog 20 #[.string { data := #[49] }, .int .i64 (-10001)] w (RetV w (.tuple #[.string { data := #[] }, .int .i64 2])) := by
  have e1 : powE ([49] : List UInt8) (-10001) = 2 := by decide +kernel
  have e2 : powT ([49] : List UInt8) (-10001) = ({ data := #[] } : ByteArray) := by decide +kernel
  have h := pow_any (w := w) ([49] : List UInt8) (-10001) (by decide) hg
  rw [e1, e2] at h
  exact h
theorem known_46 {w : World} (hg : Good w) : Calls Tryz.prog 18 #[.string { data := #[120] }, .string { data := #[48] }] w (RetV w (.tuple #[.string { data := #[] }, .int .i64 5])) := by
  have e1 : divE ([120] : List UInt8) ([48] : List UInt8) = 5 := by decide +kernel
  have e2 : divT ([120] : List UInt8) ([48] : List UInt8) = [] := by decide +kernel
  have h := rdiv_any (w := w) (la := ([120] : List UInt8)) (lb := ([48] : List UInt8)) (by decide) (by decide) hg
  rw [e1, e2] at h
  exact h
theorem known_47 {w : World} (hg : Good w) : Calls Tryz.prog 18 #[.string { data := #[49, 47, 50] }, .string { data := #[48] }] w (RetV w (.tuple #[.string { data := #[] }, .int .i64 2])) := by
  have e1 : divE ([49, 47, 50] : List UInt8) ([48] : List UInt8) = 2 := by decide +kernel
  have e2 : divT ([49, 47, 50] : List UInt8) ([48] : List UInt8) = [] := by decide +kernel
  have h := rdiv_any (w := w) (la := ([49, 47, 50] : List UInt8)) (lb := ([48] : List UInt8)) (by decide) (by decide) hg
  rw [e1, e2] at h
  exact h
theorem known_48 {w : World} (hg : Good w) : Calls Tryz.prog 20 #[.string { data := #[48, 47, 49] }, .int .i64 (-1)] w (RetV w (.tuple #[.string { data := #[] }, .int .i64 5])) := by
  have e1 : powE ([48, 47, 49] : List UInt8) (-1) = 5 := by decide +kernel
  have e2 : powT ([48, 47, 49] : List UInt8) (-1) = ({ data := #[] } : ByteArray) := by decide +kernel
  have h := pow_any (w := w) ([48, 47, 49] : List UInt8) (-1) (by decide) hg
  rw [e1, e2] at h
  exact h
theorem known_49 {w : World} (hg : Good w) : Calls Tryz.prog 21 #[.string { data := #[49, 47, 50] }, .string { data := #[48] }] w (RetV w (.tuple #[.string { data := #[] }, .int .i64 5])) := by
  have e1 : makE ([49, 47, 50] : List UInt8) ([48] : List UInt8) = 5 := by decide +kernel
  have e2 : makT ([49, 47, 50] : List UInt8) ([48] : List UInt8) = ({ data := #[] } : ByteArray) := by decide +kernel
  have h := rmake_full (w := w) ([49, 47, 50] : List UInt8) ([48] : List UInt8) (by decide) (by decide) hg
  rw [e1, e2] at h
  exact h
theorem known_50 {w : World} (hg : Good w) : Calls Tryz.prog 21 #[.string { data := #[49] }, .string { data := #[] }] w (RetV w (.tuple #[.string { data := #[] }, .int .i64 5])) := by
  have e1 : makE ([49] : List UInt8) ([] : List UInt8) = 5 := by decide +kernel
  have e2 : makT ([49] : List UInt8) ([] : List UInt8) = ({ data := #[] } : ByteArray) := by decide +kernel
  have h := rmake_full (w := w) ([49] : List UInt8) ([] : List UInt8) (by decide) (by decide) hg
  rw [e1, e2] at h
  exact h
theorem known_51 {w : World} (hg : Good w) : Calls Tryz.prog 22 #[.int .i64 5, .int .i64 0] w (RetV w (.tuple #[.string { data := #[] }, .int .i64 2])) := rofr_zero (by omega) (by omega) hg
theorem known_52 {w : World} (hg : Good w) : Calls Tryz.prog 22 #[.int .i64 1, .int .i64 (-9223372036854775808)] w (RetV w (.tuple #[.string { data := #[45, 49, 47, 57, 50, 50, 51, 51, 55, 50, 48, 51, 54, 56, 53, 52, 55, 55, 53, 56, 48, 56] }, .int .i64 0])) := by
  have e1 : rt (Rat.divInt 1 (-9223372036854775808)) = ({ data := #[45, 49, 47, 57, 50, 50, 51, 51, 55, 50, 48, 51, 54, 56, 53, 52, 55, 55, 53, 56, 48, 56] } : ByteArray) := by decide +kernel
  have h := rofr_any (w := w) (n := 1) (d := (-9223372036854775808)) (by omega) (by omega) (by omega) (by omega) (by omega) hg
  rw [e1] at h
  exact h
theorem known_53 {w : World} (hg : Good w) : Calls Tryz.prog 22 #[.int .i64 (-9223372036854775808), .int .i64 (-9223372036854775808)] w (RetV w (.tuple #[.string { data := #[49] }, .int .i64 0])) := by
  have e1 : rt (Rat.divInt (-9223372036854775808) (-9223372036854775808)) = ({ data := #[49] } : ByteArray) := by decide +kernel
  have h := rofr_any (w := w) (n := (-9223372036854775808)) (d := (-9223372036854775808)) (by omega) (by omega) (by omega) (by omega) (by omega) hg
  rw [e1] at h
  exact h
theorem known_54 {w : World} (hg : Good w) : Calls Tryz.prog 23 #[.string { data := #[50, 47, 52] }, .int .i64 101] w (RetV w (.tuple #[.string { data := #[] }, .int .i64 5])) := by
  have e1 : decE ([50, 47, 52] : List UInt8) 101 = 5 := by decide +kernel
  have e2 : decS ([50, 47, 52] : List UInt8) 101 = ({ data := #[] } : ByteArray) := by decide +kernel
  have h := dec_any (w := w) ([50, 47, 52] : List UInt8) 101 (by decide) hg
  rw [e1, e2] at h
  exact h
theorem known_55 {w : World} (hg : Good w) : Calls Tryz.prog 24 #[.string { data := #[45, 57, 57, 57, 57, 47, 57, 57, 57, 56] }] w (RetV w (.bool true)) := by
  have e1 : rshort ([45, 57, 57, 57, 57, 47, 57, 57, 57, 56] : List UInt8) = true := by decide +kernel
  have h := rshort_any (w := w) ([45, 57, 57, 57, 57, 47, 57, 57, 57, 56] : List UInt8) (by decide) hg
  rw [e1] at h
  exact h
theorem known_56 {w : World} (hg : Good w) : Calls Tryz.prog 24 #[.string { data := #[49, 47, 49, 48, 48, 48, 48] }] w (RetV w (.bool false)) := by
  have e1 : rshort ([49, 47, 49, 48, 48, 48, 48] : List UInt8) = false := by decide +kernel
  have h := rshort_any (w := w) ([49, 47, 49, 48, 48, 48, 48] : List UInt8) (by decide) hg
  rw [e1] at h
  exact h
theorem known_57 {w : World} (hg : Good w) : Calls Tryz.prog 24 #[.string { data := #[50, 47, 52] }] w (RetV w (.bool false)) := by
  have e1 : rshort ([50, 47, 52] : List UInt8) = false := by decide +kernel
  have h := rshort_any (w := w) ([50, 47, 52] : List UInt8) (by decide) hg
  rw [e1] at h
  exact h
theorem known_58 {w : World} (hg : Good w) : Calls Tryz.prog 23 #[.string { data := #[49, 47, 49, 48, 48, 48] }, .int .i64 2] w (RetV w (.tuple #[.string { data := #[48, 46, 48, 48] }, .int .i64 0])) := by
  have e1 : decE ([49, 47, 49, 48, 48, 48] : List UInt8) 2 = 0 := by decide +kernel
  have e2 : decS ([49, 47, 49, 48, 48, 48] : List UInt8) 2 = ({ data := #[48, 46, 48, 48] } : ByteArray) := by decide +kernel
  have h := dec_any (w := w) ([49, 47, 49, 48, 48, 48] : List UInt8) 2 (by decide) hg
  rw [e1, e2] at h
  exact h
theorem known_59 {w : World} (hg : Good w) : Calls Tryz.prog 23 #[.string { data := #[45, 49, 47, 49, 48, 48, 48] }, .int .i64 0] w (RetV w (.tuple #[.string { data := #[45, 49] }, .int .i64 0])) := by
  have e1 : decE ([45, 49, 47, 49, 48, 48, 48] : List UInt8) 0 = 0 := by decide +kernel
  have e2 : decS ([45, 49, 47, 49, 48, 48, 48] : List UInt8) 0 = ({ data := #[45, 49] } : ByteArray) := by decide +kernel
  have h := dec_any (w := w) ([45, 49, 47, 49, 48, 48, 48] : List UInt8) 0 (by decide) hg
  rw [e1, e2] at h
  exact h
theorem known_60 {w : World} (hg : Good w) : Calls Tryz.prog 23 #[.string { data := #[50, 53, 47, 50] }, .int .i64 1] w (RetV w (.tuple #[.string { data := #[49, 50, 46, 53] }, .int .i64 0])) := by
  have e1 : decE ([50, 53, 47, 50] : List UInt8) 1 = 0 := by decide +kernel
  have e2 : decS ([50, 53, 47, 50] : List UInt8) 1 = ({ data := #[49, 50, 46, 53] } : ByteArray) := by decide +kernel
  have h := dec_any (w := w) ([50, 53, 47, 50] : List UInt8) 1 (by decide) hg
  rw [e1, e2] at h
  exact h

/-- The library's variables hold what they hold, and what lay there lies there. -/
def Gd (w0 w : World) : Prop := Good w ∧ Below w0.heap.size w0 w
theorem Gd.next {w0 w w' : World} (h : Gd w0 w) (hb : Below w.heap.size w w') : Gd w0 w' := ⟨h.1.below hb, h.2.trans (hb.mono h.2.size)⟩
theorem is_any {w : World} (s : ByteArray) : Calls Tryz.prog 17 #[.string s] w fun e w' => ∃ g : Nat, e = .returned (.func (.func 69) #[] #[.pointer (some ⟨g, 0, none⟩)]) ∧ Blk w' g 24 #[.string s] ∧ Below w.heap.size w w' := by
  go_enter Tryz.func17, Tryz.ntmps17
  go_wp2
  go_ret
  exact ⟨_, rfl, Blk.new _ _ _, (Below.refl _ _).alloc (Nat.le_refl _) _⟩
theorem is_true {w : World} {g : Nat} {s : ByteArray} (h : Blk w g 24 #[.string s]) : Calls Tryz.prog 69 #[.string s, .int .i64 0, .pointer (some ⟨g, 0, none⟩)] w (RetV w (.bool true)) := by
  have hc := h.cell 0
  simp at hc
  go_enter Tryz.func69, Tryz.ntmps69
  go_wp2
  go_ret
  exact ⟨rfl, Below.refl _ _⟩
theorem says_any {w : World} (s : ByteArray) : Calls Tryz.prog 25 #[.string s] w fun e w' => ∃ g : Nat, e = .returned (.func (.func 88) #[] #[.pointer (some ⟨g, 0, none⟩)]) ∧ Blk w' g 9 #[.string s] ∧ Below w.heap.size w w' := by
  go_enter Tryz.func25, Tryz.ntmps25
  go_wp2
  go_ret
  exact ⟨_, rfl, Blk.new _ _ _, (Below.refl _ _).alloc (Nat.le_refl _) _⟩
theorem says_true {w : World} {g : Nat} {s : ByteArray} (h : Blk w g 9 #[.string s]) : Calls Tryz.prog 88 #[.string s, .int .i64 0, .pointer (some ⟨g, 0, none⟩)] w (RetV w (.bool true)) := by
  have hc := h.cell 0
  simp at hc
  go_enter Tryz.func88, Tryz.ntmps88
  go_wp2
  go_ret
  exact ⟨rfl, Below.refl _ _⟩
theorem fails_any {w : World} (n : Int) : Calls Tryz.prog 15 #[.int .i64 n] w fun e w' => ∃ g : Nat, e = .returned (.func (.func 66) #[] #[.pointer (some ⟨g, 0, none⟩)]) ∧ Blk w' g 25 #[.int .i64 n] ∧ Below w.heap.size w w' := by
  go_enter Tryz.func15, Tryz.ntmps15
  go_wp2
  go_ret
  exact ⟨_, rfl, Blk.new _ _ _, (Below.refl _ _).alloc (Nat.le_refl _) _⟩
theorem fails_true {w : World} {g : Nat} {n : Int} (h : Blk w g 25 #[.int .i64 n]) : Calls Tryz.prog 66 #[.string { data := #[] }, .int .i64 n, .pointer (some ⟨g, 0, none⟩)] w (RetV w (.bool true)) := by
  have hc := h.cell 0
  simp at hc
  go_enter Tryz.func66, Tryz.ntmps66
  go_wp2
  go_ret
  exact ⟨rfl, Below.refl _ _⟩

theorem iw_0 (V : World) : (Instr.index 87 (.agg #[.string { data := #[50, 47, 52] }, .string { data := #[49, 47, 49] }, .string { data := #[48, 47, 51] }, .string { data := #[49, 47, 45, 50] }, .string { data := #[51, 47] }]) (.int .i64 0)).run Tryz.prog V = .ok (.string { data := #[50, 47, 52] }) V := by kernel_rfl
theorem iw_1 (V : World) : (Instr.index 87 (.agg #[.string { data := #[50, 47, 52] }, .string { data := #[49, 47, 49] }, .string { data := #[48, 47, 51] }, .string { data := #[49, 47, 45, 50] }, .string { data := #[51, 47] }]) (.int .i64 1)).run Tryz.prog V = .ok (.string { data := #[49, 47, 49] }) V := by kernel_rfl
theorem iw_2 (V : World) : (Instr.index 87 (.agg #[.string { data := #[50, 47, 52] }, .string { data := #[49, 47, 49] }, .string { data := #[48, 47, 51] }, .string { data := #[49, 47, 45, 50] }, .string { data := #[51, 47] }]) (.int .i64 2)).run Tryz.prog V = .ok (.string { data := #[48, 47, 51] }) V := by kernel_rfl
theorem iw_3 (V : World) : (Instr.index 87 (.agg #[.string { data := #[50, 47, 52] }, .string { data := #[49, 47, 49] }, .string { data := #[48, 47, 51] }, .string { data := #[49, 47, 45, 50] }, .string { data := #[51, 47] }]) (.int .i64 3)).run Tryz.prog V = .ok (.string { data := #[49, 47, 45, 50] }) V := by kernel_rfl
theorem iw_4 (V : World) : (Instr.index 87 (.agg #[.string { data := #[50, 47, 52] }, .string { data := #[49, 47, 49] }, .string { data := #[48, 47, 51] }, .string { data := #[49, 47, 45, 50] }, .string { data := #[51, 47] }]) (.int .i64 4)).run Tryz.prog V = .ok (.string { data := #[51, 47] }) V := by kernel_rfl

set_option maxHeartbeats 8000000 in
set_option maxRecDepth 100000 in
theorem works_any {w : World} (hg : Good w) : Calls Tryz.prog 12 #[] w (RetV w (.bool true)) := by
  have hG : Hid (Gd w w) := Lib.hid ⟨hg, Below.refl _ _⟩
  clear hg
  go_enter Tryz.func12, Tryz.ntmps12
  go_wp2
  go_loopg [9] 5 (fun gk u9 wr => ∃ i : Nat, u9 = .int .i64 (i : Int) ∧ i + gk = 5 ∧ Hid (Gd w wr))
  case atStart => exact ⟨0, rfl, rfl, hG⟩
  case round =>
    obtain ⟨i, rfl, hi, hG⟩ := hrel
    by_cases hi5 : i < 5
    · have hi6 : (i : Int) < 5 := by omega
      obtain ⟨s, hx, hq⟩ : ∃ s : ByteArray, (∀ V, (Instr.index 87 (.agg #[.string { data := #[50, 47, 52] }, .string { data := #[49, 47, 49] }, .string { data := #[48, 47, 51] }, .string { data := #[49, 47, 45, 50] }, .string { data := #[51, 47] }]) (.int .i64 (i : Int))).run Tryz.prog V = .ok (.string s) V) ∧ Hid (∀ V : World, Good V → Calls Tryz.prog 14 #[.string s] V (RetV V (.int .i64 5))) := by
        obtain rfl | rfl | rfl | rfl | rfl : i = 0 ∨ i = 1 ∨ i = 2 ∨ i = 3 ∨ i = 4 := by omega
        · exact ⟨_, fun V => iw_0 V, Lib.hid (fun V hV => known_0 hV)⟩
        · exact ⟨_, fun V => iw_1 V, Lib.hid (fun V hV => known_1 hV)⟩
        · exact ⟨_, fun V => iw_2 V, Lib.hid (fun V hV => known_2 hV)⟩
        · exact ⟨_, fun V => iw_3 V, Lib.hid (fun V hV => known_3 hV)⟩
        · exact ⟨_, fun V => iw_4 V, Lib.hid (fun V hV => known_4 hV)⟩
      go_wp2_with fail
      refine (hq.out _ hG.out.1).mono ?_; rintro e wn ⟨rfl, hb⟩; replace hG := Lib.hid (hG.out.next hb); clear hb
      go_wp2
      go_roundg (gk - 1)
      case rel => exact ⟨i + 1, by go_num, by omega, hG⟩
      case measure => omega
    · obtain rfl : i = 5 := by omega
      go_wp2_with fail
      refine (known_5 hG.out.1).mono ?_; rintro e wn ⟨rfl, hb⟩; replace hG := Lib.hid (hG.out.next hb); clear hb
      go_wp2_with fail
      refine (known_6 hG.out.1).mono ?_; rintro e wn ⟨rfl, hb⟩; replace hG := Lib.hid (hG.out.next hb); clear hb
      go_wp2_with fail
      refine (is_any _).mono ?_; rintro e wn ⟨gz, rfl, hz, hb⟩; replace hG := Lib.hid (hG.out.next hb); clear hb; replace hz := Lib.hid hz
      go_wp2_with fail
      refine (known_7 hG.out.1).mono ?_; rintro e wn ⟨rfl, hb⟩; replace hG := Lib.hid (hG.out.next hb); replace hz := Lib.hid (hz.out.next hb); clear hb
      go_wp2_with fail
      refine (is_true hz.out).mono ?_; rintro e wn ⟨rfl, hb⟩; replace hG := Lib.hid (hG.out.next hb); clear hb hz
      go_wp2_with fail
      refine (is_any _).mono ?_; rintro e wn ⟨gz, rfl, hz, hb⟩; replace hG := Lib.hid (hG.out.next hb); clear hb; replace hz := Lib.hid hz
      go_wp2_with fail
      refine (known_8 hG.out.1).mono ?_; rintro e wn ⟨rfl, hb⟩; replace hG := Lib.hid (hG.out.next hb); replace hz := Lib.hid (hz.out.next hb); clear hb
      go_wp2_with fail
      refine (is_true hz.out).mono ?_; rintro e wn ⟨rfl, hb⟩; replace hG := Lib.hid (hG.out.next hb); clear hb hz
      go_wp2_with fail
      refine (is_any _).mono ?_; rintro e wn ⟨gz, rfl, hz, hb⟩; replace hG := Lib.hid (hG.out.next hb); clear hb; replace hz := Lib.hid hz
      go_wp2_with fail
      refine (known_9 hG.out.1).mono ?_; rintro e wn ⟨rfl, hb⟩; replace hG := Lib.hid (hG.out.next hb); replace hz := Lib.hid (hz.out.next hb); clear hb
      go_wp2_with fail
      refine (is_true hz.out).mono ?_; rintro e wn ⟨rfl, hb⟩; replace hG := Lib.hid (hG.out.next hb); clear hb hz
      go_wp2_with fail
      refine (fails_any _).mono ?_; rintro e wn ⟨gz, rfl, hz, hb⟩; replace hG := Lib.hid (hG.out.next hb); clear hb; replace hz := Lib.hid hz
      go_wp2_with fail
      refine (known_10 hG.out.1).mono ?_; rintro e wn ⟨rfl, hb⟩; replace hG := Lib.hid (hG.out.next hb); replace hz := Lib.hid (hz.out.next hb); clear hb
      go_wp2_with fail
      refine (fails_true hz.out).mono ?_; rintro e wn ⟨rfl, hb⟩; replace hG := Lib.hid (hG.out.next hb); clear hb hz
      go_wp2_with fail
      refine (is_any _).mono ?_; rintro e wn ⟨gz, rfl, hz, hb⟩; replace hG := Lib.hid (hG.out.next hb); clear hb; replace hz := Lib.hid hz
      go_wp2_with fail
      refine (known_11 hG.out.1).mono ?_; rintro e wn ⟨rfl, hb⟩; replace hG := Lib.hid (hG.out.next hb); replace hz := Lib.hid (hz.out.next hb); clear hb
      go_wp2_with fail
      refine (is_true hz.out).mono ?_; rintro e wn ⟨rfl, hb⟩; replace hG := Lib.hid (hG.out.next hb); clear hb hz
      go_wp2_with fail
      refine (is_any _).mono ?_; rintro e wn ⟨gz, rfl, hz, hb⟩; replace hG := Lib.hid (hG.out.next hb); clear hb; replace hz := Lib.hid hz
      go_wp2_with fail
      refine (known_12 hG.out.1).mono ?_; rintro e wn ⟨rfl, hb⟩; replace hG := Lib.hid (hG.out.next hb); replace hz := Lib.hid (hz.out.next hb); clear hb
      go_wp2_with fail
      refine (is_true hz.out).mono ?_; rintro e wn ⟨rfl, hb⟩; replace hG := Lib.hid (hG.out.next hb); clear hb hz
      go_wp2_with fail
      refine (is_any _).mono ?_; rintro e wn ⟨gz, rfl, hz, hb⟩; replace hG := Lib.hid (hG.out.next hb); clear hb; replace hz := Lib.hid hz
      go_wp2_with fail
      refine (known_13 hG.out.1).mono ?_; rintro e wn ⟨rfl, hb⟩; replace hG := Lib.hid (hG.out.next hb); replace hz := Lib.hid (hz.out.next hb); clear hb
      go_wp2_with fail
      refine (is_true hz.out).mono ?_; rintro e wn ⟨rfl, hb⟩; replace hG := Lib.hid (hG.out.next hb); clear hb hz
      go_wp2_with fail
      refine (is_any _).mono ?_; rintro e wn ⟨gz, rfl, hz, hb⟩; replace hG := Lib.hid (hG.out.next hb); clear hb; replace hz := Lib.hid hz
      go_wp2_with fail
      refine (known_14 hG.out.1).mono ?_; rintro e wn ⟨rfl, hb⟩; replace hG := Lib.hid (hG.out.next hb); replace hz := Lib.hid (hz.out.next hb); clear hb
      go_wp2_with fail
      refine (is_true hz.out).mono ?_; rintro e wn ⟨rfl, hb⟩; replace hG := Lib.hid (hG.out.next hb); clear hb hz
      go_wp2_with fail
      refine (is_any _).mono ?_; rintro e wn ⟨gz, rfl, hz, hb⟩; replace hG := Lib.hid (hG.out.next hb); clear hb; replace hz := Lib.hid hz
      go_wp2_with fail
      refine (known_15 hG.out.1).mono ?_; rintro e wn ⟨rfl, hb⟩; replace hG := Lib.hid (hG.out.next hb); replace hz := Lib.hid (hz.out.next hb); clear hb
      go_wp2_with fail
      refine (is_true hz.out).mono ?_; rintro e wn ⟨rfl, hb⟩; replace hG := Lib.hid (hG.out.next hb); clear hb hz
      go_wp2_with fail
      refine (is_any _).mono ?_; rintro e wn ⟨gz, rfl, hz, hb⟩; replace hG := Lib.hid (hG.out.next hb); clear hb; replace hz := Lib.hid hz
      go_wp2_with fail
      refine (known_16 hG.out.1).mono ?_; rintro e wn ⟨rfl, hb⟩; replace hG := Lib.hid (hG.out.next hb); replace hz := Lib.hid (hz.out.next hb); clear hb
      go_wp2_with fail
      refine (is_true hz.out).mono ?_; rintro e wn ⟨rfl, hb⟩; replace hG := Lib.hid (hG.out.next hb); clear hb hz
      go_wp2_with fail
      refine (fails_any _).mono ?_; rintro e wn ⟨gz, rfl, hz, hb⟩; replace hG := Lib.hid (hG.out.next hb); clear hb; replace hz := Lib.hid hz
      go_wp2_with fail
      refine (known_17 hG.out.1).mono ?_; rintro e wn ⟨rfl, hb⟩; replace hG := Lib.hid (hG.out.next hb); replace hz := Lib.hid (hz.out.next hb); clear hb
      go_wp2_with fail
      refine (fails_true hz.out).mono ?_; rintro e wn ⟨rfl, hb⟩; replace hG := Lib.hid (hG.out.next hb); clear hb hz
      go_wp2_with fail
      refine (says_any _).mono ?_; rintro e wn ⟨gz, rfl, hz, hb⟩; replace hG := Lib.hid (hG.out.next hb); clear hb; replace hz := Lib.hid hz
      go_wp2_with fail
      refine (known_18 hG.out.1).mono ?_; rintro e wn ⟨rfl, hb⟩; replace hG := Lib.hid (hG.out.next hb); replace hz := Lib.hid (hz.out.next hb); clear hb
      go_wp2_with fail
      refine (says_true hz.out).mono ?_; rintro e wn ⟨rfl, hb⟩; replace hG := Lib.hid (hG.out.next hb); clear hb hz
      go_wp2_with fail
      refine (says_any _).mono ?_; rintro e wn ⟨gz, rfl, hz, hb⟩; replace hG := Lib.hid (hG.out.next hb); clear hb; replace hz := Lib.hid hz
      go_wp2_with fail
      refine (known_19 hG.out.1).mono ?_; rintro e wn ⟨rfl, hb⟩; replace hG := Lib.hid (hG.out.next hb); replace hz := Lib.hid (hz.out.next hb); clear hb
      go_wp2_with fail
      refine (says_true hz.out).mono ?_; rintro e wn ⟨rfl, hb⟩; replace hG := Lib.hid (hG.out.next hb); clear hb hz
      go_wp2_with fail
      refine (says_any _).mono ?_; rintro e wn ⟨gz, rfl, hz, hb⟩; replace hG := Lib.hid (hG.out.next hb); clear hb; replace hz := Lib.hid hz
      go_wp2_with fail
      refine (known_20 hG.out.1).mono ?_; rintro e wn ⟨rfl, hb⟩; replace hG := Lib.hid (hG.out.next hb); replace hz := Lib.hid (hz.out.next hb); clear hb
      go_wp2_with fail
      refine (says_true hz.out).mono ?_; rintro e wn ⟨rfl, hb⟩; replace hG := Lib.hid (hG.out.next hb); clear hb hz
      go_wp2_with fail
      refine (says_any _).mono ?_; rintro e wn ⟨gz, rfl, hz, hb⟩; replace hG := Lib.hid (hG.out.next hb); clear hb; replace hz := Lib.hid hz
      go_wp2_with fail
      refine (known_21 hG.out.1).mono ?_; rintro e wn ⟨rfl, hb⟩; replace hG := Lib.hid (hG.out.next hb); replace hz := Lib.hid (hz.out.next hb); clear hb
      go_wp2_with fail
      refine (says_true hz.out).mono ?_; rintro e wn ⟨rfl, hb⟩; replace hG := Lib.hid (hG.out.next hb); clear hb hz
      go_wp2_with fail
      refine (says_any _).mono ?_; rintro e wn ⟨gz, rfl, hz, hb⟩; replace hG := Lib.hid (hG.out.next hb); clear hb; replace hz := Lib.hid hz
      go_wp2_with fail
      refine (known_22 hG.out.1).mono ?_; rintro e wn ⟨rfl, hb⟩; replace hG := Lib.hid (hG.out.next hb); replace hz := Lib.hid (hz.out.next hb); clear hb
      go_wp2_with fail
      refine (says_true hz.out).mono ?_; rintro e wn ⟨rfl, hb⟩; replace hG := Lib.hid (hG.out.next hb); clear hb hz
      go_wp2_with fail
      refine (says_any _).mono ?_; rintro e wn ⟨gz, rfl, hz, hb⟩; replace hG := Lib.hid (hG.out.next hb); clear hb; replace hz := Lib.hid hz
      go_wp2_with fail
      refine (known_23 hG.out.1).mono ?_; rintro e wn ⟨rfl, hb⟩; replace hG := Lib.hid (hG.out.next hb); replace hz := Lib.hid (hz.out.next hb); clear hb
      go_wp2_with fail
      refine (says_true hz.out).mono ?_; rintro e wn ⟨rfl, hb⟩; replace hG := Lib.hid (hG.out.next hb); clear hb hz
      go_wp2_with fail
      refine (known_24 hG.out.1).mono ?_; rintro e wn ⟨rfl, hb⟩; replace hG := Lib.hid (hG.out.next hb); clear hb
      go_wp2_with fail
      refine (known_25 hG.out.1).mono ?_; rintro e wn ⟨rfl, hb⟩; replace hG := Lib.hid (hG.out.next hb); clear hb
      go_wp2_with fail
      refine (known_26 hG.out.1).mono ?_; rintro e wn ⟨rfl, hb⟩; replace hG := Lib.hid (hG.out.next hb); clear hb
      go_wp2
      go_ret
      exact ⟨rfl, hG.out.2⟩
end Go.Proofs.YtabdnjakmhnnfaaGreatDoor
