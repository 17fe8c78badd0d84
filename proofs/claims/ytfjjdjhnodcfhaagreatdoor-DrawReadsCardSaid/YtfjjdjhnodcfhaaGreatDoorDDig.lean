/- The contract of law's digits. -/
import Derived.Test.YtfjjdjhnodcfhaaGreatDoorDWeig
import Derived.Laws.BitsLemmas
set_option linter.unusedSimpArgs false
set_option linter.unusedVariables false
namespace Go.Proofs.YtfjjdjhnodcfhaaGreatDoor
open Go.RowKit
open Go.Lib (decDigits itoa nDigits)
open D4 (rt it Mid)

/-- The bit string of n characters with a number. -/
def digL (n x : Nat) : List UInt8 := (List.range n).map fun j => if bitsN n x j then 49 else 48
theorem digL_len (n x : Nat) : (digL n x).length = n := by simp [digL]
theorem digL_bit {n x j : Nat} (h : j < n) : bitAt (digL n x) j = bitsN n x j := by
  unfold bitAt digL
  rw [List.getD_eq_getElem?_getD, List.getElem?_map, List.getElem?_range h]
  show ((if bitsN n x j = true then (49 : UInt8) else 48) == 49) = _
  cases bitsN n x j <;> decide
theorem digL_ok (n x : Nat) : (digL n x).all isBit = true := by
  rw [List.all_eq_true]
  intro c hc
  obtain ⟨j, -, rfl⟩ := List.mem_map.1 hc
  cases bitsN n x j <;> decide
theorem digL_err {n x : Nat} (h : n ≤ 200) : bitE (digL n x) = 0 := by
  unfold bitE
  rw [digL_ok, if_pos rfl, digL_len, if_pos h]

theorem wrap_small {z : Int} (h0 : 0 ≤ z) (h1 : z < 2 ^ 62) : IntKind.i64.wrap z = z := by
  rw [IntKind.wrap_i64]
  have : (2 : Int) ^ 62 = 4611686018427387904 := by decide
  omega
theorem and_one (y : Nat) (h : y < 2 ^ 62) : bits BinOp.and IntKind.i64 (y : Int) 1 = ((y % 2 : Nat) : Int) := by
  have h1 := (bits_nat .i64 62 (by decide) (fun n h0 h1 => wrap_small h0 h1) y 1 h (by decide)).1
  rw [Nat.and_one_is_mod] at h1
  exact h1
theorem shr_cast (x m : Nat) : (x : Int) / 2 ^ m = ((x / 2 ^ m : Nat) : Int) := by push_cast; rfl
theorem conv_nil {w : World} {B : Nat} {a : Option Addr} {c : Nat} (h : D4.BRow w B (.slice a 0 c) []) : (convert 35 9 (.slice a 0 c)).run Tryz.prog w = .ok (.string ⟨#[]⟩) w := by
  obtain ⟨hl, h⟩ := h
  rcases h with ⟨h1, -⟩ | ⟨g, cap, cur, h1, -⟩
  · cases h1
    rw [run_convert_bytes_string w 35 9 5 none 0 0 Tryz.underlying35 Tryz.underlying5 Tryz.underlying9]
    rfl
  · cases h1
    exact run_convert_bytes_back w 35 9 5 ⟨g, 0, none⟩ c [] Tryz.underlying35 Tryz.underlying5 Tryz.underlying9 (fun j hj => by simp at hj)
set_option maxHeartbeats 4000000 in
set_option maxRecDepth 100000 in
theorem ldigits_any {w : World} (x n : Nat) (hn : n ≤ 62) (hx : x < 2 ^ 62) : Calls Tryz.prog 25 #[.int .i64 x, .int .i64 n] w (RetV w (.string ⟨(digL n x).toArray⟩)) := by
  obtain ⟨i0, hi0, hz0, hz1, hz2⟩ := info_parts D4.info8
  have HX := Lib.hid hx
  clear hx
  go_enter Tryz.func25, Tryz.ntmps25
  go_wp2_with fail
  go_loopw [5, 6] (fun u5 u6 wr => ∃ j : Nat, j ≤ n ∧ u6 = .int .i64 ((n : Int) - 1 - j) ∧ Hid (D4.BRow wr w.heap.size u5 ((digL n x).take j)) ∧ Hid (Below w.heap.size w wr)) (fun _ u6 _ => (intOf u6 + 1).toNat)
  case atStart => exact ⟨0, by omega, by go_num, Lib.hid (D4.BRow.nil _ _), Lib.hid (Below.refl _ _)⟩
  case round =>
    obtain ⟨j, hj, rfl, hR, hB⟩ := hrel
    by_cases hlt : j < n
    · have h0 : (0 : Int) ≤ (n : Int) - 1 - j := by omega
      obtain ⟨m, hm⟩ : ∃ m : Nat, (n : Int) - 1 - j = (m : Int) := ⟨n - 1 - j, by omega⟩
      rw [hm] at h0 ⊢
      have hmn : n - 1 - j = m := by omega
      obtain ⟨b, hb, hb0⟩ : ∃ b : Nat, b = x / 2 ^ m % 2 ∧ b ≤ 1 := ⟨_, rfl, Nat.le_of_lt_succ (Nat.mod_lt _ (by decide))⟩
      have hand : bits BinOp.and IntKind.i64 ((x : Int) / 2 ^ m) 1 = (b : Int) := by
        rw [shr_cast, and_one _ (Nat.lt_of_le_of_lt (Nat.div_le_self _ _) HX.out), hb]
      have HBE := Lib.hid hb
      clear hb
      have hb1 : (b : Int) ≤ 1 := by omega
      have hw : wrap64 (48 + (b : Int)) = 48 + (b : Int) := by simp [wrap64]; omega
      have hw2 : (48 + (b : Int)) % 256 = 48 + (b : Int) := by omega
      have HS := Lib.hid (show (digL n x).take (j + 1) = (digL n x).take j ++ [UInt8.ofNat (48 + b)] by
        rw [List.take_succ_eq_append_getElem (by rw [digL_len]; exact hlt)]
        congr 2
        unfold digL
        rw [List.getElem_map, List.getElem_range]
        unfold bitsN
        rw [hmn, ← HBE.out]
        rcases (show b = 0 ∨ b = 1 by omega) with h1 | h1 <;> rw [h1] <;> decide)
      have hu8 : (48 + (b : Int)) = ((UInt8.ofNat (48 + b)).toNat : Int) := by
        rcases (show b = 0 ∨ b = 1 by omega) with h1 | h1 <;> rw [h1] <;> decide
      have HU8 := Lib.hid hu8
      obtain ⟨a, c, hv⟩ := hR.out.len
      have htl : ((digL n x).take j).length = j := by rw [List.length_take, digL_len]; omega
      rw [htl] at hv
      subst hv
      have HROW := Lib.hid (show wr.ownsRow w.heap.size 5 1 (.slice a j c) j (((digL n x).take j).map fun (x : UInt8) => Value.int .u8 x.toNat) by have h := hR.out; unfold D4.BRow at h; rwa [htl] at h)
      have HTL := Lib.hid htl
      have hbs := hB.out.size
      clear htl hu8
      go_wp2_with (at_builtin; refine wpList_append_own _ rfl (.tmp 13) (.tmp 20) 35 rfl w.heap.size 5 i0 (.int .u8 0) 1 1 Tryz.underlying35 hi0 hz0 hz1 hz2 rfl (by decide) (.slice a j c) j _ rfl (HROW.out.alloc _) ⟨wr.heap.size, 0, none⟩ 1 1 [.int .u8 (48 + (b : Int))] rfl rfl (D4.cell_new_u8 _ _ _) (by intro u hu; simp at hu; subst hu; rfl) (by unfold maxLen; omega) (by omega) (by simp; omega) ?_; intro v' w2 hown1 hgrow1 hnil1)
      go_roundw
      case rel =>
        refine ⟨j + 1, by omega, by go_num, Lib.hid ?_, Lib.hid ?_⟩
        · rw [HS.out]
          exact D4.BRow.snoc (by rw [HTL.out]; exact hown1) HU8.out
        · exact (hB.out.alloc hbs _).grown hgrow1 (by simp; omega) (fun q hq => (World.ownsRow.lt HROW.out q hq).1)
      case measure => simp [intOf] <;> omega
    · obtain rfl : j = n := by omega
      have htk : (digL j x).take j = digL j x := List.take_of_length_le (by rw [digL_len]; omega)
      rw [htk] at hR
      by_cases hj0 : j = 0
      · subst hj0
        have hd0 : digL 0 x = [] := rfl
        rw [hd0] at hR
        obtain ⟨a, c, rfl⟩ := hR.out.len
        have hcv := conv_nil hR.out
        go_wp2
        go_ret
        exact ⟨rfl, hB.out⟩
      · have hcv := D4.BRow.text hR.out (by intro e; have := digL_len j x; rw [e] at this; simp at this; omega)
        obtain ⟨a, c, hv⟩ := hR.out.len
        subst hv
        generalize (digL j x).length = dl at *
        generalize (⟨(digL j x).toArray⟩ : ByteArray) = DT at *
        have hl : ¬ (0 : Int) ≤ (j : Int) - 1 - (j : Int) := by omega
        go_wp2
        go_ret
        exact ⟨rfl, hB.out⟩
end Go.Proofs.YtfjjdjhnodcfhaaGreatDoor
