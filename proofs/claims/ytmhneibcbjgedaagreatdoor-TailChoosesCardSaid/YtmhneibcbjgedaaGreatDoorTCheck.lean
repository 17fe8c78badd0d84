/- The contracts of tail.check, tail.counts. -/
import Derived.Test.YtmhneibcbjgedaaGreatDoorRat2
set_option linter.unusedSimpArgs false
set_option linter.unusedVariables false
namespace Go.Proofs.YtmhneibcbjgedaaGreatDoor
open Go.RowKit

/-- Is a number within its limit? -/
def inLim (x : Int × Int) : Bool := decide (0 ≤ x.1) && decide (x.1 ≤ x.2)

theorem all_take_succ2 {l : List (Int × Int)} {k : Nat} (h : (l.take k).all inLim = true) (hk : k < l.length) (hc : inLim l[k] = true) : (l.take (k + 1)).all inLim = true := by
  rw [List.take_succ_eq_append_getElem hk, List.all_append, h]; simp [hc]
theorem all_not2 {l : List (Int × Int)} {k : Nat} (hk : k < l.length) (hc : inLim l[k] = false) : l.all inLim = false := by
  rw [List.all_eq_false]
  exact ⟨l[k], List.getElem_mem hk, by simp [hc]⟩

set_option maxHeartbeats 2000000 in
set_option maxRecDepth 100000 in
theorem tcheck_any {w : World} {b cap : Nat} (ls : List (Int × Int)) (n : Nat) (hn : ls.length = n) (hlen : n ≤ 1000) (hc : ∀ i, i < n → w.cell? ⟨b, i * 2, none⟩ = some (.int .i64 (ls.getD i (0, 0)).1) ∧ w.cell? ⟨b, i * 2 + 1, none⟩ = some (.int .i64 (ls.getD i (0, 0)).2)) :
    Calls Tryz.prog 82 #[.slice (some ⟨b, 0, none⟩) n cap] w (RetV w (.int .i64 (if ls.all inLim then 0 else 2))) := by
  obtain ⟨res, hres⟩ : ∃ res : Int, res = (if ls.all inLim then 0 else 2) := ⟨_, rfl⟩
  rw [← hres]
  have HRES := Lib.hid hres
  have HC := Lib.hid hc
  clear hres hc
  have HN := Lib.hid hn
  clear hn
  go_enter Tryz.func82, Tryz.ntmps82
  go_wp2
  go_step3
  go_wp2
  go_step3
  go_wp2
  go_loopw [3, 8] (fun u3 u8 wr => ∃ k : Nat, k ≤ n ∧ u3 = .int .i64 0 ∧ u8 = .int .i64 k ∧ Hid ((ls.take k).all inLim = true) ∧ Hid (Below w.heap.size w wr)) (fun _ u8 _ => n - (intOf u8).toNat)
  case atStart => exact ⟨0, Nat.zero_le _, rfl, rfl, Lib.hid (by simp), Lib.hid (Below.refl _ _)⟩
  case round =>
    obtain ⟨k, hk, rfl, rfl, hK, hB⟩ := hrel
    by_cases hlt : k < n
    · obtain ⟨c0, c1⟩ := HC.out k hlt
      have hkd : k < ls.length := by rw [HN.out]; exact hlt
      have l0 := World.block_lt_of_cell? w ⟨b, k * 2, none⟩ c0
      have g0 := keepc hB.out c0 l0
      have g1 := keepc hB.out c1 l0
      have hyes := Lib.hid (fun h => all_take_succ2 hK.out hkd h)
      have hno := Lib.hid (fun h => all_not2 hkd h)
      clear c0 c1
      have hdig : inLim ls[k] = true ↔ (0 ≤ ls[k].1 ∧ ls[k].1 ≤ ls[k].2) := by unfold inLim; simp
      have HDIG := Lib.hid hdig
      clear hdig
      have eg : ls.getD k (0, 0) = ls[k] := by simp [List.getD, List.getElem?_eq_getElem hkd]
      rw [eg] at g0 g1
      generalize ls[k] = y at *
      clear eg hkd
      obtain ⟨a, m⟩ := y
      simp only at g0 g1 HDIG
      rcases (show a < 0 ∨ (0 ≤ a ∧ m < a) ∨ (0 ≤ a ∧ a ≤ m) by omega) with h1 | ⟨h1, h2⟩ | ⟨h1, h2⟩
      · have hf := hno.out (by rw [Bool.eq_false_iff]; intro h; have := HDIG.out.1 h; omega)
        have hr5 : res = 2 := by rw [HRES.out, hf]; rfl
        have HR5 := Lib.hid hr5
        clear hr5 hf hyes hno HDIG HRES
        go_wp2
        try rw [Exit.noGoto_ret]
        go_ret
        exact ⟨ret_int HR5.out.symm, hB.out.alloc hB.out.size _⟩
      · have hf := hno.out (by rw [Bool.eq_false_iff]; intro h; have := HDIG.out.1 h; omega)
        have hr5 : res = 2 := by rw [HRES.out, hf]; rfl
        have HR5 := Lib.hid hr5
        have hb1 : ¬ a < 0 := by omega
        have hb2 : ¬ a ≤ m := by omega
        clear hr5 hf hyes hno HDIG HRES
        go_wp2
        try rw [Exit.noGoto_ret]
        go_ret
        exact ⟨ret_int HR5.out.symm, hB.out.alloc hB.out.size _⟩
      · have hy2 := Lib.hid (hyes.out (HDIG.out.2 ⟨h1, h2⟩))
        have hb1 : ¬ a < 0 := by omega
        have hb2 : ¬ m < a := by omega
        clear hyes hno HDIG HRES
        go_wp2
        go_roundw
        case rel => exact ⟨k + 1, by omega, rfl, by go_num, hy2, Lib.hid (hB.out.alloc hB.out.size _)⟩
        case measure => simp [intOf]; omega
    · obtain rfl : k = n := by omega
      have hall : ls.all inLim = true := by
        have := hK.out
        rwa [← HN.out, List.take_length] at this
      have e6 : res = 0 := by rw [HRES.out, hall]; rfl
      have HR5 := Lib.hid e6
      clear e6 hall HRES
      go_wp2
      try rw [Exit.noGoto_ret]
      go_ret
      exact ⟨ret_int HR5.out.symm, hB.out⟩

end Go.Proofs.YtmhneibcbjgedaaGreatDoor
