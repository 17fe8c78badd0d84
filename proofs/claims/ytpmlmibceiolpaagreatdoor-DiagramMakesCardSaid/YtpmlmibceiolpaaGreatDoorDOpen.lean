/- Texts that come in, opened. -/
import Derived.Test.YtpmlmibceiolpaaGreatDoorGOpen
import Derived.Test.YtpmlmibceiolpaaGreatDoorGQs
set_option linter.unusedSimpArgs false
set_option linter.unusedVariables false
namespace Go.Proofs.YtpmlmibceiolpaaGreatDoor
open Go.ChangeShapes Go.WideShapes Go.RowKit Go.Joins Go.Deep

section
variable {H : Type} {enc : TypeId × Value → H} {W : World}
/-- Texts that come in. -/
def QsIn (w : World) (v : Value) (ts : List (List UInt8)) : Prop := Qs w v ts ∧ ∀ l ∈ ts, l.length ≤ maxLen
set_option maxRecDepth 100000 in
theorem open_qs {r : Reach} {b0 : Nat} {v : Value} {d : DataW H} {p : List MemPlace} (hv : Value.okWide Tryz.prog W r b0 27 v) (h : DataW.Trod enc Tryz.prog W 0 (fun _ => true) true 27 v d p) : ∃ ts : List (List UInt8), QsIn W v ts := by
  obtain ⟨a, k, c, rfl⟩ := okWide_slice Tryz.underlying27 hv
  obtain ⟨fuel, hf⟩ := h
  have hcs : (Value.cells (.slice a k c)).toList = [.slice a k c] := rfl
  rw [hcs] at hf
  have e2 : Tryz.prog.cellsOf 40 = 1 := by kernel_rfl
  rcases open_strs Tryz.underlying27 Tryz.underlying40 e2 hf with ⟨hs, -⟩ | ⟨a, len, cap, m, Sx, hs, -, hlc, hcm, hm, -, hce⟩
  · simp at hs
    obtain ⟨rfl, rfl, rfl⟩ := hs
    exact ⟨[], Qs.nil W, by simp⟩
  · simp at hs
    obtain ⟨rfl, rfl, rfl⟩ := hs
    simp only [if_true] at hm
    subst hm
    refine ⟨(List.range k).map fun i => (Sx i).data.toList, ⟨some a, m, by simp, by simp; omega, hcm, .inr ⟨a, rfl⟩, fun p hp i hi => ?_⟩, ?_⟩
    · cases hp
      simp at hi
      rw [(hce i (by omega)).1]
      simp [List.getD, List.getElem?_range hi]
    · intro l hl
      obtain ⟨i, hi, rfl⟩ := List.mem_map.1 hl
      have hi2 := List.mem_range.1 hi
      have := (hce i (by omega)).2
      rw [Array.length_toList]; exact this
end
end Go.Proofs.YtpmlmibceiolpaaGreatDoor
