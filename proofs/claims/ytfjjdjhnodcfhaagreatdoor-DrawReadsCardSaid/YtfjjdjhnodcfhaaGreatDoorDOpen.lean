/- Slices that come in, opened: drafts, texts, bools. -/
import Derived.Test.YtfjjdjhnodcfhaaGreatDoorDWeig
import Derived.Test.YtfjjdjhnodcfhaaGreatDoorTAgg
import Derived.ChangeSlices
import Derived.Carry
import Derived.Deep.Strs
import Derived.Deep.Grids
set_option linter.unusedSimpArgs false
set_option linter.unusedVariables false
namespace Go.Proofs.YtfjjdjhnodcfhaaGreatDoor
open Go.ChangeShapes Go.WideShapes Go.RowKit Go.Joins Go.Deep
open D4 (rt it)

theorem laid_out : laidOutB Tryz.prog = true := by kernel_rfl
section
variable {H : Type} {enc : TypeId × Value → H} {W : World}
theorem u8_of_wf {z : Int} (h : (Lit.int .u8 z).wf = true) : 0 ≤ z ∧ z < 256 := by
  simp [Lit.wf, IntKind.min, IntKind.max, IntKind.signed, IntKind.bits] at h; omega
set_option maxRecDepth 100000 in
theorem open_u8s {r : Reach} {b0 : Nat} {v : Value} {d : DataW H} {p : List MemPlace} (hv : Value.okWide Tryz.prog W r b0 36 v) (h : DataW.Trod enc Tryz.prog W 0 (fun _ => true) true 36 v d p) : ∃ zs : List Nat, (∀ z ∈ zs, z < 256) ∧ U8s W v zs := by
  obtain ⟨a, k, c, rfl⟩ := okWide_slice Tryz.underlying36 hv
  obtain ⟨fuel, hf⟩ := h
  have hcs : (Value.cells (.slice a k c)).toList = [.slice a k c] := rfl
  rw [hcs] at hf
  have e2 : Tryz.prog.cellsOf 5 = 1 := by kernel_rfl
  rcases open_ints Tryz.underlying36 Tryz.underlying5 e2 hf with ⟨hs, -⟩ | ⟨a, len, cap, zs, hs, -, hlc, hcm, hzl, -, hce, hwf⟩
  · simp at hs
    obtain ⟨rfl, rfl, rfl⟩ := hs
    exact ⟨[], by simp, .inl ⟨rfl, rfl⟩⟩
  · simp at hs
    obtain ⟨rfl, rfl, rfl⟩ := hs
    have hzc : zs.length = c := by simpa using hzl
    have hnn : ∀ i, i < zs.length → 0 ≤ zs.getD i 0 ∧ zs.getD i 0 < 256 := fun i hi => by
      have e : zs.getD i 0 = zs[i] := by simp [List.getD, List.getElem?_eq_getElem hi]
      rw [e]; exact u8_of_wf (hwf _ (List.getElem_mem hi))
    have hlen : ((zs.take k).map Int.toNat).length = k := by simp; omega
    refine ⟨(zs.take k).map Int.toNat, ?_, .inr ⟨a, c, by rw [hlen], by rw [hlen]; omega, fun i hi => ?_⟩⟩
    · intro z hz
      obtain ⟨q, hq, rfl⟩ := List.mem_map.1 hz
      have := u8_of_wf (hwf q (List.mem_of_mem_take hq))
      omega
    · rw [hlen] at hi
      have hiz : i < zs.length := by omega
      have hc := hce i hiz
      refine ⟨?_, ?_⟩
      · have := World.block_lt_of_cell? W (a.add i) hc
        rwa [adr_block] at this
      · rw [hc]
        have hn := hnn i hiz
        congr 2
        have e : ((zs.take k).map Int.toNat).getD i 0 = (zs.getD i 0).toNat := by
          simp [List.getD, List.getElem?_take, hi, List.getElem?_eq_getElem hiz]
        rw [e]; omega
/-- Texts that come in. -/
def QsIn (w : World) (v : Value) (ts : List (List UInt8)) : Prop := Qs w v ts ∧ ∀ l ∈ ts, l.length ≤ maxLen
set_option maxRecDepth 100000 in
theorem open_qs {r : Reach} {b0 : Nat} {v : Value} {d : DataW H} {p : List MemPlace} (hv : Value.okWide Tryz.prog W r b0 23 v) (h : DataW.Trod enc Tryz.prog W 0 (fun _ => true) true 23 v d p) : ∃ ts : List (List UInt8), QsIn W v ts := by
  obtain ⟨a, k, c, rfl⟩ := okWide_slice Tryz.underlying23 hv
  obtain ⟨fuel, hf⟩ := h
  have hcs : (Value.cells (.slice a k c)).toList = [.slice a k c] := rfl
  rw [hcs] at hf
  have e2 : Tryz.prog.cellsOf 24 = 1 := by kernel_rfl
  rcases open_strs Tryz.underlying23 Tryz.underlying24 e2 hf with ⟨hs, -⟩ | ⟨a, len, cap, m, Sx, hs, -, hlc, hcm, hm, -, hce⟩
  · simp at hs
    obtain ⟨rfl, rfl, rfl⟩ := hs
    exact ⟨[], Qs.nil W, by simp⟩
  · simp at hs
    obtain ⟨rfl, rfl, rfl⟩ := hs
    simp only [if_true] at hm
    subst hm
    refine ⟨(List.range k).map fun i => (Sx i).data.toList, ⟨some a, m, by simp, by simp; omega, hcm, .inr ⟨a, rfl⟩, fun p hp i hi => ?_⟩, ?_⟩
    · cases hp
      simp at hi
      rw [(hce i (by omega)).1]
      simp [List.getD, List.getElem?_range hi]
    · intro l hl
      obtain ⟨i, hi, rfl⟩ := List.mem_map.1 hl
      have hi2 := List.mem_range.1 hi
      have := (hce i (by omega)).2
      rw [Array.length_toList]; exact this
/-- Bools that come in. -/
def Bs (w : World) (v : Value) (bs : List Bool) : Prop := ∃ (a : Option Addr) (c : Nat), v = .slice a bs.length c ∧ bs.length ≤ c ∧ c ≤ maxLen ∧ (bs = [] ∨ ∃ p : Addr, a = some p) ∧ ∀ p : Addr, a = some p → ∀ i, i < bs.length → w.cell? (p.add i) = some (.bool (bs.getD i false))
set_option maxRecDepth 100000 in
theorem open_bs {r : Reach} {b0 : Nat} {v : Value} {d : DataW H} {p : List MemPlace} (hv : Value.okWide Tryz.prog W r b0 37 v) (h : DataW.Trod enc Tryz.prog W 0 (fun _ => true) true 37 v d p) : ∃ bs : List Bool, Bs W v bs := by
  obtain ⟨a, k, c, rfl⟩ := okWide_slice Tryz.underlying37 hv
  obtain ⟨fuel, hf⟩ := h
  have hcs : (Value.cells (.slice a k c)).toList = [.slice a k c] := rfl
  rw [hcs] at hf
  have e2 : Tryz.prog.cellsOf 4 = 1 := by kernel_rfl
  rcases open_bools Tryz.underlying37 Tryz.underlying4 e2 hf with ⟨hs, -⟩ | ⟨a, len, cap, B, hs, -, hlc, hcm, -, hce⟩
  · simp at hs
    obtain ⟨rfl, rfl, rfl⟩ := hs
    exact ⟨[], none, 0, rfl, Nat.le_refl _, by unfold maxLen; omega, .inl rfl, fun p hp => by cases hp⟩
  · simp at hs
    obtain ⟨rfl, rfl, rfl⟩ := hs
    refine ⟨(List.range k).map B, some a, c, by simp, by simp; omega, hcm, .inr ⟨a, rfl⟩, fun p hp i hi => ?_⟩
    cases hp
    simp at hi
    rw [hce i (by omega)]
    simp [List.getD, List.getElem?_range hi]
end
end Go.Proofs.YtfjjdjhnodcfhaaGreatDoor
