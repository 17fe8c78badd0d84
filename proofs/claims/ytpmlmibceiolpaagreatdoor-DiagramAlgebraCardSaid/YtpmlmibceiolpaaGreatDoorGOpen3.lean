/- Three drafts that come in by value, opened. -/
import Derived.Test.YtpmlmibceiolpaaGreatDoorGOpen
set_option linter.unusedSimpArgs false
set_option linter.unusedVariables false
namespace Go.Proofs.YtpmlmibceiolpaaGreatDoor
open Go.ChangeShapes Go.WideShapes Go.RowKit Go.Joins Go.Deep

def Draft3At (w : World) (v : Value) : Prop := ∃ (s1 s2 s3 : Value) (vr1 kd1 vr2 kd2 vr3 kd3 : Nat) (zs1 zs2 zs3 : List Nat), v = .agg #[.int .u8 (vr1 : Int), .int .u8 (kd1 : Int), s1, .int .u8 (vr2 : Int), .int .u8 (kd2 : Int), s2, .int .u8 (vr3 : Int), .int .u8 (kd3 : Int), s3] ∧ Dft w (.agg #[.int .u8 (vr1 : Int), .int .u8 (kd1 : Int), s1]) vr1 kd1 zs1 ∧ Dft w (.agg #[.int .u8 (vr2 : Int), .int .u8 (kd2 : Int), s2]) vr2 kd2 zs2 ∧ Dft w (.agg #[.int .u8 (vr3 : Int), .int .u8 (kd3 : Int), s3]) vr3 kd3 zs3
section
variable {H : Type} {enc : TypeId × Value → H} {W : World}
set_option maxRecDepth 100000 in
theorem open_draft3 {r : Reach} {b0 : Nat} {v : Value} {d : DataW H} {p : List MemPlace} (hv : Value.okWide Tryz.prog W r b0 44 v) (h : DataW.Trod enc Tryz.prog W 0 (fun _ => true) true 44 v d p) : Draft3At W v := by
  obtain ⟨cs, rfl, hsz⟩ := okWide_arrA Tryz.underlying44 hv
  obtain ⟨fuel, hf⟩ := h
  have hcs : (Value.cells (.agg cs)).toList = cs.toList := by simp [Value.cells]
  rw [hcs] at hf
  obtain ⟨xs, m, hx, -, hl, hn, hi⟩ := DataW.trod_array Tryz.underlying44 hf
  have c3 : Tryz.prog.cellsOf 24 = 3 := by kernel_rfl
  have c9 : Tryz.prog.cellsOf 44 = 9 := by kernel_rfl
  have g0 := hi 0 (by omega)
  have g1 := hi 1 (by omega)
  have g2 := hi 2 (by omega)
  rw [c3, List.getElem?_eq_getElem (by omega)] at g0 g1 g2
  obtain ⟨s1, vr1, kd1, zs1, e1, q1⟩ := open_d1 g0
  obtain ⟨s2, vr2, kd2, zs2, e2, q2⟩ := open_d1 g1
  obtain ⟨s3, vr3, kd3, zs3, e3, q3⟩ := open_d1 g2
  refine ⟨s1, s2, s3, vr1, kd1, vr2, kd2, vr3, kd3, zs1, zs2, zs3, ?_, q1, q2, q3⟩
  congr 1
  apply Array.ext'
  rw [c9] at hl
  have h3 := List.take_append_drop 3 cs.toList
  have h6 := List.take_append_drop 3 (cs.toList.drop 3)
  have e1' : cs.toList.take 3 = [.int .u8 (vr1 : Int), .int .u8 (kd1 : Int), s1] := by simpa using e1
  have e2' : (cs.toList.drop 3).take 3 = [.int .u8 (vr2 : Int), .int .u8 (kd2 : Int), s2] := by simpa using e2
  have e3' : (cs.toList.drop 3).drop 3 = [.int .u8 (vr3 : Int), .int .u8 (kd3 : Int), s3] := by
    rw [← e3, List.drop_drop, List.take_of_length_le (by rw [List.length_drop, hl]; decide)]
  rw [← h3, e1', ← h6, e2', e3']
  rfl
end
end Go.Proofs.YtpmlmibceiolpaaGreatDoor
