/- Drafts that come in by value, opened. -/
import Derived.Test.YtpmlmibceiolpaaGreatDoorGLaws
import Derived.Test.YtpmlmibceiolpaaGreatDoorTAgg
import Derived.ChangeSlices
import Derived.Carry
import Derived.Deep.Strs
import Derived.OpenShut
set_option linter.unusedSimpArgs false
set_option linter.unusedVariables false
namespace Go.Proofs.YtpmlmibceiolpaaGreatDoor
open Go.ChangeShapes Go.WideShapes Go.RowKit Go.Joins Go.Deep

/-- What a draft's argument is; two; three. -/
def DraftAt (w : World) (v : Value) : Prop := ∃ (s : Value) (vr kd : Nat) (zs : List Nat), v = .agg #[.int .u8 (vr : Int), .int .u8 (kd : Int), s] ∧ Dft w (.agg #[.int .u8 (vr : Int), .int .u8 (kd : Int), s]) vr kd zs
def Draft2At (w : World) (v : Value) : Prop := ∃ (s1 s2 : Value) (vr1 kd1 vr2 kd2 : Nat) (zs1 zs2 : List Nat), v = .agg #[.int .u8 (vr1 : Int), .int .u8 (kd1 : Int), s1, .int .u8 (vr2 : Int), .int .u8 (kd2 : Int), s2] ∧ Dft w (.agg #[.int .u8 (vr1 : Int), .int .u8 (kd1 : Int), s1]) vr1 kd1 zs1 ∧ Dft w (.agg #[.int .u8 (vr2 : Int), .int .u8 (kd2 : Int), s2]) vr2 kd2 zs2
section
variable {H : Type} {enc : TypeId × Value → H} {W : World}
theorem u8_of_wf {z : Int} (h : (Lit.int .u8 z).wf = true) : 0 ≤ z ∧ z < 256 := by
  simp [Lit.wf, IntKind.min, IntKind.max, IntKind.signed, IntKind.bits] at h; omega
set_option maxRecDepth 100000 in
theorem open_d1 {n : Nat} {cs : List Value} {x : DataW H × List MemPlace} (h : DataW.trod enc Tryz.prog W 0 (fun _ => true) true n 24 cs = some x) :
    ∃ (s : Value) (vr kd : Nat) (zs : List Nat), cs = [.int .u8 (vr : Int), .int .u8 (kd : Int), s] ∧ Dft W (.agg #[.int .u8 (vr : Int), .int .u8 (kd : Int), s]) vr kd zs := by
  obtain ⟨y0, y1, y2, m, hx, hl, h0, h1, h2⟩ := trod_struct3 Tryz.underlying24 h
  have c3 : Tryz.prog.cellsOf 24 = 3 := by kernel_rfl
  have e1 : Tryz.prog.cellsOf 22 = 1 := by kernel_rfl
  have e2 : Tryz.prog.cellsOf 5 = 1 := by kernel_rfl
  rw [c3] at hl
  match cs, hl with
  | [u0, u1, u2], _ =>
    simp [e1, e2] at h0 h1 h2
    obtain ⟨t, ht, -, hw⟩ := DataW.trod_int Tryz.underlying5 h0
    obtain ⟨t1, ht1, -, hw1⟩ := DataW.trod_int Tryz.underlying5 h1
    simp at ht ht1
    subst ht
    subst ht1
    obtain ⟨a0, a1⟩ := u8_of_wf hw
    obtain ⟨b0, b1⟩ := u8_of_wf hw1
    obtain ⟨t', rfl⟩ := Int.eq_ofNat_of_zero_le a0
    obtain ⟨t1', rfl⟩ := Int.eq_ofNat_of_zero_le b0
    rcases open_ints Tryz.underlying22 Tryz.underlying5 e2 h2 with ⟨hs, -⟩ | ⟨a, len, cap, zs, hs, -, hlc, hcm, hzl, -, hce, hwf⟩
    · simp at hs
      subst hs
      exact ⟨.slice none 0 0, t', t1', [], rfl, ⟨⟨_, rfl, .inl ⟨rfl, rfl⟩⟩, by omega, by omega, by simp⟩⟩
    · simp at hs
      subst hs
      have hzc : zs.length = cap := by simpa using hzl
      have hnn : ∀ i, i < zs.length → 0 ≤ zs.getD i 0 ∧ zs.getD i 0 < 256 := fun i hi => by
        have e : zs.getD i 0 = zs[i] := by simp [List.getD, List.getElem?_eq_getElem hi]
        rw [e]; exact u8_of_wf (hwf _ (List.getElem_mem hi))
      have hlen : ((zs.take len).map Int.toNat).length = len := by simp; omega
      refine ⟨.slice (some a) len cap, t', t1', (zs.take len).map Int.toNat, rfl, ⟨⟨_, rfl, .inr ⟨a, cap, by rw [hlen], by rw [hlen]; omega, fun i hi => ?_⟩⟩, by omega, by omega, ?_⟩⟩
      · rw [hlen] at hi
        have hiz : i < zs.length := by omega
        have hc := hce i hiz
        refine ⟨?_, ?_⟩
        · have := World.block_lt_of_cell? W (a.add i) hc
          rwa [adr_block] at this
        · rw [hc]
          have hn := hnn i hiz
          congr 2
          have e : ((zs.take len).map Int.toNat).getD i 0 = (zs.getD i 0).toNat := by
            simp [List.getD, List.getElem?_take, hi, List.getElem?_eq_getElem hiz]
          rw [e]; omega
      · intro z hz
        obtain ⟨q, hq, rfl⟩ := List.mem_map.1 hz
        have := u8_of_wf (hwf q (List.mem_of_mem_take hq))
        omega
set_option maxRecDepth 100000 in
theorem open_draft {r : Reach} {b0 : Nat} {v : Value} {d : DataW H} {p : List MemPlace} (hv : Value.okWide Tryz.prog W r b0 24 v) (h : DataW.Trod enc Tryz.prog W 0 (fun _ => true) true 24 v d p) : DraftAt W v := by
  obtain ⟨cs, rfl, hsz⟩ := okWide_struct Tryz.underlying24 hv
  obtain ⟨fuel, hf⟩ := h
  have hcs : (Value.cells (.agg cs)).toList = cs.toList := by simp [Value.cells]
  rw [hcs] at hf
  obtain ⟨s, vr, kd, zs, e1, q1⟩ := open_d1 hf
  refine ⟨s, vr, kd, zs, ?_, q1⟩
  congr 1
  apply Array.ext'
  rw [e1]
set_option maxRecDepth 100000 in
theorem okWide_arrA {r : Reach} {b0 : Nat} {t e : TypeId} {n : Nat} {v : Value} (ht : Tryz.prog.underlying t = some (.array n e)) (h : Value.okWide Tryz.prog W r b0 t v) : ∃ cs, v = .agg cs ∧ cs.size = Tryz.prog.cellsOf t := by
  simp only [Value.okWide, ht] at h
  obtain ⟨cs, h1, h2, _⟩ := h
  exact ⟨cs, h1, h2⟩
set_option maxRecDepth 100000 in
theorem open_draft2 {r : Reach} {b0 : Nat} {v : Value} {d : DataW H} {p : List MemPlace} (hv : Value.okWide Tryz.prog W r b0 25 v) (h : DataW.Trod enc Tryz.prog W 0 (fun _ => true) true 25 v d p) : Draft2At W v := by
  obtain ⟨cs, rfl, hsz⟩ := okWide_arrA Tryz.underlying25 hv
  obtain ⟨fuel, hf⟩ := h
  have hcs : (Value.cells (.agg cs)).toList = cs.toList := by simp [Value.cells]
  rw [hcs] at hf
  obtain ⟨xs, m, hx, -, hl, hn, hi⟩ := DataW.trod_array Tryz.underlying25 hf
  have c3 : Tryz.prog.cellsOf 24 = 3 := by kernel_rfl
  have c6 : Tryz.prog.cellsOf 25 = 6 := by kernel_rfl
  have g0 := hi 0 (by omega)
  have g1 := hi 1 (by omega)
  rw [c3, List.getElem?_eq_getElem (by omega)] at g0 g1
  obtain ⟨s1, vr1, kd1, zs1, e1, q1⟩ := open_d1 g0
  obtain ⟨s2, vr2, kd2, zs2, e2, q2⟩ := open_d1 g1
  refine ⟨s1, s2, vr1, kd1, vr2, kd2, zs1, zs2, ?_, q1, q2⟩
  congr 1
  apply Array.ext'
  rw [c6] at hl
  have h3 := List.take_append_drop 3 cs.toList
  have e1' : cs.toList.take 3 = [.int .u8 (vr1 : Int), .int .u8 (kd1 : Int), s1] := by simpa using e1
  have e2' : cs.toList.drop 3 = [.int .u8 (vr2 : Int), .int .u8 (kd2 : Int), s2] := by
    rw [← e2, List.take_of_length_le (by rw [List.length_drop, hl]; decide)]
  rw [← h3, e1', e2']
  rfl
end
end Go.Proofs.YtpmlmibceiolpaaGreatDoor
