/- A draft of croupierref02 that comes in by value, opened; what its Q answers. -/
import Derived.Test.YtabdnjakmhnnfaaGreatDoorQDraftQ
import Derived.Test.YtabdnjakmhnnfaaGreatDoorTAgg
import Derived.ChangeSlices
import Derived.Carry
import Derived.Deep.Strs
set_option linter.unusedSimpArgs false
set_option linter.unusedVariables false
namespace Go.Proofs.YtabdnjakmhnnfaaGreatDoor
open Go.ChangeShapes Go.WideShapes Go.RowKit Go.Joins Go.Deep
open D4 (rt it)

theorem laid_out : laidOutB Tryz.prog = true := by kernel_rfl
/-- What a draft's argument is. -/
def DraftAt (w : World) (v : Value) : Prop := ∃ (n1 n2 : Bool) (a1 a2 : Option Addr) (k1 c1 k2 c2 : Nat) (zs1 zs2 : List Nat) (t1 t2 : Nat), v = .agg #[.bool n1, .slice a1 k1 c1, .int .u8 t1, .bool n2, .slice a2 k2 c2, .int .u8 t2] ∧ t1 < 256 ∧ t2 < 256 ∧ (∀ z ∈ zs1, z < 256) ∧ (∀ z ∈ zs2, z < 256) ∧ U8s w (.slice a1 k1 c1) zs1 ∧ U8s w (.slice a2 k2 c2) zs2

/-- What Q answers. -/
theorem DraftAt.q {w : World} {v : Value} (h : DraftAt w v) : ∃ (n1 n2 : Bool) (a1 a2 : Option Addr) (k1 c1 k2 c2 : Nat) (t1 t2 : Int) (x : Rat), v = .agg #[.bool n1, .slice a1 k1 c1, .int .u8 t1, .bool n2, .slice a2 k2 c2, .int .u8 t2] ∧ fitsD 240 x ∧
    ∀ V : World, Below w.heap.size w V → Good V → Calls Tryz.prog 36 #[.agg #[.bool n1, .slice a1 k1 c1, .int .u8 t1, .bool n2, .slice a2 k2 c2, .int .u8 t2]] V (RetV V (.string (rt x))) := by
  obtain ⟨n1, n2, a1, a2, k1, c1, k2, c2, zs1, zs2, t1, t2, rfl, h1, h2, h3, h4, h5, h6⟩ := h
  have l1 : (dsOf zs1).length ≤ 30 := by rw [dsOf_len]; omega
  have l2 : (dsOf zs2).length ≤ 30 := by rw [dsOf_len]; omega
  have d1 := draftN_digits (neg := n1) (t := t1) (dsOf_lt zs1) l1
  have d2 := draftN_digits (neg := n2) (t := t2) (dsOf_lt zs2) l2
  refine ⟨n1, n2, a1, a2, k1, c1, k2, c2, t1, t2, _, rfl, draftQ_fit d1 d2, fun V hV hg => ?_⟩
  exact q_walk n1 n2 _ _ t1 t2 _ _ d1 d2 ⟨_, _, _, rfl⟩ ⟨_, _, _, rfl⟩ (fun V' hV' => dtext_any n1 _ zs1 t1 h1 h3 ((h5.below hV).below hV')) (fun V' hV' => dtext_any n2 _ zs2 t2 h2 h4 ((h6.below hV).below hV')) hg

section
variable {H : Type} {enc : TypeId × Value → H} {W : World}
theorem u8_of_wf {z : Int} (h : (Lit.int .u8 z).wf = true) : 0 ≤ z ∧ z < 256 := by
  simp [Lit.wf, IntKind.min, IntKind.max, IntKind.signed, IntKind.bits] at h; omega
set_option maxRecDepth 100000 in
theorem open_d1 {n : Nat} {cs : List Value} {x : DataW H × List MemPlace} (h : DataW.trod enc Tryz.prog W 0 (fun _ => true) true n 42 cs = some x) :
    ∃ (neg : Bool) (a : Option Addr) (k c : Nat) (zs : List Nat) (t : Nat), cs = [.bool neg, .slice a k c, .int .u8 t] ∧ t < 256 ∧ (∀ z ∈ zs, z < 256) ∧ U8s W (.slice a k c) zs := by
  obtain ⟨y0, y1, y2, m, hx, hl, h0, h1, h2⟩ := trod_struct3 Tryz.underlying42 h
  have c3 : Tryz.prog.cellsOf 42 = 3 := by kernel_rfl
  have e0 : Tryz.prog.cellsOf 4 = 1 := by kernel_rfl
  have e1 : Tryz.prog.cellsOf 40 = 1 := by kernel_rfl
  have e2 : Tryz.prog.cellsOf 5 = 1 := by kernel_rfl
  rw [c3] at hl
  match cs, hl with
  | [u0, u1, u2], _ =>
    simp [e0, e1, e2] at h0 h1 h2
    obtain ⟨b, hb, -⟩ := DataW.trod_bool Tryz.underlying4 h0
    obtain ⟨t, ht, -, hw⟩ := DataW.trod_int Tryz.underlying5 h2
    simp at hb ht
    subst hb
    subst ht
    obtain ⟨t0, t1⟩ := u8_of_wf hw
    obtain ⟨t', rfl⟩ := Int.eq_ofNat_of_zero_le t0
    rcases open_ints Tryz.underlying40 Tryz.underlying5 e2 h1 with ⟨hs, -⟩ | ⟨a, len, cap, zs, hs, -, hlc, hcm, hzl, -, hce, hwf⟩
    · simp at hs
      subst hs
      exact ⟨b, none, 0, 0, [], t', rfl, by omega, by simp, .inl ⟨rfl, rfl⟩⟩
    · simp at hs
      subst hs
      have hzc : zs.length = cap := by simpa using hzl
      have hnn : ∀ i, i < zs.length → 0 ≤ zs.getD i 0 ∧ zs.getD i 0 < 256 := fun i hi => by
        have e : zs.getD i 0 = zs[i] := by simp [List.getD, List.getElem?_eq_getElem hi]
        rw [e]; exact u8_of_wf (hwf _ (List.getElem_mem hi))
      have hlen : ((zs.take len).map Int.toNat).length = len := by simp; omega
      refine ⟨b, some a, len, cap, (zs.take len).map Int.toNat, t', rfl, by omega, ?_, .inr ⟨a, cap, by rw [hlen], by rw [hlen]; omega, fun i hi => ?_⟩⟩
      · intro z hz
        obtain ⟨q, hq, rfl⟩ := List.mem_map.1 hz
        have := u8_of_wf (hwf q (List.mem_of_mem_take hq))
        omega
      · rw [hlen] at hi
        have hiz : i < zs.length := by omega
        have hc := hce i hiz
        refine ⟨?_, ?_⟩
        · have := World.block_lt_of_cell? W (a.add i) hc
          rwa [adr_block] at this
        · rw [hc]
          have hn := hnn i hiz
          congr 2
          have e : ((zs.take len).map Int.toNat).getD i 0 = (zs.getD i 0).toNat := by
            simp [List.getD, List.getElem?_take, hi, List.getElem?_eq_getElem hiz]
          rw [e]; omega
set_option maxRecDepth 100000 in
theorem open_draft {r : Reach} {b0 : Nat} {v : Value} {d : DataW H} {p : List MemPlace} (hv : Value.okWide Tryz.prog W r b0 44 v) (h : DataW.Trod enc Tryz.prog W 0 (fun _ => true) true 44 v d p) : DraftAt W v := by
  obtain ⟨cs, rfl, hsz⟩ := okWide_struct Tryz.underlying44 hv
  obtain ⟨fuel, hf⟩ := h
  obtain ⟨y0, y1, n, hx, hl, h0, h1⟩ := trod_struct2 Tryz.underlying44 hf
  have c3 : Tryz.prog.cellsOf 42 = 3 := by kernel_rfl
  have hcs : (Value.cells (.agg cs)).toList = cs.toList := by simp [Value.cells]
  rw [hcs] at h0 h1
  obtain ⟨n1, a1, k1, c1, zs1, t1, e1, q1, q2, q3⟩ := open_d1 h0
  obtain ⟨n2, a2, k2, c2, zs2, t2, e2, q4, q5, q6⟩ := open_d1 h1
  simp [c3] at e1 e2
  refine ⟨n1, n2, a1, a2, k1, c1, k2, c2, zs1, zs2, t1, t2, ?_, q1, q4, q2, q5, q3, q6⟩
  congr 1
  apply Array.ext'
  have hs6 : cs.toList.length = 6 := by
    rw [hcs] at hl
    rw [hl]; kernel_rfl
  have := List.take_append_drop 3 cs.toList
  rw [← this, e1]
  have e3 : cs.toList.drop 3 = [.bool n2, .slice a2 k2 c2, .int .u8 t2] := by
    rw [← e2, List.take_of_length_le (by rw [List.length_drop, hs6]; decide)]
  rw [e3]
  rfl
end
end Go.Proofs.YtabdnjakmhnnfaaGreatDoor
