/- The contract of Whole.Mul. -/
import Derived.Test.YtpmlmibceiolpaaGreatDoorFrac
import Derived.Test.YtpmlmibceiolpaaGreatDoorDivided
set_option linter.unusedSimpArgs false
set_option linter.unusedVariables false
namespace Go.Proofs.YtpmlmibceiolpaaGreatDoor
open Go.RowKit

theorem val_put {A : List Nat} {j x : Nat} (hj : j < A.length) : val (A.set j x) + 1000000000 ^ j * A.getD j 0 = val A + 1000000000 ^ j * x := by
  rw [val_split (A.set j x) j (by simp; omega), val_split A j (by omega), List.take_set_of_le (Nat.le_refl _), drop_eq (l := A) hj, drop_eq (l := A.set j x) (by simpa using hj), List.drop_set_of_lt (by omega)]
  have e : (A.set j x).getD j 0 = x := by simp [List.getD, hj]
  rw [e]
  simp only [val, Nat.mul_add]
  omega

theorem getD_put {A : List Nat} {j k x : Nat} (h : j ≠ k) : (A.set j x).getD k 0 = A.getD k 0 := by
  simp [List.getD, List.getElem?_set, h]

/-- Behind i rounds of the outer loop. -/
def MulOut (l1 l2 : List Nat) (i : Nat) (A : List Nat) : Prop :=
  A.length = l1.length + l2.length ∧ Ok A ∧ val A = val (l1.take i) * val l2 ∧ ∀ j, i + l2.length ≤ j → A.getD j 0 = 0

/-- Behind k rounds of the inner loop. -/
def MulIn (l1 l2 : List Nat) (i k : Nat) (A : List Nat) (c : Nat) : Prop :=
  A.length = l1.length + l2.length ∧ Ok A ∧ c < 1000000000 ∧ val A + 1000000000 ^ (i + k) * c = val (l1.take i) * val l2 + 1000000000 ^ i * (l1.getD i 0 * val (l2.take k)) ∧ ∀ j, i + l2.length ≤ j → A.getD j 0 = 0

theorem MulOut.start (l1 l2 : List Nat) : MulOut l1 l2 0 (List.replicate (l1.length + l2.length) 0) :=
  ⟨by simp, Ok.zeros _, by simp [val, val_zeros], fun j _ => by simp [List.getD, List.getElem?_replicate]; split <;> rfl⟩

theorem MulOut.inner {l1 l2 : List Nat} {i : Nat} {A : List Nat} (h : MulOut l1 l2 i A) : MulIn l1 l2 i 0 A 0 :=
  ⟨h.1, h.2.1, by omega, by simp [val, h.2.2.1], h.2.2.2⟩

theorem MulIn.step {l1 l2 : List Nat} {i k : Nat} {A : List Nat} {c : Nat} (h : MulIn l1 l2 i k A c) (hi : i < l1.length) (hk : k < l2.length) {n : Nat} (hn : n = l1.getD i 0 * l2.getD k 0 + A.getD (i + k) 0 + c) (hd : n / 1000000000 < 1000000000) :
    MulIn l1 l2 i (k + 1) (A.set (i + k) (n % 1000000000)) (n / 1000000000) := by
  obtain ⟨h1, h2, h3, h4, h5⟩ := h
  refine ⟨by simp [h1], h2.set _ _ (Nat.mod_lt _ (by omega)), hd, ?_, fun j hj => ?_⟩
  · have e1 := val_put (A := A) (j := i + k) (x := n % 1000000000) (by omega)
    have e2 : 1000000000 ^ (i + k) * (n % 1000000000 + 1000000000 * (n / 1000000000)) = 1000000000 ^ (i + k) * (l1.getD i 0 * l2.getD k 0 + A.getD (i + k) 0 + c) := by rw [Nat.mod_add_div, hn]
    rw [val_take_succ, ← Nat.add_assoc, Nat.pow_succ, Nat.mul_assoc (1000000000 ^ (i + k)) 1000000000, Nat.mul_add (l1.getD i 0), Nat.mul_add (1000000000 ^ i)]
    have e3 : 1000000000 ^ i * (l1.getD i 0 * (1000000000 ^ k * l2.getD k 0)) = 1000000000 ^ (i + k) * (l1.getD i 0 * l2.getD k 0) := by
      rw [Nat.pow_add, Nat.mul_left_comm (l1.getD i 0), Nat.mul_assoc]
    rw [e3]
    simp only [Nat.mul_add] at e2
    omega
  · rw [getD_put (by omega)]; exact h5 j hj

theorem MulIn.outer {l1 l2 : List Nat} {i : Nat} {A : List Nat} {c : Nat} (h : MulIn l1 l2 i l2.length A c) (hi : i < l1.length) : MulOut l1 l2 (i + 1) (A.set (i + l2.length) c) := by
  obtain ⟨h1, h2, h3, h4, h5⟩ := h
  refine ⟨by simp [h1], h2.set _ _ h3, ?_, fun j hj => ?_⟩
  · have e1 := val_put (A := A) (j := i + l2.length) (x := c) (by omega)
    rw [h5 _ (Nat.le_refl _), Nat.mul_zero] at e1
    rw [List.take_length] at h4
    rw [val_take_succ, Nat.add_mul, Nat.mul_assoc]
    omega
  · rw [getD_put (by omega)]; exact h5 j (by omega)

theorem MulOut.done {l1 l2 : List Nat} {A : List Nat} (h : MulOut l1 l2 l1.length A) : val A = val l1 * val l2 := by
  have := h.2.2.1
  rwa [List.take_length] at this

theorem Blk.lim {w : World} {g : Nat} {A : List Nat} (h : Blk w g 143 (arr A)) (hm : A.length ≤ 2147483648) : Lim w (.slice (some ⟨g, 0, none⟩) A.length A.length) A := by
  refine ⟨_, _, rfl, Nat.le_refl _, by unfold maxLen; omega, .inr ⟨g, 0, rfl, ⟨_, _, h⟩, fun i hi => ?_⟩⟩
  rw [Nat.zero_add]
  exact h.at_ hi

theorem sg_mul {m n : Int} : sg (decide (m < 0) != decide (n < 0)) (m.natAbs * n.natAbs) = m * n := by
  rcases Int.lt_or_le m 0 with hm | hm <;> rcases Int.lt_or_le n 0 with hn | hn
  all_goals
    have a1 : (m.natAbs : Int) = m ∨ (m.natAbs : Int) = -m := by omega
    have a2 : (n.natAbs : Int) = n ∨ (n.natAbs : Int) = -n := by omega
  · have e1 : (m.natAbs : Int) = -m := by omega
    have e2 : (n.natAbs : Int) = -n := by omega
    simp [sg, hm, hn, e1, e2, Int.neg_mul, Int.mul_neg]
  · have e1 : (m.natAbs : Int) = -m := by omega
    have e2 : (n.natAbs : Int) = n := by omega
    have h3 : ¬ n < 0 := by omega
    simp [sg, hm, h3, e1, e2, Int.neg_mul, Int.mul_neg]
  · have e1 : (m.natAbs : Int) = m := by omega
    have e2 : (n.natAbs : Int) = -n := by omega
    have h3 : ¬ m < 0 := by omega
    simp [sg, hn, h3, e1, e2, Int.neg_mul, Int.mul_neg]
  · have e1 : (m.natAbs : Int) = m := by omega
    have e2 : (n.natAbs : Int) = n := by omega
    have h3 : ¬ m < 0 := by omega
    have h4 : ¬ n < 0 := by omega
    simp [sg, h3, h4, e1, e2]

set_option maxHeartbeats 2000000 in
set_option maxRecDepth 100000 in
theorem mul_core {w : World} {a1 a2 : Option Addr} {p1 p2 : Nat} {l1 l2 : List Nat} (b c : Bool) (h1 : Lim w (.slice a1 l1.length p1) l1) (h2 : Lim w (.slice a2 l2.length p2) l2) (o1 : Ok l1) (o2 : Ok l2) (s1 : l1.length ≤ 1073741824) (s2 : l2.length ≤ 1073741824) :
    Calls Tryz.prog 78 #[.agg #[.bool b, .slice a1 l1.length p1], .agg #[.bool c, .slice a2 l2.length p2]] w (RetW w (sg (b != c) (val l1 * val l2))) := by
  obtain ⟨i0, hi, hz0, hz1, hz2⟩ := info_parts info32
  obtain ⟨W, hW, hB, hsz, j1, j2, j3⟩ := ent3 w 86 #[.bool b, .slice a1 l1.length p1] #[.bool c, .slice a2 l2.length p2] #[.bool false, .slice none 0 0]
  have HW := Lib.hid hW
  clear hW
  have q1 := h1.below hB
  have q2 := h2.below hB
  obtain ⟨a1', c1, e1, hc1, hm1, q1⟩ := q1
  obtain ⟨a2', c2, e2, hc2, hm2, q2⟩ := q2
  obtain ⟨rfl, rfl⟩ : a1 = a1' ∧ p1 = c1 := by injection e1 with e1 _ e3; exact ⟨e1, e3⟩
  obtain ⟨rfl, rfl⟩ : a2 = a2' ∧ p2 = c2 := by injection e2 with e1 _ e3; exact ⟨e1, e3⟩
  unfold maxLen at hm1 hm2
  clear e1 e2 h1 h2
  have HS := Lib.hid (MulOut.start l1 l2)
  generalize hn1 : l1.length = n1 at *
  generalize hn2 : l2.length = n2 at *
  have HN1 := Lib.hid hn1
  have HN2 := Lib.hid hn2
  clear hn1 hn2
  obtain ⟨N, hN⟩ : ∃ N, N = n1 + n2 := ⟨_, rfl⟩
  rw [← hN] at HS
  have hmk : ∀ w : World, (Instr.makeSlice 84 (.int .i64 ((n1 : Int) + n2)) (.int .i64 ((n1 : Int) + n2))).run Tryz.prog w = .ok (.slice (some ⟨w.heap.size, 0, none⟩) N N) (w.alloc (.cells (arr (List.replicate N 0)) 143)) := by
    intro w
    have e : (n1 : Int) + n2 = (N : Int) := by omega
    rw [e]
    have := run_make (P := Tryz.prog) w 84 143 i0 (.int .u32 0) Tryz.underlying84 hi hz0 .i64 .i64 N N (by omega) (by omega) (by rw [hz2]; omega) (by omega)
    simp only [Int.toNat_natCast, hz1] at this
    rw [this, madeZeros]
  have HNN := Lib.hid hN
  have hNle : N ≤ 2147483648 := by omega
  have hN1 : (n1 : Int) + n2 ≤ N := by omega
  have hN2 : (N : Int) ≤ (n1 : Int) + n2 := by omega
  clear hN
  have x0 := j1.cell0
  have x1 := j1.cell1
  have y0 := j2.cell0
  have y1 := j2.cell1
  have b0 : w.heap.size < W.heap.size := by omega
  have b1 : w.heap.size + 1 < W.heap.size := by omega
  have b2 : w.heap.size + 2 < W.heap.size := by omega
  have HSZ := Lib.hid hsz
  clear hsz
  go_enter Tryz.func78, Tryz.ntmps78
  go_upto_region 1 with fail
  rw [← HW.out]
  go_wp2
  have hmk' := Lib.hid hmk
  clear hmk
  have hst : Below W.heap.size W (W.alloc (.cells (arr (List.replicate N 0)) 143)) := (Below.refl _ _).alloc (Nat.le_refl _) _
  have hbl : Blk (W.alloc (.cells (arr (List.replicate N 0)) 143)) W.heap.size 143 (arr (List.replicate N 0)) := Blk.new _ _ _
  have HST := Lib.hid hst
  have HBL := Lib.hid hbl
  clear hst hbl
  go_loopw [23] (fun ix wr => ∃ (i : Nat) (A : List Nat), i ≤ n1 ∧ ix = .int .i64 i ∧ Hid (MulOut l1 l2 i A) ∧ Hid (Below W.heap.size W wr) ∧ Hid (Blk wr W.heap.size 143 (arr A))) (fun ix _ => n1 - (intOf ix).toNat)
  case atStart => exact ⟨0, _, Nat.zero_le _, rfl, HS, HST, HBL⟩
  case round =>
    obtain ⟨i, A, hi, rfl, hP, hK, hBl⟩ := hrel
    clear x0 x1 y0 y1
    have x0 : wr.cell? _ = _ := keepc hK.out j1.cell0 b0
    have x1 : wr.cell? _ = _ := keepc hK.out j1.cell1 b0
    have y0 : wr.cell? _ = _ := keepc hK.out j2.cell0 b1
    have y1 : wr.cell? _ = _ := keepc hK.out j2.cell1 b1
    by_cases hlt : i < n1
    · rcases q1 with q1 | ⟨g1, p1', rfl, hcell⟩
      · exfalso; have := HN1.out; rw [q1] at this; simp at this; omega
      have gx : wr.cell? ⟨g1, p1' + i, none⟩ = some (.int .u32 (l1.getD i 0)) := keepc hK.out (hcell.2 i (by have := HN1.out; omega)) hcell.lt
      have hx := o1.getD i
      generalize hxe : l1.getD i 0 = x at gx hx
      have HX := Lib.hid hxe
      clear hxe
      go_wp2
      obtain ⟨wo, rfl⟩ : ∃ wo : World, wo = wr := ⟨_, rfl⟩
      go_loopw [8, 31] (fun cc kx wi => ∃ (k cy : Nat) (A' : List Nat), k ≤ n2 ∧ kx = .int .i64 k ∧ cc = .int .u64 cy ∧ Hid (MulIn l1 l2 i k A' cy) ∧ Hid (Below W.heap.size W wi) ∧ Hid (Blk wi W.heap.size 143 (arr A'))) (fun _ kx _ => n2 - (intOf kx).toNat)
      case atStart => exact ⟨0, 0, A, Nat.zero_le _, rfl, rfl, Lib.hid hP.out.inner, hK, hBl⟩
      case round =>
        obtain ⟨k, cy, A', hk, rfl, rfl, hI, hK2, hBl2⟩ := hrel
        clear x0 x1 y0 y1 gx
        have x0 : wr.cell? _ = _ := keepc hK2.out j1.cell0 b0
        have x1 : wr.cell? _ = _ := keepc hK2.out j1.cell1 b0
        have y0 : wr.cell? _ = _ := keepc hK2.out j2.cell0 b1
        have y1 : wr.cell? _ = _ := keepc hK2.out j2.cell1 b1
        have hlA : A'.length = N := by rw [hI.out.1, HN1.out, HN2.out, HNN.out]
        have hcy : cy < 1000000000 := hI.out.2.2.1
        have f0 := hBl2.out.frozen (i + k)
        by_cases hlt2 : k < n2
        · rcases q2 with q2 | ⟨g2, p2', rfl, hcell2⟩
          · exfalso; have := HN2.out; rw [q2] at this; simp at this; omega
          have gy : wr.cell? ⟨g2, p2' + k, none⟩ = some (.int .u32 (l2.getD k 0)) := keepc hK2.out (hcell2.2 k (by have := HN2.out; omega)) hcell2.lt
          have gz : wr.cell? ⟨W.heap.size, i + k, none⟩ = some (.int .u32 (A'.getD (i + k) 0 : Nat)) := hBl2.out.at_ (by omega)
          have hy := o2.getD k
          have hz := hI.out.2.1.getD (i + k)
          have hst := fun n hn => hI.out.step (n := n) (by rw [HN1.out]; exact hlt) (by rw [HN2.out]; exact hlt2) hn
          rw [HX.out] at hst
          generalize l2.getD k 0 = y at gy hy hst
          generalize A'.getD (i + k) 0 = z at gz hz hst
          have hxy : x * y ≤ 999999998000000001 := Nat.mul_le_mul (show x ≤ 999999999 by omega) (show y ≤ 999999999 by omega)
          have hxz : (x : Int) * (y : Int) = ((x * y : Nat) : Int) := by simp
          have HXZ := Lib.hid hxz
          have HST2 := Lib.hid hst
          have d1 : 0 ≤ (x : Int) * (y : Int) := by omega
          have d2 : (x : Int) * (y : Int) ≤ 999999998000000001 := by omega
          have e1 : (i : Int) + (k : Int) < (N : Int) := by omega
          have e2 : ((i : Int) + (k : Int)).toNat = i + k := by omega
          clear hxz hst hlA
          go_wp2
          go_roundw
          case rel => exact ⟨k + 1, (x * y + z + cy) / 1000000000, A'.set (i + k) ((x * y + z + cy) % 1000000000), by omega, by go_num, by have := HXZ.out; go_num, Lib.hid (HST2.out _ rfl (by omega)), Lib.hid (hK2.out.setCell (Nat.le_refl _) _), Lib.hid (hBl2.out.put _ _ (by have := HXZ.out; omega))⟩
          case measure => simp [intOf]; omega
        · obtain rfl : k = n2 := by omega
          have e1 : (i : Int) + (k : Int) < (N : Int) := by omega
          have e2 : ((i : Int) + (k : Int)).toNat = i + k := by omega
          have gz : wr.cell? ⟨W.heap.size, i + k, none⟩ = some (.int .u32 (A'.getD (i + k) 0 : Nat)) := hBl2.out.at_ (by omega)
          clear hlA
          go_wp2
          go_roundw
          case rel => exact ⟨i + 1, A'.set (i + k) cy, by omega, by go_num, Lib.hid (by have h := hI.out; rw [← HN2.out] at h ⊢; exact h.outer (by rw [HN1.out]; exact hlt)), Lib.hid (hK2.out.setCell (Nat.le_refl _) _), Lib.hid (hBl2.out.put _ _ (by omega))⟩
          case measure => simp [intOf]; omega
    · obtain rfl : i = n1 := by omega
      have hlA : A.length = N := by rw [hP.out.1, HN1.out, HN2.out, HNN.out]
      have hv : val A = val l1 * val l2 := by have h := hP.out; rw [← HN1.out] at h; exact h.done
      have hl : Lim wr (.slice (some ⟨W.heap.size, 0, none⟩) N N) A := by have := hBl.out.lim (by omega); rwa [hlA] at this
      have HL := Lib.hid (And.intro hl hP.out.2.1)
      have HV := Lib.hid hv
      have j3' := j3.below hK.out b2
      clear hv hlA hl
      go_wp2_with (go_at_call 114; refine (whole_any _ HL.out.1 HL.out.2).mono ?_; rintro e w2 ⟨r, rfl, hr, hb2⟩; obtain ⟨b4, a4, k4, p4, rfl⟩ := hr.parts; have r3 := j3'.below hb2 j3'.lt; have t4 := r3.cell0; have t5 := r3.cell1; have t6 := r3.frozen 0; have t7 := r3.frozen 1)
      have hB4 := r3.two (.bool b4) (.slice a4 k4 p4)
      have d0 := hB4.cell0
      have d1 := hB4.cell1
      refine bodyPost_ret (v := .agg #[.bool b4, .slice a4 k4 p4]) (by simp [results, Tryz.results78, go_sem, d0, d1]) rfl ⟨_, rfl, ?_, ?_⟩
      · rw [← HV.out]; exact hr.two r3 (by decide) _ _
      · exact below_two ((hB.trans (hK.out.mono hB.size)).trans (hb2.mono (Nat.le_trans hB.size hK.out.size))) (by have := HSZ.out; omega) _ _

theorem mul_any {w : World} {v1 v2 : Value} {m n : Int} (h1 : Wh w v1 m) (h2 : Wh w v2 n) (s1 : Fit m) (s2 : Fit n) :
    Calls Tryz.prog 78 #[v1, v2] w (RetW w (m * n)) := by
  obtain ⟨a1, p1, rfl, g1⟩ := h1.form
  obtain ⟨a2, p2, rfl, g2⟩ := h2.form
  have h := mul_core (decide (m < 0)) (decide (n < 0)) g1 g2 (limbs_ok _) (limbs_ok _) s1 s2
  rw [val_limbs, val_limbs, sg_mul] at h
  exact h

end Go.Proofs.YtpmlmibceiolpaaGreatDoor
