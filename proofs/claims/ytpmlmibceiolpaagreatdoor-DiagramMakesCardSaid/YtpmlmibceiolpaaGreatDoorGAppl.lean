/- The diagrams of two combined. -/
import Derived.Test.YtpmlmibceiolpaaGreatDoorGSums
set_option linter.unusedSimpArgs false
set_option linter.unusedVariables false
namespace Go.Proofs.YtpmlmibceiolpaaGreatDoor
open Go.RowKit

def opsV : Array Value := #[.nilFunc, .func (.func 46) #[] #[], .func (.func 67) #[] #[], .func (.func 68) #[] #[], .func (.func 69) #[] #[], .func (.func 70) #[] #[]]
set_option maxHeartbeats 2000000 in
set_option maxRecDepth 100000 in
theorem ops_any {W : World} : Calls Tryz.prog 40 #[] W (RetV W (.agg #[.nilFunc, .func (.func 46) #[] #[], .func (.func 67) #[] #[], .func (.func 68) #[] #[], .func (.func 69) #[] #[], .func (.func 70) #[] #[]])) := by
  obtain ⟨W3, hW3⟩ : ∃ V, V = W.alloc (.cells opsV 80) := ⟨_, rfl⟩
  have hB3 : Below W.heap.size W W3 := by rw [hW3]; exact (Below.refl _ _).alloc (Nat.le_refl _) _
  have d0 : ∀ i, i < 6 → W3.cell? ⟨W.heap.size, i, none⟩ = some (opsV.getD i .nilFunc) := by
    intro i hi
    rw [hW3]
    have hb : Blk (W.alloc (.cells opsV 80)) W.heap.size 80 opsV := Blk.new _ _ _
    rw [hb.cell i]
    rcases i with _ | _ | _ | _ | _ | _ | i
    all_goals (first | rfl | omega)
  have D := Lib.hid d0
  have HB := Lib.hid hB3
  have HW := Lib.hid hW3
  clear d0 hB3 hW3
  go_enter Tryz.func40, Tryz.ntmps40
  go_upto_region 1 with fail
  go_wp2
  have e : W3 = _ := HW.out
  unfold opsV at e
  rw [← e]
  have e0 := D.out 0 (by omega)
  have e1 := D.out 1 (by omega)
  have e2 := D.out 2 (by omega)
  have e3 := D.out 3 (by omega)
  have e4 := D.out 4 (by omega)
  have e5 := D.out 5 (by omega)
  simp only [opsV] at e0 e1 e2 e3 e4 e5
  exact bodyPost_ret (v := .agg opsV) (by simp [results, Tryz.results40, go_sem, e0, e1, e2, e3, e4, e5, opsV]) rfl ⟨rfl, HB.out⟩

/-- The operation with a number. -/
theorem op_of {op : Int} (h1 : 1 ≤ op) (h5 : op ≤ 5) : (op = 1 ∧ OpC 46 (opR op)) ∨ (op = 2 ∧ OpC 67 (opR op)) ∨ (op = 3 ∧ OpC 68 (opR op)) ∨ (op = 4 ∧ OpC 69 (opR op)) ∨ (op = 5 ∧ OpC 70 (opR op)) := by
  have h : op = 1 ∨ op = 2 ∨ op = 3 ∨ op = 4 ∨ op = 5 := by omega
  rcases h with rfl | rfl | rfl | rfl | rfl
  · exact .inl ⟨rfl, fun V v0 v1 x y a b c d => num_add a b c d, enters_of Tryz.func46 (by kernel_rfl) rfl⟩
  · exact .inr (.inl ⟨rfl, fun V v0 v1 x y a b c d => num_sub a b c d, enters_of Tryz.func67 (by kernel_rfl) rfl⟩)
  · exact .inr (.inr (.inl ⟨rfl, fun V v0 v1 x y a b c d => num_mul a b c d, enters_of Tryz.func68 (by kernel_rfl) rfl⟩))
  · exact .inr (.inr (.inr (.inl ⟨rfl, fun V v0 v1 x y a b c d => greater_any a b c d, enters_of Tryz.func69 (by kernel_rfl) rfl⟩)))
  · exact .inr (.inr (.inr (.inr ⟨rfl, fun V v0 v1 x y a b c d => lesser_any a b c d, enters_of Tryz.func70 (by kernel_rfl) rfl⟩)))
theorem ixo1 (X : World) : (Instr.index 80 (.agg #[.nilFunc, .func (.func 46) #[] #[], .func (.func 67) #[] #[], .func (.func 68) #[] #[], .func (.func 69) #[] #[], .func (.func 70) #[] #[]]) (.int .i64 1)).run Tryz.prog X = .ok (.agg #[.func (.func 46) #[] #[]]) X := by kernel_rfl
theorem ixo2 (X : World) : (Instr.index 80 (.agg #[.nilFunc, .func (.func 46) #[] #[], .func (.func 67) #[] #[], .func (.func 68) #[] #[], .func (.func 69) #[] #[], .func (.func 70) #[] #[]]) (.int .i64 2)).run Tryz.prog X = .ok (.agg #[.func (.func 67) #[] #[]]) X := by kernel_rfl
theorem ixo3 (X : World) : (Instr.index 80 (.agg #[.nilFunc, .func (.func 46) #[] #[], .func (.func 67) #[] #[], .func (.func 68) #[] #[], .func (.func 69) #[] #[], .func (.func 70) #[] #[]]) (.int .i64 3)).run Tryz.prog X = .ok (.agg #[.func (.func 68) #[] #[]]) X := by kernel_rfl
theorem ixo4 (X : World) : (Instr.index 80 (.agg #[.nilFunc, .func (.func 46) #[] #[], .func (.func 67) #[] #[], .func (.func 68) #[] #[], .func (.func 69) #[] #[], .func (.func 70) #[] #[]]) (.int .i64 4)).run Tryz.prog X = .ok (.agg #[.func (.func 69) #[] #[]]) X := by kernel_rfl
theorem ixo5 (X : World) : (Instr.index 80 (.agg #[.nilFunc, .func (.func 46) #[] #[], .func (.func 67) #[] #[], .func (.func 68) #[] #[], .func (.func 69) #[] #[], .func (.func 70) #[] #[]]) (.int .i64 5)).run Tryz.prog X = .ok (.agg #[.func (.func 70) #[] #[]]) X := by kernel_rfl
theorem fdo (f : Nat) (X : World) : (Instr.field 79 (.agg #[.func (.func f) #[] #[]]) 0).run Tryz.prog X = .ok (.func (.func f) #[] #[]) X := by kernel_rfl
end Go.Proofs.YtpmlmibceiolpaaGreatDoor

/- Apply. -/
set_option linter.unusedSimpArgs false
set_option linter.unusedVariables false
namespace Go.Proofs.YtpmlmibceiolpaaGreatDoor
open Go.RowKit

/-- Are the arguments of Apply right? -/
def apB (op k1 k2 : Int) : Bool := decide (1 ≤ op ∧ op ≤ 5 ∧ k1 = k2)

set_option maxHeartbeats 8000000 in
set_option maxRecDepth 100000 in
theorem apply_any {W : World} {d d' : Value} {op m m' : Int} {l l' : List Nd} (h : DgIn W d m l) (h' : DgIn W d' m' l') (hg : Good W) :
    Calls Tryz.prog 18 #[.int .i64 op, d, d'] W (RetDg W (applyR op m l m' l')) := by
  obtain ⟨a, c, rfl, hs⟩ := h.dg.parts
  obtain ⟨a', c', rfl, hs'⟩ := h'.dg.parts
  obtain ⟨W3, hW3, hB3, hs3, i1, i2⟩ := entB W 31 31 #[.int .i64 m, .slice a l.length c] #[.int .i64 m', .slice a' l'.length c']
  obtain ⟨W4, hW4, hB4, hs4, i4⟩ := entA W3 31 #[.int .i64 0, .slice none 0 0]
  have hsz : W3.heap.size = W.heap.size + 1 + 1 := by omega
  rw [hsz] at i4 hs4
  have j1 := i1.next hB4
  have j2 : Blk W4 (W.heap.size + 1) 31 #[.int .i64 m', .slice a' l'.length c'] := i2.next hB4
  have kk0 := hB3.trans (hB4.mono hB3.size)
  have HV := Lib.hid (valid_any (h.dg.below kk0) h.few h.short (hg.below kk0))
  have HV2 := Lib.hid (fun (V : World) (hV : Below W.heap.size W V) => valid_any (h'.dg.below hV) h'.few h'.short (hg.below hV))
  have HD := Lib.hid (fun (V : World) (hV : Below W.heap.size W V) => hs.below hV)
  have HD2 := Lib.hid (fun (V : World) (hV : Below W.heap.size W V) => hs'.below hV)
  have HGD := Lib.hid (fun (V : World) (hV : Below W.heap.size W V) => hg.below hV)
  have HFW := Lib.hid (And.intro h.few h'.few)
  have HSH := Lib.hid (And.intro h.short h'.short)
  obtain ⟨RES, hRES⟩ : ∃ R, R = applyR op m l m' l' := ⟨_, rfl⟩
  rw [← hRES]
  have HR := Lib.hid (show RES = if vldN m l && vldN m' l' then (if 1 ≤ op ∧ op ≤ 5 ∧ m = m' then cmbR (fun y => opR op (valD m.toNat l y) (valD m'.toNat l' y)) m.toNat else (0, [], 2)) else (0, [], 260) from hRES)
  have HVP := Lib.hid (fun (h : vldN m l = true) => vldN_parts h)
  have HVP2 := Lib.hid (fun (h : vldN m' l' = true) => vldN_parts h)
  have HW4 := Lib.hid (show W4 = ((W.alloc (.cells #[.int .i64 m, .slice a l.length c] 31)).alloc (.cells #[.int .i64 m', .slice a' l'.length c'] 31)).alloc (.cells #[.int .i64 0, .slice none 0 0] 31) from by rw [hW4, hW3])
  have J1 := Lib.hid j1
  have J2 := Lib.hid j2
  have J4 := Lib.hid i4
  have K0 := Lib.hid kk0
  have d0 : W4.cell? ⟨W.heap.size, 0, none⟩ = some (.int .i64 m) := j1.cell 0
  have d1 : W4.cell? ⟨W.heap.size, 1, none⟩ = some (.slice a l.length c) := j1.cell 1
  obtain ⟨n, hn⟩ : ∃ n, n = l.length := ⟨_, rfl⟩
  rw [← hn] at HV HW4 d1 J1 HD
  obtain ⟨n', hn'⟩ : ∃ n, n = l'.length := ⟨_, rfl⟩
  rw [← hn'] at HV2 HW4 J2 HD2
  rw [← hn, ← hn']
  have HN := Lib.hid (And.intro hn hn')
  clear hW3 hB3 hs3 i1 i2 hW4 hB4 hs4 i4 hsz j1 j2 kk0 hs hs' h h' hg hRES hn hn'
  generalize hVB : vldN m l = VB at HV
  generalize hVB2 : vldN m' l' = VB2 at HV2
  have HVB := Lib.hid hVB
  have HVB2 := Lib.hid hVB2
  clear hVB hVB2
  go_enter Tryz.func18, Tryz.ntmps18
  go_upto_region 1 with fail
  rw [← HW4.out]
  clear HW4
  obtain ⟨gr, hgrE⟩ : ∃ g, g = W.heap.size + 1 + 1 := ⟨_, rfl⟩
  have HGR := Lib.hid (show W.heap.size ≤ gr from by omega)
  rw [← hgrE] at J4
  rw [← hgrE]
  clear hgrE
  go_cut [16] from 999 to 999 (fun c wx => c = .bool (!(VB && VB2)) ∧ Below W.heap.size W wx ∧ Below W4.heap.size W4 wx)
  case first =>
    go_wp2_with fail
    refine (HV.out).mono ?_
    rintro e w2 ⟨rfl, hb⟩
    have HB := Lib.hid hb
    have kk := K0.out.trans (hb.mono K0.out.size)
    have KX := Lib.hid kk
    have j2 := J2.out.next hb
    clear hb HV d0 d1
    have e0 : w2.cell? ⟨W.heap.size + 1, 0, none⟩ = some (.int .i64 m') := j2.cell 0
    have e1 : w2.cell? ⟨W.heap.size + 1, 1, none⟩ = some (.slice a' n' c') := j2.cell 1
    clear j2 kk
    cases VB with
    | false =>
      clear e0 e1
      go_wp2
      go_meet
      case rel => exact ⟨rfl, KX.out, HB.out⟩
    | true =>
      have HC := Lib.hid (HV2.out w2 KX.out)
      go_wp2_with fail
      refine (HC.out).mono ?_
      rintro e w3 ⟨rfl, hb⟩
      have HB3 := Lib.hid (HB.out.trans (hb.mono HB.out.size))
      have KX3 := Lib.hid (KX.out.trans (hb.mono KX.out.size))
      clear hb e0 e1
      cases VB2 with
      | false =>
        go_wp2
        go_meet
        case rel => exact ⟨rfl, KX3.out, HB3.out⟩
      | true =>
        go_wp2
        go_meet
        case rel => exact ⟨rfl, KX3.out, HB3.out⟩
  case rest =>
    obtain ⟨rfl, kk, hb⟩ := hcut
    obtain ⟨w2, hw2⟩ : ∃ w, w = wc := ⟨wc, rfl⟩
    subst hw2
    have j1 := J1.out.next hb
    have j2 := J2.out.next hb
    have j4 := J4.out.next hb
    clear hb HV HV2 d0 d1 J1 J2 J4 K0
    have HBB := Lib.hid (show (VB && VB2) = (vldN m l && vldN m' l') from by rw [HVB.out, HVB2.out])
    generalize (VB && VB2) = BB at *
    cases BB with
    | false =>
      have hr := Lib.hid (show RES = (0, [], 260) from by rw [HR.out, ← HBB.out]; rfl)
      clear j1 j2
      have hj5 := j4.two (.int .i64 0) (.slice none 0 0)
      have D0 := Lib.hid (hj5.cell 0)
      have D1 := Lib.hid (hj5.cell 1)
      have KK := Lib.hid ((kk.setCell (p := ⟨gr, 0, none⟩) HGR.out (.int .i64 0)).setCell (p := ⟨gr, 1, none⟩) HGR.out (.slice none 0 0))
      obtain ⟨x0, x1⟩ : _ ∧ _ := ⟨j4.cell0, j4.cell1⟩
      have f0 := j4.frozen 0
      have f1 := j4.frozen 1
      clear hj5 kk j4
      go_wp2
      have d0 := D0.out
      have d1 := D1.out
      rw [hr.out]
      exact bodyPost_ret (v := .tuple #[.agg #[.int .i64 0, .slice none 0 0], .int .i64 260]) (by simp [results, Tryz.results18, go_sem, d0, d1]) rfl ⟨none, 0, rfl, Nds.nil _, KK.out⟩
    | true =>
      obtain ⟨q1, q2⟩ : vldN m l = true ∧ vldN m' l' = true := by have := HBB.out; simpa using this.symm
      have HVB := Lib.hid q1
      have HVB2 := Lib.hid q2
      obtain ⟨k, rfl, hk6, -, -, -, -, -⟩ := HVP.out q1
      obtain ⟨k', rfl, hk6', -, -, -, -, -⟩ := HVP2.out q2
      have hr1 := Lib.hid (show RES = if 1 ≤ op ∧ op ≤ 5 ∧ (k : Int) = (k' : Int) then cmbR (fun y => opR op (valD k l y) (valD k' l' y)) k else (0, [], 2) from by rw [HR.out, q1, q2, Bool.and_true, if_pos rfl]; rfl)
      have e0 : w2.cell? ⟨W.heap.size, 0, none⟩ = some (.int .i64 (k : Int)) := j1.cell 0
      have e1 : w2.cell? ⟨W.heap.size + 1, 0, none⟩ = some (.int .i64 (k' : Int)) := j2.cell 0
      have J1 := Lib.hid j1
      have J2 := Lib.hid j2
      have J4 := Lib.hid j4
      have KX := Lib.hid kk
      clear HR HVP HVP2 j1 j2 j4 kk HBB q1 q2
      go_upto_region 3 with fail
      go_cut [30] from 999 to 999 (fun c wx => c = .bool (!apB op (k : Int) (k' : Int)) ∧ w2 = wx)
      case first =>
        by_cases h1 : op < 1
        · have HB := Lib.hid (show apB op (k : Int) (k' : Int) = false from by unfold apB; exact decide_eq_false (by omega))
          go_wp2
          go_meet
          case rel => exact ⟨by rw [HB.out]; rfl, rfl⟩
        · by_cases h2 : 5 < op
          · have HB := Lib.hid (show apB op (k : Int) (k' : Int) = false from by unfold apB; exact decide_eq_false (by omega))
            go_wp2
            go_meet
            case rel => exact ⟨by rw [HB.out]; rfl, rfl⟩
          · by_cases h3 : (k : Int) = (k' : Int)
            · have HB := Lib.hid (show apB op (k : Int) (k' : Int) = true from by unfold apB; exact decide_eq_true ⟨by omega, by omega, h3⟩)
              obtain rfl : k = k' := by omega
              go_wp2
              go_meet
              case rel => exact ⟨by rw [HB.out]; rfl, rfl⟩
            · have HB := Lib.hid (show apB op (k : Int) (k' : Int) = false from by unfold apB; exact decide_eq_false (by omega))
              go_wp2
              go_meet
              case rel => exact ⟨by rw [HB.out, show ((k : Int) != (k' : Int)) = true from by simpa using h3]; rfl, rfl⟩
      case rest =>
        obtain ⟨rfl, rfl⟩ := hcut
        have HFX := Lib.hid (show apB op (k : Int) (k' : Int) = decide (1 ≤ op ∧ op ≤ 5 ∧ (k : Int) = (k' : Int)) from rfl)
        generalize apB op (k : Int) (k' : Int) = FB at *
        cases FB with
        | false =>
          have hr := Lib.hid (show RES = (0, [], 2) from by rw [hr1.out, if_neg (of_decide_eq_false HFX.out.symm)])
          have j4 := J4.out
          have kk := KX.out
          clear e0 e1
          have hj5 := j4.two (.int .i64 0) (.slice none 0 0)
          have D0 := Lib.hid (hj5.cell 0)
          have D1 := Lib.hid (hj5.cell 1)
          have KK := Lib.hid ((kk.setCell (p := ⟨gr, 0, none⟩) HGR.out (.int .i64 0)).setCell (p := ⟨gr, 1, none⟩) HGR.out (.slice none 0 0))
          obtain ⟨x0, x1⟩ : _ ∧ _ := ⟨j4.cell0, j4.cell1⟩
          have f0 := j4.frozen 0
          have f1 := j4.frozen 1
          clear hj5 kk j4
          go_wp2
          have d0 := D0.out
          have d1 := D1.out
          rw [hr.out]
          exact bodyPost_ret (v := .tuple #[.agg #[.int .i64 0, .slice none 0 0], .int .i64 2]) (by simp [results, Tryz.results18, go_sem, d0, d1]) rfl ⟨none, 0, rfl, Nds.nil _, KK.out⟩
        | true =>
          obtain ⟨s1, s2, s3⟩ := of_decide_eq_true HFX.out.symm
          obtain rfl : k = k' := by omega
          have HO := op_of s1 s2
          have hr := Lib.hid (show RES = cmbR (fun y => opR op (valD k l y) (valD k l' y)) k from by rw [hr1.out, if_pos ⟨s1, s2, s3⟩])
          have HMD := Lib.hid (show ∀ (U : World) (fid gf : Nat), OpC fid (opR op) → Below w2.heap.size w2 U → Blk U gf 77 #[.func (.func fid) #[] #[]] → Calls Tryz.prog 41 #[.int .i64 (k : Int), .func (.func 42) #[] #[.pointer (some ⟨gf, 0, none⟩), .pointer (some ⟨W.heap.size, 0, none⟩), .pointer (some ⟨W.heap.size + 1, 0, none⟩)]] U (RetDg U (cmbR (fun y => opR op (valD k l y) (valD k l' y)) k)) from by
            intro U fid gf O hU hgf
            have hWU := KX.out.trans (hU.mono KX.out.size)
            refine combined_any (enters_of Tryz.func42 (by kernel_rfl) rfl) hk6 (fun V' x hx hS hl => ?_) (fun x hx => fit_small (opR_fit op (valD_fit HVB.out _) (valD_fit HVB2.out _))) (HGD.out U hWU)
            have hd := HD.out U hWU
            rw [HN.out.1] at hd
            have hd2 := HD2.out U hWU
            rw [HN.out.2] at hd2
            have hb1 := J1.out.next hU
            have hb2 := J2.out.next hU
            have h1 := ((hl W.heap.size hb1.lt).trans hb1)
            rw [HN.out.1] at h1
            have h2 := ((hl (W.heap.size + 1) hb2.lt).trans hb2)
            rw [HN.out.2] at h2
            exact apply1c_any (V := V') O ((hl gf hgf.lt).trans hgf) h1 h2 (DgIn.like hd hl rfl HFW.out.1 HSH.out.1) (DgIn.like hd2 hl rfl HFW.out.2 HSH.out.2) HVB.out HVB2.out (Nat.lt_of_lt_of_le hx (Nat.le_trans (Nat.pow_le_pow_right (by omega) hk6) (by decide))) ((HGD.out U hWU).like hS hl))
          rw [← hr.out] at HMD
          clear s1 s2 s3 HFX hr1 hr e1
          obtain ⟨r1, r2, r3⟩ := RES
          go_upto_region 5 with fail
          rcases HO with ⟨rfl, O⟩ | ⟨rfl, O⟩ | ⟨rfl, O⟩ | ⟨rfl, O⟩ | ⟨rfl, O⟩
          · have HO := Lib.hid O
            clear O
            go_wp2_with fail
            refine ops_any.mono ?_
            rintro e w3 ⟨rfl, hb⟩
            obtain ⟨W5, hW5, hB5, hs5, j5⟩ := entA w3 77 #[.func (.func 46) #[] #[]]
            have hb5 := hb.trans (hB5.mono hb.size)
            have HBB := Lib.hid hb5
            have J5 := Lib.hid j5
            have j4 := J4.out.next hb5
            have J44 := Lib.hid j4
            have KX5 := Lib.hid (KX.out.trans (hb5.mono KX.out.size))
            have HW5 := Lib.hid hW5
            have HC := Lib.hid (HMD.out W5 _ _ HO.out hb5 j5)
            have y0 : W5.cell? ⟨W.heap.size, 0, none⟩ = some (.int .i64 (k : Int)) := (J1.out.next hb5).cell 0
            clear hb e0 hW5 hB5 hs5 j5 hb5 j4
            have fd := fdo
            have ix1 := ixo1
            have ix2 := ixo2
            have ix3 := ixo3
            have ix4 := ixo4
            have ix5 := ixo5
            go_upto_region 6 with fail
            rw [← HW5.out]
            clear HW5 ix1 ix2 ix3 ix4 ix5 fd
            generalize w3.heap.size = gf at *
            go_wp2_with fail
            refine (HC.out).mono ?_
            rintro e w4 ⟨a5, c5, rfl, m1, m4⟩
            have j2 := J44.out.next m4
            have hj5 := j2.two (.int .i64 r1) (.slice a5 r2.length c5)
            have D0 := Lib.hid (hj5.cell 0)
            have D1 := Lib.hid (hj5.cell 1)
            have hn5 := m1.away (w' := (w4.setCell ⟨gr, 0, none⟩ (.int .i64 r1)).setCell ⟨gr, 1, none⟩ (.slice a5 r2.length c5)) (fun j hj => by
              rw [Below.heap_setCell _ ⟨gr, 1, none⟩ _ j hj, Below.heap_setCell _ ⟨gr, 0, none⟩ _ j hj]) j2.cell1
            have N5 := Lib.hid hn5
            have KK := Lib.hid (((KX5.out.trans (m4.mono KX5.out.size)).setCell (p := ⟨gr, 0, none⟩) HGR.out (.int .i64 r1)).setCell (p := ⟨gr, 1, none⟩) HGR.out (.slice a5 r2.length c5))
            obtain ⟨x0, x1⟩ : _ ∧ _ := ⟨j2.cell0, j2.cell1⟩
            have f0 := j2.frozen 0
            have f1 := j2.frozen 1
            clear hj5 j2 m1 m4 hn5 HMD HC y0
            go_wp2
            have d0 := D0.out
            have d1 := D1.out
            exact bodyPost_ret (v := .tuple #[.agg #[.int .i64 r1, .slice a5 r2.length c5], .int .i64 r3]) (by simp [results, Tryz.results18, go_sem, d0, d1]) rfl ⟨a5, c5, rfl, N5.out, KK.out⟩
          · have HO := Lib.hid O
            clear O
            go_wp2_with fail
            refine ops_any.mono ?_
            rintro e w3 ⟨rfl, hb⟩
            obtain ⟨W5, hW5, hB5, hs5, j5⟩ := entA w3 77 #[.func (.func 67) #[] #[]]
            have hb5 := hb.trans (hB5.mono hb.size)
            have HBB := Lib.hid hb5
            have J5 := Lib.hid j5
            have j4 := J4.out.next hb5
            have J44 := Lib.hid j4
            have KX5 := Lib.hid (KX.out.trans (hb5.mono KX.out.size))
            have HW5 := Lib.hid hW5
            have HC := Lib.hid (HMD.out W5 _ _ HO.out hb5 j5)
            have y0 : W5.cell? ⟨W.heap.size, 0, none⟩ = some (.int .i64 (k : Int)) := (J1.out.next hb5).cell 0
            clear hb e0 hW5 hB5 hs5 j5 hb5 j4
            have fd := fdo
            have ix1 := ixo1
            have ix2 := ixo2
            have ix3 := ixo3
            have ix4 := ixo4
            have ix5 := ixo5
            go_upto_region 6 with fail
            rw [← HW5.out]
            clear HW5 ix1 ix2 ix3 ix4 ix5 fd
            generalize w3.heap.size = gf at *
            go_wp2_with fail
            refine (HC.out).mono ?_
            rintro e w4 ⟨a5, c5, rfl, m1, m4⟩
            have j2 := J44.out.next m4
            have hj5 := j2.two (.int .i64 r1) (.slice a5 r2.length c5)
            have D0 := Lib.hid (hj5.cell 0)
            have D1 := Lib.hid (hj5.cell 1)
            have hn5 := m1.away (w' := (w4.setCell ⟨gr, 0, none⟩ (.int .i64 r1)).setCell ⟨gr, 1, none⟩ (.slice a5 r2.length c5)) (fun j hj => by
              rw [Below.heap_setCell _ ⟨gr, 1, none⟩ _ j hj, Below.heap_setCell _ ⟨gr, 0, none⟩ _ j hj]) j2.cell1
            have N5 := Lib.hid hn5
            have KK := Lib.hid (((KX5.out.trans (m4.mono KX5.out.size)).setCell (p := ⟨gr, 0, none⟩) HGR.out (.int .i64 r1)).setCell (p := ⟨gr, 1, none⟩) HGR.out (.slice a5 r2.length c5))
            obtain ⟨x0, x1⟩ : _ ∧ _ := ⟨j2.cell0, j2.cell1⟩
            have f0 := j2.frozen 0
            have f1 := j2.frozen 1
            clear hj5 j2 m1 m4 hn5 HMD HC y0
            go_wp2
            have d0 := D0.out
            have d1 := D1.out
            exact bodyPost_ret (v := .tuple #[.agg #[.int .i64 r1, .slice a5 r2.length c5], .int .i64 r3]) (by simp [results, Tryz.results18, go_sem, d0, d1]) rfl ⟨a5, c5, rfl, N5.out, KK.out⟩
          · have HO := Lib.hid O
            clear O
            go_wp2_with fail
            refine ops_any.mono ?_
            rintro e w3 ⟨rfl, hb⟩
            obtain ⟨W5, hW5, hB5, hs5, j5⟩ := entA w3 77 #[.func (.func 68) #[] #[]]
            have hb5 := hb.trans (hB5.mono hb.size)
            have HBB := Lib.hid hb5
            have J5 := Lib.hid j5
            have j4 := J4.out.next hb5
            have J44 := Lib.hid j4
            have KX5 := Lib.hid (KX.out.trans (hb5.mono KX.out.size))
            have HW5 := Lib.hid hW5
            have HC := Lib.hid (HMD.out W5 _ _ HO.out hb5 j5)
            have y0 : W5.cell? ⟨W.heap.size, 0, none⟩ = some (.int .i64 (k : Int)) := (J1.out.next hb5).cell 0
            clear hb e0 hW5 hB5 hs5 j5 hb5 j4
            have fd := fdo
            have ix1 := ixo1
            have ix2 := ixo2
            have ix3 := ixo3
            have ix4 := ixo4
            have ix5 := ixo5
            go_upto_region 6 with fail
            rw [← HW5.out]
            clear HW5 ix1 ix2 ix3 ix4 ix5 fd
            generalize w3.heap.size = gf at *
            go_wp2_with fail
            refine (HC.out).mono ?_
            rintro e w4 ⟨a5, c5, rfl, m1, m4⟩
            have j2 := J44.out.next m4
            have hj5 := j2.two (.int .i64 r1) (.slice a5 r2.length c5)
            have D0 := Lib.hid (hj5.cell 0)
            have D1 := Lib.hid (hj5.cell 1)
            have hn5 := m1.away (w' := (w4.setCell ⟨gr, 0, none⟩ (.int .i64 r1)).setCell ⟨gr, 1, none⟩ (.slice a5 r2.length c5)) (fun j hj => by
              rw [Below.heap_setCell _ ⟨gr, 1, none⟩ _ j hj, Below.heap_setCell _ ⟨gr, 0, none⟩ _ j hj]) j2.cell1
            have N5 := Lib.hid hn5
            have KK := Lib.hid (((KX5.out.trans (m4.mono KX5.out.size)).setCell (p := ⟨gr, 0, none⟩) HGR.out (.int .i64 r1)).setCell (p := ⟨gr, 1, none⟩) HGR.out (.slice a5 r2.length c5))
            obtain ⟨x0, x1⟩ : _ ∧ _ := ⟨j2.cell0, j2.cell1⟩
            have f0 := j2.frozen 0
            have f1 := j2.frozen 1
            clear hj5 j2 m1 m4 hn5 HMD HC y0
            go_wp2
            have d0 := D0.out
            have d1 := D1.out
            exact bodyPost_ret (v := .tuple #[.agg #[.int .i64 r1, .slice a5 r2.length c5], .int .i64 r3]) (by simp [results, Tryz.results18, go_sem, d0, d1]) rfl ⟨a5, c5, rfl, N5.out, KK.out⟩
          · have HO := Lib.hid O
            clear O
            go_wp2_with fail
            refine ops_any.mono ?_
            rintro e w3 ⟨rfl, hb⟩
            obtain ⟨W5, hW5, hB5, hs5, j5⟩ := entA w3 77 #[.func (.func 69) #[] #[]]
            have hb5 := hb.trans (hB5.mono hb.size)
            have HBB := Lib.hid hb5
            have J5 := Lib.hid j5
            have j4 := J4.out.next hb5
            have J44 := Lib.hid j4
            have KX5 := Lib.hid (KX.out.trans (hb5.mono KX.out.size))
            have HW5 := Lib.hid hW5
            have HC := Lib.hid (HMD.out W5 _ _ HO.out hb5 j5)
            have y0 : W5.cell? ⟨W.heap.size, 0, none⟩ = some (.int .i64 (k : Int)) := (J1.out.next hb5).cell 0
            clear hb e0 hW5 hB5 hs5 j5 hb5 j4
            have fd := fdo
            have ix1 := ixo1
            have ix2 := ixo2
            have ix3 := ixo3
            have ix4 := ixo4
            have ix5 := ixo5
            go_upto_region 6 with fail
            rw [← HW5.out]
            clear HW5 ix1 ix2 ix3 ix4 ix5 fd
            generalize w3.heap.size = gf at *
            go_wp2_with fail
            refine (HC.out).mono ?_
            rintro e w4 ⟨a5, c5, rfl, m1, m4⟩
            have j2 := J44.out.next m4
            have hj5 := j2.two (.int .i64 r1) (.slice a5 r2.length c5)
            have D0 := Lib.hid (hj5.cell 0)
            have D1 := Lib.hid (hj5.cell 1)
            have hn5 := m1.away (w' := (w4.setCell ⟨gr, 0, none⟩ (.int .i64 r1)).setCell ⟨gr, 1, none⟩ (.slice a5 r2.length c5)) (fun j hj => by
              rw [Below.heap_setCell _ ⟨gr, 1, none⟩ _ j hj, Below.heap_setCell _ ⟨gr, 0, none⟩ _ j hj]) j2.cell1
            have N5 := Lib.hid hn5
            have KK := Lib.hid (((KX5.out.trans (m4.mono KX5.out.size)).setCell (p := ⟨gr, 0, none⟩) HGR.out (.int .i64 r1)).setCell (p := ⟨gr, 1, none⟩) HGR.out (.slice a5 r2.length c5))
            obtain ⟨x0, x1⟩ : _ ∧ _ := ⟨j2.cell0, j2.cell1⟩
            have f0 := j2.frozen 0
            have f1 := j2.frozen 1
            clear hj5 j2 m1 m4 hn5 HMD HC y0
            go_wp2
            have d0 := D0.out
            have d1 := D1.out
            exact bodyPost_ret (v := .tuple #[.agg #[.int .i64 r1, .slice a5 r2.length c5], .int .i64 r3]) (by simp [results, Tryz.results18, go_sem, d0, d1]) rfl ⟨a5, c5, rfl, N5.out, KK.out⟩
          · have HO := Lib.hid O
            clear O
            go_wp2_with fail
            refine ops_any.mono ?_
            rintro e w3 ⟨rfl, hb⟩
            obtain ⟨W5, hW5, hB5, hs5, j5⟩ := entA w3 77 #[.func (.func 70) #[] #[]]
            have hb5 := hb.trans (hB5.mono hb.size)
            have HBB := Lib.hid hb5
            have J5 := Lib.hid j5
            have j4 := J4.out.next hb5
            have J44 := Lib.hid j4
            have KX5 := Lib.hid (KX.out.trans (hb5.mono KX.out.size))
            have HW5 := Lib.hid hW5
            have HC := Lib.hid (HMD.out W5 _ _ HO.out hb5 j5)
            have y0 : W5.cell? ⟨W.heap.size, 0, none⟩ = some (.int .i64 (k : Int)) := (J1.out.next hb5).cell 0
            clear hb e0 hW5 hB5 hs5 j5 hb5 j4
            have fd := fdo
            have ix1 := ixo1
            have ix2 := ixo2
            have ix3 := ixo3
            have ix4 := ixo4
            have ix5 := ixo5
            go_upto_region 6 with fail
            rw [← HW5.out]
            clear HW5 ix1 ix2 ix3 ix4 ix5 fd
            generalize w3.heap.size = gf at *
            go_wp2_with fail
            refine (HC.out).mono ?_
            rintro e w4 ⟨a5, c5, rfl, m1, m4⟩
            have j2 := J44.out.next m4
            have hj5 := j2.two (.int .i64 r1) (.slice a5 r2.length c5)
            have D0 := Lib.hid (hj5.cell 0)
            have D1 := Lib.hid (hj5.cell 1)
            have hn5 := m1.away (w' := (w4.setCell ⟨gr, 0, none⟩ (.int .i64 r1)).setCell ⟨gr, 1, none⟩ (.slice a5 r2.length c5)) (fun j hj => by
              rw [Below.heap_setCell _ ⟨gr, 1, none⟩ _ j hj, Below.heap_setCell _ ⟨gr, 0, none⟩ _ j hj]) j2.cell1
            have N5 := Lib.hid hn5
            have KK := Lib.hid (((KX5.out.trans (m4.mono KX5.out.size)).setCell (p := ⟨gr, 0, none⟩) HGR.out (.int .i64 r1)).setCell (p := ⟨gr, 1, none⟩) HGR.out (.slice a5 r2.length c5))
            obtain ⟨x0, x1⟩ : _ ∧ _ := ⟨j2.cell0, j2.cell1⟩
            have f0 := j2.frozen 0
            have f1 := j2.frozen 1
            clear hj5 j2 m1 m4 hn5 HMD HC y0
            go_wp2
            have d0 := D0.out
            have d1 := D1.out
            exact bodyPost_ret (v := .tuple #[.agg #[.int .i64 r1, .slice a5 r2.length c5], .int .i64 r3]) (by simp [results, Tryz.results18, go_sem, d0, d1]) rfl ⟨a5, c5, rfl, N5.out, KK.out⟩
end Go.Proofs.YtpmlmibceiolpaaGreatDoor
