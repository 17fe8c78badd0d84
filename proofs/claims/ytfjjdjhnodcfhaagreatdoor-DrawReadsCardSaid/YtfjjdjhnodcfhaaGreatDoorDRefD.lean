/- The reference's walks of croupierref10: value, decides, Draw, Bits. -/
import Derived.Test.YtfjjdjhnodcfhaaGreatDoorDRefW
set_option linter.unusedSimpArgs false
set_option linter.unusedVariables false
namespace Go.Proofs.YtfjjdjhnodcfhaaGreatDoor
open Go.RowKit
open Go.Lib (decDigits itoa nDigits)
open D4 (rt it Mid)

theorem byte_at {l : List UInt8} {j : Nat} (hj : j < l.length) (h : j < (⟨l.toArray⟩ : ByteArray).size) : ((((⟨l.toArray⟩ : ByteArray)[j]'h).toNat : Int) == 49) = bitAt l j := by
  have e : ((⟨l.toArray⟩ : ByteArray)[j]'h) = l[j] := D4.ba_at h hj
  rw [e]
  unfold bitAt
  rw [List.getD_eq_getElem?_getD, List.getElem?_eq_getElem hj]
  show _ = (l[j] == 49)
  rw [Bool.eq_iff_iff, beq_iff_eq, beq_iff_eq]
  constructor
  · intro h; exact UInt8.toNat_inj.1 (by show _ = 49; omega)
  · intro h; rw [h]; rfl

set_option maxHeartbeats 4000000 in
set_option maxRecDepth 100000 in
theorem rvalue_any {w : World} (l : List UInt8) (hl : l.length ≤ 40) (hg : Good w) :
    Calls Tryz.prog 95 #[.string ⟨l.toArray⟩] w (RetV w (.string (rt (vf (bitAt l) l.length)))) := by
  obtain ⟨n, hn⟩ : ∃ n, n = l.length := ⟨_, rfl⟩
  have hsz : (⟨l.toArray⟩ : ByteArray).size = n := by rw [ba_size, hn]
  have HBY := Lib.hid (fun (j : Nat) (hj : j < n) (h : j < (⟨l.toArray⟩ : ByteArray).size) => byte_at (l := l) (j := j) (by omega) h)
  obtain ⟨BT, hBT⟩ : ∃ f : Nat → Bool, f = bitAt l := ⟨_, rfl⟩
  rw [← hBT] at HBY
  rw [← hBT, ← hn]
  obtain ⟨VF, hVF⟩ : ∃ f : Nat → ByteArray, f = fun k => rt (vf BT k) := ⟨_, rfl⟩
  have HPW := Lib.hid (fun (j : Nat) (hj : j < n) (V : World) (hV : Good V) => rpower_rt (w := V) (j + 1) (by omega) hV)
  have HAD := Lib.hid (fun (j : Nat) (hj : j < n) (hb : BT j = true) (V : World) (hV : Good V) => show Calls Tryz.prog 56 #[.string (VF j), .string (rt (pw (j + 1)))] V (RetV V (.string (VF (j + 1)))) from by
    rw [hVF]
    show Calls Tryz.prog 56 #[.string (rt (vf BT j)), .string (rt (pw (j + 1)))] V (RetV V (.string (rt (vf BT j + (if BT j then pw (j + 1) else 0)))))
    rw [hb, if_pos rfl]
    exact D4.add_rt (fits_up (vf_fit BT (k := j) (by omega)) (by omega)) (fits_up (pw_fit (k := j + 1) (by omega)) (by omega)) hV)
  have HNO := Lib.hid (fun (j : Nat) (hb : BT j = false) => show VF (j + 1) = VF j from by
    rw [hVF]
    show rt (vf BT j + (if BT j then pw (j + 1) else 0)) = rt (vf BT j)
    rw [hb]; congr 1; show vf BT j + 0 = vf BT j; exact Rat.add_zero _)
  have E0 : Hid ((⟨#[48]⟩ : ByteArray) = VF 0) := Lib.hid (by rw [hVF]; show _ = rt 0; decide +kernel)
  have er : rt (vf BT n) = VF n := by rw [hVF]
  rw [er]
  have HG := Lib.hid (fun (V : World) (hV : Below w.heap.size w V) => hg.below hV)
  rw [hn] at hsz
  have hsz2 : (⟨l.toArray⟩ : ByteArray).size = n := by rw [hsz, hn]
  rw [← hn] at hl
  clear er hVF hBT hg hsz hn
  obtain ⟨PW, hPW⟩ : ∃ f : Nat → ByteArray, f = fun k => rt (pw k) := ⟨_, rfl⟩
  have a1 : ∀ k, rt (pw k) = PW k := fun k => by rw [hPW]
  simp only [a1] at HPW HAD
  clear a1 hPW
  generalize (⟨l.toArray⟩ : ByteArray) = S at *
  have HB0 := Lib.hid (Below.refl w.heap.size w)
  go_enter Tryz.func95, Tryz.ntmps95
  go_wp2_with fail
  rw [E0.out]
  go_loopw [3, 4] (fun u3 u4 wr => ∃ i : Nat, i ≤ n ∧ u3 = .string (VF i) ∧ u4 = .int .i64 (i : Int) ∧ Hid (Below w.heap.size w wr)) (fun _ u4 _ => n - (intOf u4).toNat)
  case atStart => exact ⟨0, by omega, rfl, rfl, HB0⟩
  case round =>
    obtain ⟨i, hi, rfl, rfl, hB⟩ := hrel
    by_cases hlt : i < n
    · have l1 : (i : Int) < (n : Int) := by omega
      have l2 : i < S.size := by omega
      have hby := HBY.out i hlt l2
      cases hb : BT i with
      | false =>
        rw [hb] at hby
        have HN := Lib.hid (HNO.out i hb)
        clear hb
        go_wp2
        go_roundw
        case rel => exact ⟨i + 1, by omega, by rw [HN.out], by go_num, hB⟩
        case measure => simp [intOf]; omega
      | true =>
        rw [hb] at hby
        have HA := Lib.hid (HAD.out i hlt hb)
        have HP := Lib.hid (HPW.out i hlt)
        clear hb
        have e1 : (((i + 1 : Nat)) : Int) = (i : Int) + 1 := by omega
        rw [e1] at HP
        clear e1
        go_upto_region 6 with fail
        go_wp2_with fail
        refine (HP.out _ (HG.out _ hB.out)).mono ?_
        rintro e V ⟨rfl, kk⟩
        have K1 := Lib.hid (next_below hB.out kk)
        clear kk
        go_wp2_with fail
        refine (HA.out _ (HG.out _ K1.out)).mono ?_
        rintro e V ⟨rfl, kk⟩
        have K2 := Lib.hid (next_below K1.out kk)
        clear kk
        go_wp2
        go_roundw
        case rel => exact ⟨i + 1, by omega, rfl, by go_num, K2⟩
        case measure => simp [intOf]; omega
    · obtain rfl : i = n := by omega
      go_wp2
      go_ret
      exact ⟨rfl, hB.out⟩

set_option maxHeartbeats 4000000 in
set_option maxRecDepth 100000 in
theorem rdecides_any {w : World} {v : Value} (ts : List (List UInt8)) (l : List UInt8) (hok : okW ts = true) (hl : l.length ≤ 40) (hv : Qs w v ts) (hg : Good w) :
    Calls Tryz.prog 51 #[v, .string ⟨l.toArray⟩] w (RetV w (.int .i64 (optI (decR (ts.map rval) (bitAt l) l.length)))) := by
  obtain ⟨k1, k2, k3, k4⟩ := okW_parts hok
  have hvs := hv
  obtain ⟨ao, cap, rfl, -, -, -, -⟩ := hv
  have hll : (ts.map rval).length = ts.length := by simp
  rw [hll] at k3
  have hall : ts.all wOk = true := by
    unfold okW at hok
    simp only [Bool.and_eq_true, decide_eq_true_eq] at hok
    exact hok.1.2
  have hwk : ∀ i, i < ts.length → wOk (ts.getD i []) = true := fun i hi => by
    rw [List.getD_eq_getElem?_getD, List.getElem?_eq_getElem hi]
    exact List.all_eq_true.1 hall _ (List.getElem_mem hi)
  have hgd : ∀ i, i < ts.length → (ts.map rval).getD i 0 = rval (ts.getD i []) := fun i hi => by
    rw [List.getD_eq_getElem?_getD, List.getD_eq_getElem?_getD, List.getElem?_map, List.getElem?_eq_getElem hi]; rfl
  obtain ⟨f, hf⟩ : ∃ f, f = vf (bitAt l) l.length := ⟨_, rfl⟩
  obtain ⟨t, ht⟩ : ∃ t, t = vf (bitAt l) l.length + pw l.length := ⟨_, rfl⟩
  have ff : fitsD 70 f := by rw [hf]; exact vf_fit _ (by omega)
  have fp : fitsD 70 (pw l.length) := pw_fit (by omega)
  have ft : fitsD 141 t := by rw [ht, ← hf]; exact fits_add ff fp
  obtain ⟨PW, hPW⟩ : ∃ f : Nat → ByteArray, f = fun i => rt (cum (ts.map rval) i) := ⟨_, rfl⟩
  obtain ⟨TX, hTX⟩ : ∃ f : Nat → ByteArray, f = fun i => ⟨(ts.getD i []).toArray⟩ := ⟨_, rfl⟩
  have HADD := Lib.hid (fun (i : Nat) (hi : i < ts.length) (V : World) (hV : Good V) => show Calls Tryz.prog 56 #[.string (PW i), .string (TX i)] V (RetV V (.string (PW (i + 1)))) from by
    rw [hPW, hTX]
    have e := wOk_text (hwk i hi)
    show Calls Tryz.prog 56 #[.string (rt (cum (ts.map rval) i)), .string ⟨(ts.getD i []).toArray⟩] V _
    rw [e, ← hgd i hi]
    exact D4.add_rt (fits_up (cum_fit k3 (i := i) (by omega)) (by omega)) (fits_up (k3.2 i hi).2 (by omega)) hV)
  have HCA := Lib.hid (fun (i : Nat) (hi : i < ts.length) (V : World) (hV : Good V) => show Calls Tryz.prog 96 #[.string (PW i), .string (rt f)] V (RetV V (.int .i64 (rcmp (cum (ts.map rval) i) f))) from by
    rw [hPW]; exact D4.cmp_rt (fits_up (cum_fit k3 (i := i) (by omega)) (by omega)) (fits_up ff (by omega)) hV)
  have HCB := Lib.hid (fun (i : Nat) (hi : i < ts.length) (V : World) (hV : Good V) => show Calls Tryz.prog 96 #[.string (rt t), .string (PW (i + 1))] V (RetV V (.int .i64 (rcmp t (cum (ts.map rval) (i + 1))))) from by
    rw [hPW]; exact D4.cmp_rt (fits_up ft (by omega)) (fits_up (cum_fit k3 (i := i + 1) (by omega)) (by omega)) hV)
  have HVA := Lib.hid (by have h := rvalue_any (w := w) l hl hg; rw [← hf] at h; exact h)
  have HPO := Lib.hid (fun (V : World) (hV : Good V) => rpower_rt (w := V) l.length (by omega) hV)
  have HTO := Lib.hid (fun (V : World) (hV : Good V) => show Calls Tryz.prog 56 #[.string (rt f), .string (rt (pw l.length))] V (RetV V (.string (rt t))) from by
    rw [ht, ← hf]; exact D4.add_rt (fits_up ff (by omega)) (fits_up fp (by omega)) hV)
  have HC := Lib.hid (fun (i : Nat) (hi : i < ts.length) (p : Addr) (hp : ao = some p) (V : World) (hV : Below w.heap.size w V) => show V.cell? (p.add i) = some (.string (TX i)) from by
    subst hp; rw [hTX]; exact qs_cell' (hvs.below hV) hi)
  have HS := Lib.hid (fun (i : Nat) (hi : i < ts.length) => qs_some' hvs hi)
  have HG := Lib.hid (fun (V : World) (hV : Below w.heap.size w V) => hg.below hV)
  have E0 : Hid ((⟨#[48]⟩ : ByteArray) = PW 0) := Lib.hid (by rw [hPW]; show _ = rt 0; decide +kernel)
  obtain ⟨IO, hIO⟩ : ∃ h : Nat → Bool, h = inOut (ts.map rval) f t := ⟨_, rfl⟩
  have HIO := Lib.hid (fun i => show IO i = (decide (rcmp (cum (ts.map rval) i) f ≤ 0) && decide (rcmp t (cum (ts.map rval) (i + 1)) ≤ 0)) from by
    rw [hIO]; unfold inOut
    congr 1
    · exact decide_eq_decide.2 rcmp_le.symm
    · exact decide_eq_decide.2 rcmp_le.symm)
  obtain ⟨RES, hRES⟩ : ∃ RES : Int, RES = optI (decR (ts.map rval) (bitAt l) l.length) := ⟨_, rfl⟩
  have hr2 : RES = optI (firstR IO ts.length 0) := by
    rw [hRES, hIO, hf, ht]; unfold decR; rw [hll]
  have HRES := Lib.hid hr2
  rw [← hRES]
  have hsz : (⟨l.toArray⟩ : ByteArray).size = l.length := by rw [ba_size]
  obtain ⟨z1, hz1⟩ : ∃ z : Nat → Int, z = fun i => rcmp (cum (ts.map rval) i) f := ⟨_, rfl⟩
  obtain ⟨z2, hz2⟩ : ∃ z : Nat → Int, z = fun i => rcmp t (cum (ts.map rval) (i + 1)) := ⟨_, rfl⟩
  have a1 : ∀ i, rcmp (cum (ts.map rval) i) f = z1 i := fun i => by rw [hz1]
  have a2 : ∀ i, rcmp t (cum (ts.map rval) (i + 1)) = z2 i := fun i => by rw [hz2]
  simp only [a1, a2] at HCA HCB HIO
  clear a1 a2 hz1 hz2 hr2 hRES hIO hPW hTX hgd hwk hall hvs hg hok hll k1 k3 k4 ff fp ft hf ht
  generalize rt f = RF at *
  generalize rt t = RT at *
  generalize rt (pw l.length) = RP at *
  generalize l.length = L at *
  generalize (⟨l.toArray⟩ : ByteArray) = S at *
  generalize ts.length = N at *
  have HB0 := Lib.hid (Below.refl w.heap.size w)
  go_enter Tryz.func51, Tryz.ntmps51
  go_wp2_with fail
  refine (HVA.out).mono ?_
  rintro e V ⟨rfl, kk⟩
  have K1 := Lib.hid (next_below HB0.out kk)
  clear kk
  go_wp2_with fail
  refine (HPO.out _ (HG.out _ K1.out)).mono ?_
  rintro e V ⟨rfl, kk⟩
  have K2 := Lib.hid (next_below K1.out kk)
  clear kk
  go_wp2_with fail
  refine (HTO.out _ (HG.out _ K2.out)).mono ?_
  rintro e V ⟨rfl, kk⟩
  have K3 := Lib.hid (next_below K2.out kk)
  clear kk
  go_wp2_with fail
  rw [E0.out]
  go_loopw [7, 8] (fun u7 u8 wr => ∃ i : Nat, i ≤ N ∧ u7 = .string (PW i) ∧ u8 = .int .i64 (i : Int) ∧ Hid (∀ j, j < i → IO j = false) ∧ Hid (Below w.heap.size w wr)) (fun _ u8 _ => N - (intOf u8).toNat)
  case atStart => exact ⟨0, by omega, rfl, rfl, Lib.hid (fun j hj => absurd hj (by omega)), K3⟩
  case round =>
    obtain ⟨i, hi, rfl, rfl, hA, hB⟩ := hrel
    by_cases hlt : i < N
    · obtain ⟨p, rfl⟩ := HS.out i hlt
      have hc := HC.out i hlt p rfl wr hB.out
      have l1 : (i : Int) < (N : Int) := by omega
      have H1 := Lib.hid (HADD.out i hlt)
      have H2 := Lib.hid (HCA.out i hlt)
      have H3 := Lib.hid (HCB.out i hlt)
      have HI := Lib.hid (HIO.out i)
      go_wp2_with fail
      refine (H1.out _ (HG.out _ hB.out)).mono ?_
      rintro e V ⟨rfl, kk⟩
      have C1 := Lib.hid (next_below hB.out kk)
      clear kk hc
      generalize z1 i = y1 at *
      generalize z2 i = y2 at *
      by_cases q1 : y1 ≤ 0
      · by_cases q2 : y2 ≤ 0
        · have HT := Lib.hid (show RES = i from by rw [HRES.out, firstR_at hlt (by rw [HI.out, decide_eq_true q1, decide_eq_true q2]; rfl) hA.out]; rfl)
          go_wp2_with fail
          refine (H2.out _ (HG.out _ C1.out)).mono ?_
          rintro e V ⟨rfl, kk⟩
          have C2 := Lib.hid (next_below C1.out kk)
          clear kk
          go_wp2_with fail
          refine (H3.out _ (HG.out _ C2.out)).mono ?_
          rintro e V ⟨rfl, kk⟩
          have C3 := Lib.hid (next_below C2.out kk)
          clear kk
          go_wp2
          go_ret
          exact ⟨by rw [HT.out]; rfl, C3.out⟩
        · have HT := Lib.hid (show IO i = false from by rw [HI.out, decide_eq_true q1, decide_eq_false q2]; rfl)
          go_wp2_with fail
          refine (H2.out _ (HG.out _ C1.out)).mono ?_
          rintro e V ⟨rfl, kk⟩
          have C2 := Lib.hid (next_below C1.out kk)
          clear kk
          go_wp2_with fail
          refine (H3.out _ (HG.out _ C2.out)).mono ?_
          rintro e V ⟨rfl, kk⟩
          have C3 := Lib.hid (next_below C2.out kk)
          clear kk
          go_wp2
          go_roundw
          case rel => exact ⟨i + 1, by omega, rfl, by go_num, Lib.hid (fun j hj => by
            by_cases h : j < i
            · exact hA.out j h
            · obtain rfl : j = i := by omega
              exact HT.out), C3⟩
          case measure => simp [intOf]; omega
      · have HT := Lib.hid (show IO i = false from by rw [HI.out, decide_eq_false q1]; rfl)
        go_wp2_with fail
        refine (H2.out _ (HG.out _ C1.out)).mono ?_
        rintro e V ⟨rfl, kk⟩
        have C2 := Lib.hid (next_below C1.out kk)
        clear kk
        go_wp2
        go_roundw
        case rel => exact ⟨i + 1, by omega, rfl, by go_num, Lib.hid (fun j hj => by
          by_cases h : j < i
          · exact hA.out j h
          · obtain rfl : j = i := by omega
            exact HT.out), C2⟩
        case measure => simp [intOf]; omega
    · obtain rfl : i = N := by omega
      have HT := Lib.hid (show RES = -1 from by rw [HRES.out, firstR_no hA.out]; rfl)
      go_wp2
      go_ret
      exact ⟨by rw [HT.out]; rfl, hB.out⟩

/-- What the reference's Draw hands back. -/
def drefV (o : Option (Nat × Nat)) : Value := match o with | some (i, m) => .tuple #[.int .i64 (i : Int), .int .i64 (m : Int), .bool true] | none => .tuple #[.int .i64 0, .int .i64 0, .bool false]

set_option maxHeartbeats 4000000 in
set_option maxRecDepth 100000 in
theorem rdraw_any {w : World} {v : Value} (ts : List (List UInt8)) (l : List UInt8) (hok : okW ts = true) (hl : l.length ≤ 40) (hv : Qs w v ts) (hg : Good w) :
    Calls Tryz.prog 22 #[v, .string ⟨l.toArray⟩] w (RetV w (drefV (drawR (ts.map rval) (bitAt l) l.length 0))) := by
  obtain ⟨DC, hDC⟩ : ∃ d : Nat → Option Nat, d = fun k => decR (ts.map rval) (bitAt l) k := ⟨_, rfl⟩
  have HDE := Lib.hid (fun (k : Nat) (hk : k ≤ l.length) (V : World) (hV : Below w.heap.size w V) => show Calls Tryz.prog 51 #[v, .string ((⟨l.toArray⟩ : ByteArray).extract 0 k)] V (RetV V (.int .i64 (optI (DC k)))) from by
    have h := rdecides_any (w := V) ts (l.take k) hok (by rw [List.length_take]; omega) (hv.below hV) (hg.below hV)
    have hk2 : (l.take k).length = k := by rw [List.length_take]; omega
    rw [hk2, decR_congr (s' := bitAt l) (fun j hj => by unfold bitAt; rw [List.getD_eq_getElem?_getD, List.getD_eq_getElem?_getD, List.getElem?_take, if_pos hj])] at h
    rw [hDC, extract_list]
    exact h)
  have HSOM := Lib.hid (fun (k i : Nat) (hk : k ≤ l.length) (h1 : DC k = some i) (h2 : ∀ j, j < k → DC j = none) => show drefV (drawR (ts.map rval) (bitAt l) l.length 0) = .tuple #[.int .i64 (i : Int), .int .i64 (k : Int), .bool true] from by
    rw [hDC] at h1 h2
    rw [drawR_is l.length 0 (by omega) (by omega) h1 (fun j _ hj => h2 j hj)]; rfl)
  have HNON := Lib.hid (fun (h2 : ∀ j, j < l.length + 1 → DC j = none) => show drefV (drawR (ts.map rval) (bitAt l) l.length 0) = .tuple #[.int .i64 0, .int .i64 0, .bool false] from by
    rw [hDC] at h2
    rw [drawR_no l.length 0 (fun j _ hj => h2 j (by omega))]; rfl)
  obtain ⟨ao, cap, rfl, -, -, -, -⟩ := hv
  have hsz : (⟨l.toArray⟩ : ByteArray).size = l.length := by rw [ba_size]
  generalize drefV (drawR (ts.map rval) (bitAt l) l.length 0) = RES at *
  clear hDC hok hg
  generalize l.length = L at *
  generalize (⟨l.toArray⟩ : ByteArray) = S at *
  generalize ts.length = N at *
  have HB0 := Lib.hid (Below.refl w.heap.size w)
  go_enter Tryz.func22, Tryz.ntmps22
  go_wp2_with fail
  go_loopw [7] (fun u7 wr => ∃ i : Nat, i ≤ L + 1 ∧ u7 = .int .i64 (i : Int) ∧ Hid (∀ j, j < i → DC j = none) ∧ Hid (Below w.heap.size w wr)) (fun u7 _ => L + 1 - (intOf u7).toNat)
  case atStart => exact ⟨0, by omega, rfl, Lib.hid (fun j hj => absurd hj (by omega)), HB0⟩
  case round =>
    obtain ⟨i, hi, rfl, hA, hB⟩ := hrel
    by_cases hlt : i ≤ L
    · have l1 : (i : Int) ≤ (L : Int) := by omega
      have H1 := Lib.hid (HDE.out i hlt wr hB.out)
      cases hd : DC i with
      | none =>
        rw [hd] at H1
        have HN := Lib.hid hd
        change Hid (Calls _ _ _ _ (RetV _ (.int .i64 (-1)))) at H1
        go_wp2_with fail
        refine H1.out.mono ?_
        rintro e V ⟨rfl, kk⟩
        have C1 := Lib.hid (next_below hB.out kk)
        clear kk hd
        go_wp2
        go_roundw
        case rel => exact ⟨i + 1, by omega, by go_num, Lib.hid (fun j hj => by
          by_cases h : j < i
          · exact hA.out j h
          · obtain rfl : j = i := by omega
            exact HN.out), C1⟩
        case measure => simp [intOf]; omega
      | some k =>
        rw [hd] at H1
        have HT := Lib.hid (HSOM.out i k hlt hd hA.out)
        change Hid (Calls _ _ _ _ (RetV _ (.int .i64 (k : Int)))) at H1
        clear hd
        go_wp2_with fail
        refine H1.out.mono ?_
        rintro e V ⟨rfl, kk⟩
        have C1 := Lib.hid (next_below hB.out kk)
        clear kk
        go_wp2
        refine bodyPost_ret (v := .tuple #[.int .i64 (k : Int), .int .i64 (i : Int), .bool true]) (by simp [results, Tryz.results22, go_sem]) rfl ⟨by rw [HT.out], C1.out⟩
    · obtain rfl : i = L + 1 := by omega
      have l2 : ¬ ((L : Int) + 1) ≤ (L : Int) := by omega
      have HT := Lib.hid (HNON.out hA.out)
      go_wp2
      refine bodyPost_ret (v := .tuple #[.int .i64 0, .int .i64 0, .bool false]) (by simp [results, Tryz.results22, go_sem]) rfl ⟨by rw [HT.out], hB.out⟩

theorem byte_eq {l : List UInt8} {j : Nat} (k : UInt8) (hj : j < l.length) (h : j < (⟨l.toArray⟩ : ByteArray).size) : ((((⟨l.toArray⟩ : ByteArray)[j]'h).toNat : Int) == (k.toNat : Int)) = (l.getD j 0 == k) := by
  have e : ((⟨l.toArray⟩ : ByteArray)[j]'h) = l[j] := D4.ba_at h hj
  rw [e, List.getD_eq_getElem?_getD, List.getElem?_eq_getElem hj]
  show _ = (l[j] == k)
  rw [Bool.eq_iff_iff, beq_iff_eq, beq_iff_eq]
  constructor
  · intro h; exact UInt8.toNat_inj.1 (by omega)
  · intro h; rw [h]

set_option maxHeartbeats 4000000 in
set_option maxRecDepth 100000 in
theorem rbits_any {w : World} (l : List UInt8) (hl : l.length ≤ 1000) :
    Calls Tryz.prog 21 #[.string ⟨l.toArray⟩] w (RetV w (.int .i64 (bitE l))) := by
  have hsz : (⟨l.toArray⟩ : ByteArray).size = l.length := by rw [ba_size]
  obtain ⟨P8, hP8⟩ : ∃ f : Nat → Bool, f = fun j => (l.getD j 0 == 48) := ⟨_, rfl⟩
  obtain ⟨P9, hP9⟩ : ∃ f : Nat → Bool, f = fun j => (l.getD j 0 == 49) := ⟨_, rfl⟩
  have H8 := Lib.hid (fun (j : Nat) (hj : j < l.length) (h : j < (⟨l.toArray⟩ : ByteArray).size) => show ((((⟨l.toArray⟩ : ByteArray)[j]'h).toNat : Int) == 48) = P8 j from by rw [hP8]; exact byte_eq 48 hj h)
  have H9 := Lib.hid (fun (j : Nat) (hj : j < l.length) (h : j < (⟨l.toArray⟩ : ByteArray).size) => show ((((⟨l.toArray⟩ : ByteArray)[j]'h).toNat : Int) == 49) = P9 j from by rw [hP9]; exact byte_eq 49 hj h)
  have HNO := Lib.hid (fun (j : Nat) (hj : j < l.length) (h1 : P8 j = false) (h2 : P9 j = false) => show bitE l = 5 from by
    rw [hP8] at h1; rw [hP9] at h2
    have : l.all isBit = false := by
      rw [List.all_eq_false]
      refine ⟨l[j], List.getElem_mem hj, ?_⟩
      have e : l.getD j 0 = l[j] := by rw [List.getD_eq_getElem?_getD, List.getElem?_eq_getElem hj]; rfl
      dsimp only at h1 h2
      rw [e] at h1 h2
      unfold isBit; rw [h1, h2]; decide
    unfold bitE; rw [this]; rfl)
  have HOK := Lib.hid (fun (h : ∀ j, j < l.length → P8 j = true ∨ P9 j = true) => show bitE l = if l.length ≤ 200 then 0 else 3 from by
    have : l.all isBit = true := by
      rw [List.all_eq_true]
      intro c hc
      obtain ⟨j, hj, rfl⟩ := List.getElem_of_mem hc
      have e : l.getD j 0 = l[j] := by rw [List.getD_eq_getElem?_getD, List.getElem?_eq_getElem hj]; rfl
      have h2 := h j hj
      rw [hP8, hP9] at h2
      dsimp only at h2
      rw [e] at h2
      unfold isBit
      rcases h2 with h2 | h2 <;> rw [h2] <;> simp
    unfold bitE; rw [if_pos this])
  generalize bitE l = RES at *
  clear hP8 hP9
  generalize l.length = n at *
  generalize (⟨l.toArray⟩ : ByteArray) = S at *
  have HB0 := Lib.hid (Below.refl w.heap.size w)
  go_enter Tryz.func21, Tryz.ntmps21
  go_wp2_with fail
  go_loopw [3] (fun u3 wr => ∃ i : Nat, i ≤ n ∧ u3 = .int .i64 (i : Int) ∧ Hid (∀ j, j < i → P8 j = true ∨ P9 j = true) ∧ wr = w) (fun u3 _ => n - (intOf u3).toNat)
  case atStart => exact ⟨0, by omega, rfl, Lib.hid (fun j hj => absurd hj (by omega)), rfl⟩
  case round =>
    obtain ⟨i, hi, rfl, hA, rfl⟩ := hrel
    by_cases hlt : i < n
    · have l1 : (i : Int) < (n : Int) := by omega
      have l2 : i < S.size := by omega
      have h8 := H8.out i hlt l2
      have h9 := H9.out i hlt l2
      cases e8 : P8 i with
      | true =>
        rw [e8] at h8
        have g8 : ((S[i].toNat : Int) != 48) = false := by rw [bne, h8]; rfl
        have HT := Lib.hid e8
        clear h9 e8
        go_wp2
        go_roundw
        case rel => exact ⟨i + 1, by omega, by go_num, Lib.hid (fun j hj => by
          by_cases h : j < i
          · exact hA.out j h
          · obtain rfl : j = i := by omega
            exact .inl HT.out), by trivial⟩
        case measure => simp [intOf]; omega
      | false =>
        rw [e8] at h8
        have g8 : ((S[i].toNat : Int) != 48) = true := by rw [bne, h8]; rfl
        cases e9 : P9 i with
        | true =>
          rw [e9] at h9
          have g9 : ((S[i].toNat : Int) != 49) = false := by rw [bne, h9]; rfl
          have HT := Lib.hid e9
          clear e8 e9
          go_wp2
          go_roundw
          case rel => exact ⟨i + 1, by omega, by go_num, Lib.hid (fun j hj => by
            by_cases h : j < i
            · exact hA.out j h
            · obtain rfl : j = i := by omega
              exact .inr HT.out), by trivial⟩
          case measure => simp [intOf]; omega
        | false =>
          rw [e9] at h9
          have g9 : ((S[i].toNat : Int) != 49) = true := by rw [bne, h9]; rfl
          have HF := Lib.hid (HNO.out i hlt e8 e9)
          clear e8 e9
          go_wp2
          go_ret
          exact ⟨by rw [HF.out]; rfl, HB0.out⟩
    · obtain rfl : i = n := by omega
      have HR := Lib.hid (HOK.out hA.out)
      by_cases h2 : i ≤ 200
      · have HR2 := Lib.hid (show RES = 0 from by rw [HR.out, if_pos h2])
        have l2 : ¬ (i : Int) > 200 := by omega
        go_wp2
        go_ret
        exact ⟨by rw [HR2.out]; rfl, HB0.out⟩
      · have HR2 := Lib.hid (show RES = 3 from by rw [HR.out, if_neg h2])
        have l2 : (i : Int) > 200 := by omega
        go_wp2
        go_ret
        exact ⟨by rw [HR2.out]; rfl, HB0.out⟩
end Go.Proofs.YtfjjdjhnodcfhaaGreatDoor
