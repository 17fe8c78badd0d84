/- The laws' few: at most seventeen texts of at most eight bytes. -/
import Derived.Test.YtfjjdjhnodcfhaaGreatDoorDRefW
import Derived.Test.YtfjjdjhnodcfhaaGreatDoorDWeig
set_option linter.unusedSimpArgs false
set_option linter.unusedVariables false
namespace Go.Proofs.YtfjjdjhnodcfhaaGreatDoor
open Go.RowKit
open Go.Lib (decDigits itoa nDigits)
open D4 (rt it Mid)

/-- What few keeps. -/
def fewT (ts : List (List UInt8)) : List (List UInt8) := (ts.take 17).map (·.take 8)
theorem fewT_len (ts : List (List UInt8)) : (fewT ts).length ≤ 17 := by simp [fewT]; omega
theorem fewT_short (ts : List (List UInt8)) : ∀ l ∈ fewT ts, l.length ≤ 8 := by
  intro l hl
  simp only [fewT, List.mem_map] at hl
  obtain ⟨a, -, rfl⟩ := hl
  rw [List.length_take]; omega
theorem ext_take (l : List UInt8) (k : Nat) : (⟨l.toArray⟩ : ByteArray).extract 0 (min l.length k) = ⟨(l.take k).toArray⟩ := by
  rw [extract_list]
  simp only [List.drop_zero]
  by_cases h : l.length ≤ k
  · rw [Nat.min_eq_left h, List.take_length, List.take_of_length_le h]
  · rw [Nat.min_eq_right (by omega)]

set_option maxHeartbeats 4000000 in
set_option maxRecDepth 100000 in
theorem few_any {w : World} {v : Value} (ts : List (List UInt8)) (hts : ∀ l ∈ ts, l.length ≤ maxLen) (hv : Qs w v ts) (hg : Good w) :
    Calls Tryz.prog 17 #[v] w (RetQs w (fewT ts)) := by
  have hvs := hv
  obtain ⟨ao, cap, rfl, hlc, hcm, hso, -⟩ := hv
  obtain ⟨i0, hi0, hz0, hz1, hz2⟩ := info_parts infoQ
  obtain ⟨m, hm⟩ : ∃ m, m = min ts.length 17 := ⟨_, rfl⟩
  have hmi : min (ts.length : Int) 17 = (m : Int) := by omega
  have hmn : (m : Int) ≤ (ts.length : Int) := by omega
  have hm17 : m ≤ 17 := by omega
  obtain ⟨TX, hTX⟩ : ∃ f : Nat → ByteArray, f = fun i => ⟨(ts.getD i []).toArray⟩ := ⟨_, rfl⟩
  obtain ⟨K, hK⟩ : ∃ f : Nat → Nat, f = fun i => min (ts.getD i []).length 8 := ⟨_, rfl⟩
  have hfl : (fewT ts).length = m := by simp [fewT]; omega
  have HC := Lib.hid (fun (i : Nat) (hi : i < m) (p : Addr) (hp : ao = some p) (V : World) (hV : Below w.heap.size w V) => show V.cell? (p.add i) = some (.string (TX i)) from by
    subst hp; rw [hTX]; exact qs_cell' (hvs.below hV) (by omega))
  have HS := Lib.hid (fun (i : Nat) (hi : i < m) => qs_some' hvs (i := i) (by omega))
  have HK := Lib.hid (fun (i : Nat) (hi : i < m) => show min ((TX i).size : Int) 8 = (K i : Int) ∧ (K i : Int) ≤ ((TX i).size : Int) ∧ K i ≤ 8 ∧ (TX i).size ≤ maxLen from by
    have h := hts (ts.getD i []) (by rw [List.getD_eq_getElem?_getD, List.getElem?_eq_getElem (by omega)]; exact List.getElem_mem (by omega))
    rw [hTX, hK]
    show min (((⟨(ts.getD i []).toArray⟩ : ByteArray).size : Nat) : Int) 8 = _ ∧ _ ≤ (((⟨(ts.getD i []).toArray⟩ : ByteArray).size : Nat) : Int) ∧ _ ∧ (⟨(ts.getD i []).toArray⟩ : ByteArray).size ≤ _
    rw [ba_size]
    dsimp only
    exact ⟨by omega, by omega, by omega, h⟩)
  have HSN := Lib.hid (fun (i : Nat) (hi : i < m) => show ∃ s : List UInt8, (TX i).extract 0 (K i) = ⟨s.toArray⟩ ∧ (fewT ts).take (i + 1) = (fewT ts).take i ++ [s] from by
    refine ⟨(ts.getD i []).take 8, ?_, ?_⟩
    · rw [hTX, hK]; exact ext_take _ _
    · rw [List.take_succ_eq_append_getElem (by omega)]
      congr 2
      simp only [fewT, List.getElem_map, List.getElem_take]
      rw [List.getD_eq_getElem?_getD, List.getElem?_eq_getElem (by omega)]; rfl)
  have HB0 := Lib.hid (Below.refl w.heap.size w)
  have HSO := Lib.hid (show m = 0 ∨ ∃ p : Addr, ao = some p from by
    rcases hso with h | h
    · left; rw [hm, h]; rfl
    · exact .inr h)
  unfold maxLen at hcm
  clear hTX hK hvs hts hg hso hm
  generalize ts.length = n at *
  generalize fewT ts = fs at *
  cases ao with
  | none =>
    obtain rfl : m = 0 := by
      rcases HSO.out with h0 | ⟨p, hp⟩
      · exact h0
      · cases hp
    have hfs : fs = [] := List.length_eq_zero_iff.1 hfl
    subst hfs
    clear HS HC HK HSN HSO
    go_enter Tryz.func17, Tryz.ntmps17
    go_wp2_with fail
    go_loopw [3, 12] (fun u3 u12 wr => u3 = .slice none 0 0 ∧ u12 = .int .i64 0 ∧ wr = w) (fun _ _ _ => 0)
    case atStart => exact ⟨rfl, rfl, rfl⟩
    case round =>
      obtain ⟨rfl, rfl, rfl⟩ := hrel
      go_wp2
      go_ret
      exact ⟨_, rfl, Qs.nil _, HB0.out⟩
  | some p =>
    clear HSO HS
    have HCC := Lib.hid (fun (i : Nat) (hi : i < m) (V : World) (hV : Below w.heap.size w V) => HC.out i hi p rfl V hV)
    clear HC
    go_enter Tryz.func17, Tryz.ntmps17
    go_wp2_with fail
    go_loopw [3, 12] (fun u3 u12 wr => ∃ j : Nat, j ≤ m ∧ u12 = .int .i64 (j : Int) ∧ Hid (QRow wr w.heap.size u3 (fs.take j)) ∧ Hid (Below w.heap.size w wr)) (fun _ u12 _ => m - (intOf u12).toNat)
    case atStart => exact ⟨0, by omega, rfl, Lib.hid (QRow.nil _ _), HB0⟩
    case round =>
      obtain ⟨j, hji, rfl, hR, hB⟩ := hrel
      by_cases hlt : j < m
      · have hcr := HCC.out j hlt wr hB.out
        obtain ⟨k1, k2, k3, k4⟩ := HK.out j hlt
        obtain ⟨s, hs, hsn⟩ := HSN.out j hlt
        have HSNJ := Lib.hid hsn
        unfold maxLen at k4
        obtain ⟨a, c, hv⟩ := hR.out.len
        have htl : (fs.take j).length = j := by rw [List.length_take]; omega
        rw [htl] at hv
        subst hv
        have HROW := Lib.hid (hR.out.owns htl)
        have hbs := hB.out.size
        have HTL := Lib.hid htl
        have q1 : (j : Int) < (m : Int) := by omega
        clear htl hsn
        generalize TX j = S at *
        generalize K j = k at *
        have hkn : ¬ (S.size : Int) < (k : Int) := by omega
        go_wp2_with (at_builtin; refine wpList_append_own _ rfl (.tmp 16) (.tmp 22) 23 rfl w.heap.size 24 i0 (.string ⟨#[]⟩) 1 16 Tryz.underlying23 hi0 hz0 hz1 hz2 rfl (by decide) (.slice a j c) j _ rfl (HROW.out.alloc _) ⟨wr.heap.size, 0, none⟩ 1 1 [.string ⟨s.toArray⟩] rfl rfl (cell_new_q _ _ _) (by intro u hu; simp at hu; subst hu; rfl) (by unfold maxLen; omega) (by omega) (by simp; omega) ?_; intro v' w3 hown1 hgrow1 hnil1)
        go_roundw
        case rel =>
          refine ⟨j + 1, by omega, by go_num, Lib.hid ?_, Lib.hid ?_⟩
          · rw [HSNJ.out]
            exact QRow.snoc HTL.out hown1
          · exact (hB.out.alloc (by omega) _).grown hgrow1 (by simp; omega) (fun q hq => (World.ownsRow.lt HROW.out q hq).1)
        case measure => simp [intOf]; omega
      · obtain rfl : j = m := by omega
        have htk : fs.take j = fs := List.take_of_length_le (by omega)
        rw [htk] at hR
        have HR := Lib.hid hR.out.qs
        obtain ⟨a, c, hv⟩ := hR.out.len
        subst hv
        generalize fs.length = wl at *
        go_wp2
        go_ret
        exact ⟨_, rfl, HR.out, hB.out⟩
end Go.Proofs.YtfjjdjhnodcfhaaGreatDoor
