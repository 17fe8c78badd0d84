/- The contract of croupierref01.Draft.Text. -/
import Derived.Test.YtabdnjakmhnnfaaGreatDoorQDraftM
set_option linter.unusedSimpArgs false
set_option linter.unusedVariables false
namespace Go.Proofs.YtabdnjakmhnnfaaGreatDoor
open Go.RowKit
open Go.Lib (decDigits itoa nDigits)
open D4 (rt it)

theorem adr_block (a : Addr) (i : Nat) : (a.add i).block = a.block := by unfold Addr.add; split <;> rfl
/-- A slice of bytes in old memory. -/
def U8s (w : World) (v : Value) (zs : List Nat) : Prop := (v = .slice none 0 0 ∧ zs = []) ∨ ∃ (a : Addr) (cap : Nat), v = .slice (some a) zs.length cap ∧ zs.length ≤ maxLen ∧ ∀ i, i < zs.length → a.block < w.heap.size ∧ w.cell? (a.add i) = some (.int .u8 (zs.getD i 0 : Nat))
theorem U8s.below {w w' : World} {v : Value} {zs : List Nat} (h : U8s w v zs) (hb : Below w.heap.size w w') : U8s w' v zs := by
  rcases h with h | ⟨a, cap, hv, hm, hc⟩
  · exact .inl h
  · exact .inr ⟨a, cap, hv, hm, fun i hi => ⟨Nat.lt_of_lt_of_le (hc i hi).1 hb.size, (hb.cell (p := a.add i) (by rw [adr_block]; exact (hc i hi).1)).trans (hc i hi).2⟩⟩
/-- The digits that count. -/
def dsOf (zs : List Nat) : List Nat := (zs.take 30).map (· % 10)
theorem dsOf_len (zs : List Nat) : (dsOf zs).length = min zs.length 30 := by simp [dsOf, Nat.min_comm]
theorem dsOf_lt (zs : List Nat) : ∀ c ∈ dsOf zs, c < 10 := by
  intro c hc
  obtain ⟨z, _, rfl⟩ := List.mem_map.1 hc
  exact Nat.mod_lt _ (by omega)
theorem dsOf_at {zs : List Nat} {i : Nat} (h : i < (dsOf zs).length) : (dsOf zs)[i] = zs.getD i 0 % 10 := by
  have h2 : i < zs.length := by rw [dsOf_len] at h; omega
  simp [dsOf, List.getD, List.getElem?_eq_getElem h2]

theorem sText_size {v n : Nat} (h : v < 10 ^ n) : (sText v).size ≤ n := by
  unfold sText
  by_cases hv : v = 0
  · rw [if_pos hv]; exact Nat.zero_le _
  · rw [if_neg hv, ba_size, Lib.decDigits_length]
    cases n with
    | zero => simp at h; omega
    | succ n => exact D4.nDigits_le h
set_option maxHeartbeats 8000000 in
set_option maxRecDepth 100000 in
theorem dtext_any {w : World} (neg : Bool) (v : Value) (zs : List Nat) (t : Nat) (ht : t < 256) (hz : ∀ z ∈ zs, z < 256) (hv : U8s w v zs) : Calls Tryz.prog 44 #[.agg #[.bool neg, v, .int .u8 t]] w (RetV w (.string (it (draftN neg (dsOf zs) t)))) := by
  obtain ⟨W, hW, hB, hsz, j⟩ := entA w 42 #[.bool neg, v, .int .u8 t]
  have HW := Lib.hid hW
  have HB := Lib.hid hB
  have J := Lib.hid j
  have hlen := dsOf_len zs
  have hlt := dsOf_lt zs
  have HAT := Lib.hid (fun i h => dsOf_at (zs := zs) (i := i) h)
  have hres := draft_text (neg := neg) (v := dvK (dsOf zs) (t % 8 + 1))
  have HRES := Lib.hid (show it (draftN neg (dsOf zs) t) = _ from hres)
  generalize it (draftN neg (dsOf zs) t) = R at *
  have hin := fun (v i : Nat) (h : i < (dsOf zs).length) => dvIn_take (v := v) (ds := dsOf zs) h
  have hfull := fun v => (show dvIn v ((dsOf zs).take (dsOf zs).length) = dvIn v (dsOf zs) by rw [List.take_length])
  have HIN := Lib.hid hin
  have HFULL := Lib.hid hfull
  have HLT := Lib.hid hlt
  have HLEN := Lib.hid hlen
  obtain ⟨L, hL⟩ : ∃ L, L = (dsOf zs).length := ⟨_, rfl⟩
  have HL := Lib.hid hL
  have hL30 : L ≤ 30 := by omega
  have ht8 : ((t : Int).tmod 8) = ((t % 8 : Nat) : Int) := by rw [Int.tmod_eq_emod_of_nonneg (by omega)]; omega
  obtain ⟨q, hq⟩ : ∃ q, q = t % 8 := ⟨_, rfl⟩
  rw [← hq] at ht8 HRES
  have hq8 : q < 8 := by omega
  obtain ⟨len, hln⟩ : ∃ len, len = zs.length := ⟨_, rfl⟩
  have hLl : (len ≤ 30 → L = len) ∧ (30 ≤ len → L = 30) := by omega
  have hv' : ∃ (ad : Option Addr) (cap : Nat), v = .slice ad len cap ∧ len ≤ maxLen ∧ ∀ i, i < len → ∃ a, ad = some a ∧ a.block < w.heap.size ∧ w.cell? (a.add i) = some (.int .u8 (zs.getD i 0 : Nat)) := by
    rcases hv with ⟨rfl, rfl⟩ | ⟨a, cap, rfl, hm, hc⟩
    · exact ⟨none, 0, by rw [hln]; rfl, by rw [hln]; exact Nat.zero_le _, fun i hi => absurd hi (by rw [hln]; simp)⟩
    · exact ⟨some a, cap, by rw [hln], by rw [hln]; exact hm, fun i hi => ⟨a, rfl, (hc i (by rw [← hln]; exact hi)).1, (hc i (by rw [← hln]; exact hi)).2⟩⟩
  obtain ⟨ad, cap, rfl, hmax, hce⟩ := hv'
  have HCE := Lib.hid hce
  have hz255 : ∀ i, zs.getD i 0 < 256 := fun i => by
    by_cases h : i < zs.length
    · have e : zs.getD i 0 = zs[i] := by simp [List.getD, List.getElem?_eq_getElem h]
      rw [e]; exact hz _ (List.getElem_mem h)
    · simp [List.getD, List.getElem?_eq_none (Nat.le_of_not_lt h)]
  have HZ := Lib.hid hz255
  unfold maxLen at hmax
  clear hW hB j hres hin hfull hlt hlen hL hq hln hv hce hz hz255 ht
  go_enter Tryz.func44, Tryz.ntmps44
  go_upto_region 1 with fail
  rw [← HW.out]
  go_wp2
  go_loopg [3, 4] (q + 1) (fun gk u3 u4 wr => ∃ k : Nat, u3 = .string (sText (dvK (dsOf zs) k)) ∧ u4 = .int .i64 (k : Int) ∧ k + gk = q + 1 ∧ Hid (Below W.heap.size W wr))
  case atStart => exact ⟨0, rfl, rfl, by omega, Lib.hid (Below.refl _ _)⟩
  case round =>
    obtain ⟨k, rfl, rfl, hk, hK⟩ := hrel
    have jb := J.out.next hK.out
    have c0 := jb.cell 0
    have c1 := jb.cell 1
    have c2 := jb.cell 2
    simp at c0 c1 c2
    clear jb
    generalize hgb : gk = gb at *
    generalize hwb : wr = wb at *
    clear hgb hwb
    by_cases hkq : k ≤ q
    · have hkq2 : (k : Int) ≤ (q : Int) := by omega
      have HV0 : Hid (dvK (dsOf zs) k < 10 ^ (30 * k)) := Lib.hid (dvK_lt HLT.out (by have := HL.out; omega) k)
      generalize hV0 : dvK (dsOf zs) k = v0 at *
      have HV1 := Lib.hid (show dvK (dsOf zs) (k + 1) = dvIn v0 (dsOf zs) by rw [← hV0]; rfl)
      clear hV0
      go_wp2
      go_loopg [3, 5] L (fun gk u3 u5 wr => ∃ i : Nat, u3 = .string (sText (dvIn v0 ((dsOf zs).take i))) ∧ u5 = .int .i64 (i : Int) ∧ i + gk = L ∧ Hid (Below W.heap.size W wr))
      case atStart => exact ⟨0, rfl, rfl, by omega, hK⟩
      case round =>
        obtain ⟨i, rfl, rfl, hi, hK2⟩ := hrel
        have jb := J.out.next hK2.out
        have d0 := jb.cell 0
        have d1 := jb.cell 1
        have d2 := jb.cell 2
        simp at d0 d1 d2
        clear jb c0 c1 c2
        by_cases hil : i < L
        · have hi1 : (i : Int) < (len : Int) := by omega
          have hi2 : (i : Int) < 30 := by omega
          obtain ⟨a, rfl, hab, hac⟩ := HCE.out i (by omega)
          have hac' : wr.cell? (a.add i) = some (.int .u8 (zs.getD i 0 : Nat)) := by
            have h1 := HB.out.cell (p := a.add i) (by rw [adr_block]; exact hab)
            have h2 := hK2.out.cell (p := a.add i) (by rw [adr_block]; have := HB.out.size; omega)
            exact h2.trans (h1.trans hac)
          have hnx := HIN.out v0 i (by rw [← HL.out]; exact hil)
          have hcd := HAT.out i (by rw [← HL.out]; exact hil)
          have hc10 := HLT.out _ (List.getElem_mem (show i < (dsOf zs).length by rw [← HL.out]; exact hil))
          have hz8 := HZ.out i
          have hVlt : dvIn v0 ((dsOf zs).take i) < 10 ^ (30 * k + i) := by
            have h := dvIn_lt (ds := (dsOf zs).take i) (fun c hc => HLT.out c (List.mem_of_mem_take hc)) HV0.out
            rw [List.length_take] at h
            exact Nat.lt_of_lt_of_le h (Nat.pow_le_pow_right (by omega) (by have := HL.out; omega))
          have hSs : (sText (dvIn v0 ((dsOf zs).take i))).size ≤ 250 := sText_size (Nat.lt_of_lt_of_le hVlt (Nat.pow_le_pow_right (n := 10) (by omega) (show 30 * k + i ≤ 250 by omega)))
          have hnil := sText_nil (v := dvIn v0 ((dsOf zs).take i))
          generalize hV : dvIn v0 ((dsOf zs).take i) = V at *
          generalize (dsOf zs)[i] = c at *
          generalize zs.getD i 0 = z at *
          have hrem : ((z : Int).tmod 10) = (c : Int) := by rw [Int.tmod_eq_emod_of_nonneg (by omega)]; omega
          have HNX := Lib.hid hnx
          have hmore := fun h => sText_more (v := V) (c := c) hc10 h
          have hsame := fun h => sText_same (v := V) (c := c) h
          have HMORE := Lib.hid hmore
          have HSAME := Lib.hid hsame
          clear hV hVlt hcd hnx hmore hsame hab hac
          by_cases hp : V ≠ 0 ∨ 0 < c
          · have HM := Lib.hid (HMORE.out hp)
            have hconv : (convert 40 9 (.slice (some ⟨wr.heap.size, 0, none⟩) 1 1)).run Tryz.prog (wr.alloc (.cells #[.int .u8 (48 + (c : Int))] 5)) = .ok (.string ⟨#[UInt8.ofNat (48 + c)]⟩) (wr.alloc (.cells #[.int .u8 (48 + (c : Int))] 5)) := by
              refine run_convert_bytes_back (wr.alloc (.cells #[.int .u8 (48 + (c : Int))] 5)) 40 9 5 ⟨wr.heap.size, 0, none⟩ 1 [UInt8.ofNat (48 + c)] Tryz.underlying40 Tryz.underlying5 Tryz.underlying9 (fun j hj => ?_)
              match j, hj with
              | 0, _ =>
                have e : (UInt8.ofNat (48 + c)).toNat = 48 + c := by simp; omega
                simp [Addr.add, e]
                try omega
            have hcell : (wr.alloc (.cells #[.int .u8 (48 + (c : Int))] 5)).cell? ⟨wr.heap.size, 0, none⟩ = some (.int .u8 (48 + (c : Int))) := by simp
            have HU := Lib.hid (show UInt8.ofNat (48 + c) = 48 + UInt8.ofNat c by simp)
            generalize sText V = S at *
            by_cases hV0 : V = 0
            · have hc0 : (0 : Int) < (c : Int) := by omega
              rw [decide_eq_true hV0] at hnil
              clear hp hV0 HMORE HSAME
              go_wp2
              go_roundg (gk - 1)
              case rel => exact ⟨i + 1, by rw [HNX.out, HM.out, HU.out], by go_num, by omega, Lib.hid (hK2.out.alloc hK2.out.size _)⟩
              case measure => omega
            · rw [decide_eq_false hV0] at hnil
              clear hp hV0 HMORE HSAME
              go_wp2
              go_roundg (gk - 1)
              case rel => exact ⟨i + 1, by rw [HNX.out, HM.out, HU.out], by go_num, by omega, Lib.hid (hK2.out.alloc hK2.out.size _)⟩
              case measure => omega
          · have HSM := Lib.hid (HSAME.out hp)
            have hV0 : V = 0 := by omega
            have hc0 : ¬ (0 : Int) < (c : Int) := by omega
            rw [decide_eq_true hV0] at hnil
            clear hp hV0 HMORE HSAME
            go_wp2
            go_roundg (gk - 1)
            case rel => exact ⟨i + 1, by rw [HNX.out, HSM.out], by go_num, by omega, hK2⟩
            case measure => omega
        · obtain rfl : i = L := by omega
          have hfin := HFULL.out v0
          rw [← HL.out] at hfin
          have HFIN := Lib.hid hfin
          clear hfin
          by_cases hl30 : len ≤ 30
          · have hi1 : ¬ (i : Int) < (len : Int) := by omega
            clear hLl hl30
            go_wp2
            go_roundg (gb - 1)
            case rel => exact ⟨k + 1, by rw [HFIN.out, HV1.out], by go_num, by omega, hK2⟩
            case measure => omega
          · have hi1 : (i : Int) < (len : Int) := by omega
            have hi2 : ¬ (i : Int) < 30 := by omega
            clear hLl hl30
            go_wp2
            go_roundg (gb - 1)
            case rel => exact ⟨k + 1, by rw [HFIN.out, HV1.out], by go_num, by omega, hK2⟩
            case measure => omega
    · obtain rfl : k = q + 1 := by omega
      have hkq2 : ¬ ((q + 1 : Nat) : Int) ≤ (q : Int) := by omega
      have hnil := sText_nil (v := dvK (dsOf zs) (q + 1))
      have hSs : (sText (dvK (dsOf zs) (q + 1))).size ≤ 250 := sText_size (Nat.lt_of_lt_of_le (dvK_lt HLT.out (by have := HL.out; omega) (q + 1)) (Nat.pow_le_pow_right (n := 10) (by omega) (show 30 * (q + 1) ≤ 250 by omega)))
      generalize dvK (dsOf zs) (q + 1) = v at *
      by_cases hv0 : v = 0
      · rw [decide_eq_true hv0] at hnil
        have HR := Lib.hid (HRES.out.trans (if_pos hv0))
        clear hv0 HRES
        generalize sText v = S at *
        go_wp2
        go_ret
        exact ⟨by rw [HR.out]; rfl, HB.out.trans (hK.out.mono HB.out.size)⟩
      · rw [decide_eq_false hv0] at hnil
        have HR := Lib.hid (HRES.out.trans (if_neg hv0))
        clear hv0 HRES
        generalize sText v = S at *
        cases neg
        · go_wp2
          go_ret
          exact ⟨by rw [HR.out]; rfl, HB.out.trans (hK.out.mono HB.out.size)⟩
        · go_wp2
          go_ret
          exact ⟨by rw [HR.out]; rfl, HB.out.trans (hK.out.mono HB.out.size)⟩
end Go.Proofs.YtabdnjakmhnnfaaGreatDoor
