/- The contract of a draft's Weights. -/
import Derived.Test.YtfjjdjhnodcfhaaGreatDoorDWts
set_option linter.unusedSimpArgs false
set_option linter.unusedVariables false
namespace Go.Proofs.YtfjjdjhnodcfhaaGreatDoor
open Go.RowKit
open Go.Lib (decDigits itoa nDigits)
open D4 (rt it Mid)

theorem adr_block (a : Addr) (i : Nat) : (a.add i).block = a.block := by unfold Addr.add; split <;> rfl
/-- A slice of bytes in old memory. -/
def U8s (w : World) (v : Value) (zs : List Nat) : Prop := (v = .slice none 0 0 ∧ zs = []) ∨ ∃ (a : Addr) (cap : Nat), v = .slice (some a) zs.length cap ∧ zs.length ≤ maxLen ∧ ∀ i, i < zs.length → a.block < w.heap.size ∧ w.cell? (a.add i) = some (.int .u8 (zs.getD i 0 : Nat))
theorem U8s.below {w w' : World} {v : Value} {zs : List Nat} (h : U8s w v zs) (hb : Below w.heap.size w w') : U8s w' v zs := by
  rcases h with h | ⟨a, cap, hv, hm, hc⟩
  · exact .inl h
  · exact .inr ⟨a, cap, hv, hm, fun i hi => ⟨Nat.lt_of_lt_of_le (hc i hi).1 hb.size, (hb.cell (p := a.add i) (by rw [adr_block]; exact (hc i hi).1)).trans (hc i hi).2⟩⟩
theorem U8s.open_ {w : World} {v : Value} {zs : List Nat} (h : U8s w v zs) : ∃ (a : Option Addr) (cap : Nat), v = .slice a zs.length cap ∧ zs.length ≤ maxLen ∧ (0 < zs.length → ∃ p, a = some p) ∧ ∀ p, a = some p → ∀ i, i < zs.length → p.block < w.heap.size ∧ w.cell? (p.add i) = some (.int .u8 (zs.getD i 0 : Nat)) := by
  rcases h with ⟨rfl, rfl⟩ | ⟨a, cap, hv, hm, hc⟩
  · exact ⟨none, 0, rfl, by simp, fun h => absurd h (by simp), fun p hp => by cases hp⟩
  · exact ⟨some a, cap, hv, hm, fun _ => ⟨a, rfl⟩, fun p hp => by cases hp; exact hc⟩
theorem dsO_at {zs : List Nat} {i : Nat} (hi : i < min 8 zs.length) : (dsO zs).getD i 0 = zs.getD i 0 % 16 := by
  have h1 : i < zs.length := by omega
  have h2 : i < (zs.take 8).length := by simp; omega
  simp only [dsO, List.getD_eq_getElem?_getD, List.getElem?_map, List.getElem?_take]
  rw [if_pos (by omega), List.getElem?_eq_getElem h1]; rfl
theorem take_sum {l : List Nat} {i : Nat} (hi : i < l.length) : (l.take (i + 1)).sum = (l.take i).sum + l.getD i 0 := by
  rw [List.take_succ_eq_append_getElem hi, List.sum_append]
  simp [List.getD, List.getElem?_eq_getElem hi]
/-- What Weights hands back. -/
def RetQs (w : World) (ts : List (List UInt8)) (e : Ending) (w' : World) : Prop := ∃ v, e = .returned v ∧ Qs w' v ts ∧ Below w.heap.size w w'

set_option maxHeartbeats 4000000 in
set_option maxRecDepth 100000 in
theorem weights_any {w : World} {v : Value} (zs : List Nat) (hz : ∀ z ∈ zs, z < 256) (hv : U8s w v zs) (hg : Good w) : Calls Tryz.prog 18 #[v] w (RetQs w (wts zs)) := by
  obtain ⟨ao, cap, rfl, hml, h3, h4⟩ := hv.open_
  obtain ⟨i0, hi0, hz0, hz1, hz2⟩ := info_parts infoQ
  have HG := Lib.hid (fun (V : World) (hV : Below w.heap.size w V) => hg.below hV)
  have H3 := Lib.hid h3
  have H4 := Lib.hid h4
  have HZ := Lib.hid (fun i (hi : i < zs.length) => (by
    have := hz _ (List.getElem_mem hi)
    rw [List.getD_eq_getElem?_getD, List.getElem?_eq_getElem hi]; exact this : zs.getD i 0 < 256))
  have hdl := dsO_len zs
  have hds := sum_le _ (dsO_lt zs)
  obtain ⟨n, hn⟩ : ∃ n, n = zs.length := ⟨_, rfl⟩
  have HN := Lib.hid hn
  unfold maxLen at hml
  rw [← hn] at hml hdl ⊢
  clear hv h3 h4 hz hg hn
  obtain ⟨m, hm⟩ : ∃ m, m = min 8 n := ⟨_, rfl⟩
  rw [← hm] at hdl
  go_enter Tryz.func18, Tryz.ntmps18
  go_wp2_with fail
  go_loop [3, 4] (fun u3 u4 => ∃ i : Nat, i ≤ m ∧ u4 = .int .i64 (i : Int) ∧ u3 = .int .i64 ((((dsO zs).take i).sum : Nat) : Int)) (fun _ u4 => m - (intOf u4).toNat)
  case atStart => exact ⟨0, by omega, rfl, by simp⟩
  case round =>
    obtain ⟨i, him, rfl, rfl⟩ := hrel
    have hpre : ((dsO zs).take i).sum ≤ 15 * 8 := by
      have h1 := sum_le ((dsO zs).take i) (fun d hd => dsO_lt zs d (List.mem_of_mem_take hd))
      have h2 : ((dsO zs).take i).length ≤ 8 := by rw [List.length_take]; omega
      omega
    by_cases hlt : i < m
    · obtain ⟨p, rfl⟩ := H3.out (by have := HN.out; omega)
      obtain ⟨hbl, hcl⟩ := H4.out p rfl i (by have := HN.out; omega)
      have hzi := HZ.out i (by have := HN.out; omega)
      have hda := dsO_at (zs := zs) (i := i) (by have := HN.out; omega)
      have hts := take_sum (l := dsO zs) (i := i) (by omega)
      rw [hda] at hts
      generalize zs.getD i 0 = z at *
      have hrem : ((z : Int).tmod 16) = ((z % 16 : Nat) : Int) := by rw [Int.tmod_eq_emod_of_nonneg (by omega)]; omega
      have l1 : (i : Int) < (n : Int) := by omega
      have l2 : (i : Int) < 8 := by omega
      have HTS := Lib.hid hts
      clear hts hda
      generalize ((dsO zs).take i).sum = s at *
      go_wp2
      go_round
      case rel => exact ⟨i + 1, by omega, by go_num, by rw [HTS.out]; congr 1⟩
      case measure => simp [intOf]; omega
    · obtain rfl : i = m := by omega
      have htk : (dsO zs).take i = dsO zs := List.take_of_length_le (by omega)
      rw [htk] at hpre ⊢
      have hx : ((i : Int) < n ∧ ¬ (i : Int) < 8) ∨ ¬ (i : Int) < n := by omega
      clear hlt htk
      by_cases hs0 : (dsO zs).sum = 0
      · have hw : wts zs = [[49]] := by unfold wts; rw [if_pos hs0]
        rw [hw, hs0]
        rcases hx with ⟨l1, l2⟩ | l1
        all_goals
          go_wp2
          go_ret
          exact ⟨_, rfl, Qs.lit (cs := #[.string ⟨#[49]⟩]) [[49]] (Blk.new w 24 #[.string ⟨#[49]⟩]) rfl (by decide), (Below.refl _ _).alloc (Nat.le_refl _) _⟩
      · have hwe : wts zs = (dsO zs).map fun d : Nat => ratText (Rat.divInt d (dsO zs).sum) := by unfold wts; rw [if_neg hs0]
        have hwl : (wts zs).length = i := by rw [hwe, List.length_map]; omega
        have HOF := Lib.hid (fun (j : Nat) (hj : j < i) (V : World) (hV : Good V) => D4.rof_any (w := V) (((dsO zs).getD j 0 : Nat) : Int) (((dsO zs).sum : Nat) : Int) (by omega) (by
          have := dsO_lt zs _ (show (dsO zs).getD j 0 ∈ dsO zs by rw [List.getD_eq_getElem?_getD, List.getElem?_eq_getElem (by omega)]; exact List.getElem_mem _)
          omega) (by omega) (by omega) (by omega) hV)
        have HSN := Lib.hid (fun (j : Nat) (hj : j < i) => (by
          rw [List.take_succ_eq_append_getElem (by omega)]
          congr 2
          simp only [hwe, List.getElem_map]
          congr 2
          rw [List.getD_eq_getElem?_getD, List.getElem?_eq_getElem (by omega)]; rfl : (wts zs).take (j + 1) = (wts zs).take j ++ [ratText (Rat.divInt (((dsO zs).getD j 0 : Nat) : Int) (((dsO zs).sum : Nat) : Int))]))
        have HDA := Lib.hid (fun (j : Nat) (hj : j < i) => dsO_at (zs := zs) (i := j) (by have := HN.out; omega))
        have hsi : ¬ (((dsO zs).sum : Nat) : Int) = 0 := by omega
        clear hwe hds
        generalize (dsO zs).sum = sm at *
        have HI := Lib.hid (show i ≤ 8 ∧ i ≤ n by omega)
        rcases hx with ⟨l1, l2⟩ | l1
        all_goals
          go_upto_region 10 with fail
          go_loopw [5, 6] (fun u5 u6 wr => ∃ j : Nat, j ≤ i ∧ u6 = .int .i64 (j : Int) ∧ Hid (QRow wr w.heap.size u5 ((wts zs).take j)) ∧ Hid (Below w.heap.size w wr)) (fun _ u6 _ => i - (intOf u6).toNat)
          case atStart => exact ⟨0, by omega, rfl, Lib.hid (QRow.nil _ _), Lib.hid (Below.refl _ _)⟩
          case round =>
            obtain ⟨j, hji, rfl, hR, hB⟩ := hrel
            by_cases hlt : j < i
            · obtain ⟨p, rfl⟩ := H3.out (by have := HN.out; omega)
              obtain ⟨hbl, hcl⟩ := H4.out p rfl j (by have := HN.out; have := HI.out; omega)
              have hcr : wr.cell? (p.add j) = _ := (hB.out.cell (p := p.add j) (by rw [adr_block]; exact hbl)).trans hcl
              have hzi := HZ.out j (by have := HN.out; have := HI.out; omega)
              have HO := Lib.hid (HOF.out j hlt)
              have HS := Lib.hid (HSN.out j hlt)
              have hda := HDA.out j hlt
              rw [hda] at HO HS
              clear hda hcl
              generalize zs.getD j 0 = z at *
              have hrem : ((z : Int).tmod 16) = ((z % 16 : Nat) : Int) := by rw [Int.tmod_eq_emod_of_nonneg (by omega)]; omega
              have q1 : (j : Int) < (n : Int) := by have := HI.out; omega
              have q2 : (j : Int) < 8 := by have := HI.out; omega
              generalize Rat.divInt ((z % 16 : Nat) : Int) (sm : Int) = x at *
              obtain ⟨a, c, hv⟩ := hR.out.len
              have htl : ((wts zs).take j).length = j := by rw [List.length_take]; omega
              rw [htl] at hv
              subst hv
              have HROW := Lib.hid (hR.out.owns htl)
              have hbs := hB.out.size
              have HTL := Lib.hid htl
              clear htl
              go_wp2_with (first
                | (go_at_call 44; refine (HO.out _ (HG.out _ hB.out)).mono ?_; rintro e w2 ⟨rfl, hb2⟩)
                | (at_builtin; refine wpList_append_own _ rfl (.tmp 38) (.tmp 47) 23 rfl w.heap.size 24 i0 (.string ⟨#[]⟩) 1 16 Tryz.underlying23 hi0 hz0 hz1 hz2 rfl (by decide) (.slice a j c) j _ rfl ((HROW.out.below2 hb2).alloc _) ⟨w2.heap.size, 0, none⟩ 1 1 [.string (rt x)] rfl rfl (cell_new_q _ _ _) (by intro u hu; simp at hu; subst hu; rfl) (by unfold maxLen; omega) (by omega) (by have h2 := hb2.size; simp; omega) ?_; intro v' w3 hown1 hgrow1 hnil1))
              go_roundw
              case rel =>
                refine ⟨j + 1, by omega, by go_num, Lib.hid ?_, Lib.hid ?_⟩
                · rw [HS.out]
                  exact QRow.snoc HTL.out hown1
                · exact ((hB.out.trans (hb2.mono hB.out.size)).alloc (by have h2 := hb2.size; omega) _).grown hgrow1 (by have h2 := hb2.size; simp; omega) (fun q hq => (World.ownsRow.lt HROW.out q hq).1)
              case measure => simp [intOf]; omega
            · obtain rfl : j = i := by omega
              have htk : (wts zs).take j = wts zs := List.take_of_length_le (by omega)
              rw [htk] at hR
              have HR := Lib.hid hR.out.qs
              obtain ⟨a, c, hv⟩ := hR.out.len
              subst hv
              generalize (wts zs).length = wl at *
              go_wp2
              go_ret
              exact ⟨_, rfl, HR.out, hB.out⟩
end Go.Proofs.YtfjjdjhnodcfhaaGreatDoor
