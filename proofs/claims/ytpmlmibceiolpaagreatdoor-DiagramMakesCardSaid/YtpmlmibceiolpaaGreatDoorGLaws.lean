/- Drafts and their tables. -/
import Derived.Test.YtpmlmibceiolpaaGreatDoorGWakes
set_option linter.unusedSimpArgs false
set_option linter.unusedVariables false
namespace Go.Proofs.YtpmlmibceiolpaaGreatDoor
open Go.RowKit

theorem adr_block (a : Addr) (i : Nat) : (a.add i).block = a.block := by unfold Addr.add; split <;> rfl
/-- A slice of bytes in old memory. -/
def U8s (w : World) (v : Value) (zs : List Nat) : Prop := (v = .slice none 0 0 ∧ zs = []) ∨ ∃ (a : Addr) (cap : Nat), v = .slice (some a) zs.length cap ∧ zs.length ≤ maxLen ∧ ∀ i, i < zs.length → a.block < w.heap.size ∧ w.cell? (a.add i) = some (.int .u8 (zs.getD i 0 : Nat))
theorem U8s.below {w w' : World} {v : Value} {zs : List Nat} (h : U8s w v zs) (hb : Below w.heap.size w w') : U8s w' v zs := by
  rcases h with h | ⟨a, cap, hv, hm, hc⟩
  · exact .inl h
  · exact .inr ⟨a, cap, hv, hm, fun i hi => ⟨Nat.lt_of_lt_of_le (hc i hi).1 hb.size, (hb.cell (p := a.add i) (by rw [adr_block]; exact (hc i hi).1)).trans (hc i hi).2⟩⟩
theorem U8s.open_ {w : World} {v : Value} {zs : List Nat} (h : U8s w v zs) : ∃ (a : Option Addr) (cap : Nat), v = .slice a zs.length cap ∧ zs.length ≤ maxLen ∧ (0 < zs.length → ∃ p, a = some p) ∧ ∀ p, a = some p → ∀ i, i < zs.length → p.block < w.heap.size ∧ w.cell? (p.add i) = some (.int .u8 (zs.getD i 0 : Nat)) := by
  rcases h with ⟨rfl, rfl⟩ | ⟨a, cap, hv, hm, hc⟩
  · exact ⟨none, 0, rfl, by simp, fun h => absurd h (by simp), fun p hp => by cases hp⟩
  · exact ⟨some a, cap, hv, hm, fun _ => ⟨a, rfl⟩, fun p hp => by cases hp; exact hc⟩
def RetQs (w : World) (ts : List (List UInt8)) (e : Ending) (w' : World) : Prop := ∃ v, e = .returned v ∧ Qs w' v ts ∧ Below w.heap.size w w'

/-- A draft. -/
structure Dft (w : World) (v : Value) (vr kd : Nat) (zs : List Nat) : Prop where
  is : ∃ s, v = .agg #[.int .u8 (vr : Int), .int .u8 (kd : Int), s] ∧ U8s w s zs
  vr : vr < 256
  kd : kd < 256
  zs : ∀ z ∈ zs, z < 256
theorem Dft.below {w w' : World} {v : Value} {vr kd : Nat} {zs : List Nat} (h : Dft w v vr kd zs) (hb : Below w.heap.size w w') : Dft w' v vr kd zs := by
  obtain ⟨s, e, hs⟩ := h.is
  exact ⟨⟨s, e, hs.below hb⟩, h.vr, h.kd, h.zs⟩

def some8 : List (List UInt8) := [[48], [49], [49, 47, 50], [45, 51], [55, 47, 49, 48], [49], [48], [49, 48, 48]]
def k0N (zs : List Nat) (i : Nat) : Nat := if 0 < zs.length then zs.getD (i % zs.length) 0 else 0
def kN (kd : Nat) (zs : List Nat) (i : Nat) : Nat := if kd % 4 = 0 then k0N zs i % 2 else if kd % 4 = 1 then i % 8 else if kd % 4 = 2 then k0N zs i * (i / 2 % 2) else k0N zs i
/-- The number with an index in a draft's table. -/
def dtN (kd : Nat) (zs : List Nat) (i : Nat) : List UInt8 := some8.getD (kN kd zs i % 8) []
def tabD (kd : Nat) (zs : List Nat) (n : Nat) : List (List UInt8) := (List.range (2 ^ n)).map (dtN kd zs)
theorem k0N_lt {zs : List Nat} (hz : ∀ z ∈ zs, z < 256) (i : Nat) : k0N zs i < 256 := by
  unfold k0N
  split
  · rename_i h
    have hi := Nat.mod_lt i h
    rw [List.getD_eq_getElem?_getD, List.getElem?_eq_getElem hi]
    exact hz _ (List.getElem_mem hi)
  · omega
theorem tmod_nat (a b : Nat) : ((a : Int).tmod (b : Int)) = ((a % b : Nat) : Int) := by rw [Int.tmod_eq_emod_of_nonneg (by omega)]; omega
theorem emod_nat (a b : Nat) : ((a : Int) % (b : Int)) = ((a % b : Nat) : Int) := by push_cast; rfl
theorem wrap64_small (M : Nat) (h : M ≤ 255 * 1) : wrap64 (M : Int) = (M : Int) := by unfold wrap64; omega
def cells8 : Array Value := #[.string ⟨#[48]⟩, .string ⟨#[49]⟩, .string ⟨#[49, 47, 50]⟩, .string ⟨#[45, 51]⟩, .string ⟨#[55, 47, 49, 48]⟩, .string ⟨#[49]⟩, .string ⟨#[48]⟩, .string ⟨#[49, 48, 48]⟩]
theorem cells8_at : ∀ q, q < 8 → cells8[q]? = some (.string ⟨(some8.getD q []).toArray⟩) := by
  intro q hq
  rcases q with _ | _ | _ | _ | _ | _ | _ | _ | q
  all_goals (first | rfl | omega)

set_option maxHeartbeats 8000000 in
set_option maxRecDepth 100000 in
theorem draft_table {W : World} {v : Value} {vr kd n : Nat} {zs : List Nat} (h : Dft W v vr kd zs) (hn : n ≤ 6) : Calls Tryz.prog 11 #[v, .int .i64 (n : Int)] W (RetQs W (tabD kd zs n)) := by
  obtain ⟨s, rfl, hu⟩ := h.is
  obtain ⟨ao, cap, rfl, hml, h3, h4⟩ := hu.open_
  obtain ⟨i0, hi0, hz0, hz1, hz2⟩ := info_parts infoQ
  have hk256 := k0N_lt h.zs
  obtain ⟨W2, hW2, hB2, hs2, j1, j2⟩ := entB W 24 40 #[.int .u8 (vr : Int), .int .u8 (kd : Int), .slice ao zs.length cap] cells8
  have H3 := Lib.hid h3
  have H4 := Lib.hid h4
  have HK := Lib.hid hk256
  have HSH := Lib.hid (show wrap64 ((2 : Int) ^ min n 64) = ((2 ^ n : Nat) : Int) from by rw [Nat.min_eq_left (by omega)]; exact shl1 n hn)
  have HP6 := Lib.hid (Nat.pow_le_pow_right (show 2 > 0 by omega) hn)
  obtain ⟨P, hP⟩ : ∃ P, P = 2 ^ n := ⟨_, rfl⟩
  have HPE := Lib.hid hP
  rw [← hP] at HSH HP6
  obtain ⟨len, hlen⟩ : ∃ len, len = zs.length := ⟨_, rfl⟩
  have HLEN := Lib.hid hlen
  have hkd := h.kd
  unfold maxLen at hml
  rw [← hlen] at hml j1 hW2 ⊢
  have hlen0 : ∀ i, k0N zs i = if 0 < len then zs.getD (i % len) 0 else 0 := fun i => by rw [hlen]; rfl
  have HK0 := Lib.hid hlen0
  have J1 := Lib.hid j1
  have J2 := Lib.hid j2
  have HB2 := Lib.hid hB2
  have HW2 := Lib.hid hW2
  have HS2 := Lib.hid hs2
  have KDT := Lib.hid (emod_nat kd 4)
  have hkq : kd % 4 < 4 := Nat.mod_lt _ (by omega)
  have HDT := Lib.hid (show ∀ i, dtN kd zs i = some8.getD ((if kd % 4 = 0 then k0N zs i % 2 else if kd % 4 = 1 then i % 8 else if kd % 4 = 2 then k0N zs i * (i / 2 % 2) else k0N zs i) % 8) [] from fun i => rfl)
  clear hu h3 h4 h hk256 hn hP hlen hlen0 j1 j2 hB2 hW2 hs2
  generalize hq4 : kd % 4 = q4 at *
  have HQ4 := Lib.hid hq4
  clear hq4
  go_enter Tryz.func11, Tryz.ntmps11
  go_upto_region 4 with fail
  have e2 : W2 = _ := HW2.out
  unfold cells8 at e2
  rw [← e2]
  clear e2
  obtain ⟨gd, hgd⟩ : ∃ g, g = W.heap.size := ⟨_, rfl⟩
  rw [← hgd] at J1 J2 HS2
  have HGD := Lib.hid hgd
  rw [← hgd]
  clear hgd
  have K0 := Lib.hid (Below.refl W2.heap.size W2)
  go_loopw [6, 7] (fun u6 u7 wr => ∃ i : Nat, i ≤ P ∧ u7 = .int .i64 (i : Int) ∧ Hid (QRow wr W2.heap.size u6 ((List.range i).map (dtN kd zs))) ∧ Hid (Below W2.heap.size W2 wr)) (fun _ u7 _ => P - (intOf u7).toNat)
  case atStart => exact ⟨0, by omega, rfl, Lib.hid (QRow.nil _ _), K0⟩
  case round =>
    clear K0
    obtain ⟨i, hi, rfl, hR, hB⟩ := hrel
    have hshl := HSH.out
    obtain ⟨ar, cr, hv⟩ := hR.out.len
    rw [List.length_map, List.length_range] at hv
    subst hv
    by_cases hlt : i < P
    · have l1 : (i : Int) < (P : Int) := by omega
      have hR2 := Lib.hid (hR.out.owns (k := i) (by simp))
      have B1 := J1.out.next hB.out
      have c0 : wr.cell? ⟨gd, 2, none⟩ = some (.slice ao len cap) := B1.cell 2
      have BB1 := Lib.hid B1
      clear B1 hR
      go_upto_if 19 with fail
      rw [hshl]
      clear hshl
      obtain ⟨LB, hLB⟩ : ∃ b, b = decide (0 < len) := ⟨_, rfl⟩
      rw [← hLB]
      have HLB := Lib.hid hLB
      clear hLB
      go_cut [8] from 999 to 999 (fun u8 wx => u8 = .int .i64 ((k0N zs i : Nat) : Int) ∧ ∃ V, V = wx ∧ Hid (Below wr.heap.size wr V))
      case first =>
        cases LB with
        | true =>
          have hl0 : 0 < len := of_decide_eq_true HLB.out.symm
          obtain ⟨p, rfl⟩ := H3.out (by rw [← HLEN.out]; exact hl0)
          have hmod := Nat.mod_lt i hl0
          obtain ⟨hbl, hcl⟩ := H4.out p rfl (i % len) (by rw [← HLEN.out]; exact hmod)
          have hk := HK0.out i
          rw [if_pos hl0] at hk
          have KK := Lib.hid hk
          have hkz := HK.out i
          rw [hk] at hkz
          generalize zs.getD (i % len) 0 = z at *
          clear hk
          have hcr : wr.cell? (p.add (i % len)) = some (.int .u8 (z : Int)) := by
            have hB0 := HB2.out.trans (hB.out.mono HB2.out.size)
            exact (hB0.cell (p := p.add (i % len)) (by rw [adr_block]; exact hbl)).trans hcl
          have hll : (p.add (i % len)).block < wr.heap.size := World.block_lt_of_cell? wr _ hcr
          have hm := tmod_nat i len
          have hl0' : (0 : Int) < (len : Int) := by omega
          have hlne : ¬ (len : Int) = 0 := by omega
          have hbd : ((i % len : Nat) : Int) < (len : Int) := by omega
          have lgd := BB1.out.lt
          generalize hqq : i % len = q at *
          have HQQ := Lib.hid hqq
          clear hqq
          go_upto_region 8 with fail
          have hBd : Below wr.heap.size wr wr.drew := (Below.refl _ _).drew
          refine wp_region_list 10 (by kernel_rfl) (by kernel_rfl) [] [fun xv _ => xv = .pointer (some ⟨gd, 2, none⟩), fun xv _ => xv = .slice (some p) len cap, fun xv _ => xv = .int .i64 (i : Int), fun xv _ => xv = .pointer (some ⟨gd, 2, none⟩), fun xv _ => xv = .slice (some p) len cap, fun xv _ => xv = .int .i64 (len : Int), fun xv _ => xv = .int .i64 (q : Int), fun xv _ => xv = .pointer (some (p.add q)), fun xv _ => xv = .int .u8 (z : Int), fun xv _ => xv = .int .i64 (z : Int)] (by simp only [List.take_succ_cons, List.take_zero]; rfl) (by simp only [List.drop_succ_cons, List.drop_zero]; rfl) (fun vals => by simp only [fam, Act.put, List.setIfInBounds_toArray, List.set_cons_zero, List.set_cons_succ, if_true]; rfl) (by repeat' (first | exact Stab.eq _ _ | exact Stab.wh _ _ | exact Stab.nm _ _ | exact Stab.new _ _ | exact Stab.newn _ _ | exact Stab.tw _ _ _ | exact Stab.lm _ _ _ | exact Stab.onet _ _ _ | exact Stab.pl _ _ _ | exact Stab.dg _ _ _ | exact Stab.nds _ _ | exact Stab.qs _ _ | exact trivial | apply And.intro)) trivial ?_ ?_
          · refine ⟨?_, ?_, ?_, ?_, ?_, ?_, ?_, ?_, ?_, ?_, trivial⟩
            all_goals
              intro vals wy hB1 hp
              dsimp only
              (try simp [preOk, Region.binds, r_anygc, r_anytext] at hp)
              have hb := next_below hBd hB1
              have y0 := keepc hb c0 lgd
              have y1 : wy.cell? (p.add q) = some (.int .u8 (z : Int)) := (World.cell?_of_block (w := wr) (hb.block _ hll)).trans hcr
              (try simp only [hp])
              clear hB1 c0 hcr
              go_wp2
              (first | exact ⟨rfl, _, rfl, rfl, Below.refl _ _, trivial⟩ | (refine ⟨rfl, _, ?_, rfl, Below.refl _ _, trivial⟩; simp only [Act.put, List.setIfInBounds_toArray, List.set_cons_zero, List.set_cons_succ, Nat.zero_add, Nat.reduceAdd, hp]))
          · rintro vals w4 hB1 ⟨p0, p1, p2, p3, p4, p5, p6, p7, p8, p9, _⟩ hne
            have hb := next_below hBd hB1
            simp only [List.getD_cons_zero, List.getD_cons_succ, Nat.zero_add, Nat.reduceAdd] at p9
            have KB := Lib.hid hb
            clear hb hB1 hBd hne p0 p1 p2 p3 p4 p5 p6 p7 p8 c0 hcr hm
            rw [p9]
            clear p9
            go_wp2
            go_meet
            case rel => exact ⟨by rw [KK.out], _, rfl, KB⟩
        | false =>
          have hl0 : ¬ 0 < len := of_decide_eq_false HLB.out.symm
          have hk := HK0.out i
          rw [if_neg hl0] at hk
          have KK := Lib.hid hk
          clear hk
          go_wp2
          go_meet
          case rel => exact ⟨by rw [KK.out]; rfl, _, rfl, Lib.hid (Below.refl _ _)⟩
      case rest =>
        obtain ⟨rfl, V, rfl, hV⟩ := hcut
        have c1 : V.cell? ⟨gd, 1, none⟩ = some (.int .u8 (kd : Int)) := (BB1.out.next hV.out).cell 1
        have HRV := Lib.hid (hR2.out.below2 hV.out)
        have hKV := Lib.hid (hB.out.trans (hV.out.mono hB.out.size))
        have HJ2 := Lib.hid (J2.out.next hB.out)
        have hkd4 := KDT.out
        have hk256 := HK.out i
        obtain ⟨k, hk⟩ : ∃ k, k = k0N zs i := ⟨_, rfl⟩
        have HKX := Lib.hid hk.symm
        rw [← hk] at hk256
        rw [← hk]
        have hq : q4 = 0 ∨ q4 = 1 ∨ q4 = 2 ∨ q4 = 3 := by omega
        clear c0 hR2 BB1 hk hkq
        have hib : i < 64 := by have := HP6.out; omega
        rcases hq with rfl | rfl | rfl | rfl
        · have HDD := Lib.hid (HDT.out i)
          have hkd4 : (kd : Int) % 4 = 0 := hkd4
          have hD0 : dtN kd zs i = some8.getD ((k % 2) % 8) [] := by
            rw [HDD.out, HKX.out]; rfl
          have HD0 := Lib.hid hD0
          clear hD0
          have m1 : (k : Int) % 2 = ((k % 2 : Nat) : Int) := by omega
          obtain ⟨K, hKe⟩ : ∃ K, K = k % 2 := ⟨_, rfl⟩
          rw [← hKe] at m1
          have HDf := Lib.hid (show dtN kd zs i = some8.getD (K % 8) [] from by rw [HD0.out, hKe])
          have m8 : (K : Int) % 8 = ((K % 8 : Nat) : Int) := by omega
          have hq8 : K % 8 < 8 := Nat.mod_lt _ (by omega)
          obtain ⟨q8, hq8e⟩ : ∃ q, q = K % 8 := ⟨_, rfl⟩
          rw [← hq8e] at m8 hq8 HDf
          have c8 : V.cell? ⟨gd + 1, q8, none⟩ = some (.string ⟨(some8.getD q8 []).toArray⟩) := ((HJ2.out.next hV.out).cell q8).trans (cells8_at q8 hq8)
          have hq8i : (q8 : Int) < 8 := by omega
          clear hKe hq8e
          generalize hSS : some8.getD q8 [] = SS at *
          have hsz : W2.heap.size ≤ V.heap.size := hKV.out.size
          go_wp2_with (at_builtin; refine wpList_append_own _ rfl (.tmp 48) (.tmp 54) 27 rfl W2.heap.size 40 i0 (.string ⟨#[]⟩) 1 16 Tryz.underlying27 hi0 hz0 hz1 hz2 rfl (by decide) (.slice ar i cr) i _ rfl (HRV.out.alloc _) ⟨V.heap.size, 0, none⟩ 1 1 [.string ⟨SS.toArray⟩] rfl rfl (cell_new_q _ _ _) (by intro u hu; simp at hu; subst hu; rfl) (by unfold maxLen; omega) (by omega) (by simp; omega) ?_; intro v' w3 hown1 hgrow1 hnil1)
          go_roundw
          case rel =>
            refine ⟨i + 1, by omega, by go_num, Lib.hid ?_, Lib.hid ?_⟩
            · rw [List.range_succ, List.map_append, List.map_singleton, HDf.out]
              exact QRow.snoc (by simp) hown1
            · exact (hKV.out.alloc hsz _).grown hgrow1 (by simp; omega) (fun q hq => (World.ownsRow.lt HRV.out q hq).1)
          case measure => simp [intOf]; omega
        · have HDD := Lib.hid (HDT.out i)
          have hkd4 : (kd : Int) % 4 = 1 := hkd4
          have hD0 : dtN kd zs i = some8.getD ((i % 8) % 8) [] := by
            rw [HDD.out, HKX.out]; rfl
          have HD0 := Lib.hid hD0
          clear hD0
          have m1 : (i : Int) % 8 = ((i % 8 : Nat) : Int) := by omega
          obtain ⟨K, hKe⟩ : ∃ K, K = i % 8 := ⟨_, rfl⟩
          rw [← hKe] at m1
          have HDf := Lib.hid (show dtN kd zs i = some8.getD (K % 8) [] from by rw [HD0.out, hKe])
          have m8 : (K : Int) % 8 = ((K % 8 : Nat) : Int) := by omega
          have hq8 : K % 8 < 8 := Nat.mod_lt _ (by omega)
          obtain ⟨q8, hq8e⟩ : ∃ q, q = K % 8 := ⟨_, rfl⟩
          rw [← hq8e] at m8 hq8 HDf
          have c8 : V.cell? ⟨gd + 1, q8, none⟩ = some (.string ⟨(some8.getD q8 []).toArray⟩) := ((HJ2.out.next hV.out).cell q8).trans (cells8_at q8 hq8)
          have hq8i : (q8 : Int) < 8 := by omega
          clear hKe hq8e
          generalize hSS : some8.getD q8 [] = SS at *
          have hsz : W2.heap.size ≤ V.heap.size := hKV.out.size
          go_wp2_with (at_builtin; refine wpList_append_own _ rfl (.tmp 48) (.tmp 54) 27 rfl W2.heap.size 40 i0 (.string ⟨#[]⟩) 1 16 Tryz.underlying27 hi0 hz0 hz1 hz2 rfl (by decide) (.slice ar i cr) i _ rfl (HRV.out.alloc _) ⟨V.heap.size, 0, none⟩ 1 1 [.string ⟨SS.toArray⟩] rfl rfl (cell_new_q _ _ _) (by intro u hu; simp at hu; subst hu; rfl) (by unfold maxLen; omega) (by omega) (by simp; omega) ?_; intro v' w3 hown1 hgrow1 hnil1)
          go_roundw
          case rel =>
            refine ⟨i + 1, by omega, by go_num, Lib.hid ?_, Lib.hid ?_⟩
            · rw [List.range_succ, List.map_append, List.map_singleton, HDf.out]
              exact QRow.snoc (by simp) hown1
            · exact (hKV.out.alloc hsz _).grown hgrow1 (by simp; omega) (fun q hq => (World.ownsRow.lt HRV.out q hq).1)
          case measure => simp [intOf]; omega
        · have HDD := Lib.hid (HDT.out i)
          have hkd4 : (kd : Int) % 4 = 2 := hkd4
          have hD0 : dtN kd zs i = some8.getD ((k * (i / 2 % 2)) % 8) [] := by
            rw [HDD.out, HKX.out]; rfl
          have HD0 := Lib.hid hD0
          clear hD0
          have s1 : (i : Int) / 2 = ((i / 2 : Nat) : Int) := by omega
          have m1 : ((i / 2 : Nat) : Int) % 2 = ((i / 2 % 2 : Nat) : Int) := by omega
          have hb2 : i / 2 % 2 < 2 := Nat.mod_lt _ (by omega)
          obtain ⟨K, hKe⟩ : ∃ K, K = k * (i / 2 % 2) := ⟨_, rfl⟩
          have s2 : wrap64 ((k : Int) * ((i / 2 % 2 : Nat) : Int)) = (K : Int) := by
            rw [hKe]
            have : k * (i / 2 % 2) ≤ 255 * 1 := Nat.mul_le_mul (by omega) (by omega)
            have e : (k : Int) * ((i / 2 % 2 : Nat) : Int) = ((k * (i / 2 % 2) : Nat) : Int) := by push_cast; rfl
            rw [e]; generalize k * (i / 2 % 2) = M at *; exact wrap64_small M this
          generalize hgi : i / 2 % 2 = bi at *
          generalize hgj : i / 2 = bj at *
          have HGI := Lib.hid (And.intro hgi hgj)
          clear hgi hgj
          have HDf := Lib.hid (show dtN kd zs i = some8.getD (K % 8) [] from by rw [HD0.out, hKe, ← HGI.out.1, ← HGI.out.2])
          have m8 : (K : Int) % 8 = ((K % 8 : Nat) : Int) := by omega
          have hq8 : K % 8 < 8 := Nat.mod_lt _ (by omega)
          obtain ⟨q8, hq8e⟩ : ∃ q, q = K % 8 := ⟨_, rfl⟩
          rw [← hq8e] at m8 hq8 HDf
          have c8 : V.cell? ⟨gd + 1, q8, none⟩ = some (.string ⟨(some8.getD q8 []).toArray⟩) := ((HJ2.out.next hV.out).cell q8).trans (cells8_at q8 hq8)
          have hq8i : (q8 : Int) < 8 := by omega
          clear hKe hq8e
          generalize hSS : some8.getD q8 [] = SS at *
          have hsz : W2.heap.size ≤ V.heap.size := hKV.out.size
          go_wp2_with (at_builtin; refine wpList_append_own _ rfl (.tmp 48) (.tmp 54) 27 rfl W2.heap.size 40 i0 (.string ⟨#[]⟩) 1 16 Tryz.underlying27 hi0 hz0 hz1 hz2 rfl (by decide) (.slice ar i cr) i _ rfl (HRV.out.alloc _) ⟨V.heap.size, 0, none⟩ 1 1 [.string ⟨SS.toArray⟩] rfl rfl (cell_new_q _ _ _) (by intro u hu; simp at hu; subst hu; rfl) (by unfold maxLen; omega) (by omega) (by simp; omega) ?_; intro v' w3 hown1 hgrow1 hnil1)
          go_roundw
          case rel =>
            refine ⟨i + 1, by omega, by go_num, Lib.hid ?_, Lib.hid ?_⟩
            · rw [List.range_succ, List.map_append, List.map_singleton, HDf.out]
              exact QRow.snoc (by simp) hown1
            · exact (hKV.out.alloc hsz _).grown hgrow1 (by simp; omega) (fun q hq => (World.ownsRow.lt HRV.out q hq).1)
          case measure => simp [intOf]; omega
        · have HDD := Lib.hid (HDT.out i)
          have hkd4 : (kd : Int) % 4 = 3 := hkd4
          have hD0 : dtN kd zs i = some8.getD ((k) % 8) [] := by
            rw [HDD.out, HKX.out]; rfl
          have HD0 := Lib.hid hD0
          clear hD0
          obtain ⟨K, hKe⟩ : ∃ K, K = k := ⟨_, rfl⟩
          rw [← hKe]
          have HDf := Lib.hid (show dtN kd zs i = some8.getD (K % 8) [] from by rw [HD0.out, hKe])
          have m8 : (K : Int) % 8 = ((K % 8 : Nat) : Int) := by omega
          have hq8 : K % 8 < 8 := Nat.mod_lt _ (by omega)
          obtain ⟨q8, hq8e⟩ : ∃ q, q = K % 8 := ⟨_, rfl⟩
          rw [← hq8e] at m8 hq8 HDf
          have c8 : V.cell? ⟨gd + 1, q8, none⟩ = some (.string ⟨(some8.getD q8 []).toArray⟩) := ((HJ2.out.next hV.out).cell q8).trans (cells8_at q8 hq8)
          have hq8i : (q8 : Int) < 8 := by omega
          clear hKe hq8e
          generalize hSS : some8.getD q8 [] = SS at *
          have hsz : W2.heap.size ≤ V.heap.size := hKV.out.size
          go_wp2_with (at_builtin; refine wpList_append_own _ rfl (.tmp 48) (.tmp 54) 27 rfl W2.heap.size 40 i0 (.string ⟨#[]⟩) 1 16 Tryz.underlying27 hi0 hz0 hz1 hz2 rfl (by decide) (.slice ar i cr) i _ rfl (HRV.out.alloc _) ⟨V.heap.size, 0, none⟩ 1 1 [.string ⟨SS.toArray⟩] rfl rfl (cell_new_q _ _ _) (by intro u hu; simp at hu; subst hu; rfl) (by unfold maxLen; omega) (by omega) (by simp; omega) ?_; intro v' w3 hown1 hgrow1 hnil1)
          go_roundw
          case rel =>
            refine ⟨i + 1, by omega, by go_num, Lib.hid ?_, Lib.hid ?_⟩
            · rw [List.range_succ, List.map_append, List.map_singleton, HDf.out]
              exact QRow.snoc (by simp) hown1
            · exact (hKV.out.alloc hsz _).grown hgrow1 (by simp; omega) (fun q hq => (World.ownsRow.lt HRV.out q hq).1)
          case measure => simp [intOf]; omega
    · obtain rfl : i = P := by omega
      have HR := Lib.hid hR.out.qs
      have HPP := Lib.hid (show (List.range i).map (dtN kd zs) = tabD kd zs n from by rw [HPE.out]; rfl)
      rw [HPP.out] at HR
      have KF := Lib.hid (HB2.out.trans (hB.out.mono HB2.out.size))
      clear HPP
      go_wp2
      go_ret
      exact ⟨_, rfl, HR.out, KF.out⟩
end Go.Proofs.YtpmlmibceiolpaaGreatDoor

/- The diagrams of drafted tables. -/
set_option linter.unusedSimpArgs false
set_option linter.unusedVariables false
namespace Go.Proofs.YtpmlmibceiolpaaGreatDoor
open Go.RowKit

/-- The diagram of a table. -/
def dgN (S : List (List UInt8)) (n : Nat) : List Nd := madeN (fun y => S.getD y []) n
theorem some8_ok : ∀ q, q < 8 → rerr (some8.getD q []) = 0 ∧ (some8.getD q []).length ≤ 4 := by decide +kernel
theorem dtN_ok (kd : Nat) (zs : List Nat) (i : Nat) : rerr (dtN kd zs i) = 0 ∧ (dtN kd zs i).length ≤ 4 := some8_ok _ (Nat.mod_lt _ (by omega))
theorem tabD_len (kd : Nat) (zs : List Nat) (n : Nat) : (tabD kd zs n).length = 2 ^ n := by simp [tabD]
theorem tabD_ok {kd n : Nat} {zs : List Nat} : ∀ q ∈ tabD kd zs n, rerr q = 0 ∧ q.length ≤ 4 := by
  intro q hq
  obtain ⟨i, -, rfl⟩ := List.mem_map.1 hq
  exact dtN_ok kd zs i
/-- A table of numbers. -/
structure Tbl (S : List (List UInt8)) (n : Nat) : Prop where
  n6 : n ≤ 6
  len : S.length = 2 ^ n
  ok : ∀ q ∈ S, rerr q = 0
  short : ∀ q ∈ S, q.length ≤ 268435000
theorem tabD_tbl {kd n : Nat} {zs : List Nat} (hn : n ≤ 6) : Tbl (tabD kd zs n) n := ⟨hn, tabD_len _ _ _, fun q hq => (tabD_ok q hq).1, fun q hq => Nat.le_trans (tabD_ok q hq).2 (by omega)⟩
theorem Tbl.at {S : List (List UInt8)} {n y : Nat} (h : Tbl S n) (hy : y < 2 ^ n) : S.getD y [] ∈ S := by
  rw [List.getD_eq_getElem?_getD, List.getElem?_eq_getElem (by rw [h.len]; exact hy)]
  exact List.getElem_mem _
theorem Tbl.few {S : List (List UInt8)} {n : Nat} (h : Tbl S n) : S.length ≤ 1000000 := by
  rw [h.len]; exact Nat.le_trans (Nat.pow_le_pow_right (by omega) h.n6) (by decide)
theorem Tbl.ofR {S : List (List UInt8)} {n : Nat} (h : Tbl S n) : ofR (n : Int) S = ((n : Int), dgN S n, 0) := by
  unfold Proofs.YtpmlmibceiolpaaGreatDoor.ofR
  have h6 := h.n6
  rw [if_pos ⟨by omega, by omega, by rw [h.len]; rfl⟩, if_pos]
  · rfl
  · rw [List.all_eq_true]; intro q hq; exact decide_eq_true (h.ok q hq)
theorem Tbl.vld {S : List (List UInt8)} {n : Nat} (h : Tbl S n) : vldN (n : Int) (dgN S n) = true := vldN_made h.n6 (fun y hy => h.ok _ (h.at hy))
theorem Tbl.evD {S : List (List UInt8)} {n y : Nat} (h : Tbl S n) (hy : y < 2 ^ n) : evD n (dgN S n) y = S.getD y [] := made_at _ n hy
theorem Tbl.tab {S : List (List UInt8)} {n : Nat} (h : Tbl S n) : tabN (Proofs.YtpmlmibceiolpaaGreatDoor.evD (n : Int).toNat (dgN S n)) (n : Int).toNat = S := by
  refine qlist_ext (by rw [tabN_len, h.len]; rfl) fun j hj => ?_
  rw [tabN_len] at hj
  have hj' : j < 2 ^ n := hj
  rw [tabN_at _ hj]
  exact h.evD hj'
theorem Tbl.size {S : List (List UInt8)} {n : Nat} (h : Tbl S n) : (dgN S n).length ≤ 127 := by
  have h1 := made_size (fun y => S.getD y []) n
  have h2 := Nat.pow_le_pow_right (show 2 > 0 by omega) (show n + 1 ≤ 7 by have := h.n6; omega)
  unfold dgN; omega
theorem Tbl.leaf {S : List (List UInt8)} {n : Nat} (h : Tbl S n) : ∀ x ∈ dgN S n, x.2.2.2.length ≤ 268435000 := by
  intro x hx
  obtain ⟨i, hi, rfl⟩ := List.mem_iff_getElem.1 hx
  have e : (dgN S n)[i] = (dgN S n).getD i nd0 := by rw [List.getD_eq_getElem?_getD, List.getElem?_eq_getElem hi]; rfl
  rw [e]
  have hw := made_wf (fun y => S.getD y []) n
  by_cases hv : ((dgN S n).getD i nd0).1 = (n : Int)
  · obtain ⟨y, hy, h2⟩ := made_leaves (fun y => S.getD y []) n hi hv
    rw [show ((dgN S n).getD i nd0).2.2.2 = _ from h2]
    exact h.short _ (h.at hy)
  · rcases hw i hi with h3 | ⟨v, lo, hj, e2, -⟩
    · exact absurd h3.1 hv
    · rw [show (dgN S n).getD i nd0 = _ from e2]; simp
theorem Tbl.inj {S T : List (List UInt8)} {n : Nat} (h : Tbl S n) (h' : Tbl T n) : decide (dgN S n = dgN T n) = decide (S = T) := by
  refine Bool.eq_iff_iff.2 ?_
  rw [decide_eq_true_eq, decide_eq_true_eq]
  refine ⟨fun e => qlist_ext (by rw [h.len, h'.len]) fun j hj => ?_, fun e => by rw [e]⟩
  rw [h.len] at hj
  rw [← h.evD hj, e, h'.evD hj]
/-- Of gives the diagram of a table. -/
theorem of_tbl {W : World} {v : Value} {S : List (List UInt8)} {n : Nat} (h : Tbl S n) (hv : Qs W v S) (hg : Good W) : Calls Tryz.prog 12 #[.int .i64 (n : Int), v] W (RetOk W n (dgN S n).length (dgN S n)) := by
  have h1 := dgof_any (m := n) hv h.few h.short hg
  rw [h.ofR] at h1
  exact h1
theorem dgIn_tbl {w : World} {a : Option Addr} {c : Nat} {S : List (List UInt8)} {n : Nat} (h : Tbl S n) (hs : Nds w (.slice a (dgN S n).length c) (dgN S n)) : DgIn w (.agg #[.int .i64 (n : Int), .slice a (dgN S n).length c]) n (dgN S n) := dgIn_of hs (by have := h.size; omega) h.leaf
theorem lists_tbl {W : World} {v v' : Value} {S : List (List UInt8)} {n : Nat} (h : Tbl S n) (hd : DgIn W v n (dgN S n)) (hq : Qs W v' S) (hg : Good W) : Calls Tryz.prog 13 #[v, .int .i64 0, v'] W (RetV W (.bool true)) :=
  lists_true hd h.vld (by rw [h.tab]; exact hq) hg
theorem check_tbl {W : World} {v : Value} {S : List (List UInt8)} {n : Nat} (h : Tbl S n) (hd : DgIn W v n (dgN S n)) (hg : Good W) : Calls Tryz.prog 14 #[v] W (RetV W (.int .i64 0)) := by
  have h1 := dgcheck_any hd hg
  rw [h.vld] at h1
  exact h1
end Go.Proofs.YtpmlmibceiolpaaGreatDoor
