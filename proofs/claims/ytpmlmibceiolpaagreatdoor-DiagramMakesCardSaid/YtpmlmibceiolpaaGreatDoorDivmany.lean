/- limbs.divided by more than one limb: long division. -/
import Derived.Test.YtpmlmibceiolpaaGreatDoorDivided
set_option linter.unusedSimpArgs false
set_option linter.unusedVariables false
namespace Go.Proofs.YtpmlmibceiolpaaGreatDoor
open Go.RowKit

/-- The two scaled magnitudes lie in rows of their own. -/
def Scaled (w : World) (n1 n2 v1 v2 : Nat) (sa sb : Value) (wc : World) : Prop :=
  ∃ (ga gb : Nat) (A B : List Nat), sa = .slice (some ⟨ga, 0, none⟩) (n1 + 1 : Nat) (n1 + 1 : Nat) ∧ sb = .slice (some ⟨gb, 0, none⟩) (n2 : Nat) (n2 + 1 : Nat) ∧ ga ≠ gb ∧ w.heap.size ≤ ga ∧ w.heap.size ≤ gb ∧
    Blk wc ga 143 (arr A) ∧ Blk wc gb 143 (arr B) ∧ A.length = n1 + 1 ∧ B.length = n2 + 1 ∧ Ok A ∧ Ok B ∧ val A = v1 ∧ val B = v2 ∧ Below w.heap.size w wc

/-- A row of the call's own, by its block. -/
theorem Row.blk {w : World} {B g n : Nat} {l : List Nat} (h : Row w B (.slice (some ⟨g, 0, none⟩) n n) l) (hn : l.length = n) : Blk w g 143 (arr l) := by
  obtain ⟨hl, h⟩ := h
  rcases h with ⟨h0, _⟩ | ⟨g', cap, cur, h0, hB, hg, hn', hm, hc, ht⟩
  · cases h0
  · simp only [Value.slice.injEq, Option.some.injEq, Addr.mk.injEq, and_true] at h0
    obtain ⟨⟨rfl, _⟩, _, rfl⟩ := h0
    unfold Blk
    rw [hg]
    congr 2
    have e : cur.toList.take (l.length * 1) = cur.toList := List.take_of_length_le (by simp; omega)
    rw [e] at ht
    unfold arr
    rw [← ht]

theorem Row.lt {w : World} {B g n : Nat} {l : List Nat} (h : Row w B (.slice (some ⟨g, 0, none⟩) n n) l) : g < w.heap.size := by
  obtain ⟨hl, h⟩ := h
  rcases h with ⟨h0, _⟩ | ⟨g', cap, cur, h0, hB, hg, _⟩
  · cases h0
  · simp only [Value.slice.injEq, Option.some.injEq, Addr.mk.injEq, and_true] at h0
    obtain ⟨⟨rfl, _⟩, _⟩ := h0
    exact (Array.getElem?_eq_some_iff.1 hg).1

theorem Scaled.ab {w W0 wa wb : World} {n1 n2 v1 v2 : Nat} {A B : List Nat} (h0 : Below w.heap.size w W0) (hra : Row wa W0.heap.size (.slice (some ⟨W0.heap.size, 0, none⟩) (n1 + 1 : Nat) (n1 + 1 : Nat)) A) (hla : A.length = n1 + 1) (hoa : Ok A) (hva : val A = v1) (hba : Below W0.heap.size W0 wa)
    (hrb : Row wb wa.heap.size (.slice (some ⟨wa.heap.size, 0, none⟩) (n2 + 1 : Nat) (n2 + 1 : Nat)) B) (hlb : B.length = n2 + 1) (hob : Ok B) (hvb : val B = v2) (hbb : Below wa.heap.size wa wb) :
    Scaled w n1 n2 v1 v2 (.slice (some ⟨W0.heap.size, 0, none⟩) (n1 + 1 : Nat) (n1 + 1 : Nat)) (.slice (some ⟨wa.heap.size, 0, none⟩) (n2 : Nat) (n2 + 1 : Nat)) wb :=
  ⟨_, _, A, B, rfl, rfl, by have := hra.lt; omega, h0.size, Nat.le_trans h0.size hba.size, (hra.blk hla).below hbb hra.lt, hrb.blk hlb, hla, hlb, hoa, hob, hva, hvb, (h0.trans (hba.mono h0.size)).trans (hbb.mono (Nat.le_trans h0.size hba.size))⟩

theorem Scaled.ba {w W0 wa wb : World} {n1 n2 v1 v2 : Nat} {A B : List Nat} (h0 : Below w.heap.size w W0) (hrb : Row wb W0.heap.size (.slice (some ⟨W0.heap.size, 0, none⟩) (n2 + 1 : Nat) (n2 + 1 : Nat)) B) (hlb : B.length = n2 + 1) (hob : Ok B) (hvb : val B = v2) (hbb : Below W0.heap.size W0 wb)
    (hra : Row wa wb.heap.size (.slice (some ⟨wb.heap.size, 0, none⟩) (n1 + 1 : Nat) (n1 + 1 : Nat)) A) (hla : A.length = n1 + 1) (hoa : Ok A) (hva : val A = v1) (hba : Below wb.heap.size wb wa) :
    Scaled w n1 n2 v1 v2 (.slice (some ⟨wb.heap.size, 0, none⟩) (n1 + 1 : Nat) (n1 + 1 : Nat)) (.slice (some ⟨W0.heap.size, 0, none⟩) (n2 : Nat) (n2 + 1 : Nat)) wa :=
  ⟨_, _, A, B, rfl, rfl, by have := hrb.lt; omega, Nat.le_trans h0.size hbb.size, h0.size, hra.blk hla, (hrb.blk hlb).below hba hrb.lt, hla, hlb, hoa, hob, hva, hvb, (h0.trans (hbb.mono h0.size)).trans (hba.mono (Nat.le_trans h0.size hbb.size))⟩

theorem win_lt {A A' : List Nat} {j k : Nat} (h : Upto A A' j k) (hl : j + k ≤ A.length) : val (win A' j k) < 1000000000 ^ k := by
  have := val_lt (l := win A' j k) ((h.2.2.2.drop j).take k)
  rwa [win_length (by rw [h.1]; exact hl)] at this

theorem only_trans {a b c : World} {g : Nat} (h : a.grownBy b (some g)) (k : b.grownBy c (some g)) : a.grownBy c (some g) :=
  ⟨k.os.trans h.os, k.tape.trans h.tape, k.output.trans h.output, Nat.le_trans h.size k.size, fun i hi hne => (k.block i (Nat.lt_of_lt_of_le hi h.size) hne).trans (h.block i hi hne)⟩

/-- A part of a row reads as a list. -/
theorem Blk.lim_take {w : World} {g k cap : Nat} {B : List Nat} (h : Blk w g 143 (arr B)) (hk : k ≤ B.length) (hc : k ≤ cap) (hm : cap ≤ maxLen) : Lim w (.slice (some ⟨g, 0, none⟩) k cap) (B.take k) := by
  have e : (B.take k).length = k := by simp; omega
  refine ⟨_, cap, by rw [e], by rw [e]; exact hc, hm, .inr ⟨g, 0, rfl, ⟨_, _, h⟩, fun i hi => ?_⟩⟩
  rw [e] at hi
  rw [Nat.zero_add, h.at_ (by omega)]
  simp only [List.getD, List.getElem?_take]; rw [if_pos hi]

/-- The facts of one round of the outer loop. -/
structure Round (w wr : World) (ga gb gq n1 m L a0 vb : Nat) (B : List Nat) (k : Nat) (A Q : List Nat) : Prop where
  kL : k ≤ L
  bA : Blk wr ga 143 (arr A)
  bQ : Blk wr gq 143 (arr Q)
  bB : Blk wr gb 143 (arr B)
  inv : DivInv (n1 + 1) (m + 2) a0 vb k A Q
  below : Below w.heap.size w wr

/-- What one round leaves. -/
theorem Round.next {w wr w2 : World} {ga gb gq n1 m L a0 vb j g : Nat} {A A' Q B : List Nat} (h : Round w wr ga gb gq n1 m L a0 vb B (j + 1) A Q) (hga : w.heap.size ≤ ga) (hgq : w.heap.size ≤ gq) (h1 : ga ≠ gq) (h2 : gb ≠ gq) (h3 : ga ≠ gb) (hL : L + m + 1 ≤ n1) (hn : n1 ≤ L + m + 1) (hv : vb < 1000000000 ^ (m + 2)) (hv0 : 0 < vb)
    (hgr : wr.grownBy w2 (some ga)) (hbl : Blk w2 ga 143 (arr A')) (hu : Upto A A' j (m + 2 + 1)) (hg : g = val (win A j (m + 2 + 1)) / vb) (hr : val (win A' j (m + 2 + 1)) + g * vb = val (win A j (m + 2 + 1))) {z : Int} (hz : z = (g : Int)) :
    Round w (w2.setCell ⟨gq, j, none⟩ (.int .u32 z)) ga gb gq n1 m L a0 vb B j A' (Q.set j g) := by
  have hlq := h.inv.lenQ
  refine ⟨by have := h.kL; omega, hbl.far (p := ⟨gq, j, none⟩) h1 _, (h.bQ.grown hgr (by simpa using h1.symm)).put j g hz, (h.bB.grown hgr (by simpa using h3.symm)).far (p := ⟨gq, j, none⟩) h2 _, ?_, ?_⟩
  · exact h.inv.step hv hv0 (by have := h.kL; omega) hu hg hr
  · exact (h.below.grown hgr (by have := h.below.size; exact this) (fun k e => by cases e; exact hga)).setCell (p := ⟨gq, j, none⟩) hgq _

theorem Blk.drawn {w w' : World} {g : Nat} {t : TypeId} {cs : Array Value} (h : Blk w g t cs) (hd : Drawn w w') : Blk w' g t cs := by obtain ⟨n, rfl⟩ := hd; exact h
theorem grown_drawn {w w' w2 : World} {row : Option Nat} (hd : Drawn w w') (h : w'.grownBy w2 row) : w.grownBy w2 row := by obtain ⟨n, rfl⟩ := hd; exact ⟨h.os, h.tape, h.output, h.size, h.block⟩

theorem lose_at {w wr W : World} {ga gb gq n1 m L a0 vb j q : Nat} {A Q B : List Nat} (h : Round w wr ga gb gq n1 m L a0 vb B (j + 1) A Q) (hd : Drawn wr W) (h3 : ga ≠ gb) (oB : Ok B) (lB : B.length = m + 2 + 1) (hL : L + m + 1 ≤ n1) (hn : n1 ≤ L + m + 1) (hsz : n1 ≤ 1073741824) (hq : q < 1000000000) :
    Calls Tryz.prog 158 #[.slice (some ⟨ga, j, none⟩) (n1 + 1 - j : Nat) (n1 + 1 - j : Nat), .slice (some ⟨gb, 0, none⟩) (m + 2 : Nat) (m + 2 + 1 : Nat), .int .u64 q] W (LosePost W ga A j (B.take (m + 2)) q) := by
  have lA := h.inv.lenA
  have hk := h.kL
  have e : (B.take (m + 2)).length = m + 2 := by simp; omega
  have := lose_any (w := W) (g := ga) (i := j) (A := A) (v2 := .slice (some ⟨gb, 0, none⟩) (m + 2 : Nat) (m + 2 + 1 : Nat)) (o := B.take (m + 2)) q (n1 + 1 - j) (h.bA.drawn hd) h.inv.okA ((h.bB.drawn hd).lim_take (by omega) (by omega) (by unfold maxLen; omega))
    (fun b' o' c' he _ => by have h1 := Option.some.inj (Value.slice.inj he).1; have h2 := (Addr.mk.inj h1).1; rw [← h2]; exact h3.symm) (oB.take _) hq (by rw [e]; omega) (by omega)
  rwa [lA] at this

theorem gain_at {w wr W W2 : World} {ga gb gq n1 m L a0 vb j : Nat} {A A' Q B : List Nat} (h : Round w wr ga gb gq n1 m L a0 vb B (j + 1) A Q) (hd : Drawn wr W) (h3 : ga ≠ gb) (oB : Ok B) (lB : B.length = m + 2 + 1) (hL : L + m + 1 ≤ n1) (hn : n1 ≤ L + m + 1) (hsz : n1 ≤ 1073741824)
    (hbl : Blk W2 ga 143 (arr A')) (hgr : W.grownBy W2 (some ga)) (hu : Upto A A' j (m + 2 + 1)) :
    Calls Tryz.prog 159 #[.slice (some ⟨ga, j, none⟩) (n1 + 1 - j : Nat) (n1 + 1 - j : Nat), .slice (some ⟨gb, 0, none⟩) (m + 2 : Nat) (m + 2 + 1 : Nat)] W2 (GainPost W2 ga A' j (B.take (m + 2))) := by
  have lA : A'.length = n1 + 1 := by rw [hu.1]; exact h.inv.lenA
  have hk := h.kL
  have e : (B.take (m + 2)).length = m + 2 := by simp; omega
  have := gain_any (w := W2) (g := ga) (i := j) (A := A') (v2 := .slice (some ⟨gb, 0, none⟩) (m + 2 : Nat) (m + 2 + 1 : Nat)) (o := B.take (m + 2)) (n1 + 1 - j) hbl hu.2.2.2 (((h.bB.drawn hd).grown hgr (by simpa using h3.symm)).lim_take (by omega) (by omega) (by unfold maxLen; omega))
    (fun b' o' c' he _ => by have h1 := Option.some.inj (Value.slice.inj he).1; have h2 := (Addr.mk.inj h1).1; rw [← h2]; exact h3.symm) (oB.take _) (by rw [e]; omega) (by omega)
  rwa [lA] at this

theorem Upto.again {A A' A2 : List Nat} {i k : Nat} (h : Upto A A' i k) (h2 : Upto A' A2 i k) : Upto A A2 i k := ⟨h2.1.trans h.1, h2.2.1.trans h.2.1, h2.2.2.1.trans h.2.2.1, h2.2.2.2⟩

set_option maxHeartbeats 20000000 in
set_option maxRecDepth 100000 in
theorem divided_many {w : World} {v1 v2 : Value} {l1 l2 : List Nat} (h1 : Lim w v1 l1) (h2 : Lim w v2 l2) (o1 : Ok l1) (o2 : Ok l2) (k1 : Last l1) (k2 : Last l2) (h : val l2 ≤ val l1) (hn : 2 ≤ l2.length) (hsz : l1.length ≤ 1073741824) :
    Calls Tryz.prog 138 #[v1, v2] w (RetQR w (val l1 / val l2) (val l1 % val l2)) := by
  have c := compare_ge h1 h2 o1 o2 k1 k2 h
  obtain ⟨a1, c1, rfl, hc1⟩ := id h1
  rcases h2.cases with ⟨h2', _⟩ | ⟨b2, p2, c2, rfl, hlt, hcc, hm2, hcell⟩
  · rw [h2'] at hn; simp at hn
  have g0 := hcell.2 (l2.length - 1) (by omega)
  have hlen : l2.length ≤ l1.length := by
    rcases Nat.lt_or_ge l1.length l2.length with hl | hl
    · have := val_lt_len o1 k2 hl; omega
    · exact hl
  have hx := o2.getD (l2.length - 1)
  have hx0 : 0 < l2.getD (l2.length - 1) 0 := Nat.pos_of_ne_zero (k2 (by intro e; rw [e] at hn; simp at hn))
  have HX : Hid (∃ y, y = l2.getD (l2.length - 1) 0) := ⟨_, rfl⟩
  generalize hxe : l2.getD (l2.length - 1) 0 = x at *
  have HXE := Lib.hid hxe
  clear hxe
  -- the unit
  obtain ⟨u, hu⟩ : ∃ u : Nat, u = 1000000000 / (x + 1) := ⟨_, rfl⟩
  have hu1 : u < 1000000000 := by rw [hu, Nat.div_lt_iff_lt_mul (by omega)]; omega
  have hu0 : 0 < u := by rw [hu, Nat.div_pos_iff]; omega
  have hui : (1000000000 : Int) / ((x : Int) + 1) = (u : Int) := by rw [hu]; simp
  have s1 := fun w' (hd : Below w.heap.size w w') => scaled_any (h1.below hd) o1 u hu1 hsz
  have s2 := fun w' (hd : Below w.heap.size w w') => scaled_any (h2.below hd) o2 u hu1 (by omega)
  have HU := Lib.hid hu
  generalize hn1 : l1.length = n1 at *
  generalize hn2 : l2.length = n2 at *
  have HN1 := Lib.hid hn1
  have HN2 := Lib.hid hn2
  have C := Lib.hid c
  have S1 := Lib.hid s1
  have S2 := Lib.hid s2
  have H1 := Lib.hid h1
  have H2 := Lib.hid h2
  have ec : (n2 : Int) - 1 = ((n2 - 1 : Nat) : Int) := by omega
  have hnb : ((n2 : Int) == 1) = false := by simp; omega
  have hge : ∀ m : Nat, m < n2 → True := fun _ _ => trivial
  clear h1 h2 hc1 c s1 s2 h hu hn1 hn2 hlt hge
  go_enter Tryz.func138, Tryz.ntmps138
  go_upto_region 7 with (go_at_call 119; refine C.out.mono ?_; rintro e w' ⟨s, rfl, hs0, hs1, hd⟩; have g1 : w'.cell? ⟨b2, p2 + (n2 - 1), none⟩ = some (.int .u32 x) := (hd.cell _).trans g0)
  have hBd : Below w.heap.size w w'.drew := (hd.below _).drew
  have hsd : w'.heap.size = w.heap.size := hd.size
  have HSD := Lib.hid hsd
  have hs0' : (0 : Int) ≤ (n2 : Int) := by omega
  have hs1' : (n2 : Int) ≤ ((n2 + 1 : Nat) : Int) := by omega
  have hs2' : ¬ ((n2 + 1 : Nat) : Int) < (n2 : Int) := by omega
  have hs3' : ¬ (n2 : Int) + 1 < (n2 : Int) := by omega
  have hs4' : (n2 : Int) ≤ (n2 : Int) + 1 := by omega
  clear hsd
  go_cut [9, 10] (fun sa sb wc => Scaled w n1 n2 (val l1 * u) (val l2 * u) sa sb wc)
  case first =>
    go_region_held3 (fun _ => True) (trivial)
      (first
        | (go_at_call_of 157 (Value.slice a1 n1 c1); refine (S1.out _ (by assumption)).mono ?_; rintro e wa ⟨A, rfl, hra, hla, hoa, hva, hba⟩; have hBa : Below w.heap.size w wa := (by assumption : Below w.heap.size w _).trans (hba.mono (by assumption : Below w.heap.size w _).size))
        | (go_at_call_of 157 (Value.slice (some ⟨b2, p2, none⟩) n2 c2); refine (S2.out _ (by assumption)).mono ?_; rintro e wb ⟨B, rfl, hrb, hlb, hob, hvb, hbb⟩; have hBb : Below w.heap.size w wb := (by assumption : Below w.heap.size w _).trans (hbb.mono (by assumption : Below w.heap.size w _).size)))
    all_goals go_wp2_with fail
    all_goals go_meet
    exact Scaled.ab (W0 := w'.drew) hBd hra hla hoa hva hba hrb hlb hob hvb hbb
  case rest =>
    obtain ⟨ga, gb, A, B, rfl, rfl, hgab, hga, hgb, kA, kB, lA, lB, oA, oB, vA, vB, hBc⟩ := hcut
    obtain ⟨i0, hi, hz0, hz1, hz2⟩ := info_parts info32
    obtain ⟨m, rfl⟩ : ∃ m, n2 = m + 2 := ⟨n2 - 2, by omega⟩
    obtain ⟨L, hL⟩ : ∃ L, L + m = n1 - 1 := ⟨n1 - 1 - m, by omega⟩
    have hmk : ∀ w : World, (Instr.makeSlice 84 (.int .i64 ((n1 : Int) + 1 - ((m : Int) + 2))) (.int .i64 ((n1 : Int) + 1 - ((m : Int) + 2)))).run Tryz.prog w = .ok (.slice (some ⟨w.heap.size, 0, none⟩) L L) (w.alloc (.cells (arr (List.replicate L 0)) 143)) := by
      intro w
      have e : (n1 : Int) + 1 - ((m : Int) + 2) = (L : Int) := by omega
      rw [e]
      have := run_make (P := Tryz.prog) w 84 143 i0 (.int .u32 0) Tryz.underlying84 hi hz0 .i64 .i64 L L (by omega) (by omega) (by rw [hz2]; omega) (by omega)
      simp only [Int.toNat_natCast, hz1] at this
      rw [this, madeZeros]
    have HH := Lib.hid (And.intro kA (And.intro kB (And.intro lA (And.intro lB (And.intro vA vB)))))
    have hL1 : L + m + 1 ≤ n1 := by omega
    have hL2 : n1 ≤ L + m + 1 := by omega
    clear kA kB lA lB vA vB hL
    go_wp2
    have hLn : L + m + 1 = n1 := by omega
    have hvb : val l2 * u < 1000000000 ^ (m + 2) := unit_fits o2 HN2.out (by rw [HU.out, ← HXE.out]; rfl) hu0
    have hvb0 : 0 < val l2 * u := by
      have h0 := start_low HN1.out HN2.out k2 o1 o2 HH.out.2.2.1 HH.out.2.2.2.2.1 hu0 hLn
      omega
    have hYY : 0 < B.getD (m + 1) 0 := top_pos o2 HN2.out k2 oB HH.out.2.2.2.1 HH.out.2.2.2.2.2 hu0 hvb
    have hBv : val (B.take (m + 2)) = val l2 * u := by rw [← HH.out.2.2.2.2.2]; exact take_val (by rw [HH.out.2.2.2.1]; omega) (by rw [HH.out.2.2.2.2.2]; exact hvb)
    have hstart : Round w (wc.alloc (.cells (arr (List.replicate L 0)) 143)) ga gb wc.heap.size n1 m L (val l1 * u) (val l2 * u) B L A (List.replicate L 0) := by
      have e : n1 + 1 - (m + 2) = L := by omega
      have hd := DivInv.start (N := n1 + 1) (n := m + 2) (a0 := val l1 * u) (vb := val l2 * u) HH.out.2.2.1 (by omega) oA HH.out.2.2.2.2.1 (by rw [e]; exact start_low HN1.out HN2.out k2 o1 o2 HH.out.2.2.1 HH.out.2.2.2.2.1 hu0 hLn)
      rw [e] at hd
      exact ⟨Nat.le_refl _, HH.out.1.alloc _, Blk.new _ _ _, HH.out.2.1.alloc _, hd, hBc.alloc hBc.size _⟩
    have hvR : val l2 * u < 1000000000 ^ (m + 2 + 1) := by rw [Nat.pow_succ]; omega
    have HVR := Lib.hid hvR
    clear hvR
    have HVB := Lib.hid (And.intro hvb (And.intro hvb0 (And.intro hYY hBv)))
    clear hLn hvb hvb0 hYY hBv
    have HST := Lib.hid hstart
    have hgq1 : ga ≠ wc.heap.size := by have := HH.out.1.lt; omega
    have hgq2 : gb ≠ wc.heap.size := by have := HH.out.2.1.lt; omega
    have hgq3 : w.heap.size ≤ wc.heap.size := hBc.size
    generalize wc.heap.size = gq at *
    have LB := Lib.hid HH.out.2.2.2.1
    have VB := Lib.hid HH.out.2.2.2.2.2
    clear hstart hBc HH hBd HSD S1 S2 C hmk
    go_loopw [13] (fun ix wr => ∃ (k : Nat) (A Q : List Nat), ix = .int .i64 ((k : Int) - 1) ∧ Round w wr ga gb gq n1 m L (val l1 * u) (val l2 * u) B k A Q) (fun ix _ => (intOf ix + 1).toNat)
    case atStart => exact ⟨L, _, _, by go_num, HST.out⟩
    case round =>
      clear HST oA A
      obtain ⟨k, A, Q, rfl, hR⟩ := hrel
      have HR := Lib.hid hR
      have hkL := hR.kL
      rcases k with _ | j
      · have hfin := hR.inv.done
        have lA := hR.inv.lenA
        have lQ := hR.inv.lenQ
        have hlow := hR.inv.low
        rw [List.drop_zero] at hlow
        have hta := take_val (B := A) (k := m + 2) (by omega) (Nat.lt_trans hlow HVB.out.1)
        have hlimA := hR.bA.lim_take (k := m + 2) (cap := n1 + 1) (by omega) (by omega) (by unfold maxLen; omega)
        have hoA := hR.inv.okA.take (m + 2)
        have hsA : (A.take (m + 2)).length = m + 2 := by simp; omega
        have hsB := hR.below
        have W1 := Lib.hid (whole_any false hlimA hoA)
        have HF := Lib.hid (And.intro hfin (And.intro hta (And.intro lA lQ)))
        clear hfin lA lQ hlow hta hlimA hR
        have hfld : ∀ (b : Bool) (sa : Option Addr) (sl sc : Nat) (w : World), (Instr.field 86 (.agg #[.bool b, .slice sa sl sc]) 1).run Tryz.prog w = .ok (.slice sa sl sc) w := fun b sa sl sc w => by kernel_rfl
        go_wp2_with fail
        refine W1.out.mono ?_
        rintro e w1 ⟨r, rfl, ⟨sv, rfl, hl⟩, hb⟩
        have hw1 : (limbs (sg false (val (A.take (m + 2)))).natAbs).length ≤ 1073741824 := by
          rw [sg_natAbs]
          have h1 := limbs_len_le_of_val hoA
          rw [hsA] at h1
          omega
        have S1 := Lib.hid (short_any u hl (limbs_ok _) hu0 hu1 hw1)
        obtain ⟨sa, sc, rfl, _⟩ := id hl
        generalize (limbs (sg false (val (A.take (m + 2)))).natAbs).length = sl at *
        clear hw1 hsA hl
        go_wp2_with fail
        refine S1.out.mono ?_
        rintro e w2 ⟨vq, xs, rfl, hlim, hok, hv, hb2⟩
        have HV := Lib.hid hv
        clear hv
        go_wp2
        go_ret2
        have lQ := HF.out.2.2.2
        have hQL : Q.length = L := by omega
        have kQ := (HR.out.bQ.below hb HR.out.bQ.lt).below hb2 (Nat.lt_of_lt_of_le HR.out.bQ.lt hb.size)
        have hlimQ := kQ.lim_take (k := L) (cap := L) (by omega) (Nat.le_refl _) (by unfold maxLen; omega)
        rw [← hQL, List.take_length, hQL] at hlimQ
        refine ⟨.slice (some ⟨gq, 0, none⟩) L L, vq, Q, xs, rfl, hlimQ, hlim, HR.out.inv.okQ, hok, ?_, ?_, (hsB.trans (hb.mono hsB.size)).trans (hb2.mono (Nat.le_trans hsB.size hb.size))⟩
        · rw [HF.out.1.1]; exact Nat.mul_div_mul_right _ _ hu0
        · rw [HV.out, sg_natAbs, val_limbs, HF.out.2.1, HF.out.1.2, Nat.mul_mod_mul_right, Nat.mul_div_cancel _ hu0]
      · have lA := hR.inv.lenA
        have lQ := hR.inv.lenQ
        have oA := hR.inv.okA
        have x0 := hR.bA.at_ (j := j + (m + 2)) (by omega)
        have x1 := hR.bA.at_ (j := j + (m + 1)) (by omega)
        have x2 := hR.bA.at_ (j := j + m) (by omega)
        have y1 := hR.bB.at_ (j := m + 1) (by rw [LB.out]; omega)
        have y0 := hR.bB.at_ (j := m) (by rw [LB.out]; omega)
        have bx0 := oA.getD (j + (m + 2))
        have bx1 := oA.getD (j + (m + 1))
        have bx2 := oA.getD (j + m)
        have by1 := oB.getD (m + 1)
        have by0 := oB.getD m
        generalize hX0 : A.getD (j + (m + 2)) 0 = X0 at *
        generalize hX1 : A.getD (j + (m + 1)) 0 = X1 at *
        generalize hX2 : A.getD (j + m) 0 = X2 at *
        generalize hY1 : B.getD (m + 1) 0 = Y1 at *
        generalize hY0 : B.getD m 0 = Y0 at *
        have HX := Lib.hid (And.intro hX0 (And.intro hX1 (And.intro hX2 (And.intro hY1 hY0))))
        have e1 : IntKind.i64.wrap ((j : Int) + ((m : Int) + 2)) = (j : Int) + ((m : Int) + 2) := IntWalk.i64_in _ (by omega)
        have e2 : IntKind.i64.wrap ((j : Int) + ((m : Int) + 2) - 1) = (j : Int) + ((m : Int) + 2) - 1 := IntWalk.i64_in _ (by omega)
        have n1' : ((j : Int) + ((m : Int) + 2)).toNat = j + (m + 2) := by omega
        have n2' : ((j : Int) + ((m : Int) + 2) - 1).toNat = j + (m + 1) := by omega
        have z1 : 0 ≤ (j : Int) + ((m : Int) + 2) := by omega
        have z2 : 0 ≤ (j : Int) + ((m : Int) + 2) - 1 := by omega
        have z3 : (j : Int) + ((m : Int) + 2) < (n1 : Int) + 1 := by omega
        have z4 : (j : Int) + ((m : Int) + 2) - 1 < (n1 : Int) + 1 := by omega
        have ej : ((j + 1 : Nat) : Int) - 1 = (j : Int) := by omega
        have u1 : IntKind.u64.wrap ((X0 : Int) * 1000000000) = (X0 : Int) * 1000000000 := IntWalk.u64_in _ (by omega)
        have u2 : IntKind.u64.wrap ((X0 : Int) * 1000000000 + X1) = (X0 : Int) * 1000000000 + X1 := IntWalk.u64_in _ (by omega)
        have u3 : IntKind.u64.wrap (X0 : Int) = X0 := IntWalk.u64_in _ (by omega)
        have u4 : IntKind.u64.wrap (X1 : Int) = X1 := IntWalk.u64_in _ (by omega)
        rw [ej]
        clear hX0 hX1 hX2 hY1 hY0 hR lA lQ oA ej
        go_wp2_with fail
        go_quiet (fail)
        obtain ⟨T, hT⟩ : ∃ T : Nat, T = X0 * 1000000000 + X1 := ⟨_, rfl⟩
        have hTi : (X0 : Int) * 1000000000 + X1 = (T : Int) := by omega
        have bT : T < 1000000000000000000 := by omega
        rw [hTi]
        have HT := Lib.hid hT
        clear hTi hT u1 u2 u3 u4 e1 e2 n1' n2' z1 z2 z3 z4
        have q1 : IntKind.i64.wrap ((m : Int) + 2 - 1) = (m : Int) + 2 - 1 := IntWalk.i64_in _ (by omega)
        have hG0 : GInv (val (win A j (m + 2 + 1))) (val l2 * u) (1000000000 ^ m) T X2 Y1 Y0 (min (T / Y1) 999999999) := by
          have hin := HR.out.inv
          have hs := step_of (j := j) (m := m) hin.okA oB (by have := hin.lenA; omega) LB.out HVB.out.2.2.2 (by rw [HX.out.2.2.2.1]; exact HVB.out.2.2.1) (hin.win HVB.out.1 (by have := hin.lenQ; omega)).2.1
          rw [HX.out.1, HX.out.2.1, HX.out.2.2.1, HX.out.2.2.2.1, HX.out.2.2.2.2, ← HT.out] at hs
          exact GInv.init hs.1 by1 hs.2
        obtain ⟨S, hS⟩ : ∃ S, S = val (win A j (m + 2 + 1)) := ⟨_, rfl⟩
        rw [← hS] at hG0
        generalize (1000000000 ^ m : Nat) = P at hG0
        have HS := Lib.hid hS
        clear hS
        have hY1 : 0 < Y1 := hG0.step.y1
        have hY1z : ¬ Y1 = 0 := by omega
        have hY1i : ((Y1 : Int) == 0) = false := by simp; omega
        have n3' : ((m : Int) + 2 - 1).toNat = m + 1 := by omega
        obtain ⟨D, hD⟩ : ∃ D, D = T / Y1 := ⟨_, rfl⟩
        have hDi : (T : Int) / (Y1 : Int) = (D : Int) := by rw [hD]; simp
        have hDT : D ≤ T := by rw [hD]; exact Nat.div_le_self _ _
        rw [← hD] at hG0
        have HG := Lib.hid hG0
        clear hD hG0
        have hwD : IntKind.u64.wrap (D : Int) = D := IntWalk.u64_in _ (by omega)
        obtain ⟨wo, rfl⟩ : ∃ wo : World, wo = wr := ⟨_, rfl⟩
        rcases Nat.lt_trichotomy D 999999999 with hdm | rfl | hdm
        all_goals
          go_wp2_with fail
          go_loopw [15] (fun g wi => ∃ gg : Nat, g = .int .u64 gg ∧ GInv S (val l2 * u) P T X2 Y1 Y0 gg ∧ Drawn wo wi) (fun g _ => (intOf g).toNat)
          case atStart =>
            first
              | exact ⟨D, rfl, (Nat.min_eq_left (by omega : D ≤ 999999999)) ▸ HG.out, Drawn.of _ _⟩
              | exact ⟨999999999, rfl, (Nat.min_self 999999999) ▸ HG.out, Drawn.of _ _⟩
              | exact ⟨999999999, rfl, (Nat.min_eq_right (by omega : 999999999 ≤ D)) ▸ HG.out, Drawn.of _ _⟩
          case round =>
            obtain ⟨g, rfl, hI, hdr⟩ := hrel
            have r0 := hI.rest
            have r1 := hI.lt
            have r2 := hI.top
            obtain ⟨u0, hu0'⟩ : ∃ u0, u0 = g * Y0 := ⟨_, rfl⟩
            obtain ⟨u1, hu1'⟩ : ∃ u1, u1 = g * Y1 := ⟨_, rfl⟩
            have p0 : (g : Int) * (Y0 : Int) = (u0 : Int) := by rw [hu0']; simp
            have p1 : (g : Int) * (Y1 : Int) = (u1 : Int) := by rw [hu1']; simp
            have b0 : u0 ≤ 999999999000000000 := by rw [hu0', Nat.mul_comm]; exact mul_limb by0 (by omega)
            have b1 : u1 ≤ 999999999000000000 := by rw [hu1', Nat.mul_comm]; exact mul_limb by1 (by omega)
            rw [← hu1'] at r0 r2
            have HU0 := Lib.hid hu0'
            have HU1 := Lib.hid hu1'
            clear hu0' hu1'
            have y1' : wr.cell? ⟨gb, m + 1, none⟩ = some (.int .u32 Y1) := (hdr.cell _).trans y1
            have y0' : wr.cell? ⟨gb, m, none⟩ = some (.int .u32 Y0) := (hdr.cell _).trans y0
            have x2' : wr.cell? ⟨ga, j + m, none⟩ = some (.int .u32 X2) := (hdr.cell _).trans x2
            have w1 : IntKind.u64.wrap (u0 : Int) = u0 := IntWalk.u64_in _ (by omega)
            have w2 : IntKind.u64.wrap (u1 : Int) = u1 := IntWalk.u64_in _ (by omega)
            have w3 : IntKind.u64.wrap ((T : Int) - u1) = (T : Int) - u1 := IntWalk.u64_in _ (by omega)
            have w4 : IntKind.u64.wrap (((T : Int) - u1) * 1000000000) = ((T : Int) - u1) * 1000000000 := IntWalk.u64_in _ (by omega)
            have w5 : IntKind.u64.wrap (((T : Int) - u1) * 1000000000 + X2) = ((T : Int) - u1) * 1000000000 + X2 := IntWalk.u64_in _ (by omega)
            have w6 : IntKind.u64.wrap (Y0 : Int) = Y0 := IntWalk.u64_in _ (by omega)
            have w7 : IntKind.u64.wrap (Y1 : Int) = Y1 := IntWalk.u64_in _ (by omega)
            have w8 : IntKind.u64.wrap (X2 : Int) = X2 := IntWalk.u64_in _ (by omega)
            have v1 : IntKind.i64.wrap ((j : Int) + ((m : Int) + 2)) = (j : Int) + ((m : Int) + 2) := IntWalk.i64_in _ (by omega)
            have v2 : IntKind.i64.wrap ((j : Int) + ((m : Int) + 2) - 2) = (j : Int) + ((m : Int) + 2) - 2 := IntWalk.i64_in _ (by omega)
            have v3 : ((j : Int) + ((m : Int) + 2) - 2).toNat = j + m := by omega
            have v4 : 0 ≤ (j : Int) + ((m : Int) + 2) - 2 := by omega
            have v5 : (j : Int) + ((m : Int) + 2) - 2 < (n1 : Int) + 1 := by omega
            have v6 : IntKind.i64.wrap (m : Int) = (m : Int) := IntWalk.i64_in _ (by omega)
            by_cases hcc : ((T : Int) - u1) * 1000000000 + X2 < u0 ∧ (T : Int) - u1 < 1000000000
            · obtain ⟨c1, c2⟩ := hcc
              have hc1 : decide (((T : Int) - u1) * 1000000000 + X2 < u0) = true := by simp; exact c1
              have hc2 : decide ((T : Int) - u1 < 1000000000) = true := by simp; exact c2
              have hdn := hI.down by1 (by rw [← HU1.out, ← HU0.out]; omega) (by rw [← HU1.out]; omega)
              have HD := Lib.hid hdn.2
              have hg0 := hdn.1
              clear hdn
              go_wp2_with fail
              go_quiet (fail)
              go_wp2
              go_roundw
              case rel => exact ⟨g - 1, by go_num, HD.out, hdr.more _⟩
              case measure => simp [intOf]; omega
            · have hnear := hI.step.near hI.top hI.lt (by rw [← HU1.out, ← HU0.out]; omega)
              have hge := hI.ge
              have HI := Lib.hid hI
              have HNE := Lib.hid (And.intro hge hnear)
              have hw : (decide (((T : Int) - u1) * 1000000000 + X2 < u0) = true ∧ decide ((T : Int) - u1 < 1000000000) = false) ∨ decide (((T : Int) - u1) * 1000000000 + X2 < u0) = false := by
                by_cases c1 : ((T : Int) - u1) * 1000000000 + X2 < u0
                · exact .inl ⟨by simp; exact c1, by simp; omega⟩
                · exact .inr (by simp; omega)
              clear hnear hge hI hcc r0 r2
              rcases hw with ⟨hc1, hc2⟩ | hc1
              all_goals
                go_wp2_with fail
                go_quiet (fail)
                go_wp2_with fail
                have hdr2 : Drawn wo (wr.drewN nq) := hdr.more _
                have CL := Lib.hid (lose_at HR.out hdr2 hgab oB LB.out hL1 hL2 hsz r1)
                generalize wr.drewN nq = W at *
                by_cases hgS : g = S / (val l2 * u)
                · have HGS := Lib.hid hgS
                  clear hgS
                  refine CL.out.mono ?_
                  rintro e W2 ⟨A', bb, rfl, hbl, hgr, hup, hbb, heq⟩
                  have et : (B.take (m + 2)).length = m + 2 := by simp [LB.out]
                  rw [et] at hup heq
                  have hfin : bb = 0 ∧ val (win A' j (m + 2 + 1)) + g * (val l2 * u) = S := by
                    rw [HVB.out.2.2.2, ← HS.out] at heq
                    exact left_right HI.out HNE.out.2 hbb (win_lt hup (by have := HR.out.inv.lenA; omega)) HVR.out heq HGS.out
                  obtain ⟨rfl, hfin⟩ := hfin
                  have HF := Lib.hid hfin
                  have HU2 := Lib.hid hup
                  have hbl' := Lib.hid hbl
                  have k2 := (HR.out.bQ.drawn hdr2).grown hgr (by simpa using hgq1.symm)
                  have hlQ := HR.out.inv.lenQ
                  have ks := k2.at_ (j := j) (by omega)
                  have kf := k2.frozen j
                  have HUP := Lib.hid hup
                  clear hfin heq hup et hbl hlQ k2
                  go_wp2
                  go_roundw
                  case rel => exact ⟨j, A', Q.set j g, rfl, HR.out.next hga hgq3 hgq1 hgq2 hgab hL1 hL2 HVB.out.1 HVB.out.2.1 (grown_drawn hdr2 hgr) hbl'.out HUP.out (by rw [← HS.out]; exact HGS.out) (by rw [← HS.out]; exact HF.out) rfl⟩
                  case measure => simp [intOf]
                · have HGS := Lib.hid hgS
                  clear hgS
                  refine CL.out.mono ?_
                  rintro e W2 ⟨A', bb, rfl, hbl, hgr, hup, hbb, heq⟩
                  have et : (B.take (m + 2)).length = m + 2 := by simp [LB.out]
                  rw [et] at hup heq
                  rw [HVB.out.2.2.2, ← HS.out] at heq
                  have hb1 : bb = 1 := by
                    rcases (show bb = 0 ∨ bb = 1 by omega) with h0 | h0
                    · exact absurd ((HI.out.step.exact HNE.out.1 HNE.out.2 hbb (win_lt hup (by have := HR.out.inv.lenA; omega)) HVR.out heq).1 h0) HGS.out
                    · exact h0
                  subst hb1
                  have GA := Lib.hid (gain_at HR.out hdr2 hgab oB LB.out hL1 hL2 hsz hbl hgr hup)
                  have HE := Lib.hid heq
                  have HU2 := Lib.hid hup
                  have HET := Lib.hid et
                  have hg0 : 0 < g := Nat.pos_of_ne_zero (fun e => HGS.out (by have h := HNE.out.1; rw [e] at h ⊢; exact (Nat.le_zero.1 h).symm))
                  clear heq hup hbl et hbb
                  go_wp2_with fail
                  refine GA.out.mono ?_
                  rintro e W3 ⟨A2, cc, rfl, hbl3, hgr3, hup3, hcc3, heq3⟩
                  rw [HET.out] at hup3 heq3
                  rw [HVB.out.2.2.2] at heq3
                  have hfin := left_wrong HI.out HNE.out.2 (Nat.le_refl 1) (win_lt HU2.out (by have := HR.out.inv.lenA; omega)) HVR.out HE.out HGS.out (win_lt hup3 (by have := HR.out.inv.lenA; have := HU2.out.1; omega)) hcc3 heq3
                  have HF := Lib.hid hfin
                  have HUP := Lib.hid (HU2.out.again hup3)
                  have hbl' := Lib.hid hbl3
                  have hgrA := only_trans hgr hgr3
                  have k2 := (HR.out.bQ.drawn hdr2).grown hgrA (by simpa using hgq1.symm)
                  have hlQ := HR.out.inv.lenQ
                  have ks := k2.at_ (j := j) (by omega)
                  have kf := k2.frozen j
                  clear hfin heq3 hup3 hbl3 hlQ k2 hcc3
                  go_wp2
                  go_roundw
                  case rel => exact ⟨j, A2, Q.set j (g - 1), rfl, HR.out.next hga hgq3 hgq1 hgq2 hgab hL1 hL2 HVB.out.1 HVB.out.2.1 (grown_drawn hdr2 hgrA) hbl'.out HUP.out (by rw [← HS.out]; exact HF.out.2.1) (by rw [← HS.out]; exact HF.out.2.2.2) (by omega)⟩
                  case measure => simp [intOf]

theorem divided_any {w : World} {v1 v2 : Value} {l1 l2 : List Nat} (h1 : Lim w v1 l1) (h2 : Lim w v2 l2) (o1 : Ok l1) (o2 : Ok l2) (k1 : Last l1) (k2 : Last l2) (h0 : 0 < val l2) (hsz : l1.length ≤ 1073741824) :
    Calls Tryz.prog 138 #[v1, v2] w (RetQR w (val l1 / val l2) (val l1 % val l2)) := by
  rcases Nat.lt_or_ge (val l1) (val l2) with h | h
  · rw [Nat.div_eq_of_lt h, Nat.mod_eq_of_lt h]; exact divided_less h1 h2 o1 o2 k1 k2 h
  · rcases Nat.lt_or_ge l2.length 2 with hn | hn
    · have : l2.length = 1 := by
        rcases (show l2.length = 0 ∨ l2.length = 1 by omega) with e | e
        · rw [List.length_eq_zero_iff.1 e] at h0; simp [val] at h0
        · exact e
      exact divided_one h1 h2 o1 o2 k1 k2 h this h0 hsz
    · exact divided_many h1 h2 o1 o2 k1 k2 h hn hsz

end Go.Proofs.YtpmlmibceiolpaaGreatDoor
