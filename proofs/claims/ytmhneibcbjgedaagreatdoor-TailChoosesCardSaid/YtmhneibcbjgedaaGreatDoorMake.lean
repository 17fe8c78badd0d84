/- The contract of exact.Make: a fraction in lowest terms. -/
import Derived.Test.YtmhneibcbjgedaaGreatDoorGcd
set_option linter.unusedSimpArgs false
set_option linter.unusedVariables false
namespace Go.Proofs.YtmhneibcbjgedaaGreatDoor
open Go.RowKit

/-- What a condition of Make asks: is the divisor not 1? -/
theorem red_one {m n : Int} (hn : n ≠ 0) : 0 < (limbs (red m n).natAbs).length := by
  apply limbs_length_pos
  have := red_ne (n := m) hn
  omega
theorem red_len1 {r : Int} (h0 : r ≠ 0) (h1 : (limbs r.natAbs).length ≤ 1) (hr : ¬ r < 0) : r = ((limbs r.natAbs).getD 0 0 : Nat) ∧ limbs r.natAbs = [(limbs r.natAbs).getD 0 0] := by
  have h2 : 0 < (limbs r.natAbs).length := limbs_length_pos (by omega)
  match hl : limbs r.natAbs, h1, h2 with
  | [x], _, _ =>
    have h3 := val_limbs r.natAbs
    rw [hl] at h3
    simp [val] at h3
    refine ⟨?_, by simp⟩
    simp
    omega

theorem red_fit {m n : Int} (hn : n ≠ 0) (h : Fit n) : Fit (red m n) := by
  refine h.le ?_
  unfold red
  rw [sg_natAbs]
  exact Nat.gcd_le_right _ (by omega)

theorem Lim.at_one {w : World} {a : Option Addr} {k c x : Nat} (h : Lim w (.slice a k c) [x]) : ∃ b o, a = some ⟨b, o, none⟩ ∧ w.cell? ⟨b, o, none⟩ = some (.int .u32 x) := by
  obtain ⟨a', c', e, h1, h2, h3⟩ := h
  injection e with e1 _ _
  subst e1
  rcases h3 with h3 | ⟨b, o, ha, hc⟩
  · cases h3
  · have := hc.2 0 (by simp)
    rw [Nat.add_zero] at this
    exact ⟨b, o, ha, by simpa using this⟩

set_option maxHeartbeats 1000000 in
set_option maxRecDepth 100000 in
theorem make_any {w : World} {v1 v2 : Value} {m n : Int} (h1 : Wh w v1 m) (h2 : Wh w v2 n) (s1 : Fit m) (s2 : Fit n) (hn : n ≠ 0) :
    Calls Tryz.prog 96 #[v1, v2] w (RetN w (Rat.divInt m n)) := by
  obtain ⟨b, a1, k1, p1, rfl⟩ := h1.parts
  obtain ⟨a2, p2, e2, g2⟩ := h2.form
  subst e2
  generalize hk2 : (limbs n.natAbs).length = k2 at *
  clear hk2 g2
  obtain ⟨W, hW, hB, hsz, j1, j2, j3⟩ := entC w 65 65 69 #[.bool b, .slice a1 k1 p1] #[.bool (decide (n < 0)), .slice a2 k2 p2] #[.bool false, .slice none 0 0, .bool false, .slice none 0 0]
  have HW := Lib.hid hW
  have HSZ := Lib.hid hsz
  have HN := Lib.hid hn
  clear hW hsz hn
  have m1 := h1.below hB
  have m2 := h2.below hB
  have x0 := j1.cell0
  have x1 := j1.cell1
  have y0 := j2.cell0
  have y1 := j2.cell1
  clear h1 h2
  have hred : ∀ c, decide (n < 0) = c → (if c then -((Nat.gcd m.natAbs n.natAbs : Nat) : Int) else ((Nat.gcd m.natAbs n.natAbs : Nat) : Int)) = red m n := fun c hc => by unfold red; rw [hc]; cases c <;> simp [sg]
  have HRED := Lib.hid hred
  clear hred
  generalize hc : decide (n < 0) = c at *
  have HC := Lib.hid hc
  clear hc
  go_enter Tryz.func96, Tryz.ntmps96
  go_upto_region 1 with fail
  rw [← HW.out]
  go_upto_if 10 with (go_at_call 129; refine (gcd_any m1 m2 s1 s2).mono ?_; rintro e V ⟨r, rfl, hr, hV⟩; obtain ⟨b3, a3, k3, p3, rfl⟩ := hr.parts; have i1 := j1.next hV; have i2 := j2.next hV; have y0' := (i2.alloc (.cells #[.bool b3, .slice a3 k3 p3] 65)).cell0; have N0 := Blk.new V 65 #[.bool b3, .slice a3 k3 p3]; have n0 := N0.cell0; have n1 := N0.cell1; have n2 := N0.frozen 0; have n3 := N0.frozen 1)
  clear x0 x1 y0 y1
  have HVB := Lib.hid (hB.trans (hV.mono hB.size))
  have hWV := hV.size
  have HRV := Lib.hid (hr.more (.cells #[.bool b3, .slice a3 k3 p3] 65))
  have hVn : Below V.heap.size V (V.alloc (.cells #[.bool b3, .slice a3 k3 p3] 65)) := (Below.refl _ _).alloc (Nat.le_refl _) _
  have HVn := Lib.hid hVn
  clear hVn hr
  generalize (V.alloc (.cells #[.bool b3, .slice a3 k3 p3] 65)) = V1 at *
  go_cut [] (fun wc => ∃ (b5 : Bool) (a5 : Option Addr) (k5 p5 : Nat), Hid (Blk wc V.heap.size 65 #[.bool b5, .slice a5 k5 p5]) ∧ Hid (Wh wc (.agg #[.bool b5, .slice a5 k5 p5]) (red m n)) ∧ Hid (Below V.heap.size V wc))
  case first =>
    cases c
    · have := HRED.out false rfl
      simp at this
      have HR2 := Lib.hid this
      clear this
      go_wp2
      go_meet
      exact ⟨b3, a3, k3, p3, Lib.hid N0, Lib.hid (by rw [← HR2.out]; exact HRV.out), HVn⟩
    · have := HRED.out true rfl
      simp at this
      have HR2 := Lib.hid this
      clear this
      go_wp2_with (go_at_call 135; refine (neg_any HRV.out).mono ?_; rintro e V2 ⟨r4, rfl, hr4, hV4⟩; obtain ⟨b6, a6, k6, p6, rfl⟩ := hr4.parts; have N4 := N0.next hV4; have o0 := N4.cell0; have o1 := N4.cell1; have o2 := N4.frozen 0; have o3 := N4.frozen 1)
      go_meet
      exact ⟨b6, a6, k6, p6, Lib.hid (N4.two _ _), Lib.hid (by rw [← HR2.out]; exact hr4.two N4 (by decide) _ _), Lib.hid (below_two (HVn.out.trans (hV4.mono HVn.out.size)) (Nat.le_refl _) _ _)⟩
  case rest =>
    obtain ⟨b5, a5, k5, p5, hN, hR, hK⟩ := hcut
    have i1' := i1.next hK.out
    have i2' := i2.next hK.out
    have i3' : Blk wc (w.heap.size + 1 + 1) 69 #[.bool false, .slice none 0 0, .bool false, .slice none 0 0] := (j3.next hV).next hK.out
    have hne := red_ne (n := m) HN.out
    have hfit := red_fit (m := m) HN.out s2
    have hKV := HVB.out.trans (hK.out.mono (by have := hWV; have := HSZ.out; omega : w.heap.size ≤ V.heap.size))
    have hsz' : w.heap.size + 3 ≤ V.heap.size := by have := HSZ.out; omega
    have M1 := Lib.hid ((m1.below hV).below hK.out)
    have M2 := Lib.hid ((m2.below hV).below hK.out)
    obtain ⟨a6, p6, e6, hlim⟩ := hR.out.form
    injection e6 with e6
    simp at e6
    obtain ⟨rfl, rfl, rfl, rfl⟩ := e6
    have HNE := Lib.hid hne
    have HFIT := Lib.hid hfit
    have HKV := Lib.hid hKV
    clear hne hfit hKV HRED y0' n0 n1 n2 n3 i1 i2 m1 m2
    have n0 := hN.out.cell0
    have n1 := hN.out.cell1
    by_cases hone : red m n = 1
    · have hm0 := make_one (n := m) HN.out hone
      have HM := Lib.hid hm0
      clear hm0
      have el : (limbs (red m n).natAbs) = [1] := by rw [hone]; rfl
      rw [el] at n1 hlim
      have ed : decide (red m n < 0) = false := by rw [hone]; rfl
      rw [ed] at n0
      obtain ⟨bl, ol, rfl, q0⟩ := hlim.at_one
      have z0 := i1'.cell0
      have z1 := i1'.cell1
      have z2 := i2'.cell0
      have z3 := i2'.cell1
      have z4 := i3'.at4
      have z5 := i3'.fr4
      clear hlim el ed hone
      go_wp2
      have f4 := i3'.four (.bool b) (.slice a1 k1 p1) (.bool c) (.slice a2 k2 p2)
      obtain ⟨d0, d1, d2, d3⟩ := f4.at4
      refine bodyPost_ret (v := .agg #[.bool b, .slice a1 k1 p1, .bool c, .slice a2 k2 p2]) (by simp [results, Tryz.results96, go_sem, d0, d1, d2, d3]) rfl ⟨_, rfl, Nm.mk ?_ ?_, below_four HKV.out (by omega) _ _ _ _⟩
      · rw [← HM.out.1]; exact M1.out.four i3' (by decide) _ _ _ _
      · rw [← HM.out.2]; exact M2.out.four i3' (by decide) _ _ _ _
    · have hne1 : ¬ (red m n < 0) → (limbs (red m n).natAbs).length ≤ 1 → (limbs (red m n).natAbs).getD 0 0 ≠ 1 := fun h1 h2 h3 => hone (by rw [(red_len1 HNE.out h2 h1).1, h3]; rfl)
      have hlp : 0 < (limbs (red m n).natAbs).length := red_one HN.out
      have HDN := Lib.hid (make_num (n := m) HN.out)
      have HDD := Lib.hid (make_den (n := m) HN.out)
      clear hone
      have z0 := i1'.cell0
      have z1 := i1'.cell1
      have z2 := i2'.cell0
      have z3 := i2'.cell1
      have z4 := i3'.at4
      have z5 := i3'.fr4
      have hcell : ∀ x, (limbs (red m n).natAbs) = [x] → ∃ bl ol, a5 = some ⟨bl, ol, none⟩ ∧ wc.cell? ⟨bl, ol, none⟩ = some (.int .u32 x) := fun x hx => by
        rw [hx] at hlim; exact hlim.at_one
      have hone1 := fun h1 h2 => (red_len1 HNE.out h1 h2).2
      have HCELL := Lib.hid (And.intro hcell hone1)
      clear hcell hone1 hlim
      generalize hkr : (limbs (red m n).natAbs).length = kr at *
      have HKR := Lib.hid hkr
      clear hkr
      rcases (show 1 < kr ∨ (kr = 1 ∧ (red m n) < 0) ∨ (kr = 1 ∧ ¬ (red m n < 0)) by omega) with h | ⟨h, h'⟩ | ⟨h, h'⟩
      · have HH : 1 < (kr : Int) := by omega
        generalize decide (red m n < 0) = sr at *
        go_upto_region 5 with fail
        clear HCELL
        go_upto_region 6 with (go_at_call 85; refine (div_any M1.out hR.out s1 HFIT.out HNE.out).mono ?_; rintro e Vd ⟨q, r, rfl, hq, hr, hVd⟩; obtain ⟨bq, aq, kq, pq, rfl⟩ := hq.parts; obtain ⟨bz, az, kz, pz, rfl⟩ := hr.parts; have i1d := i1'.next hVd; have d0 := i1d.cell0; have d1 := i1d.cell1; have d2 := i1d.frozen 0; have d3 := i1d.frozen 1)
        have i2d := (i2'.next hVd)
        have i3d := (i3'.next hVd)
        have iNd := (hN.out.next hVd)
        have e1 := Lib.hid (i1d.two (.bool bq) (.slice aq kq pq))
        have e2 : Blk ((Vd.setCell ⟨w.heap.size, 0, none⟩ (.bool bq)).setCell ⟨w.heap.size, 1, none⟩ (.slice aq kq pq)) (w.heap.size + 1) 65 #[.bool c, .slice a2 k2 p2] := (i2d.away (by omega) _).away (by omega) _
        have e3 : Blk ((Vd.setCell ⟨w.heap.size, 0, none⟩ (.bool bq)).setCell ⟨w.heap.size, 1, none⟩ (.slice aq kq pq)) (w.heap.size + 1 + 1) 69 #[.bool false, .slice none 0 0, .bool false, .slice none 0 0] := (i3d.away (by omega) _).away (by omega) _
        have e4 := (iNd.away (h := w.heap.size) (i := 0) (by omega) (.bool bq)).away (h := w.heap.size) (i := 1) (by omega) (.slice aq kq pq)
        have f1 := Lib.hid (hq.two i1d (by decide) (.bool bq) (.slice aq kq pq))
        have f2 := Lib.hid ((M2.out.below hVd).two i1d (by decide) (.bool bq) (.slice aq kq pq))
        have f3 := Lib.hid ((hR.out.below hVd).two i1d (by decide) (.bool bq) (.slice aq kq pq))
        have f4 := Lib.hid (below_two (g := w.heap.size) (HKV.out.trans (hVd.mono (HKV.out.size))) (Nat.le_refl _) (.bool bq) (.slice aq kq pq))
        clear hq hr d0 d1 d2 d3 z0 z1 z2 z3 z4 z5 n0 n1 i1d i2d i3d iNd
        generalize ((Vd.setCell ⟨w.heap.size, 0, none⟩ (.bool bq)).setCell ⟨w.heap.size, 1, none⟩ (.slice aq kq pq)) = We at *
        have z2 := e2.cell0
        have z3 := e2.cell1
        have n0 := e4.cell0
        have n1 := e4.cell1
        go_upto_region 7 with (go_at_call 85; refine (div_any f2.out f3.out s2 HFIT.out HNE.out).mono ?_; rintro e Vf ⟨q2, r2, rfl, hq2, hr2, hVf⟩; obtain ⟨bq2, aq2, kq2, pq2, rfl⟩ := hq2.parts; obtain ⟨bz2, az2, kz2, pz2, rfl⟩ := hr2.parts; have i2f := e2.next hVf; have d0 := i2f.cell0; have d1 := i2f.cell1; have d2 := i2f.frozen 0; have d3 := i2f.frozen 1)
        have g2 := i2f.two (.bool bq2) (.slice aq2 kq2 pq2)
        have g1 : Blk ((Vf.setCell ⟨w.heap.size + 1, 0, none⟩ (.bool bq2)).setCell ⟨w.heap.size + 1, 1, none⟩ (.slice aq2 kq2 pq2)) w.heap.size 65 #[.bool bq, .slice aq kq pq] := ((e1.out.next hVf).away (by omega) _).away (by omega) _
        have g3 : Blk ((Vf.setCell ⟨w.heap.size + 1, 0, none⟩ (.bool bq2)).setCell ⟨w.heap.size + 1, 1, none⟩ (.slice aq2 kq2 pq2)) (w.heap.size + 1 + 1) 69 #[.bool false, .slice none 0 0, .bool false, .slice none 0 0] := ((e3.next hVf).away (by omega) _).away (by omega) _
        have h1 := Lib.hid ((f1.out.below hVf).two i2f (by decide) (.bool bq2) (.slice aq2 kq2 pq2))
        have h2 := Lib.hid (hq2.two i2f (by decide) (.bool bq2) (.slice aq2 kq2 pq2))
        have h4 := Lib.hid (below_two (g := w.heap.size + 1) (f4.out.trans (hVf.mono (f4.out.size))) (by omega) (.bool bq2) (.slice aq2 kq2 pq2))
        clear hq2 hr2 d0 d1 d2 d3 z2 z3 n0 n1 i2f
        generalize ((Vf.setCell ⟨w.heap.size + 1, 0, none⟩ (.bool bq2)).setCell ⟨w.heap.size + 1, 1, none⟩ (.slice aq2 kq2 pq2)) = Wg at *
        have z0 := g1.cell0
        have z1 := g1.cell1
        have z2 := g2.cell0
        have z3 := g2.cell1
        have z4 := g3.at4
        have z5 := g3.fr4
        go_wp2
        have ff := g3.four (.bool bq) (.slice aq kq pq) (.bool bq2) (.slice aq2 kq2 pq2)
        obtain ⟨d0, d1, d2, d3⟩ := ff.at4
        refine bodyPost_ret (v := .agg #[.bool bq, .slice aq kq pq, .bool bq2, .slice aq2 kq2 pq2]) (by simp [results, Tryz.results96, go_sem, d0, d1, d2, d3]) rfl ⟨_, rfl, Nm.mk ?_ ?_, below_four h4.out (by omega) _ _ _ _⟩
        · rw [← HDN.out]; exact h1.out.four g3 (by decide) _ _ _ _
        · rw [← HDD.out]; exact h2.out.four g3 (by decide) _ _ _ _
      · subst h
        have ed : decide (red m n < 0) = true := by simpa using h'
        clear h'
        generalize decide (red m n < 0) = sr at *
        subst ed
        go_upto_region 5 with fail
        clear HCELL
        go_upto_region 6 with (go_at_call 85; refine (div_any M1.out hR.out s1 HFIT.out HNE.out).mono ?_; rintro e Vd ⟨q, r, rfl, hq, hr, hVd⟩; obtain ⟨bq, aq, kq, pq, rfl⟩ := hq.parts; obtain ⟨bz, az, kz, pz, rfl⟩ := hr.parts; have i1d := i1'.next hVd; have d0 := i1d.cell0; have d1 := i1d.cell1; have d2 := i1d.frozen 0; have d3 := i1d.frozen 1)
        have i2d := (i2'.next hVd)
        have i3d := (i3'.next hVd)
        have iNd := (hN.out.next hVd)
        have e1 := Lib.hid (i1d.two (.bool bq) (.slice aq kq pq))
        have e2 : Blk ((Vd.setCell ⟨w.heap.size, 0, none⟩ (.bool bq)).setCell ⟨w.heap.size, 1, none⟩ (.slice aq kq pq)) (w.heap.size + 1) 65 #[.bool c, .slice a2 k2 p2] := (i2d.away (by omega) _).away (by omega) _
        have e3 : Blk ((Vd.setCell ⟨w.heap.size, 0, none⟩ (.bool bq)).setCell ⟨w.heap.size, 1, none⟩ (.slice aq kq pq)) (w.heap.size + 1 + 1) 69 #[.bool false, .slice none 0 0, .bool false, .slice none 0 0] := (i3d.away (by omega) _).away (by omega) _
        have e4 := (iNd.away (h := w.heap.size) (i := 0) (by omega) (.bool bq)).away (h := w.heap.size) (i := 1) (by omega) (.slice aq kq pq)
        have f1 := Lib.hid (hq.two i1d (by decide) (.bool bq) (.slice aq kq pq))
        have f2 := Lib.hid ((M2.out.below hVd).two i1d (by decide) (.bool bq) (.slice aq kq pq))
        have f3 := Lib.hid ((hR.out.below hVd).two i1d (by decide) (.bool bq) (.slice aq kq pq))
        have f4 := Lib.hid (below_two (g := w.heap.size) (HKV.out.trans (hVd.mono (HKV.out.size))) (Nat.le_refl _) (.bool bq) (.slice aq kq pq))
        clear hq hr d0 d1 d2 d3 z0 z1 z2 z3 z4 z5 n0 n1 i1d i2d i3d iNd
        generalize ((Vd.setCell ⟨w.heap.size, 0, none⟩ (.bool bq)).setCell ⟨w.heap.size, 1, none⟩ (.slice aq kq pq)) = We at *
        have z2 := e2.cell0
        have z3 := e2.cell1
        have n0 := e4.cell0
        have n1 := e4.cell1
        go_upto_region 7 with (go_at_call 85; refine (div_any f2.out f3.out s2 HFIT.out HNE.out).mono ?_; rintro e Vf ⟨q2, r2, rfl, hq2, hr2, hVf⟩; obtain ⟨bq2, aq2, kq2, pq2, rfl⟩ := hq2.parts; obtain ⟨bz2, az2, kz2, pz2, rfl⟩ := hr2.parts; have i2f := e2.next hVf; have d0 := i2f.cell0; have d1 := i2f.cell1; have d2 := i2f.frozen 0; have d3 := i2f.frozen 1)
        have g2 := i2f.two (.bool bq2) (.slice aq2 kq2 pq2)
        have g1 : Blk ((Vf.setCell ⟨w.heap.size + 1, 0, none⟩ (.bool bq2)).setCell ⟨w.heap.size + 1, 1, none⟩ (.slice aq2 kq2 pq2)) w.heap.size 65 #[.bool bq, .slice aq kq pq] := ((e1.out.next hVf).away (by omega) _).away (by omega) _
        have g3 : Blk ((Vf.setCell ⟨w.heap.size + 1, 0, none⟩ (.bool bq2)).setCell ⟨w.heap.size + 1, 1, none⟩ (.slice aq2 kq2 pq2)) (w.heap.size + 1 + 1) 69 #[.bool false, .slice none 0 0, .bool false, .slice none 0 0] := ((e3.next hVf).away (by omega) _).away (by omega) _
        have h1 := Lib.hid ((f1.out.below hVf).two i2f (by decide) (.bool bq2) (.slice aq2 kq2 pq2))
        have h2 := Lib.hid (hq2.two i2f (by decide) (.bool bq2) (.slice aq2 kq2 pq2))
        have h4 := Lib.hid (below_two (g := w.heap.size + 1) (f4.out.trans (hVf.mono (f4.out.size))) (by omega) (.bool bq2) (.slice aq2 kq2 pq2))
        clear hq2 hr2 d0 d1 d2 d3 z2 z3 n0 n1 i2f
        generalize ((Vf.setCell ⟨w.heap.size + 1, 0, none⟩ (.bool bq2)).setCell ⟨w.heap.size + 1, 1, none⟩ (.slice aq2 kq2 pq2)) = Wg at *
        have z0 := g1.cell0
        have z1 := g1.cell1
        have z2 := g2.cell0
        have z3 := g2.cell1
        have z4 := g3.at4
        have z5 := g3.fr4
        go_wp2
        have ff := g3.four (.bool bq) (.slice aq kq pq) (.bool bq2) (.slice aq2 kq2 pq2)
        obtain ⟨d0, d1, d2, d3⟩ := ff.at4
        refine bodyPost_ret (v := .agg #[.bool bq, .slice aq kq pq, .bool bq2, .slice aq2 kq2 pq2]) (by simp [results, Tryz.results96, go_sem, d0, d1, d2, d3]) rfl ⟨_, rfl, Nm.mk ?_ ?_, below_four h4.out (by omega) _ _ _ _⟩
        · rw [← HDN.out]; exact h1.out.four g3 (by decide) _ _ _ _
        · rw [← HDD.out]; exact h2.out.four g3 (by decide) _ _ _ _
      · subst h
        have ed : decide (red m n < 0) = false := by simpa using h'
        have hx1 := hne1 h' (Nat.le_refl _)
        obtain ⟨bl, ol, rfl, hx⟩ := HCELL.out.1 _ (HCELL.out.2 (Nat.le_refl _) h')
        clear h'
        generalize decide (red m n < 0) = sr at *
        subst ed
        generalize (limbs (red m n).natAbs).getD 0 0 = x at *
        have hx2 : ((x : Int) != 1) = true := by simp; omega
        clear hne1
        go_upto_region 5 with fail
        clear HCELL
        go_upto_region 6 with (go_at_call 85; refine (div_any M1.out hR.out s1 HFIT.out HNE.out).mono ?_; rintro e Vd ⟨q, r, rfl, hq, hr, hVd⟩; obtain ⟨bq, aq, kq, pq, rfl⟩ := hq.parts; obtain ⟨bz, az, kz, pz, rfl⟩ := hr.parts; have i1d := i1'.next hVd; have d0 := i1d.cell0; have d1 := i1d.cell1; have d2 := i1d.frozen 0; have d3 := i1d.frozen 1)
        have i2d := (i2'.next hVd)
        have i3d := (i3'.next hVd)
        have iNd := (hN.out.next hVd)
        have e1 := Lib.hid (i1d.two (.bool bq) (.slice aq kq pq))
        have e2 : Blk ((Vd.setCell ⟨w.heap.size, 0, none⟩ (.bool bq)).setCell ⟨w.heap.size, 1, none⟩ (.slice aq kq pq)) (w.heap.size + 1) 65 #[.bool c, .slice a2 k2 p2] := (i2d.away (by omega) _).away (by omega) _
        have e3 : Blk ((Vd.setCell ⟨w.heap.size, 0, none⟩ (.bool bq)).setCell ⟨w.heap.size, 1, none⟩ (.slice aq kq pq)) (w.heap.size + 1 + 1) 69 #[.bool false, .slice none 0 0, .bool false, .slice none 0 0] := (i3d.away (by omega) _).away (by omega) _
        have e4 := (iNd.away (h := w.heap.size) (i := 0) (by omega) (.bool bq)).away (h := w.heap.size) (i := 1) (by omega) (.slice aq kq pq)
        have f1 := Lib.hid (hq.two i1d (by decide) (.bool bq) (.slice aq kq pq))
        have f2 := Lib.hid ((M2.out.below hVd).two i1d (by decide) (.bool bq) (.slice aq kq pq))
        have f3 := Lib.hid ((hR.out.below hVd).two i1d (by decide) (.bool bq) (.slice aq kq pq))
        have f4 := Lib.hid (below_two (g := w.heap.size) (HKV.out.trans (hVd.mono (HKV.out.size))) (Nat.le_refl _) (.bool bq) (.slice aq kq pq))
        clear hq hr d0 d1 d2 d3 z0 z1 z2 z3 z4 z5 n0 n1 i1d i2d i3d iNd
        generalize ((Vd.setCell ⟨w.heap.size, 0, none⟩ (.bool bq)).setCell ⟨w.heap.size, 1, none⟩ (.slice aq kq pq)) = We at *
        have z2 := e2.cell0
        have z3 := e2.cell1
        have n0 := e4.cell0
        have n1 := e4.cell1
        go_upto_region 7 with (go_at_call 85; refine (div_any f2.out f3.out s2 HFIT.out HNE.out).mono ?_; rintro e Vf ⟨q2, r2, rfl, hq2, hr2, hVf⟩; obtain ⟨bq2, aq2, kq2, pq2, rfl⟩ := hq2.parts; obtain ⟨bz2, az2, kz2, pz2, rfl⟩ := hr2.parts; have i2f := e2.next hVf; have d0 := i2f.cell0; have d1 := i2f.cell1; have d2 := i2f.frozen 0; have d3 := i2f.frozen 1)
        have g2 := i2f.two (.bool bq2) (.slice aq2 kq2 pq2)
        have g1 : Blk ((Vf.setCell ⟨w.heap.size + 1, 0, none⟩ (.bool bq2)).setCell ⟨w.heap.size + 1, 1, none⟩ (.slice aq2 kq2 pq2)) w.heap.size 65 #[.bool bq, .slice aq kq pq] := ((e1.out.next hVf).away (by omega) _).away (by omega) _
        have g3 : Blk ((Vf.setCell ⟨w.heap.size + 1, 0, none⟩ (.bool bq2)).setCell ⟨w.heap.size + 1, 1, none⟩ (.slice aq2 kq2 pq2)) (w.heap.size + 1 + 1) 69 #[.bool false, .slice none 0 0, .bool false, .slice none 0 0] := ((e3.next hVf).away (by omega) _).away (by omega) _
        have h1 := Lib.hid ((f1.out.below hVf).two i2f (by decide) (.bool bq2) (.slice aq2 kq2 pq2))
        have h2 := Lib.hid (hq2.two i2f (by decide) (.bool bq2) (.slice aq2 kq2 pq2))
        have h4 := Lib.hid (below_two (g := w.heap.size + 1) (f4.out.trans (hVf.mono (f4.out.size))) (by omega) (.bool bq2) (.slice aq2 kq2 pq2))
        clear hq2 hr2 d0 d1 d2 d3 z2 z3 n0 n1 i2f
        generalize ((Vf.setCell ⟨w.heap.size + 1, 0, none⟩ (.bool bq2)).setCell ⟨w.heap.size + 1, 1, none⟩ (.slice aq2 kq2 pq2)) = Wg at *
        have z0 := g1.cell0
        have z1 := g1.cell1
        have z2 := g2.cell0
        have z3 := g2.cell1
        have z4 := g3.at4
        have z5 := g3.fr4
        go_wp2
        have ff := g3.four (.bool bq) (.slice aq kq pq) (.bool bq2) (.slice aq2 kq2 pq2)
        obtain ⟨d0, d1, d2, d3⟩ := ff.at4
        refine bodyPost_ret (v := .agg #[.bool bq, .slice aq kq pq, .bool bq2, .slice aq2 kq2 pq2]) (by simp [results, Tryz.results96, go_sem, d0, d1, d2, d3]) rfl ⟨_, rfl, Nm.mk ?_ ?_, below_four h4.out (by omega) _ _ _ _⟩
        · rw [← HDN.out]; exact h1.out.four g3 (by decide) _ _ _ _
        · rw [← HDD.out]; exact h2.out.four g3 (by decide) _ _ _ _

end Go.Proofs.YtmhneibcbjgedaaGreatDoor
