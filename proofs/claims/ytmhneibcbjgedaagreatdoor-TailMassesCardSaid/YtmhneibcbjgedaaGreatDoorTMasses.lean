/- TailMasses answers true. -/
import Derived.Test.YtmhneibcbjgedaaGreatDoorS9a
set_option linter.unusedSimpArgs false
set_option linter.unusedVariables false
namespace Go.Proofs.YtmhneibcbjgedaaGreatDoor
open Go.RowKit
open Go.Lib (decDigits itoa nDigits)
open D4 (rt it Mid)

theorem ch_of_err {l : List UInt8} (h : chErr true l = 0) : ∃ x, l = ratText x ∧ Ch x := by
  have h0 : rerr l = 0 := by
    unfold chErr at h
    by_cases h0 : rerr l = 0
    · exact h0
    · rw [if_neg h0] at h; exact h
  have hl := rerr_canon (l := l) (by omega)
  unfold chErr at h
  rw [if_pos h0] at h
  have hn : noChance (rshort l) true (rval l).num.sign (rcmp (rval l) 1) = false := by
    cases hh : noChance (rshort l) true (rval l).num.sign (rcmp (rval l) 1)
    · rfl
    · rw [hh] at h; simp at h
  unfold noChance at hn
  simp at hn
  obtain ⟨⟨hs, h1⟩, h2⟩ := hn
  refine ⟨rval l, hl, ?_, ?_, ?_⟩
  · exact h1
  · exact rcmp_le.1 h2
  · unfold rshort at hs
    rw [Int.natAbs_natCast] at hs
    simp at hs
    exact ⟨by omega, by omega⟩
theorem Blk.at3 {w : World} {g : Nat} {t : TypeId} {u0 u1 u2 : Value} (h : Blk w g t #[u0, u1, u2]) : w.cell? ⟨g, 0, none⟩ = some u0 ∧ w.cell? ⟨g, 1, none⟩ = some u1 ∧ w.cell? ⟨g, 2, none⟩ = some u2 :=
  ⟨by simpa using h.cell 0, by simpa using h.cell 1, by simpa using h.cell 2⟩
theorem text60 {x : Rat} (h : fitsD 4 x) : (ratText x).length ≤ 60 := by
  unfold ratText
  rw [List.length_append]
  have h1 := itoa_len x.num
  have h2 := h.1
  have h3 := h.2
  have h4 := Lib.decDigits_length x.den
  split
  · simp; omega
  · simp; omega
theorem cut_text (S : ByteArray) (m : Nat) : S.extract 0 m = ⟨(S.data.toList.take m).toArray⟩ := by
  have h := extract_list S.data.toList 0 m
  simpa using h
theorem ix4 (A B C D : Int) (E F G H : Int) (S T U V : ByteArray) (X : World) :
    (Instr.index 40 (.agg #[.int .i64 A, .int .i64 E, .string S, .int .i64 B, .int .i64 F, .string T, .int .i64 C, .int .i64 G, .string U, .int .i64 D, .int .i64 H, .string V]) (.int .i64 0)).run Tryz.prog X = .ok (.agg #[.int .i64 A, .int .i64 E, .string S]) X := by kernel_rfl
theorem ix4b (A B C D : Int) (E F G H : Int) (S T U V : ByteArray) (X : World) :
    (Instr.index 40 (.agg #[.int .i64 A, .int .i64 E, .string S, .int .i64 B, .int .i64 F, .string T, .int .i64 C, .int .i64 G, .string U, .int .i64 D, .int .i64 H, .string V]) (.int .i64 1)).run Tryz.prog X = .ok (.agg #[.int .i64 B, .int .i64 F, .string T]) X := by kernel_rfl
theorem ix4c (A B C D : Int) (E F G H : Int) (S T U V : ByteArray) (X : World) :
    (Instr.index 40 (.agg #[.int .i64 A, .int .i64 E, .string S, .int .i64 B, .int .i64 F, .string T, .int .i64 C, .int .i64 G, .string U, .int .i64 D, .int .i64 H, .string V]) (.int .i64 2)).run Tryz.prog X = .ok (.agg #[.int .i64 C, .int .i64 G, .string U]) X := by kernel_rfl
theorem ix4d (A B C D : Int) (E F G H : Int) (S T U V : ByteArray) (X : World) :
    (Instr.index 40 (.agg #[.int .i64 A, .int .i64 E, .string S, .int .i64 B, .int .i64 F, .string T, .int .i64 C, .int .i64 G, .string U, .int .i64 D, .int .i64 H, .string V]) (.int .i64 3)).run Tryz.prog X = .ok (.agg #[.int .i64 D, .int .i64 H, .string V]) X := by kernel_rfl

set_option maxHeartbeats 16000000 in
set_option maxRecDepth 100000 in
theorem masses_law {w : World} (n0 k0 : Int) (S0 : ByteArray) (n k p dd gr : Int) (z0 : 0 ≤ n) (z1 : n ≤ 255) (y0 : 0 ≤ k) (y1 : k ≤ 255) (q0 : 0 ≤ p) (q1 : p ≤ 255) (e0 : 0 ≤ dd) (e1 : dd ≤ 255) (h0 : 0 ≤ gr) (h1 : gr ≤ 255) (hg : Good w) :
    Calls Tryz.prog 5 #[.int .i64 n0, .int .i64 k0, .string S0, .agg #[.int .u8 n, .int .u8 k, .int .u8 p, .int .u8 dd, .int .u8 gr]] w (RetV w (.bool true)) := by
  obtain ⟨N, K, P, D, G, ha, hA⟩ := args_any n k p dd gr z0 z1 y0 y1 q0 q1 e0 e1 h0 h1
  have HA := Lib.hid hA
  have hch := ha.ch
  have H1 := Lib.hid (fun (V : World) (hV : Good V) => works_any hV)
  obtain ⟨m, hm⟩ : ∃ m : Nat, m = min S0.size 60 := ⟨_, rfl⟩
  have hmi : min (S0.size : Int) 60 = (m : Int) := by omega
  have hms : m ≤ S0.size := by omega
  have hmS : (m : Int) ≤ (S0.size : Int) := by omega
  obtain ⟨lp, hlp⟩ : ∃ l, l = S0.data.toList.take m := ⟨_, rfl⟩
  have hS : S0.extract 0 m = ⟨lp.toArray⟩ := by rw [cut_text, ← hlp]
  have hll : lp.length ≤ 60 := by rw [hlp, List.length_take]; omega
  have hql : (ratText P).length ≤ 60 := text60 hch.fit
  have hrP : rt P = ⟨(ratText P).toArray⟩ := rfl
  rw [hrP] at hA HA
  have HA := Lib.hid hA
  generalize ratText P = lq at *
  generalize rt D = RD at *
  have HQL := Lib.hid hql
  have HLL := Lib.hid hll
  have HS := Lib.hid hS
  obtain ⟨W, hW, hB, hsz, j⟩ := entA w 36 #[.int .u8 n, .int .u8 k, .int .u8 p, .int .u8 dd, .int .u8 gr]
  have HG := Lib.hid (fun (V : World) (hV : Below W.heap.size W V) => (hg.below hB).below hV)
  have HW := Lib.hid hW
  have HB := Lib.hid hB
  have J := Lib.hid j
  clear hA ha hch hrP hlp hS hll hql hm hg hW hB hsz j z0 z1 y0 y1 q0 q1 e0 e1 h0 h1
  go_enter Tryz.func5, Tryz.ntmps5
  go_upto_region 1 with fail
  rw [← HW.out]
  go_wp2_with fail
  refine (H1.out _ (HG.out _ (Below.refl _ _))).mono ?_
  rintro e wn ⟨rfl, b1⟩
  have jn := J.out.next b1
  have c0 := jn.cell 0
  have c1 := jn.cell 1
  have c2 := jn.cell 2
  have c3 := jn.cell 3
  have c4 := jn.cell 4
  simp at c0 c1 c2 c3 c4
  have B1 := Lib.hid b1
  clear b1 jn
  go_wp2_with fail
  refine (HA.out _ (HG.out _ B1.out)).mono ?_
  rintro e wn2 ⟨rfl, b2⟩
  have B2 := Lib.hid (next_below B1.out b2)
  clear b2 c0 c1 c2 c3 c4 H1 HA
  go_upto_region 5 with fail
  rw [HS.out]
  generalize (N : Int) = a at *
  generalize (K : Int) = b at *
  clear hmi hms hmS HS
  go_wp2
  go_loopg [55] 4 (fun gk u55 wr => ∃ i : Nat, u55 = .int .i64 (i : Int) ∧ i + gk = 4 ∧ Hid (Below W.heap.size W wr))
  case atStart => exact ⟨0, rfl, rfl, B2⟩
  case round =>
    obtain ⟨i, rfl, hi, hK⟩ := hrel
    by_cases hi4 : i < 4
    · have hi5 : (i : Int) < 4 := by omega
      obtain ⟨ni, ki, l, T, hT, hx, hl⟩ : ∃ (ni ki : Int) (l : List UInt8) (T : ByteArray), T = ⟨l.toArray⟩ ∧ (∀ X, (Instr.index 40 (.agg #[.int .i64 n0, .int .i64 k0, .string ⟨lp.toArray⟩, .int .i64 a, .int .i64 k0, .string ⟨lp.toArray⟩, .int .i64 a, .int .i64 b, .string ⟨lp.toArray⟩, .int .i64 a, .int .i64 b, .string ⟨lq.toArray⟩]) (.int .i64 (i : Int))).run Tryz.prog X = .ok (.agg #[.int .i64 ni, .int .i64 ki, .string T]) X) ∧ Hid (l.length ≤ 60) := by
        obtain rfl | rfl | rfl | rfl : i = 0 ∨ i = 1 ∨ i = 2 ∨ i = 3 := by omega
        · exact ⟨n0, k0, lp, _, rfl, fun X => ix4 _ _ _ _ _ _ _ _ _ _ _ _ X, HLL⟩
        · exact ⟨a, k0, lp, _, rfl, fun X => ix4b _ _ _ _ _ _ _ _ _ _ _ _ X, HLL⟩
        · exact ⟨a, b, lp, _, rfl, fun X => ix4c _ _ _ _ _ _ _ _ _ _ _ _ X, HLL⟩
        · exact ⟨a, b, lq, _, rfl, fun X => ix4d _ _ _ _ _ _ _ _ _ _ _ _ X, HQL⟩
      clear HLL HQL
      -- ROUND
      have hLT := hl.out
      obtain ⟨Wx, hWx, hBx, hszx, jx⟩ := entA wr 39 #[.int .i64 ni, .int .i64 ki, .string T]
      have K0 := Lib.hid (next_below hK.out hBx)
      have J0 := Lib.hid jx
      obtain ⟨c0, c1, c2⟩ := jx.at3
      have HWX := Lib.hid hWx
      have HT := Lib.hid hT
      clear hBx hszx jx hWx hl hT
      go_upto_region 8 with fail
      rw [← HWX.out]
      have hT := HT.out
      clear HT
      generalize wr.heap.size = gx at *
      clear HWX hK hx
      have fm := fun (V : World) (hV : Good V) => mass_any (w := V) ni ki l (by omega) hV
      have fl := fun (V : World) (hV : Good V) => least_any (w := V) ni ki l (by omega) hV
      have fc := fun (V : World) (hV : Good V) => choose_any (w := V) ni ki hV
      have fk := fun (V : World) (hV : Good V) => counts_ref (w := V) ni ki
      have fh := fun (V : World) (hV : Good V) => chance_ref (w := V) l true (by omega) hV
      rw [← hT] at fm fl fh
      by_cases hc : cnt ni ki = 0
      · obtain ⟨n', k', rfl, rfl, hn, hk⟩ := cnt_ok hc
        have ecnt : decide (cnt (n' : Int) (k' : Int) = 0) = true := by rw [hc]; rfl
        have em : errM (n' : Int) (k' : Int) l = chErr true l := by unfold errM; rw [if_pos hc]
        rw [em] at fm fl
        rw [hc, if_pos rfl, Int.toNat_natCast, chz_bin n' k' hk] at fc
        have HC := Lib.hid (show ∀ V : World, Good V → Calls Tryz.prog 11 #[.int .i64 (n' : Int), .int .i64 (k' : Int)] V (RetV V (.tuple #[.string (it ((bin n' k' : Nat) : Int)), .int .i64 0])) from fc)
        rw [ecnt] at fk
        have HK := Lib.hid fk
        have HR := Lib.hid (fun (h : n' ≤ 40) (V : World) (hV : Good V) => choose_ref (w := V) n' k' h hk hV)
        generalize it ((bin n' k' : Nat) : Int) = CT at *
        clear fc fk ecnt em
        by_cases hz : chErr true l = 0
        · obtain ⟨x, hx, hch⟩ := ch_of_err hz
          rw [hz] at fh
          have hTx : rt x = T := by rw [hT, hx]; rfl
          have fm2 := fun (V : World) (hV : Good V) => mass_rt (w := V) hch hn hk hV
          have fl2 := fun (V : World) (hV : Good V) => least_rt (w := V) hch hn hk hV
          have gm := fun (h : n' ≤ 10) (V : World) (hV : Good V) => mass_ref (w := V) hch h hk hV
          have gl := fun (h : n' ≤ 10) (V : World) (hV : Good V) => least_ref (w := V) (n := n') (k := k') hch h (by omega) hV
          rw [hTx] at fm2 fl2 gm gl
          have HM := Lib.hid fm2
          have HL := Lib.hid fl2
          have HH := Lib.hid fh
          have GM := Lib.hid gm
          have GL := Lib.hid gl
          generalize rt (ms n' k' x) = MT at *
          generalize rt (U n' k' x) = LT at *
          clear fm fl fh fm2 fl2 gm gl hTx hch hx hT hLT hz
          by_cases h10 : n' ≤ 10
          · have i40 : (n' : Int) ≤ 40 := by omega
            have i10 : (n' : Int) ≤ 10 := by omega
            have HR2 := Lib.hid (HR.out (by omega))
            have GM2 := Lib.hid (GM.out h10)
            have GL2 := Lib.hid (GL.out h10)
            clear HR GM GL h10 hc hn hk
            generalize (n' : Int) = nn at *
            generalize (k' : Int) = kk' at *
            go_wp2_with fail
            refine (HC.out _ (HG.out _ K0.out)).mono ?_
            rintro e V ⟨rfl, kk⟩
            have K1 := Lib.hid (next_below K0.out kk)
            have J1 := Lib.hid (J0.out.next kk)
            clear kk c0 c1 c2
            obtain ⟨c0, c1, c2⟩ := J1.out.at3
            go_wp2_with fail
            refine (HM.out _ (HG.out _ K1.out)).mono ?_
            rintro e V ⟨rfl, kk⟩
            have K2 := Lib.hid (next_below K1.out kk)
            have J2 := Lib.hid (J1.out.next kk)
            clear kk c0 c1 c2
            obtain ⟨c0, c1, c2⟩ := J2.out.at3
            go_wp2_with fail
            refine (HL.out _ (HG.out _ K2.out)).mono ?_
            rintro e V ⟨rfl, kk⟩
            have K3 := Lib.hid (next_below K2.out kk)
            have J3 := Lib.hid (J2.out.next kk)
            clear kk c0 c1 c2
            obtain ⟨c0, c1, c2⟩ := J3.out.at3
            go_wp2_with fail
            refine (HK.out _ (HG.out _ K3.out)).mono ?_
            rintro e V ⟨rfl, kk⟩
            have K4 := Lib.hid (next_below K3.out kk)
            have J4 := Lib.hid (J3.out.next kk)
            clear kk c0 c1 c2
            obtain ⟨c0, c1, c2⟩ := J4.out.at3
            go_wp2_with fail
            refine (HR2.out _ (HG.out _ K4.out)).mono ?_
            rintro e V ⟨rfl, kk⟩
            have K5 := Lib.hid (next_below K4.out kk)
            have J5 := Lib.hid (J4.out.next kk)
            clear kk c0 c1 c2
            obtain ⟨c0, c1, c2⟩ := J5.out.at3
            go_wp2_with fail
            refine (HH.out _ (HG.out _ K5.out)).mono ?_
            rintro e V ⟨rfl, kk⟩
            have K6 := Lib.hid (next_below K5.out kk)
            have J6 := Lib.hid (J5.out.next kk)
            clear kk c0 c1 c2
            obtain ⟨c0, c1, c2⟩ := J6.out.at3
            go_wp2_with fail
            refine (GM2.out _ (HG.out _ K6.out)).mono ?_
            rintro e V ⟨rfl, kk⟩
            have K7 := Lib.hid (next_below K6.out kk)
            have J7 := Lib.hid (J6.out.next kk)
            clear kk c0 c1 c2
            obtain ⟨c0, c1, c2⟩ := J7.out.at3
            go_wp2_with fail
            refine (GL2.out _ (HG.out _ K7.out)).mono ?_
            rintro e V ⟨rfl, kk⟩
            have K8 := Lib.hid (next_below K7.out kk)
            have J8 := Lib.hid (J7.out.next kk)
            clear kk c0 c1 c2
            obtain ⟨c0, c1, c2⟩ := J8.out.at3
            go_wp2
            go_roundg (gk - 1)
            case rel => exact ⟨i + 1, by go_num, by omega, K8⟩
            case measure => omega
          · have i10 : ¬ (n' : Int) ≤ 10 := by omega
            by_cases h40 : n' ≤ 40
            · have i40 : (n' : Int) ≤ 40 := by omega
              have HR2 := Lib.hid (HR.out (by omega))
              clear HR GM GL h10 h40 hc hn hk
              generalize (n' : Int) = nn at *
              generalize (k' : Int) = kk' at *
              go_wp2_with fail
              refine (HC.out _ (HG.out _ K0.out)).mono ?_
              rintro e V ⟨rfl, kk⟩
              have K1 := Lib.hid (next_below K0.out kk)
              have J1 := Lib.hid (J0.out.next kk)
              clear kk c0 c1 c2
              obtain ⟨c0, c1, c2⟩ := J1.out.at3
              go_wp2_with fail
              refine (HM.out _ (HG.out _ K1.out)).mono ?_
              rintro e V ⟨rfl, kk⟩
              have K2 := Lib.hid (next_below K1.out kk)
              have J2 := Lib.hid (J1.out.next kk)
              clear kk c0 c1 c2
              obtain ⟨c0, c1, c2⟩ := J2.out.at3
              go_wp2_with fail
              refine (HL.out _ (HG.out _ K2.out)).mono ?_
              rintro e V ⟨rfl, kk⟩
              have K3 := Lib.hid (next_below K2.out kk)
              have J3 := Lib.hid (J2.out.next kk)
              clear kk c0 c1 c2
              obtain ⟨c0, c1, c2⟩ := J3.out.at3
              go_wp2_with fail
              refine (HK.out _ (HG.out _ K3.out)).mono ?_
              rintro e V ⟨rfl, kk⟩
              have K4 := Lib.hid (next_below K3.out kk)
              have J4 := Lib.hid (J3.out.next kk)
              clear kk c0 c1 c2
              obtain ⟨c0, c1, c2⟩ := J4.out.at3
              go_wp2_with fail
              refine (HR2.out _ (HG.out _ K4.out)).mono ?_
              rintro e V ⟨rfl, kk⟩
              have K5 := Lib.hid (next_below K4.out kk)
              have J5 := Lib.hid (J4.out.next kk)
              clear kk c0 c1 c2
              obtain ⟨c0, c1, c2⟩ := J5.out.at3
              go_wp2_with fail
              refine (HH.out _ (HG.out _ K5.out)).mono ?_
              rintro e V ⟨rfl, kk⟩
              have K6 := Lib.hid (next_below K5.out kk)
              have J6 := Lib.hid (J5.out.next kk)
              clear kk c0 c1 c2
              obtain ⟨c0, c1, c2⟩ := J6.out.at3
              go_wp2
              go_roundg (gk - 1)
              case rel => exact ⟨i + 1, by go_num, by omega, K6⟩
              case measure => omega
            · have i40 : ¬ (n' : Int) ≤ 40 := by omega
              clear HR GM GL h10 h40 hc hn hk
              generalize (n' : Int) = nn at *
              generalize (k' : Int) = kk' at *
              go_wp2_with fail
              refine (HC.out _ (HG.out _ K0.out)).mono ?_
              rintro e V ⟨rfl, kk⟩
              have K1 := Lib.hid (next_below K0.out kk)
              have J1 := Lib.hid (J0.out.next kk)
              clear kk c0 c1 c2
              obtain ⟨c0, c1, c2⟩ := J1.out.at3
              go_wp2_with fail
              refine (HM.out _ (HG.out _ K1.out)).mono ?_
              rintro e V ⟨rfl, kk⟩
              have K2 := Lib.hid (next_below K1.out kk)
              have J2 := Lib.hid (J1.out.next kk)
              clear kk c0 c1 c2
              obtain ⟨c0, c1, c2⟩ := J2.out.at3
              go_wp2_with fail
              refine (HL.out _ (HG.out _ K2.out)).mono ?_
              rintro e V ⟨rfl, kk⟩
              have K3 := Lib.hid (next_below K2.out kk)
              have J3 := Lib.hid (J2.out.next kk)
              clear kk c0 c1 c2
              obtain ⟨c0, c1, c2⟩ := J3.out.at3
              go_wp2_with fail
              refine (HK.out _ (HG.out _ K3.out)).mono ?_
              rintro e V ⟨rfl, kk⟩
              have K4 := Lib.hid (next_below K3.out kk)
              have J4 := Lib.hid (J3.out.next kk)
              clear kk c0 c1 c2
              obtain ⟨c0, c1, c2⟩ := J4.out.at3
              go_wp2_with fail
              refine (HH.out _ (HG.out _ K4.out)).mono ?_
              rintro e V ⟨rfl, kk⟩
              have K5 := Lib.hid (next_below K4.out kk)
              have J5 := Lib.hid (J4.out.next kk)
              clear kk c0 c1 c2
              obtain ⟨c0, c1, c2⟩ := J5.out.at3
              go_wp2
              go_roundg (gk - 1)
              case rel => exact ⟨i + 1, by go_num, by omega, K5⟩
              case measure => omega
        · rw [if_neg hz] at fm fl
          have hzb : (chErr true l == 0) = false := by rw [beq_eq_false_iff_ne]; exact hz
          generalize chErr true l = er at *
          have HM := Lib.hid (show ∀ V : World, Good V → Calls Tryz.prog 12 #[.int .i64 (n' : Int), .int .i64 (k' : Int), .string T] V (RetV V (.tuple #[.string ⟨#[]⟩, .int .i64 er])) from fm)
          have HL := Lib.hid (show ∀ V : World, Good V → Calls Tryz.prog 14 #[.int .i64 (n' : Int), .int .i64 (k' : Int), .string T] V (RetV V (.tuple #[.string ⟨#[]⟩, .int .i64 er])) from fl)
          have HH := Lib.hid fh
          clear fm fl fh hT hLT
          by_cases h40 : n' ≤ 40
          · have i40 : (n' : Int) ≤ 40 := by omega
            have HR2 := Lib.hid (HR.out (by omega))
            clear HR h40 hc hn hk
            generalize (n' : Int) = nn at *
            generalize (k' : Int) = kk' at *
            go_wp2_with fail
            refine (HC.out _ (HG.out _ K0.out)).mono ?_
            rintro e V ⟨rfl, kk⟩
            have K1 := Lib.hid (next_below K0.out kk)
            have J1 := Lib.hid (J0.out.next kk)
            clear kk c0 c1 c2
            obtain ⟨c0, c1, c2⟩ := J1.out.at3
            go_wp2_with fail
            refine (HM.out _ (HG.out _ K1.out)).mono ?_
            rintro e V ⟨rfl, kk⟩
            have K2 := Lib.hid (next_below K1.out kk)
            have J2 := Lib.hid (J1.out.next kk)
            clear kk c0 c1 c2
            obtain ⟨c0, c1, c2⟩ := J2.out.at3
            go_wp2_with fail
            refine (HL.out _ (HG.out _ K2.out)).mono ?_
            rintro e V ⟨rfl, kk⟩
            have K3 := Lib.hid (next_below K2.out kk)
            have J3 := Lib.hid (J2.out.next kk)
            clear kk c0 c1 c2
            obtain ⟨c0, c1, c2⟩ := J3.out.at3
            go_wp2_with fail
            refine (HK.out _ (HG.out _ K3.out)).mono ?_
            rintro e V ⟨rfl, kk⟩
            have K4 := Lib.hid (next_below K3.out kk)
            have J4 := Lib.hid (J3.out.next kk)
            clear kk c0 c1 c2
            obtain ⟨c0, c1, c2⟩ := J4.out.at3
            go_wp2_with fail
            refine (HR2.out _ (HG.out _ K4.out)).mono ?_
            rintro e V ⟨rfl, kk⟩
            have K5 := Lib.hid (next_below K4.out kk)
            have J5 := Lib.hid (J4.out.next kk)
            clear kk c0 c1 c2
            obtain ⟨c0, c1, c2⟩ := J5.out.at3
            go_wp2_with fail
            refine (HH.out _ (HG.out _ K5.out)).mono ?_
            rintro e V ⟨rfl, kk⟩
            have K6 := Lib.hid (next_below K5.out kk)
            have J6 := Lib.hid (J5.out.next kk)
            clear kk c0 c1 c2
            obtain ⟨c0, c1, c2⟩ := J6.out.at3
            go_wp2
            go_roundg (gk - 1)
            case rel => exact ⟨i + 1, by go_num, by omega, K6⟩
            case measure => omega
          · have i40 : ¬ (n' : Int) ≤ 40 := by omega
            clear HR h40 hc hn hk
            generalize (n' : Int) = nn at *
            generalize (k' : Int) = kk' at *
            go_wp2_with fail
            refine (HC.out _ (HG.out _ K0.out)).mono ?_
            rintro e V ⟨rfl, kk⟩
            have K1 := Lib.hid (next_below K0.out kk)
            have J1 := Lib.hid (J0.out.next kk)
            clear kk c0 c1 c2
            obtain ⟨c0, c1, c2⟩ := J1.out.at3
            go_wp2_with fail
            refine (HM.out _ (HG.out _ K1.out)).mono ?_
            rintro e V ⟨rfl, kk⟩
            have K2 := Lib.hid (next_below K1.out kk)
            have J2 := Lib.hid (J1.out.next kk)
            clear kk c0 c1 c2
            obtain ⟨c0, c1, c2⟩ := J2.out.at3
            go_wp2_with fail
            refine (HL.out _ (HG.out _ K2.out)).mono ?_
            rintro e V ⟨rfl, kk⟩
            have K3 := Lib.hid (next_below K2.out kk)
            have J3 := Lib.hid (J2.out.next kk)
            clear kk c0 c1 c2
            obtain ⟨c0, c1, c2⟩ := J3.out.at3
            go_wp2_with fail
            refine (HK.out _ (HG.out _ K3.out)).mono ?_
            rintro e V ⟨rfl, kk⟩
            have K4 := Lib.hid (next_below K3.out kk)
            have J4 := Lib.hid (J3.out.next kk)
            clear kk c0 c1 c2
            obtain ⟨c0, c1, c2⟩ := J4.out.at3
            go_wp2_with fail
            refine (HH.out _ (HG.out _ K4.out)).mono ?_
            rintro e V ⟨rfl, kk⟩
            have K5 := Lib.hid (next_below K4.out kk)
            have J5 := Lib.hid (J4.out.next kk)
            clear kk c0 c1 c2
            obtain ⟨c0, c1, c2⟩ := J5.out.at3
            go_wp2
            go_roundg (gk - 1)
            case rel => exact ⟨i + 1, by go_num, by omega, K5⟩
            case measure => omega
      · have e2 : cnt ni ki = 2 := by
          unfold cnt at hc ⊢
          by_cases h : 0 ≤ ni ∧ ni ≤ 200 ∧ 0 ≤ ki ∧ ki ≤ ni
          · rw [if_pos h] at hc; exact absurd rfl hc
          · rw [if_neg h]
        have em : errM ni ki l = 2 := by unfold errM; rw [if_neg hc, e2]
        have ecnt : decide (cnt ni ki = 0) = false := by rw [e2]; rfl
        rw [if_neg hc, e2] at fc
        rw [em, if_neg (by decide)] at fm fl
        rw [ecnt] at fk
        have HC := Lib.hid (show ∀ V : World, Good V → Calls Tryz.prog 11 #[.int .i64 ni, .int .i64 ki] V (RetV V (.tuple #[.string ⟨#[]⟩, .int .i64 2])) from fc)
        have HM := Lib.hid (show ∀ V : World, Good V → Calls Tryz.prog 12 #[.int .i64 ni, .int .i64 ki, .string T] V (RetV V (.tuple #[.string ⟨#[]⟩, .int .i64 2])) from fm)
        have HL := Lib.hid (show ∀ V : World, Good V → Calls Tryz.prog 14 #[.int .i64 ni, .int .i64 ki, .string T] V (RetV V (.tuple #[.string ⟨#[]⟩, .int .i64 2])) from fl)
        have HK := Lib.hid fk
        clear fc fm fl fk fh hT hLT e2 em ecnt hc
        go_wp2_with fail
        refine (HC.out _ (HG.out _ K0.out)).mono ?_
        rintro e V ⟨rfl, kk⟩
        have K1 := Lib.hid (next_below K0.out kk)
        have J1 := Lib.hid (J0.out.next kk)
        clear kk c0 c1 c2
        obtain ⟨c0, c1, c2⟩ := J1.out.at3
        go_wp2_with fail
        refine (HM.out _ (HG.out _ K1.out)).mono ?_
        rintro e V ⟨rfl, kk⟩
        have K2 := Lib.hid (next_below K1.out kk)
        have J2 := Lib.hid (J1.out.next kk)
        clear kk c0 c1 c2
        obtain ⟨c0, c1, c2⟩ := J2.out.at3
        go_wp2_with fail
        refine (HL.out _ (HG.out _ K2.out)).mono ?_
        rintro e V ⟨rfl, kk⟩
        have K3 := Lib.hid (next_below K2.out kk)
        have J3 := Lib.hid (J2.out.next kk)
        clear kk c0 c1 c2
        obtain ⟨c0, c1, c2⟩ := J3.out.at3
        go_wp2_with fail
        refine (HK.out _ (HG.out _ K3.out)).mono ?_
        rintro e V ⟨rfl, kk⟩
        have K4 := Lib.hid (next_below K3.out kk)
        have J4 := Lib.hid (J3.out.next kk)
        clear kk c0 c1 c2
        obtain ⟨c0, c1, c2⟩ := J4.out.at3
        go_wp2
        go_roundg (gk - 1)
        case rel => exact ⟨i + 1, by go_num, by omega, K4⟩
        case measure => omega
      -- END
    · obtain rfl : i = 4 := by omega
      go_wp2
      go_ret
      exact ⟨rfl, HB.out.trans (hK.out.mono HB.out.size)⟩
end Go.Proofs.YtmhneibcbjgedaaGreatDoor
