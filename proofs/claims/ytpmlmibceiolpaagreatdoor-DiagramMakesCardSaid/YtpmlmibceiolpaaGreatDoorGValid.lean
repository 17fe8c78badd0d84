/- Whether a diagram is valid. -/
import Derived.Test.YtpmlmibceiolpaaGreatDoorGSame
import Derived.Test.YtpmlmibceiolpaaGreatDoorCanon
import Derived.Deep.QuietTactic
import Derived.BigQuiet
set_option linter.unusedSimpArgs false
set_option linter.unusedVariables false
namespace Go.Proofs.YtpmlmibceiolpaaGreatDoor
open Go.RowKit

set_option maxHeartbeats 1000000 in
set_option maxRecDepth 100000 in
theorem rcheck_any {w : World} (l : List UInt8) (hl : l.length ≤ 268435000) (hg : Good w) :
    Calls Tryz.prog 61 #[.string ⟨l.toArray⟩] w (RetV w (.int .i64 (rerr l))) := by
  have hc := Lib.hid (rread_any l hl hg)
  generalize rerr l = err at *
  generalize rval l = x at *
  generalize (⟨l.toArray⟩ : ByteArray) = L at *
  have fl : ∀ (b c : Bool) (a f : Option Addr) (k p l q : Nat) (w : World), (Instr.field 150 (.agg #[.bool b, .slice a k p, .bool c, .slice f l q, .int .i64 err]) 1).run Tryz.prog w = .ok (.int .i64 err) w := by
    intro b c a f k p l q w
    exact field_err b c a f k p l q err w
  go_enter Tryz.func61, Tryz.ntmps61
  go_wp2_with (go_at_call 102; refine hc.out.mono ?_; rintro e w1 ⟨b, a, k, p, c, f, l, q, rfl, hn, hb⟩)
  go_ret
  exact ⟨rfl, hb⟩


set_option maxHeartbeats 1000000 in
set_option maxRecDepth 100000 in
theorem number_any {w : World} (l : List UInt8) (hl : l.length ≤ 268435000) (hg : Good w) :
    Calls Tryz.prog 34 #[.string ⟨l.toArray⟩] w (RetV w (.bool (decide (rerr l = 0)))) := by
  have HC := Lib.hid (rcheck_any l hl hg)
  obtain ⟨B, hB⟩ : ∃ B, B = decide (rerr l = 0) := ⟨_, rfl⟩
  rw [← hB]
  have HB := Lib.hid hB
  clear hB
  generalize rerr l = e0 at *
  go_enter Tryz.func34, Tryz.ntmps34
  go_wp2_with fail
  refine (HC.out).mono ?_
  rintro e w2 ⟨rfl, hb⟩
  by_cases h : e0 = 0
  · have hr : B = true := by rw [HB.out, decide_eq_true h]
    have HR := Lib.hid hr
    subst h
    clear hr
    go_wp2
    go_ret
    rw [HR.out]
    exact ⟨rfl, hb⟩
  · have hr : B = false := by rw [HB.out, decide_eq_false h]
    have HR := Lib.hid hr
    have HZ := Lib.hid (show (e0 == 0) = false from beq_eq_false_iff_ne.2 h)
    clear hr
    go_wp2
    go_ret
    rw [HR.out]
    exact ⟨by show Ending.returned (.bool (e0 == 0)) = _; rw [HZ.out], hb⟩

theorem below_drewN (w : World) (k : Nat) : Below w.heap.size w (w.drewN k) := ⟨rfl, rfl, rfl, Nat.le_refl _, fun _ _ => rfl⟩
/-- Are the sizes right? -/
def sizB (m : Int) (n : Nat) : Bool := decide (0 ≤ m ∧ m ≤ 6 ∧ 0 < n ∧ n ≤ 2 ^ (m.toNat + 1))
theorem shl2w : ∀ k : Nat, k ≤ 6 → IntKind.i64.wrap (2 * (2 : Int) ^ k) = ((2 ^ (k + 1) : Nat) : Int) := by decide +kernel
theorem shl2 : ∀ k : Nat, k ≤ 6 → wrap64 (2 * (2 : Int) ^ k) = ((2 ^ (k + 1) : Nat) : Int) := by decide +kernel

theorem Stab.dg (W : World) (m : Int) (l : List Nd) : Stab W (fun v w => Dg w v m l) := fun v w1 w2 _ h2 h => h.below h2
/-- Below B a world is as W0 is. -/
def Like (B : Nat) (W0 V : World) : Prop := ∀ j, j < B → V.heap[j]? = W0.heap[j]?
theorem Good.like {W0 V : World} (h : Good W0) (hs : W0.heap.size ≤ V.heap.size) (hl : Like W0.heap.size W0 V) : Good V := by
  have h1 : Good { W0 with heap := V.heap } := h.below ⟨rfl, rfl, rfl, hs, hl⟩
  exact h1
/-- A closure that writes nothing. -/
theorem NumC.quiet {f : Nat → List UInt8} {m : Nat} {W0 : World} {nid : Nat} {lb : Array Value} (hr : ∀ V x, x < 2 ^ m → W0.heap.size ≤ V.heap.size → Like W0.heap.size W0 V → Calls Tryz.prog nid (#[.int .i64 (x : Int)] ++ lb) V (RetV V (.string ⟨(f x).toArray⟩)))
    (he : ∀ args w, (callFunc nid args).run Tryz.prog w = .ok (.enter nid args) w) (hs : ∀ x, x < 2 ^ m → (f x).length ≤ maxLen) : NumC f m W0.heap.size none nid lb (Like W0.heap.size W0) (fun _ _ => True) where
  run W x hx hB hI := (hr W x hx hB hI).mono fun e W' ⟨h1, h2⟩ => ⟨h1, Chg.of h2, fun j hj => (h2.block j (by omega)).trans (hI j hj), trivial, fun _ _ => trivial⟩
  keepI W W' hB hk hI := fun j hj => (hk j hj).trans (hI j hj)
  keepS _ _ _ _ _ _ := trivial
  enter := he
  short := hs
  old g hg := by cases hg
theorem Chg.below {W W' : World} (h : Chg none W W') : Below W.heap.size W W' := ⟨h.os, h.tape, h.output, h.size, fun k hk => h.block k hk (by simp)⟩

set_option maxHeartbeats 1000000 in
set_option maxRecDepth 100000 in
theorem valid1_any {V : World} {gd k x : Nat} {s : Value} {l : List Nd} (hb : Blk V gd 31 #[.int .i64 (k : Int), s]) (hs : Nds V s l) (hw : WF k l) (h0 : 0 < l.length) (hl : l.length ≤ 100000) (hk6 : k ≤ 6) (hx : x < 64) :
    Calls Tryz.prog 65 #[.int .i64 (x : Int), .pointer (some ⟨gd, 0, none⟩)] V (RetV V (.string ⟨(evD k l x).toArray⟩)) := by
  have HA := Lib.hid (at_any (W := V) (v := .agg #[.int .i64 (k : Int), s]) ⟨s, rfl, hs⟩ hw h0 hl hk6 hx)
  have c0 : V.cell? ⟨gd, 0, none⟩ = some (.int .i64 (k : Int)) := hb.cell 0
  have c1 : V.cell? ⟨gd, 1, none⟩ = some s := hb.cell 1
  obtain ⟨a, c, rfl⟩ := hs.len
  clear hb hs hw h0 hl
  go_enter Tryz.func65, Tryz.ntmps65
  go_wp2_with fail
  refine (HA.out).mono ?_
  rintro e w2 ⟨rfl, hb⟩
  have HB := Lib.hid hb
  clear hb
  go_wp2
  go_ret
  exact ⟨rfl, HB.out⟩

set_option maxHeartbeats 4000000 in
set_option maxRecDepth 100000 in
theorem valid_any {W : World} {v : Value} {m : Int} {l : List Nd} (h : Dg W v m l) (hl : l.length ≤ 1000000) (ht : ∀ n ∈ l, n.2.2.2.length ≤ 268435000) (hg : Good W) :
    Calls Tryz.prog 38 #[v] W (RetV W (.bool (vldN m l))) := by
  obtain ⟨a, c, rfl, hs⟩ := h.parts
  obtain ⟨W1, hW1, hB1, hs1, j1⟩ := entA W 31 #[.int .i64 m, .slice a l.length c]
  have HW1 := Lib.hid hW1
  have d0 : W1.cell? ⟨W.heap.size, 0, none⟩ = some (.int .i64 m) := j1.cell 0
  have d1 : W1.cell? ⟨W.heap.size, 1, none⟩ = some (.slice a l.length c) := j1.cell 1
  obtain ⟨n, hn⟩ : ∃ n, n = l.length := ⟨_, rfl⟩
  rw [← hn] at d1 HW1 j1 hl
  rw [← hn]
  have HN := Lib.hid hn
  have HB1 := Lib.hid hB1
  have J1 := Lib.hid j1
  clear hn hW1 hB1 hs1 j1
  obtain ⟨VR, hVR⟩ : ∃ V, V = vldN m l := ⟨_, rfl⟩
  rw [← hVR]
  have HVR := Lib.hid hVR
  clear hVR
  have HG := Lib.hid hg
  have HT := Lib.hid ht
  have HCE := Lib.hid (fun (i : Nat) (hi : i < n) (V : World) (hV : Below W.heap.size W V) => show ∃ g, a = some ⟨g, 0, none⟩ ∧ l.getD i nd0 ∈ l ∧ NdAt V g (i * 4) (l.getD i nd0) from by
    obtain ⟨g, e, h0, h1⟩ := hs.cell (i := i) (by rw [← HN.out]; exact hi)
    exact ⟨g, e, mem_getD h0, h1.next hV⟩)
  have HNDS := Lib.hid (fun (V : World) (hV : Below W.heap.size W V) => show Nds V (.slice a n c) l from by rw [HN.out]; exact hs.below hV)
  clear hg ht hs h
  go_enter Tryz.func38, Tryz.ntmps38
  go_upto_region 1 with fail
  rw [← HW1.out]
  go_cut [28] from 999 to 999 (fun c wx => c = .bool (!sizB m n) ∧ ∃ V, V = wx ∧ Hid (Below W1.heap.size W1 V))
  case first =>
    by_cases h1 : m < 0
    · have hb : sizB m n = false := by unfold sizB; exact decide_eq_false (by omega)
      have HB := Lib.hid hb
      clear hb
      go_quiet (fail)
      go_wp2
      go_meet
      case rel => exact ⟨by rw [HB.out]; rfl, _, rfl, Lib.hid (below_drewN _ _)⟩
    · by_cases h2 : 6 < m
      · have hb : sizB m n = false := by unfold sizB; exact decide_eq_false (by omega)
        have HB := Lib.hid hb
        clear hb
        go_quiet (fail)
        go_wp2
        go_meet
        case rel => exact ⟨by rw [HB.out]; rfl, _, rfl, Lib.hid (below_drewN _ _)⟩
      · obtain ⟨k, rfl⟩ := Int.eq_ofNat_of_zero_le (show 0 ≤ m by omega)
        by_cases h3 : n = 0
        · subst h3
          have hb : sizB k 0 = false := by unfold sizB; exact decide_eq_false (by omega)
          have HB := Lib.hid hb
          clear hb
          go_quiet (fail)
          go_wp2
          go_meet
          case rel => exact ⟨by rw [HB.out]; rfl, _, rfl, Lib.hid (below_drewN _ _)⟩
        · obtain ⟨P, hP⟩ : ∃ P, P = 2 ^ (k + 1) := ⟨_, rfl⟩
          have hsh := shl2 k (by omega)
          rw [← hP] at hsh
          have h3' : ¬ (n : Int) = 0 := by omega
          have HW := Lib.hid (show IntKind.i64.wrap (2 * (2 : Int) ^ k) = (P : Int) from by rw [hP]; exact shl2w k (by omega))
          have HN0 := Lib.hid (show ((n : Int) == 0) = false from beq_eq_false_iff_ne.2 h3')
          by_cases h4 : P < n
          · have hb : sizB k n = false := by unfold sizB; exact decide_eq_false (by rw [Int.toNat_natCast, ← hP]; omega)
            have HB := Lib.hid hb
            have h4' : (P : Int) < (n : Int) := by omega
            clear hb hP
            go_quiet (fail)
            go_wp2
            go_meet
            case rel => exact ⟨by show Value.bool ((n : Int) == 0 || decide (IntKind.i64.wrap (2 * 2 ^ k) < (n : Int))) = _; rw [HB.out, HN0.out, HW.out, decide_eq_true h4']; rfl, _, rfl, Lib.hid (below_drewN _ _)⟩
          · have hb : sizB k n = true := by unfold sizB; exact decide_eq_true (by rw [Int.toNat_natCast, ← hP]; omega)
            have HB := Lib.hid hb
            have h4' : ¬ (P : Int) < (n : Int) := by omega
            clear hb hP
            go_quiet (fail)
            go_wp2
            go_meet
            case rel => exact ⟨by show Value.bool ((n : Int) == 0 || decide (IntKind.i64.wrap (2 * 2 ^ k) < (n : Int))) = _; rw [HB.out, HN0.out, HW.out, decide_eq_false (show ¬ (P : Int) < (n : Int) by omega)]; rfl, _, rfl, Lib.hid (below_drewN _ _)⟩
  case rest =>
    obtain ⟨rfl, wx, rfl, hk⟩ := hcut
    cases hsz : sizB m n with
    | false =>
      have hv : VR = false := by
        rw [HVR.out]; unfold vldN
        have h1 : decide (0 ≤ m ∧ m ≤ 6 ∧ 0 < l.length ∧ l.length ≤ 2 ^ (m.toNat + 1)) = false := by rw [← HN.out]; exact hsz
        rw [h1]; rfl
      have HV := Lib.hid hv
      clear hsz hv d0 d1
      go_wp2
      go_ret
      rw [HV.out]
      exact ⟨rfl, HB1.out.trans (hk.out.mono HB1.out.size)⟩
    | true =>
      simp only [Bool.not_true]
      obtain ⟨s1, s2, s3, s4⟩ : 0 ≤ m ∧ m ≤ 6 ∧ 0 < n ∧ n ≤ 2 ^ (m.toNat + 1) := of_decide_eq_true hsz
      obtain ⟨k, rfl⟩ := Int.eq_ofNat_of_zero_le s1
      have HSZ := Lib.hid hsz
      have hk6 : k ≤ 6 := by omega
      have HN128 := Lib.hid (show n ≤ 128 from by
        rw [Int.toNat_natCast] at s4
        exact Nat.le_trans s4 (Nat.le_trans (Nat.pow_le_pow_right (show 2 > 0 by omega) (show k + 1 ≤ 7 by omega)) (by decide)))
      have lgd := J1.out.lt
      have J2 := Lib.hid (J1.out.next hk.out)
      have K2 := Lib.hid (HB1.out.trans (hk.out.mono HB1.out.size))
      have e0 : wx.cell? ⟨W.heap.size, 0, none⟩ = some (.int .i64 (k : Int)) := keepc hk.out d0 lgd
      have e1 : wx.cell? ⟨W.heap.size, 1, none⟩ = some (.slice a n c) := keepc hk.out d1 lgd
      obtain ⟨g, rfl, -, -⟩ := HCE.out 0 s3 W (Below.refl _ _)
      have HVN := Lib.hid (show VR = ((List.range n).all (nodeB (k : Int) l) && decide (l = madeN (evD k l) k)) from by
        rw [HVR.out]; unfold vldN
        have h1 : decide (0 ≤ (k : Int) ∧ (k : Int) ≤ 6 ∧ 0 < l.length ∧ l.length ≤ 2 ^ ((k : Int).toNat + 1)) = true := by rw [← HN.out]; exact hsz
        rw [h1, ← HN.out, Int.toNat_natCast]; rfl)
      have HBAD := Lib.hid (fun (i : Nat) (hi : i < n) (h : nodeB (k : Int) l i = false) => show VR = false from by
        rw [HVN.out]
        have h1 : (List.range n).all (nodeB (k : Int) l) = false := by
          rw [List.all_eq_false]
          exact ⟨i, List.mem_range.2 hi, by rw [h]; decide⟩
        rw [h1]; rfl)
      clear hsz s1 s2 s4 d0 d1 hk lgd J1 HB1 HVR HW1
      go_upto_region 4 with fail
      clear e0 e1
      generalize hgd : W.heap.size = gd at *
      have HGD := Lib.hid hgd
      clear hgd
      go_loopw [32] (fun u32 wr => ∃ i : Nat, i ≤ n ∧ u32 = .int .i64 (i : Int) ∧ Hid (∀ j, j < i → nodeB (k : Int) l j = true) ∧ Hid (Blk wr gd 31 #[.int .i64 (k : Int), .slice (some ⟨g, 0, none⟩) n c]) ∧ Hid (Below gd W wr)) (fun u32 _ => n - (intOf u32).toNat)
      case atStart => exact ⟨0, by omega, rfl, Lib.hid (fun j hj => absurd hj (by omega)), J2, K2⟩
      case round =>
        clear J2 K2
        obtain ⟨i, hi, rfl, hA, hJ, hB⟩ := hrel
        by_cases hlt : i < n
        · obtain ⟨g', eg, hmem, hc⟩ := HCE.out i hlt wr hB.out
          have eg' : g' = g := by injection eg with e; injection e with e; exact e.symm
          subst eg'
          obtain ⟨nd, hnd⟩ : ∃ nd, l.getD i nd0 = nd := ⟨_, rfl⟩
          rw [hnd] at hc hmem
          obtain ⟨v, lo, hi2, q⟩ := nd
          have hq := HT.out _ hmem
          have HND := Lib.hid hnd
          clear hnd hmem eg
          obtain ⟨x0, x1, x2, x3⟩ := hc
          simp only at x0 x1 x2 x3 hq
          have hlti : (i : Int) < (n : Int) := by omega
          obtain ⟨W3, hW3, hB3, hs3, j3⟩ := entA wr 42 #[.int .i64 v, .int .i64 lo, .int .i64 hi2, .string ⟨q.toArray⟩]
          have J3 := Lib.hid j3
          have HW3 := Lib.hid hW3
          have K3 := Lib.hid (hB.out.trans (hB3.mono (by rw [← HGD.out]; exact hB.out.size)))
          have hJ3 := Lib.hid (hJ.out.next hB3)
          clear hW3 hB3 hs3 j3
          go_upto_region 6 with fail
          rw [← HW3.out]
          clear x0 x1 x2 x3 HW3
          generalize wr.heap.size = gw at *
          have y0 : W3.cell? ⟨gd, 0, none⟩ = some (.int .i64 (k : Int)) := hJ3.out.cell 0
          have y1 : W3.cell? ⟨gd, 1, none⟩ = some (.slice (some ⟨g', 0, none⟩) n c) := hJ3.out.cell 1
          obtain ⟨z0, z1, z2, z3⟩ := J3.out.at4
          by_cases hv : v = (k : Int)
          · subst hv
            have hnb : nodeB (k : Int) l i = (decide (lo = 0) && (decide (hi2 = 0) && decide (rerr q = 0))) := by
              unfold nodeB; rw [HND.out]; simp only; rw [if_pos trivial]
            have HNB := Lib.hid hnb
            have HNU := Lib.hid (fun (V : World) (hV : Below gd W V) => number_any (w := V) q hq (HG.out.below (by rw [HGD.out]; exact hV)))
            clear hnb hq
            generalize rerr q = er at *
            go_upto_region 7 with fail
            go_cut [55] from 999 to 999 (fun c wx => c = .bool (!nodeB (k : Int) l i) ∧ ∃ V, V = wx ∧ Hid (Below W3.heap.size W3 V))
            case first =>
              by_cases h1 : lo = 0
              · by_cases h2 : hi2 = 0
                · subst h1 h2
                  go_wp2_with fail
                  refine (HNU.out W3 K3.out).mono ?_
                  rintro e w4 ⟨rfl, hb⟩
                  have HB4 := Lib.hid hb
                  clear hb
                  go_wp2
                  go_meet
                  case rel => exact ⟨by rw [HNB.out]; simp, _, rfl, HB4⟩
                · subst h1
                  go_wp2
                  go_meet
                  case rel => exact ⟨by rw [HNB.out, decide_eq_false h2]; simp, _, rfl, Lib.hid (Below.refl _ _)⟩
              · go_wp2
                go_meet
                case rel => exact ⟨by rw [HNB.out, decide_eq_false h1]; simp, _, rfl, Lib.hid (Below.refl _ _)⟩
            case rest =>
              obtain ⟨rfl, w4, rfl, hk⟩ := hcut
              have K4 := Lib.hid (K3.out.trans (hk.out.mono (by rw [← HGD.out]; exact K3.out.size)))
              have JJ4 := Lib.hid (hJ3.out.next hk.out)
              have HBD := Lib.hid (HBAD.out i hlt)
              clear hk y0 y1 z0 z1 z2 z3 HNB HNU
              cases hb : nodeB (k : Int) l i with
              | true =>
                have HB1 := Lib.hid hb
                clear hb
                go_wp2
                go_roundw
                case rel => exact ⟨i + 1, by omega, by go_num, Lib.hid (fun j hj => by
                  by_cases h : j < i
                  · exact hA.out j h
                  · obtain rfl : j = i := by omega
                    exact HB1.out), JJ4, K4⟩
                case measure => simp [intOf]; omega
              | false =>
                have hRT := Lib.hid (HBD.out hb)
                clear hb
                go_wp2
                go_ret
                rw [hRT.out]
                exact ⟨rfl, by rw [HGD.out]; exact K4.out⟩
          · have hnb : nodeB (k : Int) l i = decide (0 ≤ v ∧ v < (k : Int) ∧ q = [] ∧ lo ≠ hi2 ∧ 0 ≤ lo ∧ 0 ≤ hi2 ∧ lo < (i : Int) ∧ hi2 < (i : Int) ∧ v < (l.getD lo.toNat nd0).1 ∧ v < (l.getD hi2.toNat nd0).1) := by
              unfold nodeB; rw [HND.out]; simp only; rw [if_neg hv]
            have HNB := Lib.hid hnb
            obtain ⟨IB, hIB⟩ : ∃ B, B = decide (0 ≤ v ∧ v < (k : Int) ∧ q = [] ∧ lo ≠ hi2 ∧ 0 ≤ min lo hi2 ∧ max lo hi2 < (i : Int)) := ⟨_, rfl⟩
            have HIB := Lib.hid hIB
            have hvb : (v == (k : Int)) = false := beq_eq_false_iff_ne.2 hv
            clear hnb hIB hq HND
            go_upto_region 9 with fail
            clear hvb
            go_cut [5] from 999 to 999 (fun c wx => c = .bool IB ∧ W3 = wx)
            case first =>
              by_cases h1 : 0 ≤ v
              · by_cases h2 : v < (k : Int)
                · cases q with
                  | nil =>
                    by_cases h4 : lo = hi2
                    · have b4 : (lo != hi2) = false := by rw [h4]; simp
                      have H4 := Lib.hid h4
                      clear h4
                      go_wp2
                      go_meet
                      case rel => exact ⟨by rw [HIB.out, decide_eq_false (fun h => h.2.2.2.1 H4.out)], rfl⟩
                    · have b4 : (lo != hi2) = true := bne_iff_ne.2 h4
                      by_cases h5 : 0 ≤ min lo hi2
                      · by_cases h6 : max lo hi2 < (i : Int)
                        · have hall := Lib.hid (show 0 ≤ v ∧ v < (k : Int) ∧ ([] : List UInt8) = [] ∧ lo ≠ hi2 ∧ 0 ≤ min lo hi2 ∧ max lo hi2 < (i : Int) from ⟨h1, h2, rfl, h4, h5, h6⟩)
                          go_wp2
                          go_meet
                          case rel => exact ⟨by rw [HIB.out, decide_eq_true hall.out], rfl⟩
                        · have hno := Lib.hid h6
                          go_wp2
                          go_meet
                          case rel => exact ⟨by rw [HIB.out, decide_eq_false (fun h => by have h8 := h.2.2.2.2.2; have h9 := hno.out; omega)], rfl⟩
                      · have hno := Lib.hid h5
                        go_wp2
                        go_meet
                        case rel => exact ⟨by rw [HIB.out, decide_eq_false (fun h => by have h8 := h.2.2.2.2.1; have h9 := hno.out; omega)], rfl⟩
                  | cons x r =>
                    have b3 : ((⟨(x :: r).toArray⟩ : ByteArray).toList == []) = false := by rw [ba_list]; rfl
                    go_wp2
                    go_meet
                    case rel => exact ⟨by rw [HIB.out, decide_eq_false (fun h => by cases h.2.2.1)], rfl⟩
                · have hno := Lib.hid h2
                  go_wp2
                  go_meet
                  case rel => exact ⟨by rw [HIB.out, decide_eq_false (fun h => by have h8 := h.2.1; have h9 := hno.out; omega)], rfl⟩
              · have hno := Lib.hid h1
                go_wp2
                go_meet
                case rel => exact ⟨by rw [HIB.out, decide_eq_false (fun h => by have h8 := h.1; have h9 := hno.out; omega)], rfl⟩
            case rest =>
              obtain ⟨rfl, rfl⟩ := hcut
              have HBE := Lib.hid (fun (j : Nat) (hj : j < n) => HCE.out j hj W3 K3.out)
              go_upto_region 10 with fail
              go_cut [120] from 999 to 999 (fun c wx => c = .bool (!nodeB (k : Int) l i) ∧ ∃ V, V = wx ∧ Hid (Below W3.heap.size W3 V))
              case first =>
                have HIF := Lib.hid (show IB = false → nodeB (k : Int) l i = false from fun hib => by
                  rw [HNB.out]
                  refine decide_eq_false (fun h => ?_)
                  obtain ⟨a1, a2, a3, a4, a5, a6, a7, a8, a9, a10⟩ := h
                  have h1 := HIB.out
                  rw [hib, decide_eq_true ⟨a1, a2, a3, a4, by omega, by omega⟩] at h1
                  cases h1)
                have HIT := Lib.hid (show IB = true → 0 ≤ v ∧ v < (k : Int) ∧ q = [] ∧ lo ≠ hi2 ∧ 0 ≤ min lo hi2 ∧ max lo hi2 < (i : Int) from fun hib => of_decide_eq_true (HIB.out.symm.trans hib))
                clear HIB
                cases IB with
                | false =>
                  have hnf := Lib.hid (HIF.out rfl)
                  go_quiet (fail)
                  go_wp2
                  go_meet
                  case rel => exact ⟨by rw [hnf.out]; rfl, _, rfl, Lib.hid (below_drewN _ _)⟩
                | true =>
                  obtain ⟨a1, a2, a3, a4, a5, a6⟩ : 0 ≤ v ∧ v < (k : Int) ∧ q = [] ∧ lo ≠ hi2 ∧ 0 ≤ min lo hi2 ∧ max lo hi2 < (i : Int) := HIT.out rfl
                  obtain ⟨lo', rfl⟩ := Int.eq_ofNat_of_zero_le (show 0 ≤ lo by omega)
                  obtain ⟨hi', rfl⟩ := Int.eq_ofNat_of_zero_le (show 0 ≤ hi2 by omega)
                  obtain ⟨vlo, hvlo⟩ : ∃ x, (l.getD lo' nd0).1 = x := ⟨_, rfl⟩
                  obtain ⟨vhi, hvhi⟩ : ∃ x, (l.getD hi' nd0).1 = x := ⟨_, rfl⟩
                  obtain ⟨g1, e1, -, u1, -⟩ := HBE.out lo' (by omega)
                  obtain ⟨g2, e2, -, u2, -⟩ := HBE.out hi' (by omega)
                  have eg1 : g1 = g' := by injection e1 with e; injection e with e; exact e.symm
                  have eg2 : g2 = g' := by injection e2 with e; injection e with e; exact e.symm
                  subst eg1
                  subst eg2
                  rw [hvlo] at u1
                  rw [hvhi] at u2
                  have l1 : (lo' : Int) < (n : Int) := by omega
                  have l2 : (hi' : Int) < (n : Int) := by omega
                  have hnb : nodeB (k : Int) l i = decide (v < vlo ∧ v < vhi) := by
                    rw [HNB.out]
                    simp only [Int.toNat_natCast, hvlo, hvhi]
                    exact decide_eq_decide.2 ⟨fun h => h.2.2.2.2.2.2.2.2, fun h => ⟨a1, a2, a3, a4, by omega, by omega, by omega, by omega, h.1, h.2⟩⟩
                  have HN2 := Lib.hid hnb
                  clear hnb hvlo hvhi e1 e2 a1 a2 a3 a4 a5 a6
                  by_cases b1 : vlo ≤ v
                  · have hnf := Lib.hid (show nodeB (k : Int) l i = false from by rw [HN2.out]; exact decide_eq_false (fun h => by omega))
                    go_quiet (fail)
                    go_wp2
                    go_meet
                    case rel => exact ⟨by rw [hnf.out]; rfl, _, rfl, Lib.hid (below_drewN _ _)⟩
                  · by_cases b2 : vhi ≤ v
                    · have hnf := Lib.hid (show nodeB (k : Int) l i = false from by rw [HN2.out]; exact decide_eq_false (fun h => by omega))
                      go_quiet (fail)
                      go_wp2
                      go_meet
                      case rel => exact ⟨by rw [hnf.out]; rfl, _, rfl, Lib.hid (below_drewN _ _)⟩
                    · have hnf := Lib.hid (show nodeB (k : Int) l i = true from by rw [HN2.out]; exact decide_eq_true ⟨by omega, by omega⟩)
                      go_quiet (fail)
                      go_wp2
                      go_meet
                      case rel => exact ⟨by rw [hnf.out]; rfl, _, rfl, Lib.hid (below_drewN _ _)⟩
              case rest =>
                obtain ⟨rfl, w4, rfl, hk⟩ := hcut
                have K4 := Lib.hid (K3.out.trans (hk.out.mono (by rw [← HGD.out]; exact K3.out.size)))
                have JJ4 := Lib.hid (hJ3.out.next hk.out)
                have HBD := Lib.hid (HBAD.out i hlt)
                clear hk y0 y1 z0 z1 z2 z3 HNB HIB HBE
                cases hb : nodeB (k : Int) l i with
                | true =>
                  have HB1 := Lib.hid hb
                  clear hb
                  go_wp2
                  go_roundw
                  case rel => exact ⟨i + 1, by omega, by go_num, Lib.hid (fun j hj => by
                    by_cases h : j < i
                    · exact hA.out j h
                    · obtain rfl : j = i := by omega
                      exact HB1.out), JJ4, K4⟩
                  case measure => simp [intOf]; omega
                | false =>
                  have hRT := Lib.hid (HBD.out hb)
                  clear hb
                  go_wp2
                  go_ret
                  rw [hRT.out]
                  exact ⟨rfl, by rw [HGD.out]; exact K4.out⟩
        · obtain rfl : i = n := by omega
          have hwf : WF k l := wf_nodes (fun j hj => hA.out j (by rw [HN.out]; exact hj))
          have hvr : VR = decide (l = madeN (evD k l) k) := by
            rw [HVN.out, List.all_eq_true.2 (fun j hj => hA.out j (List.mem_range.1 hj))]
            simp
          have hsh : ∀ x, x < 2 ^ k → (evD k l x).length ≤ maxLen := fun x _ => by
            obtain ⟨j, j1, j2, j3⟩ := evN_leafs hwf k (l.length - 1) x (by rw [← HN.out]; omega) (by have := wf_hi hwf (i := l.length - 1) (by rw [← HN.out]; omega); omega)
            unfold evD
            rw [j3]
            exact Nat.le_trans (HT.out _ (mem_getD j1)) (by unfold maxLen; omega)
          have HNC := Lib.hid (fun (V : World) (hV : Below wr.heap.size wr V) => show NumC (evD k l) k V.heap.size none 65 #[.pointer (some ⟨gd, 0, none⟩)] (Like V.heap.size V) (fun _ _ => True) from
            NumC.quiet (fun V' x hx hs hl => valid1_any (V := V') (((hl gd (hJ.out.next hV).lt).trans (hJ.out.next hV))) ((HNDS.out V (hB.out.trans (hV.mono (by rw [← HGD.out]; exact hB.out.size)))).keep hl) hwf (by rw [← HN.out]; exact s3) (by rw [← HN.out]; have := HN128.out; omega) hk6 (Nat.lt_of_lt_of_le hx (Nat.le_trans (Nat.pow_le_pow_right (by omega) hk6) (by decide)))) (enters_of Tryz.func65 (by kernel_rfl) rfl) hsh)
          have HVR2 := Lib.hid hvr
          have HMS := Lib.hid (show (madeN (evD k l) k).length ≤ 1000000 from by
            have h1 := made_size (evD k l) k
            have h2 := Nat.pow_le_pow_right (show 2 > 0 by omega) (show k + 1 ≤ 7 by omega)
            omega)
          have d0 : wr.cell? ⟨gd, 0, none⟩ = some (.int .i64 (k : Int)) := hJ.out.cell 0
          have d1 : wr.cell? ⟨gd, 1, none⟩ = some (.slice (some ⟨g, 0, none⟩) i c) := hJ.out.cell 1
          have lgd := hJ.out.lt
          clear hwf hvr hsh
          go_upto_region 13 with fail
          have hBd : Below wr.heap.size wr wr.drew := (Below.refl _ _).drew
          refine wp_region_list 5 (by kernel_rfl) (by kernel_rfl) [] [fun xv _ => xv = .agg #[.int .i64 (k : Int), .slice (some ⟨g, 0, none⟩) i c], fun xv _ => xv = .pointer (some ⟨gd, 0, none⟩), fun xv _ => xv = .int .i64 (k : Int), fun xv _ => xv = .func (.func 65) #[] #[.pointer (some ⟨gd, 0, none⟩)], fun xv w' => Dg w' xv (k : Int) (madeN (evD k l) k)] (by simp only [List.take_succ_cons, List.take_zero]; rfl) (by simp only [List.drop_succ_cons, List.drop_zero]; rfl) (fun vals => by simp only [fam, Act.put, List.setIfInBounds_toArray, List.set_cons_zero, List.set_cons_succ, if_true]; rfl) (by repeat' (first | exact Stab.eq _ _ | exact Stab.wh _ _ | exact Stab.nm _ _ | exact Stab.new _ _ | exact Stab.newn _ _ | exact Stab.tw _ _ _ | exact Stab.lm _ _ _ | exact Stab.onet _ _ _ | exact Stab.pl _ _ _ | exact Stab.dg _ _ _ | exact Stab.nds _ _ | exact Stab.qs _ _ | exact trivial | apply And.intro)) trivial ?_ ?_
          · refine ⟨?_, ?_, ?_, ?_, ?_, trivial⟩
            all_goals
              intro vals wy hB1 hp
              dsimp only
              (try simp [preOk, Region.binds, r_anygc, r_anytext] at hp)
              have hb := next_below hBd hB1
              have q0 := keepc hb d0 lgd
              have q1 := keepc hb d1 lgd
              clear hB1 d0 d1
            case refine_5 =>
              obtain ⟨p2, p3⟩ := hp
              have hmd := Lib.hid (made_any (HNC.out wy hb) hk6 (fun _ _ => rfl))
              clear hb q0 q1
              go_wp2_with fail
              refine (hmd.out).mono ?_
              rintro e V ⟨a5, c5, rfl, m1, -, -, m4⟩
              have M1 := Lib.hid m1
              have M4 := Lib.hid m4.below
              clear m1 m4 hmd
              go_wp2
              (refine ⟨rfl, _, ?_, ⟨_, rfl, M1.out⟩, M4.out, trivial⟩; simp only [Act.put, List.setIfInBounds_toArray, List.set_cons_zero, List.set_cons_succ, Nat.zero_add, Nat.reduceAdd, p2, p3])
            all_goals
              go_wp2
              (first | exact ⟨rfl, _, rfl, rfl, Below.refl _ _, trivial⟩ | (refine ⟨rfl, _, ?_, rfl, Below.refl _ _, trivial⟩; simp only [Act.put, List.setIfInBounds_toArray, List.set_cons_zero, List.set_cons_succ, hp]))
          · rintro vals w5 hB1 ⟨p0, p1, p2, p3, p4, _⟩ hne
            have hb := next_below hBd hB1
            simp only [List.getD_cons_zero, List.getD_cons_succ, Nat.zero_add, Nat.reduceAdd] at p0 p4
            obtain ⟨a5, c5, e5, -⟩ := p4.parts
            rw [e5] at p4
            have K5 := Lib.hid (hB.out.trans (hb.mono (by rw [← HGD.out]; exact hB.out.size)))
            have HSM := Lib.hid (same_any (W := w5) (v := .agg #[.int .i64 (k : Int), .slice (some ⟨g, 0, none⟩) i c]) ⟨_, rfl, HNDS.out w5 K5.out⟩ p4 (by rw [← HN.out]; exact hl) HMS.out)
            clear p4 p1 p2 p3 hb hB1 hBd hne d0 d1 lgd
            go_wp2_with fail
            refine (HSM.out).mono ?_
            rintro e w6 ⟨rfl, hb⟩
            have HB6 := Lib.hid hb
            clear hb HSM p0 e5
            go_wp2
            go_ret
            rw [HVR2.out]
            exact ⟨rfl, by rw [HGD.out]; exact K5.out.trans (HB6.out.mono (by rw [← HGD.out]; exact K5.out.size))⟩
end Go.Proofs.YtpmlmibceiolpaaGreatDoor
