/- DiagramShares answers true. -/
import Derived.Test.YtpmlmibceiolpaaGreatDoorGEql
import Derived.Test.YtpmlmibceiolpaaGreatDoorGOpen
set_option linter.unusedSimpArgs false
set_option linter.unusedVariables false
namespace Go.Proofs.YtpmlmibceiolpaaGreatDoor
open Go.RowKit

/-! Plain: is a node led to? -/
def ledB (l : List Nd) (m i j : Nat) : Bool := decide (i < j) && (decide ((l.getD j nd0).1 < (m : Int)) && (decide ((l.getD j nd0).2.1 = (i : Int)) || decide ((l.getD j nd0).2.2.1 = (i : Int))))
def usedB (l : List Nd) (m i k : Nat) : Bool := decide (i + 1 = l.length) || (List.range k).any (ledB l m i)
theorem usedB_zero (l : List Nd) (m i : Nat) : usedB l m i 0 = decide (i + 1 = l.length) := by simp [usedB]
theorem usedB_succ (l : List Nd) (m i k : Nat) : usedB l m i (k + 1) = (usedB l m i k || ledB l m i k) := by
  unfold usedB
  rw [List.range_succ, List.any_append, Bool.or_assoc]
  simp
theorem usedB_full (f : Nat → List UInt8) (m : Nat) {i : Nat} (hi : i < (madeN f m).length) : usedB (madeN f m) m i (madeN f m).length = true := by
  unfold usedB
  rcases made_led f m hi with h | ⟨k, h1, h2, h3, h4⟩
  · rw [decide_eq_true (by omega)]; rfl
  · rw [Bool.or_eq_true]
    refine .inr (List.any_eq_true.2 ⟨k, List.mem_range.2 h2, ?_⟩)
    unfold ledB
    rw [decide_eq_true h1, decide_eq_true h3]
    rcases h4 with h | h
    · rw [decide_eq_true h]; rfl
    · rw [decide_eq_true h]; simp
/-- No inner node leads to one node twice. -/
theorem wf_two {m : Nat} {l : List Nd} (h : WF m l) {i : Nat} (hi : i < l.length) (hv : (l.getD i nd0).1 < (m : Int)) : (l.getD i nd0).2.1 ≠ (l.getD i nd0).2.2.1 := by
  rcases h i hi with h1 | ⟨v, lo, hi2, e, h1, h2, h3, h4, h5, h6⟩
  · have := h1.1; omega
  · rw [e]; simp only; omega
theorem nodup_ne {l : List Nd} (h : l.Nodup) {i k : Nat} (hi : i < l.length) (hk : k < l.length) (hne : k ≠ i) : l.getD i nd0 ≠ l.getD k nd0 := fun e => by
  have h1 := idxOf_getD h hi
  have h2 := idxOf_getD h hk
  rw [e, h2] at h1
  exact hne h1
theorem wrap64_pred {q : Nat} (h : q ≤ 1000) : wrap64 (((q + 1 : Nat) : Int) - 1) = (q : Int) := by unfold wrap64; omega

theorem int_beq_nat (a b : Nat) : ((a : Int) == (b : Int)) = decide (a = b) := by
  rw [Bool.eq_iff_iff, beq_iff_eq, decide_eq_true_eq]; omega

set_option maxHeartbeats 16000000 in
set_option maxRecDepth 100000 in
theorem shares_any {W : World} {s : Value} {vr kd m : Nat} {zs : List Nat} (h1 : Dft W (.agg #[.int .u8 (vr : Int), .int .u8 (kd : Int), s]) vr kd zs) (hm : m < 256) (hg : Good W) :
    Calls Tryz.prog 4 #[.agg #[.int .u8 (vr : Int), .int .u8 (kd : Int), s], .int .u8 (m : Int)] W (RetV W (.bool true)) := by
  obtain ⟨x1, e1, u1⟩ := id h1.is
  obtain rfl : s = x1 := by injection e1 with e; exact Option.some.inj (congrArg (fun x : Array Value => x[2]?) e)
  obtain ⟨ao, cap, f1, -⟩ := u1.open_
  subst f1
  obtain ⟨n, hn⟩ : ∃ n, n = m % 7 := ⟨_, rfl⟩
  have hn7 : (m : Int) % 7 = (n : Int) := by omega
  have hn7t : (m : Int).tmod 7 = (n : Int) := by rw [Int.tmod_eq_emod_of_nonneg (by omega)]; omega
  have hn6 : n ≤ 6 := by omega
  have HN7 := Lib.hid (And.intro hn7 hn7t)
  have hS := tabD_tbl (kd := kd) (zs := zs) hn6
  obtain ⟨S, hSe⟩ : ∃ S, S = tabD kd zs n := ⟨_, rfl⟩
  rw [← hSe] at hS
  obtain ⟨L, hLe⟩ : ∃ L, L = dgN S n := ⟨_, rfl⟩
  obtain ⟨la, hla⟩ : ∃ l, l = L.length := ⟨_, rfl⟩
  have hfew : la ≤ 127 := by rw [hla, hLe]; exact hS.size
  have hpos : 0 < la := by rw [hla, hLe]; exact made_pos _ _
  obtain ⟨lq, hlq⟩ : ∃ q, la = q + 1 := ⟨la - 1, by omega⟩
  have HSUB := Lib.hid (show wrap64 ((la : Int) - 1) = (lq : Int) from by
    rw [hlq]; exact wrap64_pred (by omega))
  have HTB := Lib.hid (fun (V : World) (hV : Below W.heap.size W V) => show Calls Tryz.prog 11 #[.agg #[.int .u8 (vr : Int), .int .u8 (kd : Int), .slice ao zs.length cap], .int .i64 (n : Int)] V (RetQs V S) from by
    rw [hSe]; exact draft_table (h1.below hV) hn6)
  have HOF := Lib.hid (fun (V : World) (u : Value) (hu : Qs V u S) (hV : Below W.heap.size W V) => show Calls Tryz.prog 12 #[.int .i64 (n : Int), u] V (RetOk V n la L) from by
    rw [hla, hLe]; exact of_tbl hS hu (hg.below hV))
  have HWF := Lib.hid (fun (i : Nat) (hi : i < la) (hv : (L.getD i nd0).1 < (n : Int)) => show (L.getD i nd0).2.1 ≠ (L.getD i nd0).2.2.1 from wf_two (m := n) (by rw [hLe]; exact made_wf _ _) (by rw [← hla]; exact hi) hv)
  have HND := Lib.hid (fun (i k : Nat) (hi : i < la) (hk : k < la) (hne : k ≠ i) => show L.getD i nd0 ≠ L.getD k nd0 from nodup_ne (by rw [hLe]; exact made_nodup _ _) (by rw [← hla]; exact hi) (by rw [← hla]; exact hk) hne)
  have HUF := Lib.hid (fun (i : Nat) (hi : i < la) => show usedB L n i la = true from by
    rw [hla]; rw [hla] at hi; rw [hLe] at hi ⊢; exact usedB_full _ _ hi)
  have HU0 := Lib.hid (fun (i : Nat) => show usedB L n i 0 = ((i : Int) == (lq : Int)) from by
    rw [usedB_zero, ← hla, hlq, int_beq_nat]
    exact decide_eq_decide.2 (by omega))
  have HUS := Lib.hid (fun (i k : Nat) => show usedB L n i (k + 1) = (usedB L n i k || (decide (i < k) && (decide ((L.getD k nd0).1 < (n : Int)) && (decide ((L.getD k nd0).2.1 = (i : Int)) || decide ((L.getD k nd0).2.2.1 = (i : Int)))))) from usedB_succ L n i k)
  have HLA := Lib.hid hla
  have HFEW := Lib.hid (And.intro hfew hpos)
  have HGD := Lib.hid (fun (V : World) (hV : Below W.heap.size W V) => hg.below hV)
  obtain ⟨W1, hW1, hB1, hs1, j1⟩ := entA W 24 #[.int .u8 (vr : Int), .int .u8 (kd : Int), .slice ao zs.length cap]
  have K := Lib.hid hB1
  have HW1 := Lib.hid hW1
  have JD := Lib.hid j1
  generalize zs.length = zl at *
  clear h1 e1 u1 hg hB1 hW1 hs1 j1 hn hn7 hn7t hn6 hm hS hSe hLe hla hfew hpos hlq
  go_enter Tryz.func4, Tryz.ntmps4
  go_upto_region 1 with fail
  rw [← HW1.out]
  clear HW1
  generalize W.heap.size = gb at JD
  go_wp2_with fail
  refine (wakes_any (HGD.out _ K.out)).mono ?_
  rintro e w0 ⟨rfl, hb⟩
  replace K := Lib.hid (next_below K.out hb)
  replace JD := Lib.hid (JD.out.next hb)
  clear hb
  obtain ⟨hn7, hn7t⟩ := HN7.out
  go_upto_region 4 with fail
  clear hn7 hn7t HN7
  have y0 : w0.cell? ⟨gb, 0, none⟩ = some (.int .u8 (vr : Int)) := JD.out.cell 0
  have y1 : w0.cell? ⟨gb, 1, none⟩ = some (.int .u8 (kd : Int)) := JD.out.cell 1
  have y2 : w0.cell? ⟨gb, 2, none⟩ = some (.slice ao zl cap) := JD.out.cell 2
  have HC := Lib.hid (HTB.out _ K.out)
  go_wp2_with fail
  refine (HC.out).mono ?_
  rintro e w1 ⟨u, rfl, hu, hb⟩
  replace K := Lib.hid (next_below K.out hb)
  have HC := Lib.hid (HOF.out _ u hu K.out)
  clear hb y0 y1 y2 JD HTB hu
  go_wp2_with fail
  refine (HC.out).mono ?_
  rintro e w2 ⟨aa, ca, rfl, hn2, hb⟩
  replace K := Lib.hid (next_below K.out hb)
  clear hb HC HOF
  obtain ⟨X, hX, hB, hs, j⟩ := entA w2 31 #[.int .i64 (n : Int), .slice aa la ca]
  replace K := Lib.hid (next_below K.out hB)
  have HN := Lib.hid (hn2.below hB)
  have JA := Lib.hid j
  have HX := Lib.hid hX
  clear hX hB hs j hn2
  go_upto_region 5 with fail
  rw [← HX.out]
  clear HX
  generalize w2.heap.size = ga at *
  have x1 : X.cell? ⟨ga, 1, none⟩ = some (.slice aa la ca) := JA.out.cell 1
  go_upto_region 8 with fail
  clear x1
  have K0 := Lib.hid (Below.refl X.heap.size X)
  go_loopw [31] (fun u31 wr => ∃ i : Nat, i ≤ la ∧ u31 = .int .i64 (i : Int) ∧ Hid (Below X.heap.size X wr)) (fun u31 _ => la - (intOf u31).toNat)
  case atStart => exact ⟨0, by omega, rfl, K0⟩
  case round =>
    obtain ⟨i, hi, rfl, hB⟩ := hrel
    by_cases hlt : i < la
    · have hlti : (i : Int) < (la : Int) := by omega
      obtain ⟨g, rfl, -, hc⟩ := (HN.out.below hB.out).cell hlt
      have hwf := HWF.out i hlt
      obtain ⟨n1, hn1⟩ : ∃ n1, L.getD i nd0 = n1 := ⟨_, rfl⟩
      rw [hn1] at hc hwf
      have N1 := Lib.hid hn1
      have HW1 := Lib.hid hwf
      obtain ⟨z1, z2, z3, z4⟩ := hc
      clear hn1 hwf
      obtain ⟨X9, hX, hB9, hs, j⟩ := entA wr 42 #[.int .i64 n1.1, .int .i64 n1.2.1, .int .i64 n1.2.2.1, .string ⟨n1.2.2.2.toArray⟩]
      have hK9 := Lib.hid (next_below hB.out hB9)
      have J9 := Lib.hid j
      have HX := Lib.hid hX
      clear hX hs j hB9
      go_upto_region 10 with fail
      rw [← HX.out]
      clear HX z1 z2 z3 z4
      generalize wr.heap.size = g9 at *
      obtain ⟨z1, z2, z3, z4⟩ := J9.out.at4
      go_cut [46] from 999 to 999 (fun c wx => c = .bool false ∧ ∃ V, V = wx ∧ V = X9)
      case first =>
        by_cases hv : n1.1 < (n : Int)
        · have hne := HW1.out hv
          go_wp2
          go_meet
          case rel => exact ⟨by rw [beq_eq_false_iff_ne.2 (HW1.out hv)], _, rfl, rfl⟩
        · go_wp2
          go_meet
          case rel => exact ⟨rfl, _, rfl, rfl⟩
      case rest =>
        obtain ⟨rfl, V, rfl, hV⟩ := hcut
        subst hV
        have xj : V.cell? ⟨ga, 1, none⟩ = some (.slice (some ⟨g, 0, none⟩) la ca) := (JA.out.next hK9.out).cell 1
        have hsub := HSUB.out
        clear z1 z2 z3 z4
        go_upto_region 14 with fail
        rw [← HU0.out i]
        clear xj hsub
        have K9 := Lib.hid (Below.refl V.heap.size V)
        have hK9' := Lib.hid hK9.out
        have J9' := Lib.hid J9.out
        go_loopw [10, 56] (fun u10 u56 wq => ∃ k : Nat, k ≤ la ∧ u56 = .int .i64 (k : Int) ∧ u10 = .bool (usedB L n i k) ∧ Hid (Blk wq g9 42 #[.int .i64 n1.1, .int .i64 n1.2.1, .int .i64 n1.2.2.1, .string ⟨n1.2.2.2.toArray⟩]) ∧ Hid (Below X.heap.size X wq)) (fun _ u56 _ => la - (intOf u56).toNat)
        case atStart => exact ⟨0, by omega, rfl, rfl, J9', hK9'⟩
        case round =>
          clear K9 hK9' J9' hK9 J9
          obtain ⟨k, hk, rfl, rfl, hJ, hQ⟩ := hrel
          by_cases hlt2 : k < la
          · have hltk : (k : Int) < (la : Int) := by omega
            obtain ⟨g', hg', -, hc⟩ := (HN.out.below hQ.out).cell hlt2
            cases hg'
            have hnd := HND.out i k hlt hlt2
            have hus := HUS.out i k
            obtain ⟨n2, hn2⟩ : ∃ n2, L.getD k nd0 = n2 := ⟨_, rfl⟩
            rw [hn2] at hc hnd hus
            rw [N1.out] at hnd
            have HNE := Lib.hid hnd
            have HUK := Lib.hid hus
            obtain ⟨z1, z2, z3, z4⟩ := hc
            clear hn2 hnd hus
            obtain ⟨X15, hX, hB9, hs, j⟩ := entA wr 42 #[.int .i64 n2.1, .int .i64 n2.2.1, .int .i64 n2.2.2.1, .string ⟨n2.2.2.2.toArray⟩]
            have hK15 := Lib.hid (next_below hQ.out hB9)
            have J15 := Lib.hid j
            have J9 := Lib.hid (hJ.out.next hB9)
            have HX := Lib.hid hX
            clear hX hs j hB9
            obtain ⟨UB, hUB⟩ : ∃ b, b = usedB L n i k := ⟨_, rfl⟩
            rw [← hUB] at HUK ⊢
            clear hUB
            go_upto_region 16 with fail
            rw [← HX.out]
            clear HX z1 z2 z3 z4
            generalize wr.heap.size = g15 at *
            obtain ⟨z1, z2, z3, z4⟩ := J15.out.at4
            obtain ⟨q1, q2, q3, q4⟩ := J9.out.at4
            generalize hs35 : (Value.agg #[.int .i64 n1.1, .int .i64 n1.2.1, .int .i64 n1.2.2.1, .string ⟨n1.2.2.2.toArray⟩]) = s35
            generalize hs60 : (Value.agg #[.int .i64 n2.1, .int .i64 n2.2.1, .int .i64 n2.2.2.1, .string ⟨n2.2.2.2.toArray⟩]) = s60
            have H35 := Lib.hid hs35
            have H60 := Lib.hid hs60
            clear hs35 hs60
            go_cut [68] from 999 to 999 (fun c wx => c = .bool false ∧ ∃ V, V = wx ∧ V = X15)
            case first =>
              by_cases hki : k = i
              · subst hki
                go_wp2
                go_meet
                case rel => exact ⟨rfl, _, rfl, rfl⟩
              · have hkii : ¬ (k : Int) = (i : Int) := by omega
                go_wp2
                all_goals (first | (go_meet; exact ⟨rfl, _, rfl, rfl⟩) | exact absurd (Prod.ext (by assumption) (Prod.ext (by assumption) (Prod.ext (by assumption) (by assumption)))) (HNE.out hki))
            case rest =>
              obtain ⟨rfl, V2, rfl, hV⟩ := hcut
              subst hV
              clear q1 q2 q3 q4
              have h35 := H35.out
              have h60 := H60.out
              subst h35 h60
              clear H35 H60
              go_upto_region 18 with fail
              have hfw := HFEW.out.1
              cases UB with
              | true =>
                go_wp2
                go_roundw
                case rel => exact ⟨k + 1, by omega, by go_num, by rw [HUK.out]; rfl, J9, hK15⟩
                case measure => simp [intOf]; omega
              | false =>
                by_cases hki : i < k
                · have hkii : (i : Int) < (k : Int) := by omega
                  by_cases hv : n2.1 < (n : Int)
                  · by_cases hlo : n2.2.1 = (i : Int)
                    · go_wp2
                      go_roundw
                      case rel => exact ⟨k + 1, by omega, by go_num, by rw [HUK.out, decide_eq_true hki, decide_eq_true hv, decide_eq_true hlo]; rfl, J9, hK15⟩
                      case measure => simp [intOf]; omega
                    · by_cases hhi : n2.2.2.1 = (i : Int)
                      · go_wp2
                        go_roundw
                        case rel => exact ⟨k + 1, by omega, by go_num, by rw [HUK.out, decide_eq_true hki, decide_eq_true hv, decide_eq_true hhi, decide_eq_false hlo]; rfl, J9, hK15⟩
                        case measure => simp [intOf]; omega
                      · go_wp2
                        go_roundw
                        case rel => exact ⟨k + 1, by omega, by go_num, by rw [HUK.out, decide_eq_true hki, decide_eq_true hv, decide_eq_false hhi, decide_eq_false hlo, beq_eq_false_iff_ne.2 hlo, beq_eq_false_iff_ne.2 hhi]; rfl, J9, hK15⟩
                        case measure => simp [intOf]; omega
                  · go_wp2
                    go_roundw
                    case rel => exact ⟨k + 1, by omega, by go_num, by rw [HUK.out, decide_eq_true hki, decide_eq_false hv]; rfl, J9, hK15⟩
                    case measure => simp [intOf]; omega
                · have hkii : ¬ (i : Int) < (k : Int) := by omega
                  go_wp2
                  go_roundw
                  case rel => exact ⟨k + 1, by omega, by go_num, by rw [HUK.out, decide_eq_false hki]; rfl, J9, hK15⟩
                  case measure => simp [intOf]; omega
          · obtain rfl : k = la := by omega
            have huf := HUF.out i hlt
            rw [huf]
            clear huf
            have hfw := HFEW.out.1
            go_wp2
            go_roundw
            case rel => exact ⟨i + 1, by omega, by go_num, hQ⟩
            case measure => simp [intOf]; omega
    · obtain rfl : i = la := by omega
      go_wp2
      go_ret
      exact ⟨rfl, next_below K.out hB.out⟩

theorem shares_at {W : World} {v : Value} (D : DraftAt W v) (m : Nat) (hm : m < 256) (hg : Good W) : Calls Tryz.prog 4 #[v, .int .u8 (m : Int)] W (RetV W (.bool true)) := by
  obtain ⟨s, vr, kd, zs, rfl, h1⟩ := D
  exact shares_any h1 hm hg
end Go.Proofs.YtpmlmibceiolpaaGreatDoor
