/- The reference's diagram of a table: found, grow, Made, Draft.With. -/
import Derived.Test.YtpmlmibceiolpaaGreatDoorGVals
import Derived.Test.YtpmlmibceiolpaaGreatDoorGEql
set_option linter.unusedSimpArgs false
set_option linter.unusedVariables false
namespace Go.Proofs.YtpmlmibceiolpaaGreatDoor
open Go.RowKit

/-- What a call leaves as it was: all but the row, which lies where it lay, or anew. -/
def Fr (W : World) (vb : Option Nat) (v' : Value) (W' : World) : Prop := Chg vb W W' ∧ ∀ k, v'.ownBlock = some k → vb = some k ∨ W.heap.size ≤ k
theorem Fr.refl {W : World} {v : Value} : Fr W v.ownBlock v W := ⟨Chg.of (Below.refl _ _), fun k h => .inl h⟩
theorem Fr.below {W W' : World} {v : Value} (h : Below W.heap.size W W') : Fr W v.ownBlock v W' := ⟨Chg.of h, fun k h => .inl h⟩
theorem Fr.trans {W W1 W2 : World} {vb : Option Nat} {v1 v2 : Value} (h : Fr W vb v1 W1) (k : Fr W1 v1.ownBlock v2 W2) : Fr W vb v2 W2 :=
  ⟨World.grownBy.andThen h.1 k.1 (fun j hj => (h.2 j hj).symm), fun j hj => by
    rcases k.2 j hj with e | e
    · exact h.2 j e
    · exact .inr (Nat.le_trans h.1.size e)⟩
theorem Fr.after {W W1 W2 : World} {vb : Option Nat} {v : Value} (h : Below W.heap.size W W1) (k : Fr W1 vb v W2) : Fr W vb v W2 :=
  ⟨(Chg.of h).trans k.1, fun j hj => by
    rcases k.2 j hj with e | e
    · exact .inl e
    · exact .inr (Nat.le_trans h.size e)⟩
theorem Chg.under {vb : Option Nat} {W W' : World} {N : Nat} (h : Chg vb W W') (hN : N ≤ W.heap.size) (hv : ∀ k, vb = some k → N ≤ k) : Below N W W' :=
  ⟨h.os, h.tape, h.output, h.size, fun k hk => h.block k (by omega) (fun e => by have := hv k e.symm; omega)⟩
theorem QRow.blk {w : World} {B : Nat} {v : Value} {ts : List (List UInt8)} (h : QRow w B v ts) : ∀ g, v.ownBlock = some g → B ≤ g ∧ ∃ cs, Blk w g 40 cs := by
  intro g hg
  obtain ⟨_, h⟩ := h
  rcases h with ⟨rfl, _⟩ | ⟨g', cap, cur, rfl, h1, h2, _⟩
  · cases hg
  · cases hg; exact ⟨h1, cur, h2⟩
theorem QRow.keep {w w' : World} {B : Nat} {v : Value} {ts : List (List UInt8)} (h : QRow w B v ts) (hb : ∀ g, v.ownBlock = some g → w'.heap[g]? = w.heap[g]?) : QRow w' B v ts := by
  obtain ⟨hl, h⟩ := h
  refine ⟨hl, ?_⟩
  rcases h with h | ⟨g, cap, cur, rfl, hB, hg, r⟩
  · exact .inl h
  · exact .inr ⟨g, cap, cur, rfl, hB, (hb g rfl).trans hg, r⟩
/-- A row of texts stays when a row of nodes grows. -/
theorem QRow.fr {w w' : World} {B B' : Nat} {v u : Value} {ts : List (List UInt8)} {l : List Nd} (h : QRow w B v ts) (hn : NdRow w B' u l) (hc : Chg u.ownBlock w w') : QRow w' B v ts :=
  h.keep fun g hg => by
    obtain ⟨_, cs, h1⟩ := h.blk g hg
    refine hc.block g h1.lt (fun e => ?_)
    obtain ⟨_, cs', h2⟩ := hn.blk g e.symm
    unfold Blk at h1 h2
    rw [h1] at h2; injection h2 with h2; injection h2 with h3 h4; exact absurd h4 (by decide)

theorem idxOf_first {l : List Nd} {n : Nd} {i : Nat} (hi : i < l.length) (h : l.getD i nd0 = n) (hb : ∀ j, j < i → l.getD j nd0 ≠ n) : n ∈ l ∧ l.idxOf n = i := by
  have hm : n ∈ l := h ▸ mem_getD hi
  refine ⟨hm, ?_⟩
  have h1 := List.idxOf_lt_length_of_mem hm
  have h2 : l.getD (l.idxOf n) nd0 = n := by
    rw [List.getD_eq_getElem?_getD, List.getElem?_eq_getElem h1]; exact List.getElem_idxOf h1
  rcases Nat.lt_trichotomy (l.idxOf n) i with h3 | h3 | h3
  · exact absurd h2 (hb _ h3)
  · exact h3
  · exfalso
    have h4 : ∀ (l : List Nd) (i : Nat), i < l.length → l.getD i nd0 = n → l.idxOf n ≤ i := by
      intro l
      induction l with
      | nil => intro i hi; simp at hi
      | cons x l ih =>
        intro i hi e
        by_cases hx : x = n
        · subst hx; simp
        · rcases i with _ | i
          · exact absurd e hx
          · rw [List.idxOf_cons, beq_eq_false_iff_ne.2 hx]
            have := ih i (by simpa using hi) e
            simp only [cond_false]
            omega
    have := h4 l i hi h
    omega
theorem not_mem_none {l : List Nd} {n : Nd} (hb : ∀ j, j < l.length → l.getD j nd0 ≠ n) : n ∉ l := fun hm => by
  have h1 := List.idxOf_lt_length_of_mem hm
  refine hb _ h1 ?_
  rw [List.getD_eq_getElem?_getD, List.getElem?_eq_getElem h1]; exact List.getElem_idxOf h1

set_option maxHeartbeats 4000000 in
set_option maxRecDepth 100000 in
theorem found_any {W : World} {B : Nat} {v : Value} {l : List Nd} {n : Nd} (h : NdRow W B v l) (hB : B ≤ W.heap.size) (hl : l.length ≤ 1000) :
    Calls Tryz.prog 105 #[v, .agg #[.int .i64 n.1, .int .i64 n.2.1, .int .i64 n.2.2.1, .string ⟨n.2.2.2.toArray⟩]] W (fun e W' => ∃ v', e = .returned (.tuple #[v', .int .i64 (((putN l n).2 : Nat) : Int)]) ∧ NdRow W' B v' (putN l n).1 ∧ Fr W v.ownBlock v' W') := by
  obtain ⟨W0, hW0, hB0, hsz, j0⟩ := entA W 42 #[.int .i64 n.1, .int .i64 n.2.1, .int .i64 n.2.2.1, .string ⟨n.2.2.2.toArray⟩]
  obtain ⟨i0, hi0, hz0, hz1, hz2⟩ := info_parts infoNd
  have h0 := h.below2 hB0
  obtain ⟨a, c, rfl⟩ := h.len
  have HC := Lib.hid (fun (i : Nat) (hi : i < l.length) (V : World) (hV : Below W0.heap.size W0 V) => show ∃ g, a = some ⟨g, 0, none⟩ ∧ NdAt V g (i * 4) (l.getD i nd0) from by
    obtain ⟨g, e, _, h1⟩ := h0.nds.cell hi
    exact ⟨g, e, h1.next hV⟩)
  have HR := Lib.hid h0
  have HX := Lib.hid (fun (i : Nat) (hi : i < l.length) (h : l.getD i nd0 = n) (hb : ∀ j, j < i → l.getD j nd0 ≠ n) => idxOf_first hi h hb)
  have HY := Lib.hid (fun (hb : ∀ j, j < l.length → l.getD j nd0 ≠ n) => not_mem_none hb)
  have HP := Lib.hid (show putN l n = (if n ∈ l then l else l ++ [n], l.idxOf n) from rfl)
  obtain ⟨len, hlen⟩ : ∃ len, len = l.length := ⟨_, rfl⟩
  have HLEN := Lib.hid hlen
  rw [← hlen] at hl HC HX HY
  unfold NdRow at HR
  rw [← hlen] at HR ⊢
  have HW0 := Lib.hid hW0
  have J0 := Lib.hid j0
  have HB0 := Lib.hid hB0
  have HB := Lib.hid hB
  have HSZ := Lib.hid hsz
  clear h h0 hlen hW0 hB0 hsz j0 hB
  go_enter Tryz.func105, Tryz.ntmps105
  go_upto_region 1 with fail
  rw [← HW0.out]
  generalize hGX : W.heap.size = gx at *
  have HGX := Lib.hid hGX
  clear hGX HW0
  go_upto_region 2 with fail
  go_loopw [6] (fun u6 wr => ∃ i : Nat, i ≤ len ∧ u6 = .int .i64 (i : Int) ∧ Hid (∀ j, j < i → l.getD j nd0 ≠ n) ∧ Hid (Below W0.heap.size W0 wr)) (fun u6 _ => len - (intOf u6).toNat)
  case atStart => exact ⟨0, by omega, rfl, Lib.hid (fun j hj => absurd hj (by omega)), Lib.hid (Below.refl _ _)⟩
  case round =>
    obtain ⟨i, hi, rfl, hA, hK⟩ := hrel
    by_cases hlt : i < len
    · obtain ⟨g, rfl, hc⟩ := HC.out i hlt wr hK.out
      obtain ⟨n1, hn1⟩ : ∃ n1, l.getD i nd0 = n1 := ⟨_, rfl⟩
      rw [hn1] at hc
      have N1 := Lib.hid hn1
      clear hn1
      have hlti : (i : Int) < (len : Int) := by omega
      go_upto_region 4 with fail
      obtain ⟨y0, y1, y2, y3⟩ := (J0.out.next hK.out).at4
      obtain ⟨z1, z2, z3, z4⟩ := id hc
      have l1 := (J0.out.next hK.out).lt
      have l2 := hc.lt
      clear hc
      have hBd : Below wr.heap.size wr wr.drew := (Below.refl _ _).drew
      refine wp_region_list 5 (by kernel_rfl) (by kernel_rfl) [] [fun xv _ => xv = .slice (some ⟨g, 0, none⟩) len c, fun xv _ => xv = .int .i64 (i : Int), fun xv _ => xv = .pointer (some ⟨g, i * 4, none⟩), fun xv _ => xv = .agg #[.int .i64 n1.1, .int .i64 n1.2.1, .int .i64 n1.2.2.1, .string ⟨n1.2.2.2.toArray⟩], fun xv _ => xv = .agg #[.int .i64 n.1, .int .i64 n.2.1, .int .i64 n.2.2.1, .string ⟨n.2.2.2.toArray⟩]] (by simp only [List.take_succ_cons, List.take_zero]; rfl) (by simp only [List.drop_succ_cons, List.drop_zero]; rfl) (fun vals => by simp only [fam, Act.put, List.setIfInBounds_toArray, List.set_cons_zero, List.set_cons_succ, if_true]; rfl) (by repeat' (first | exact Stab.eq _ _ | exact Stab.wh _ _ | exact Stab.nm _ _ | exact Stab.new _ _ | exact Stab.newn _ _ | exact Stab.tw _ _ _ | exact Stab.lm _ _ _ | exact Stab.onet _ _ _ | exact Stab.pl _ _ _ | exact Stab.dg _ _ _ | exact Stab.nds _ _ | exact Stab.qs _ _ | exact trivial | apply And.intro)) trivial ?_ ?_
      · refine ⟨?_, ?_, ?_, ?_, ?_, trivial⟩
        all_goals
          intro vals wy hB1 hp
          dsimp only
          (try simp [preOk, Region.binds, r_anygc, r_anytext] at hp)
          have hb := next_below hBd hB1
          have q0 := keepc hb y0 l1
          have q1 := keepc hb y1 l1
          have q2 := keepc hb y2 l1
          have q3 := keepc hb y3 l1
          have r1 := keepc hb z1 l2
          have r2 := keepc hb z2 l2
          have r3 := keepc hb z3 l2
          have r4 := keepc hb z4 l2
          (try simp only [hp])
          clear hB1 y0 y1 y2 y3 z1 z2 z3 z4
          go_wp2
          (first | exact ⟨rfl, _, rfl, rfl, Below.refl _ _, trivial⟩ | (refine ⟨rfl, _, ?_, rfl, Below.refl _ _, trivial⟩; simp only [Act.put, List.setIfInBounds_toArray, List.set_cons_zero, List.set_cons_succ, Nat.zero_add, Nat.reduceAdd, hp]))
      · rintro vals w4 hB1 ⟨p0, p1, p2, p3, p4, _⟩ hne
        have hb := next_below hBd hB1
        simp only [List.getD_cons_zero, List.getD_cons_succ, Nat.zero_add, Nat.reduceAdd] at p3 p4
        have K4 := Lib.hid (hK.out.trans (hb.mono hK.out.size))
        clear y0 y1 y2 y3 z1 z2 z3 z4 l1 l2 hb hB1 hBd p0 p1 p2 hne
        refine wpList_eql_nd rfl (.tmp 16) (.tmp 17) _ rfl n1 n p3 p4 ?_
        clear p3 p4
        by_cases heq : n1 = n
        · rw [decide_eq_true heq]
          have HF := Lib.hid (HX.out i hlt (N1.out.trans heq) hA.out)
          clear heq
          go_wp2
          rw [HP.out, if_pos HF.out.1, HF.out.2]
          refine bodyPost_ret (v := .tuple #[.slice (some ⟨g, 0, none⟩) len c, .int .i64 (i : Int)]) (by simp [results, Tryz.results105, go_sem]) rfl ⟨_, rfl, ?_, ?_⟩
          · have h := NdRow.below2 (w' := w4) (v := .slice (some ⟨g, 0, none⟩) len c) (l := l) (B := B) (by unfold NdRow; rw [← HLEN.out]; exact HR.out) K4.out
            exact h
          · exact Fr.below (by rw [HGX.out]; exact HB0.out.trans (K4.out.mono (by rw [← HSZ.out.symm]; omega)))
        · rw [decide_eq_false heq]
          have HNE := Lib.hid heq
          clear heq
          go_wp2
          go_roundw
          case rel => exact ⟨i + 1, by omega, by go_num, Lib.hid (fun j hj => by
            by_cases h : j < i
            · exact hA.out j h
            · obtain rfl : j = i := by omega
              rw [N1.out]; exact HNE.out), K4⟩
          case measure => simp [intOf]; omega
    · obtain rfl : i = len := by omega
      have HNM := Lib.hid (HY.out hA.out)
      obtain ⟨y0, y1, y2, y3⟩ := (J0.out.next hK.out).at4
      have HRW := Lib.hid (show wr.ownsRow B 42 4 (.slice a i c) i (l.flatMap ndL) from by
        have h := NdRow.below2 (w' := wr) (v := .slice a i c) (l := l) (B := B) (by unfold NdRow; rw [← HLEN.out]; exact HR.out) hK.out
        unfold NdRow at h; rw [← HLEN.out] at h; exact h)
      have hsB : B ≤ wr.heap.size := Nat.le_trans HB.out (by have := hK.out.size; have := HB0.out.size; have := HGX.out; omega)
      go_upto_region 6 with fail
      go_wp2_with (at_builtin; refine wpList_append_lies _ rfl (.tmp 21) (.tmp 23) 29 rfl B 42 i0 _ 4 40 Tryz.underlying29 hi0 hz0 hz1 hz2 rfl (by decide) (.slice a i c) i (l.flatMap ndL) rfl (HRW.out.alloc _) ⟨wr.heap.size, 0, none⟩ 1 1 [.int .i64 n.1, .int .i64 n.2.1, .int .i64 n.2.2.1, .string ⟨n.2.2.2.toArray⟩] rfl rfl (cell_new_four _ _ _ _ _ _) (by simp [Value.oneCell']) (by omega) (by unfold maxLen; omega) (by omega) (by simp; omega) _ rfl ?_; intro g cap w1 hown1 hgrow1 hat hlt1)
      rw [HP.out, if_neg HNM.out, List.idxOf_eq_length HNM.out, ← HLEN.out]
      refine bodyPost_ret (v := .tuple #[.slice (some ⟨g, 0, none⟩) (i + 1) cap, .int .i64 (i : Int)]) (by simp [results, Tryz.results105, go_sem]) rfl ⟨_, rfl, ?_, ?_⟩
      · unfold NdRow
        rw [List.length_append, List.flatMap_append, ← HLEN.out]
        exact hown1
      · have h1 : Below W.heap.size W wr := by rw [HGX.out]; exact HB0.out.trans (hK.out.mono (by have := HB0.out.size; have := HGX.out; omega))
        refine Fr.after h1 ⟨World.grownBy.trans (Chg.of ((Below.refl _ _).alloc (Nat.le_refl _) _)) hgrow1, fun k hk => ?_⟩
        rcases hat with e | e
        · left; rw [e]; exact hk
        · right
          have : k = g := by simpa [Value.ownBlock] using hk.symm
          simp at e
          omega

theorem growT_len (m : Nat) : ∀ (k : Nat) (t : List (List UInt8)) (l : List Nd), (growT m k t l).1.length + 1 ≤ l.length + 2 ^ (k + 1)
  | 0, t, l => by
    have := putN_len l ((m : Int), 0, 0, t.getD 0 [])
    show (putN l ((m : Int), 0, 0, t.getD 0 [])).1.length + 1 ≤ l.length + 2
    omega
  | k + 1, t, l => by
    have h1 := growT_len m k (evens t) l
    have h2 := growT_len m k (odds t) (growT m k (evens t) l).1
    have e : 2 ^ (k + 1 + 1) = 2 ^ (k + 1) + 2 ^ (k + 1) := by rw [Nat.pow_succ]; omega
    rw [growT]
    split
    · show (growT m k (odds t) (growT m k (evens t) l).1).1.length + 1 ≤ _
      omega
    · have h3 := putN_len (growT m k (odds t) (growT m k (evens t) l).1).1 (((m - (k + 1) : Nat) : Int), ((growT m k (evens t) l).2 : Int), ((growT m k (odds t) (growT m k (evens t) l).1).2 : Int), [])
      omega
theorem Qs.form {w : World} {v : Value} {ts : List (List UInt8)} (h : Qs w v ts) : ∃ a c, v = .slice a ts.length c := by
  obtain ⟨a, c, e, -⟩ := h
  exact ⟨a, c, e⟩

/-- What grow answers. -/
def Grw (W : World) (B : Nat) (vb : Option Nat) (r : List Nd × Nat) (e : Ending) (W' : World) : Prop := ∃ v', e = .returned (.tuple #[v', .int .i64 ((r.2 : Nat) : Int)]) ∧ NdRow W' B v' r.1 ∧ Fr W vb v' W'

set_option maxHeartbeats 2000000 in
set_option maxRecDepth 100000 in
theorem grow_leaf {W : World} {B m : Nat} {v vt : Value} {l : List Nd} {t : List (List UInt8)} (h : NdRow W B v l) (hB : B ≤ W.heap.size) (hl : l.length + 2 ≤ 1000) (ht : Qs W vt t) (hn : t.length = 1) :
    Calls Tryz.prog 66 #[v, .int .i64 (m : Int), .int .i64 (m : Int), vt] W (Grw W B v.ownBlock (growT m 0 t l)) := by
  obtain ⟨at0, ct, rfl⟩ := ht.form
  rw [hn] at ht ⊢
  obtain ⟨p, rfl, c0, _⟩ := ht.cell (show 0 < 1 by omega)
  have c1 : W.cell? p = some (.string ⟨(t.getD 0 []).toArray⟩) := by
    have e : p.add 0 = p := by cases p; unfold Addr.add; split <;> simp_all
    rw [e] at c0; exact c0
  have HF := Lib.hid (found_any (n := ((m : Int), 0, 0, t.getD 0 [])) h hB (by omega))
  have HG := Lib.hid (show growT m 0 t l = putN l ((m : Int), 0, 0, t.getD 0 []) from rfl)
  generalize t.getD 0 [] = q0 at *
  clear h hl ht hn hB
  go_enter Tryz.func66, Tryz.ntmps66
  go_wp2_with fail
  refine (HF.out).mono ?_
  rintro e w1 ⟨v1, rfl, h1, h2⟩
  rw [← HG.out] at h1 ⊢
  have H1 := Lib.hid h1
  have H2 := Lib.hid h2
  clear h1 h2
  go_wp2
  exact bodyPost_ret (by simp [results, Tryz.results66, go_sem]) rfl ⟨_, rfl, H1.out, H2.out⟩

theorem wrap64_two {i : Nat} (h : i ≤ 128) : wrap64 ((i : Int) + 2) = ((i + 2 : Nat) : Int) := by unfold wrap64; omega
theorem wrap64_one {i : Nat} (h : i ≤ 1000) : wrap64 ((i : Int) + 1) = ((i + 1 : Nat) : Int) := by unfold wrap64; omega
def evs (t : List (List UInt8)) (j : Nat) : List (List UInt8) := (List.range j).map fun i => t.getD (2 * i) []
def ods (t : List (List UInt8)) (j : Nat) : List (List UInt8) := (List.range j).map fun i => t.getD (2 * i + 1) []
theorem evs_succ (t : List (List UInt8)) (j : Nat) : evs t (j + 1) = evs t j ++ [t.getD (2 * j) []] := by unfold evs; rw [List.range_succ, List.map_append, List.map_singleton]
theorem ods_succ (t : List (List UInt8)) (j : Nat) : ods t (j + 1) = ods t j ++ [t.getD (2 * j + 1) []] := by unfold ods; rw [List.range_succ, List.map_append, List.map_singleton]
theorem evs_len (t : List (List UInt8)) (j : Nat) : (evs t j).length = j := by simp [evs]
theorem ods_len (t : List (List UInt8)) (j : Nat) : (ods t j).length = j := by simp [ods]
theorem QRow.news {w w' : World} {B : Nat} {v : Value} {ts : List (List UInt8)} {row : Option Nat} (h : QRow w B v ts) (hg : w.grownBy w' row) (hne : ∀ g, v.ownBlock = some g → row ≠ some g) : QRow w' B v ts :=
  h.keep fun g hgg => by
    obtain ⟨_, cs, h1⟩ := h.blk g hgg
    exact hg.block g h1.lt (fun e => hne g hgg e.symm)
theorem own_slice {g n c : Nat} {k : Nat} (h : (Value.slice (some ⟨g, 0, none⟩) n c).ownBlock = some k) : k = g := by simpa [Value.ownBlock] using h.symm

set_option maxHeartbeats 16000000 in
set_option maxRecDepth 100000 in
theorem grow_step {k : Nat} (IH : ∀ {W : World} {B q m : Nat} {v vt : Value} {l : List Nd} {t : List (List UInt8)}, q + k = m → m ≤ 6 → NdRow W B v l → B ≤ W.heap.size → l.length + 2 ^ (k + 1) ≤ 1000 → Qs W vt t → t.length = 2 ^ k →
      Calls Tryz.prog 66 #[v, .int .i64 (m : Int), .int .i64 (q : Int), vt] W (Grw W B v.ownBlock (growT m k t l)))
    {W : World} {B q m : Nat} {v vt : Value} {l : List Nd} {t : List (List UInt8)} (hq : q + (k + 1) = m) (hm : m ≤ 6) (h : NdRow W B v l) (hB : B ≤ W.heap.size) (hl : l.length + 2 ^ (k + 1 + 1) ≤ 1000) (ht : Qs W vt t) (hn : t.length = 2 ^ (k + 1)) :
    Calls Tryz.prog 66 #[v, .int .i64 (m : Int), .int .i64 (q : Int), vt] W (Grw W B v.ownBlock (growT m (k + 1) t l)) := by
  obtain ⟨i0, hi0, hz0, hz1, hz2⟩ := info_parts infoQ
  obtain ⟨aT, ct, rfl⟩ := ht.form
  obtain ⟨a, c, rfl⟩ := h.len
  obtain ⟨H, hH⟩ : ∃ H, H = 2 ^ k := ⟨_, rfl⟩
  have hn2 : t.length = 2 * H := by rw [hn, hH, Nat.pow_succ]; omega
  have hH64 : H ≤ 32 := by rw [hH]; exact Nat.le_trans (Nat.pow_le_pow_right (by omega) (show k ≤ 5 by omega)) (by decide)
  have HT := Lib.hid (fun (i : Nat) (hi : i < 2 * H) (V : World) (hV : Below W.heap.size W V) => show ∃ p, aT = some p ∧ V.cell? (p.add i) = some (.string ⟨(t.getD i []).toArray⟩) from by
    obtain ⟨p, e, h1, _⟩ := ht.cell (i := i) (by rw [hn2]; exact hi)
    exact ⟨p, e, (hV.cell (p := p.add i) (World.block_lt_of_cell? W (p.add i) h1)).trans h1⟩)
  have HEV := Lib.hid (show evs t H = evens t from by unfold evs evens; rw [hn2, Nat.mul_div_cancel_left _ (by omega)])
  have HOD := Lib.hid (show ods t H = odds t from by unfold ods odds; rw [hn2, Nat.mul_div_cancel_left _ (by omega)])
  have HL := Lib.hid hl
  have HH := Lib.hid hH
  have HR := Lib.hid h
  have HB := Lib.hid hB
  have HG := Lib.hid (show growT m (k + 1) t l = (if (growT m k (evens t) l).2 = (growT m k (odds t) (growT m k (evens t) l).1).2 then ((growT m k (odds t) (growT m k (evens t) l).1).1, (growT m k (evens t) l).2) else putN (growT m k (odds t) (growT m k (evens t) l).1).1 ((q : Int), ((growT m k (evens t) l).2 : Int), ((growT m k (odds t) (growT m k (evens t) l).1).2 : Int), [])) from by
    rw [growT, show m - (k + 1) = q by omega])
  have HLE := Lib.hid (growT_len m k (evens t) l)
  have HLO := Lib.hid (growT_len m k (odds t) (growT m k (evens t) l).1)
  have HP := Lib.hid (show 2 ^ (k + 1 + 1) = 2 ^ (k + 1) + 2 ^ (k + 1) ∧ 0 < 2 ^ (k + 1) from ⟨by rw [Nat.pow_succ]; omega, Nat.pow_pos (by omega)⟩)
  have hqm : ¬ (q : Int) = (m : Int) := by omega
  have HQ1 := Lib.hid (show wrap64 ((q : Int) + 1) = ((q + 1 : Nat) : Int) from by unfold wrap64; omega)
  have HQK := Lib.hid (show (q + 1) + k = m by omega)
  have HM := Lib.hid hm
  generalize hRES : growT m (k + 1) t l = RES at *
  clear hRES
  have HN := Lib.hid hn2
  rw [hn2]
  clear h hB hl ht hn hn2 hH hq hm
  obtain ⟨N, hN⟩ : ∃ N, N = 2 * H := ⟨_, rfl⟩
  rw [← hN] at HT ⊢
  have HNH := Lib.hid hN
  clear hN
  go_enter Tryz.func66, Tryz.ntmps66
  go_upto_region 5 with fail
  rw [show ((q : Int) == (m : Int)) = false from beq_eq_false_iff_ne.2 hqm]
  clear hqm
  go_loopw [10, 11, 12] (fun u10 u11 u12 wr => ∃ j i : Nat, j ≤ H ∧ i = 2 * j ∧ u12 = .int .i64 (i : Int) ∧ Hid (QRow wr W.heap.size u10 (evs t j)) ∧ Hid (QRow wr W.heap.size u11 (ods t j)) ∧ Hid (∀ g, u10.ownBlock = some g → u11.ownBlock ≠ some g) ∧ Hid (Below W.heap.size W wr)) (fun _ _ u12 _ => N - (intOf u12).toNat)
  case atStart => exact ⟨0, 0, by omega, rfl, rfl, Lib.hid (QRow.nil _ _), Lib.hid (QRow.nil _ _), Lib.hid (fun g h => by simp [Value.ownBlock] at h), Lib.hid (Below.refl _ _)⟩
  case round =>
    obtain ⟨j, i, hj, hi, rfl, hZ, hO, hS, hK⟩ := hrel
    obtain ⟨az, cz, hv⟩ := hZ.out.len
    rw [evs_len] at hv
    subst hv
    obtain ⟨ao, co, hv⟩ := hO.out.len
    rw [ods_len] at hv
    subst hv
    by_cases hlt : j < H
    · have hiN : i + 1 < N := by have := HNH.out; omega
      have hlti : (i : Int) < (N : Int) := by omega
      obtain ⟨p, rfl, hc⟩ := HT.out i (by omega) wr hK.out
      obtain ⟨p', hp', hc1⟩ := HT.out (i + 1) (by omega) wr hK.out
      cases hp'
      obtain ⟨i1, hi1⟩ : ∃ i1, i1 = i + 1 := ⟨_, rfl⟩
      rw [← hi1] at hc1
      have e1 : wrap64 ((i : Int) + 1) = (i1 : Int) := by unfold wrap64; omega
      have hlti1 : (i1 : Int) < (N : Int) := by omega
      have HEs := Lib.hid (show evs t (j + 1) = evs t j ++ [t.getD i []] from by rw [hi]; exact evs_succ t j)
      have HOs := Lib.hid (show ods t (j + 1) = ods t j ++ [t.getD i1 []] from by rw [hi1, hi]; exact ods_succ t j)
      generalize t.getD i [] = x0 at *
      generalize hx1 : t.getD i1 [] = x1 at *
      have HX1 := Lib.hid hx1
      clear hx1
      have HIJ := Lib.hid (And.intro hi hi1)
      have hZo := Lib.hid (hZ.out.owns (evs_len t j))
      have hsz : W.heap.size ≤ wr.heap.size := hK.out.size
      have HC1 := Lib.hid hc1
      have HIN := Lib.hid hiN
      have HI64 := Lib.hid (show i ≤ 128 by omega)
      clear hc1 hi1 hi hiN
      have hj64 : j ≤ 64 := by omega
      go_upto_region 8 with (at_builtin; refine wpList_append_lies _ rfl (.tmp 33) (.tmp 38) 27 rfl W.heap.size 40 i0 (.string ⟨#[]⟩) 1 16 Tryz.underlying27 hi0 hz0 hz1 hz2 rfl (by decide) (.slice az j cz) j (evs t j |>.map qv) rfl (hZo.out.alloc _) ⟨wr.heap.size, 0, none⟩ 1 1 [.string ⟨x0.toArray⟩] rfl rfl (cell_new_q _ _ _) (by intro u hu; simp at hu; subst hu; rfl) (by omega) (by unfold maxLen; omega) (by omega) (by simp; omega) _ rfl ?_; intro g cap w3 hown1 hgrow1 hat1 hlt1)
      have hga : Chg (Value.slice az j cz).ownBlock wr w3 := World.grownBy.trans (Chg.of ((Below.refl _ _).alloc (Nat.le_refl _) _)) hgrow1
      have hzb : ∀ k, (Value.slice az j cz).ownBlock = some k → W.heap.size ≤ k ∧ k < wr.heap.size := fun k hk => by
        obtain ⟨h1, cs, h2⟩ := hZ.out.blk k hk
        exact ⟨h1, h2.lt⟩
      have hob : ∀ k, (Value.slice ao j co).ownBlock = some k → W.heap.size ≤ k ∧ k < wr.heap.size := fun k hk => by
        obtain ⟨h1, cs, h2⟩ := hO.out.blk k hk
        exact ⟨h1, h2.lt⟩
      have hK3 : Below W.heap.size W w3 := hK.out.trans (hga.under hsz (fun k hk => (hzb k hk).1))
      have hO3 : QRow w3 W.heap.size (.slice ao j co) (ods t j) := hO.out.news hga (fun g hg e => hS.out g e hg)
      have hZ3 := Lib.hid (show QRow w3 W.heap.size (.slice (some ⟨g, 0, none⟩) (j + 1) cap) (evs t (j + 1)) from by rw [HEs.out]; exact QRow.snoc (evs_len t j) hown1)
      have hs3 : wr.heap.size < w3.heap.size := by have := hgrow1.size; simp at this; omega
      obtain ⟨pc, hpc, hc1⟩ := HT.out i1 (by have := HIJ.out; have := HIN.out; omega) w3 hK3
      cases hpc
      have HK3 := Lib.hid hK3
      have HO3 := Lib.hid hO3
      have hOo := Lib.hid (hO3.owns (ods_len t j))
      have hsz3 : W.heap.size ≤ w3.heap.size := hK3.size
      have HGA := Lib.hid (And.intro hzb (And.intro hob (And.intro hat1 (And.intro hlt1 hs3))))
      rw [HX1.out] at hc1
      clear hown1 hgrow1 hat1 hlt1 hga hzb hob hK3 hO3 hc
      go_upto_region 8 with fail
      go_wp2_with (at_builtin; refine wpList_append_lies _ rfl (.tmp 40) (.tmp 46) 27 rfl W.heap.size 40 i0 (.string ⟨#[]⟩) 1 16 Tryz.underlying27 hi0 hz0 hz1 hz2 rfl (by decide) (.slice ao j co) j (ods t j |>.map qv) rfl (hOo.out.alloc _) ⟨w3.heap.size, 0, none⟩ 1 1 [.string ⟨x1.toArray⟩] rfl rfl (cell_new_q _ _ _) (by intro u hu; simp at hu; subst hu; rfl) (by omega) (by unfold maxLen; omega) (by omega) (by simp; omega) _ rfl ?_; intro g' cap' w4 hown2 hgrow2 hat2 hlt2)
      go_roundw
      case rel =>
        have hga2 : Chg (Value.slice ao j co).ownBlock w3 w4 := World.grownBy.trans (Chg.of ((Below.refl _ _).alloc (Nat.le_refl _) _)) hgrow2
        obtain ⟨hzb, hob, hat1, hlt1, hs3'⟩ := HGA.out
        clear e1
        refine ⟨j + 1, i + 2, by omega, by have := HIJ.out.1; omega, by rw [wrap64_two HI64.out], Lib.hid ?_, Lib.hid ?_, Lib.hid ?_, Lib.hid ?_⟩
        · refine hZ3.out.news hga2 (fun k hk e => ?_)
          have hk' := own_slice hk
          subst hk'
          rcases hat1 with h1 | h1
          · exact hS.out _ h1 e
          · have := (hob _ e).2
            simp at h1; omega
        · rw [HOs.out]; exact QRow.snoc (ods_len t j) hown2
        · intro k hk e
          have hk' := own_slice hk
          have he' := own_slice e
          rw [he'] at hk'
          subst hk'
          rcases hat1 with h1 | h1
          · rcases hat2 with h2 | h2
            · exact hS.out _ h1 h2
            · have := (hzb _ h1).2
              simp at h2; omega
          · rcases hat2 with h2 | h2
            · have := (hob _ h2).2
              simp at h1; omega
            · simp at h1 h2; omega
        · exact HK3.out.trans (hga2.under hsz3 (fun k hk => (hob k hk).1))
      case measure => clear e1; have hin := HIN.out; rw [wrap64_two HI64.out]; simp only [intOf, Int.toNat_natCast]; omega
    · obtain rfl : j = H := by omega
      obtain rfl : i = N := by have := HNH.out; omega
      clear hi
      rw [HEV.out] at hZ
      rw [HOD.out] at hO
      have hW1 := Lib.hid (HR.out.below2 hK.out)
      have HLN := Lib.hid (show (evens t).length = 2 ^ k ∧ (odds t).length = 2 ^ k from ⟨by rw [← HEV.out, evs_len, HH.out], by rw [← HOD.out, ods_len, HH.out]⟩)
      have hq1 := HQ1.out
      go_upto_region 9 with fail
      have HC9 := Lib.hid (IH (q := q + 1) HQK.out HM.out hW1.out (Nat.le_trans HB.out hK.out.size) (by have := HL.out; have := HP.out; omega) hZ.out.qs HLN.out.1)
      go_wp2_with fail
      refine (HC9.out).mono ?_
      rintro e w1 ⟨v1, rfl, h1, f1⟩
      have N1 := Lib.hid h1
      have F1 := Lib.hid f1
      have O1 := Lib.hid (hO.out.fr hW1.out f1.1)
      clear h1 f1 HC9
      have HC10 := Lib.hid (IH (q := q + 1) HQK.out HM.out N1.out (Nat.le_trans (Nat.le_trans HB.out hK.out.size) F1.out.1.size) (by have := HL.out; have := HP.out; have := HLE.out; omega) O1.out.qs HLN.out.2)
      generalize growT m k (evens t) l = r1 at *
      obtain ⟨l1, x1⟩ := r1
      simp only at N1 HG HLE HLO HC10
      go_wp2_with fail
      refine (HC10.out).mono ?_
      rintro e w2 ⟨v2, rfl, h2, f2⟩
      have N2 := Lib.hid h2
      have F2 := Lib.hid (F1.out.trans f2)
      clear h2 f2 HC10 N1 F1 O1
      generalize growT m k (odds t) l1 = r2 at *
      obtain ⟨l2, x2⟩ := r2
      simp only at N2 HG HLO
      by_cases hx : x1 = x2
      · subst hx
        have HGT := Lib.hid (show RES = (l2, x1) from by rw [HG.out, if_pos rfl])
        go_wp2
        rw [HGT.out]
        exact bodyPost_ret (by simp [results, Tryz.results66, go_sem]) rfl ⟨_, rfl, N2.out, Fr.after hK.out F2.out⟩
      · have HGT := Lib.hid (show RES = putN l2 ((q : Int), (x1 : Int), (x2 : Int), []) from by rw [HG.out, if_neg hx])
        have hxi : ¬ (x1 : Int) = (x2 : Int) := by omega
        have HC11 := Lib.hid (found_any (n := ((q : Int), (x1 : Int), (x2 : Int), [])) N2.out (Nat.le_trans (Nat.le_trans HB.out hK.out.size) F2.out.1.size) (by have := HL.out; have := HP.out; have := HLE.out; have := HLO.out; omega))
        clear hx
        go_wp2_with fail
        refine (HC11.out).mono ?_
        rintro e w4 ⟨v4, rfl, h4, f4⟩
        rw [← HGT.out] at h4 ⊢
        have N4 := Lib.hid h4
        have F4 := Lib.hid (Fr.after hK.out (F2.out.trans f4))
        clear h4 f4
        go_wp2
        exact bodyPost_ret (by simp [results, Tryz.results66, go_sem]) rfl ⟨_, rfl, N4.out, F4.out⟩

theorem grow_any : ∀ (k : Nat) {W : World} {B q m : Nat} {v vt : Value} {l : List Nd} {t : List (List UInt8)}, q + k = m → m ≤ 6 → NdRow W B v l → B ≤ W.heap.size → l.length + 2 ^ (k + 1) ≤ 1000 → Qs W vt t → t.length = 2 ^ k →
    Calls Tryz.prog 66 #[v, .int .i64 (m : Int), .int .i64 (q : Int), vt] W (Grw W B v.ownBlock (growT m k t l))
  | 0, W, B, q, m, v, vt, l, t, hq, hm, h, hB, hl, ht, hn => by
    obtain rfl : q = m := by omega
    exact grow_leaf h hB (by simpa using hl) ht (by simpa using hn)
  | k + 1, W, B, q, m, v, vt, l, t, hq, hm, h, hB, hl, ht, hn => grow_step (fun h1 h2 h3 h4 h5 h6 h7 => grow_any k h1 h2 h3 h4 h5 h6 h7) hq hm h hB hl ht hn

/-- A diagram is handed back. -/
def RetDm (W : World) (n : Nat) (l : List Nd) (e : Ending) (W' : World) : Prop := ∃ a c, e = .returned (.agg #[.int .i64 (n : Int), .slice a l.length c]) ∧ Nds W' (.slice a l.length c) l ∧ Below W.heap.size W W'

set_option maxHeartbeats 2000000 in
set_option maxRecDepth 100000 in
theorem rmade_any {W : World} {v : Value} {S : List (List UInt8)} {n : Nat} (h : Tbl S n) (hv : Qs W v S) : Calls Tryz.prog 39 #[.int .i64 (n : Int), v] W (RetDm W n (dgN S n)) := by
  obtain ⟨W1, hW1, hB1, hs1, j1⟩ := entA W 31 #[.int .i64 0, .slice none 0 0]
  have HG := Lib.hid (grow_any n (W := W1) (B := W1.heap.size) (q := 0) (m := n) (v := .slice none 0 0) (vt := v) (l := []) (t := S) (by omega) h.n6 (NdRow.nil _ _) (Nat.le_refl _) (by
    have := Nat.pow_le_pow_right (show 2 > 0 by omega) (show n + 1 ≤ 7 by have := h.n6; omega)
    simp; omega) (hv.below hB1) h.len)
  have HE := Lib.hid (show (growT n n S []).1 = dgN S n from by rw [growT_made S h.len]; rfl)
  have HW1 := Lib.hid hW1
  have J1 := Lib.hid j1
  have HB1 := Lib.hid hB1
  obtain ⟨a, c, rfl⟩ := hv.form
  generalize S.length = sl at *
  clear h hv hW1 hB1 hs1 j1
  go_enter Tryz.func39, Tryz.ntmps39
  go_upto_region 1 with fail
  rw [← HW1.out]
  clear HW1
  go_wp2_with fail
  refine (HG.out).mono ?_
  rintro e w1 ⟨v1, rfl, h1, f1⟩
  have hb : Below W1.heap.size W1 w1 := f1.1.under (Nat.le_refl _) (fun k hk => by simp [Value.ownBlock] at hk)
  have j2 := J1.out.next hb
  have kk := HB1.out.trans (hb.mono HB1.out.size)
  rw [HE.out] at h1
  have m1 := h1.nds
  obtain ⟨a1, c1, rfl⟩ := h1.len
  generalize (growT n n S []).2 = x at *
  generalize dgN S n = L at *
  have hj5 := j2.two (.int .i64 (n : Int)) (.slice a1 L.length c1)
  have D0 := Lib.hid (hj5.cell 0)
  have D1 := Lib.hid (hj5.cell 1)
  have N5 := Lib.hid (m1.away (w' := (w1.setCell ⟨W.heap.size, 0, none⟩ (.int .i64 (n : Int))).setCell ⟨W.heap.size, 1, none⟩ (.slice a1 L.length c1)) (fun j hj => by
    rw [Below.heap_setCell _ ⟨W.heap.size, 1, none⟩ _ j hj, Below.heap_setCell _ ⟨W.heap.size, 0, none⟩ _ j hj]) j2.cell1)
  have KK := Lib.hid ((kk.setCell (p := ⟨W.heap.size, 0, none⟩) (by simp) (.int .i64 (n : Int))).setCell (p := ⟨W.heap.size, 1, none⟩) (by simp) (.slice a1 L.length c1))
  obtain ⟨x0, x1⟩ : _ ∧ _ := ⟨j2.cell0, j2.cell1⟩
  have f0 := j2.frozen 0
  have f1' := j2.frozen 1
  clear hj5 j2 m1 hb h1 f1 HG HE J1 HB1 kk
  go_wp2
  have d0 := D0.out
  have d1 := D1.out
  exact bodyPost_ret (v := .agg #[.int .i64 (n : Int), .slice a1 L.length c1]) (by simp [results, Tryz.results39, go_sem, d0, d1]) rfl ⟨a1, c1, rfl, N5.out, KK.out⟩

set_option maxHeartbeats 2000000 in
set_option maxRecDepth 100000 in
theorem with_any {W : World} {v : Value} {vr kd n : Nat} {zs : List Nat} (h : Dft W v vr kd zs) (hn : n ≤ 6) : Calls Tryz.prog 17 #[v, .int .i64 (n : Int)] W (RetDm W n (dgV (dtV kd zs) n)) := by
  obtain ⟨s, rfl, hu⟩ := id h.is
  obtain ⟨ao, cap, rfl, -⟩ := hu.open_
  obtain ⟨W2, hW2, hB2, hs2, j1, j2⟩ := entB W 24 31 #[.int .u8 (vr : Int), .int .u8 (kd : Int), .slice ao zs.length cap] #[.int .i64 0, .slice none 0 0]
  have HT := Lib.hid (draft_table (h.below hB2) hn)
  have HM := Lib.hid (fun (V : World) (u : Value) (hu : Qs V u (tabD kd zs n)) => rmade_any (tabD_tbl hn) hu)
  rw [tabD_dg] at HM
  have d0 : W2.cell? ⟨W.heap.size, 0, none⟩ = some (.int .u8 (vr : Int)) := j1.cell 0
  have d1 : W2.cell? ⟨W.heap.size, 1, none⟩ = some (.int .u8 (kd : Int)) := j1.cell 1
  have d2 : W2.cell? ⟨W.heap.size, 2, none⟩ = some (.slice ao zs.length cap) := j1.cell 2
  have HW2 := Lib.hid hW2
  have J2 := Lib.hid j2
  have HB2 := Lib.hid hB2
  generalize zs.length = zl at *
  generalize tabD kd zs n = T at *
  generalize dgV (dtV kd zs) n = L at *
  clear h hu hn hW2 hB2 hs2 j1 j2
  go_enter Tryz.func17, Tryz.ntmps17
  go_upto_region 1 with fail
  rw [← HW2.out]
  clear HW2
  go_wp2_with fail
  refine (HT.out).mono ?_
  rintro e w1 ⟨u, rfl, q1, b1⟩
  have HC := Lib.hid (HM.out w1 u q1)
  have J3 := Lib.hid (J2.out.next b1)
  have K3 := Lib.hid (HB2.out.trans (b1.mono HB2.out.size))
  clear q1 b1 d0 d1 d2
  go_wp2_with fail
  refine (HC.out).mono ?_
  rintro e w2 ⟨a1, c1, rfl, m1, b2⟩
  have j2 := J3.out.next b2
  have kk := next_below K3.out b2
  have hj5 := j2.two (.int .i64 (n : Int)) (.slice a1 L.length c1)
  have D0 := Lib.hid (hj5.cell 0)
  have D1 := Lib.hid (hj5.cell 1)
  have N5 := Lib.hid (m1.away (w' := (w2.setCell ⟨W.heap.size + 1, 0, none⟩ (.int .i64 (n : Int))).setCell ⟨W.heap.size + 1, 1, none⟩ (.slice a1 L.length c1)) (fun j hj => by
    rw [Below.heap_setCell _ ⟨W.heap.size + 1, 1, none⟩ _ j hj, Below.heap_setCell _ ⟨W.heap.size + 1, 0, none⟩ _ j hj]) j2.cell1)
  have KK := Lib.hid ((kk.setCell (p := ⟨W.heap.size + 1, 0, none⟩) (by simp) (.int .i64 (n : Int))).setCell (p := ⟨W.heap.size + 1, 1, none⟩) (by simp) (.slice a1 L.length c1))
  obtain ⟨x0, x1⟩ : _ ∧ _ := ⟨j2.cell0, j2.cell1⟩
  have f0 := j2.frozen 0
  have f1' := j2.frozen 1
  clear hj5 j2 m1 b2 HC J2 HB2 J3 K3 kk HM HT
  go_wp2
  have d0 := D0.out
  have d1 := D1.out
  exact bodyPost_ret (v := .agg #[.int .i64 (n : Int), .slice a1 L.length c1]) (by simp [results, Tryz.results17, go_sem, d0, d1]) rfl ⟨a1, c1, rfl, N5.out, KK.out⟩
end Go.Proofs.YtpmlmibceiolpaaGreatDoor
