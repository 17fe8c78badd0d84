/- The places of outcomes, yielded one after the other: draw.places. -/
import Derived.Test.YtfjjdjhnodcfhaaGreatDoorDCheck
import Derived.Test.YtfjjdjhnodcfhaaGreatDoorSeqR
import Derived.Sort.CutIn
import Derived.Test.YtfjjdjhnodcfhaaGreatDoorDCntM
set_option linter.unusedSimpArgs false
set_option linter.unusedVariables false
namespace Go.Proofs.YtfjjdjhnodcfhaaGreatDoor
open Go.RowKit Go.Shelf
attribute [local go_sem] Oper.semAt_some

/-- What a round keeps: all cells but those of one block, which keeps its type. -/
structure Kq (t : TypeId) (bs : Nat) (A B : World) : Prop where
  size : A.heap.size ≤ B.heap.size
  same : ∀ (k : Nat) (o : Obj), k ≠ bs → A.heap[k]? = some o → o.isCells = true → B.heap[k]? = some o
  kind : (∃ cs, Blk A bs t cs) → ∃ cs, Blk B bs t cs
theorem Kq.refl (t : TypeId) (bs : Nat) (A : World) : Kq t bs A A := ⟨Nat.le_refl _, fun _ _ _ h _ => h, fun h => h⟩
theorem Kq.trans {t : TypeId} {bs : Nat} {A B C : World} (h : Kq t bs A B) (k : Kq t bs B C) : Kq t bs A C :=
  ⟨Nat.le_trans h.size k.size, fun i o hn hi ho => k.same i o hn (h.same i o hn hi ho) ho, fun hi => k.kind (h.kind hi)⟩
theorem Kq.of_below {t : TypeId} {bs : Nat} {A B : World} (h : Below A.heap.size A B) : Kq t bs A B :=
  ⟨h.size, fun k o _ hk _ => (h.block k (Array.getElem?_eq_some_iff.1 hk).1).trans hk, fun ⟨cs, hb⟩ => ⟨cs, hb.next h⟩⟩
theorem Kq.turn {t : TypeId} {bs : Nat} {W : World} {l : Nat} {o : Obj} (o' : Obj) (h : W.heap[l]? = some o) (ho : o.isCells = false) : Kq t bs W (W.putObj l o') :=
  ⟨by simp, fun k o2 _ hk hc => turn_other h ho hk hc, fun ⟨cs, hb⟩ => ⟨cs, turn_other h ho hb rfl⟩⟩
theorem Kq.four {bs : Nat} {t : TypeId} {W : World} {u0 u1 u2 u3 : Value} (h : Blk W bs t #[u0, u1, u2, u3]) (x y z u : Value) : Kq t bs W ((((W.setCell ⟨bs, 0, none⟩ x).setCell ⟨bs, 1, none⟩ y).setCell ⟨bs, 2, none⟩ z).setCell ⟨bs, 3, none⟩ u) :=
  ⟨by simp, fun k o hk h1 _ => by
    have e1 := Below.heap_setCell W ⟨bs, 0, none⟩ x k hk
    have e2 := Below.heap_setCell (W.setCell ⟨bs, 0, none⟩ x) ⟨bs, 1, none⟩ y k hk
    have e3 := Below.heap_setCell ((W.setCell ⟨bs, 0, none⟩ x).setCell ⟨bs, 1, none⟩ y) ⟨bs, 2, none⟩ z k hk
    have e4 := Below.heap_setCell (((W.setCell ⟨bs, 0, none⟩ x).setCell ⟨bs, 1, none⟩ y).setCell ⟨bs, 2, none⟩ z) ⟨bs, 3, none⟩ u k hk
    rw [e4, e3, e2, e1]; exact h1, fun _ => ⟨_, h.four x y z u⟩⟩
theorem Kq.own {bs : Nat} {t : TypeId} {W A B : World} (h : Kq t bs W A) (hb : bs < W.heap.size) (o : Own W.heap.size A B) : Kq t bs W B :=
  ⟨Nat.le_trans h.size o.1.size, fun k ob hk hw hc => (o.old (Array.getElem?_eq_some_iff.1 hw).1).trans (h.same k ob hk hw hc), fun hi => by obtain ⟨cs, hk⟩ := h.kind hi; exact ⟨cs, o.blk hk hb⟩⟩
theorem Blk.kq {A B : World} {bs g : Nat} {s t : TypeId} {cs : Array Value} (h : Blk A g t cs) (hk : Kq s bs A B) (hg : g ≠ bs) : Blk B g t cs := hk.same g _ hg h rfl
theorem Wh.kq {A B : World} {bs : Nat} {t : TypeId} {v : Value} {n : Int} (h : Wh A v n) (hk : Kq t bs A B) (ht : t ≠ 116) (hi : ∃ cs, Blk A bs t cs) : Wh B v n :=
  h.of_same fun k cs f hb => by
    obtain ⟨us, h2⟩ := hi
    have hne : k ≠ bs := by
      rintro rfl
      unfold Blk at h2
      rw [hb] at h2
      cases h2; exact ht rfl
    exact (hk.same k _ hne hb rfl).trans hb.symm
theorem Nm.kq {A B : World} {bs : Nat} {t : TypeId} {v : Value} {x : Rat} (h : Nm A v x) (hk : Kq t bs A B) (ht : t ≠ 116) (hi : ∃ cs, Blk A bs t cs) : Nm B v x := by
  obtain ⟨a, b, c, d, h1, h2, h3⟩ := h
  exact ⟨a, b, c, d, h1, h2.kq hk ht hi, h3.kq hk ht hi⟩
theorem Nm.turn {W : World} {v : Value} {x : Rat} {l : Nat} {o : Obj} (h : Nm W v x) (o' : Obj) (hl : W.heap[l]? = some o) (ho : o.isCells = false) : Nm (W.putObj l o') v x := by
  obtain ⟨a, b, c, d, h1, h2, h3⟩ := h
  exact ⟨a, b, c, d, h1, h2.turn o' hl ho, h3.turn o' hl ho⟩
theorem Pl.turn {W : World} {v : Value} {f t : Rat} {l : Nat} {o : Obj} (h : Pl W v f t) (o' : Obj) (hl : W.heap[l]? = some o) (ho : o.isCells = false) : Pl (W.putObj l o') v f t := by
  obtain ⟨b, a, k, p, c, e, l, q, b', a', k', p', c', e', l', q', h1, h2, h3⟩ := h
  exact ⟨b, a, k, p, c, e, l, q, b', a', k', p', c', e', l', q', h1, h2.turn o' hl ho, h3.turn o' hl ho⟩

/-- The numbers of a block. -/
def NumB (w : World) (g : Nat) (xs : List Rat) : Prop := ∃ cs, Blk w g 84 cs ∧ ∀ i, i < xs.length → ∃ y0 y1 y2 y3, cs[4 * i]? = some y0 ∧ cs[4 * i + 1]? = some y1 ∧ cs[4 * i + 2]? = some y2 ∧ cs[4 * i + 3]? = some y3 ∧ Nm w (.agg #[y0, y1, y2, y3]) (xs.getD i 0)
theorem NumB.below {w w' : World} {g : Nat} {xs : List Rat} (h : NumB w g xs) (hb : Below w.heap.size w w') : NumB w' g xs := by
  obtain ⟨cs, h1, h2⟩ := h
  exact ⟨cs, h1.next hb, fun i hi => by obtain ⟨y0, y1, y2, y3, c0, c1, c2, c3, hn⟩ := h2 i hi; exact ⟨y0, y1, y2, y3, c0, c1, c2, c3, hn.below hb⟩⟩
theorem NumB.kq {A B : World} {bs g : Nat} {t : TypeId} {xs : List Rat} (h : NumB A g xs) (hk : Kq t bs A B) (ht : t ≠ 116) (hi : ∃ cs, Blk A bs t cs) (hg : g ≠ bs) : NumB B g xs := by
  obtain ⟨cs, h1, h2⟩ := h
  exact ⟨cs, h1.kq hk hg, fun i hi' => by obtain ⟨y0, y1, y2, y3, c0, c1, c2, c3, hn⟩ := h2 i hi'; exact ⟨y0, y1, y2, y3, c0, c1, c2, c3, hn.kq hk ht hi⟩⟩
theorem NumB.cells {w : World} {g : Nat} {xs : List Rat} (h : NumB w g xs) {i : Nat} (hi : i < xs.length) : ∃ b a, ∃ k p : Nat, ∃ c e, ∃ l q : Nat, w.cell? ⟨g, i * 4, none⟩ = some (.bool b) ∧ w.cell? ⟨g, i * 4 + 1, none⟩ = some (.slice a k p) ∧ w.cell? ⟨g, i * 4 + 2, none⟩ = some (.bool c) ∧ w.cell? ⟨g, i * 4 + 3, none⟩ = some (.slice e l q) ∧ Nm w (.agg #[.bool b, .slice a k p, .bool c, .slice e l q]) (xs.getD i 0) := by
  obtain ⟨cs, h1, h2⟩ := h
  obtain ⟨y0, y1, y2, y3, c0, c1, c2, c3, hn⟩ := h2 i hi
  rw [Nat.mul_comm] at c0 c1 c2 c3
  obtain ⟨b, a, k, p, c, e, l, q, he, -, -⟩ := id hn.parts
  cases he
  exact ⟨b, a, k, p, c, e, l, q, (h1.cell _).trans c0, (h1.cell _).trans c1, (h1.cell _).trans c2, (h1.cell _).trans c3, hn⟩
theorem NRow.numb {w : World} {B : Nat} {v : Value} {xs : List Rat} (h : NRow w B v xs) (h0 : xs ≠ []) : ∃ g c : Nat, v = .slice (some ⟨g, 0, none⟩) xs.length c ∧ xs.length ≤ c ∧ c ≤ maxLen ∧ NumB w g xs := by
  obtain ⟨cs, ⟨hl, h⟩, h2⟩ := h
  rcases h with ⟨_, he⟩ | ⟨g, cap, cur, rfl, hB, hg, hn, hm, hc, ht⟩
  · exact absurd (List.length_eq_zero_iff.1 he) h0
  · refine ⟨g, cap, rfl, hn, hm, cur, hg, fun i hi => ?_⟩
    obtain ⟨a, b, c, d, e0, e1, e2, e3, hx⟩ := Nms.at_ cs xs i h2 hi
    have hc' : ∀ j u, j < xs.length * 4 → cs[j]? = some u → cur[j]? = some u := by
      intro j u hj hu
      rw [← ht, List.getElem?_take, if_pos hj] at hu
      simpa using hu
    exact ⟨a, b, c, d, hc' _ _ (by omega) e0, hc' _ _ (by omega) e1, hc' _ _ (by omega) e2, hc' _ _ (by omega) e3, hx⟩
theorem NBox.kq {A B : World} {bs g : Nat} {t : TypeId} {x : Rat} (h : NBox A g x) (hk : Kq t bs A B) (ht : t ≠ 116) (hi : ∃ cs, Blk A bs t cs) (hg : g ≠ bs) : NBox B g x := by
  obtain ⟨b, a, k, p, c, e, l, q, h1, h2⟩ := h
  exact ⟨b, a, k, p, c, e, l, q, h1.kq hk hg, h2.kq hk ht hi⟩
theorem NBox.turn {W : World} {g : Nat} {x : Rat} {l : Nat} {o : Obj} (h : NBox W g x) (o' : Obj) (hl : W.heap[l]? = some o) (ho : o.isCells = false) : NBox (W.putObj l o') g x := by
  obtain ⟨b, a, k, p, c, e, l, q, h1, h2⟩ := h
  exact ⟨b, a, k, p, c, e, l, q, h1.turn o' hl ho, h2.turn o' hl ho⟩

set_option maxHeartbeats 1000000 in
theorem places_any (a : Option Addr) (n c : Nat) (w : World) :
    Calls Tryz.prog 38 #[.slice a n c] w fun o w' => o = .returned (.func (.func 77) #[] #[.pointer (some ⟨w.heap.size, 0, none⟩)]) ∧ w' = w.alloc (.cells #[.slice a n c] 76) := by
  go_enter Tryz.func38, Tryz.ntmps38
  go_wp2
  go_ret
  exact ⟨rfl, rfl⟩

set_option maxRecDepth 100000 in
set_option maxHeartbeats 4000000 in
theorem places_in (m : Nat) (hm : 1 ≤ m) (t : TypeId) (ht : t ≠ 116) (y bs pb g c : Nat) (xs : List Rat) (hw : Wok xs xs.length) (hc1 : xs.length ≤ c) (hc2 : c ≤ maxLen) (J Jx : Nat → World → Prop)
    (W : World) (hJ : ∀ i A B, J i A → Below A.heap.size A B → J i B) (hJO : ∀ i A B, J i A → Own W.heap.size A B → J i B)
    (hY : ∀ i vs W1, J i W1 → i < xs.length → (∃ v, vs = #[.int .i64 (i : Int), v] ∧ Pl W1 v (cum xs i) (cum xs (i + 1))) → YieldAt Fence.wide (m - 1) Tryz.prog y vs W1 fun e W' => (e = .returned (.bool true) ∧ J (i + 1) W' ∧ Kq t bs W1 W') ∨ (e = .returned (.bool false) ∧ Jx i W'))
    (hbs : ∃ cs, Blk W bs t cs) (hgb : g ≠ bs) (hpb : Blk W pb 76 #[.slice (some ⟨g, 0, none⟩) xs.length c]) (hpbs : pb ≠ bs) (hN : NumB W g xs) (h0 : J 0 W) :
    CallsIn Fence.wide m Tryz.prog 77 #[.func (.yield y) #[] #[], .pointer (some ⟨pb, 0, none⟩)] W fun e W' => (∃ v, e = .returned v) ∧ (J xs.length W' ∨ ∃ i, i < xs.length ∧ Jx i W') := by
  refine callsIn_of_wp Tryz.func77 rfl trivial ?_ rfl
  simp only [Tryz.ntmps77, List.size_toArray, List.length_cons, List.length_nil, Nat.reduceAdd, Nat.reduceSub, Array.replicate_succ, Array.replicate_zero, List.push_toArray, List.append_toArray, List.nil_append, List.cons_append]
  have HJ := Lib.hid hJ
  have HJO := Lib.hid hJO
  have HY := Lib.hid hY
  have HADD := Lib.hid (fun (k : Nat) (hk : k < xs.length) (V : World) v v' (h1 : Nm V v (cum xs k)) (h2 : Nm V v' (xs.getD k 0)) =>
    show Calls Tryz.prog 65 #[v, v'] V (RetN V (cum xs (k + 1))) from num_add (w := V) h1 h2 (fit_sz (cum_fit hw (Nat.le_of_lt hk)) (by omega)) (fit_sz (hw.2 k hk).2 (by omega)))
  have h17 := hw.1
  have HBS := Lib.hid hbs
  have HPB := Lib.hid hpb
  have HN := Lib.hid hN
  have H0 := Lib.hid h0
  have HLT := Lib.hid hpb.lt
  have HBL : Hid (bs < W.heap.size) := Lib.hid (by obtain ⟨cs, h⟩ := hbs; exact h.lt)
  clear hJ hJO hY hbs hpb hN h0 hw
  gi_wp2_with (refine ⟨trivial, ?_⟩; gi_at_call 37; refine (callsIn_wide.2 zero_any).mono ?_; rintro o w1 ⟨r1, rfl, n1, b1⟩; obtain ⟨b7, a7, k7, p7, c7, f7, l7, q7, rfl, -, -⟩ := id n1.parts; have cp0 := (((HPB.out.next b1).alloc (.cells #[.bool b7, .slice a7 k7 p7, .bool c7, .slice f7 l7 q7] 84)).cell 0); simp at cp0)
  have g7 := Blk.new w1 84 #[.bool b7, .slice a7 k7 p7, .bool c7, .slice f7 l7 q7]
  have m7 := n1.below ((Below.refl _ _).alloc (Nat.le_refl _) (.cells #[.bool b7, .slice a7 k7 p7, .bool c7, .slice f7 l7 q7] 84))
  have hb8 : Below W.heap.size W (w1.alloc (.cells #[.bool b7, .slice a7 k7 p7, .bool c7, .slice f7 l7 q7] 84)) := b1.alloc b1.size _
  have BX := Lib.hid (show NBox _ _ (cum xs 0) from ⟨b7, a7, k7, p7, c7, f7, l7, q7, g7, m7⟩)
  have HJ3 := Lib.hid (HJ.out _ _ _ H0.out hb8)
  have HK0 := Lib.hid (Kq.of_below (t := t) (bs := bs) hb8)
  have hsz1 := b1.size
  have hgs : w1.heap.size ≠ bs := by have := HBL.out; omega
  clear g7 m7 hb8 b1 n1 cp0 HPB H0
  generalize w1.heap.size = gs at *
  generalize (w1.alloc (.cells #[.bool b7, .slice a7 k7 p7, .bool c7, .slice f7 l7 q7] 84)) = W3 at *
  gi_loopw [10] (fun u10 wr => ∃ i : Nat, i ≤ xs.length ∧ u10 = .int .i64 (i : Int) ∧ Hid (J i wr) ∧ Hid (NBox wr gs (cum xs i)) ∧ Hid (Kq t bs W wr)) (fun u10 _ => xs.length - (intOf u10).toNat)
  case atStart => exact ⟨0, by omega, rfl, HJ3, BX, HK0⟩
  case round =>
    obtain ⟨i, hi, rfl, hJi, hX, hK⟩ := hrel
    by_cases hlt : i < xs.length
    · have hlti : ((i : Int) < xs.length) := by omega
      obtain ⟨eb, ea, ek, ep, ec, ee, el, eq, c0, c1, c2, c3, hn⟩ := (HN.out.kq hK.out ht HBS.out hgb).cells hlt
      obtain ⟨gb, ga, gk, gp, gc, ge, gl, gq, hgb8, hgn8⟩ := hX.out
      have bw : Below wr.heap.size wr (wr.alloc (.cells #[.bool eb, .slice ea ek ep, .bool ec, .slice ee el eq] 84)) := (Below.refl _ _).alloc (Nat.le_refl _) _
      have eb' := Blk.new wr 84 #[.bool eb, .slice ea ek ep, .bool ec, .slice ee el eq]
      have en := hn.below bw
      have ab := hgb8.next bw
      have an := hgn8.below bw
      have hgl := hgb8.lt
      have EB := Lib.hid eb'
      have EN := Lib.hid en
      have AB := Lib.hid ab
      have AN := Lib.hid an
      have BW := Lib.hid bw
      clear bw eb' en ab an hgb8 hgn8 hn
      gi_upto_region 4 with fail
      generalize wr.alloc (.cells #[.bool eb, .slice ea ek ep, .bool ec, .slice ee el eq] 84) = w4 at *
      clear c0 c1 c2 c3
      obtain ⟨c0, c1, c2, c3⟩ := EB.out.at4
      obtain ⟨z0, z1, z2, z3⟩ := AB.out.at4
      gi_upto_region 5 with (refine ⟨trivial, ?_⟩; gi_at_call 65; refine (callsIn_wide.2 (HADD.out i hlt _ _ _ AN.out EN.out)).mono ?_; rintro o w5 ⟨r5, rfl, n5, b5⟩; obtain ⟨nb, na, nk, np, nc, ne, nl, nq, rfl, -, -⟩ := id n5.parts)
      have NB := Lib.hid (Blk.new w5 84 #[.bool nb, .slice na nk np, .bool nc, .slice ne nl nq])
      have b6 := b5.alloc b5.size (.cells #[.bool nb, .slice na nk np, .bool nc, .slice ne nl nq] 84)
      have NN := Lib.hid (n5.below ((Below.refl _ _).alloc (Nat.le_refl _) (.cells #[.bool nb, .slice na nk np, .bool nc, .slice ne nl nq] 84)))
      have B6 := Lib.hid (next_below BW.out b6)
      have GB := Lib.hid (AB.out.next b6)
      have GN := Lib.hid (AN.out.below b6)
      have hn5 : w5.heap.size ≠ bs := by have := b5.size; have := BW.out.size; have := HBL.out; omega
      clear n5 b5 b6 c0 c1 c2 c3 z0 z1 z2 z3 EB EN AB AN BW
      generalize w5.heap.size = g5 at *
      generalize w5.alloc (.cells #[.bool nb, .slice na nk np, .bool nc, .slice ne nl nq] 84) = w6 at *
      obtain ⟨c0, c1, c2, c3⟩ := NB.out.at4
      obtain ⟨z0, z1, z2, z3⟩ := GB.out.at4
      obtain ⟨fn, tmps, assign, body, hy, hR⟩ := HY.out i #[.int .i64 (i : Int), .agg #[.bool gb, .slice ga gk gp, .bool gc, .slice ge gl gq, .bool nb, .slice na nk np, .bool nc, .slice ne nl nq]] w6 (HJ.out _ _ _ hJi.out B6.out) hlt ⟨_, rfl, _, _, _, _, _, _, _, _, _, _, _, _, _, _, _, _, rfl, GN.out, NN.out⟩
      have K6 := Lib.hid (hK.out.trans (Kq.of_below B6.out))
      have S6 := Lib.hid (K6.out.kind HBS.out)
      clear hK hX hJi B6 HY
      gi_wp2
      refine hR.mono ?_
      rintro o W5 (⟨rfl, hJ5, hK5⟩ | ⟨rfl, hx5⟩)
      · have nb5 := NB.out.kq hK5 hn5
        have gb5 := GB.out.kq hK5 hgs
        have nn5 := NN.out.kq hK5 ht S6.out
        have K5 := Lib.hid (K6.out.trans hK5)
        have J5 := Lib.hid hJ5
        clear c0 c1 c2 c3 z0 z1 z2 z3 hK5 hJ5 hy hR
        obtain ⟨c0, c1, c2, c3⟩ := nb5.at4
        obtain ⟨z0, z1, z2, z3⟩ := gb5.at4
        obtain ⟨f0, f1, f2, f3⟩ := gb5.fr4
        have R1 := Lib.hid (show NBox _ gs (cum xs (i + 1)) from ⟨_, _, _, _, _, _, _, _, gb5.four (.bool nb) (.slice na nk np) (.bool nc) (.slice ne nl nq), nn5.four gb5 (by decide) (.bool nb) (.slice na nk np) (.bool nc) (.slice ne nl nq)⟩)
        have R2 := Lib.hid (HJO.out _ _ _ J5.out (Own.four gb5 hsz1 (by decide) (.bool nb) (.slice na nk np) (.bool nc) (.slice ne nl nq)))
        have R3 := Lib.hid (K5.out.own HBL.out (Own.four gb5 hsz1 (by decide) (.bool nb) (.slice na nk np) (.bool nc) (.slice ne nl nq)))
        clear gb5 nn5 nb5 J5 K5
        gi_wp2
        go_roundw
        case rel => exact ⟨i + 1, by omega, by go_num, R2, R1, R3⟩
        case measure => simp [intOf]; omega
      · have HX := Lib.hid hx5
        clear hx5 hy hR
        gi_wp2
        refine bodyPost_ret (results_none rfl _ _ _) rfl ?_
        exact ⟨⟨_, rfl⟩, .inr ⟨i, hlt, HX.out⟩⟩
    · obtain rfl : i = xs.length := by omega
      gi_wp2
      go_end0
      exact ⟨⟨_, rfl⟩, .inl hJi.out⟩
end Go.Proofs.YtfjjdjhnodcfhaaGreatDoor

/- The first outcome whose place holds another: draw.first. -/
set_option linter.unusedSimpArgs false
set_option linter.unusedVariables false
namespace Go.Proofs.YtfjjdjhnodcfhaaGreatDoor
open Go.RowKit Go.Shelf
attribute [local go_sem] Oper.semAt_some

theorem places_seq (m : Nat) (hm : 1 ≤ m) (t : TypeId) (ht : t ≠ 116) (bs pb g c : Nat) (xs : List Rat) (hw : Wok xs xs.length) (hc1 : xs.length ≤ c) (hc2 : c ≤ maxLen) (w : World)
    (hbs : ∃ cs, Blk w bs t cs) (hgb : g ≠ bs) (hpb : Blk w pb 76 #[.slice (some ⟨g, 0, none⟩) xs.length c]) (hpbs : pb ≠ bs) (hN : NumB w g xs) :
    SeqW m Tryz.prog 77 #[.pointer (some ⟨pb, 0, none⟩)] (Kq t bs) (fun i vs W => ∃ v, vs = #[.int .i64 (i : Int), v] ∧ Pl W v (cum xs i) (cum xs (i + 1))) xs.length w :=
  fun l J Jx W hW h1 _ h3 hY h0 => places_in m hm t ht l bs pb g c xs hw hc1 hc2 J Jx W h1 h3 hY (by obtain ⟨cs, hb⟩ := hbs; exact ⟨cs, hb.next hW⟩) hgb (hpb.next hW) hpbs (hN.below hW) h0
theorem below_turn {n₀ : Nat} {A W : World} {l : Nat} {o : Obj} (o' : Obj) (h : Below n₀ A W) (hl : W.heap[l]? = some o) (hn : n₀ ≤ l) : Below n₀ A (W.putObj l o') :=
  h.trans ((Below.refl n₀ W).grown (grownBy_putObj' W l o') (by have := (Array.getElem?_eq_some_iff.1 hl).1; omega) (fun k e => by cases e; omega))
theorem KeepsFrom.of_below {B : Nat} {A C : World} (h : Below A.heap.size A C) : KeepsFrom B A C :=
  ⟨h.size, fun k o _ hk _ => (h.block k (Array.getElem?_eq_some_iff.1 hk).1).trans hk⟩
theorem Kq.sub {t : TypeId} {bs : Nat} : (∀ A B C, Kq t bs A B → Kq t bs B C → Kq t bs A C) := fun _ _ _ h k => h.trans k
theorem Pl.parts {w : World} {v : Value} {f t : Rat} (h : Pl w v f t) : ∃ b a, ∃ k p : Nat, ∃ c e, ∃ l q : Nat, ∃ b' a', ∃ k' p' : Nat, ∃ c' e', ∃ l' q' : Nat, v = .agg #[.bool b, .slice a k p, .bool c, .slice e l q, .bool b', .slice a' k' p', .bool c', .slice e' l' q'] := by
  obtain ⟨b, a, k, p, c, e, l, q, b', a', k', p', c', e', l', q', h1, h2, h3⟩ := h
  exact ⟨b, a, k, p, c, e, l, q, b', a', k', p', c', e', l', q', h1⟩
/-- A number, or -1. -/
def optI : Option Nat → Int
  | some i => i
  | none => -1
theorem firstR_at {h : Nat → Bool} {n i : Nat} (hi : i < n) (h1 : h i = true) (h2 : ∀ k, k < i → h k = false) : firstR h n 0 = some i := by
  cases e : firstR h n 0 with
  | none => have := firstR_none n 0 e i (by omega) (by omega); rw [h1] at this; cases this
  | some j =>
    obtain ⟨h3, h4, h5, h6⟩ := firstR_some n 0 j e
    rcases Nat.lt_trichotomy i j with hl | he | hl
    · have := h6 i (by omega) hl; rw [h1] at this; cases this
    · rw [he]
    · have := h2 j hl; rw [h5] at this; cases this
theorem firstR_no {h : Nat → Bool} {n : Nat} (h2 : ∀ k, k < n → h k = false) : firstR h n 0 = none := by
  cases e : firstR h n 0 with
  | none => rfl
  | some j =>
    obtain ⟨h3, h4, h5, h6⟩ := firstR_some n 0 j e
    have := h2 j (by omega); rw [h5] at this; cases this

set_option maxRecDepth 100000 in
set_option maxHeartbeats 4000000 in
theorem first_any {w : World} {pv : Value} {f t : Rat} {g c : Nat} {xs : List Rat} (hw : Wok xs xs.length) (hc1 : xs.length ≤ c) (hc2 : c ≤ maxLen) (hN : NumB w g xs) (hp : Pl w pv f t) (s1 : fitsD 90 f) (s2 : fitsD 90 t) :
    Calls Tryz.prog 48 #[.slice (some ⟨g, 0, none⟩) xs.length c, .func (.func 49) #[pv] #[]] w (RetV w (.int .i64 (optI (firstR (inOut xs f t) xs.length 0)))) := by
  obtain ⟨b, a, k, p, c', e, l, q, b2, a2, k2, p2, c2, e2, l2, q2, rfl⟩ := hp.parts
  obtain ⟨W, hW, hB, hsz, j5, j6⟩ := entB w 101 3 #[.func (.func 49) #[.agg #[.bool b, .slice a k p, .bool c', .slice e l q, .bool b2, .slice a2 k2 p2, .bool c2, .slice e2 l2 q2]] #[]] #[.int .i64 0]
  have HW := Lib.hid hW
  have HSZ := Lib.hid hsz
  have HBB := Lib.hid hB
  have HWI := Lib.hid (fun (i : Nat) (hi : i < xs.length) (V : World) (hV : Below W.heap.size W V) v (hv : Pl V v (cum xs i) (cum xs (i + 1))) => show Calls Tryz.prog 49 #[_, v] V (RetV V (.bool (inOut xs f t i))) from
    within_any (w := V) ((hp.below hB).below hV) hv s1 s2 (fits_up (cum_fit hw (i := i) (by omega)) (by omega)) (fits_up (cum_fit hw (i := i + 1) (by omega)) (by omega)))
  have hNW := hN.below hB
  have hgl : g < w.heap.size := by obtain ⟨cs, h1, -⟩ := hN; exact h1.lt
  obtain ⟨RES, hRES⟩ : ∃ RES : Int, RES = optI (firstR (inOut xs f t) xs.length 0) := ⟨_, rfl⟩
  rw [← hRES]
  have HRES := Lib.hid hRES
  clear hW hsz hB hp hN hRES
  refine (callsIn_wide (n := 5)).1 ?_
  refine callsIn_of_wp_marks Tryz.func48 rfl trivial ?_ rfl
  simp only [Tryz.ntmps48, List.size_toArray, List.length_cons, List.length_nil, Nat.reduceAdd, Nat.reduceSub, Array.replicate_succ, Array.replicate_zero, List.push_toArray, List.append_toArray, List.nil_append, List.cons_append]
  gi_wp2_with (refine ⟨trivial, ?_⟩; gi_at_call 38; rw [← HW.out]; refine (callsIn_wide.2 (places_any _ _ _ _)).mono ?_; rintro o w' ⟨rfl, rfl⟩)
  have hbL : Below W.heap.size W (W.alloc (.cells #[.slice (some ⟨g, 0, none⟩) xs.length c] 76)) := (Below.refl _ _).alloc (Nat.le_refl _) _
  have m1 := Blk.new W 76 #[.slice (some ⟨g, 0, none⟩) xs.length c]
  have J5 := j5.next hbL
  have J6 := j6.next hbL
  have hNL := hNW.below hbL
  have hWs : W.heap.size = w.heap.size + 2 := HSZ.out
  have hWL : W.heap.size + 1 = (W.alloc (.cells #[.slice (some ⟨g, 0, none⟩) xs.length c] 76)).heap.size := by simp
  generalize (W.alloc (.cells #[.slice (some ⟨g, 0, none⟩) xs.length c] 76)) = WL at *
  have hseq := places_seq 4 (by omega) 3 (by decide) (w.heap.size + 1) W.heap.size g c xs hw hc1 hc2 WL ⟨_, J6⟩ (by omega) m1 (by omega) hNL
  refine wpIn_rangeFunc_W (by omega) (gf := 77) (lb := #[.pointer (some ⟨W.heap.size, 0, none⟩)]) rfl (enters_of Tryz.func77 (by kernel_rfl) rfl)
    hseq (Below.refl _ _) Kq.sub (fun V l o o' h ho => Kq.turn o' h ho) (fun A B h => Kq.of_below h) (by rintro i vs V ⟨v, rfl, -⟩; rfl)
    (fun i V => (∀ k, k < i → inOut xs f t k = false) ∧ Below WL.heap.size WL V)
    (fun i V => inOut xs f t i = true ∧ (∀ k, k < i → inOut xs f t k = false) ∧ Blk V (w.heap.size + 1) 3 #[.int .i64 (i : Int)] ∧ Below w.heap.size w V)
    ?_ ?_ ?_ ?_ ?_ ⟨fun k hk => by omega, Below.refl _ _⟩ ?_ ?_ ?_
  · rintro i A l o o' hl hA ho ⟨h1, h2⟩
    exact ⟨h1, below_turn o' h2 hA (by omega)⟩
  · rintro i A C ⟨h1, h2⟩ h4
    exact ⟨h1, next_below h2 h4⟩
  · rintro i A C ⟨h1, h2⟩ h4
    exact ⟨h1, h2.trans h4.1⟩
  · rintro i A l o o' hl hA ho ⟨h1, h2, h3, h4⟩
    exact ⟨h1, h2, h3.turn o' hA ho, below_turn o' h4 hA (by omega)⟩
  · rintro i A C ⟨h1, h2, h3, h5⟩ h4
    exact ⟨h1, h2, h3.next h4, next_below h5 h4⟩
  · rintro y i vs V ⟨hA, hB⟩ hi ⟨v, rfl, hv⟩
    obtain ⟨xb, xa, xk, xp, xc, xe, xl, xq, yb, ya, yk, yp, yc, ye, yl, yq, rfl⟩ := hv.parts
    gi_wp2
    refine ⟨(Below.refl _ _).alloc (Nat.le_refl _) _, fun j1 o o' hj1 hj2 ho hoc => ?_⟩
    have r3 := ((J5.next hB).alloc (.cells #[.bool xb, .slice xa xk xp, .bool xc, .slice xe xl xq, .bool yb, .slice ya yk yp, .bool yc, .slice ye yl yq] 92)).turn o' ho hoc
    have r6 := ((J6.next hB).alloc (.cells #[.bool xb, .slice xa xk xp, .bool xc, .slice xe xl xq, .bool yb, .slice ya yk yp, .bool yc, .slice ye yl yq] 92)).turn o' ho hoc
    have rp := (Blk.new V 92 #[.bool xb, .slice xa xk xp, .bool xc, .slice xe xl xq, .bool yb, .slice ya yk yp, .bool yc, .slice ye yl yq]).turn o' ho hoc
    have sp := (hv.below ((Below.refl _ _).alloc (Nat.le_refl _) (.cells #[.bool xb, .slice xa xk xp, .bool xc, .slice xe xl xq, .bool yb, .slice ya yk yp, .bool yc, .slice ye yl yq] 92))).turn o' ho hoc
    have bV := below_turn o' (hB.alloc hB.size (.cells #[.bool xb, .slice xa xk xp, .bool xc, .slice xe xl xq, .bool yb, .slice ya yk yp, .bool yc, .slice ye yl yq] 92)) ho (by have := hbL.size; omega)
    generalize (V.alloc (.cells #[.bool xb, .slice xa xk xp, .bool xc, .slice xe xl xq, .bool yb, .slice ya yk yp, .bool yc, .slice ye yl yq] 92)).putObj j1 o' = V2 at *
    generalize V.heap.size = z8 at *
    have SP := Lib.hid sp
    have R6 := Lib.hid r6
    have BV := Lib.hid bV
    have BVW := Lib.hid (next_below hbL bV)
    have HA := Lib.hid hA
    obtain ⟨bb, hbb⟩ : ∃ bb, bb = inOut xs f t i := ⟨_, rfl⟩
    have HWC := Lib.hid (HWI.out i hi V2 BVW.out _ SP.out)
    rw [← hbb] at HWC
    have HBI := Lib.hid hbb
    have c0 := r3.cell 0
    simp at c0
    obtain ⟨d0, d1, d2, d3, d4, d5, d6, d7⟩ := rp.at8
    clear sp r6 bV hA hB hv ho hoc hj1 hj2 m1 J5 J6 hNL hseq hbL hNW j5 j6 hbb r3 rp
    cases bb
    · gi_wp2_with (refine ⟨trivial, ?_⟩; gi_at_call 49; refine (CallsIn.inRound y (callsIn_wide.2 HWC.out)).mono ?_; rintro o w5 ⟨rfl, hb5⟩)
      refine ⟨KeepsFrom.of_below hb5, Kq.of_below hb5, fun k hk => ?_, next_below BV.out hb5⟩
      by_cases e : k = i
      · rw [e]; exact HBI.out.symm
      · exact HA.out k (by omega)
    · gi_upto_region 5 with (refine ⟨trivial, ?_⟩; gi_at_call 49; refine (CallsIn.inRound y (callsIn_wide.2 HWC.out)).mono ?_; rintro o w5 ⟨rfl, hb5⟩)
      have r7 := R6.out.next hb5
      have e0 := r7.cell 0
      have e1 := r7.frozen 0
      simp at e0
      have RB := Lib.hid (r7.set_ 0 (.int .i64 (i : Int)))
      have RW := Lib.hid ((HBB.out.trans ((next_below BVW.out hb5).mono HBB.out.size)).setCell (p := ⟨w.heap.size + 1, 0, none⟩) (by show w.heap.size ≤ w.heap.size + 1; omega) (.int .i64 (i : Int)))
      have KF := Lib.hid (KeepsFrom.of_below (B := WL.heap.size) hb5)
      clear r7 hb5
      gi_wp2
      exact ⟨KF.out.trans ((KeepsOthers.setCell _ _ _).from _), HBI.out.symm, HA.out, by simpa using RB.out, RW.out⟩
  · rintro D V hD ⟨hA, hB⟩ hK
    have r7 := J6.next hB
    have e0 := r7.cell 0
    have e1 := r7.frozen 0
    simp at e0
    have RB := Lib.hid (r7.set_ 0 (.int .i64 (-1)))
    have RW := Lib.hid ((HBB.out.trans ((next_below hbL hB).mono HBB.out.size)).setCell (p := ⟨w.heap.size + 1, 0, none⟩) (by show w.heap.size ≤ w.heap.size + 1; omega) (.int .i64 (-1)))
    have hDne : D ≠ w.heap.size + 1 := by omega
    have HD := Lib.hid ((Below.heap_setCell V ⟨w.heap.size + 1, 0, none⟩ (.int .i64 (-1)) D hDne).trans hK)
    have HR : Hid (RES = -1) := Lib.hid (by rw [HRES.out, firstR_no hA]; rfl)
    clear r7 hA hB hK m1 J5 J6 hNL hseq hbL hNW j5 j6
    gi_wp2
    refine ⟨by simp, .inl ⟨_, _, rfl, run_takeDeferred HD.out, ?_⟩⟩
    have d0 := fun o' => (RB.out.turn o' HD.out rfl).cell 0
    simp at d0
    refine ⟨.int .i64 (-1), by simp [results, Tryz.results48, go_sem, d0], by rw [HR.out], below_turn _ RW.out HD.out (by omega)⟩
  · rintro D i V hD hi ⟨h1, h2, h3, h4⟩ hK
    have HR : Hid (RES = i) := Lib.hid (by rw [HRES.out, firstR_at hi h1 h2]; rfl)
    have H3 := Lib.hid h3
    have H4 := Lib.hid h4
    have HD := Lib.hid hK
    clear h1 h2 h3 h4 hK m1 J5 J6 hNL hseq hbL hNW j5 j6
    gi_wp2
    refine ⟨by simp, .inl ⟨_, _, rfl, run_takeDeferred HD.out, ?_⟩⟩
    have d0 := fun o' => (H3.out.turn o' HD.out rfl).cell 0
    simp at d0
    refine ⟨.int .i64 i, by simp [results, Tryz.results48, go_sem, d0], by rw [HR.out], below_turn _ H4.out HD.out (by omega)⟩
end Go.Proofs.YtfjjdjhnodcfhaaGreatDoor
