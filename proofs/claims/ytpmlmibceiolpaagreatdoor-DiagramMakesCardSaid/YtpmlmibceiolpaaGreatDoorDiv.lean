/- The contract of Whole.Div: the quotient, rounded down, and the rest. -/
import Derived.Test.YtpmlmibceiolpaaGreatDoorFrac
import Derived.Test.YtpmlmibceiolpaaGreatDoorDivmany
import Derived.Test.YtpmlmibceiolpaaGreatDoorOrd
set_option linter.unusedSimpArgs false
set_option linter.unusedVariables false
namespace Go.Proofs.YtpmlmibceiolpaaGreatDoor
open Go.RowKit

theorem ent4 (w : World) (t : TypeId) (x y z u : Array Value) : ∃ W, W = (((w.alloc (.cells x t)).alloc (.cells y t)).alloc (.cells z t)).alloc (.cells u t) ∧ Below w.heap.size w W ∧ W.heap.size = w.heap.size + 4 ∧ Blk W w.heap.size t x ∧ Blk W (w.heap.size + 1) t y ∧ Blk W (w.heap.size + 2) t z ∧ Blk W (w.heap.size + 3) t u := by
  obtain ⟨V, hV, hB, hs, j1, j2, j3⟩ := ent3 w t x y z
  refine ⟨V.alloc (.cells u t), by rw [hV], hB.alloc hB.size _, by simp [hs], j1.alloc _, j2.alloc _, j3.alloc _, ?_⟩
  have := Blk.new V t u
  rwa [hs] at this

theorem Blk.next {w w' : World} {g : Nat} {t : TypeId} {cs : Array Value} (h : Blk w g t cs) (hb : Below w.heap.size w w') : Blk w' g t cs := h.below hb h.lt
theorem Blk.new2 (w : World) (o : Obj) (t : TypeId) (cs : Array Value) : Blk ((w.alloc o).alloc (.cells cs t)) (w.heap.size + 1) t cs := by
  have := Blk.new (w.alloc o) t cs
  simpa using this
theorem Below.more {W w' : World} (h : Below W.heap.size W w') (o : Obj) : Below W.heap.size W (w'.alloc o) := h.alloc h.size o
theorem Wh.more {w : World} {v : Value} {n : Int} (h : Wh w v n) (o : Obj) : Wh (w.alloc o) v n := h.below ((Below.refl _ _).alloc (Nat.le_refl _) o)
theorem hs_alloc (w : World) (o : Obj) : (w.alloc o).heap.size = w.heap.size + 1 := by simp

/-- What a function hands back that makes two integers. -/
def RetW2 (w : World) (q r : Int) (e : Ending) (w' : World) : Prop := ∃ v1 v2, e = .returned (.tuple #[v1, v2]) ∧ Wh w' v1 q ∧ Wh w' v2 r ∧ Below w.heap.size w w'

theorem Fit.le {m n : Int} (h : Fit n) (hm : m.natAbs ≤ n.natAbs) : Fit m := Nat.le_trans (limbs_len_mono hm) h

theorem Blk.new_at {w : World} {g : Nat} {t : TypeId} {cs : Array Value} (h : g = w.heap.size) : Blk (w.alloc (.cells cs t)) g t cs := by rw [h]; exact Blk.new _ _ _

theorem cell_alloc {w : World} {b o : Nat} {v : Value} (h : w.cell? ⟨b, o, none⟩ = some v) (ob : Obj) : (w.alloc ob).cell? ⟨b, o, none⟩ = some v :=
  (World.cell?_alloc_lt w ob ⟨b, o, none⟩ (World.block_lt_of_cell? w ⟨b, o, none⟩ h)).trans h
theorem cell_drew {w : World} {a : Addr} {v : Value} (h : w.cell? a = some v) : w.drew.cell? a = some v := h
theorem cell_far {w : World} {b o g i : Nat} {v : Value} (h : w.cell? ⟨b, o, none⟩ = some v) (hg : b ≠ g) (u : Value) : (w.setCell ⟨g, i, none⟩ u).cell? ⟨b, o, none⟩ = some v :=
  (World.cell?_of_block (w := w) (a := ⟨b, o, none⟩) (Below.heap_setCell w ⟨g, i, none⟩ u b hg)).trans h
theorem Blk.away {w : World} {g h i : Nat} {t : TypeId} {cs : Array Value} (hb : Blk w g t cs) (hg : g ≠ h) (u : Value) : Blk (w.setCell ⟨h, i, none⟩ u) g t cs := hb.far (p := ⟨h, i, none⟩) hg u
theorem Wh.away {w : World} {g i : Nat} {cs : Array Value} {v : Value} {n : Int} (h : Wh w v n) (hb : Blk w g 86 cs) (u : Value) : Wh (w.setCell ⟨g, i, none⟩ u) v n := by
  obtain ⟨sv, hv, hl⟩ := h
  exact ⟨sv, hv, hl.far hb (by decide) u⟩
theorem Below.put {W w : World} {g i : Nat} (h : Below W.heap.size W w) (hg : W.heap.size ≤ g) (u : Value) : Below W.heap.size W (w.setCell ⟨g, i, none⟩ u) := h.setCell (p := ⟨g, i, none⟩) hg u

/-- Two blocks, stored whole. -/
theorem put_both {Z : World} {g8 g9 : Nat} {t : TypeId} {u0 u1 u2 u3 : Value} (h8 : Blk Z g8 t #[u0, u1]) (h9 : Blk Z g9 t #[u2, u3]) (hne : g8 ≠ g9) (x0 x1 x2 x3 : Value) :
    Blk ((((Z.setCell ⟨g8, 0, none⟩ x0).setCell ⟨g8, 1, none⟩ x1).setCell ⟨g9, 0, none⟩ x2).setCell ⟨g9, 1, none⟩ x3) g8 t #[x0, x1] ∧ Blk ((((Z.setCell ⟨g8, 0, none⟩ x0).setCell ⟨g8, 1, none⟩ x1).setCell ⟨g9, 0, none⟩ x2).setCell ⟨g9, 1, none⟩ x3) g9 t #[x2, x3] :=
  ⟨((h8.two x0 x1).away hne _).away hne _, Blk.two ((h9.away (fun e => hne e.symm) _).away (fun e => hne e.symm) _) _ _⟩
theorem keep_both {Z : World} {g g8 g9 : Nat} {t : TypeId} {cs : Array Value} (h : Blk Z g t cs) (h8 : g ≠ g8) (h9 : g ≠ g9) (x0 x1 x2 x3 : Value) :
    Blk ((((Z.setCell ⟨g8, 0, none⟩ x0).setCell ⟨g8, 1, none⟩ x1).setCell ⟨g9, 0, none⟩ x2).setCell ⟨g9, 1, none⟩ x3) g t cs :=
  (((h.away h8 _).away h8 _).away h9 _).away h9 _
theorem Wh.both {Z : World} {g8 g9 : Nat} {u0 u1 u2 u3 : Value} {v : Value} {n : Int} (h : Wh Z v n) (h8 : Blk Z g8 86 #[u0, u1]) (h9 : Blk Z g9 86 #[u2, u3]) (hne : g8 ≠ g9) (x0 x1 x2 x3 : Value) :
    Wh ((((Z.setCell ⟨g8, 0, none⟩ x0).setCell ⟨g8, 1, none⟩ x1).setCell ⟨g9, 0, none⟩ x2).setCell ⟨g9, 1, none⟩ x3) v n :=
  (h.two h8 (by decide) x0 x1).two ((h9.away (fun e => hne e.symm) _).away (fun e => hne e.symm) _) (by decide) x2 x3
theorem below_both {B : Nat} {W Z : World} {g8 g9 : Nat} (h : Below B W Z) (h8 : B ≤ g8) (h9 : B ≤ g9) (x0 x1 x2 x3 : Value) :
    Below B W ((((Z.setCell ⟨g8, 0, none⟩ x0).setCell ⟨g8, 1, none⟩ x1).setCell ⟨g9, 0, none⟩ x2).setCell ⟨g9, 1, none⟩ x3) := below_two (below_two h h8 _ _) h9 _ _

/-- A new block of an integer, as the zero integer. -/
def NewWh (V : World) (v : Value) (w : World) : Prop := ∃ g, v = .pointer (some ⟨g, 0, none⟩) ∧ V.heap.size ≤ g ∧ Blk w g 86 #[.bool false, .slice none 0 0]

theorem NewWh.at {V : World} {v : Value} {w : World} (h : NewWh V v w) : ∃ g, v = .pointer (some ⟨g, 0, none⟩) ∧ g < w.heap.size := by
  obtain ⟨g, h1, h2, h3⟩ := h
  exact ⟨g, h1, h3.lt⟩
theorem Stab.new (W V : World) : Stab W (NewWh V) := fun v w1 w2 _ h2 h => by
  obtain ⟨g, e1, e2, e3⟩ := h
  exact ⟨g, e1, e2, e3.next h2⟩
theorem Stab.wh (W : World) (n : Int) : Stab W (fun v w => Wh w v n) := fun v w1 w2 _ h2 h => h.below h2

set_option maxHeartbeats 20000000 in
set_option maxRecDepth 100000 in
theorem div_any {w : World} {v1 v2 : Value} {m n : Int} (h1 : Wh w v1 m) (h2 : Wh w v2 n) (s1 : Fit m) (s2 : Fit n) (hn : n ≠ 0) :
    Calls Tryz.prog 117 #[v1, v2] w (RetW2 w (m.fdiv n) (m.fmod n)) := by
  obtain ⟨a1, p1, rfl, g1⟩ := h1.form
  obtain ⟨a2, p2, rfl, g2⟩ := h2.form
  have hd := fun (V : World) h => divided_any (w := V) (g1.below (w' := V) h) (g2.below (w' := V) h) (limbs_ok _) (limbs_ok _) (limbs_last _) (limbs_last _) (by rw [val_limbs]; omega) s1
  rw [val_limbs, val_limbs] at hd
  generalize (limbs m.natAbs).length = k1 at *
  generalize (limbs n.natAbs).length = k2' at *
  have HD := Lib.hid hd
  clear hd g1 g2
  generalize hb1 : decide (m < 0) = b at *
  generalize hb2 : decide (n < 0) = c at *
  have HB1 := Lib.hid hb1
  have HB2 := Lib.hid hb2
  clear hb1 hb2
  obtain ⟨W, hW, hB, hsz, j1, j2, j3, j4⟩ := ent4 w 86 #[.bool b, .slice a1 k1 p1] #[.bool c, .slice a2 k2' p2] #[.bool false, .slice none 0 0] #[.bool false, .slice none 0 0]
  have HW := Lib.hid hW
  have HSZ := Lib.hid hsz
  have HN := Lib.hid hn
  clear hW hsz hn
  have m1 := h1.below hB
  have m2 := h2.below hB
  have x0 := j1.cell0
  have x1 := j1.cell1
  have y0 := j2.cell0
  have y1 := j2.cell1
  clear h1 h2
  go_enter Tryz.func117, Tryz.ntmps117
  go_upto_region 1 with fail
  rw [← HW.out]
  go_upto_region 2 with (go_at_call 138; refine (HD.out _ hB).mono ?_; rintro e V ⟨vq, vr, lq, lr, rfl, hq, hr, oq, or, eq, er, hV⟩; obtain ⟨aq, cq, rfl, _⟩ := id hq; obtain ⟨ar, cr, rfl, _⟩ := id hr)
  have i1 := j1.below hV j1.lt
  have i2 := j2.below hV j2.lt
  have i3 := j3.below hV j3.lt
  have i4 := j4.below hV j4.lt
  clear x0 x1 y0 y1
  have x0 := i1.cell0
  have x1 := i1.cell1
  have y0 := i2.cell0
  have y1 := i2.cell1
  have EQ := Lib.hid eq
  have ER := Lib.hid er
  clear eq er
  generalize hkq : lq.length = kq at *
  generalize hkr : lr.length = kr at *
  clear hkq hkr
  go_cut [8, 9] (fun p8 p9 wc => ∃ (g8 g9 : Nat) (bq br : Bool) (aq ar : Option Addr) (kq kr cq cr : Nat), p8 = .pointer (some ⟨g8, 0, none⟩) ∧ p9 = .pointer (some ⟨g9, 0, none⟩) ∧ g8 ≠ g9 ∧ V.heap.size ≤ g8 ∧ V.heap.size ≤ g9 ∧ Blk wc g8 86 #[.bool bq, .slice aq kq cq] ∧ Blk wc g9 86 #[.bool br, .slice ar kr cr] ∧ Wh wc (.agg #[.bool bq, .slice aq kq cq]) (sg (b != c) (val lq)) ∧ Wh wc (.agg #[.bool br, .slice ar kr cr]) (sg b (val lr)) ∧ Below V.heap.size V wc)
  case first =>
    have hB0 : Below V.heap.size V V.drew := (Below.refl _ _).drew
    refine wp_region_list 13 (by kernel_rfl) (by kernel_rfl) [11, 12] [
        fun v _ => v = .pointer (some ⟨w.heap.size, 0, none⟩), fun v _ => v = .bool b, fun v _ => v = .pointer (some ⟨w.heap.size + 1, 0, none⟩), fun v _ => v = .bool c, fun v _ => v = .bool (b != c), fun v _ => v = .slice aq kq cq, fun v w' => Wh w' v (sg (b != c) (val lq)),
        fun v _ => v = .pointer (some ⟨w.heap.size, 0, none⟩), fun v _ => v = .bool b, fun v _ => v = .slice ar kr cr, fun v w' => Wh w' v (sg b (val lr)), NewWh V, NewWh V]
      (by simp only [List.take_succ_cons, List.take_zero]; rfl) (by simp only [List.drop_succ_cons, List.drop_zero]; rfl) (fun vals => by simp only [fam, Act.put, List.setIfInBounds_toArray, List.set_cons_zero, List.set_cons_succ, if_true]; rfl)
      (by repeat' (first | exact Stab.eq _ _ | exact Stab.wh _ _ | exact Stab.new _ _ | exact trivial | apply And.intro)) ⟨fun v w1 h => NewWh.at h, fun v w1 h => NewWh.at h, trivial⟩ ?_ ?_
    · refine ⟨?_, ?_, ?_, ?_, ?_, ?_, ?_, ?_, ?_, ?_, ?_, ?_, ?_, trivial⟩
      all_goals
        intro vals w1 hB hp
        dsimp only
        (try simp [preOk, Region.binds] at hp)
        have hb := next_below hB0 hB
        have x0 := keepc hb i1.cell0 i1.lt
        have y0 := keepc hb i2.cell0 i2.lt
        clear hB
      case refine_7 =>
        go_wp2_with (go_at_call 114; refine (whole_any _ (hq.below hb) oq).mono ?_; rintro e w2 ⟨r, rfl, hr, hb2⟩)
        refine ⟨rfl, _, ?_, hr, hb2, trivial⟩
        simp only [Act.put, List.setIfInBounds_toArray, List.set_cons_zero, List.set_cons_succ, hp]
      case refine_11 =>
        go_wp2_with (go_at_call 114; refine (whole_any _ (hr.below hb) or).mono ?_; rintro e w2 ⟨r, rfl, hr, hb2⟩)
        refine ⟨rfl, _, ?_, hr, hb2, trivial⟩
        simp only [Act.put, List.setIfInBounds_toArray, List.set_cons_zero, List.set_cons_succ, hp]
      case refine_12 | refine_13 =>
        go_wp2
        exact ⟨rfl, _, rfl, ⟨_, rfl, hb.size, Blk.new _ _ _⟩, (Below.refl _ _).alloc (Nat.le_refl _) _, rfl⟩
      all_goals
        go_wp2
        exact ⟨rfl, _, rfl, rfl, Below.refl _ _, trivial⟩
    · rintro vals w1 hB ⟨p0, p1, p2, p3, p4, p5, p6, p7, p8, p9, p10, p11, p12, _⟩ hne
      have hb := next_below hB0 hB
      have hne := hne 11 12 rfl rfl (by decide) (by decide) (by decide)
      simp at p6 p10 p11 p12
      generalize vals 6 = v6 at *
      generalize vals 10 = v10 at *
      generalize vals 11 = v11 at *
      generalize vals 12 = v12 at *
      obtain ⟨b6, a6, k6, c6, rfl⟩ := p6.parts
      obtain ⟨b10, a10, k10, c10, rfl⟩ := p10.parts
      obtain ⟨g8, rfl, hg8, hB8⟩ := p11
      obtain ⟨g9, rfl, hg9, hB9⟩ := p12
      have hne' : g8 ≠ g9 := fun e => hne (by rw [e])
      clear hne p0 p1 p2 p3 p4 p5 p7 p8 p9 hB
      have e0 := hB8.cell0
      have e1 := hB8.cell1
      have e2 := hB8.frozen 0
      have e3 := hB8.frozen 1
      have e4 := hB9.cell0
      have e5 := hB9.cell1
      have e6 := hB9.frozen 0
      have e7 := hB9.frozen 1
      have pb := put_both (Z := w1) hB8 hB9 hne' (.bool b6) (.slice a6 k6 c6) (.bool b10) (.slice a10 k10 c10)
      have pq := p6.both hB8 hB9 hne' (.bool b6) (.slice a6 k6 c6) (.bool b10) (.slice a10 k10 c10)
      have pr := p10.both hB8 hB9 hne' (.bool b6) (.slice a6 k6 c6) (.bool b10) (.slice a10 k10 c10)
      have pB : Below V.heap.size V _ := below_both (g8 := g8) (g9 := g9) hb hg8 hg9 (.bool b6) (.slice a6 k6 c6) (.bool b10) (.slice a10 k10 c10)
      have HH := Lib.hid (And.intro pb (And.intro pq (And.intro pr pB)))
      clear pb pq pr pB p6 p10 hB8 hB9
      go_wp2
      go_meet
      exact ⟨g8, g9, b6, b10, a6, a10, k6, k10, c6, c10, rfl, rfl, hne', hg8, hg9, HH.out.1.1, HH.out.1.2, HH.out.2.1, HH.out.2.2.1, HH.out.2.2.2⟩
  case rest =>
    obtain ⟨g8, g9, bq, br, aq', ar', kq', kr', cq', cr', rfl, rfl, hne, hg8, hg9, f8, f9, wq, wr', hK⟩ := hcut
    clear x0 x1 y0 y1 hq hr
    have sQ : Fit (sg (b != c) (val lq)) := s1.le (by rw [sg_natAbs, EQ.out]; exact Nat.div_le_self _ _)
    have sR : Fit (sg b (val lr)) := s1.le (by rw [sg_natAbs, ER.out]; exact Nat.mod_le _ _)
    have one : Fit (1 : Int) := Nat.le_trans (limbs_len_le (k := 1) (by decide)) (by decide)
    have d1 := i1.below hK i1.lt
    have d2 := i2.below hK i2.lt
    have d3 := i3.below hK i3.lt
    have d4 := i4.below hK i4.lt
    have L1 : b = true ∨ b = false := by cases b <;> simp
    have hVW : w.heap.size + 4 ≤ V.heap.size := by have := HSZ.out; have := hV.size; omega
    have law1 := div_law_same (m := m) (n := n) HN.out
    have law2 := div_law_other (m := m) (n := n) HN.out
    rw [HB1.out, HB2.out, ← EQ.out, ← ER.out] at law1 law2
    generalize hQ : sg (b != c) (val lq) = Q at *
    generalize hR : sg b (val lr) = R at *
    have LAW1 := Lib.hid law1
    have LAW2 := Lib.hid law2
    clear law1 law2 hQ hR EQ ER
    have hBV : Below w.heap.size w wc := hB.trans ((hV.trans (hK.mono hV.size)).mono hB.size)
    have HBV := Lib.hid hBV
    have z0 := f9.cell0
    have z1 := f9.cell1
    have m3 := m2.below (hV.trans (hK.mono hV.size))
    clear hBV hB hV hK
    by_cases hz : R = 0 ∨ b = c
    · have hfin := LAW1.out hz
      have HF := Lib.hid hfin
      clear hfin
      rcases (show R = 0 ∨ (R ≠ 0 ∧ b = c) by by_cases h : R = 0; exact .inl h; exact .inr ⟨h, hz.resolve_left h⟩) with h0 | ⟨h0, h1⟩
      case' inl => have es : R.sign = 0 := by rw [h0]; rfl
      case' inr => have es : (R.sign != 0) = true := by simpa using h0
      case' inr => subst h1
      all_goals
        clear h0 hz
        go_upto_region 5 with (go_at_call 140; refine (sign_any wr').mono ?_; rintro e w3 ⟨rfl, hb3⟩; have d1' := d1.next hb3; have d2' := d2.next hb3; have k0 := d1'.cell0; have k1 := d2'.cell0)
        have t8 := f8.next hb3
        have t9 := f9.next hb3
        have q8 := t8.cell0
        have q8' := t8.cell1
        have q9 := t9.cell0
        have q9' := t9.cell1
        have e3 : Blk w3 (w.heap.size + 1 + 1) 86 #[.bool false, .slice none 0 0] := d3.next hb3
        have e4 : Blk w3 (w.heap.size + 1 + 1 + 1) 86 #[.bool false, .slice none 0 0] := d4.next hb3
        have e30 := e3.cell0
        have e31 := e3.cell1
        have e3f := e3.frozen 0
        have e3g := e3.frozen 1
        have e40 := e4.cell0
        have e41 := e4.cell1
        have e4f := e4.frozen 0
        have e4g := e4.frozen 1
        go_region_held3 (fun w' => w'.cell? ⟨g8, 0, none⟩ = some (.bool bq) ∧ w'.cell? ⟨g8, 1, none⟩ = some (.slice aq' kq' cq') ∧ w'.cell? ⟨g9, 0, none⟩ = some (.bool br) ∧ w'.cell? ⟨g9, 1, none⟩ = some (.slice ar' kr' cr')) (first | ((try dsimp only); refine ⟨?_, ?_, ?_, ?_⟩ <;> repeat' (first | with_reducible assumption | with_reducible refine cell_drew ?_ | with_reducible refine cell_far ?_ (by omega) _)) | go_keep) (first
          | fail)
        have pb := put_both (Z := w3) e3 e4 (by omega) (.bool bq) (.slice aq' kq' cq') (.bool br) (.slice ar' kr' cr')
        have pq := (wq.below hb3).both e3 e4 (by omega) (.bool bq) (.slice aq' kq' cq') (.bool br) (.slice ar' kr' cr')
        have pr := (wr'.below hb3).both e3 e4 (by omega) (.bool bq) (.slice aq' kq' cq') (.bool br) (.slice ar' kr' cr')
        have pB : Below w.heap.size w _ := below_both (g8 := w.heap.size + 1 + 1) (g9 := w.heap.size + 1 + 1 + 1) (HBV.out.trans (hb3.mono HBV.out.size)) (by omega) (by omega) (.bool bq) (.slice aq' kq' cq') (.bool br) (.slice ar' kr' cr')
        generalize ((((w3.setCell ⟨w.heap.size + 1 + 1, 0, none⟩ (.bool bq)).setCell ⟨w.heap.size + 1 + 1, 1, none⟩ (.slice aq' kq' cq')).setCell ⟨w.heap.size + 1 + 1 + 1, 0, none⟩ (.bool br)).setCell ⟨w.heap.size + 1 + 1 + 1, 1, none⟩ (.slice ar' kr' cr')) = w9 at *
        have p0 := pb.1.cell0
        have p1 := pb.1.cell1
        have p2 := pb.2.cell0
        have p3 := pb.2.cell1
        go_wp2_with fail
        refine bodyPost_ret (v := .tuple #[.agg #[.bool bq, .slice aq' kq' cq'], .agg #[.bool br, .slice ar' kr' cr']]) (by simp [results, Tryz.results117, go_sem, p0, p1, p2, p3]) rfl ⟨_, _, rfl, ?_, ?_, ?_⟩
        · rw [← HF.out.1]; exact pq.drew
        · rw [← HF.out.2]; exact pr.drew
        · exact pB.drew
    · obtain ⟨h0, h1⟩ := not_or.1 hz
      have hfin := LAW2.out h0 h1
      have HF := Lib.hid hfin
      clear hfin
      have es : (R.sign != 0) = true := by simpa using h0
      have eb : (!(b == c)) = true := by simpa using h1
      go_upto_region 4 with (go_at_call 140; refine (sign_any wr').mono ?_; rintro e w3 ⟨rfl, hb3⟩; have d1' := d1.next hb3; have d2' := d2.next hb3; have k0 := d1'.cell0; have k1 := d2'.cell0)
      have t8 := f8.next hb3
      have t9 := f9.next hb3
      have hB0 : Below w3.heap.size w3 w3.drew := (Below.refl _ _).drew
      refine wp_region_list 6 (by kernel_rfl) (by kernel_rfl) [] [
          fun v _ => v = .agg #[.bool bq, .slice aq' kq' cq'], fun v w' => Wh w' v 1, fun v w' => Wh w' v (Q - 1), fun v _ => v = .agg #[.bool br, .slice ar' kr' cr'], fun v _ => v = .agg #[.bool c, .slice a2 k2' p2], fun v w' => Wh w' v (R + n)]
        (by simp only [List.take_succ_cons, List.take_zero]; rfl) (by simp only [List.drop_succ_cons, List.drop_zero]; rfl) (fun vals => by simp only [fam, Act.put, List.setIfInBounds_toArray, List.set_cons_zero, List.set_cons_succ, if_true]; rfl)
        (by repeat' (first | exact Stab.eq _ _ | exact Stab.wh _ _ | exact Stab.new _ _ | exact trivial | apply And.intro)) trivial ?_ ?_
      · refine ⟨?_, ?_, ?_, ?_, ?_, ?_, trivial⟩
        all_goals
          intro vals w4 hB hp
          dsimp only
          (try simp [preOk, Region.binds] at hp)
          have hb := next_below hB0 hB
          have u8 := t8.next hb
          have u9 := t9.next hb
          have ud := d2'.next hb
          have x0 := u8.cell0
          have x1 := u8.cell1
          have y0 := u9.cell0
          have y1 := u9.cell1
          have z0 := ud.cell0
          have z1 := ud.cell1
          clear hB
        case refine_2 =>
          go_wp2_with (go_at_call 76; refine (small_any (n := 1) (by decide) (by decide)).mono ?_; rintro e w2 ⟨r, rfl, hr, hb2⟩)
          exact ⟨rfl, _, rfl, hr, hb2, trivial⟩
        case refine_3 =>
          obtain ⟨hp1, hp2⟩ := hp
          generalize vals 0 = v0 at *
          subst hp1
          go_wp2_with (go_at_call 141; refine (sub_any ((wq.below hb3).below hb) hp2 sQ one).mono ?_; rintro e w2 ⟨r, rfl, hr, hb2⟩)
          exact ⟨rfl, _, rfl, hr, hb2, trivial⟩
        case refine_6 =>
          obtain ⟨hp1, hp2, hp3⟩ := hp
          generalize vals 3 = v3 at *
          generalize vals 4 = v4 at *
          subst hp1
          subst hp2
          go_wp2_with (go_at_call 79; refine (add_any ((wr'.below hb3).below hb) ((m3.below hb3).below hb) sR s2).mono ?_; rintro e w2 ⟨r, rfl, hr, hb2⟩)
          exact ⟨rfl, _, rfl, hr, hb2, trivial⟩
        all_goals
          go_wp2
          exact ⟨rfl, _, rfl, rfl, Below.refl _ _, trivial⟩
      · rintro vals w4 hB ⟨p0, p1, p2, p3, p4, p5, _⟩ hne2
        have hb := next_below hB0 hB
        simp at p2 p5
        generalize vals 2 = v2 at *
        generalize vals 5 = v5 at *
        obtain ⟨b6, a6, k6, c6, rfl⟩ := p2.parts
        obtain ⟨b10, a10, k10, c10, rfl⟩ := p5.parts
        have u8 := t8.next hb
        have u9 := t9.next hb
        have o3 : Blk w4 (w.heap.size + 1 + 1) 86 #[.bool false, .slice none 0 0] := (d3.next hb3).next hb
        have o4 : Blk w4 (w.heap.size + 1 + 1 + 1) 86 #[.bool false, .slice none 0 0] := (d4.next hb3).next hb
        have e0 := u8.cell0
        have e1 := u8.cell1
        have e2 := u8.frozen 0
        have e3 := u8.frozen 1
        have e4 := u9.cell0
        have e5 := u9.cell1
        have e6 := u9.frozen 0
        have e7 := u9.frozen 1
        have pb := put_both (Z := w4) u8 u9 hne (.bool b6) (.slice a6 k6 c6) (.bool b10) (.slice a10 k10 c10)
        have pq := p2.both u8 u9 hne (.bool b6) (.slice a6 k6 c6) (.bool b10) (.slice a10 k10 c10)
        have pr := p5.both u8 u9 hne (.bool b6) (.slice a6 k6 c6) (.bool b10) (.slice a10 k10 c10)
        have i3 := keep_both (g8 := g8) (g9 := g9) o3 (by omega) (by omega) (.bool b6) (.slice a6 k6 c6) (.bool b10) (.slice a10 k10 c10)
        have i4 := keep_both (g8 := g8) (g9 := g9) o4 (by omega) (by omega) (.bool b6) (.slice a6 k6 c6) (.bool b10) (.slice a10 k10 c10)
        have pB : Below w.heap.size w _ := below_both (g8 := g8) (g9 := g9) ((HBV.out.trans (hb3.mono HBV.out.size)).trans (hb.mono (Nat.le_trans HBV.out.size hb3.size))) (by omega) (by omega) (.bool b6) (.slice a6 k6 c6) (.bool b10) (.slice a10 k10 c10)
        have HH := Lib.hid (And.intro pb (And.intro pq (And.intro pr (And.intro i3 (And.intro i4 pB)))))
        clear pb pq pr i3 i4 pB p2 p5 u8 u9 o3 o4 hne2 p0 p1 p3 p4 hB
        go_wp2
        generalize ((((w4.setCell ⟨g8, 0, none⟩ (.bool b6)).setCell ⟨g8, 1, none⟩ (.slice a6 k6 c6)).setCell ⟨g9, 0, none⟩ (.bool b10)).setCell ⟨g9, 1, none⟩ (.slice a10 k10 c10)) = w5 at *
        obtain ⟨⟨pb1, pb2⟩, pq, pr, i3, i4, pB⟩ := HH.out
        clear HH e0 e1 e2 e3 e4 e5 e6 e7
        have q8 := pb1.cell0
        have q8' := pb1.cell1
        have q9 := pb2.cell0
        have q9' := pb2.cell1
        have e30 := i3.cell0
        have e31 := i3.cell1
        have e3f := i3.frozen 0
        have e3g := i3.frozen 1
        have e40 := i4.cell0
        have e41 := i4.cell1
        have e4f := i4.frozen 0
        have e4g := i4.frozen 1
        go_region_held3 (fun w' => w'.cell? ⟨g8, 0, none⟩ = some (.bool b6) ∧ w'.cell? ⟨g8, 1, none⟩ = some (.slice a6 k6 c6) ∧ w'.cell? ⟨g9, 0, none⟩ = some (.bool b10) ∧ w'.cell? ⟨g9, 1, none⟩ = some (.slice a10 k10 c10)) (first | ((try dsimp only); refine ⟨?_, ?_, ?_, ?_⟩ <;> repeat' (first | with_reducible assumption | with_reducible refine cell_drew ?_ | with_reducible refine cell_far ?_ (by omega) _)) | go_keep) (first
          | fail)
        have pb := put_both (Z := w5) i3 i4 (by omega) (.bool b6) (.slice a6 k6 c6) (.bool b10) (.slice a10 k10 c10)
        have pq := pq.both i3 i4 (by omega) (.bool b6) (.slice a6 k6 c6) (.bool b10) (.slice a10 k10 c10)
        have pr := pr.both i3 i4 (by omega) (.bool b6) (.slice a6 k6 c6) (.bool b10) (.slice a10 k10 c10)
        have pB : Below w.heap.size w _ := below_both (g8 := w.heap.size + 1 + 1) (g9 := w.heap.size + 1 + 1 + 1) pB (by omega) (by omega) (.bool b6) (.slice a6 k6 c6) (.bool b10) (.slice a10 k10 c10)
        generalize ((((w5.setCell ⟨w.heap.size + 1 + 1, 0, none⟩ (.bool b6)).setCell ⟨w.heap.size + 1 + 1, 1, none⟩ (.slice a6 k6 c6)).setCell ⟨w.heap.size + 1 + 1 + 1, 0, none⟩ (.bool b10)).setCell ⟨w.heap.size + 1 + 1 + 1, 1, none⟩ (.slice a10 k10 c10)) = w9 at *
        have p0 := pb.1.cell0
        have p1 := pb.1.cell1
        have p2 := pb.2.cell0
        have p3 := pb.2.cell1
        go_wp2_with fail
        refine bodyPost_ret (v := .tuple #[.agg #[.bool b6, .slice a6 k6 c6], .agg #[.bool b10, .slice a10 k10 c10]]) (by simp [results, Tryz.results117, go_sem, p0, p1, p2, p3]) rfl ⟨_, _, rfl, ?_, ?_, ?_⟩
        · rw [← HF.out.1]; exact pq.drew
        · rw [← HF.out.2]; exact pr.drew
        · exact pB.drew

end Go.Proofs.YtpmlmibceiolpaaGreatDoor
