/- The builder's visit of all values. -/
import Derived.Test.YtpmlmibceiolpaaGreatDoorGPut
import Derived.Laws.EntriesVeiled
set_option linter.unusedSimpArgs false
set_option linter.unusedVariables false
namespace Go.Proofs.YtpmlmibceiolpaaGreatDoor
open Go.RowKit

/-- What a closure is that says the numbers of a function: it may write one old block (q). -/
structure NumC (f : Nat → List UInt8) (m B : Nat) (q : Option Nat) (nid : Nat) (lb : Array Value) (Inv : World → Prop) (Seen : Nat → World → Prop) : Prop where
  run : ∀ W x, x < 2 ^ m → B ≤ W.heap.size → Inv W → Calls Tryz.prog nid (#[.int .i64 (x : Int)] ++ lb) W (fun e W' => e = .returned (.string ⟨(f x).toArray⟩) ∧ Chg q W W' ∧ Inv W' ∧ Seen x W' ∧ ∀ y, Seen y W → Seen y W')
  keepI : ∀ W W', B ≤ W.heap.size → (∀ k, k < B → W'.heap[k]? = W.heap[k]?) → Inv W → Inv W'
  keepS : ∀ y W W', B ≤ W.heap.size → (∀ k, k < B → W'.heap[k]? = W.heap[k]?) → Seen y W → Seen y W'
  enter : ∀ args w, (callFunc nid args).run Tryz.prog w = .ok (.enter nid args) w
  short : ∀ x, x < 2 ^ m → (f x).length ≤ maxLen
  old : ∀ g, q = some g → g < B

/-- What a visit leaves as it was. -/
def KeptQ (q : Option Nat) (B : Nat) (W W' : World) : Prop :=
  W'.os = W.os ∧ W'.tape = W.tape ∧ W'.output = W.output ∧ W.heap.size ≤ W'.heap.size ∧ (∀ k, k < B → some k ≠ q → W'.heap[k]? = W.heap[k]?) ∧
  ∀ (k : Nat) (t : TypeId) (cs : Array Value), t ≠ 42 → t ≠ 118 → some k ≠ q → Blk W k t cs → Blk W' k t cs
theorem KeptQ.refl (q : Option Nat) (B : Nat) (W : World) : KeptQ q B W W := ⟨rfl, rfl, rfl, Nat.le_refl _, fun _ _ _ => rfl, fun _ _ _ _ _ _ h => h⟩
theorem KeptQ.trans {q : Option Nat} {B : Nat} {a b c : World} (h : KeptQ q B a b) (k : KeptQ q B b c) : KeptQ q B a c := by
  obtain ⟨h1, h2, h3, h4, h5, h6⟩ := h
  obtain ⟨k1, k2, k3, k4, k5, k6⟩ := k
  exact ⟨k1.trans h1, k2.trans h2, k3.trans h3, Nat.le_trans h4 k4, fun i hi hq => (k5 i hi hq).trans (h5 i hi hq), fun i t cs a1 a2 a3 hb => k6 i t cs a1 a2 a3 (h6 i t cs a1 a2 a3 hb)⟩
theorem KeptQ.kept {q : Option Nat} {B : Nat} {W W' : World} (h : Kept B W W') : KeptQ q B W W' :=
  ⟨h.1.os, h.1.tape, h.1.output, h.1.size, fun k hk _ => h.1.block k hk, fun k t cs a1 a2 _ hb => h.2 k t cs a1 a2 hb⟩
theorem KeptQ.chg {q : Option Nat} {B : Nat} {W W' : World} (hB : B ≤ W.heap.size) (h : Chg q W W') : KeptQ q B W W' :=
  ⟨h.os, h.tape, h.output, h.size, fun k hk hq => h.block k (by omega) hq, fun k t cs _ _ hq hb => hb.grown h hq⟩
theorem KeptQ.size {q : Option Nat} {B : Nat} {W W' : World} (h : KeptQ q B W W') : W.heap.size ≤ W'.heap.size := h.2.2.2.1
theorem KeptQ.blk {q : Option Nat} {B : Nat} {W W' : World} (h : KeptQ q B W W') {k : Nat} {t : TypeId} {cs : Array Value} (h1 : t ≠ 42) (h2 : t ≠ 118) (hq : some k ≠ q) (hb : Blk W k t cs) : Blk W' k t cs := h.2.2.2.2.2 k t cs h1 h2 hq hb
theorem Bdr.chg {q : Option Nat} {B gb mb : Nat} {m : Int} {l : List Nd} {W W' : World} (h : Bdr W B gb mb m l) (hc : Chg q W W') (hq : ∀ g, q = some g → g < B) : Bdr W' B gb mb m l := by
  obtain ⟨s, h1, h2, h3, h4, h5, h6⟩ := h
  have hne : ∀ k, B ≤ k → some k ≠ q := fun k hk e => by have := hq k e.symm; omega
  exact ⟨s, h1.grown hc (hne _ h4), h2.keep (fun g hg => hc.block g (by obtain ⟨_, cs, hb⟩ := h2.blk g hg; exact hb.lt) (hne g (h2.blk g hg).1)), h3.keep (hc.block mb h3.lt (hne _ h5)), h4, h5, h6⟩

/-- What the number of a value comes as. -/
def NumO (f : Nat → List UInt8) (x : Nat) (Inv : World → Prop) (Seen : Nat → World → Prop) (W : World) (v : Value) (w : World) : Prop := v = .string ⟨(f x).toArray⟩ ∧ Inv w ∧ Seen x w ∧ (∀ y, Seen y W → Seen y w) ∧ W.heap.size ≤ w.heap.size
theorem NumO.under {f : Nat → List UInt8} {m B : Nat} {q : Option Nat} {nid : Nat} {lb : Array Value} {Inv : World → Prop} {Seen : Nat → World → Prop} (N : NumC f m B q nid lb Inv Seen) {x : Nat} {W : World} (hB : B ≤ W.heap.size) : StabR Under (NumO f x Inv Seen W) := fun v w1 w2 h ⟨h1, h2, h3, h4, h5⟩ =>
  have hk : ∀ k, k < B → w2.heap[k]? = w1.heap[k]? := fun k hk => h.block k (by omega)
  ⟨h1, N.keepI _ _ (by omega) hk h2, N.keepS _ _ _ (by omega) hk h3, fun y hy => N.keepS _ _ _ (by omega) hk (h4 y hy), Nat.le_trans h5 h.size⟩

theorem or6 : ∀ v : Nat, v < 6 → ∀ x : Nat, x < 2 ^ v → bits BinOp.or IntKind.i64 (x : Int) ((2 ^ v : Nat) : Int) = ((x + 2 ^ v : Nat) : Int) := by decide +kernel
theorem shl6 : ∀ v : Nat, v < 6 → wrap64 ((2 : Int) ^ v) = ((2 ^ v : Nat) : Int) := by decide +kernel
theorem wf_small {n : Int} (h0 : 0 ≤ n) (h1 : n ≤ 1000000) : (Lit.int .i64 n).wf = true := by
  have e0 : IntKind.i64.min = -9223372036854775808 := by decide
  have e1 : IntKind.i64.max = 9223372036854775807 := by decide
  simp [Lit.wf, e0, e1]
  omega

/-- The variables that a visit has captured. -/
structure Caps (W : World) (pb pn pv gb nid : Nat) (lb : Array Value) : Prop where
  b : Blk W pb 113 #[.pointer (some ⟨gb, 0, none⟩)]
  n : Blk W pn 72 #[.func (.func nid) #[] lb]
  v : Blk W pv 152 #[.func (.func 103) #[] #[.pointer (some ⟨pb, 0, none⟩), .pointer (some ⟨pn, 0, none⟩), .pointer (some ⟨pv, 0, none⟩)]]
theorem Caps.keep {W W' : World} {pb pn pv gb nid B : Nat} {lb : Array Value} {q : Option Nat} (C : Caps W pb pn pv gb nid lb) (h : KeptQ q B W W') (hq : ∀ g, q = some g → g < B) (h1 : B ≤ pb) (h2 : B ≤ pn) (h3 : B ≤ pv) : Caps W' pb pn pv gb nid lb :=
  have hne : ∀ k, B ≤ k → some k ≠ q := fun k hk e => by have := hq k e.symm; omega
  ⟨h.blk (by decide) (by decide) (hne _ h1) C.b, h.blk (by decide) (by decide) (hne _ h2) C.n, h.blk (by decide) (by decide) (hne _ h3) C.v⟩

/-- What a visit hands back. -/
def VisO (f : Nat → List UInt8) (m B : Nat) (q : Option Nat) (gb mb : Nat) (Inv : World → Prop) (Seen : Nat → World → Prop) (v x : Nat) (r : List Nd × Nat) (W : World) (e : Ending) (W' : World) : Prop :=
  e = .returned (.int .i64 ((r.2 : Nat) : Int)) ∧ Bdr W' B gb mb m r.1 ∧ Inv W' ∧ (∀ y, y < 2 ^ m → y % 2 ^ v = x → Seen y W') ∧ (∀ y, Seen y W → Seen y W') ∧ KeptQ q B W W'

section
variable {f : Nat → List UInt8} {m B : Nat} {q : Option Nat} {nid : Nat} {lb : Array Value} {Inv : World → Prop} {Seen : Nat → World → Prop} {pb pn pv gb mb : Nat}

set_option maxHeartbeats 4000000 in
set_option maxRecDepth 100000 in
theorem visit_leaf (N : NumC f m B q nid lb Inv Seen) (hm6 : m ≤ 6) (hpb : B ≤ pb) (hpn : B ≤ pn) (hpv : B ≤ pv) {x : Nat} {l : List Nd} {W : World} (hx : x < 2 ^ m) (hB : B ≤ W.heap.size) (C : Caps W pb pn pv gb nid lb) (hb : Bdr W B gb mb m l) (hl : l.length ≤ 1000) (hI : Inv W) :
    Calls Tryz.prog 103 #[.int .i64 (m : Int), .int .i64 (x : Int), .pointer (some ⟨pb, 0, none⟩), .pointer (some ⟨pn, 0, none⟩), .pointer (some ⟨pv, 0, none⟩)] W (VisO f m B q gb mb Inv Seen m x (growN f m 0 x l) W) := by
  have hne : ∀ k, B ≤ k → some k ≠ q := fun k hk e => by have := N.old k e.symm; omega
  have hxm := N.short x hx
  have HN := Lib.hid N
  have HP := Lib.hid (fun (V : World) (hV : Bdr V B gb mb m l) (hS : B ≤ V.heap.size) => put_any (n := ((m : Int), 0, 0, f x)) hV hS hl ⟨wf_small (n := (m : Int)) (by omega) (by omega), wf_small (n := 0) (by omega) (by omega), wf_small (n := 0) (by omega) (by omega), hxm⟩)
  have c0 : W.cell? ⟨pb, 0, none⟩ = some (.pointer (some ⟨gb, 0, none⟩)) := C.b.cell 0
  have c1 : W.cell? ⟨pn, 0, none⟩ = some (.func (.func nid) #[] lb) := C.n.cell 0
  have c2 : W.cell? ⟨gb, 0, none⟩ = some (.int .i64 (m : Int)) := by
    obtain ⟨s, h1, _⟩ := hb
    exact h1.cell 0
  have n0 := hne pb hpb
  have n1 := hne pn hpn
  have HRUN := Lib.hid (fun (V : World) (hV : Below W.heap.size W V) => N.run V x hx (Nat.le_trans hB hV.size) (N.keepI W V hB (fun k hk => hV.block k (by omega)) hI))
  have HBD := Lib.hid hb
  have HX := Lib.hid hx
  have HB := Lib.hid hB
  have he := N.enter
  obtain ⟨T, hT⟩ : ∃ T : ByteArray, T = ⟨(f x).toArray⟩ := ⟨_, rfl⟩
  have HT := Lib.hid hT
  clear hT hI hb C hxm hx hB
  go_enter Tryz.func103, Tryz.ntmps103
  go_upto_region 2 with fail
  clear c2
  refine wp_region_one 6 4 (by kernel_rfl) (by kernel_rfl) (Chg q) (fun _ _ h => Chg.of h) (fun _ _ _ h k => h.trans k) [fun xv _ => xv = .pointer (some ⟨gb, 0, none⟩), fun xv _ => xv = .int .i64 (m : Int), fun xv _ => xv = .func (.func nid) #[] lb, fun xv _ => xv = .int .i64 (x : Int), NumO f x Inv Seen W, fun xv _ => xv = .agg #[.int .i64 (m : Int), .int .i64 0, .int .i64 0, .string T]] (by simp only [List.take_succ_cons, List.take_zero]; rfl) (by simp only [List.drop_succ_cons, List.drop_zero]; rfl) (fun vals => by simp only [fam, Act.put, List.setIfInBounds_toArray, List.set_cons_zero, List.set_cons_succ, if_true]; rfl) ?_ ?_ ?_
  · refine ⟨?_, ?_, ?_, ?_, ?_, ?_, ?_, ?_, ?_, ?_, ?_, ?_, trivial⟩
    all_goals first | exact StabR.eq _ | exact fun _ => StabR.eq _ | exact NumO.under HN.out HB.out | exact fun h => absurd rfl h
  · refine ⟨?_, ?_, ?_, ?_, ?_, ?_, trivial⟩
    all_goals
      intro vals wy hB1 hp
      dsimp only
      (try simp [preOk, Region.binds, r_anygc, r_anytext] at hp)
    case refine_5 =>
      have hu : Below W.heap.size W wy := ((Below.refl _ _).drew).trans hB1
      have HU := Lib.hid hu
      obtain ⟨z2, z3⟩ := hp
      clear hu hB1 c0 c1
      go_wp2_with fail
      refine (HRUN.out wy HU.out).mono ?_
      rintro e V ⟨rfl, k1, k2, k3, k4⟩
      have K1 := Lib.hid k1
      have R1 := Lib.hid (show NumO f x Inv Seen W (.string ⟨(f x).toArray⟩) V from ⟨rfl, k2, k3, fun y hy => k4 y (HN.out.keepS y W wy HB.out (fun k hk => HU.out.block k (by have := HB.out; omega)) hy), Nat.le_trans HU.out.size k1.size⟩)
      clear k1 k2 k3 k4
      go_wp2
      (refine ⟨rfl, _, ?_, R1.out, K1.out⟩; simp only [Act.put, List.setIfInBounds_toArray, List.set_cons_zero, List.set_cons_succ, Nat.zero_add, Nat.reduceAdd, z2, z3])
    all_goals
      have hc : Chg q W wy := (Chg.of ((Below.refl _ _).drew)).trans hB1
      have y0 := World.grownBy.cell hc c0 n0
      have y1 := World.grownBy.cell hc c1 n1
      clear c0 c1 hB1
    case refine_6 =>
      obtain ⟨z1, z4⟩ := hp
      have z5 := z4.1
      rw [← HT.out] at z5
      clear z4
      go_wp2
      (first | exact ⟨rfl, _, rfl, rfl, Below.refl _ _⟩ | (refine ⟨rfl, _, ?_, rfl, Below.refl _ _⟩; simp only [Act.put, List.setIfInBounds_toArray, List.set_cons_zero, List.set_cons_succ, z1, z5]))
    all_goals
      go_wp2
      (first | exact ⟨rfl, _, rfl, rfl, Below.refl _ _⟩ | (refine ⟨rfl, _, ?_, rfl, Below.refl _ _⟩; simp only [Act.put, List.setIfInBounds_toArray, List.set_cons_zero, List.set_cons_succ, hp]))
  · rintro vals w1 hB1 ⟨p0, p1, p2, p3, p4, p5, _⟩
    simp only [List.getD_cons_zero, List.getD_cons_succ, Nat.zero_add, Nat.reduceAdd] at p0 p4 p5
    obtain ⟨g1, g2, g3, g4, g5⟩ := p4
    have hc : Chg q W w1 := (Chg.of ((Below.refl _ _).drew)).trans hB1
    have HC := Lib.hid hc
    have G2 := Lib.hid g2
    have G3 := Lib.hid g3
    have G4 := Lib.hid g4
    clear hc g1 g2 g3 g4 g5 hB1 p1 p2 p3 c0 c1
    have HP2 := Lib.hid (by
      have h := HP.out w1 (HBD.out.chg HC.out HN.out.old) (Nat.le_trans HB.out HC.out.size)
      unfold ndA at h
      simp only at h
      rw [← HT.out] at h
      exact h)
    go_wp2_with fail
    refine (HP2.out).mono ?_
    rintro e w2 ⟨rfl, k1, k2⟩
    have K1 := Lib.hid k1
    have K2 := Lib.hid k2
    clear k1 k2 HP2 HP
    go_wp2
    go_ret
    have hkk : ∀ k, k < B → w2.heap[k]? = w1.heap[k]? := fun k hk => K2.out.1.block k hk
    have hs1 : B ≤ w1.heap.size := Nat.le_trans HB.out HC.out.size
    exact ⟨rfl, K1.out, HN.out.keepI _ _ hs1 hkk G2.out, fun y hy hyx => by
        rw [Nat.mod_eq_of_lt hy] at hyx
        subst hyx
        exact HN.out.keepS _ _ _ hs1 hkk G3.out, fun y hy => HN.out.keepS _ _ _ hs1 hkk (G4.out y hy), (KeptQ.chg HB.out HC.out).trans (KeptQ.kept K2.out)⟩

theorem VisO.seen {v x y : Nat} {r : List Nd × Nat} {W : World} {e : Ending} {W' : World} (h : VisO f m B q gb mb Inv Seen v x r W e W') (hy : Seen y W) : Seen y W' := h.2.2.2.2.1 y hy

set_option maxHeartbeats 4000000 in
set_option maxRecDepth 100000 in
theorem visit_any (N : NumC f m B q nid lb Inv Seen) (hm6 : m ≤ 6) (hpb : B ≤ pb) (hpn : B ≤ pn) (hpv : B ≤ pv) : ∀ (k v x : Nat) (l : List Nd) (W : World), v + k = m → x < 2 ^ v → B ≤ W.heap.size → Caps W pb pn pv gb nid lb → Bdr W B gb mb m l → WF m l → l.length + 2 ^ (k + 1) ≤ 1000 → Inv W →
    Calls Tryz.prog 103 #[.int .i64 (v : Int), .int .i64 (x : Int), .pointer (some ⟨pb, 0, none⟩), .pointer (some ⟨pn, 0, none⟩), .pointer (some ⟨pv, 0, none⟩)] W (VisO f m B q gb mb Inv Seen v x (growN f m k x l) W)
  | 0, v, x, l, W, hv, hx, hB, C, hb, hw, hl, hI => by
    obtain rfl : v = m := by omega
    exact visit_leaf N hm6 hpb hpn hpv hx hB C hb (by omega) hI
  | k + 1, v, x, l, W, hv, hx, hB, C, hb, hw, hl, hI => by
    have ev : m - (k + 1) = v := by omega
    have ek : m - k = v + 1 := by omega
    have hp : 2 ^ (v + 1) = 2 ^ v * 2 := Nat.pow_succ ..
    have hpk : 2 ^ (k + 1 + 1) = 2 ^ (k + 1) * 2 := Nat.pow_succ ..
    have hpk0 : 0 < 2 ^ (k + 1) := Nat.pow_pos (by omega)
    have hx1 : x < 2 ^ (v + 1) := by rw [hp]; omega
    have hx2 : x + 2 ^ v < 2 ^ (v + 1) := by rw [hp]; omega
    have hnd : l.Nodup := by obtain ⟨s, h1, h2, h3, h4, h5, h6, h7⟩ := hb; exact h6
    have G1 := grown (f := f) k x l (by omega) (by rw [ek]; exact hx1) hw hnd
    have H1 := Lib.hid (show Calls Tryz.prog 103 #[.int .i64 ((v : Int) + 1), .int .i64 (x : Int), .pointer (some ⟨pb, 0, none⟩), .pointer (some ⟨pn, 0, none⟩), .pointer (some ⟨pv, 0, none⟩)] W (VisO f m B q gb mb Inv Seen (v + 1) x (growN f m k x l) W) from visit_any N hm6 hpb hpn hpv k (v + 1) x l W (by omega) hx1 hB C hb hw (by omega) hI)
    have hgr : growN f m (k + 1) x l = if (growN f m k x l).2 = (growN f m k (x + 2 ^ v) (growN f m k x l).1).2 then ((growN f m k (x + 2 ^ v) (growN f m k x l).1).1, (growN f m k x l).2) else putN (growN f m k (x + 2 ^ v) (growN f m k x l).1).1 ((v : Int), (((growN f m k x l).2 : Nat) : Int), (((growN f m k (x + 2 ^ v) (growN f m k x l).1).2 : Nat) : Int), []) := by
      conv => lhs; rw [growN]
      rw [ev]
    rw [hgr]
    generalize growN f m k x l = a at *
    have G2 := grown (f := f) k (x + 2 ^ v) a.1 (by omega) (by rw [ek]; exact hx2) G1.wf G1.nodup
    have ha := G1.size
    have H2 := Lib.hid (fun (V : World) (hS : B ≤ V.heap.size) (hC : Caps V pb pn pv gb nid lb) (hb : Bdr V B gb mb m a.1) (hI : Inv V) => show Calls Tryz.prog 103 #[.int .i64 ((v : Int) + 1), .int .i64 ((x + 2 ^ v : Nat) : Int), .pointer (some ⟨pb, 0, none⟩), .pointer (some ⟨pn, 0, none⟩), .pointer (some ⟨pv, 0, none⟩)] V (VisO f m B q gb mb Inv Seen (v + 1) (x + 2 ^ v) (growN f m k (x + 2 ^ v) a.1) V) from visit_any N hm6 hpb hpn hpv k (v + 1) (x + 2 ^ v) a.1 V (by omega) hx2 hS hC hb G1.wf (by omega) hI)
    generalize growN f m k (x + 2 ^ v) a.1 = b at *
    have hbl := G2.size
    have hi1 := G1.means.1
    have hi2 := G2.means.1
    have hle := pre_len G2.pre
    have H3 := Lib.hid (fun (V : World) (hS : B ≤ V.heap.size) (hb : Bdr V B gb mb m b.1) => put_any (n := ((v : Int), ((a.2 : Nat) : Int), ((b.2 : Nat) : Int), [])) hb hS (by omega) ⟨wf_small (n := (v : Int)) (by omega) (by omega), wf_small (n := ((a.2 : Nat) : Int)) (by omega) (by omega), wf_small (n := ((b.2 : Nat) : Int)) (by omega) (by omega), by simp [maxLen]⟩)
    have HN := Lib.hid N
    have hne : ∀ k, B ≤ k → some k ≠ q := fun k hk e => by have := N.old k e.symm; omega
    have HSP := Lib.hid (fun (y : Nat) (h : y % 2 ^ v = x) => show y % 2 ^ (v + 1) = x ∨ y % 2 ^ (v + 1) = x + 2 ^ v from by
      rcases agr_split (v := v) (x := x) (y := y) h hx with h | h
      · exact .inl h.2
      · exact .inr h.2)
    have hor := or6 v (by omega) x hx
    have hshl := shl6 v (by omega)
    have HOR := Lib.hid hor
    have HSH := Lib.hid hshl
    have c0 : W.cell? ⟨pb, 0, none⟩ = some (.pointer (some ⟨gb, 0, none⟩)) := C.b.cell 0
    have c1 : W.cell? ⟨pv, 0, none⟩ = some (.func (.func 103) #[] #[.pointer (some ⟨pb, 0, none⟩), .pointer (some ⟨pn, 0, none⟩), .pointer (some ⟨pv, 0, none⟩)]) := C.v.cell 0
    have c2 : W.cell? ⟨gb, 0, none⟩ = some (.int .i64 (m : Int)) := by
      obtain ⟨s, h1, _⟩ := hb
      exact h1.cell 0
    have hvm : ¬ v = m := by omega
    have hv6 : v < 6 := by omega
    have hx63 : x < 64 := Nat.lt_of_lt_of_le hx (Nat.le_trans (Nat.pow_le_pow_right (by omega) (show v ≤ 6 by omega)) (by decide))
    have hPb : 2 ^ v ≤ 64 := Nat.le_trans (Nat.pow_le_pow_right (by omega) (show v ≤ 6 by omega)) (by decide)
    have HC := Lib.hid C
    have HB := Lib.hid hB
    obtain ⟨r, hr⟩ : ∃ r, r = if a.2 = b.2 then (b.1, a.2) else putN b.1 ((v : Int), ((a.2 : Nat) : Int), ((b.2 : Nat) : Int), []) := ⟨_, rfl⟩
    rw [← hr]
    have HR := Lib.hid hr
    clear hr hor hshl G1 G2 hgr hi1 hi2 hle ha hbl hb C hI hw hl hnd hx hx1 hx2 hp hpk hpk0 ev ek hB N
    generalize hP : 2 ^ v = P at *
    have HPE := Lib.hid hP
    clear hP
    generalize hXP : x + P = XP at *
    have HXP := Lib.hid hXP
    clear hXP
    have hvl : (v : Int) < (m : Int) := by omega
    go_enter Tryz.func103, Tryz.ntmps103
    go_upto_region 3 with fail
    clear c2 c0
    go_wp2_with fail
    refine (H1.out).mono ?_
    rintro e w1 ⟨rfl, k1, k2, k3, k4, k5⟩
    have C1 := Lib.hid (HC.out.keep k5 HN.out.old hpb hpn hpv)
    have K1 := Lib.hid k1
    have K2 := Lib.hid k2
    have K3 := Lib.hid k3
    have K4 := Lib.hid k4
    have K5 := Lib.hid k5
    clear k1 k2 k3 k4 k5 c1 H1
    have c1 : w1.cell? ⟨pv, 0, none⟩ = some (.func (.func 103) #[] #[.pointer (some ⟨pb, 0, none⟩), .pointer (some ⟨pn, 0, none⟩), .pointer (some ⟨pv, 0, none⟩)]) := C1.out.v.cell 0
    have l1 := C1.out.v.lt
    have hshl := HSH.out
    have hor := HOR.out
    go_upto_region 4 with fail
    have hBd : Below w1.heap.size w1 w1.drew := (Below.refl _ _).drew
    refine wp_region_list 7 (by kernel_rfl) (by kernel_rfl) [] [fun xv _ => xv = .func (.func 103) #[] #[.pointer (some ⟨pb, 0, none⟩), .pointer (some ⟨pn, 0, none⟩), .pointer (some ⟨pv, 0, none⟩)], fun xv _ => xv = .int .i64 (v : Int), fun xv _ => xv = .int .i64 ((v : Int) + 1), fun xv _ => xv = .int .i64 (x : Int), fun xv _ => xv = .int .i64 (v : Int), fun xv _ => xv = .int .i64 (P : Int), fun xv _ => xv = .int .i64 (XP : Int)] (by simp only [List.take_succ_cons, List.take_zero]; rfl) (by simp only [List.drop_succ_cons, List.drop_zero]; rfl) (fun vals => by simp only [fam, Act.put, List.setIfInBounds_toArray, List.set_cons_zero, List.set_cons_succ, if_true]; rfl) (by repeat' (first | exact Stab.eq _ _ | exact Stab.wh _ _ | exact Stab.nm _ _ | exact Stab.new _ _ | exact Stab.newn _ _ | exact Stab.tw _ _ _ | exact Stab.lm _ _ _ | exact Stab.onet _ _ _ | exact Stab.pl _ _ _ | exact Stab.dg _ _ _ | exact Stab.nds _ _ | exact Stab.qs _ _ | exact trivial | apply And.intro)) trivial ?_ ?_
    · refine ⟨?_, ?_, ?_, ?_, ?_, ?_, ?_, trivial⟩
      all_goals
        intro vals wy hB1 hp
        dsimp only
        (try simp [preOk, Region.binds, r_anygc, r_anytext] at hp)
        have hb := next_below hBd hB1
        have y1 := keepc hb c1 l1
        clear hB1 c1
      case refine_7 =>
        obtain ⟨z3, z5⟩ := hp
        go_wp2
        (first | exact ⟨rfl, _, rfl, rfl, Below.refl _ _, trivial⟩ | (refine ⟨rfl, _, ?_, rfl, Below.refl _ _, trivial⟩; simp only [Act.put, List.setIfInBounds_toArray, List.set_cons_zero, List.set_cons_succ, Nat.zero_add, Nat.reduceAdd, z3, z5]))
      case refine_6 =>
        go_wp2
        (refine ⟨rfl, _, ?_, rfl, Below.refl _ _, trivial⟩; simp only [Act.put, List.setIfInBounds_toArray, List.set_cons_zero, List.set_cons_succ, Nat.zero_add, Nat.reduceAdd, hp, hshl])
      all_goals
        go_wp2
        (first | exact ⟨rfl, _, rfl, rfl, Below.refl _ _, trivial⟩ | (refine ⟨rfl, _, ?_, rfl, Below.refl _ _, trivial⟩; simp only [Act.put, List.setIfInBounds_toArray, List.set_cons_zero, List.set_cons_succ, hp]))
    · rintro vals w2 hB1 ⟨p0, p1, p2, p3, p4, p5, p6, _⟩ hne2
      have hb := next_below hBd hB1
      simp only [List.getD_cons_zero, List.getD_cons_succ, Nat.zero_add, Nat.reduceAdd] at p0 p2 p6
      have KB := Lib.hid hb
      have C2 := Lib.hid (C1.out.keep (KeptQ.kept (Kept.below hb (Nat.le_trans HB.out K5.out.size))) HN.out.old hpb hpn hpv)
      have I2 := Lib.hid (HN.out.keepI w1 w2 (Nat.le_trans HB.out K5.out.size) (fun k hk => hb.block k (by have := HB.out; have := K5.out.size; omega)) K2.out)
      have S2 := Lib.hid (fun y (hy : Seen y w1) => HN.out.keepS y w1 w2 (Nat.le_trans HB.out K5.out.size) (fun k hk => hb.block k (by have := HB.out; have := K5.out.size; omega)) hy)
      have H22 := Lib.hid (H2.out w2 (Nat.le_trans (Nat.le_trans HB.out K5.out.size) hb.size) C2.out (K1.out.below hb) I2.out)
      clear hb hB1 hBd hne2 p1 p3 p4 p5 c1 H2
      go_wp2_with fail
      refine (H22.out).mono ?_
      rintro e w3 ⟨rfl, k1, k2, k3, k4, k5⟩
      have C3 := Lib.hid (C2.out.keep k5 HN.out.old hpb hpn hpv)
      have M1 := Lib.hid k1
      have M2 := Lib.hid k2
      have M5 := Lib.hid (K5.out.trans ((KeptQ.kept (Kept.below KB.out (Nat.le_trans HB.out K5.out.size))).trans k5))
      have M3 := Lib.hid (show ∀ y, y < 2 ^ m → y % 2 ^ v = x → Seen y w3 from fun y hy hyx => by
        rcases HSP.out y (by rw [HPE.out] at hyx; exact hyx) with h | h
        · exact k4 y (S2.out y (K3.out y hy h))
        · exact k3 y hy h)
      have M4 := Lib.hid (show ∀ y, Seen y W → Seen y w3 from fun y hy => k4 y (S2.out y (K4.out y hy)))
      clear k1 k2 k3 k4 k5 H22 C2 I2 S2 K1 K2 K3 K4 KB p0 p2 p6
      have c0 : w3.cell? ⟨pb, 0, none⟩ = some (.pointer (some ⟨gb, 0, none⟩)) := C3.out.b.cell 0
      by_cases hab : a.2 = b.2
      · have hr : r = (b.1, b.2) := by rw [HR.out, if_pos hab, hab]
        have hab2 : ((a.2 : Nat) : Int) = ((b.2 : Nat) : Int) := by rw [hab]
        rw [hab2]
        have HRR := Lib.hid hr
        clear hab hab2 hr
        go_wp2
        go_ret
        rw [HRR.out]
        exact ⟨rfl, M1.out, M2.out, M3.out, M4.out, M5.out⟩
      · have hr : r = putN b.1 ((v : Int), ((a.2 : Nat) : Int), ((b.2 : Nat) : Int), []) := by rw [HR.out, if_neg hab]
        have HRR := Lib.hid hr
        have hab2 : ¬ ((a.2 : Nat) : Int) = ((b.2 : Nat) : Int) := by omega
        have H33 := Lib.hid (H3.out w3 (Nat.le_trans HB.out M5.out.size) M1.out)
        unfold ndA at H33
        simp only at H33
        clear hr
        go_wp2_with fail
        refine (H33.out).mono ?_
        rintro e w4 ⟨rfl, k1, k2⟩
        have T1 := Lib.hid k1
        have T2 := Lib.hid k2
        clear k1 k2 H33 H3
        go_wp2
        go_ret
        rw [HRR.out]
        have hs3 : B ≤ w3.heap.size := Nat.le_trans HB.out M5.out.size
        have hkk : ∀ k, k < B → w4.heap[k]? = w3.heap[k]? := fun k hk => T2.out.1.block k hk
        exact ⟨rfl, T1.out, HN.out.keepI _ _ hs3 hkk M2.out, fun y hy hyx => HN.out.keepS _ _ _ hs3 hkk (M3.out y hy hyx), fun y hy => HN.out.keepS _ _ _ hs3 hkk (M4.out y hy), M5.out.trans (KeptQ.kept T2.out)⟩
end
end Go.Proofs.YtpmlmibceiolpaaGreatDoor

/- The diagram of a function that a closure says. -/
set_option linter.unusedSimpArgs false
set_option linter.unusedVariables false
namespace Go.Proofs.YtpmlmibceiolpaaGreatDoor
open Go.RowKit

set_option maxHeartbeats 1000000 in
set_option maxRecDepth 100000 in
theorem begin_any {W : World} {B m : Nat} (hB : B ≤ W.heap.size) : Calls Tryz.prog 62 #[.int .i64 (m : Int)] W (fun e W' => ∃ gb mb : Nat, e = .returned (.pointer (some ⟨gb, 0, none⟩)) ∧ Bdr W' B gb mb m [] ∧ Below W.heap.size W W') := by
  have hmm := @run_makeMap Tryz.prog
  have hbd : Bdr ((W.alloc (.map #[] 0)).alloc (.cells #[.int .i64 (m : Int), .slice none 0 0, .map (some W.heap.size)] 118)) B (W.heap.size + 1) W.heap.size m [] := by
    refine ⟨_, ?_, NdRow.nil _ _, ⟨#[], 0, ?_, rfl, fun i hi => by simp at hi⟩, by omega, hB, List.nodup_nil, fun x hx => by cases hx⟩
    · have := Blk.new (W.alloc (.map #[] 0)) 118 #[.int .i64 (m : Int), .slice none 0 0, .map (some W.heap.size)]
      simpa using this
    · rw [Below.heap_alloc _ _ _ (by simp)]
      show (W.heap.push _)[W.heap.size]? = _
      simp
  have HBD := Lib.hid hbd
  clear hbd
  go_enter Tryz.func62, Tryz.ntmps62
  go_wp2
  go_ret
  exact ⟨_, _, rfl, HBD.out, ((Below.refl _ _).alloc (Nat.le_refl _) _).alloc (by simp) _⟩

section
variable {f : Nat → List UInt8} {m B : Nat} {q : Option Nat} {nid : Nat} {lb : Array Value} {Inv : World → Prop} {Seen : Nat → World → Prop} {gb mb : Nat}
set_option maxHeartbeats 1000000 in
set_option maxRecDepth 100000 in
theorem of_any (N : NumC f m B q nid lb Inv Seen) (hm6 : m ≤ 6) {W : World} (hB : B ≤ W.heap.size) (hb : Bdr W B gb mb m []) (hI : Inv W) :
    Calls Tryz.prog 63 #[.pointer (some ⟨gb, 0, none⟩), .func (.func nid) #[] lb] W (VisO f m B q gb mb Inv Seen 0 0 (growN f m m 0 []) W) := by
  obtain ⟨W3, hW3, hB3, hs3, j0, j1, j2⟩ := entC W 113 72 152 #[.pointer (some ⟨gb, 0, none⟩)] #[.func (.func nid) #[] lb] #[.nilFunc]
  have j2' : Blk W3 (W.heap.size + 1 + 1) 152 #[.nilFunc] := j2
  have zf : W3.frozen? ⟨W.heap.size + 1 + 1, 0, none⟩ = false := j2'.frozen 0
  have zc : W3.cell? ⟨W.heap.size + 1 + 1, 0, none⟩ = some .nilFunc := j2'.cell 0
  have HW3 := Lib.hid hW3
  obtain ⟨W4, hW4⟩ : ∃ W4, W4 = W3.setCell ⟨W.heap.size + 1 + 1, 0, none⟩ (.func (.func 103) #[] #[.pointer (some ⟨W.heap.size, 0, none⟩), .pointer (some ⟨W.heap.size + 1, 0, none⟩), .pointer (some ⟨W.heap.size + 1 + 1, 0, none⟩)]) := ⟨_, rfl⟩
  have hB4 : Below W.heap.size W W4 := by rw [hW4]; exact hB3.setCell (by simp; omega) _
  have CC : Caps W4 W.heap.size (W.heap.size + 1) (W.heap.size + 1 + 1) gb nid lb := by
    rw [hW4]
    exact ⟨j0.far (p := ⟨W.heap.size + 1 + 1, 0, none⟩) (by simp; omega) _, j1.far (p := ⟨W.heap.size + 1 + 1, 0, none⟩) (by simp) _, j2'.set_ 0 _⟩
  have HV := Lib.hid (visit_any N hm6 (pb := W.heap.size) (pn := W.heap.size + 1) (pv := W.heap.size + 1 + 1) hB (by omega) (by omega) m 0 0 [] W4 (by omega) (by simp) (Nat.le_trans hB hB4.size) CC (hb.below hB4) (fun i hi => by simp at hi) (by
    have := Nat.pow_le_pow_right (show 2 > 0 by omega) (show m + 1 ≤ 7 by omega); simp; omega) (N.keepI W W4 hB (fun k hk => hB4.block k (by omega)) hI))
  have HW4 := Lib.hid hW4
  have x0 : W4.cell? ⟨W.heap.size + 1 + 1, 0, none⟩ = some (.func (.func 103) #[] #[.pointer (some ⟨W.heap.size, 0, none⟩), .pointer (some ⟨W.heap.size + 1, 0, none⟩), .pointer (some ⟨W.heap.size + 1 + 1, 0, none⟩)]) := CC.v.cell 0
  have HB4 := Lib.hid hB4
  have HN := Lib.hid N
  have HB := Lib.hid hB
  generalize growN f m m 0 [] = r at *
  clear hW3 hB3 hs3 j0 j1 j2 j2' hW4 hB4 CC hb hI N hB
  go_enter Tryz.func63, Tryz.ntmps63
  go_upto_region 2 with fail
  rw [← HW3.out]
  go_upto_region 3 with fail
  rw [← HW4.out]
  clear zf zc HW3 HW4
  go_wp2_with fail
  refine (HV.out).mono ?_
  rintro e w1 ⟨rfl, k1, k2, k3, k4, k5⟩
  have K1 := Lib.hid k1
  have K2 := Lib.hid k2
  have K3 := Lib.hid k3
  have K4 := Lib.hid k4
  have K5 := Lib.hid k5
  clear k1 k2 k3 k4 k5 x0
  go_wp2
  go_ret
  exact ⟨rfl, K1.out, K2.out, K3.out, fun y hy => K4.out y (HN.out.keepS y W W4 HB.out (fun k hk => HB4.out.block k (by have := HB.out; omega)) hy), (KeptQ.kept (Kept.below HB4.out HB.out)).trans K5.out⟩
end

/-- What made hands back. -/
def MadeO (f : Nat → List UInt8) (m : Nat) (q : Option Nat) (Inv : World → Prop) (Seen : Nat → World → Prop) (W : World) (e : Ending) (W' : World) : Prop :=
  ∃ a c, e = .returned (.agg #[.int .i64 (m : Int), .slice a (madeN f m).length c]) ∧ Nds W' (.slice a (madeN f m).length c) (madeN f m) ∧ Inv W' ∧ (∀ y, y < 2 ^ m → Seen y W') ∧ Chg q W W'

set_option maxHeartbeats 1000000 in
set_option maxRecDepth 100000 in
theorem made_any {f : Nat → List UInt8} {m : Nat} {q : Option Nat} {nid : Nat} {lb : Array Value} {Inv : World → Prop} {Seen : Nat → World → Prop} {W : World} (N : NumC f m W.heap.size q nid lb Inv Seen) (hm6 : m ≤ 6) (hI : Inv W) :
    Calls Tryz.prog 35 #[.int .i64 (m : Int), .func (.func nid) #[] lb] W (MadeO f m q Inv Seen W) := by
  obtain ⟨W1, hW1, hB1, hs1, j0⟩ := entA W 31 #[.int .i64 0, .slice none 0 0]
  have HBG := Lib.hid (begin_any (W := W1) (B := W.heap.size) (m := m) (by omega))
  have HOF := Lib.hid (fun (V : World) (gb mb : Nat) (hV : Below W1.heap.size W1 V) (hb : Bdr V W.heap.size gb mb m []) => of_any (gb := gb) (mb := mb) N hm6 (W := V) (Nat.le_trans hB1.size hV.size) hb (N.keepI W V (Nat.le_refl _) (fun k hk => by rw [hV.block k (by omega)]; exact hB1.block k hk) hI))
  have HW1 := Lib.hid hW1
  have HB1 := Lib.hid hB1
  have J0 := Lib.hid j0
  have HN := Lib.hid N
  have hne : some W.heap.size ≠ q := fun e => by have := N.old _ e.symm; omega
  have HNE := Lib.hid hne
  have HMD := Lib.hid (show madeN f m = (growN f m m 0 []).1 from rfl)
  have HSZ := Lib.hid hs1
  generalize growN f m m 0 [] = r at *
  clear hW1 hB1 hs1 j0 N hI hne
  go_enter Tryz.func35, Tryz.ntmps35
  go_upto_region 1 with fail
  rw [← HW1.out]
  clear HW1
  go_wp2_with fail
  refine (HBG.out).mono ?_
  rintro e w2 ⟨gb, mb, rfl, hbd, hb2⟩
  have HO := Lib.hid (HOF.out w2 gb mb hb2 hbd)
  have J2 := Lib.hid (J0.out.next hb2)
  have K2 := Lib.hid (HB1.out.trans (hb2.mono HB1.out.size))
  clear hbd hb2 HOF HBG J0
  go_wp2_with fail
  refine (HO.out).mono ?_
  rintro e w3 ⟨rfl, k1, k2, k3, k4, k5⟩
  have K5 := Lib.hid k5
  have j3 := k5.blk (by decide) (by decide) HNE.out J2.out
  obtain ⟨s, b1, b2, b3, b4, b5, b6⟩ := k1
  obtain ⟨a, c, rfl⟩ := b2.len
  have c0 : w3.cell? ⟨gb, 0, none⟩ = some (.int .i64 (m : Int)) := b1.cell 0
  have c1 : w3.cell? ⟨gb, 1, none⟩ = some (.slice a r.1.length c) := b1.cell 1
  have x0 : w3.cell? ⟨W.heap.size, 0, none⟩ = some (.int .i64 0) := j3.cell 0
  have x1 : w3.cell? ⟨W.heap.size, 1, none⟩ = some (.slice none 0 0) := j3.cell 1
  have f0 := j3.frozen 0
  have f1 := j3.frozen 1
  have hgg : gb ≠ W.heap.size := by
    rintro rfl
    unfold Blk at b1 j3; rw [b1] at j3; injection j3 with j3; injection j3 with h3 h4; exact absurd h4 (by decide)
  obtain ⟨W5, hW5⟩ : ∃ W5, W5 = (w3.setCell ⟨W.heap.size, 0, none⟩ (.int .i64 (m : Int))).setCell ⟨W.heap.size, 1, none⟩ (.slice a r.1.length c) := ⟨_, rfl⟩
  have j5 : Blk W5 W.heap.size 31 #[.int .i64 (m : Int), .slice a r.1.length c] := by rw [hW5]; exact j3.two _ _
  have hoth : ∀ k, k ≠ W.heap.size → W5.heap[k]? = w3.heap[k]? := fun k hk => by
    rw [hW5, Below.heap_setCell _ ⟨W.heap.size, 1, none⟩ _ k hk, Below.heap_setCell _ ⟨W.heap.size, 0, none⟩ _ k hk]
  have hnd : NdRow W5 W.heap.size (.slice a r.1.length c) r.1 := b2.keep fun g hg => hoth g (by
    rintro rfl
    obtain ⟨_, cs, h⟩ := b2.blk _ hg
    unfold Blk at h j3; rw [h] at j3; injection j3 with j3; injection j3 with h3 h4; exact absurd h4 (by decide))
  have hsz : W5.heap.size = w3.heap.size := by rw [hW5]; simp [World.setCell]
  have hW3 : W.heap.size ≤ w3.heap.size := Nat.le_trans K2.out.size K5.out.size
  have R1 := Lib.hid (show MadeO f m q Inv Seen W (.returned (.agg #[.int .i64 (m : Int), .slice a r.1.length c])) W5 from by
    refine ⟨a, c, by rw [HMD.out], ?_, ?_, ?_, ?_⟩
    · rw [HMD.out]; exact hnd.nds
    · exact HN.out.keepI w3 W5 hW3 (fun k hk => hoth k (by omega)) k2
    · exact fun y hy => HN.out.keepS y w3 W5 hW3 (fun k hk => hoth k (by omega)) (k3 y hy (by rw [Nat.pow_zero]; exact Nat.mod_one _))
    · obtain ⟨e1, e2, e3, e4, e5, e6⟩ := K5.out
      refine ⟨?_, ?_, ?_, ?_, fun k hk hq => ?_⟩
      · rw [hW5]; exact (e1.trans K2.out.os)
      · rw [hW5]; exact (e2.trans K2.out.tape)
      · rw [hW5]; exact (e3.trans K2.out.output)
      · rw [hsz]; exact hW3
      · rw [hoth k (by omega), e5 k hk hq]; exact K2.out.block k hk)
  have HW5 := Lib.hid hW5
  have d0 : W5.cell? ⟨W.heap.size, 0, none⟩ = some (.int .i64 (m : Int)) := j5.cell 0
  have d1 : W5.cell? ⟨W.heap.size, 1, none⟩ = some (.slice a r.1.length c) := j5.cell 1
  clear hoth hnd hsz hW3 hW5 j3 j5 b1 b2 b3 b4 b5 b6 k2 k3 k4 k5
  have D0 := Lib.hid d0
  have D1 := Lib.hid d1
  clear d0 d1
  go_wp2
  rw [← HW5.out]
  have d0 := D0.out
  have d1 := D1.out
  exact bodyPost_ret (v := .agg #[.int .i64 (m : Int), .slice a r.1.length c]) (by simp [results, Tryz.results35, go_sem, d0, d1]) rfl R1.out
end Go.Proofs.YtpmlmibceiolpaaGreatDoor

/- The number that a diagram has at values; whether two diagrams are equal. -/
set_option linter.unusedSimpArgs false
set_option linter.unusedVariables false
namespace Go.Proofs.YtpmlmibceiolpaaGreatDoor
open Go.RowKit

theorem and_one6 : ∀ y : Nat, y < 64 → bits BinOp.and IntKind.i64 (y : Int) 1 = ((y % 2 : Nat) : Int) := by decide +kernel
theorem shr_cast (x m : Nat) : (x : Int) / 2 ^ m = ((x / 2 ^ m : Nat) : Int) := by push_cast; rfl
theorem bit_of (x v : Nat) : x / 2 ^ v % 2 = if x.testBit v then 1 else 0 := by
  rw [Nat.testBit_eq_decide_div_mod_eq]
  have : x / 2 ^ v % 2 < 2 := Nat.mod_lt _ (by decide)
  by_cases h : x / 2 ^ v % 2 = 1
  · rw [h]; rfl
  · rw [decide_eq_false h, if_neg (by decide)]; omega
/-- How many variables are left. -/
def leftM (m gn : Nat) (w : World) : Nat := ((m : Int) - intOf ((w.cell? ⟨gn, 0, none⟩).getD (.int .i64 0))).toNat
theorem leftM_is {m gn : Nat} {w : World} {v : Int} (h : w.cell? ⟨gn, 0, none⟩ = some (.int .i64 v)) : leftM m gn w = ((m : Int) - v).toNat := by unfold leftM; rw [h]; rfl
/-- The block of a node. -/
def NB (w : World) (g : Nat) (n : Nd) : Prop := Blk w g 42 #[.int .i64 n.1, .int .i64 n.2.1, .int .i64 n.2.2.1, .string ⟨n.2.2.2.toArray⟩]

set_option maxHeartbeats 4000000 in
set_option maxRecDepth 100000 in
theorem at_any {W : World} {v : Value} {m x : Nat} {l : List Nd} (h : Dg W v m l) (hw : WF m l) (h0 : 0 < l.length) (hl : l.length ≤ 100000) (hm6 : m ≤ 6) (hx : x < 64) :
    Calls Tryz.prog 44 #[v, .int .i64 (x : Int)] W (RetV W (.string ⟨(evD m l x).toArray⟩)) := by
  obtain ⟨s, rfl, hs⟩ := h
  rcases hs with ⟨rfl, _⟩ | ⟨g, c, rfl, h1, h2, h3, h4⟩
  · simp at h0
  obtain ⟨N, hN⟩ : ∃ N, l.length = N + 1 := ⟨l.length - 1, by omega⟩
  obtain ⟨RES, hRES⟩ : ∃ R, R = evD m l x := ⟨_, rfl⟩
  have HEV := Lib.hid (show evN m l m N x = RES from by rw [hRES]; unfold evD; rw [hN]; rfl)
  have HND := Lib.hid (fun (i : Nat) (hi : i < l.length) (n : Nd) (hn : l.getD i nd0 = n) (V : World) (hV : Below W.heap.size W V) => show NdAt V g (i * 4) n from by rw [← hn]; exact (h4 i hi).keep (hV.block g (h4 i hi).lt))
  rw [← hRES]
  obtain ⟨n0, hn0⟩ : ∃ n0, l.getD N nd0 = n0 := ⟨_, rfl⟩
  have HROOT := Lib.hid hn0
  obtain ⟨W1, hW1, hB1, hs1, j1⟩ := entA W 31 #[.int .i64 (m : Int), .slice (some ⟨g, 0, none⟩) l.length c]
  obtain ⟨W2, hW2, hB2, hs2, j2⟩ := entA W1 42 #[.int .i64 n0.1, .int .i64 n0.2.1, .int .i64 n0.2.2.1, .string ⟨n0.2.2.2.toArray⟩]
  obtain ⟨x0, x1, x2, x3⟩ := HND.out N (by omega) n0 hn0 W1 hB1
  have HW1 := Lib.hid hW1
  have HW2 := Lib.hid hW2
  rw [hN] at h1 j1 HW1
  have J1 := Lib.hid (j1.next hB2)
  have J2 := Lib.hid (show NB W2 W1.heap.size n0 from j2)
  have HB := Lib.hid (hB1.trans (hB2.mono hB1.size))
  have d0 : W1.cell? ⟨W.heap.size, 0, none⟩ = some (.int .i64 (m : Int)) := j1.cell 0
  have d1 : W1.cell? ⟨W.heap.size, 1, none⟩ = some (.slice (some ⟨g, 0, none⟩) (N + 1) c) := j1.cell 1
  have HS := Lib.hid hs1
  unfold maxLen at h2
  have HN := Lib.hid hN
  have HWF := Lib.hid hw
  have HL := Lib.hid (show N ≤ 100000 by omega)
  have hN5 : N ≤ 100000 := by omega
  rw [hN]
  clear hW1 hW2 hs1 hs2 j1 j2 h4 hw hN hB1 hB2 hn0 hRES h0 hl h3
  go_enter Tryz.func44, Tryz.ntmps44
  go_upto_region 1 with fail
  rw [← HW1.out]
  go_upto_region 2 with fail
  rw [← HW2.out]
  clear d0 d1 x0 x1 x2 x3 HW1 HW2
  generalize hGN : W1.heap.size = gn at *
  generalize hGD : W.heap.size = gd at *
  have HGN := Lib.hid hGN
  have HGD := Lib.hid hGD
  clear hGN hGD
  go_loopw [] (fun wr => ∃ i k : Nat, i ≤ N ∧ Hid (NB wr gn (l.getD i nd0)) ∧ Hid (evN m l k i x = RES) ∧ Hid ((m : Int) - (l.getD i nd0).1 ≤ k) ∧ Hid (Blk wr gd 31 #[.int .i64 (m : Int), .slice (some ⟨g, 0, none⟩) (N + 1) c]) ∧ Hid (Below gd W wr)) (fun wr => leftM m gn wr)
  case atStart =>
    refine ⟨N, m, Nat.le_refl _, by rw [HROOT.out]; exact J2, HEV, ?_, J1, HB⟩
    have := wf_hi HWF.out (i := N) (by have := HN.out; omega)
    exact Lib.hid (by omega)
  case round =>
    clear J1 J2 HB HEV HROOT
    obtain ⟨i, k, hi, hNB, hEV, hK, hD, hB⟩ := hrel
    have hil : i < l.length := by have := HN.out; omega
    obtain ⟨n, hn⟩ : ∃ n, l.getD i nd0 = n := ⟨_, rfl⟩
    rw [hn] at hNB hK
    have HIL := Lib.hid hil
    have HNE := Lib.hid hn
    have e0 : wr.cell? ⟨gn, 0, none⟩ = some (.int .i64 n.1) := hNB.out.cell 0
    have e1 : wr.cell? ⟨gn, 1, none⟩ = some (.int .i64 n.2.1) := hNB.out.cell 1
    have e2 : wr.cell? ⟨gn, 2, none⟩ = some (.int .i64 n.2.2.1) := hNB.out.cell 2
    have e3 : wr.cell? ⟨gn, 3, none⟩ = some (.string ⟨n.2.2.2.toArray⟩) := hNB.out.cell 3
    have d0 : wr.cell? ⟨gd, 0, none⟩ = some (.int .i64 (m : Int)) := hD.out.cell 0
    have d1 : wr.cell? ⟨gd, 1, none⟩ = some (.slice (some ⟨g, 0, none⟩) (N + 1) c) := hD.out.cell 1
    clear hn hil
    by_cases hlt : n.1 < (m : Int)
    · rcases HWF.out i HIL.out with hl | ⟨v, lo, hi2, e, g1, g2, g3, g4, g5, g6⟩
      · rw [HNE.out] at hl; have := hl.1; omega
      · have hne : n = ((v : Int), (lo : Int), (hi2 : Int), []) := HNE.out.symm.trans e
        subst hne
        simp only at e0 e1 e2 e3 hlt hK
        have hk1 : 1 ≤ k := by have := hK.out; omega
        obtain ⟨k', rfl⟩ : ∃ k', k = k' + 1 := ⟨k - 1, by omega⟩
        have hstep : evN m l k' (if x.testBit v then hi2 else lo) x = RES := by
          rw [← hEV.out, evN, e]
          simp only
          rw [if_pos (show (v : Int) < (m : Int) by omega), Int.toNat_natCast]
          congr 1
        have hv6 : v < 6 := by omega
        have hand : bits BinOp.and IntKind.i64 ((x : Int) / 2 ^ v) 1 = ((if x.testBit v then 1 else 0 : Nat) : Int) := by
          rw [shr_cast, and_one6 _ (Nat.lt_of_le_of_lt (Nat.div_le_self _ _) hx), bit_of]
        obtain ⟨f0, f1, f2, f3⟩ := hNB.out.fr4
        have hgn : gd ≠ gn := by
          intro e; have h1 := hD.out; have h2 := hNB.out
          rw [e] at h1; unfold NB Blk at h2; unfold Blk at h1; rw [h1] at h2; injection h2 with h2; injection h2 with h3 h4; exact absurd h4 (by decide)
        have hgB : gd ≤ gn := by have := HS.out; have := HGN.out; omega
        have HGB := Lib.hid hgB
        have HG := Lib.hid hgn
        have ST := Lib.hid hstep
        have HEE := Lib.hid e
        have G5 := Lib.hid g5
        have G6 := Lib.hid g6
        have hl1 : lo ≤ N := by omega
        have hl2 : hi2 ≤ N := by omega
        clear hstep hgn hgB e g5 g6 g2 hEV HNE HIL
        cases hb : x.testBit v with
        | false =>
          rw [hb] at hand ST
          obtain ⟨nn, hnn⟩ : ∃ nn, l.getD lo nd0 = nn := ⟨_, rfl⟩
          obtain ⟨y0, y1, y2, y3⟩ := HND.out lo (by have := HN.out; omega) nn hnn wr hB.out
          have NN := Lib.hid hnn
          clear hb hnn
          go_wp2
          go_roundw
          case rel => exact ⟨lo, k', hl1, Lib.hid (by rw [NN.out]; exact hNB.out.four _ _ _ _), ST, Lib.hid (by have := hK.out; have := G5.out; omega), Lib.hid ((((hD.out.away HG.out _).away HG.out _).away HG.out _).away HG.out _), Lib.hid (below_four hB.out HGB.out _ _ _ _)⟩
          case measure =>
            rw [leftM_is (v := (v : Int)) e0, leftM_is (v := nn.1) ((hNB.out.four _ _ _ _).cell 0)]
            have h1 := G5.out
            rw [NN.out] at h1
            omega
        | true =>
          rw [hb] at hand ST
          obtain ⟨nn, hnn⟩ : ∃ nn, l.getD hi2 nd0 = nn := ⟨_, rfl⟩
          obtain ⟨y0, y1, y2, y3⟩ := HND.out hi2 (by have := HN.out; omega) nn hnn wr hB.out
          have NN := Lib.hid hnn
          clear hb hnn
          go_wp2
          go_roundw
          case rel => exact ⟨hi2, k', hl2, Lib.hid (by rw [NN.out]; exact hNB.out.four _ _ _ _), ST, Lib.hid (by have := hK.out; have := G6.out; omega), Lib.hid ((((hD.out.away HG.out _).away HG.out _).away HG.out _).away HG.out _), Lib.hid (below_four hB.out HGB.out _ _ _ _)⟩
          case measure =>
            rw [leftM_is (v := (v : Int)) e0, leftM_is (v := nn.1) ((hNB.out.four _ _ _ _).cell 0)]
            have h1 := G6.out
            rw [NN.out] at h1
            omega
    · have hRT := Lib.hid (show n.2.2.2 = RES from by
        rw [← hEV.out]
        cases k with
        | zero => rw [evN, HNE.out]
        | succ k => rw [evN, HNE.out]; rw [if_neg hlt])
      go_wp2
      go_ret
      rw [hRT.out]
      exact ⟨rfl, by rw [HGD.out]; exact hB.out⟩
end Go.Proofs.YtpmlmibceiolpaaGreatDoor
