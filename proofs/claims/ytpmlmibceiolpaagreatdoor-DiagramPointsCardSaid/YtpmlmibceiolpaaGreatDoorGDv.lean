/- Contracts of Apply, Sum, Fix, Eval, Check, Same, With over diagrams of computed numbers. -/
import Derived.Test.YtpmlmibceiolpaaGreatDoorGRMade
set_option linter.unusedSimpArgs false
set_option linter.unusedVariables false
namespace Go.Proofs.YtpmlmibceiolpaaGreatDoor
open Go.RowKit

/-- A value that holds the diagram of a function. -/
structure DV (w : World) (n : Nat) (h : Nat → Rat) (k : Nat) (a : Option Addr) (c : Nat) (L : List Nd) : Prop where
  nds : Nds w (.slice a L.length c) L
  vl : Vl h n k
  is : L = dgV h n
theorem DV.below {w w' : World} {n k c : Nat} {h : Nat → Rat} {a : Option Addr} {L : List Nd} (D : DV w n h k a c L) (hb : Below w.heap.size w w') : DV w' n h k a c L := ⟨D.nds.below hb, D.vl, D.is⟩
theorem DV.in_ {w : World} {n k c : Nat} {h : Nat → Rat} {a : Option Addr} {L : List Nd} (D : DV w n h k a c L) : DgIn w (.agg #[.int .i64 (n : Int), .slice a L.length c]) n L :=
  dgIn_of D.nds (by have := D.vl.size; rw [D.is]; omega) (by rw [D.is]; exact D.vl.leaf)
theorem DV.few {w : World} {n k c : Nat} {h : Nat → Rat} {a : Option Addr} {L : List Nd} (D : DV w n h k a c L) : L.length ≤ 127 := by rw [D.is]; exact D.vl.size
/-- A diagram and no error. -/
def RetI (W : World) (n : Nat) (h : Nat → Rat) (k : Nat) (e : Ending) (W' : World) : Prop := ∃ a c L, e = .returned (.tuple #[.agg #[.int .i64 (n : Int), .slice a L.length c], .int .i64 0]) ∧ DV W' n h k a c L ∧ Below W.heap.size W W'
/-- A diagram. -/
def RetJ (W : World) (n : Nat) (h : Nat → Rat) (k : Nat) (e : Ending) (W' : World) : Prop := ∃ a c L, e = .returned (.agg #[.int .i64 (n : Int), .slice a L.length c]) ∧ DV W' n h k a c L ∧ Below W.heap.size W W'
theorem retI_of {W : World} {n k : Nat} {h : Nat → Rat} {r : Int × List Nd × Int} (hr : r = ((n : Int), dgV h n, 0)) (H : Vl h n k) {e : Ending} {W' : World} (he : RetDg W r e W') : RetI W n h k e W' := by
  subst hr
  obtain ⟨a, c, h1, h2, h3⟩ := he
  exact ⟨a, c, _, h1, ⟨h2, H, rfl⟩, h3⟩
theorem apply_dv {W : World} {n j k c c' : Nat} {h g : Nat → Rat} {a a' : Option Addr} {L L' : List Nd} {op : Int} (D : DV W n h j a c L) (D' : DV W n g k a' c' L') (h1 : 1 ≤ op) (h5 : op ≤ 5) (hk : j + k + 1 ≤ 900) (hg : Good W) :
    Calls Tryz.prog 18 #[.int .i64 op, .agg #[.int .i64 (n : Int), .slice a L.length c], .agg #[.int .i64 (n : Int), .slice a' L'.length c']] W (RetI W n (opF op h g) (j + k + 1)) :=
  (apply_any D.in_ D'.in_ hg).mono fun e W' he => retI_of (by rw [D.is, D'.is]; exact applyR_v D.vl D'.vl h1 h5 hk) (D.vl.op op D'.vl hk) he
theorem sum_dv {W : World} {n k c v : Nat} {h : Nat → Rat} {a : Option Addr} {L : List Nd} (D : DV W n h k a c L) (hv : v < n) (hk : k + k + 1 ≤ 900) (hg : Good W) :
    Calls Tryz.prog 19 #[.agg #[.int .i64 (n : Int), .slice a L.length c], .int .i64 (v : Int)] W (RetI W n (sumF v h) (k + k + 1)) :=
  (sum_any D.in_ hg).mono fun e W' he => retI_of (by rw [D.is]; exact sumR_v D.vl hv hk) (D.vl.sum hv hk) he
theorem fix_dv {W : World} {n k c v b : Nat} {h : Nat → Rat} {a : Option Addr} {L : List Nd} (D : DV W n h k a c L) (hv : v < n) (hb : b ≤ 1) (hg : Good W) :
    Calls Tryz.prog 20 #[.agg #[.int .i64 (n : Int), .slice a L.length c], .int .i64 (v : Int), .int .i64 (b : Int)] W (RetI W n (fixF v b h) k) :=
  (fix_any D.in_ hg).mono fun e W' he => retI_of (by rw [D.is]; exact fixR_v D.vl hv hb) (D.vl.fix hv hb) he
theorem check_dv {W : World} {n k c : Nat} {h : Nat → Rat} {a : Option Addr} {L : List Nd} (D : DV W n h k a c L) (hg : Good W) :
    Calls Tryz.prog 14 #[.agg #[.int .i64 (n : Int), .slice a L.length c]] W (RetV W (.int .i64 0)) := by
  have h1 := dgcheck_any D.in_ hg
  rw [D.is, D.vl.vld] at h1
  rw [D.is]
  exact h1
theorem same_dv {W : World} {n j k c c' : Nat} {h g : Nat → Rat} {a a' : Option Addr} {L L' : List Nd} (D : DV W n h j a c L) (D' : DV W n g k a' c' L') (he : dgV h n = dgV g n) :
    Calls Tryz.prog 15 #[.agg #[.int .i64 (n : Int), .slice a L.length c], .agg #[.int .i64 (n : Int), .slice a' L'.length c']] W (RetV W (.bool true)) := by
  have h1 := rsame_any D.in_.dg D'.in_.dg D.in_.few D'.in_.few
  rwa [show decide ((n : Int) = (n : Int) ∧ L = L') = true from decide_eq_true ⟨rfl, by rw [D.is, D'.is, he]⟩] at h1
theorem with_dv {W : World} {v : Value} {vr kd n : Nat} {zs : List Nat} (h : Dft W v vr kd zs) (hn : n ≤ 6) : Calls Tryz.prog 17 #[v, .int .i64 (n : Int)] W (RetJ W n (dtV kd zs) 4) :=
  (with_any h hn).mono fun e W' ⟨a, c, h1, h2, h3⟩ => ⟨a, c, _, h1, ⟨h2, dtV_vl kd n zs hn, rfl⟩, h3⟩
theorem eval_dv {W : World} {n k c x : Nat} {h : Nat → Rat} {a : Option Addr} {L : List Nd} (D : DV W n h k a c L) (hx : x < 2 ^ n) (hg : Good W) :
    Calls Tryz.prog 24 #[.agg #[.int .i64 (n : Int), .slice a L.length c], .int .u64 (x : Int)] W (RetV W (.tuple #[.string ⟨(ratText (h x)).toArray⟩, .int .i64 0])) := by
  have hp := pow6 D.vl.n6
  have h1 := eval_any (x := x) D.in_ (by omega) hg
  have e : evalR (n : Int) L x = (ratText (h x), 0) := by
    unfold evalR
    rw [D.is, D.vl.vld, if_pos rfl, Int.toNat_natCast, if_pos (Nat.div_eq_of_lt hx), D.vl.evD hx]
  rw [e] at h1
  exact h1
end Go.Proofs.YtpmlmibceiolpaaGreatDoor
