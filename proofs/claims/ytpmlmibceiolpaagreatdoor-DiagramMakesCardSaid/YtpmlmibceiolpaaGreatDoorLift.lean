/- The contract of limbs.scaled: a magnitude times a limb, in a new row. -/
import Derived.Test.YtpmlmibceiolpaaGreatDoorAdd
import Derived.Test.YtpmlmibceiolpaaGreatDoorValue
import Derived.OrdersHeld
set_option linter.unusedSimpArgs false
set_option linter.unusedVariables false
namespace Go.Proofs.YtpmlmibceiolpaaGreatDoor
open Go.RowKit

/-- The relation of the loop of scaled. -/
def ScaledRel (m : List Nat) (by_ k c : Nat) (xs : List Nat) : Prop :=
  xs.length = k ∧ Ok xs ∧ c < 1000000000 ∧ val xs + 1000000000 ^ k * c = val (m.take k) * by_

theorem ScaledRel.start (m : List Nat) (b : Nat) : ScaledRel m b 0 0 [] := ⟨rfl, Ok.nil, by omega, by simp [val]⟩

theorem ScaledRel.step {m : List Nat} {b k c : Nat} {xs : List Nat} (h : ScaledRel m b k c xs) {n : Nat} (hn : n = m.getD k 0 * b + c) (hd : n / 1000000000 < 1000000000) :
    ScaledRel m b (k + 1) (n / 1000000000) (xs ++ [n % 1000000000]) := by
  obtain ⟨h1, h2, h3, h4⟩ := h
  refine ⟨by simp [h1], h2.append (Ok.cons (Nat.mod_lt _ (by omega)) Ok.nil), hd, ?_⟩
  rw [val_snoc, h1, val_take_succ, Nat.pow_succ, Nat.add_mul, ← h4]
  have e : n % 1000000000 + 1000000000 * (n / 1000000000) = n := Nat.mod_add_div n 1000000000
  have e2 : 1000000000 ^ k * (n % 1000000000) + 1000000000 ^ k * 1000000000 * (n / 1000000000) = 1000000000 ^ k * n := by
    rw [Nat.mul_assoc, ← Nat.mul_add, e]
  have e3 : 1000000000 ^ k * n = 1000000000 ^ k * m.getD k 0 * b + 1000000000 ^ k * c := by rw [hn, Nat.mul_add, Nat.mul_assoc]
  omega

theorem mul_limb {x y : Nat} (hx : x < 1000000000) (hy : y ≤ 1000000000) : x * y ≤ 999999999000000000 := by
  have := Nat.mul_le_mul (show x ≤ 999999999 by omega) hy
  omega

/-- What scaled hands back: a row of its own, one limb longer. -/
def RetS (w : World) (n v : Nat) (e : Ending) (w' : World) : Prop :=
  ∃ xs : List Nat, e = .returned (.slice (some ⟨w.heap.size, 0, none⟩) (n + 1 : Nat) (n + 1 : Nat)) ∧ Row w' w.heap.size (.slice (some ⟨w.heap.size, 0, none⟩) (n + 1 : Nat) (n + 1 : Nat)) xs ∧ xs.length = n + 1 ∧ Ok xs ∧ val xs = v ∧ Below w.heap.size w w'

set_option maxHeartbeats 1000000 in
set_option maxRecDepth 100000 in
theorem scaled_any {w : World} {v1 : Value} {l1 : List Nat} (h1 : Lim w v1 l1) (o1 : Ok l1) (q : Nat) (hq : q < 1000000000) (hsz : l1.length ≤ 1073741824) :
    Calls Tryz.prog 157 #[v1, .int .u32 q] w (RetS w l1.length (val l1 * q)) := by
  obtain ⟨i0, hi, hz0, hz1, hz2⟩ := info_parts info32
  obtain ⟨a1, c1, rfl, hc1, hm1, h1⟩ := h1
  unfold maxLen at hm1
  generalize hn1 : l1.length = n1 at *
  have HN1 := Lib.hid hn1
  clear hn1
  go_enter Tryz.func157, Tryz.ntmps157
  go_wp2_with (at_make; refine wpList_make_own _ rfl _ _ 84 rfl w.heap.size 143 i0 (.int .u32 0) 1 Tryz.underlying84 hi hz0 hz1 _ _ _ (n1 + 1) rfl rfl (by omega) (by rw [hz2]; omega) (by unfold maxLen; omega) (Nat.le_refl _) ?_; intro w0 hown0 hgrow0)
  go_loopw [5, 6, 16] (fun out c i wr => ∃ (k cc : Nat) (xs : List Nat), k ≤ n1 ∧ i = .int .i64 k ∧ out = .slice (some ⟨w.heap.size, 0, none⟩) k (n1 + 1) ∧ c = .int .u64 cc ∧ ScaledRel l1 q k cc xs ∧ Row wr w.heap.size out xs ∧ Below w.heap.size w wr)
      (fun _ _ i _ => n1 - (intOf i).toNat)
  case atStart => exact ⟨0, 0, [], Nat.zero_le _, rfl, rfl, rfl, ScaledRel.start _ _, hown0, (Below.refl _ _).grown hgrow0 (Nat.le_refl _) (fun k h => by cases h)⟩
  case round =>
    obtain ⟨k, cc, xs, hk, rfl, rfl, rfl, hP, hrow, hB⟩ := hrel
    have hcc : cc < 1000000000 := hP.2.2.1
    have HX := Lib.hid hP.1
    have hown : wr.ownsRow w.heap.size 143 1 (.slice (some ⟨w.heap.size, 0, none⟩) k (n1 + 1)) k (xs.map fun (x : Nat) => Value.int .u32 x) := by have h := hrow; unfold Row at h; rwa [HX.out] at h
    have hsz1 := hB.size
    by_cases hlt : k < n1
    · rcases h1 with h1 | ⟨b1, p1, rfl, hc⟩
      · exfalso; have := HN1.out; rw [h1] at this; simp at this; omega
      have hb1 := hc.lt
      have g1 : wr.cell? ⟨b1, p1 + k, none⟩ = some (.int .u32 (l1.getD k 0)) := (hB.cell (p := ⟨b1, p1 + k, none⟩) hb1).trans (hc.2 k (by have := HN1.out; omega))
      have hx := o1.getD k
      have hst := fun n hn => hP.step (n := n) hn
      generalize hxe : l1.getD k 0 = x at g1 hx hst
      have HST := Lib.hid hst
      clear hxe hst
      have hxq := mul_limb hx (Nat.le_of_lt hq)
      have hxz : (x : Int) * (q : Int) = ((x * q : Nat) : Int) := by simp
      have HXZ := Lib.hid hxz
      have b1 : 0 ≤ (x : Int) * (q : Int) := by omega
      have b2 : (x : Int) * (q : Int) ≤ 999999999000000000 := by omega
      clear hxz
      go_wp2_with (at_builtin; refine wpList_append_fits _ rfl (.tmp 27) (.tmp 31) 84 rfl w.heap.size 143 i0 1 Tryz.underlying84 hi hz1 w.heap.size k (n1 + 1) _ rfl (hown.alloc _) ⟨wr.heap.size, 0, none⟩ 1 1 [.int .u32 (((x : Int) * q + cc) % 1000000000)] rfl rfl (cell_new_u32 _ _ _) (by intro u hu; simp at hu; subst hu; rfl) (by omega) ?_; intro w1 hown1 hgrow1)
      go_roundw
      case rel => exact ⟨k + 1, (x * q + cc) / 1000000000, xs ++ [(x * q + cc) % 1000000000], by omega, by go_num, by go_num, by go_num, HST.out _ rfl (by omega), Row.snoc (by rw [HX.out]; exact hown1) (by have := HXZ.out; omega), (hB.alloc hsz1 _).grown hgrow1 (by simp; omega) (fun k h => by cases h; exact Nat.le_refl _)⟩
      case measure => simp [intOf]; omega
    · obtain rfl : k = n1 := by omega
      have hfin := hP.2.2.2
      rw [List.take_of_length_le (by have := HN1.out; omega)] at hfin
      have HF := Lib.hid hfin
      have HP := Lib.hid hP
      clear hfin hP
      go_wp2_with (at_builtin; refine wpList_append_fits _ rfl (.tmp 36) (.tmp 39) 84 rfl w.heap.size 143 i0 1 Tryz.underlying84 hi hz1 w.heap.size k (k + 1) _ rfl (hown.alloc _) ⟨wr.heap.size, 0, none⟩ 1 1 [.int .u32 cc] rfl rfl (cell_new_u32 _ _ _) (by intro u hu; simp at hu; subst hu; rfl) (by omega) ?_; intro w1 hown1 hgrow1)
      go_ret
      have hrow1 : Row w1 w.heap.size (.slice (some ⟨w.heap.size, 0, none⟩) (k + 1) (k + 1)) (xs ++ [cc]) := Row.snoc (by rw [HX.out]; exact hown1) rfl
      refine ⟨xs ++ [cc], rfl, hrow1, by simp [HX.out], HP.out.2.1.append (Ok.cons hcc Ok.nil), ?_, (hB.alloc hsz1 _).grown hgrow1 (by simp; omega) (fun k h => by cases h; exact Nat.le_refl _)⟩
      rw [val_snoc, HX.out]
      exact HF.out

end Go.Proofs.YtpmlmibceiolpaaGreatDoor

/- The contracts of limbs.lose, limbs.gain: what they do to a row in place. -/
set_option linter.unusedSimpArgs false
set_option linter.unusedVariables false
namespace Go.Proofs.YtpmlmibceiolpaaGreatDoor
open Go.RowKit

/-- A row of limbs, as cells. -/
def arr (A : List Nat) : Array Value := (A.map fun (x : Nat) => Value.int .u32 x).toArray
theorem arr_set (A : List Nat) (j x : Nat) : (arr A).setIfInBounds j (.int .u32 x) = arr (A.set j x) := by simp [arr]
theorem arr_get {A : List Nat} {j : Nat} (h : j < A.length) : (arr A)[j]? = some (.int .u32 (A.getD j 0 : Nat)) := by simp [arr, List.getD, List.getElem?_eq_getElem h]

theorem Blk.at_ {w : World} {g : Nat} {A : List Nat} (h : Blk w g 143 (arr A)) {j : Nat} (hj : j < A.length) : w.cell? ⟨g, j, none⟩ = some (.int .u32 (A.getD j 0 : Nat)) := (h.cell j).trans (arr_get hj)
theorem Blk.put {w : World} {g : Nat} {A : List Nat} (h : Blk w g 143 (arr A)) (j x : Nat) {z : Int} (hz : z = (x : Int)) : Blk (w.setCell ⟨g, j, none⟩ (.int .u32 z)) g 143 (arr (A.set j x)) := by
  subst hz
  have := h.set_ j (.int .u32 x)
  rwa [arr_set] at this

theorem grown_set {w wr : World} {g : Nat} (h : w.grownBy wr (some g)) (j : Nat) (u : Value) : w.grownBy (wr.setCell ⟨g, j, none⟩ u) (some g) :=
  ⟨h.os, h.tape, h.output, by simpa [World.setCell] using h.size, fun i hi hne => (Below.heap_setCell wr ⟨g, j, none⟩ u i (by rintro rfl; exact hne rfl)).trans (h.block i hi hne)⟩

theorem grown_cell {w wr : World} {g : Nat} (h : w.grownBy wr (some g)) {b o : Nat} (hb : b < w.heap.size) (hne : b ≠ g) : wr.cell? ⟨b, o, none⟩ = w.cell? ⟨b, o, none⟩ :=
  World.cell?_of_block (w := w) (h.block b hb (by simpa using hne))

/-- Where the limbs from i on are written, limb by limb. -/
def Upto (A A' : List Nat) (i k : Nat) : Prop := A'.length = A.length ∧ A'.take i = A.take i ∧ A'.drop (i + k) = A.drop (i + k) ∧ Ok A'

theorem Upto.start {A : List Nat} (h : Ok A) (i : Nat) : Upto A A i 0 := ⟨rfl, rfl, rfl, h⟩
theorem Upto.get {A A' : List Nat} {i k j : Nat} (h : Upto A A' i k) (hj : i + k ≤ j) : A'.getD j 0 = A.getD j 0 := by
  have h1 := congrArg (fun l => l.getD (j - (i + k)) 0) h.2.2.1
  simp only [List.getD, List.getElem?_drop] at h1
  rw [show i + k + (j - (i + k)) = j by omega] at h1
  exact h1
theorem Upto.step {A A' : List Nat} {i k : Nat} (h : Upto A A' i k) (x : Nat) (hx : x < 1000000000) : Upto A (A'.set (i + k) x) i (k + 1) := by
  obtain ⟨h1, h2, h3, h4⟩ := h
  refine ⟨by simp [h1], ?_, ?_, h4.set _ _ hx⟩
  · rw [List.take_set_of_le (by omega), h2]
  · rw [List.drop_set_of_lt (by omega)]
    have := congrArg (List.drop 1) h3
    rwa [List.drop_drop, List.drop_drop] at this

/-- The limbs that were written. -/
def win (A : List Nat) (i k : Nat) : List Nat := (A.drop i).take k
theorem win_length {A : List Nat} {i k : Nat} (h : i + k ≤ A.length) : (win A i k).length = k := by simp [win]; omega
theorem win_succ (A : List Nat) (i k : Nat) : val (win A i (k + 1)) = val (win A i k) + 1000000000 ^ k * A.getD (i + k) 0 := by
  unfold win
  rw [val_take_succ]
  simp [List.getD, List.getElem?_drop]
theorem win_set {A : List Nat} {i k x : Nat} (h : i + k < A.length) : val (win (A.set (i + k) x) i (k + 1)) = val (win A i k) + 1000000000 ^ k * x := by
  rw [win_succ]
  congr 2
  · unfold win
    rw [List.take_drop, List.take_drop, List.take_set_of_le (by omega)]
  · simp [List.getD, List.getElem?_set, h]

/-- lose: k limbs are written. -/
def LoseRel (A : List Nat) (i : Nat) (o : List Nat) (q k : Nat) (A' : List Nat) (c b : Nat) : Prop :=
  Upto A A' i k ∧ c < 1000000000 ∧ b ≤ 1 ∧ val (win A' i k) + q * val (o.take k) = val (win A i k) + 1000000000 ^ k * (c + b)

theorem LoseRel.start {A : List Nat} (h : Ok A) (i : Nat) (o : List Nat) (q : Nat) : LoseRel A i o q 0 A 0 0 := ⟨Upto.start h i, by omega, by omega, by simp [win, val]⟩

theorem LoseRel.step {A : List Nat} {i : Nat} {o : List Nat} {q k : Nat} {A' : List Nat} {c b : Nat} (h : LoseRel A i o q k A' c b) (hk : i + k < A.length) {n d b' : Nat} (hn : n = c + q * o.getD k 0) (hc : n / 1000000000 < 1000000000)
    (hd : d + n % 1000000000 + b = A.getD (i + k) 0 + 1000000000 * b') (hd1 : d < 1000000000) (hb : b' ≤ 1) : LoseRel A i o q (k + 1) (A'.set (i + k) d) (n / 1000000000) b' := by
  obtain ⟨h1, h2, h3, h4⟩ := h
  refine ⟨h1.step d hd1, hc, hb, ?_⟩
  rw [win_set (by rw [h1.1]; exact hk), win_succ, val_take_succ, Nat.mul_add, Nat.pow_succ]
  have e1 : 1000000000 ^ k * (d + n % 1000000000 + b) = 1000000000 ^ k * (A.getD (i + k) 0 + 1000000000 * b') := by rw [hd]
  have e2 : 1000000000 ^ k * (n % 1000000000 + 1000000000 * (n / 1000000000)) = 1000000000 ^ k * (c + q * o.getD k 0) := by rw [Nat.mod_add_div, hn]
  have e3 : q * (1000000000 ^ k * o.getD k 0) = 1000000000 ^ k * (q * o.getD k 0) := by rw [← Nat.mul_assoc, ← Nat.mul_assoc, Nat.mul_comm q]
  have e4 : 1000000000 ^ k * 1000000000 * (n / 1000000000 + b') = 1000000000 ^ k * (1000000000 * (n / 1000000000)) + 1000000000 ^ k * (1000000000 * b') := by rw [Nat.mul_assoc, Nat.mul_add 1000000000, Nat.mul_add]
  rw [e3, e4]
  simp only [Nat.mul_add] at e1 e2 h4 ⊢
  omega

/-- What lose leaves: the row, and whether it became negative. -/
def LosePost (w : World) (g : Nat) (A : List Nat) (i : Nat) (o : List Nat) (q : Nat) (e : Ending) (w' : World) : Prop :=
  ∃ A' b, e = .returned (.bool (decide (0 < b))) ∧ Blk w' g 143 (arr A') ∧ w.grownBy w' (some g) ∧ Upto A A' i (o.length + 1) ∧ b ≤ 1 ∧ val (win A' i (o.length + 1)) + q * val o = val (win A i (o.length + 1)) + 1000000000 ^ (o.length + 1) * b

set_option maxHeartbeats 1000000 in
set_option maxRecDepth 100000 in
theorem lose_any {w : World} {g i : Nat} {A : List Nat} {v2 : Value} {o : List Nat} (q cap : Nat) (hg : Blk w g 143 (arr A)) (hA : Ok A) (h2 : Lim w v2 o) (hne : ∀ b' o' c', v2 = .slice (some ⟨b', o', none⟩) o.length c' → 0 < o.length → b' ≠ g) (o2 : Ok o) (hq : q < 1000000000) (hi : i + o.length + 1 ≤ A.length) (hsz : A.length ≤ 2147483648) :
    Calls Tryz.prog 158 #[.slice (some ⟨g, i, none⟩) (A.length - i : Nat) cap, v2, .int .u64 q] w (LosePost w g A i o q) := by
  obtain ⟨a2, c2, rfl, hc2, hm2, h2⟩ := h2
  unfold maxLen at hm2
  generalize hn2 : o.length = n2 at *
  have HN2 := Lib.hid hn2
  clear hn2
  generalize hnA : A.length = N at *
  have HNA := Lib.hid hnA
  clear hnA
  have hle : ((N - i : Nat) : Int) = (N : Int) - i := by omega
  generalize N - i = L at *
  have hL : (n2 : Int) + 1 ≤ (L : Int) := by omega
  clear hle
  go_enter Tryz.func158, Tryz.ntmps158
  go_wp2
  go_loopw [7, 8, 15] (fun c b ix wr => ∃ (k cc bb : Nat) (A' : List Nat), k ≤ n2 + 1 ∧ ix = .int .i64 k ∧ c = .int .u64 cc ∧ b = .int .i64 bb ∧ LoseRel A i o q k A' cc bb ∧ Blk wr g 143 (arr A') ∧ w.grownBy wr (some g) ∧ (n2 < k → cc = 0))
      (fun _ _ ix _ => n2 + 1 - (intOf ix).toNat)
  case atStart => exact ⟨0, 0, 0, A, Nat.zero_le _, rfl, rfl, rfl, LoseRel.start hA i o q, hg, World.grownBy.refl _ _, fun h => absurd h (by omega)⟩
  case round =>
    obtain ⟨k, cc, bb, A', hk, rfl, rfl, rfl, hP, hbl, hgr, hc0⟩ := hrel
    have HC0 := Lib.hid hc0
    clear hc0
    have hcc : cc < 1000000000 := hP.2.1
    have hbb : bb ≤ 1 := hP.2.2.1
    by_cases hlt : k < n2 + 1
    · have hkL : (k : Int) < (L : Int) := by omega
      have hlA : i + k < A'.length := by rw [hP.1.1, HNA.out]; omega
      have g0 : wr.cell? ⟨g, i + k, none⟩ = some (.int .u32 (A.getD (i + k) 0 : Nat)) := by rw [← hP.1.get (Nat.le_refl _)]; exact hbl.at_ hlA
      have f0 := hbl.frozen (i + k)
      have hx := hA.getD (i + k)
      have hst := fun n d b' hn hc' hd => hP.step (n := n) (d := d) (b' := b') (by rw [HNA.out]; omega) hn hc' hd
      generalize hxe : A.getD (i + k) 0 = x at g0 hx hst
      have hy := o2.getD k
      generalize hye : o.getD k 0 = y at hy hst
      have HYE := Lib.hid hye
      have HST := Lib.hid hst
      clear hxe hye hst
      have hxq := mul_limb hy (Nat.le_of_lt hq)
      rw [Nat.mul_comm] at hxq
      have hxz : (q : Int) * (y : Int) = ((q * y : Nat) : Int) := by simp
      have HXZ := Lib.hid hxz
      have b1 : 0 ≤ (q : Int) * (y : Int) := by omega
      have b2 : (q : Int) * (y : Int) ≤ 999999999000000000 := by omega
      clear hxz
      by_cases hlt2 : k < n2
      · rcases h2 with h2 | ⟨b2, p2, rfl, hc'⟩
        · exfalso; have := HN2.out; rw [h2] at this; simp at this; omega
        have hbg : b2 ≠ g := hne b2 p2 c2 rfl (by omega)
        have g2 : wr.cell? ⟨b2, p2 + k, none⟩ = some (.int .u32 (o.getD k 0)) := (grown_cell hgr hc'.lt hbg).trans (hc'.2 k (by have := HN2.out; omega))
        rw [HYE.out] at g2
        clear hc' hne
        by_cases hneg : (x : Int) - ((cc : Int) + q * y) % 1000000000 - bb < 0
        · go_wp2
          go_roundw
          case rel => exact ⟨k + 1, (cc + q * y) / 1000000000, 1, A'.set (i + k) (x + 1000000000 - (cc + q * y) % 1000000000 - bb), by omega, by go_num, by go_num, by go_num, HST.out _ _ _ rfl (by omega) (by omega) (by omega) (by omega), hbl.put _ _ (by have := HXZ.out; omega), grown_set hgr _ _, fun h => absurd h (by omega)⟩
          case measure => simp [intOf]; omega
        · go_wp2
          go_roundw
          case rel => exact ⟨k + 1, (cc + q * y) / 1000000000, 0, A'.set (i + k) (x - (cc + q * y) % 1000000000 - bb), by omega, by go_num, by go_num, by go_num, HST.out _ _ _ rfl (by omega) (by omega) (by omega) (by omega), hbl.put _ _ (by have := HXZ.out; omega), grown_set hgr _ _, fun h => absurd h (by omega)⟩
          case measure => simp [intOf]; omega
      · have hy0 : y = 0 := by rw [← HYE.out]; simp [List.getD, List.getElem?_eq_none (by have := HN2.out; omega : o.length ≤ k)]
        have HY0 := Lib.hid hy0
        have hny : cc = cc + q * y := by rw [hy0]; simp
        have HNY := Lib.hid hny
        clear hy0 hny hne
        by_cases hneg : (x : Int) - (cc : Int) % 1000000000 - bb < 0
        · go_wp2
          go_roundw
          case rel => exact ⟨k + 1, cc / 1000000000, 1, A'.set (i + k) (x + 1000000000 - cc % 1000000000 - bb), by omega, by go_num, by go_num, by go_num, HST.out _ _ _ HNY.out (by omega) (by omega) (by omega) (by omega), hbl.put _ _ (by omega), grown_set hgr _ _, fun _ => by omega⟩
          case measure => simp [intOf]; omega
        · go_wp2
          go_roundw
          case rel => exact ⟨k + 1, cc / 1000000000, 0, A'.set (i + k) (x - cc % 1000000000 - bb), by omega, by go_num, by go_num, by go_num, HST.out _ _ _ HNY.out (by omega) (by omega) (by omega) (by omega), hbl.put _ _ (by omega), grown_set hgr _ _, fun _ => by omega⟩
          case measure => simp [intOf]; omega
    · obtain rfl : k = n2 + 1 := by omega
      have hc0 := HC0.out (by omega)
      subst hc0
      have hP4 := hP.2.2.2
      rw [List.take_of_length_le (by have := HN2.out; omega), Nat.zero_add] at hP4
      have HP4 := Lib.hid hP4
      have HU := Lib.hid hP.1
      clear hP4 hP
      by_cases hb0 : bb = 0
      · subst hb0
        go_wp2
        go_ret
        exact ⟨A', 0, rfl, hbl, hgr, by rw [HN2.out]; exact HU.out, by omega, by rw [HN2.out]; exact HP4.out⟩
      · obtain rfl : bb = 1 := by omega
        go_wp2
        go_ret
        exact ⟨A', 1, rfl, hbl, hgr, by rw [HN2.out]; exact HU.out, by omega, by rw [HN2.out]; exact HP4.out⟩

end Go.Proofs.YtpmlmibceiolpaaGreatDoor

/- The contract of limbs.gain: a magnitude is added to the lowest limbs of a row, in place. -/
set_option linter.unusedSimpArgs false
set_option linter.unusedVariables false
namespace Go.Proofs.YtpmlmibceiolpaaGreatDoor
open Go.RowKit

/-- gain: k limbs are written. -/
def GainRel (A : List Nat) (i : Nat) (o : List Nat) (k : Nat) (A' : List Nat) (c : Nat) : Prop :=
  Upto A A' i k ∧ c ≤ 1 ∧ val (win A' i k) + 1000000000 ^ k * c = val (win A i k) + val (o.take k)

theorem GainRel.start {A : List Nat} (h : Ok A) (i : Nat) (o : List Nat) : GainRel A i o 0 A 0 := ⟨Upto.start h i, by omega, by simp [win, val]⟩

theorem GainRel.step {A : List Nat} {i : Nat} {o : List Nat} {k : Nat} {A' : List Nat} {c : Nat} (h : GainRel A i o k A' c) (hk : i + k < A.length) {n : Nat} (hn : n = A.getD (i + k) 0 + c + o.getD k 0) (hm : A.getD (i + k) 0 < 1000000000) (ho : o.getD k 0 < 1000000000) :
    GainRel A i o (k + 1) (A'.set (i + k) (n % 1000000000)) (n / 1000000000) := by
  obtain ⟨h1, h2, h3⟩ := h
  refine ⟨h1.step _ (Nat.mod_lt _ (by omega)), by omega, ?_⟩
  rw [win_set (by rw [h1.1]; exact hk), win_succ, val_take_succ, Nat.pow_succ]
  have e2 : 1000000000 ^ k * (n % 1000000000 + 1000000000 * (n / 1000000000)) = 1000000000 ^ k * (A.getD (i + k) 0 + c + o.getD k 0) := by rw [Nat.mod_add_div, hn]
  have e4 : 1000000000 ^ k * 1000000000 * (n / 1000000000) = 1000000000 ^ k * (1000000000 * (n / 1000000000)) := by rw [Nat.mul_assoc]
  rw [e4]
  simp only [Nat.mul_add] at e2 h3 ⊢
  omega

/-- What gain leaves. -/
def GainPost (w : World) (g : Nat) (A : List Nat) (i : Nat) (o : List Nat) (e : Ending) (w' : World) : Prop :=
  ∃ A' c, e = .returned (.tuple #[]) ∧ Blk w' g 143 (arr A') ∧ w.grownBy w' (some g) ∧ Upto A A' i (o.length + 1) ∧ c ≤ 1 ∧ val (win A' i (o.length + 1)) + 1000000000 ^ (o.length + 1) * c = val (win A i (o.length + 1)) + val o

set_option maxHeartbeats 1000000 in
set_option maxRecDepth 100000 in
theorem gain_any {w : World} {g i : Nat} {A : List Nat} {v2 : Value} {o : List Nat} (cap : Nat) (hg : Blk w g 143 (arr A)) (hA : Ok A) (h2 : Lim w v2 o) (hne : ∀ b' o' c', v2 = .slice (some ⟨b', o', none⟩) o.length c' → 0 < o.length → b' ≠ g) (o2 : Ok o) (hi : i + o.length + 1 ≤ A.length) (hsz : A.length ≤ 2147483648) :
    Calls Tryz.prog 159 #[.slice (some ⟨g, i, none⟩) (A.length - i : Nat) cap, v2] w (GainPost w g A i o) := by
  obtain ⟨a2, c2, rfl, hc2, hm2, h2⟩ := h2
  unfold maxLen at hm2
  generalize hn2 : o.length = n2 at *
  have HN2 := Lib.hid hn2
  clear hn2
  generalize hnA : A.length = N at *
  have HNA := Lib.hid hnA
  clear hnA
  have hle : ((N - i : Nat) : Int) = (N : Int) - i := by omega
  generalize N - i = L at *
  have hL : (n2 : Int) + 1 ≤ (L : Int) := by omega
  clear hle
  go_enter Tryz.func159, Tryz.ntmps159
  go_wp2
  go_loopw [4, 10] (fun c ix wr => ∃ (k cc : Nat) (A' : List Nat), k ≤ n2 + 1 ∧ ix = .int .i64 k ∧ c = .int .u32 cc ∧ GainRel A i o k A' cc ∧ Blk wr g 143 (arr A') ∧ w.grownBy wr (some g))
      (fun _ ix _ => n2 + 1 - (intOf ix).toNat)
  case atStart => exact ⟨0, 0, A, Nat.zero_le _, rfl, rfl, GainRel.start hA i o, hg, World.grownBy.refl _ _⟩
  case round =>
    obtain ⟨k, cc, A', hk, rfl, rfl, hP, hbl, hgr⟩ := hrel
    have hcc : cc ≤ 1 := hP.2.1
    by_cases hlt : k < n2 + 1
    · have hkL : (k : Int) < (L : Int) := by omega
      have hlA : i + k < A'.length := by rw [hP.1.1, HNA.out]; omega
      have g0 : wr.cell? ⟨g, i + k, none⟩ = some (.int .u32 (A.getD (i + k) 0 : Nat)) := by rw [← hP.1.get (Nat.le_refl _)]; exact hbl.at_ hlA
      have f0 := hbl.frozen (i + k)
      have hx := hA.getD (i + k)
      have hst := fun n hn => hP.step (n := n) (by rw [HNA.out]; omega) hn (hA.getD _) (o2.getD _)
      generalize hxe : A.getD (i + k) 0 = x at g0 hx hst
      have hy := o2.getD k
      generalize hye : o.getD k 0 = y at hy hst
      have HYE := Lib.hid hye
      have HST := Lib.hid hst
      clear hxe hye hst
      by_cases hlt2 : k < n2
      · rcases h2 with h2 | ⟨b2, p2, rfl, hc'⟩
        · exfalso; have := HN2.out; rw [h2] at this; simp at this; omega
        have hbg : b2 ≠ g := hne b2 p2 c2 rfl (by omega)
        have g2 : wr.cell? ⟨b2, p2 + k, none⟩ = some (.int .u32 (o.getD k 0)) := (grown_cell hgr hc'.lt hbg).trans (hc'.2 k (by have := HN2.out; omega))
        rw [HYE.out] at g2
        clear hc' hne
        go_wp2
        go_roundw
        case rel => exact ⟨k + 1, (x + cc + y) / 1000000000, A'.set (i + k) ((x + cc + y) % 1000000000), by omega, by go_num, by go_num, HST.out _ rfl, hbl.put _ _ (by omega), grown_set hgr _ _⟩
        case measure => simp [intOf]; omega
      · have hy0 : y = 0 := by rw [← HYE.out]; simp [List.getD, List.getElem?_eq_none (by have := HN2.out; omega : o.length ≤ k)]
        have HY0 := Lib.hid hy0
        clear hy0 hne
        go_wp2
        go_roundw
        case rel => exact ⟨k + 1, (x + cc) / 1000000000, A'.set (i + k) ((x + cc) % 1000000000), by omega, by go_num, by go_num, HST.out _ (by have := HY0.out; omega), hbl.put _ _ (by omega), grown_set hgr _ _⟩
        case measure => simp [intOf]; omega
    · obtain rfl : k = n2 + 1 := by omega
      have hP4 := hP.2.2
      rw [List.take_of_length_le (l := o) (by have := HN2.out; omega)] at hP4
      have HP4 := Lib.hid hP4
      have HU := Lib.hid hP.1
      clear hP4 hP
      go_wp2
      go_end0
      exact ⟨A', cc, rfl, hbl, hgr, by rw [HN2.out]; exact HU.out, hcc, by rw [HN2.out]; exact HP4.out⟩

end Go.Proofs.YtpmlmibceiolpaaGreatDoor

/- A region that draws its order within a round of a range over a function: from the plain calculus. -/
set_option linter.unusedSimpArgs false
set_option linter.unusedVariables false
namespace Go.Proofs.YtpmlmibceiolpaaGreatDoor
open Go.RowKit Go.Shelf

theorem rows_lift {n l : Nat} {P : Program} {row : String} {args : Array Value} {w : World} {R : Value → World → Prop} (h : Rows P row args w R) : RowsIn (Fence.wide.inRound l) n P row args w R :=
  fun c cs _ => let ⟨v, w', r, s⟩ := h c cs; ⟨v, w', r, stepsIn_wide.2 s⟩

theorem upon_lift {n l : Nat} {P : Program} {o : Oper} {a : Act} {next : Act → World → Prop} {Q : Exit → Act → World → Prop} {r : Result Next} (h : o.upon P a next Q r) : o.uponIn (Fence.wide.inRound l) n P a next Q r := by
  cases r with
  | ok x w' =>
    cases x with
    | value v => exact h
    | skip => exact h
    | defer d => exact h
    | enter f args => exact ⟨(fun e => by cases e), CallsIn.inRound l (callsIn_wide.2 h)⟩
    | row row args => exact ⟨(fun e => by cases e), rows_lift h⟩
    | _ => exact h.elim
  | halt x w' =>
    cases x <;> exact h

/-- No defer statement among the operations. -/
def noDefer (ops : Array Oper) : Bool := ops.all fun o => match o.op with | .defer _ => false | _ => true

theorem op_lift {n l i : Nat} {P : Program} {ops : Array Oper} {K K' : Act → World → Prop} {Q : Exit → Act → World → Prop} {a : Act} {w : World} (hd : noDefer ops = true) (hQ : ∀ a w, ¬ Q .outgrown a w)
    (hK : ∀ a w, K a w → K' a w) (h : wpOp P ops Q i K a w) : wpOpIn (Fence.wide.inRound l) n P ops Q i K' a w := by
  have h := wpOp_mono hK h
  unfold wpOp at h
  unfold wpOpIn
  split
  · rename_i hi; rw [hi] at h; exact h
  · rename_i o ho
    rw [ho] at h
    simp only at h
    split
    · rename_i hw
      rw [if_pos hw] at h
      rcases h with h | ⟨_, a', w', h⟩
      · refine ⟨fun _ _ => trivial, ?_⟩
        have hno : ∀ c, o.op ≠ .defer c := by
          intro c hc
          have hm : o ∈ ops := by obtain ⟨hl, rfl⟩ := Array.getElem?_eq_some_iff.1 ho; exact Array.getElem_mem hl
          have := Array.all_eq_true'.1 hd o hm
          rw [hc] at this
          cases this
        have e : o.semAt (Fence.wide.inRound l).round a.eval = execOp a.eval o := Oper.semAt_some l _ _ hno
        rw [e]
        exact upon_lift h
      · exact absurd h (hQ _ _)
    · rename_i hw
      rw [if_neg hw] at h
      exact ⟨fun _ _ => trivial, h⟩

theorem any_lift {n l : Nat} {P : Program} {md : Region.Mode} {ops : Array Oper} {Q : Exit → Act → World → Prop} (hd : noDefer ops = true) (hQ : ∀ a w, ¬ Q .outgrown a w) :
    ∀ (fuel : Nat) (listed : Array Bool) (a : Act) (w : World), wpAny P md ops Q fuel listed a w → wpAnyIn (Fence.wide.inRound l) n P md ops Q fuel listed a w
  | 0, _, _, _, h => h
  | fuel + 1, _, _, _, h => ⟨h.1, fun i hi => op_lift hd hQ (fun a' w' h' => any_lift hd hQ fuel _ a' w' h') (h.2 i hi)⟩

theorem region_lift {n l id : Nat} {P : Program} {ops : Array Oper} {S : World → Prop} {Q : Exit → Act → World → Prop} {a : Act} {w : World} (hm : P.follows .mixedOrders = true) (hd : noDefer ops = true) (hQ : ∀ a w, ¬ Q .outgrown a w)
    (h : wpAnyH P .any ops Q S ops.size (Array.replicate ops.size false) a w.drew) : (Code.region id ops true).wpIn (Fence.wide.inRound l) n P Q a w :=
  wpIn_region_any hm (any_lift hd hQ _ _ _ _ (wpAny_of_held _ _ _ _ h))

/-- The next operation by itself. -/
theorem held_one {P : Program} {md : Region.Mode} {ops : Array Oper} {Q : Exit → Act → World → Prop} {S : World → Prop} {i fuel : Nat} {listed : Array Bool} {a : Act} {w : World} {o : Oper} (hr : Region.ready md ops listed = [i]) (ho : ops[i]? = some o) (hw : Region.wanted o (yielded ops a.tmps) = true)
    (h : o.wp P a w (fun a' w' => S w' ∧ wpAnyH P md ops Q S fuel (listed.setIfInBounds i true) a' w') Q) : wpAnyH P md ops Q S (fuel + 1) listed a w :=
  wpAnyH_all hr (by simp) fun j hj => by
    obtain rfl := List.mem_singleton.1 hj
    unfold wpOp
    rw [ho]
    simp only [hw, if_true]
    exact .inl h

end Go.Proofs.YtpmlmibceiolpaaGreatDoor
