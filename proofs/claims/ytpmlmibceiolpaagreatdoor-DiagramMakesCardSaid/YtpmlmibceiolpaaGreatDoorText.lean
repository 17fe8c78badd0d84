/- strings.Builder as this program's translation has it: the writing methods over the kit's own words for a builder. -/
import Derived.Test.YtpmlmibceiolpaaGreatDoorShelf
import Derived.Test.YtpmlmibceiolpaaGreatDoorNum2
import Derived.Lib.Strings
import Derived.Lib.Slices
import Derived.Lib.Walk
import Derived.Lib.Builder
import Derived.Lib.AppendStr
import Derived.Lib.UnsafeStr
import Derived.Lib.MakeNoZero
import Derived.Lib.SmallJoins
import Derived.Laws.Externs
import Derived.Lib.LaidTab
import Derived.Test.YtpmlmibceiolpaaGreatDoorBig
import Derived.Lib.ItoaNum
import Derived.Lib.ParseIntB
import Derived.Lib.AppendIntMem
set_option linter.unusedSimpArgs false
set_option linter.unusedVariables false
namespace Go.Proofs.YtpmlmibceiolpaaGreatDoor
open Go.RowKit

theorem sizeBld : (Tryz.prog.info? 106).map (·.size) = some 2 := by kernel_rfl
theorem liesBld : liesAt Tryz.prog Tryz.prog.depth 106 (2 / Tryz.prog.cellsOf 106) 0 106 1 = true := by kernel_rfl
theorem infoByte : (Tryz.prog.info? 5).map (fun i => (i.zero, i.size, i.bytes)) = some (some (.int .u8 0), 1, 1) := by kernel_rfl

/-- A builder that holds these bytes. -/
def Bd (w : World) (B b : Nat) (l : List UInt8) : Prop := Lib.IsBuilder 106 5 B b (Lib.byteCells l) w
def BdU (w : World) (B b : Nat) (bs : List Value) : Prop := Lib.BuilderAt 106 5 B b (.pointer (some ⟨b, 0, none⟩)) bs w

set_option maxHeartbeats 1000000 in
set_option maxRecDepth 100000 in
theorem copyCheck_used (b : Nat) (w : World) (h0 : w.cell? ⟨b, 0, none⟩ = some (.pointer (some ⟨b, 0, none⟩))) :
    Calls Tryz.prog 100 #[.pointer (some ⟨b, 0, none⟩)] w fun e w' => e = .returned (.tuple #[]) ∧ w = w' := by
  obtain ⟨j, hj, _⟩ := Option.map_eq_some_iff.1 sizeBld
  go_enter Tryz.func100, Tryz.ntmps100
  go_wp2
  rw [Lib.run_neq_ptr_same w _ Tryz.underlying104 hj]
  go_wp2
  go_end0
  exact ⟨rfl, rfl⟩

set_option maxHeartbeats 1000000 in
set_option maxRecDepth 100000 in
theorem copyCheck_fresh (b : Nat) (w : World) (h0 : w.cell? ⟨b, 0, none⟩ = some (.pointer none)) (hsh : w.shape? b = some (106, 2)) (hfz : w.frozen? ⟨b, 0, none⟩ = false) :
    Calls Tryz.prog 100 #[.pointer (some ⟨b, 0, none⟩)] w fun e w' => e = .returned (.tuple #[]) ∧ w' = w.setCell ⟨b, 0, none⟩ (.pointer (some ⟨b, 0, none⟩)) := by
  obtain ⟨j, hj, hjs⟩ := Option.map_eq_some_iff.1 sizeBld
  go_enter Tryz.func100, Tryz.ntmps100
  go_wp2
  rw [Lib.run_to_unsafe w ⟨b, 0, none⟩ Tryz.underlying104 Tryz.underlying168 hj (by rw [hjs]; decide) hsh (Nat.zero_lt_succ 1)]
  simp only [Result.andThen]
  rw [Oper.upon_value]
  go_wp2
  rw [run_callFunc_extern Tryz.func128 (by kernel_rfl) (by kernel_rfl) (by kernel_rfl) (e := Extern.AbiNoEscape.same) (by kernel_rfl)]
  rw [Lib.run_noEscape]
  simp only [Result.andThen]
  rw [Oper.upon_value]
  go_wp2
  rw [Lib.run_from_unsafe w ⟨b, 0, none⟩ Tryz.underlying168 Tryz.underlying104 hj hsh liesBld]
  simp only [Result.andThen]
  rw [Oper.upon_value]
  go_wp2
  go_end0
  exact ⟨rfl, rfl⟩

theorem copyCheck_any (B b : Nat) (bs : List Value) (w : World) (h : Lib.IsBuilder 106 5 B b bs w) :
    Calls Tryz.prog 100 #[.pointer (some ⟨b, 0, none⟩)] w fun e w' => e = .returned (.tuple #[]) ∧ BdU w' B b bs ∧ Below B w w' := by
  rcases h with h | h
  · refine (copyCheck_fresh b w h.cell0 h.shape h.frozen0).mono ?_
    rintro e w' ⟨rfl, rfl⟩
    exact ⟨rfl, h.used _, (Below.refl B w).setCell (p := ⟨b, 0, none⟩) h.1 _⟩
  · refine (copyCheck_used b w h.cell0).mono ?_
    rintro e w' ⟨rfl, rfl⟩
    exact ⟨rfl, h, Below.refl B _⟩

/-- What a writing method leaves. -/
def Wrote (w : World) (B b : Nat) (v : Value) (l : List UInt8) (e : Ending) (w' : World) : Prop := e = .returned v ∧ Bd w' B b l ∧ Below B w w'

theorem heap_cells {w : World} {b : Nat} {cs : Array Value} {t : TypeId} {f : Nat × Nat} (h : w.heap[b]? = some (.cells cs t f)) : b < w.heap.size := (Array.getElem?_eq_some_iff.1 h).1

set_option maxHeartbeats 2000000 in
set_option maxRecDepth 100000 in
theorem writeByte_any (B b : Nat) (l : List UInt8) (c : UInt8) (w : World) (h : Bd w B b l) (hlen : l.length + 1 ≤ 140737488355328) (hBw : B ≤ w.heap.size) :
    Calls Tryz.prog 133 #[.pointer (some ⟨b, 0, none⟩), .int .u8 c.toNat] w (Wrote w B b .nilIface (l ++ [c])) := by
  obtain ⟨i0, hi, hz0, hz1, hz2⟩ := info_parts infoByte
  have HC := Lib.hid (copyCheck_any B b _ w h)
  have hlb : (Lib.byteCells l).length = l.length := Lib.byteCells_length l
  have e1 : Lib.byteCells l ++ [.int .u8 (c.toNat : Int)] = Lib.byteCells (l ++ [c]) := by simp [Lib.byteCells]
  generalize Lib.byteCells l = bs at *
  have HE := Lib.hid e1
  have HL := Lib.hid hlb
  clear e1 hlb h
  have hlen' : bs.length + 1 ≤ 140737488355328 := by rw [HL.out]; exact hlen
  go_enter Tryz.func133, Tryz.ntmps133
  go_wp2_with (first
    | (go_at_call 100; refine HC.out.mono ?_; rintro e w1 ⟨rfl, h1, hb1⟩; obtain ⟨hB, v, hbk, hown, hne⟩ := h1; have c0 : w1.cell? ⟨b, 0, none⟩ = some (.pointer (some ⟨b, 0, none⟩)) := (by rw [Lib.cell_of_heap hbk]; rfl); have c1 : w1.cell? ⟨b, 1, none⟩ = some v := (by rw [Lib.cell_of_heap hbk]; rfl); have HK := Lib.hid hbk; clear hbk)
    | (at_builtin; refine wpList_append_own _ rfl _ _ 22 rfl B 5 i0 (.int .u8 0) 1 1 Tryz.underlying22 hi hz0 hz1 hz2 rfl (by decide) _ _ _ rfl (hown.alloc _) ⟨w1.heap.size, 0, none⟩ 1 1 [.int .u8 c.toNat] rfl rfl (by intro j u hj; match j, hj with | 0, hj => simp at hj; subst hj; simp [Addr.add]) (by intro u hu; simp at hu; subst hu; rfl) (by unfold maxLen; omega) (by omega) (by have := hb1.size; simp; omega) ?_; intro v' w2 hown' hgrow _
       have hlt := heap_cells HK.out
       have hb2 : w2.heap[b]? = some (.cells #[.pointer (some ⟨b, 0, none⟩), v] 106 (0, 0)) := by
         rw [hgrow.block b (by simp; omega) (fun e => hne e.symm), Lib.alloc_old w1 _ b hlt]
         exact HK.out
       have d0 : w2.cell? ⟨b, 0, none⟩ = some (.pointer (some ⟨b, 0, none⟩)) := by rw [Lib.cell_of_heap hb2]; rfl
       have d1 : w2.cell? ⟨b, 1, none⟩ = some v := by rw [Lib.cell_of_heap hb2]; rfl
       have f1 : w2.frozen? ⟨b, 1, none⟩ = false := Lib.frozen_of_heap hb2 1
       obtain ⟨g, cap, rfl⟩ : ∃ g cap, v' = .slice (some ⟨g, 0, none⟩) (bs.length + 1) cap := by
         rcases hown'.2 with ⟨_, h0⟩ | ⟨g, cap, cur, hv, _⟩
         · omega
         · exact ⟨g, cap, hv⟩
       have H2 := Lib.hid hb2
       clear hb2))
  go_ret
  refine ⟨rfl, .inr ?_, ?_⟩
  · rw [← HE.out]
    exact Lib.BuilderAt.put (T := 106) (e := 5) hB H2.out (bs' := bs ++ [.int .u8 c.toNat]) (by simpa using hown') (by decide)
  · exact ((hb1.alloc (by have := hb1.size; omega) _).grown hgrow (by have := hb1.size; simp; omega) (fun k hk => (hown.lt k hk).1)).setCell (p := ⟨b, 1, none⟩) hB _

set_option maxHeartbeats 2000000 in
set_option maxRecDepth 100000 in
theorem writeString_any (B b : Nat) (l m : List UInt8) (w : World) (h : Bd w B b l) (hlen : l.length + m.length ≤ 140737488355328) (hBw : B ≤ w.heap.size) :
    Calls Tryz.prog 58 #[.pointer (some ⟨b, 0, none⟩), .string ⟨m.toArray⟩] w (Wrote w B b (.tuple #[.int .i64 m.length, .nilIface]) (l ++ m)) := by
  obtain ⟨i0, hi, hz0, hz1, hz2⟩ := info_parts infoByte
  have HC := Lib.hid (copyCheck_any B b _ w h)
  have hlb : (Lib.byteCells l).length = l.length := Lib.byteCells_length l
  obtain ⟨s, hs⟩ : ∃ s : ByteArray, s = ⟨m.toArray⟩ := ⟨_, rfl⟩
  have e1 : Lib.byteCells l ++ Lib.strCells s = Lib.byteCells (l ++ m) := by rw [hs]; simp [Lib.byteCells, Lib.strCells]
  have e2 : s.size = m.length := by rw [hs]; rfl
  rw [← hs, ← e2]
  rw [← e2] at hlen
  generalize Lib.byteCells l = bs at *
  have HE := Lib.hid e1
  have HL := Lib.hid hlb
  clear e1 e2 hlb h hs
  have hlen' : bs.length + s.size ≤ 140737488355328 := by rw [HL.out]; exact hlen
  go_enter Tryz.func58, Tryz.ntmps58
  go_wp2_with (first
    | (go_at_call 100; refine HC.out.mono ?_; rintro e w1 ⟨rfl, h1, hb1⟩; obtain ⟨hB, v, hbk, hown, hne⟩ := h1; have c0 : w1.cell? ⟨b, 0, none⟩ = some (.pointer (some ⟨b, 0, none⟩)) := (by rw [Lib.cell_of_heap hbk]; rfl); have c1 : w1.cell? ⟨b, 1, none⟩ = some v := (by rw [Lib.cell_of_heap hbk]; rfl); have HK := Lib.hid hbk; clear hbk)
    | (at_builtin; refine Lib.wpList_append_own_string _ rfl _ _ 22 9 rfl B 5 i0 Tryz.underlying22 Tryz.underlying9 hi hz0 hz1 hz2 _ _ _ rfl hown s rfl (by unfold maxLen; omega) (by omega) (by have := hb1.size; omega) ?_; intro v' w2 hown' hgrow _
       have hlt := heap_cells HK.out
       have hb2 : w2.heap[b]? = some (.cells #[.pointer (some ⟨b, 0, none⟩), v] 106 (0, 0)) := by
         rw [hgrow.block b hlt (fun e => hne e.symm)]
         exact HK.out
       have d0 : w2.cell? ⟨b, 0, none⟩ = some (.pointer (some ⟨b, 0, none⟩)) := by rw [Lib.cell_of_heap hb2]; rfl
       have d1 : w2.cell? ⟨b, 1, none⟩ = some v := by rw [Lib.cell_of_heap hb2]; rfl
       have f1 : w2.frozen? ⟨b, 1, none⟩ = false := Lib.frozen_of_heap hb2 1
       obtain ⟨ao, n', cap, rfl⟩ : ∃ ao n' cap, v' = .slice ao n' cap := by
         rcases hown'.2 with ⟨hv, _⟩ | ⟨g, cap, cur, hv, _⟩
         · exact ⟨_, _, _, hv⟩
         · exact ⟨_, _, _, hv⟩
       have H2 := Lib.hid hb2
       clear hb2))
  go_ret2
  refine ⟨rfl, .inr ?_, ?_⟩
  · rw [← HE.out]
    exact Lib.BuilderAt.put (T := 106) (e := 5) hB H2.out (bs' := bs ++ Lib.strCells s) (by simpa [Lib.strCells_length] using hown') (by decide)
  · exact (hb1.grown hgrow (by have := hb1.size; omega) (fun k hk => (hown.lt k hk).1)).setCell (p := ⟨b, 1, none⟩) hB _

end Go.Proofs.YtpmlmibceiolpaaGreatDoor

/- Decimal texts: what they read as, and the text of a number in limbs. No program in sight. -/
set_option linter.unusedSimpArgs false
set_option linter.unusedVariables false
namespace Go.Proofs.YtpmlmibceiolpaaGreatDoor
open Go.Lib (decDigits itoa nDigits parseUintB parseUintM)

/-- All bytes are digits. -/
def Dig (l : List UInt8) : Prop := ∀ c ∈ l, 48 ≤ c.toNat ∧ c.toNat ≤ 57

/-- What digits read as. -/
def rdStep (acc : Nat) (c : UInt8) : Nat := acc * 10 + (c.toNat - 48)
def rd (acc : Nat) (l : List UInt8) : Nat := l.foldl rdStep acc

theorem rd_nil (acc : Nat) : rd acc [] = acc := by unfold rd; rw [List.foldl_nil]
theorem rd_cons (acc : Nat) (c : UInt8) (r : List UInt8) : rd acc (c :: r) = rd (acc * 10 + (c.toNat - 48)) r := by unfold rd; rw [List.foldl_cons]; unfold rdStep; exact Eq.refl _

theorem rd_aux (acc d P R : Nat) : (acc * 10 + d) * P + R = acc * (P * 10) + ((0 * 10 + d) * P + R) := by
  rw [Nat.add_mul, Nat.zero_mul, Nat.zero_add, Nat.mul_assoc, Nat.mul_comm 10 P, Nat.add_assoc]

theorem rd_acc : ∀ (l : List UInt8) (acc : Nat), rd acc l = acc * 10 ^ l.length + rd 0 l
  | [], acc => by rw [rd_nil, rd_nil, List.length_nil, Nat.pow_zero, Nat.mul_one, Nat.add_zero]
  | c :: r, acc => by
    have h1 := rd_acc r (acc * 10 + (c.toNat - 48))
    have h2 := rd_acc r (0 * 10 + (c.toNat - 48))
    rw [rd_cons, rd_cons, h1, h2, List.length_cons, Nat.pow_succ]
    exact rd_aux _ _ _ _

theorem rd_append (a b : List UInt8) : rd 0 (a ++ b) = rd 0 a * 10 ^ b.length + rd 0 b := by
  have h : ∀ acc, rd acc (a ++ b) = rd (rd acc a) b := by
    induction a with
    | nil => intro acc; rfl
    | cons c r ih => intro acc; simp only [List.cons_append, rd_cons]; exact ih _
  rw [h, rd_acc]

theorem rd_lt {l : List UInt8} (h : Dig l) : rd 0 l < 10 ^ l.length := by
  induction l with
  | nil => simp [rd_nil]
  | cons c r ih =>
    have h1 := ih (fun x hx => h x (List.mem_cons_of_mem _ hx))
    have h2 := h c (List.mem_cons_self ..)
    simp only [rd_cons, List.length_cons]
    rw [rd_acc, Nat.pow_succ, Nat.zero_mul, Nat.zero_add]
    have h3 : (c.toNat - 48) * 10 ^ r.length ≤ 9 * 10 ^ r.length := Nat.mul_le_mul_right _ (by omega)
    omega

theorem Dig.append {a b : List UInt8} (h : Dig a) (k : Dig b) : Dig (a ++ b) := by
  intro c hc
  rcases List.mem_append.1 hc with hc | hc
  · exact h c hc
  · exact k c hc
theorem Dig.take {a : List UInt8} (h : Dig a) (k : Nat) : Dig (a.take k) := fun c hc => h c (List.mem_of_mem_take hc)
theorem Dig.drop {a : List UInt8} (h : Dig a) (k : Nat) : Dig (a.drop k) := fun c hc => h c (List.mem_of_mem_drop hc)

theorem parse_ok {M : Nat} (hM : M = 4294967295) : ∀ (l : List UInt8) (acc : Nat), Dig l → rd acc l ≤ 999999999 → parseUintM M acc l = .ok (rd acc l) := by
  intro l
  induction l with
  | nil => intro acc _ _; rfl
  | cons c r ih =>
    intro acc hd hl
    have h2 := hd c (List.mem_cons_self ..)
    have h3 : acc * 10 + (c.toNat - 48) ≤ 999999999 := by
      simp only [rd_cons] at hl
      rw [rd_acc] at hl
      have : 1 ≤ 10 ^ r.length := Nat.one_le_pow _ _ (by decide)
      have := Nat.le_mul_of_pos_right (acc * 10 + (c.toNat - 48)) this
      omega
    simp only [parseUintM, rd_cons]
    rw [if_pos h2, if_neg (by omega), if_neg (by omega)]
    exact ih _ (fun x hx => hd x (List.mem_cons_of_mem _ hx)) hl

theorem parse32 {l : List UInt8} (hd : Dig l) (hl : l.length ≤ 9) (h0 : l ≠ []) : parseUintB 32 l = .ok (rd 0 l) := by
  unfold parseUintB
  rw [if_neg h0]
  apply parse_ok (by decide) _ _ hd
  have h1 := rd_lt hd
  have h2 : 10 ^ l.length ≤ 10 ^ 9 := Nat.pow_le_pow_right (by omega) hl
  omega

theorem dig_one {k : Nat} (h : k < 10) : (UInt8.ofNat (48 + k)).toNat = 48 + k := by
  rw [UInt8.toNat_ofNat']; omega

theorem dig_mem {k : Nat} (h : k < 10) : Dig [UInt8.ofNat (48 + k)] := by
  intro c hc
  rw [List.mem_singleton] at hc
  rw [hc, dig_one h]; omega

theorem head_app {a b : List UInt8} (h : a ≠ []) : (a ++ b).head? = a.head? := by
  cases a with
  | nil => exact absurd rfl h
  | cons => rfl

theorem decDigits_small {n : Nat} (h : n < 10) : decDigits n = [UInt8.ofNat (48 + n)] := by rw [decDigits, dif_pos h]
theorem decDigits_big {n : Nat} (h : ¬ n < 10) : decDigits n = decDigits (n / 10) ++ [UInt8.ofNat (48 + n % 10)] := by rw [decDigits, dif_neg h]

theorem decDigits_dig (n : Nat) : Dig (decDigits n) := by
  induction n using Nat.strongRecOn with
  | _ n ih =>
    by_cases h : n < 10
    · rw [decDigits_small h]; exact dig_mem h
    · rw [decDigits_big h]
      exact (ih _ (by omega)).append (dig_mem (by omega))

theorem rd_decDigits (n : Nat) : rd 0 (decDigits n) = n := by
  induction n using Nat.strongRecOn with
  | _ n ih =>
    by_cases h : n < 10
    · rw [decDigits_small h]; simp only [rd_nil, rd_cons]; rw [dig_one h]; omega
    · rw [decDigits_big h, rd_append, ih _ (by omega)]
      simp only [rd_nil, rd_cons, List.length_cons, List.length_nil]; rw [dig_one (by omega)]; omega

theorem decDigits_length_pos (n : Nat) : 0 < (decDigits n).length := by
  rw [Lib.decDigits_length]; exact Lib.nDigits_pos n

theorem decDigits_ne (n : Nat) : decDigits n ≠ [] := List.length_pos_iff.1 (decDigits_length_pos n)

/-- The first digit is nought only in the text of nought. -/
theorem decDigits_head {n : Nat} (h : 0 < n) : ∀ c, (decDigits n).head? = some c → c.toNat ≠ 48 := by
  induction n using Nat.strongRecOn with
  | _ n ih =>
    intro c hc
    by_cases h1 : n < 10
    · rw [decDigits_small h1, List.head?_cons] at hc; injection hc with hc; rw [← hc, dig_one h1]; omega
    · rw [decDigits_big h1] at hc
      have hne := decDigits_ne (n / 10)
      rw [head_app hne] at hc
      exact ih _ (by omega) (by omega) c hc

theorem u8_ofNat {c : UInt8} (h : 48 ≤ c.toNat) : UInt8.ofNat (48 + (c.toNat - 48)) = c := by
  have : 48 + (c.toNat - 48) = c.toNat := by omega
  rw [this, UInt8.ofNat_toNat]

/-- A list of digits that does not begin with nought, or is nought: the text of what it reads as. -/
theorem decDigits_rd : ∀ (k : Nat) (l : List UInt8), l.length = k + 1 → Dig l → (∀ c, l.head? = some c → c.toNat ≠ 48 ∨ k = 0) → decDigits (rd 0 l) = l := by
  intro k
  induction k with
  | zero =>
    intro l hl hd _
    match l, hl with
    | [c], _ =>
      have h := hd c (List.mem_cons_self ..)
      simp only [rd_nil, rd_cons]
      rw [decDigits_small (by omega), Nat.zero_mul, Nat.zero_add, u8_ofNat h.1]
  | succ k ih =>
    intro l hl hd hh
    have e : l = l.take (k + 1) ++ l.drop (k + 1) := (List.take_append_drop _ _).symm
    have h1 : (l.take (k + 1)).length = k + 1 := by simp; omega
    have h2 : (l.drop (k + 1)).length = 1 := by simp; omega
    match hx : l.drop (k + 1), h2 with
    | [c], _ =>
      rw [hx] at e
      have hc := hd c (by rw [e]; simp)
      have hh2 : (l.take (k + 1)).head? = l.head? := by
        conv => rhs; rw [e]
        rw [head_app]
        intro e0; rw [e0] at h1; simp at h1
      have ih' := ih (l.take (k + 1)) h1 (hd.take _) (fun c hc => by
        rw [hh2] at hc
        rcases hh c hc with h | h
        · exact .inl h
        · omega)
      generalize l.take (k + 1) = t at *
      subst e
      rw [rd_append]
      simp only [rd_nil, rd_cons, List.length_cons, List.length_nil]
      have ht : 0 < rd 0 t := by
        rcases Nat.eq_zero_or_pos (rd 0 t) with h0 | h0
        · exfalso
          rw [h0] at ih'
          have e0 : t = [48] := by rw [← ih']; rw [decDigits_small (by omega)]; rfl
          subst e0
          have := hh 48 (by simp)
          simp at this h1
        · exact h0
      have e2 : (rd 0 t * 10 ^ (0 + 1) + (0 * 10 + (c.toNat - 48))) / 10 = rd 0 t := by omega
      have e3 : (rd 0 t * 10 ^ (0 + 1) + (0 * 10 + (c.toNat - 48))) % 10 = c.toNat - 48 := by omega
      rw [decDigits_big (by omega), e2, e3, ih', u8_ofNat hc.1]

/-- k digits of a number, noughts ahead. -/
def pad : Nat → Nat → List UInt8
  | 0, _ => []
  | k + 1, n => pad k (n / 10) ++ [UInt8.ofNat (48 + n % 10)]

theorem pad_length (k n : Nat) : (pad k n).length = k := by
  induction k generalizing n with
  | zero => rfl
  | succ k ih => simp [pad, ih]

theorem decDigits_pad (k : Nat) : ∀ x y, 0 < y → x < 10 ^ k → decDigits (x + 10 ^ k * y) = decDigits y ++ pad k x := by
  induction k with
  | zero => intro x y hy hx; simp at hx; subst hx; simp [pad]
  | succ k ih =>
    intro x y hy hx
    have hp : 1 ≤ 10 ^ k := Nat.one_le_pow _ _ (by decide)
    have hm : 1 * 1 ≤ 10 ^ k * y := Nat.mul_le_mul hp hy
    have e1 : x + 10 ^ (k + 1) * y = (x + 10 * (10 ^ k * y)) := by rw [Nat.pow_succ, Nat.mul_comm (10 ^ k) 10, Nat.mul_assoc]
    rw [e1, decDigits_big (by omega)]
    have e2 : (x + 10 * (10 ^ k * y)) / 10 = x / 10 + 10 ^ k * y := by omega
    have e3 : (x + 10 * (10 ^ k * y)) % 10 = x % 10 := by omega
    rw [e2, e3, ih (x / 10) y hy (by rw [Nat.pow_succ] at hx; omega), List.append_assoc]
    rfl

theorem pad_nil {k : Nat} : pad k 0 = List.replicate k 48 := by
  induction k with
  | zero => rfl
  | succ k ih => simp only [pad, Nat.zero_div, Nat.zero_mod, Nat.add_zero]; rw [ih, List.replicate_succ']; rfl

theorem pad_eq : ∀ (k x : Nat), 0 < k → x < 10 ^ k → pad k x = List.replicate (k - (decDigits x).length) 48 ++ decDigits x := by
  intro k
  induction k with
  | zero => intro x h; omega
  | succ k ih =>
    intro x _ hx
    by_cases h : x < 10
    · rw [decDigits_small h]
      have e1 : x / 10 = 0 := by omega
      have e2 : x % 10 = x := by omega
      simp only [pad, e1, e2, pad_nil, List.length_cons, List.length_nil, Nat.add_sub_cancel, Nat.zero_add]
    · rw [decDigits_big h]
      have hk : 0 < k := by
        rcases Nat.eq_zero_or_pos k with h0 | h0
        · subst h0; simp at hx; omega
        · exact h0
      simp only [pad]
      rw [ih (x / 10) hk (by rw [Nat.pow_succ] at hx; omega), List.append_assoc]
      simp only [List.length_append, List.length_cons, List.length_nil, Nat.zero_add, Nat.add_sub_add_right]

/-- The text of limbs, the greatest ahead. -/
theorem decDigits_limb {x t : Nat} (hx : x < 1000000000) (ht : 0 < t) : decDigits (x + 1000000000 * t) = decDigits t ++ (List.replicate (9 - (decDigits x).length) 48 ++ decDigits x) := by
  have h := decDigits_pad 9 x t ht (by omega)
  rw [pad_eq 9 x (by omega) (by omega)] at h
  exact h

theorem nDigits_limb {x t : Nat} (hx : x < 1000000000) (ht : 0 < t) : nDigits (x + 1000000000 * t) = nDigits t + 9 := by
  have h := congrArg List.length (decDigits_pad 9 x t ht (by omega))
  rw [Lib.decDigits_length, List.length_append, Lib.decDigits_length, pad_length] at h
  exact h

theorem nDigits_le9 {x : Nat} (h : x < 1000000000) : nDigits x ≤ 9 := by
  rcases Nat.lt_or_ge x 10 with h1 | h1
  · rw [Lib.nDigits_small h1]; omega
  have hx : 0 < x := by omega
  have : ∀ k, x < 10 ^ (k + 1) → nDigits x ≤ k + 1 := by
    clear h h1 hx
    intro k
    induction k generalizing x with
    | zero => intro h; rw [Lib.nDigits_small (by omega)]; omega
    | succ k ih =>
      intro h
      by_cases h1 : x < 10
      · rw [Lib.nDigits_small h1]; omega
      · rw [Lib.nDigits_big h1]
        have := ih (x := x / 10) (by rw [Nat.pow_succ] at h; omega)
        omega
  exact this 8 (by omega)

theorem val_drop_pos {l : List Nat} (hl : Last l) {i : Nat} (hi : i < l.length) : 0 < val (l.drop i) := by
  rcases Nat.eq_zero_or_pos (val (l.drop i)) with h | h
  · exfalso
    have h1 : Last (l.drop i) := by
      intro hne
      have e : (l.drop i).length - 1 = l.length - 1 - i := by simp; omega
      rw [e]
      have h2 := hl (by intro e; rw [e] at hi; simp at hi)
      have e3 : (l.drop i).getD (l.length - 1 - i) 0 = l.getD (l.length - 1) 0 := by
        simp only [List.getD, List.getElem?_drop]
        rw [show i + (l.length - 1 - i) = l.length - 1 by omega]
      rw [e3]; exact h2
    have h2 := val_eq_zero h h1
    have h3 := congrArg List.length h2
    simp at h3; omega
  · exact h

theorem val_drop_cons {l : List Nat} {i : Nat} (hi : i < l.length) : val (l.drop i) = l.getD i 0 + 1000000000 * val (l.drop (i + 1)) := by
  rw [List.drop_eq_getElem_cons hi]
  simp [val, List.getD, List.getElem?_eq_getElem hi]

theorem nDigits_val : ∀ (k : Nat) (l : List Nat), Ok l → Last l → l.length = k + 1 → nDigits (val l) = 9 * k + nDigits (l.getD k 0) := by
  intro k
  induction k with
  | zero =>
    intro l ho hl hk
    match l, hk with
    | [x], _ => simp [val]
  | succ k ih =>
    intro l ho hl hk
    match l, hk with
    | x :: t, hk =>
      have ht : Last t := by
        intro hne
        have := hl (by simp)
        cases t with
        | nil => exact absurd rfl hne
        | cons y t => simpa using this
      have h1 := ih t ho.tail ht (by simpa using hk)
      have hp : 0 < val t := by
        have := val_drop_pos ht (i := 0) (by simp at hk; omega)
        simpa using this
      simp only [val]
      rw [nDigits_limb ho.head hp, h1]
      have e : (x :: t).getD (k + 1) 0 = t.getD k 0 := by simp
      rw [e]; omega

end Go.Proofs.YtpmlmibceiolpaaGreatDoor

/- The contracts of Whole.Digits and Whole.Text. -/
set_option linter.unusedSimpArgs false
set_option linter.unusedVariables false
namespace Go.Proofs.YtpmlmibceiolpaaGreatDoor
open Go.RowKit
open Go.Lib (decDigits itoa nDigits)

/-- What the library's own variables hold. -/
def Good (w : World) : Prop := Lib.TabIs Tryz.prog w "internal/strconv.uint64pow10" .u64 Lib.pow10Tab ∧ ∃ m : Int, w.cell? ⟨0, 0, none⟩ = some (.int .i64 m)

theorem named_pow10 : Tryz.prog.globalNamed "internal/strconv.uint64pow10" = some 3 := by kernel_rfl

theorem Good.below {w w' : World} (h : Good w) (hb : Below w.heap.size w w') : Good w' := by
  obtain ⟨h1, m, h2⟩ := h
  exact ⟨Joins.var_stays named_pow10 h1 hb (Nat.le_refl _), m, keepc hb h2 (World.block_lt_of_cell? w ⟨_, 0, none⟩ h2)⟩
theorem Good.drew {w : World} (h : Good w) : Good w.drew := h.below ((Below.refl _ _).drew)

theorem itoa_limb (x : Nat) : itoa (x : Int) = decDigits x := Lib.itoa_nonneg x

theorem itoa_any {w : World} (x : Nat) (hx : x < 1000000000) (hg : Good w) : Calls Tryz.prog 124 #[.int .i64 x] w (RetV w (.string ⟨(decDigits x).toArray⟩)) := by
  refine (Tryz.strconv_Itoa x (by omega) (by omega) w hg.1).mono ?_
  rintro e w' ⟨rfl, k, os, rfl⟩
  refine ⟨by rw [itoa_limb], ?_⟩
  exact Lib.below_grow _ _ (Nat.le_refl _) _ _

theorem Ok.last_lt {l : List Nat} (h : Ok l) (i : Nat) : l.getD i 0 < 1000000000 := h.getD i

set_option maxHeartbeats 1000000 in
set_option maxRecDepth 100000 in
theorem digits_any {w : World} {v : Value} {n : Int} (h : Wh w v n) (s : Fit n) (hg : Good w) :
    Calls Tryz.prog 108 #[v] w (RetV w (.int .i64 (nDigits n.natAbs))) := by
  obtain ⟨a, p, rfl, g⟩ := h.form
  clear h
  unfold Fit at s
  have hv := val_limbs n.natAbs
  have ho := limbs_ok n.natAbs
  have hl := limbs_last n.natAbs
  have h0 : (limbs n.natAbs).length = 0 → nDigits n.natAbs = 1 := fun h => by
    have : n = 0 := limbs_len_zero.1 h
    subst this; exact Lib.nDigits_small (by decide)
  have hd := nDigits_val ((limbs n.natAbs).length - 1) (limbs n.natAbs) ho hl
  rw [hv] at hd
  generalize limbs n.natAbs = l at *
  generalize nDigits n.natAbs = d at *
  have HH := Lib.hid (And.intro ho (And.intro h0 hd))
  clear hv ho hl h0 hd
  obtain ⟨W, hW, hB, hsz, j1⟩ := entA w 86 #[.bool (decide (n < 0)), .slice a l.length p]
  have HW := Lib.hid hW
  clear hW hsz
  generalize decide (n < 0) = b at *
  have x0 := j1.cell0
  have x1 := j1.cell1
  obtain ⟨a', c', e, hc, hm, hlim⟩ := g.below hB
  injection e with e1 _ e3
  subst e1
  subst e3
  unfold maxLen at hm
  generalize hk : l.length = k at *
  have HK := Lib.hid hk
  have HG := Lib.hid (hg.below hB)
  clear hk hg g
  go_enter Tryz.func108, Tryz.ntmps108
  go_upto_region 1 with fail
  rw [← HW.out]
  by_cases hk0 : k = 0
  · subst hk0
    have hd := Lib.hid (HH.out.2.1 rfl)
    go_wp2
    go_ret
    exact ⟨by rw [hd.out]; rfl, hB⟩
  · obtain ⟨j, rfl⟩ : ∃ j, k = j + 1 := ⟨k - 1, by omega⟩
    rcases hlim with h1 | ⟨b1, o1, rfl, hcell⟩
    · exfalso; have := HK.out; rw [h1] at this; simp at this
    have gx := hcell.2 j (by have := HK.out; omega)
    have hx := HH.out.1.getD j
    have hd := HH.out.2.2 (by omega)
    simp only [Nat.add_sub_cancel] at hd
    have hn9 := nDigits_le9 hx
    have hlen := Lib.decDigits_length (l.getD j 0)
    generalize l.getD j 0 = x at *
    have HD := Lib.hid hd
    have hit := Lib.hid (itoa_any x hx HG.out)
    have hj : ((j + 1 : Nat) : Int) - 1 = (j : Int) := by omega
    have hj9 : IntKind.i64.wrap (9 * (j : Int)) = 9 * (j : Int) := IntWalk.i64_in _ (by omega)
    have e9 : 9 * (j : Int) ≥ 0 := by omega
    have hs2 : (decDigits x).toArray.size = nDigits x := by simp [hlen]
    have hsm : (⟨(decDigits x).toArray⟩ : ByteArray).size = nDigits x := hs2
    generalize (⟨(decDigits x).toArray⟩ : ByteArray) = ds at *
    generalize nDigits x = nx at *
    clear hlen hd HH hs2
    go_wp2_with (go_at_call 124; refine hit.out.mono ?_; rintro e w1 ⟨rfl, hb1⟩)
    go_ret
    exact ⟨by rw [HD.out]; go_num, hB.trans (hb1.mono hB.size)⟩

theorem Bd.below {w w' : World} {B b : Nat} {l : List UInt8} (h : Bd w B b l) (hb : Below w.heap.size w w') : Bd w' B b l := by
  have hg : w.grownBy w' none := ⟨hb.os, hb.tape, hb.output, hb.size, fun k hk _ => hb.block k hk⟩
  rcases h with ⟨h1, v, h2, h3, h4⟩ | ⟨h1, v, h2, h3, h4⟩
  · exact .inl ⟨h1, v, (hb.block b (heap_cells h2)).trans h2, World.ownsRow.kept (row := none) h3 hg (Classical.em _), h4⟩
  · exact .inr ⟨h1, v, (hb.block b (heap_cells h2)).trans h2, World.ownsRow.kept (row := none) h3 hg (Classical.em _), h4⟩

theorem Bd.fresh (w : World) : Bd (w.alloc (.cells #[.pointer none, .slice none 0 0] 106)) w.heap.size w.heap.size [] :=
  .inl ⟨Nat.le_refl _, .slice none 0 0, heap_alloc_new w _, World.ownsRow_nil _ _ _ _, fun h => by cases h⟩

/-- What the builder holds when the limbs from k on are written. -/
def shown (l : List Nat) (k : Nat) : List UInt8 := if k = l.length then [] else decDigits (val (l.drop k))

theorem shown_first {l : List Nat} {j : Nat} (h : j + 1 = l.length) : decDigits (l.getD j 0) = shown l j := by
  unfold shown
  rw [if_neg (by omega), val_drop_cons (by omega), List.drop_of_length_le (by omega : l.length ≤ j + 1)]
  simp [val]

theorem shown_next {l : List Nat} {j : Nat} (ho : Ok l) (hl : Last l) (h : j + 1 < l.length) : (shown l (j + 1) ++ List.replicate (9 - nDigits (l.getD j 0)) 48) ++ decDigits (l.getD j 0) = shown l j := by
  unfold shown
  rw [if_neg (by omega), if_neg (by omega), val_drop_cons (show j < l.length by omega), decDigits_limb (ho.getD j) (val_drop_pos hl h), Lib.decDigits_length, List.append_assoc]

theorem shown_all {n : Int} (h : n ≠ 0) (neg : Bool) (hb : decide (n < 0) = neg) : (if neg then [45] else []) ++ shown (limbs n.natAbs) 0 = itoa n := by
  have h1 : 0 < (limbs n.natAbs).length := limbs_length_pos (by omega)
  have e : shown (limbs n.natAbs) 0 = decDigits n.natAbs := by
    unfold shown
    rw [if_neg (by omega), List.drop_zero, val_limbs]
  rw [e]
  subst hb
  rcases Int.lt_or_le n 0 with h2 | h2
  · obtain ⟨u, hu⟩ : ∃ u : Nat, n = -(u : Int) := ⟨n.natAbs, by omega⟩
    subst hu
    have hu0 : 0 < u := by omega
    rw [Lib.itoa_neg u hu0]
    simp [hu0]
  · obtain ⟨u, hu⟩ : ∃ u : Nat, n = (u : Int) := ⟨n.natAbs, by omega⟩
    subst hu
    rw [Lib.itoa_nonneg]
    simp

theorem shown_len {l : List Nat} {k : Nat} (ho : Ok l) : (shown l k).length ≤ 9 * l.length + 1 := by
  unfold shown
  split
  · simp
  · rw [Lib.decDigits_length]
    have key : ∀ (m : List Nat), Ok m → nDigits (val m) ≤ 9 * m.length + 1 := by
      intro m
      induction m with
      | nil => intro _; simp [val]; exact Nat.le_of_eq (Lib.nDigits_small (by decide))
      | cons x t ih =>
        intro hm
        have h1 := ih hm.tail
        have h2 := hm.head
        rcases Nat.eq_zero_or_pos (val t) with h0 | h0
        · simp only [val, h0, Nat.mul_zero, Nat.add_zero, List.length_cons]
          have := nDigits_le9 h2
          omega
        · simp only [val, List.length_cons]
          rw [nDigits_limb h2 h0]; omega
    have h2 := key (l.drop k) (ho.drop k)
    have h3 : (l.drop k).length ≤ l.length := by simp
    omega

theorem zs0 (w : World) : (Instr.slice 9 (.string ⟨#[48, 48, 48, 48, 48, 48, 48, 48, 48]⟩) (some (.int .i64 0)) none none).run Tryz.prog w = .ok (.string ⟨#[48, 48, 48, 48, 48, 48, 48, 48, 48]⟩) w := by kernel_rfl
theorem zs1 (w : World) : (Instr.slice 9 (.string ⟨#[48, 48, 48, 48, 48, 48, 48, 48, 48]⟩) (some (.int .i64 1)) none none).run Tryz.prog w = .ok (.string ⟨#[48, 48, 48, 48, 48, 48, 48, 48]⟩) w := by kernel_rfl
theorem zs2 (w : World) : (Instr.slice 9 (.string ⟨#[48, 48, 48, 48, 48, 48, 48, 48, 48]⟩) (some (.int .i64 2)) none none).run Tryz.prog w = .ok (.string ⟨#[48, 48, 48, 48, 48, 48, 48]⟩) w := by kernel_rfl
theorem zs3 (w : World) : (Instr.slice 9 (.string ⟨#[48, 48, 48, 48, 48, 48, 48, 48, 48]⟩) (some (.int .i64 3)) none none).run Tryz.prog w = .ok (.string ⟨#[48, 48, 48, 48, 48, 48]⟩) w := by kernel_rfl
theorem zs4 (w : World) : (Instr.slice 9 (.string ⟨#[48, 48, 48, 48, 48, 48, 48, 48, 48]⟩) (some (.int .i64 4)) none none).run Tryz.prog w = .ok (.string ⟨#[48, 48, 48, 48, 48]⟩) w := by kernel_rfl
theorem zs5 (w : World) : (Instr.slice 9 (.string ⟨#[48, 48, 48, 48, 48, 48, 48, 48, 48]⟩) (some (.int .i64 5)) none none).run Tryz.prog w = .ok (.string ⟨#[48, 48, 48, 48]⟩) w := by kernel_rfl
theorem zs6 (w : World) : (Instr.slice 9 (.string ⟨#[48, 48, 48, 48, 48, 48, 48, 48, 48]⟩) (some (.int .i64 6)) none none).run Tryz.prog w = .ok (.string ⟨#[48, 48, 48]⟩) w := by kernel_rfl
theorem zs7 (w : World) : (Instr.slice 9 (.string ⟨#[48, 48, 48, 48, 48, 48, 48, 48, 48]⟩) (some (.int .i64 7)) none none).run Tryz.prog w = .ok (.string ⟨#[48, 48]⟩) w := by kernel_rfl
theorem zs8 (w : World) : (Instr.slice 9 (.string ⟨#[48, 48, 48, 48, 48, 48, 48, 48, 48]⟩) (some (.int .i64 8)) none none).run Tryz.prog w = .ok (.string ⟨#[48]⟩) w := by kernel_rfl
theorem zs9 (w : World) : (Instr.slice 9 (.string ⟨#[48, 48, 48, 48, 48, 48, 48, 48, 48]⟩) (some (.int .i64 9)) none none).run Tryz.prog w = .ok (.string ⟨#[]⟩) w := by kernel_rfl
theorem zeros_slice {k : Nat} (h : k ≤ 9) (w : World) : (Instr.slice 9 (.string ⟨#[48, 48, 48, 48, 48, 48, 48, 48, 48]⟩) (some (.int .i64 k)) none none).run Tryz.prog w = .ok (.string ⟨(List.replicate (9 - k) 48).toArray⟩) w := by
  have h' : k = 0 ∨ k = 1 ∨ k = 2 ∨ k = 3 ∨ k = 4 ∨ k = 5 ∨ k = 6 ∨ k = 7 ∨ k = 8 ∨ k = 9 := by omega
  clear h
  rcases h' with rfl | rfl | rfl | rfl | rfl | rfl | rfl | rfl | rfl | rfl
  · exact zs0 w
  · exact zs1 w
  · exact zs2 w
  · exact zs3 w
  · exact zs4 w
  · exact zs5 w
  · exact zs6 w
  · exact zs7 w
  · exact zs8 w
  · exact zs9 w

theorem text_zero {w : World} {v : Value} (h : Wh w v 0) (hg : Good w) :
    Calls Tryz.prog 110 #[v] w (RetV w (.string ⟨(itoa 0).toArray⟩)) := by
  obtain ⟨a, p, rfl, g⟩ := h.form
  have e : (limbs (0 : Int).natAbs).length = 0 := rfl
  rw [e, show decide ((0 : Int) < 0) = false from rfl]
  obtain ⟨W, hW, hB, hsz, j1⟩ := entA w 86 #[.bool false, .slice a 0 p]
  have HW := Lib.hid hW
  clear hW hsz g h e
  have x0 := j1.cell0
  have x1 := j1.cell1
  have ht : itoa 0 = [48] := by rw [show (0 : Int) = ((0 : Nat) : Int) from rfl, Lib.itoa_nonneg, decDigits_small (by decide)]; rfl
  rw [ht]
  clear ht
  go_enter Tryz.func110, Tryz.ntmps110
  go_upto_region 1 with fail
  rw [← HW.out]
  go_wp2
  go_ret
  exact ⟨rfl, hB⟩

set_option maxHeartbeats 2000000 in
set_option maxRecDepth 100000 in
theorem text_pos {w : World} {v : Value} {n : Int} (h : Wh w v n) (s : Fit n) (hg : Good w) (hn : n ≠ 0) :
    Calls Tryz.prog 110 #[v] w (RetV w (.string ⟨(itoa n).toArray⟩)) := by
  obtain ⟨a, p, rfl, g⟩ := h.form
  clear h
  unfold Fit at s
  have ho := limbs_ok n.natAbs
  have hl := limbs_last n.natAbs
  have hall := fun neg hb => shown_all hn neg hb
  have hlp := limbs_length_pos (n := n.natAbs) (by omega)
  generalize limbs n.natAbs = l at *
  generalize hit0 : itoa n = tx at *
  have hne : tx ≠ [] := by
    rw [← hit0]; unfold itoa; split
    · simp
    · exact decDigits_ne _
  have HH := Lib.hid (And.intro ho (And.intro hl (And.intro hall hne)))
  clear ho hl hall hit0 hne
  obtain ⟨W, hW, hB, hsz, j1⟩ := entA w 86 #[.bool (decide (n < 0)), .slice a l.length p]
  have HW := Lib.hid hW
  have HSZ := Lib.hid hsz
  clear hW hsz
  generalize hbb : decide (n < 0) = b at *
  have HBB := Lib.hid hbb
  clear hbb hn
  have x0 := j1.cell0
  have x1 := j1.cell1
  obtain ⟨a', c', e, hc, hm, hlim⟩ := g.below hB
  injection e with e1 _ e3
  subst e1
  subst e3
  unfold maxLen at hm
  generalize hk : l.length = k at *
  have HK := Lib.hid hk
  have HG := Lib.hid (hg.below hB)
  clear hk hg g
  rcases hlim with h1 | ⟨b1, o1, rfl, hcell⟩
  · exfalso; have := HK.out; rw [h1] at this; simp at this; omega
  have HC := Lib.hid hcell
  clear hcell
  have hk0 : ((k : Int) == 0) = false := by simp; omega
  go_enter Tryz.func110, Tryz.ntmps110
  go_upto_region 1 with fail
  rw [← HW.out]
  have hbl := j1.alloc (.cells #[.pointer none, .slice none 0 0] 106)
  have y0 := hbl.cell0
  have y1 := hbl.cell1
  have HBL := Lib.hid hbl
  clear hbl
  go_upto_if 11 with fail
  have HF := Lib.hid (Bd.fresh W)
  have HN : Hid (Below W.heap.size W (W.alloc (.cells #[.pointer none, .slice none 0 0] 106))) := Lib.hid ((Below.refl _ _).alloc (Nat.le_refl _) _)
  generalize (W.alloc (.cells #[.pointer none, .slice none 0 0] 106)) = W1 at *
  clear x0 x1
  have hW1 := HN.out.size
  go_cut [] (fun wc => Hid (Bd wc W.heap.size W.heap.size (if b then [45] else [])) ∧ Hid (Below W.heap.size W wc))
  case first =>
    cases b
    · go_wp2
      go_meet
      exact ⟨HF, HN⟩
    · go_wp2_with (go_at_call 133; refine (writeByte_any _ _ _ 45 _ HF.out (by simp) hW1).mono ?_; rintro e w2 ⟨rfl, hd2, hb2⟩)
      go_meet
      exact ⟨Lib.hid hd2, Lib.hid (HN.out.trans hb2)⟩
  case rest =>
    obtain ⟨hD, hK⟩ := hcut
    have htx := HH.out.2.2.1 b rfl
    have hpl : (if b then [(45 : UInt8)] else []).length ≤ 1 := by cases b <;> simp
    generalize (if b then [(45 : UInt8)] else []) = pre at *
    have HTX := Lib.hid htx
    clear htx
    have x0 := keepc hK.out j1.cell0 j1.lt
    have x1 := keepc hK.out j1.cell1 j1.lt
    have hsh : shown l k = [] := by unfold shown; rw [if_pos HK.out.symm]
    have HSH := Lib.hid hsh
    clear hsh y0 y1
    go_wp2
    go_loopw [4] (fun u4 wr => ∃ j : Nat, j ≤ k ∧ u4 = .int .i64 ((j : Int) - 1) ∧ Hid (Bd wr W.heap.size W.heap.size (pre ++ shown l j)) ∧ Hid (Below W.heap.size W wr)) (fun u4 _ => (intOf u4 + 1).toNat)
    case atStart => exact ⟨k, Nat.le_refl _, rfl, Lib.hid (by rw [HSH.out, List.append_nil]; exact hD.out), hK⟩
    case round =>
      obtain ⟨j, hj, rfl, hD2, hK2⟩ := hrel
      rcases j with _ | i
      · have hst := Tryz.Builder_String _ _ _ _ (by have h := hD2.out; rw [HTX.out] at h; exact h) HH.out.2.2.2
        have HST := Lib.hid hst
        clear hst
        have hj0 : (((0 : Nat) : Int) - 1) = -1 := rfl
        go_wp2_with (go_at_call 60; refine HST.out.mono ?_; rintro e w2 ⟨rfl, hb2⟩)
        go_ret
        exact ⟨rfl, (hB.trans (hK2.out.mono hB.size)).trans (hb2.mono hB.size)⟩
      · have hj1 : ((i + 1 : Nat) : Int) - 1 = (i : Int) := by omega
        rw [hj1]
        clear hj1 x0 x1
        have x0 := keepc hK2.out j1.cell0 j1.lt
        have x1 := keepc hK2.out j1.cell1 j1.lt
        have gx := keepc hK2.out (HC.out.2 i (by have := HK.out; omega)) HC.out.lt
        have hx := HH.out.1.getD i
        have hn9 := nDigits_le9 hx
        have hit := itoa_any (l.getD i 0) hx (HG.out.below hK2.out)
        have hw := fun (V : World) m h h2 h3 => writeString_any (w := V) W.heap.size W.heap.size m (decDigits (l.getD i 0)) h h2 h3
        have hlen := Lib.decDigits_length (l.getD i 0)
        have hsz : (⟨(decDigits (l.getD i 0)).toArray⟩ : ByteArray).size = nDigits (l.getD i 0) := by show (decDigits (l.getD i 0)).toArray.size = _; rw [List.size_toArray, hlen]
        have hfst := fun h => @shown_first l i h
        have hnxt := fun h => shown_next (j := i) HH.out.1 HH.out.2.1 h
        have hshl := shown_len (l := l) (k := i + 1) HH.out.1
        have hzs := zeros_slice hn9
        rw [HK.out] at hfst hnxt hshl
        have hzl : (List.replicate (9 - nDigits (l.getD i 0)) (48 : UInt8)).length ≤ 9 := by simp
        generalize l.getD i 0 = x at *
        generalize (⟨(decDigits x).toArray⟩ : ByteArray) = ds at *
        generalize nDigits x = nx at *
        generalize decDigits x = dx at *
        generalize List.replicate (9 - nx) (48 : UInt8) = zx at *
        have HIT := Lib.hid hit
        have HW2 := Lib.hid hw
        have HFST := Lib.hid hfst
        have HNXT := Lib.hid hnxt
        have HDL := Lib.hid hlen
        clear hit hw hfst hnxt hlen
        have hdl : dx.length ≤ 9 := by rw [HDL.out]; exact hn9
        by_cases hik : i + 1 < k
        · have hc1 : decide ((i : Int) < (k : Int) - 1) = true := by simp; omega
          have hc2 : (i : Int) < (k : Int) - 1 := by omega
          go_wp2_with (first
            | (go_at_call 124; refine HIT.out.mono ?_; rintro e w2 ⟨rfl, hb2⟩; have z0 := keepc (next_below hK2.out hb2) j1.cell0 j1.lt; have z1 := keepc (next_below hK2.out hb2) j1.cell1 j1.lt)
            | (go_at_call_of 58 (Value.string ds); refine (HW2.out _ _ hd3 (by simp; omega) (by have := hK3.size; omega)).mono ?_; rintro e w4 ⟨rfl, hd4, hb4⟩)
            | (go_at_call 58; refine (writeString_any _ _ _ zx _ (hD2.out.below hb2) (by simp; omega) (by have := hK2.out.size; have := hb2.size; omega)).mono ?_; rintro e w3 ⟨rfl, hd3, hb3⟩; have hK3 := (next_below hK2.out hb2).trans hb3))
          go_roundw
          case rel => exact ⟨i, by omega, by go_num, Lib.hid (by rw [← HNXT.out hik]; simpa using hd4), Lib.hid (hK3.trans hb4)⟩
          case measure => simp [intOf]
        · have hc1 : decide ((i : Int) < (k : Int) - 1) = false := by simp; omega
          have hc2 : ¬ (i : Int) < (k : Int) - 1 := by omega
          have hki := Lib.hid (show i + 1 = k by omega)
          go_wp2_with (first
            | (go_at_call 124; refine HIT.out.mono ?_; rintro e w2 ⟨rfl, hb2⟩; have z0 := keepc (next_below hK2.out hb2) j1.cell0 j1.lt; have z1 := keepc (next_below hK2.out hb2) j1.cell1 j1.lt)
            | (go_at_call 58; refine (HW2.out _ _ (hD2.out.below hb2) (by simp; omega) (by have := hK2.out.size; have := hb2.size; omega)).mono ?_; rintro e w4 ⟨rfl, hd4, hb4⟩))
          go_roundw
          case rel => exact ⟨i, by omega, by go_num, Lib.hid (by rw [hki.out, HSH.out, List.append_nil, HFST.out hki.out] at hd4; exact hd4), Lib.hid ((next_below hK2.out hb2).trans hb4)⟩
          case measure => simp [intOf]

theorem text_any {w : World} {v : Value} {n : Int} (h : Wh w v n) (s : Fit n) (hg : Good w) :
    Calls Tryz.prog 110 #[v] w (RetV w (.string ⟨(itoa n).toArray⟩)) := by
  by_cases hn : n = 0
  · subst hn; exact text_zero h hg
  · exact text_pos h s hg hn

end Go.Proofs.YtpmlmibceiolpaaGreatDoor
