/- The contract of exact.Read: the integer of a text of digits. -/
import Derived.Test.YtmhneibcbjgedaaGreatDoorText
set_option linter.unusedSimpArgs false
set_option linter.unusedVariables false
namespace Go.Proofs.YtmhneibcbjgedaaGreatDoor
open Go.RowKit
open Go.Lib (decDigits itoa nDigits)

theorem pow9 (m : Nat) : 1000000000 ^ m = 10 ^ (9 * m) := by rw [show (1000000000 : Nat) = 10 ^ 9 from rfl, ← Nat.pow_mul]

theorem drop_chunk (ds : List UInt8) {a e : Nat} (h : a ≤ e) (he : e ≤ ds.length) : ds.drop a = (ds.take e).drop a ++ ds.drop e := by
  conv => lhs; rw [← List.take_append_drop e ds]
  rw [List.drop_append]
  have : a - (ds.take e).length = 0 := by simp; omega
  rw [this, List.drop_zero]

theorem chunk_len (ds : List UInt8) {e : Nat} (he : e ≤ ds.length) : ((ds.take e).drop (e - 9)).length ≤ 9 := by simp; omega

theorem rd_chunk {ds : List UInt8} {e : Nat} {xs : List Nat} (hd : Dig ds) (he : 0 < e) (hle : e ≤ ds.length) (hm : ds.length - e = 9 * xs.length) (hv : val xs = rd 0 (ds.drop e)) (ho : Ok xs) :
    val (xs ++ [rd 0 ((ds.take e).drop (e - 9))]) = rd 0 (ds.drop (e - 9)) ∧ rd 0 ((ds.take e).drop (e - 9)) < 1000000000 ∧ Ok (xs ++ [rd 0 ((ds.take e).drop (e - 9))]) := by
  have hlt : rd 0 ((ds.take e).drop (e - 9)) < 1000000000 := by
    have h1 := rd_lt ((hd.take e).drop (e - 9))
    have h2 : 10 ^ ((ds.take e).drop (e - 9)).length ≤ 10 ^ 9 := Nat.pow_le_pow_right (by omega) (chunk_len ds hle)
    omega
  refine ⟨?_, hlt, ho.append (Ok.cons hlt Ok.nil)⟩
  rw [val_snoc, drop_chunk ds (show e - 9 ≤ e by omega) hle, rd_append, hv, pow9]
  have e1 : (ds.drop e).length = 9 * xs.length := by simp; omega
  rw [e1, Nat.mul_comm]; omega

theorem ba_ext {a b : ByteArray} (h : a.data.toList = b.data.toList) : a = b := by
  obtain ⟨⟨x⟩⟩ := a
  obtain ⟨⟨y⟩⟩ := b
  simp only at h
  rw [h]

theorem extract_list (ds : List UInt8) (a b : Nat) : (⟨ds.toArray⟩ : ByteArray).extract a b = ⟨((ds.take b).drop a).toArray⟩ := by
  apply ba_ext
  rw [Lib.extract_data]
  simp [List.drop_take]

theorem trim_neg {ds : List UInt8} (h : Dig ds) (neg : Bool) : Lib.trimPrefix ((if neg then [45] else []) ++ ds) [45] = ds := by
  cases neg
  · simp only [Bool.false_eq_true, if_false, List.nil_append]
    unfold Lib.trimPrefix Lib.hasPrefix
    cases ds with
    | nil => rfl
    | cons c r =>
      have hc := h c (by simp)
      have : ([45] : List UInt8).isPrefixOf (c :: r) = false := by
        simp only [List.isPrefixOf, Bool.and_eq_false_iff]
        left
        rw [beq_eq_false_iff_ne]
        intro e
        rw [← e] at hc
        exact absurd hc.1 (by decide)
      rw [this]; rfl
  · unfold Lib.trimPrefix Lib.hasPrefix
    simp [List.isPrefixOf]

theorem bytes_below {w w' : World} {e : TypeId} {s : ByteArray} (h : w' = w ∨ w' = Lib.bytesWorld w e s) : Below w.heap.size w w' := by
  rcases h with rfl | rfl
  · exact Below.refl _ _
  · exact Joins.below_bytesWorld _ _ _ _ (Nat.le_refl _)

theorem Row.below {w w' : World} {B : Nat} {v : Value} {l : List Nat} (h : Row w B v l) (hb : Below w.heap.size w w') : Row w' B v l := by
  have hg : w.grownBy w' none := ⟨hb.os, hb.tape, hb.output, hb.size, fun k hk _ => hb.block k hk⟩
  exact World.ownsRow.kept (row := none) h hg (Classical.em _)

/-- The text of digits with a sign, or none. -/
def sgnd (neg : Bool) (ds : List UInt8) : List UInt8 := (if neg then [45] else []) ++ ds
theorem sgnd_len (neg : Bool) (ds : List UInt8) : (sgnd neg ds).length = ds.length + (if neg then 1 else 0) := by cases neg <;> simp [sgnd]

set_option maxHeartbeats 2000000 in
set_option maxRecDepth 100000 in
theorem read_any {w : World} (neg : Bool) {ds : List UInt8} (hd : Dig ds) (hlen : ds.length ≤ 4294967296) :
    Calls Tryz.prog 125 #[.string ⟨(sgnd neg ds).toArray⟩] w (RetW w (sg neg (rd 0 ds))) := by
  obtain ⟨i0, hi, hz0, hz1, hz2⟩ := info_parts info32
  have htp := Tryz.strings_TrimPrefix ⟨(sgnd neg ds).toArray⟩ ⟨#[45]⟩ (w.alloc (.cells #[.bool false, .slice none 0 0] 65))
  have e1 : Lib.trimPrefix (⟨(sgnd neg ds).toArray⟩ : ByteArray).data.toList (⟨#[45]⟩ : ByteArray).data.toList = ds := trim_neg hd neg
  rw [e1] at htp
  have hex := extract_list ds
  have hz1' : (⟨(sgnd neg ds).toArray⟩ : ByteArray).size = ds.length + (if neg then 1 else 0) := by show (sgnd neg ds).toArray.size = _; rw [List.size_toArray, sgnd_len]
  have hz2' : (⟨ds.toArray⟩ : ByteArray).size = ds.length := by show ds.toArray.size = _; rw [List.size_toArray]
  have HTP := Lib.hid htp
  clear htp e1
  obtain ⟨S, hS⟩ : ∃ S : ByteArray, S = ⟨(sgnd neg ds).toArray⟩ := ⟨_, rfl⟩
  obtain ⟨T, hT⟩ : ∃ T : ByteArray, T = ⟨ds.toArray⟩ := ⟨_, rfl⟩
  rw [← hS] at hz1' HTP ⊢
  rw [← hT] at hz2' HTP hex
  clear hS hT
  have HEX := Lib.hid hex
  clear hex
  obtain ⟨L, hL⟩ : ∃ L, L = ds.length := ⟨_, rfl⟩
  rw [← hL] at hz1' hz2' hlen
  have hnl : decide (L < L + (if neg then 1 else 0)) = neg := by cases neg <;> simp
  obtain ⟨M, hM⟩ : ∃ M, M = L + (if neg then 1 else 0) := ⟨_, rfl⟩
  rw [← hM] at hz1' hnl
  have HL := Lib.hid hL
  clear hL hM
  go_enter Tryz.func125, Tryz.ntmps125
  go_upto_region 3 with (go_at_call 144; refine HTP.out.mono ?_; rintro e w1 ⟨rfl, rfl⟩)
  obtain ⟨W, hW, hB, hsz, j1, j2⟩ := entB w 65 65 #[.bool false, .slice none 0 0] #[.bool neg, .slice none 0 0]
  rw [← hW]
  clear hW
  have HSZ := Lib.hid hsz
  have HB := Lib.hid hB
  have HJ1 := Lib.hid j1
  have HJ2 := Lib.hid j2
  clear hsz hB j1 j2 hnl
  go_wp2
  go_loopw [5] (fun u5 wr => ∃ (e : Int) (xs : List Nat) (v : Value), u5 = .int .i64 e ∧ e ≤ 4294967296 ∧ -9 ≤ e ∧ Hid (e = L - 9 * xs.length) ∧ Hid (val xs = rd 0 (ds.drop e.toNat)) ∧ Hid (Ok xs) ∧ Hid (Row wr (w.heap.size + 2) v xs) ∧ Hid (Blk wr w.heap.size 65 #[.bool false, .slice none 0 0]) ∧ Hid (Blk wr (w.heap.size + 1) 65 #[.bool neg, v]) ∧ Hid (Below w.heap.size w wr) ∧ Hid (w.heap.size + 2 ≤ wr.heap.size)) (fun u5 _ => (intOf u5).toNat)
  case atStart => exact ⟨L, [], _, rfl, by omega, by omega, Lib.hid (by simp), Lib.hid (by rw [Int.toNat_natCast, HL.out, List.drop_length]; rfl), Lib.hid Ok.nil, Lib.hid (Row.nil _ _), HJ1, HJ2, HB, Lib.hid (by rw [HSZ.out]; omega)⟩
  case round =>
    obtain ⟨e, xs, v, rfl, he1, he2, hE, hV, hO, hR, hJ1, hJ2, hK, hS⟩ := hrel
    obtain ⟨a, c, rfl⟩ := hR.out.len
    have y0 := hJ2.out.cell0
    have y1 := hJ2.out.cell1
    have hxl : xs.length ≤ 477218600 := by have := hE.out; omega
    generalize hk : xs.length = k at y1 hR hJ2 hxl
    have HKL := Lib.hid hk
    clear hk
    by_cases h0 : 0 < e
    · obtain ⟨n, rfl⟩ : ∃ n : Nat, e = (n : Int) := ⟨e.toNat, by omega⟩
      have hn0 : 0 < n := by omega
      have hnL : n ≤ L := by have := hE.out; omega
      have hmax : max (0 : Int) ((n : Int) - 9) = ((n - 9 : Nat) : Int) := by omega
      have hrc := rd_chunk (xs := xs) hd hn0 (by rw [← HL.out]; exact hnL) (by have := hE.out; rw [← HL.out]; omega) (by have := hV.out; rwa [Int.toNat_natCast] at this) hO.out
      have hcl := chunk_len ds (e := n) (by rw [← HL.out]; exact hnL)
      have hcd := (hd.take n).drop (n - 9)
      have hcn : (ds.take n).drop (n - 9) ≠ [] := by
        intro e; have := congrArg List.length e; simp at this; have := HL.out; omega
      have hpu := fun (V : World) => Tryz.strconv_ParseUint_10_at32_ok (T.extract (n - 9) n) (by rw [HEX.out]; show ((ds.take n).drop (n - 9)).toArray.size ≤ _; rw [List.size_toArray]; omega) _ (by rw [HEX.out]; exact parse32 hcd hcl hcn) V
      have hrlt := hrc.2.1
      have HRC := Lib.hid hrc
      clear hrc hcd hcn hcl
      generalize rd 0 ((ds.take n).drop (n - 9)) = y at *
      have HPU := Lib.hid hpu
      clear hpu
      have j2a := hJ2.out.lt
      have hne : some (w.heap.size + 1) ≠ (Value.slice a k c).ownBlock := hR.out.ne (by omega)
      have hne0 : some (w.heap.size) ≠ (Value.slice a k c).ownBlock := hR.out.ne (by omega)
      have HNE := Lib.hid hne
      have HNE0 := Lib.hid hne0
      clear hne hne0
      go_wp2_with (first
        | (go_at_call 145; refine (HPU.out _).mono ?_; rintro e w1 ⟨rfl, hw1⟩; have hb1 : Below wr.heap.size wr w1 := bytes_below hw1; have HJ1' := Lib.hid (hJ1.out.next hb1); have HJ2' := Lib.hid (hJ2.out.next hb1); have z0 := HJ2'.out.cell0; have z1 := HJ2'.out.cell1; have hR' : Row w1 (w.heap.size + 2) (.slice a k c) xs := hR.out.below hb1; have hown : w1.ownsRow (w.heap.size + 2) 122 1 (.slice a k c) k (xs.map fun (x : Nat) => Value.int .u32 x) := (by have h := hR'; unfold Row at h; rwa [HKL.out] at h))
        | (at_builtin; refine wpList_append_own _ rfl (.tmp 33) (.tmp 36) 63 rfl (w.heap.size + 2) 122 i0 (.int .u32 0) 1 4 Tryz.underlying63 hi hz0 hz1 hz2 rfl (by decide) (.slice a k c) k _ rfl (hown.alloc _) ⟨w1.heap.size, 0, none⟩ 1 1 [.int .u32 (y : Int)] rfl rfl (cell_new_u32 _ _ _) (by intro u hu; simp at hu; subst hu; rfl) (by unfold maxLen; omega) (by omega) (by have := hS.out; have := hb1.size; simp; omega) ?_; intro v' w2 hown1 hgrow1 hnil1; have hr1 : Row w2 (w.heap.size + 2) v' (xs ++ [y]) := Row.snoc (by rw [HKL.out]; exact hown1) rfl; obtain ⟨a', c', rfl⟩ := hr1.len; have g1 := ((HJ2'.out.alloc _).grown hgrow1 HNE.out).frozen 1; have g2 := ((HJ2'.out.alloc _).grown hgrow1 HNE.out).cell1))
      go_roundw
      case rel => exact ⟨(n : Int) - 9, xs ++ [y], _, rfl, by omega, by omega, Lib.hid (by have := hE.out; simp; omega), Lib.hid (by rw [HRC.out.1, show ((n : Int) - 9).toNat = n - 9 by omega]), Lib.hid HRC.out.2.2, Lib.hid (hr1.far (hr1.ne (by omega))), Lib.hid (((HJ1'.out.alloc _).grown hgrow1 HNE0.out).far (p := ⟨w.heap.size + 1, 1, none⟩) (by simp) _), Lib.hid (by simpa using ((HJ2'.out.alloc _).grown hgrow1 HNE.out).set_ 1 (.slice a' (xs ++ [y]).length c')), Lib.hid ((((hK.out.trans (hb1.mono hK.out.size)).alloc (Nat.le_trans hK.out.size hb1.size) _).grown hgrow1 (by have := hK.out.size; have := hb1.size; simp; omega) (fun q hq => by have := World.ownsRow.lt hR.out q hq; omega)).setCell (p := ⟨w.heap.size + 1, 1, none⟩) (by simp) _), Lib.hid (by have h1 := hgrow1.size; have h2 := hS.out; have h3 := hb1.size; simp [World.setCell] at h1 ⊢; omega)⟩
      case measure => simp [intOf]; omega
    · have hvv : val xs = rd 0 ds := by
        have := hV.out
        rw [show e.toNat = 0 by omega, List.drop_zero] at this
        exact this
      have HVV := Lib.hid hvv
      have hlim := hR.out.lim
      clear hvv
      go_wp2_with (go_at_call 104; refine (whole_any neg hlim hO.out).mono ?_; rintro e w1 ⟨r, rfl, hr, hb1⟩; obtain ⟨b4, a4, k4, p4, rfl⟩ := hr.parts; have o3 := hJ1.out.next hb1; have q0 := o3.cell0; have q1 := o3.cell1; have q2 := o3.frozen 0; have q3 := o3.frozen 1)
      have hB4 := o3.two (.bool b4) (.slice a4 k4 p4)
      have d0 := hB4.cell0
      have d1 := hB4.cell1
      refine bodyPost_ret (v := .agg #[.bool b4, .slice a4 k4 p4]) (by simp [results, Tryz.results125, go_sem, d0, d1]) rfl ⟨_, rfl, ?_, ?_⟩
      · rw [← HVV.out]; exact hr.two o3 (by decide) _ _
      · exact below_two (hK.out.trans (hb1.mono hK.out.size)) (Nat.le_refl _) _ _

end Go.Proofs.YtmhneibcbjgedaaGreatDoor
