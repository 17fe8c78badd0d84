/- The contract of exact.Read: the integer of a text of digits. -/
import Derived.Test.YtpmlmibceiolpaaGreatDoorText
set_option linter.unusedSimpArgs false
set_option linter.unusedVariables false
namespace Go.Proofs.YtpmlmibceiolpaaGreatDoor
open Go.RowKit
open Go.Lib (decDigits itoa nDigits)

theorem pow9 (m : Nat) : 1000000000 ^ m = 10 ^ (9 * m) := by rw [show (1000000000 : Nat) = 10 ^ 9 from rfl, ← Nat.pow_mul]

theorem drop_chunk (ds : List UInt8) {a e : Nat} (h : a ≤ e) (he : e ≤ ds.length) : ds.drop a = (ds.take e).drop a ++ ds.drop e := by
  conv => lhs; rw [← List.take_append_drop e ds]
  rw [List.drop_append]
  have : a - (ds.take e).length = 0 := by simp; omega
  rw [this, List.drop_zero]

theorem chunk_len (ds : List UInt8) {e : Nat} (he : e ≤ ds.length) : ((ds.take e).drop (e - 9)).length ≤ 9 := by simp; omega

theorem rd_chunk {ds : List UInt8} {e : Nat} {xs : List Nat} (hd : Dig ds) (he : 0 < e) (hle : e ≤ ds.length) (hm : ds.length - e = 9 * xs.length) (hv : val xs = rd 0 (ds.drop e)) (ho : Ok xs) :
    val (xs ++ [rd 0 ((ds.take e).drop (e - 9))]) = rd 0 (ds.drop (e - 9)) ∧ rd 0 ((ds.take e).drop (e - 9)) < 1000000000 ∧ Ok (xs ++ [rd 0 ((ds.take e).drop (e - 9))]) := by
  have hlt : rd 0 ((ds.take e).drop (e - 9)) < 1000000000 := by
    have h1 := rd_lt ((hd.take e).drop (e - 9))
    have h2 : 10 ^ ((ds.take e).drop (e - 9)).length ≤ 10 ^ 9 := Nat.pow_le_pow_right (by omega) (chunk_len ds hle)
    omega
  refine ⟨?_, hlt, ho.append (Ok.cons hlt Ok.nil)⟩
  rw [val_snoc, drop_chunk ds (show e - 9 ≤ e by omega) hle, rd_append, hv, pow9]
  have e1 : (ds.drop e).length = 9 * xs.length := by simp; omega
  rw [e1, Nat.mul_comm]; omega

theorem ba_ext {a b : ByteArray} (h : a.data.toList = b.data.toList) : a = b := by
  obtain ⟨⟨x⟩⟩ := a
  obtain ⟨⟨y⟩⟩ := b
  simp only at h
  rw [h]

theorem extract_list (ds : List UInt8) (a b : Nat) : (⟨ds.toArray⟩ : ByteArray).extract a b = ⟨((ds.take b).drop a).toArray⟩ := by
  apply ba_ext
  rw [Lib.extract_data]
  simp [List.drop_take]

theorem trim_neg {ds : List UInt8} (h : Dig ds) (neg : Bool) : Lib.trimPrefix ((if neg then [45] else []) ++ ds) [45] = ds := by
  cases neg
  · simp only [Bool.false_eq_true, if_false, List.nil_append]
    unfold Lib.trimPrefix Lib.hasPrefix
    cases ds with
    | nil => rfl
    | cons c r =>
      have hc := h c (by simp)
      have : ([45] : List UInt8).isPrefixOf (c :: r) = false := by
        simp only [List.isPrefixOf, Bool.and_eq_false_iff]
        left
        rw [beq_eq_false_iff_ne]
        intro e
        rw [← e] at hc
        exact absurd hc.1 (by decide)
      rw [this]; rfl
  · unfold Lib.trimPrefix Lib.hasPrefix
    simp [List.isPrefixOf]

theorem bytes_below {w w' : World} {e : TypeId} {s : ByteArray} (h : w' = w ∨ w' = Lib.bytesWorld w e s) : Below w.heap.size w w' := by
  rcases h with rfl | rfl
  · exact Below.refl _ _
  · exact Joins.below_bytesWorld _ _ _ _ (Nat.le_refl _)

theorem Row.below {w w' : World} {B : Nat} {v : Value} {l : List Nat} (h : Row w B v l) (hb : Below w.heap.size w w') : Row w' B v l := by
  have hg : w.grownBy w' none := ⟨hb.os, hb.tape, hb.output, hb.size, fun k hk _ => hb.block k hk⟩
  exact World.ownsRow.kept (row := none) h hg (Classical.em _)

/-- The text of digits with a sign, or none. -/
def sgnd (neg : Bool) (ds : List UInt8) : List UInt8 := (if neg then [45] else []) ++ ds
theorem sgnd_len (neg : Bool) (ds : List UInt8) : (sgnd neg ds).length = ds.length + (if neg then 1 else 0) := by cases neg <;> simp [sgnd]

set_option maxHeartbeats 2000000 in
set_option maxRecDepth 100000 in
theorem read_any {w : World} (neg : Bool) {ds : List UInt8} (hd : Dig ds) (hlen : ds.length ≤ 4294967296) :
    Calls Tryz.prog 75 #[.string ⟨(sgnd neg ds).toArray⟩] w (RetW w (sg neg (rd 0 ds))) := by
  obtain ⟨i0, hi, hz0, hz1, hz2⟩ := info_parts info32
  have htp := Tryz.strings_TrimPrefix ⟨(sgnd neg ds).toArray⟩ ⟨#[45]⟩ (w.alloc (.cells #[.bool false, .slice none 0 0] 86))
  have e1 : Lib.trimPrefix (⟨(sgnd neg ds).toArray⟩ : ByteArray).data.toList (⟨#[45]⟩ : ByteArray).data.toList = ds := trim_neg hd neg
  rw [e1] at htp
  have hex := extract_list ds
  have hz1' : (⟨(sgnd neg ds).toArray⟩ : ByteArray).size = ds.length + (if neg then 1 else 0) := by show (sgnd neg ds).toArray.size = _; rw [List.size_toArray, sgnd_len]
  have hz2' : (⟨ds.toArray⟩ : ByteArray).size = ds.length := by show ds.toArray.size = _; rw [List.size_toArray]
  have HTP := Lib.hid htp
  clear htp e1
  obtain ⟨S, hS⟩ : ∃ S : ByteArray, S = ⟨(sgnd neg ds).toArray⟩ := ⟨_, rfl⟩
  obtain ⟨T, hT⟩ : ∃ T : ByteArray, T = ⟨ds.toArray⟩ := ⟨_, rfl⟩
  rw [← hS] at hz1' HTP ⊢
  rw [← hT] at hz2' HTP hex
  clear hS hT
  have HEX := Lib.hid hex
  clear hex
  obtain ⟨L, hL⟩ : ∃ L, L = ds.length := ⟨_, rfl⟩
  rw [← hL] at hz1' hz2' hlen
  have hnl : decide (L < L + (if neg then 1 else 0)) = neg := by cases neg <;> simp
  obtain ⟨M, hM⟩ : ∃ M, M = L + (if neg then 1 else 0) := ⟨_, rfl⟩
  rw [← hM] at hz1' hnl
  have HL := Lib.hid hL
  clear hL hM
  go_enter Tryz.func75, Tryz.ntmps75
  go_upto_region 3 with (go_at_call 112; refine HTP.out.mono ?_; rintro e w1 ⟨rfl, rfl⟩)
  obtain ⟨W, hW, hB, hsz, j1, j2⟩ := entB w 86 86 #[.bool false, .slice none 0 0] #[.bool neg, .slice none 0 0]
  rw [← hW]
  clear hW
  have HSZ := Lib.hid hsz
  have HB := Lib.hid hB
  have HJ1 := Lib.hid j1
  have HJ2 := Lib.hid j2
  clear hsz hB j1 j2 hnl
  go_wp2
  go_loopw [5] (fun u5 wr => ∃ (e : Int) (xs : List Nat) (v : Value), u5 = .int .i64 e ∧ e ≤ 4294967296 ∧ -9 ≤ e ∧ Hid (e = L - 9 * xs.length) ∧ Hid (val xs = rd 0 (ds.drop e.toNat)) ∧ Hid (Ok xs) ∧ Hid (Row wr (w.heap.size + 2) v xs) ∧ Hid (Blk wr w.heap.size 86 #[.bool false, .slice none 0 0]) ∧ Hid (Blk wr (w.heap.size + 1) 86 #[.bool neg, v]) ∧ Hid (Below w.heap.size w wr) ∧ Hid (w.heap.size + 2 ≤ wr.heap.size)) (fun u5 _ => (intOf u5).toNat)
  case atStart => exact ⟨L, [], _, rfl, by omega, by omega, Lib.hid (by simp), Lib.hid (by rw [Int.toNat_natCast, HL.out, List.drop_length]; rfl), Lib.hid Ok.nil, Lib.hid (Row.nil _ _), HJ1, HJ2, HB, Lib.hid (by rw [HSZ.out]; omega)⟩
  case round =>
    obtain ⟨e, xs, v, rfl, he1, he2, hE, hV, hO, hR, hJ1, hJ2, hK, hS⟩ := hrel
    obtain ⟨a, c, rfl⟩ := hR.out.len
    have y0 := hJ2.out.cell0
    have y1 := hJ2.out.cell1
    have hxl : xs.length ≤ 477218600 := by have := hE.out; omega
    generalize hk : xs.length = k at y1 hR hJ2 hxl
    have HKL := Lib.hid hk
    clear hk
    by_cases h0 : 0 < e
    · obtain ⟨n, rfl⟩ : ∃ n : Nat, e = (n : Int) := ⟨e.toNat, by omega⟩
      have hn0 : 0 < n := by omega
      have hnL : n ≤ L := by have := hE.out; omega
      have hmax : max (0 : Int) ((n : Int) - 9) = ((n - 9 : Nat) : Int) := by omega
      have hrc := rd_chunk (xs := xs) hd hn0 (by rw [← HL.out]; exact hnL) (by have := hE.out; rw [← HL.out]; omega) (by have := hV.out; rwa [Int.toNat_natCast] at this) hO.out
      have hcl := chunk_len ds (e := n) (by rw [← HL.out]; exact hnL)
      have hcd := (hd.take n).drop (n - 9)
      have hcn : (ds.take n).drop (n - 9) ≠ [] := by
        intro e; have := congrArg List.length e; simp at this; have := HL.out; omega
      have hpu := fun (V : World) => Tryz.strconv_ParseUint_10_at32_ok (T.extract (n - 9) n) (by rw [HEX.out]; show ((ds.take n).drop (n - 9)).toArray.size ≤ _; rw [List.size_toArray]; omega) _ (by rw [HEX.out]; exact parse32 hcd hcl hcn) V
      have hrlt := hrc.2.1
      have HRC := Lib.hid hrc
      clear hrc hcd hcn hcl
      generalize rd 0 ((ds.take n).drop (n - 9)) = y at *
      have HPU := Lib.hid hpu
      clear hpu
      have j2a := hJ2.out.lt
      have hne : some (w.heap.size + 1) ≠ (Value.slice a k c).ownBlock := hR.out.ne (by omega)
      have hne0 : some (w.heap.size) ≠ (Value.slice a k c).ownBlock := hR.out.ne (by omega)
      have HNE := Lib.hid hne
      have HNE0 := Lib.hid hne0
      clear hne hne0
      go_wp2_with (first
        | (go_at_call 113; refine (HPU.out _).mono ?_; rintro e w1 ⟨rfl, hw1⟩; have hb1 : Below wr.heap.size wr w1 := bytes_below hw1; have HJ1' := Lib.hid (hJ1.out.next hb1); have HJ2' := Lib.hid (hJ2.out.next hb1); have z0 := HJ2'.out.cell0; have z1 := HJ2'.out.cell1; have hR' : Row w1 (w.heap.size + 2) (.slice a k c) xs := hR.out.below hb1; have hown : w1.ownsRow (w.heap.size + 2) 143 1 (.slice a k c) k (xs.map fun (x : Nat) => Value.int .u32 x) := (by have h := hR'; unfold Row at h; rwa [HKL.out] at h))
        | (at_builtin; refine wpList_append_own _ rfl (.tmp 33) (.tmp 36) 84 rfl (w.heap.size + 2) 143 i0 (.int .u32 0) 1 4 Tryz.underlying84 hi hz0 hz1 hz2 rfl (by decide) (.slice a k c) k _ rfl (hown.alloc _) ⟨w1.heap.size, 0, none⟩ 1 1 [.int .u32 (y : Int)] rfl rfl (cell_new_u32 _ _ _) (by intro u hu; simp at hu; subst hu; rfl) (by unfold maxLen; omega) (by omega) (by have := hS.out; have := hb1.size; simp; omega) ?_; intro v' w2 hown1 hgrow1 hnil1; have hr1 : Row w2 (w.heap.size + 2) v' (xs ++ [y]) := Row.snoc (by rw [HKL.out]; exact hown1) rfl; obtain ⟨a', c', rfl⟩ := hr1.len; have g1 := ((HJ2'.out.alloc _).grown hgrow1 HNE.out).frozen 1; have g2 := ((HJ2'.out.alloc _).grown hgrow1 HNE.out).cell1))
      go_roundw
      case rel => exact ⟨(n : Int) - 9, xs ++ [y], _, rfl, by omega, by omega, Lib.hid (by have := hE.out; simp; omega), Lib.hid (by rw [HRC.out.1, show ((n : Int) - 9).toNat = n - 9 by omega]), Lib.hid HRC.out.2.2, Lib.hid (hr1.far (hr1.ne (by omega))), Lib.hid (((HJ1'.out.alloc _).grown hgrow1 HNE0.out).far (p := ⟨w.heap.size + 1, 1, none⟩) (by simp) _), Lib.hid (by simpa using ((HJ2'.out.alloc _).grown hgrow1 HNE.out).set_ 1 (.slice a' (xs ++ [y]).length c')), Lib.hid ((((hK.out.trans (hb1.mono hK.out.size)).alloc (Nat.le_trans hK.out.size hb1.size) _).grown hgrow1 (by have := hK.out.size; have := hb1.size; simp; omega) (fun q hq => by have := World.ownsRow.lt hR.out q hq; omega)).setCell (p := ⟨w.heap.size + 1, 1, none⟩) (by simp) _), Lib.hid (by have h1 := hgrow1.size; have h2 := hS.out; have h3 := hb1.size; simp [World.setCell] at h1 ⊢; omega)⟩
      case measure => simp [intOf]; omega
    · have hvv : val xs = rd 0 ds := by
        have := hV.out
        rw [show e.toNat = 0 by omega, List.drop_zero] at this
        exact this
      have HVV := Lib.hid hvv
      have hlim := hR.out.lim
      clear hvv
      go_wp2_with (go_at_call 114; refine (whole_any neg hlim hO.out).mono ?_; rintro e w1 ⟨r, rfl, hr, hb1⟩; obtain ⟨b4, a4, k4, p4, rfl⟩ := hr.parts; have o3 := hJ1.out.next hb1; have q0 := o3.cell0; have q1 := o3.cell1; have q2 := o3.frozen 0; have q3 := o3.frozen 1)
      have hB4 := o3.two (.bool b4) (.slice a4 k4 p4)
      have d0 := hB4.cell0
      have d1 := hB4.cell1
      refine bodyPost_ret (v := .agg #[.bool b4, .slice a4 k4 p4]) (by simp [results, Tryz.results75, go_sem, d0, d1]) rfl ⟨_, rfl, ?_, ?_⟩
      · rw [← HVV.out]; exact hr.two o3 (by decide) _ _
      · exact below_two (hK.out.trans (hb1.mono hK.out.size)) (Nat.le_refl _) _ _

end Go.Proofs.YtpmlmibceiolpaaGreatDoor

/- The contracts of exact.From and of the small methods of numbers: parts, wholeness, digits, text. -/
set_option linter.unusedSimpArgs false
set_option linter.unusedVariables false
namespace Go.Proofs.YtpmlmibceiolpaaGreatDoor
open Go.RowKit
open Go.Lib (decDigits itoa nDigits)

/-- A numerator and a denominator, in lowest terms or not. -/
def Pr (w : World) (v : Value) (m n : Int) : Prop := ∃ a b c d, v = .agg #[a, b, c, d] ∧ Wh w (.agg #[a, b]) m ∧ Wh w (.agg #[c, d]) n
theorem Nm.pr {w : World} {v : Value} {x : Rat} (h : Nm w v x) : Pr w v x.num x.den := h
theorem Pr.nm {w : World} {v : Value} {m n : Int} {x : Rat} (h : Pr w v m n) (hm : m = x.num) (hn : n = x.den) : Nm w v x := by subst hm; subst hn; exact h
theorem Pr.below {w w' : World} {v : Value} {m n : Int} (h : Pr w v m n) (hb : Below w.heap.size w w') : Pr w' v m n := by
  obtain ⟨a, b, c, d, h1, h2, h3⟩ := h
  exact ⟨a, b, c, d, h1, h2.below hb, h3.below hb⟩
theorem Pr.parts {w : World} {v : Value} {m n : Int} (h : Pr w v m n) : ∃ b a, ∃ k p : Nat, ∃ c e, ∃ l q : Nat, v = .agg #[.bool b, .slice a k p, .bool c, .slice e l q] ∧ Wh w (.agg #[.bool b, .slice a k p]) m ∧ Wh w (.agg #[.bool c, .slice e l q]) n := by
  obtain ⟨v1, v2, v3, v4, rfl, h1, h2⟩ := h
  obtain ⟨b, a, k, p, e1⟩ := h1.parts
  obtain ⟨c, e, l, q, e2⟩ := h2.parts
  injection e1 with e1
  injection e2 with e2
  simp at e1 e2
  obtain ⟨rfl, rfl⟩ := e1
  obtain ⟨rfl, rfl⟩ := e2
  exact ⟨b, a, k, p, c, e, l, q, rfl, h1, h2⟩
theorem Pr.four {w : World} {v : Value} {m n : Int} {g : Nat} {t : TypeId} {u0 u1 u2 u3 : Value} (h : Pr w v m n) (hb : Blk w g t #[u0, u1, u2, u3]) (ht : t ≠ 143) (x y z u : Value) : Pr ((((w.setCell ⟨g, 0, none⟩ x).setCell ⟨g, 1, none⟩ y).setCell ⟨g, 2, none⟩ z).setCell ⟨g, 3, none⟩ u) v m n := by
  obtain ⟨a, b, c, d, h1, h2, h3⟩ := h
  exact ⟨a, b, c, d, h1, h2.four hb ht x y z u, h3.four hb ht x y z u⟩
def RetP (w : World) (m n : Int) (e : Ending) (w' : World) : Prop := ∃ r, e = .returned r ∧ Pr w' r m n ∧ Below w.heap.size w w'

theorem index_none : ∀ (l : List UInt8), (∀ c ∈ l, c ≠ 47) → Lib.index l [47] = -1 := by
  intro l
  induction l with
  | nil => intro _; rfl
  | cons c r ih =>
    intro h
    have h1 := ih (fun x hx => h x (List.mem_cons_of_mem _ hx))
    have h2 := h c (List.mem_cons_self ..)
    simp only [Lib.index, h1]
    have : ([47] : List UInt8).isPrefixOf (c :: r) = false := by
      simp only [List.isPrefixOf, Bool.and_eq_false_iff]
      left; rw [beq_eq_false_iff_ne]; exact fun e => h2 e.symm
    rw [this]; rfl
theorem index_some : ∀ (a b : List UInt8), (∀ c ∈ a, c ≠ 47) → Lib.index (a ++ 47 :: b) [47] = a.length := by
  intro a
  induction a with
  | nil => intro b _; simp [Lib.index, List.isPrefixOf]
  | cons c r ih =>
    intro b h
    have h1 := ih b (fun x hx => h x (List.mem_cons_of_mem _ hx))
    have h2 := h c (List.mem_cons_self ..)
    simp only [List.cons_append, Lib.index, h1]
    have : ([47] : List UInt8).isPrefixOf (c :: (r ++ 47 :: b)) = false := by
      simp only [List.isPrefixOf, Bool.and_eq_false_iff]
      left; rw [beq_eq_false_iff_ne]; exact fun e => h2 e.symm
    rw [this]
    have : ((r.length : Int) == -1) = false := by rw [beq_eq_false_iff_ne]; omega
    rw [this]; simp

theorem cut_none {l : List UInt8} (h : ∀ c ∈ l, c ≠ 47) : Lib.cut l [47] = (l, [], false) := by
  unfold Lib.cut; rw [index_none l h]; rfl
theorem cut_some {a b : List UInt8} (h : ∀ c ∈ a, c ≠ 47) : Lib.cut (a ++ 47 :: b) [47] = (a, b, true) := by
  unfold Lib.cut
  rw [index_some a b h, if_pos (by omega)]
  simp

theorem sgnd_no {neg : Bool} {ds : List UInt8} (h : Dig ds) : ∀ c ∈ sgnd neg ds, c ≠ 47 := by
  intro c hc
  unfold sgnd at hc
  rcases List.mem_append.1 hc with h1 | h1
  · cases neg
    · cases h1
    · simp at h1; subst h1; decide
  · intro e; subst e
    exact absurd (h 47 h1).1 (by decide)

/-- A call of strings.Cut. -/
theorem cut_any {w : World} (l : List UInt8) (hg : Good w) (hl : l.length < 4294967281) {a b : List UInt8} {f : Bool} (hc : Lib.cut l [47] = (a, b, f)) :
    Calls Tryz.prog 74 #[.string ⟨l.toArray⟩, .string ⟨#[47]⟩] w (RetV w (.tuple #[.string ⟨a.toArray⟩, .string ⟨b.toArray⟩, .bool f])) := by
  obtain ⟨_, m, hm⟩ := hg
  refine (Tryz.strings_Cut ⟨l.toArray⟩ ⟨#[47]⟩ m w (by show l.toArray.size < _; rw [List.size_toArray]; exact hl) hm).mono ?_
  rintro e w' ⟨rfl, n, rfl⟩
  have e1 : Lib.cut (⟨l.toArray⟩ : ByteArray).data.toList (⟨#[47]⟩ : ByteArray).data.toList = (a, b, f) := hc
  rw [e1]
  exact ⟨rfl, (Drawn.of w n).below _⟩

set_option maxHeartbeats 1000000 in
set_option maxRecDepth 100000 in
/-- A text without a slash. -/
theorem from_whole {w : World} (neg : Bool) {ds : List UInt8} (hd : Dig ds) (hlen : ds.length ≤ 4294967000) (hg : Good w) :
    Calls Tryz.prog 43 #[.string ⟨(sgnd neg ds).toArray⟩] w (RetP w (sg neg (rd 0 ds)) 1) := by
  obtain ⟨W, hW, hB, hsz, j1⟩ := entA w 88 #[.bool false, .slice none 0 0, .bool false, .slice none 0 0]
  have HW := Lib.hid hW
  clear hW hsz
  have hcut := cut_any (w := W) (sgnd neg ds) (hg.below hB) (by rw [sgnd_len]; cases neg <;> simp <;> omega) (cut_none (sgnd_no hd))
  have HC := Lib.hid hcut
  have hrd := fun (V : World) => read_any (w := V) neg hd (by omega)
  have HR := Lib.hid hrd
  clear hcut hrd hg
  obtain ⟨S, hS⟩ : ∃ S : ByteArray, S = ⟨(sgnd neg ds).toArray⟩ := ⟨_, rfl⟩
  rw [← hS] at HC HR ⊢
  clear hS
  go_enter Tryz.func43, Tryz.ntmps43
  go_upto_region 1 with fail
  rw [← HW.out]
  go_wp2_with (first
    | (go_at_call 74; refine HC.out.mono ?_; rintro e w1 ⟨rfl, hb1⟩)
    | (go_at_call 75; refine (HR.out _).mono ?_; rintro e w2 ⟨r, rfl, hr, hb2⟩; obtain ⟨b4, a4, k4, p4, rfl⟩ := hr.parts)
    | (go_at_call 76; refine (small_any (n := 1) (by decide) (by decide)).mono ?_; rintro e w3 ⟨r3, rfl, hr3, hb3⟩; obtain ⟨b5, a5, k5, p5, rfl⟩ := hr3.parts; have hj := ((j1.next hb1).next hb2).next hb3; obtain ⟨c0, c1, c2, c3⟩ := hj.at4; obtain ⟨u0, u1, u2, u3⟩ := hj.fr4; have jw := Lib.hid (hj.four (.bool b4) (.slice a4 k4 p4) (.bool b5) (.slice a5 k5 p5)); have pw := Lib.hid (Pr.four ⟨_, _, _, _, rfl, hr.below hb3, hr3⟩ hj (by decide) (.bool b4) (.slice a4 k4 p4) (.bool b5) (.slice a5 k5 p5)); have pb := Lib.hid (next_below (next_below (next_below hB hb1) hb2) hb3); clear hr hr3))
  obtain ⟨d0, d1, d2, d3⟩ := jw.out.at4
  refine bodyPost_ret (v := .agg #[.bool b4, .slice a4 k4 p4, .bool b5, .slice a5 k5 p5]) (by simp [results, Tryz.results43, go_sem, d0, d1, d2, d3]) rfl ⟨_, rfl, pw.out, below_four pb.out (Nat.le_refl _) _ _ _ _⟩

set_option maxHeartbeats 1000000 in
set_option maxRecDepth 100000 in
/-- A text with a slash. -/
theorem from_frac {w : World} (neg neg2 : Bool) {ds es : List UInt8} (hd : Dig ds) (he : Dig es) (hlen : ds.length + es.length ≤ 4294967000) (hg : Good w) :
    Calls Tryz.prog 43 #[.string ⟨(sgnd neg ds ++ 47 :: sgnd neg2 es).toArray⟩] w (RetP w (sg neg (rd 0 ds)) (sg neg2 (rd 0 es))) := by
  obtain ⟨W, hW, hB, hsz, j1⟩ := entA w 88 #[.bool false, .slice none 0 0, .bool false, .slice none 0 0]
  have HW := Lib.hid hW
  clear hW hsz
  have hcut := cut_any (w := W) (sgnd neg ds ++ 47 :: sgnd neg2 es) (hg.below hB) (by simp only [List.length_append, List.length_cons]; rw [sgnd_len, sgnd_len]; cases neg <;> cases neg2 <;> simp <;> omega) (cut_some (sgnd_no hd))
  have HC := Lib.hid hcut
  have hrd := fun (V : World) => read_any (w := V) neg hd (by omega)
  have hrd2 := fun (V : World) => read_any (w := V) neg2 he (by omega)
  have HR := Lib.hid hrd
  have HR2 := Lib.hid hrd2
  clear hcut hrd hrd2 hg
  obtain ⟨Q, hQ⟩ : ∃ Q : ByteArray, Q = ⟨(sgnd neg ds ++ 47 :: sgnd neg2 es).toArray⟩ := ⟨_, rfl⟩
  obtain ⟨S, hS⟩ : ∃ S : ByteArray, S = ⟨(sgnd neg ds).toArray⟩ := ⟨_, rfl⟩
  obtain ⟨T, hT⟩ : ∃ T : ByteArray, T = ⟨(sgnd neg2 es).toArray⟩ := ⟨_, rfl⟩
  rw [← hQ] at HC ⊢
  rw [← hS, ← hT] at HC
  rw [← hS] at HR
  rw [← hT] at HR2
  clear hS hT hQ
  go_enter Tryz.func43, Tryz.ntmps43
  go_upto_region 1 with fail
  rw [← HW.out]
  go_wp2_with (first
    | (go_at_call 74; refine HC.out.mono ?_; rintro e w1 ⟨rfl, hb1⟩)
    | (go_at_call_of 75 (Value.string S); refine (HR.out _).mono ?_; rintro e w2 ⟨r, rfl, hr, hb2⟩; obtain ⟨b4, a4, k4, p4, rfl⟩ := hr.parts)
    | (go_at_call_of 75 (Value.string T); refine (HR2.out _).mono ?_; rintro e w3 ⟨r3, rfl, hr3, hb3⟩; obtain ⟨b5, a5, k5, p5, rfl⟩ := hr3.parts; have hj := ((j1.next hb1).next hb2).next hb3; obtain ⟨c0, c1, c2, c3⟩ := hj.at4; obtain ⟨u0, u1, u2, u3⟩ := hj.fr4; have jw := Lib.hid (hj.four (.bool b4) (.slice a4 k4 p4) (.bool b5) (.slice a5 k5 p5)); have pw := Lib.hid (Pr.four ⟨_, _, _, _, rfl, hr.below hb3, hr3⟩ hj (by decide) (.bool b4) (.slice a4 k4 p4) (.bool b5) (.slice a5 k5 p5)); have pb := Lib.hid (next_below (next_below (next_below hB hb1) hb2) hb3); clear hr hr3))
  obtain ⟨d0, d1, d2, d3⟩ := jw.out.at4
  refine bodyPost_ret (v := .agg #[.bool b4, .slice a4 k4 p4, .bool b5, .slice a5 k5 p5]) (by simp [results, Tryz.results43, go_sem, d0, d1, d2, d3]) rfl ⟨_, rfl, pw.out, below_four pb.out (Nat.le_refl _) _ _ _ _⟩

end Go.Proofs.YtpmlmibceiolpaaGreatDoor

/- The contracts of the small methods of numbers: parts, wholeness, digits, text, one. -/
set_option linter.unusedSimpArgs false
set_option linter.unusedVariables false
namespace Go.Proofs.YtpmlmibceiolpaaGreatDoor
open Go.RowKit
open Go.Lib (decDigits itoa nDigits)

set_option maxHeartbeats 1000000 in
set_option maxRecDepth 100000 in
theorem parts_any {w : World} {v : Value} {m n : Int} (h : Pr w v m n) : Calls Tryz.prog 131 #[v] w (RetW2 w m n) := by
  obtain ⟨b, a, k, p, c, e, l, q, rfl, h1, h2⟩ := h.parts
  obtain ⟨W, hW, hB, hsz, j1, j2, j3⟩ := entC w 88 86 86 #[.bool b, .slice a k p, .bool c, .slice e l q] #[.bool false, .slice none 0 0] #[.bool false, .slice none 0 0]
  have j3 : Blk W (w.heap.size + 1 + 1) 86 #[.bool false, .slice none 0 0] := j3
  have HW := Lib.hid hW
  clear hW hsz
  have m1 := h1.below hB
  have m2 := h2.below hB
  obtain ⟨x0, x1, x2, x3⟩ := j1.at4
  have e30 := j2.cell0
  have e31 := j2.cell1
  have e3f := j2.frozen 0
  have e3g := j2.frozen 1
  have e40 := j3.cell0
  have e41 := j3.cell1
  have e4f := j3.frozen 0
  have e4g := j3.frozen 1
  have pb := put_both (Z := W) j2 j3 (by omega) (.bool b) (.slice a k p) (.bool c) (.slice e l q)
  have pq := m1.both j2 j3 (by omega) (.bool b) (.slice a k p) (.bool c) (.slice e l q)
  have pr := m2.both j2 j3 (by omega) (.bool b) (.slice a k p) (.bool c) (.slice e l q)
  have pB : Below w.heap.size w _ := below_both (g8 := w.heap.size + 1) (g9 := w.heap.size + 1 + 1) hB (by omega) (by omega) (.bool b) (.slice a k p) (.bool c) (.slice e l q)
  have HH := Lib.hid (And.intro pb (And.intro pq (And.intro pr pB)))
  clear pb pq pr pB h h1 h2 m1 m2
  go_enter Tryz.func131, Tryz.ntmps131
  go_upto_region 1 with fail
  rw [← HW.out]
  go_region_held3 (fun w' => w'.cell? ⟨w.heap.size, 0, none⟩ = some (.bool b) ∧ w'.cell? ⟨w.heap.size, 1, none⟩ = some (.slice a k p) ∧ w'.cell? ⟨w.heap.size, 2, none⟩ = some (.bool c) ∧ w'.cell? ⟨w.heap.size, 3, none⟩ = some (.slice e l q)) (first | ((try dsimp only); refine ⟨?_, ?_, ?_, ?_⟩ <;> repeat' (first | with_reducible assumption | with_reducible refine cell_drew ?_ | with_reducible refine cell_far ?_ (by omega) _)) | go_keep) (first
    | fail)
  generalize ((((W.setCell ⟨w.heap.size + 1, 0, none⟩ (.bool b)).setCell ⟨w.heap.size + 1, 1, none⟩ (.slice a k p)).setCell ⟨w.heap.size + 1 + 1, 0, none⟩ (.bool c)).setCell ⟨w.heap.size + 1 + 1, 1, none⟩ (.slice e l q)) = w9 at *
  obtain ⟨⟨g1, g2⟩, pq, pr, pB⟩ := HH.out
  have p0 := g1.cell0
  have p1 := g1.cell1
  have p2 := g2.cell0
  have p3 := g2.cell1
  go_wp2_with fail
  refine bodyPost_ret (v := .tuple #[.agg #[.bool b, .slice a k p], .agg #[.bool c, .slice e l q]]) (by simp [results, Tryz.results131, go_sem, p0, p1, p2, p3]) rfl ⟨_, _, rfl, pq.drew, pr.drew, pB.drew⟩

theorem one_limbs {n : Int} (h : (limbs n.natAbs).length = 1) : ∃ x, limbs n.natAbs = [x] ∧ x = n.natAbs := by
  match hl : limbs n.natAbs, h with
  | [x], _ =>
    have h3 := val_limbs n.natAbs
    rw [hl] at h3
    simp [val] at h3
    exact ⟨x, rfl, h3⟩

set_option maxHeartbeats 1000000 in
set_option maxRecDepth 100000 in
theorem isint_any {w : World} {v : Value} {m n : Int} (h : Pr w v m n) : Calls Tryz.prog 109 #[v] w (RetV w (.bool (decide (n.natAbs = 1)))) := by
  obtain ⟨b, a, k, p, c, e, l, q, rfl, h1, h2⟩ := h.parts
  obtain ⟨W, hW, hB, hsz, j1⟩ := entA w 88 #[.bool b, .slice a k p, .bool c, .slice e l q]
  have HW := Lib.hid hW
  clear hW hsz
  obtain ⟨a2, q2, e2, hlim⟩ := h2.form
  injection e2 with e2
  simp at e2
  obtain ⟨hcc, rfl, rfl, rfl⟩ := e2
  clear hcc
  have hlim := hlim.below hB
  obtain ⟨x0, x1, x2, x3⟩ := j1.at4
  clear h h1 h2
  by_cases hl : (limbs n.natAbs).length = 1
  · obtain ⟨x, hx, hxn⟩ := one_limbs hl
    rw [hl] at x3 j1 HW ⊢
    rw [hx] at hlim
    obtain ⟨bl, ol, rfl, q0⟩ := hlim.at_one
    have HXN := Lib.hid hxn
    clear hlim hl hx hxn
    by_cases hx1 : x = 1
    · have ed : decide (n.natAbs = 1) = true := by simp; rw [← HXN.out]; exact hx1
      rw [ed]
      subst hx1
      go_enter Tryz.func109, Tryz.ntmps109
      go_upto_region 1 with fail
      rw [← HW.out]
      go_wp2
      go_ret
      exact ⟨rfl, hB⟩
    · have ed : decide (n.natAbs = 1) = false := by simp; rw [← HXN.out]; exact hx1
      rw [ed]
      have hx2 : ((x : Int) == 1) = false := by simp; omega
      go_enter Tryz.func109, Tryz.ntmps109
      go_upto_region 1 with fail
      rw [← HW.out]
      go_wp2
      go_ret
      exact ⟨rfl, hB⟩
  · have ed : decide (n.natAbs = 1) = false := by
      simp; intro e; apply hl; rw [e]; rfl
    rw [ed]
    generalize (limbs n.natAbs).length = kk at *
    have hk2 : ((kk : Int) == 1) = false := by simp; omega
    clear hlim ed
    go_enter Tryz.func109, Tryz.ntmps109
    go_upto_region 1 with fail
    rw [← HW.out]
    go_wp2
    go_ret
    exact ⟨rfl, hB⟩

set_option maxHeartbeats 1000000 in
set_option maxRecDepth 100000 in
theorem fits_any {w : World} {v : Value} {m n : Int} (d : Int) (h : Pr w v m n) (s1 : Fit m) (s2 : Fit n) (hg : Good w) : Calls Tryz.prog 72 #[v, .int .i64 d] w (RetV w (.bool (decide ((nDigits m.natAbs : Int) ≤ d) && decide ((nDigits n.natAbs : Int) ≤ d)))) := by
  obtain ⟨b, a, k, p, c, e, l, q, rfl, h1, h2⟩ := h.parts
  obtain ⟨W, hW, hB, hsz, j1⟩ := entA w 88 #[.bool b, .slice a k p, .bool c, .slice e l q]
  have HW := Lib.hid hW
  clear hW hsz
  obtain ⟨x0, x1, x2, x3⟩ := j1.at4
  have c1 := digits_any (h1.below hB) s1 (hg.below hB)
  have c2 := fun (V : World) h => digits_any (w := V) (h2.below (hB.trans (h.mono hB.size))) s2 ((hg.below hB).below h)
  generalize nDigits m.natAbs = d1 at *
  generalize nDigits n.natAbs = d2 at *
  have C1 := Lib.hid c1
  have C2 := Lib.hid c2
  clear c1 c2 h h1 h2 hg
  by_cases hd1 : (d1 : Int) ≤ d
  · have e1 : decide ((d1 : Int) ≤ d) = true := by simpa using hd1
    rw [e1, Bool.true_and]
    go_enter Tryz.func72, Tryz.ntmps72
    go_upto_region 1 with fail
    rw [← HW.out]
    go_wp2_with (first
      | (go_at_call_of 108 (Value.agg #[Value.bool b, Value.slice a k p]); refine C1.out.mono ?_; rintro e w1 ⟨rfl, hb1⟩; have i1 := j1.next hb1; obtain ⟨y0, y1, y2, y3⟩ := i1.at4; have tok := hb1)
      | (go_at_call 108; refine (C2.out _ hb1).mono ?_; rintro e w2 ⟨rfl, hb2⟩))
    go_ret
    exact ⟨rfl, (hB.trans (hb1.mono hB.size)).trans (hb2.mono (Nat.le_trans hB.size hb1.size))⟩
  · have e1 : decide ((d1 : Int) ≤ d) = false := by simpa using hd1
    rw [e1, Bool.false_and]
    go_enter Tryz.func72, Tryz.ntmps72
    go_upto_region 1 with fail
    rw [← HW.out]
    go_wp2_with (go_at_call 108; refine C1.out.mono ?_; rintro e w1 ⟨rfl, hb1⟩)
    go_ret
    exact ⟨rfl, hB.trans (hb1.mono hB.size)⟩

/-- The canonical text of a number. -/
def ratText (x : Rat) : List UInt8 := itoa x.num ++ (if x.den = 1 then [] else 47 :: decDigits x.den)

theorem nDigits_limbs (n : Nat) : nDigits n ≤ 9 * (limbs n).length + 1 := by
  have h := shown_len (l := limbs n) (k := 0) (limbs_ok n)
  rcases Nat.eq_zero_or_pos n with h0 | h0
  · subst h0; rw [Lib.nDigits_small (by decide)]; omega
  · have h1 := limbs_length_pos h0
    unfold shown at h
    rw [if_neg (by omega), List.drop_zero, val_limbs, Lib.decDigits_length] at h
    exact h
theorem itoa_len (n : Int) : (itoa n).length ≤ nDigits n.natAbs + 1 := by
  unfold itoa
  split
  · rw [List.length_cons, Lib.decDigits_length]; omega
  · rw [Lib.decDigits_length, show n.toNat = n.natAbs by omega]; omega

set_option maxHeartbeats 1000000 in
set_option maxRecDepth 100000 in
theorem num_text {w : World} {v : Value} {x : Rat} (h : Nm w v x) (s : Sz 268435456 x) (hg : Good w) : Calls Tryz.prog 73 #[v] w (RetV w (.string ⟨(ratText x).toArray⟩)) := by
  obtain ⟨b, a, k, p, c, e, l, q, rfl, h1, h2⟩ := h.parts
  obtain ⟨W, hW, hB, hsz, j1⟩ := entA w 88 #[.bool b, .slice a k p, .bool c, .slice e l q]
  have HW := Lib.hid hW
  clear hW hsz
  obtain ⟨x0, x1, x2, x3⟩ := j1.at4
  have isi := isint_any (h.pr.below hB)
  have c1 := fun (V : World) hh => text_any (w := V) (h1.below (hB.trans (Below.mono hh hB.size))) (Fit.of_len s.1 (by omega)) ((hg.below hB).below hh)
  have c2 := fun (V : World) hh => text_any (w := V) (h2.below (hB.trans (Below.mono hh hB.size))) (Fit.of_len s.den (by omega)) ((hg.below hB).below hh)
  have b1 := itoa_len x.num
  have b2 := itoa_len (x.den : Int)
  have b3 := nDigits_limbs x.num.natAbs
  have b4 := nDigits_limbs (x.den : Int).natAbs
  have b5 := s.1
  have b6 := s.den
  have ht : ratText x = itoa x.num ++ (if x.den = 1 then [] else 47 :: itoa x.den) := by unfold ratText; rw [Lib.itoa_nonneg]
  rw [ht]
  have sz1 : (⟨(itoa x.num).toArray⟩ : ByteArray).size = (itoa x.num).length := by show (itoa x.num).toArray.size = _; rw [List.size_toArray]
  have sz2 : (⟨(itoa (x.den : Int)).toArray⟩ : ByteArray).size = (itoa (x.den : Int)).length := by show (itoa (x.den : Int)).toArray.size = _; rw [List.size_toArray]
  have hcat : (⟨(itoa x.num).toArray⟩ : ByteArray) ++ ⟨#[47]⟩ ++ ⟨(itoa (x.den : Int)).toArray⟩ = ⟨(itoa x.num ++ 47 :: itoa (x.den : Int)).toArray⟩ := by
    rw [show (#[47] : Array UInt8) = [47].toArray from rfl, ByteArray.mk_append_mk, ByteArray.mk_append_mk, List.append_assoc]; rfl
  by_cases hd : x.den = 1
  · rw [if_pos hd, List.append_nil]
    have ed : decide ((x.den : Int).natAbs = 1) = true := by simpa using hd
    rw [ed] at isi
    generalize (⟨(itoa x.num).toArray⟩ : ByteArray) = S at *
    have C1 := Lib.hid c1
    have IS := Lib.hid isi
    clear c1 c2 isi b1 b2 b3 b4 b5 b6 ht sz1 sz2 hcat hd ed h h1 h2 hg s
    go_enter Tryz.func73, Tryz.ntmps73
    go_upto_region 1 with fail
    rw [← HW.out]
    go_wp2_with (first
      | (go_at_call 109; refine IS.out.mono ?_; rintro e w1 ⟨rfl, hb1⟩; have i1 := j1.next hb1; obtain ⟨y0, y1, y2, y3⟩ := i1.at4)
      | (go_at_call 110; refine (C1.out _ hb1).mono ?_; rintro e w2 ⟨rfl, hb2⟩))
    go_ret
    exact ⟨rfl, (hB.trans (hb1.mono hB.size)).trans (hb2.mono (Nat.le_trans hB.size hb1.size))⟩
  · rw [if_neg hd]
    have ed : decide ((x.den : Int).natAbs = 1) = false := by simpa using hd
    rw [ed] at isi
    generalize hS : (⟨(itoa x.num).toArray⟩ : ByteArray) = S at *
    generalize hT : (⟨(itoa (x.den : Int)).toArray⟩ : ByteArray) = T at *
    have bS : S.size ≤ 3000000000 := by omega
    have bT : T.size ≤ 3000000000 := by omega
    have C1 := Lib.hid c1
    have C2 := Lib.hid c2
    have IS := Lib.hid isi
    have HCAT := Lib.hid hcat
    clear c1 c2 isi b1 b2 b3 b4 b5 b6 ht sz1 sz2 hcat hd ed hS hT h h1 h2 hg s
    have bU : (S ++ ⟨#[47]⟩).size ≤ 3000000001 := by rw [ByteArray.size_append]; show S.size + 1 ≤ _; omega
    have bV : (⟨#[47]⟩ : ByteArray).size = 1 := rfl
    go_enter Tryz.func73, Tryz.ntmps73
    go_upto_region 1 with fail
    rw [← HW.out]
    go_upto_region 3 with (go_at_call 109; refine IS.out.mono ?_; rintro e w1 ⟨rfl, hb1⟩)
    have j1 := j1.next hb1
    have hBn := hB.trans (hb1.mono hB.size)
    have C1' := Lib.hid (fun (V : World) hh => C1.out V (hb1.trans (Below.mono hh hb1.size)))
    have C2' := Lib.hid (fun (V : World) hh => C2.out V (hb1.trans (Below.mono hh hb1.size)))
    have hb1s := hb1.size
    have hBs := hB.size
    have C1 := C1'
    have C2 := C2'
    clear hB hb1 x0 x1 x2 x3
    have hB0 : Below w1.heap.size w1 w1.drew := (Below.refl _ _).drew
    refine wp_region_list 8 (by kernel_rfl) (by kernel_rfl) [] [fun v _ => v = .pointer (some ⟨w.heap.size, 0, none⟩), fun v _ => v = .agg #[.bool b, .slice a k p], fun v _ => v = .string S, fun v _ => v = .string (S ++ ⟨#[47]⟩), fun v _ => v = .pointer (some ⟨w.heap.size, 2, none⟩), fun v _ => v = .agg #[.bool c, .slice e l q], fun v _ => v = .string T, fun v _ => v = .string (S ++ ⟨#[47]⟩ ++ T)] (by simp only [List.take_succ_cons, List.take_zero]; rfl) (by simp only [List.drop_succ_cons, List.drop_zero]; rfl) (fun vals => by simp only [fam, Act.put, List.setIfInBounds_toArray, List.set_cons_zero, List.set_cons_succ, if_true]; rfl) (by repeat' (first | exact Stab.eq _ _ | exact Stab.wh _ _ | exact Stab.nm _ _ | exact Stab.new _ _ | exact Stab.newn _ _ | exact trivial | apply And.intro)) trivial ?_ ?_
    · refine ⟨?_, ?_, ?_, ?_, ?_, ?_, ?_, ?_, trivial⟩
      all_goals
        intro vals wv hB hp
        dsimp only
        (try simp [preOk, Region.binds] at hp)
        have hb := next_below hB0 hB
        have hbl0 := j1.next hb
        have hc0_0 := hbl0.cell 0
        have hc0_1 := hbl0.cell 1
        have hc0_2 := hbl0.cell 2
        have hc0_3 := hbl0.cell 3
        simp at hc0_0 hc0_1 hc0_2 hc0_3
        clear hB
      case refine_3 =>
        have q0 := hp
        generalize vals 1 = x1 at *
        subst q0
        go_wp2_with ((go_at_call 110; refine (C1.out _ hb).mono ?_; rintro e w2 ⟨rfl, hb2⟩))
        exact ⟨rfl, _, rfl, rfl, hb2, trivial⟩
      case refine_4 =>
        have q0 := hp
        generalize vals 2 = x2 at *
        subst q0
        go_wp2
        exact ⟨rfl, _, rfl, rfl, Below.refl _ _, trivial⟩
      case refine_7 =>
        obtain ⟨q0, q1⟩ := hp
        generalize vals 5 = x5 at *
        subst q0
        generalize vals 2 = x2 at *
        subst q1
        go_wp2_with ((go_at_call 110; refine (C2.out _ hb).mono ?_; rintro e w2 ⟨rfl, hb2⟩))
        exact ⟨rfl, _, rfl, rfl, hb2, trivial⟩
      case refine_8 =>
        obtain ⟨q0, q1⟩ := hp
        generalize vals 3 = x3 at *
        subst q0
        generalize vals 6 = x6 at *
        subst q1
        go_wp2
        exact ⟨rfl, _, rfl, rfl, Below.refl _ _, trivial⟩
      all_goals
        go_wp2
        (first | exact ⟨rfl, _, rfl, rfl, Below.refl _ _, trivial⟩ | (refine ⟨rfl, _, ?_, rfl, Below.refl _ _, trivial⟩; simp only [Act.put, List.setIfInBounds_toArray, List.set_cons_zero, List.set_cons_succ, hp]))
    · rintro vals wv hB ⟨p0, p1, p2, p3, p4, p5, p6, p7, _⟩ hne
      have hb := next_below hB0 hB
      have hbN := hBn.trans (hb.mono hBn.size)
      simp at p7
      generalize vals 7 = v7 at *
      subst p7
      clear hB hne p0 p1 p2 p3 p4 p5 p6
      go_wp2
      go_ret
      exact ⟨by rw [HCAT.out]; rfl, hbN⟩

end Go.Proofs.YtpmlmibceiolpaaGreatDoor
