/- The contract of whole.Check: the error of a text of an integer. -/
import Derived.Test.YtpmlmibceiolpaaGreatDoorNum3
import Derived.Lib.ConvBytes
import Derived.WalkMore
set_option linter.unusedSimpArgs false
set_option linter.unusedVariables false
namespace Go.Proofs.YtpmlmibceiolpaaGreatDoor
open Go.RowKit
open Go.Lib (decDigits itoa nDigits)

/-- A byte that is a digit. -/
def isDig (c : UInt8) : Bool := decide (48 ≤ c.toNat) && decide (c.toNat ≤ 57)

/-- The text without its sign. -/
def unsgn (l : List UInt8) : List UInt8 := Lib.trimPrefix l [45]

/-- The error of a text of an integer. -/
def wcheck (l : List UInt8) : Int :=
  if l = [48] then 0 else
  match unsgn l with
  | [] => 5
  | c :: r => if c = 48 then 5 else if (c :: r).all isDig then (if 2000 < (c :: r).length then 6 else 0) else 5

theorem all_take_succ {l : List UInt8} {k : Nat} (h : (l.take k).all isDig = true) (hk : k < l.length) (hc : isDig l[k] = true) : (l.take (k + 1)).all isDig = true := by
  rw [List.take_succ_eq_append_getElem hk, List.all_append, h]; simp [hc]
theorem all_not {l : List UInt8} {k : Nat} (hk : k < l.length) (hc : isDig l[k] = false) : l.all isDig = false := by
  rw [List.all_eq_false]
  exact ⟨l[k], List.getElem_mem hk, by simp [hc]⟩

theorem ba_list (l : List UInt8) : (⟨l.toArray⟩ : ByteArray).toList = l := ByteArray.toList_mk l
theorem ba_data (l : List UInt8) : (⟨l.toArray⟩ : ByteArray).data.toList = l := rfl
theorem ba_size (l : List UInt8) : (⟨l.toArray⟩ : ByteArray).size = l.length := by show l.toArray.size = _; rw [List.size_toArray]

set_option maxHeartbeats 2000000 in
set_option maxRecDepth 100000 in
theorem check_any {w : World} (l : List UInt8) (hl : l.length ≤ 4294967296) :
    Calls Tryz.prog 130 #[.string ⟨l.toArray⟩] w (RetV w (.int .i64 (wcheck l))) := by
  have htp := Tryz.strings_TrimPrefix ⟨l.toArray⟩ ⟨#[45]⟩ w
  have e1 : Lib.trimPrefix (⟨l.toArray⟩ : ByteArray).data.toList (⟨#[45]⟩ : ByteArray).data.toList = unsgn l := rfl
  rw [e1] at htp
  have hul : (unsgn l).length ≤ 4294967296 := by
    unfold unsgn Lib.trimPrefix
    split
    · simp; omega
    · exact hl
  have HTP := Lib.hid htp
  clear htp e1
  by_cases h0 : l = [48]
  · subst h0
    have ew : wcheck [48] = 0 := rfl
    have eu : unsgn [48] = [48] := rfl
    rw [eu] at HTP
    rw [ew]
    clear ew eu hul
    go_enter Tryz.func130, Tryz.ntmps130
    go_wp2
    go_step3
    go_wp2_with (go_at_call 112; refine HTP.out.mono ?_; rintro e w1 ⟨rfl, rfl⟩)
    go_step3
    go_wp2
    rw [Exit.noGoto_ret]
    go_ret
    exact ⟨rfl, Below.refl _ _⟩
  · have hS0 : ((⟨l.toArray⟩ : ByteArray).toList == [48]) = false := by
      rw [beq_eq_false_iff_ne, ba_list]; exact h0
    have hw : wcheck l = match unsgn l with
      | [] => 5
      | c :: r => if c = 48 then 5 else if (c :: r).all isDig then (if 2000 < (c :: r).length then 6 else 0) else 5 := by
      unfold wcheck; rw [if_neg h0]
    rw [hw]
    generalize (⟨l.toArray⟩ : ByteArray) = S at *
    clear hw h0 hl
    generalize unsgn l = d at *
    clear l
    cases d with
    | nil =>
      go_enter Tryz.func130, Tryz.ntmps130
      go_wp2
      go_step3
      go_wp2_with (go_at_call 112; refine HTP.out.mono ?_; rintro e w1 ⟨rfl, rfl⟩)
      go_step3
      go_wp2
      rw [Exit.noGoto_ret]
      go_ret
      exact ⟨rfl, Below.refl _ _⟩
    | cons c r =>
      by_cases hc : c = 48
      · subst hc
        have e5 : (match (48 :: r : List UInt8) with | [] => (5 : Int) | c :: r => if c = 48 then 5 else if (c :: r).all isDig then (if 2000 < (c :: r).length then 6 else 0) else 5) = 5 := by simp
        rw [e5]
        clear e5
        go_enter Tryz.func130, Tryz.ntmps130
        go_wp2
        go_step3
        go_wp2_with (go_at_call 112; refine HTP.out.mono ?_; rintro e w1 ⟨rfl, rfl⟩)
        go_step3
        go_wp2
        rw [Exit.noGoto_ret]
        go_ret
        exact ⟨rfl, Below.refl _ _⟩
      · have e5 : (match (c :: r : List UInt8) with | [] => (5 : Int) | c :: r => if c = 48 then 5 else if (c :: r).all isDig then (if 2000 < (c :: r).length then 6 else 0) else 5) = (if (c :: r).all isDig then (if 2000 < (c :: r).length then 6 else 0) else 5) := by simp only [if_neg hc]
        rw [e5]
        clear e5
        have hconv := Lib.run_convert_string_bytes (P := Tryz.prog) w 9 22 5 ⟨(c :: r).toArray⟩ Tryz.underlying9 Tryz.underlying22 Tryz.underlying5
        have hbb := Joins.below_bytesWorld w.heap.size w 5 ⟨(c :: r).toArray⟩ (Nat.le_refl _)
        have hcell := Lib.bytesWorld_cell w 5 ⟨(c :: r).toArray⟩
        have hc48' : ∀ h : 0 < (⟨(c :: r).toArray⟩ : ByteArray).size, ((((⟨(c :: r).toArray⟩ : ByteArray)[0]'h).toNat : Int) == 48) = false := by
          intro h
          rw [beq_eq_false_iff_ne]
          intro e
          apply hc
          have h1 : ((⟨(c :: r).toArray⟩ : ByteArray)[0]'h) = c := rfl
          rw [h1] at e
          exact UInt8.toNat_inj.1 (show c.toNat = (48 : UInt8).toNat by have : (48 : UInt8).toNat = 48 := rfl; omega)
        have hsz := ba_size (c :: r)
        have hne : (⟨(c :: r).toArray⟩ : ByteArray).toList.isEmpty = false := by rw [ba_list]; rfl
        have hpos : 0 < (c :: r).length := by simp
        rw [ba_data, hsz] at hcell
        rw [hsz] at hconv
        generalize (⟨(c :: r).toArray⟩ : ByteArray) = T at *
        generalize c :: r = d at *
        clear hc
        generalize grownCap w d.length 0 5 = cap at *
        generalize Lib.bytesWorld w 5 T = W1 at *
        generalize hn : d.length = n at *
        have HN := Lib.hid hn
        have HCELL := Lib.hid hcell
        have HB := Lib.hid hbb
        clear hn hcell hbb
        obtain ⟨res, hres⟩ : ∃ res : Int, res = (if d.all isDig then (if 2000 < n then 6 else 0) else 5) := ⟨_, rfl⟩
        rw [← hres]
        have HRES := Lib.hid hres
        clear hres
        have hT0 : 0 < T.size := by rw [hsz]; exact hpos
        have hc48 := hc48' hT0
        clear hc48'
        go_enter Tryz.func130, Tryz.ntmps130
        go_wp2
        go_step3
        go_wp2_with (go_at_call 112; refine HTP.out.mono ?_; rintro e w1 ⟨rfl, hw1⟩; subst hw1)
        go_step3
        go_wp2
        clear hc48 hne hconv hS0
        go_loop [4, 12] (fun u4 u12 => ∃ k : Nat, k ≤ n ∧ u4 = .int .i64 0 ∧ u12 = .int .i64 k ∧ Hid ((d.take k).all isDig = true)) (fun _ u12 => n - (intOf u12).toNat)
        case atStart => exact ⟨0, Nat.zero_le _, rfl, rfl, Lib.hid (by simp)⟩
        case round =>
          obtain ⟨k, hk, rfl, rfl, hK⟩ := hrel
          by_cases hlt : k < n
          · have gx := HCELL.out k hlt
            have hkd : k < d.length := by rw [HN.out]; exact hlt
            have eg : d.getD k 0 = d[k] := by simp [List.getD, List.getElem?_eq_getElem hkd]
            rw [eg] at gx
            have hyes := Lib.hid (fun h => all_take_succ hK.out hkd h)
            have hno := Lib.hid (fun h => all_not hkd h)
            have hy : d[k].toNat < 256 := d[k].toNat_lt
            generalize d[k] = y at *
            clear eg hkd
            have hdig : isDig y = true ↔ (48 ≤ y.toNat ∧ y.toNat ≤ 57) := by unfold isDig; simp
            have HDIG := Lib.hid hdig
            clear hdig
            rcases (show y.toNat < 48 ∨ 57 < y.toNat ∨ (48 ≤ y.toNat ∧ y.toNat ≤ 57) by omega) with h1 | h1 | ⟨h1, h2⟩
            · have hf := hno.out (by rw [Bool.eq_false_iff]; intro h; have := HDIG.out.1 h; omega)
              have hr5 : res = 5 := by rw [HRES.out, hf]; rfl
              have HR5 := Lib.hid hr5
              clear hr5
              generalize y.toNat = yn at *
              have hb1 : ((yn : Int) < 48) := by omega
              clear hf hyes hno HDIG
              go_wp2
              try rw [Exit.noGoto_ret]
              go_ret
              exact ⟨ret_int HR5.out.symm, HB.out⟩
            · have hf := hno.out (by rw [Bool.eq_false_iff]; intro h; have := HDIG.out.1 h; omega)
              have hr5 : res = 5 := by rw [HRES.out, hf]; rfl
              have HR5 := Lib.hid hr5
              clear hr5
              generalize y.toNat = yn at *
              have hb1 : ¬ ((yn : Int) < 48) := by omega
              have hb2 : (57 < (yn : Int)) := by omega
              clear hf hyes hno HDIG
              go_wp2
              try rw [Exit.noGoto_ret]
              go_ret
              exact ⟨ret_int HR5.out.symm, HB.out⟩
            · have hy2 := Lib.hid (hyes.out (HDIG.out.2 ⟨h1, h2⟩))
              generalize y.toNat = yn at *
              have hb1 : ¬ ((yn : Int) < 48) := by omega
              have hb2 : ¬ (57 < (yn : Int)) := by omega
              clear hyes hno HDIG
              go_wp2
              go_round
              case rel => exact ⟨k + 1, by omega, rfl, by go_num, hy2⟩
              case measure => simp [intOf]; omega
          · obtain rfl : k = n := by omega
            have hall : d.all isDig = true := by
              have := hK.out
              rwa [← HN.out, List.take_length] at this
            by_cases hbig : 2000 < k
            · have hb1 : (2000 < (k : Int)) := by omega
              have e6 : res = 6 := by rw [HRES.out, hall]; simp [hbig]
              have HR5 := Lib.hid e6
              clear e6 hall
              go_wp2
              try rw [Exit.noGoto_ret]
              go_ret
              exact ⟨ret_int HR5.out.symm, HB.out⟩
            · have hb1 : ¬ (2000 < (k : Int)) := by omega
              have e6 : res = 0 := by rw [HRES.out, hall]; simp [hbig]
              have HR5 := Lib.hid e6
              clear e6 hall
              go_wp2
              try rw [Exit.noGoto_ret]
              go_ret
              exact ⟨ret_int HR5.out.symm, HB.out⟩

end Go.Proofs.YtpmlmibceiolpaaGreatDoor

/- The contract of ratio.read: a text as a number, or its error. -/
set_option linter.unusedSimpArgs false
set_option linter.unusedVariables false
namespace Go.Proofs.YtpmlmibceiolpaaGreatDoor
open Go.RowKit
open Go.Lib (decDigits itoa nDigits)

/-- What a text of an integer reads as. -/
def sread (l : List UInt8) : Int := sg (Lib.hasPrefix l [45]) (rd 0 (unsgn l))

theorem unsgn_form (l : List UInt8) : l = sgnd (Lib.hasPrefix l [45]) (unsgn l) := by
  unfold unsgn Lib.trimPrefix sgnd
  cases h : Lib.hasPrefix l [45]
  · simp
  · unfold Lib.hasPrefix at h
    cases l with
    | nil => simp [List.isPrefixOf] at h
    | cons c r =>
      simp [List.isPrefixOf] at h
      subst h; simp

theorem dig_of_all {l : List UInt8} (h : l.all isDig = true) : Dig l := by
  intro c hc
  have := List.all_eq_true.1 h c hc
  unfold isDig at this
  simpa using this

theorem wcheck_form {l : List UInt8} (h : wcheck l ≠ 5) : ∃ neg ds, l = sgnd neg ds ∧ Dig ds ∧ ds ≠ [] ∧ sread l = sg neg (rd 0 ds) := by
  unfold wcheck at h
  by_cases h0 : l = [48]
  · subst h0
    exact ⟨false, [48], rfl, dig_of_all (by decide), by simp, rfl⟩
  · rw [if_neg h0] at h
    refine ⟨Lib.hasPrefix l [45], unsgn l, unsgn_form l, ?_, ?_, rfl⟩
    · cases hu : unsgn l with
      | nil => rw [hu] at h; exact absurd rfl h
      | cons c r =>
        rw [hu] at h
        simp only at h
        by_cases hc : c = 48
        · rw [if_pos hc] at h; exact absurd rfl h
        · rw [if_neg hc] at h
          by_cases ha : (c :: r).all isDig = true
          · exact dig_of_all ha
          · rw [if_neg ha] at h; exact absurd rfl h
    · intro e; rw [e] at h; exact absurd rfl h

theorem sgnd_ge (neg : Bool) (ds : List UInt8) : ds.length ≤ (sgnd neg ds).length := by rw [sgnd_len]; omega

/-- The error of a text of a number. -/
def rerr (l : List UInt8) : Int :=
  if (Lib.cut l [47]).2.2 = true then
    if wcheck (Lib.cut l [47]).1 = 5 ∨ wcheck (Lib.cut l [47]).2.1 = 5 then 5
    else if sread (Lib.cut l [47]).2.1 ≤ 1 ∨ Nat.gcd (sread (Lib.cut l [47]).1).natAbs (sread (Lib.cut l [47]).2.1).natAbs ≠ 1 then 5
    else if 2000 < nDigits (sread (Lib.cut l [47]).1).natAbs ∨ 2000 < nDigits (sread (Lib.cut l [47]).2.1).natAbs then 6 else 0
  else if wcheck l = 5 then 5 else if 2000 < nDigits (sread l).natAbs then 6 else 0
/-- Its number. -/
def rval (l : List UInt8) : Rat := if (Lib.cut l [47]).2.2 = true then Rat.divInt (sread (Lib.cut l [47]).1) (sread (Lib.cut l [47]).2.1) else (sread l : Rat)

/-- What read hands back. -/
def RetR (w : World) (err : Int) (x : Rat) (e : Ending) (w' : World) : Prop :=
  ∃ b a, ∃ k p : Nat, ∃ c f, ∃ l q : Nat, e = .returned (.agg #[.bool b, .slice a k p, .bool c, .slice f l q, .int .i64 err]) ∧ (err = 0 → Nm w' (.agg #[.bool b, .slice a k p, .bool c, .slice f l q]) x) ∧ Below w.heap.size w w'

theorem Blk.at5 {w : World} {g : Nat} {t : TypeId} {u0 u1 u2 u3 u4 : Value} (h : Blk w g t #[u0, u1, u2, u3, u4]) : w.cell? ⟨g, 0, none⟩ = some u0 ∧ w.cell? ⟨g, 1, none⟩ = some u1 ∧ w.cell? ⟨g, 2, none⟩ = some u2 ∧ w.cell? ⟨g, 3, none⟩ = some u3 ∧ w.cell? ⟨g, 4, none⟩ = some u4 :=
  ⟨by simpa using h.cell 0, by simpa using h.cell 1, by simpa using h.cell 2, by simpa using h.cell 3, by simpa using h.cell 4⟩
theorem Blk.fr5 {w : World} {g : Nat} {t : TypeId} {cs : Array Value} (h : Blk w g t cs) : w.frozen? ⟨g, 0, none⟩ = false ∧ w.frozen? ⟨g, 1, none⟩ = false ∧ w.frozen? ⟨g, 2, none⟩ = false ∧ w.frozen? ⟨g, 3, none⟩ = false ∧ w.frozen? ⟨g, 4, none⟩ = false :=
  ⟨h.frozen 0, h.frozen 1, h.frozen 2, h.frozen 3, h.frozen 4⟩
theorem Blk.five {w : World} {g : Nat} {t : TypeId} {u0 u1 u2 u3 u4 : Value} (h : Blk w g t #[u0, u1, u2, u3, u4]) (x y z u v : Value) : Blk (((((w.setCell ⟨g, 0, none⟩ x).setCell ⟨g, 1, none⟩ y).setCell ⟨g, 2, none⟩ z).setCell ⟨g, 3, none⟩ u).setCell ⟨g, 4, none⟩ v) g t #[x, y, z, u, v] := by
  simpa using ((((h.set_ 0 x).set_ 1 y).set_ 2 z).set_ 3 u).set_ 4 v
theorem below_five {B : Nat} {a w : World} {g : Nat} (h : Below B a w) (hg : B ≤ g) (x y z u v : Value) : Below B a (((((w.setCell ⟨g, 0, none⟩ x).setCell ⟨g, 1, none⟩ y).setCell ⟨g, 2, none⟩ z).setCell ⟨g, 3, none⟩ u).setCell ⟨g, 4, none⟩ v) :=
  (below_four h hg x y z u).setCell (p := ⟨g, 4, none⟩) hg v
theorem Nm.five {w : World} {v : Value} {n : Rat} {g : Nat} {t : TypeId} {u0 u1 u2 u3 u4 : Value} (h : Nm w v n) (hb : Blk w g t #[u0, u1, u2, u3, u4]) (ht : t ≠ 143) (x y z u s : Value) : Nm (((((w.setCell ⟨g, 0, none⟩ x).setCell ⟨g, 1, none⟩ y).setCell ⟨g, 2, none⟩ z).setCell ⟨g, 3, none⟩ u).setCell ⟨g, 4, none⟩ s) v n := by
  obtain ⟨a, b, c, d, h1, h2, h3⟩ := h
  have far : ∀ {y : Value} {n : Int}, Wh w y n → Wh (((((w.setCell ⟨g, 0, none⟩ x).setCell ⟨g, 1, none⟩ y).setCell ⟨g, 2, none⟩ z).setCell ⟨g, 3, none⟩ u).setCell ⟨g, 4, none⟩ s) y n → True := fun _ _ => trivial
  have key : ∀ {v : Value} {n : Int}, Wh w v n → Wh (((((w.setCell ⟨g, 0, none⟩ x).setCell ⟨g, 1, none⟩ y).setCell ⟨g, 2, none⟩ z).setCell ⟨g, 3, none⟩ u).setCell ⟨g, 4, none⟩ s) v n := by
    rintro v n ⟨sv, hv, hl⟩
    exact ⟨sv, hv, ((((hl.far hb ht x).far (hb.set_ 0 x) ht y).far ((hb.set_ 0 x).set_ 1 y) ht z).far (((hb.set_ 0 x).set_ 1 y).set_ 2 z) ht u).far ((((hb.set_ 0 x).set_ 1 y).set_ 2 z).set_ 3 u) ht s⟩
  exact ⟨a, b, c, d, h1, key h2, key h3⟩

set_option maxHeartbeats 2000000 in
set_option maxRecDepth 100000 in
/-- A text that is malformed at once. -/
theorem rread_form {w : World} {l n d : List UInt8} {f : Bool} (hcut : Lib.cut l [47] = (n, d, f)) (hl : l.length ≤ 4294960000) (hnl : n.length ≤ 4294960000) (hdl : d.length ≤ 4294960000) (hg : Good w) (h5 : wcheck n = 5 ∨ (f = true ∧ wcheck d = 5)) (x : Rat) :
    Calls Tryz.prog 102 #[.string ⟨l.toArray⟩] w (RetR w 5 x) := by
  obtain ⟨W, hW, hB, hsz, j1⟩ := entA w 150 #[.bool false, .slice none 0 0, .bool false, .slice none 0 0, .int .i64 0]
  have HW := Lib.hid hW
  clear hW hsz
  have hc := cut_any (w := W) l (hg.below hB) (by omega) hcut
  have c1 := fun (V : World) => check_any (w := V) n (by omega)
  have c2 := fun (V : World) => check_any (w := V) d (by omega)
  have hone : ((⟨#[49]⟩ : ByteArray)) = ⟨#[49]⟩ := rfl
  generalize hwn : wcheck n = wn at *
  generalize hwd : wcheck d = wd at *
  obtain ⟨L, hL⟩ : ∃ L : ByteArray, L = ⟨l.toArray⟩ := ⟨_, rfl⟩
  obtain ⟨N, hN⟩ : ∃ N : ByteArray, N = ⟨n.toArray⟩ := ⟨_, rfl⟩
  obtain ⟨D, hD⟩ : ∃ D : ByteArray, D = ⟨d.toArray⟩ := ⟨_, rfl⟩
  rw [← hL] at hc ⊢
  rw [← hN, ← hD] at hc
  rw [← hN] at c1
  rw [← hD] at c2
  have HC := Lib.hid hc
  have C1 := Lib.hid c1
  have C2 := Lib.hid c2
  clear hc c1 c2 hwn hwd hL hN hD hcut hg hone
  go_enter Tryz.func102, Tryz.ntmps102
  go_upto_region 1 with fail
  rw [← HW.out]
  by_cases hw5 : wn = 5
  · subst hw5
    clear h5
    cases f
    all_goals
      go_upto_region 5 with (first
        | (go_at_call 74; refine HC.out.mono ?_; rintro e w1 ⟨rfl, hb1⟩)
        | (go_at_call 130; refine (C1.out _).mono ?_; rintro e w2 ⟨rfl, hb2⟩))
      have hb := hB.trans ((hb1.trans (hb2.mono hb1.size)).mono hB.size)
      have i1 := (j1.next hb1).next hb2
      obtain ⟨q0, q1, q2, q3, q4⟩ := i1.at5
      obtain ⟨u0, u1, u2, u3, u4⟩ := i1.fr5
      go_wp2
      have hj := i1.five (.bool false) (.slice none 0 0) (.bool false) (.slice none 0 0) (.int .i64 5)
      obtain ⟨d0, d1, d2, d3, d4⟩ := hj.at5
      refine bodyPost_ret (v := .agg #[.bool false, .slice none 0 0, .bool false, .slice none 0 0, .int .i64 5]) (by simp [results, Tryz.results102, go_sem, d0, d1, d2, d3, d4]) rfl ⟨_, _, _, _, _, _, _, _, rfl, fun h => absurd h (by decide), below_five hb (Nat.le_refl _) _ _ _ _ _⟩
  · obtain ⟨rfl, rfl⟩ := h5.resolve_left hw5
    have hw5' : (wn == 5) = false := by simpa using hw5
    clear h5 hw5
    go_upto_region 5 with (first
      | (go_at_call 74; refine HC.out.mono ?_; rintro e w1 ⟨rfl, hb1⟩)
      | (go_at_call_of 130 (Value.string N); refine (C1.out _).mono ?_; rintro e w2 ⟨rfl, hb2⟩; have tok := hb2)
      | (go_at_call 130; refine (C2.out _).mono ?_; rintro e w3 ⟨rfl, hb3⟩))
    have hb12 := hb1.trans (hb2.mono hb1.size)
    have hb := hB.trans ((hb12.trans (hb3.mono hb12.size)).mono hB.size)
    have i1 := ((j1.next hb1).next hb2).next hb3
    obtain ⟨q0, q1, q2, q3, q4⟩ := i1.at5
    obtain ⟨u0, u1, u2, u3, u4⟩ := i1.fr5
    go_wp2
    have hj := i1.five (.bool false) (.slice none 0 0) (.bool false) (.slice none 0 0) (.int .i64 5)
    obtain ⟨d0, d1, d2, d3, d4⟩ := hj.at5
    refine bodyPost_ret (v := .agg #[.bool false, .slice none 0 0, .bool false, .slice none 0 0, .int .i64 5]) (by simp [results, Tryz.results102, go_sem, d0, d1, d2, d3, d4]) rfl ⟨_, _, _, _, _, _, _, _, rfl, fun h => absurd h (by decide), below_five hb (Nat.le_refl _) _ _ _ _ _⟩

end Go.Proofs.YtpmlmibceiolpaaGreatDoor

/- The contract of ratio.read at well-formed texts. -/
set_option linter.unusedSimpArgs false
set_option linter.unusedVariables false
namespace Go.Proofs.YtpmlmibceiolpaaGreatDoor
open Go.RowKit
open Go.Lib (decDigits itoa nDigits)

theorem rd_len {ds : List UInt8} (h : Dig ds) {k : Nat} (hk : ds.length ≤ k) : (limbs (rd 0 ds)).length ≤ k := by
  refine Nat.le_trans (limbs_len_le (k := ds.length) ?_) hk
  have h1 := rd_lt h
  have h2 : 10 ^ ds.length ≤ 1000000000 ^ ds.length := Nat.pow_le_pow_left (by omega) _
  omega
theorem sg_len {neg : Bool} {ds : List UInt8} (h : Dig ds) {k : Nat} (hk : ds.length ≤ k) : (limbs (sg neg (rd 0 ds)).natAbs).length ≤ k := by
  rw [sg_natAbs]; exact rd_len h hk

set_option maxHeartbeats 2000000 in
set_option maxRecDepth 100000 in
/-- A text without a slash. -/
theorem rread_int {w : World} {neg : Bool} {ds : List UInt8} (hd : Dig ds) (hl : ds.length ≤ 268435000) (hg : Good w) (h5 : wcheck (sgnd neg ds) ≠ 5) :
    Calls Tryz.prog 102 #[.string ⟨(sgnd neg ds).toArray⟩] w (RetR w (if 2000 < nDigits (sg neg (rd 0 ds)).natAbs then 6 else 0) (sg neg (rd 0 ds) : Int)) := by
  obtain ⟨W, hW, hB, hsz, j1⟩ := entA w 150 #[.bool false, .slice none 0 0, .bool false, .slice none 0 0, .int .i64 0]
  have HW := Lib.hid hW
  clear hW hsz
  have hll : (sgnd neg ds).length ≤ 268435001 := by rw [sgnd_len]; cases neg <;> simp <;> omega
  have hc := cut_any (w := W) (sgnd neg ds) (hg.below hB) (by omega) (cut_none (sgnd_no hd))
  have c1 := fun (V : World) => check_any (w := V) (sgnd neg ds) (by omega)
  have c2 := fun (V : World) => check_any (w := V) [49] (by decide)
  have cf := fun (V : World) hh => from_whole (w := V) neg hd (by omega) ((hg.below hB).below hh)
  have e49 : wcheck [49] = 0 := rfl
  rw [e49] at c2
  clear e49
  have hfm : Fit (sg neg (rd 0 ds)) := Fit.of_len (sg_len hd hl) (by omega)
  have hf1 : Fit (1 : Int) := Nat.le_trans (limbs_len_le (k := 1) (by decide)) (by decide)
  have hx : ((sg neg (rd 0 ds) : Int) : Rat).num = sg neg (rd 0 ds) := Rat.num_intCast _
  have hx2 : ((((sg neg (rd 0 ds) : Int) : Rat).den : Nat) : Int) = 1 := by rw [Rat.den_intCast]; rfl
  generalize hwn : wcheck (sgnd neg ds) = wn at *
  generalize sg neg (rd 0 ds) = m at *
  have hw5 : (wn == 5) = false := by simpa using h5
  obtain ⟨L, hL⟩ : ∃ L : ByteArray, L = ⟨(sgnd neg ds).toArray⟩ := ⟨_, rfl⟩
  rw [← hL] at hc c1 cf ⊢
  have HC := Lib.hid hc
  have C1 := Lib.hid c1
  have C2 := Lib.hid c2
  have CF := Lib.hid cf
  have HX := Lib.hid (And.intro hx hx2)
  have HFM := Lib.hid (And.intro hfm hf1)
  clear hc c1 c2 cf hx hx2 hfm hf1 hwn hL h5
  have HG := Lib.hid (hg.below hB)
  clear hg
  obtain ⟨res, hres⟩ : ∃ res : Int, res = (if 2000 < nDigits m.natAbs then 6 else 0) := ⟨_, rfl⟩
  rw [← hres]
  have HRES := Lib.hid hres
  clear hres
  go_enter Tryz.func102, Tryz.ntmps102
  go_upto_region 1 with fail
  rw [← HW.out]
  go_upto_region 6 with (first
    | (go_at_call 74; refine HC.out.mono ?_; rintro e w1 ⟨rfl, hb1⟩)
    | (go_at_call_of 130 (Value.string L); refine (C1.out _).mono ?_; rintro e w2 ⟨rfl, hb2⟩; have tok := hb2)
    | (go_at_call 130; refine (C2.out _).mono ?_; rintro e w3 ⟨rfl, hb3⟩))
  have hb12 := hb1.trans (hb2.mono hb1.size)
  have hb := hb12.trans (hb3.mono hb12.size)
  have i1 := j1.next hb
  clear hb1 hb2 hb3 hb12 tok
  go_upto_region 7 with (go_at_call 43; refine (CF.out _ hb).mono ?_; rintro e w4 ⟨r, rfl, hr, hb4⟩; obtain ⟨b, a, k, p, c, f, l, q, rfl, hn, hdn⟩ := hr.parts)
  have g6 := Blk.new w4 150 #[.bool b, .slice a k p, .bool c, .slice f l q, .int .i64 0]
  have hr6 := hr.below ((Below.refl _ _).alloc (Nat.le_refl _) (.cells #[.bool b, .slice a k p, .bool c, .slice f l q, .int .i64 0] 150))
  have hb6 : Below W.heap.size W (w4.alloc (.cells #[.bool b, .slice a k p, .bool c, .slice f l q, .int .i64 0] 150)) := (next_below hb hb4).alloc (next_below hb hb4).size _
  have i6 := (i1.next hb4).alloc (.cells #[.bool b, .slice a k p, .bool c, .slice f l q, .int .i64 0] 150)
  have hS4 : W.heap.size ≤ w4.heap.size := (next_below hb hb4).size
  generalize w4.heap.size = z6 at *
  generalize (w4.alloc (.cells #[.bool b, .slice a k p, .bool c, .slice f l q, .int .i64 0] 150)) = w6 at *
  obtain ⟨x0, x1, x2, x3, x4⟩ := g6.at5
  go_upto_region 8 with (go_at_call 131; refine (parts_any hr6).mono ?_; rintro e w7 ⟨vq, vr, rfl, hq, hqr, hb7⟩; obtain ⟨bq, aq, kq, pq, rfl⟩ := hq.parts; obtain ⟨bz, az, kz, pz, rfl⟩ := hqr.parts)
  have g8 := ((g6.next hb7).alloc (.cells #[.bool bq, .slice aq kq pq] 86)).alloc (.cells #[.bool bz, .slice az kz pz] 86)
  have i8 := ((i6.next hb7).alloc (.cells #[.bool bq, .slice aq kq pq] 86)).alloc (.cells #[.bool bz, .slice az kz pz] 86)
  have hb8 : Below W.heap.size W ((w7.alloc (.cells #[.bool bq, .slice aq kq pq] 86)).alloc (.cells #[.bool bz, .slice az kz pz] 86)) := ((next_below hb6 hb7).alloc (next_below hb6 hb7).size _).alloc (by have := (next_below hb6 hb7).size; simp; omega) _
  have hr8 := (hr6.below hb7).below (((Below.refl _ _).alloc (Nat.le_refl _) (.cells #[.bool bq, .slice aq kq pq] 86)).alloc (by simp) (.cells #[.bool bz, .slice az kz pz] 86))
  clear x0 x1 x2 x3 x4 hr6 hq hqr g6 i6 hr hn hdn
  generalize ((w7.alloc (.cells #[.bool bq, .slice aq kq pq] 86)).alloc (.cells #[.bool bz, .slice az kz pz] 86)) = w8 at *
  go_upto_region 9 with (go_at_call 76; refine (small_any (n := 1) (by decide) (by decide)).mono ?_; rintro e w9 ⟨rs, rfl, hrs, hb9⟩; obtain ⟨bs, ag, ks, ps, rfl⟩ := hrs.parts)
  have g9 := (g8.next hb9).alloc (.cells #[.bool bs, .slice ag ks ps] 86)
  have i9 := (i8.next hb9).alloc (.cells #[.bool bs, .slice ag ks ps] 86)
  have hb10 : Below W.heap.size W (w9.alloc (.cells #[.bool bs, .slice ag ks ps] 86)) := (next_below hb8 hb9).alloc (next_below hb8 hb9).size _
  have hr9 := (hr8.below hb9).below ((Below.refl _ _).alloc (Nat.le_refl _) (.cells #[.bool bs, .slice ag ks ps] 86))
  clear hr8 hrs g8 i8
  generalize (w9.alloc (.cells #[.bool bs, .slice ag ks ps] 86)) = w10 at *
  go_quiet (fail)
  rename_i nq
  have hf := fits_any (w := w10.drewN nq) 2000 (hr9.below ((Drawn.of w10 nq).below _)) HFM.out.1 HFM.out.2 ((HG.out.below hb10).below ((Drawn.of w10 nq).below _))
  have hd1 : nDigits (1 : Int).natAbs = 1 := Lib.nDigits_small (by decide)
  rw [hd1] at hf
  have hb10' : Below W.heap.size W (w10.drewN nq) := next_below hb10 ((Drawn.of w10 nq).below _)
  have g9' := g9.drewN nq
  have i9' := i9.drewN nq
  have hr9' := hr9.below ((Drawn.of w10 nq).below _)
  clear g9 i9 hr9 hb10 hd1
  obtain ⟨x0, x1, x2, x3, x4⟩ := g9'.at5
  generalize w10.drewN nq = w11 at *
  by_cases hbig : 2000 < nDigits m.natAbs
  · have er : res = 6 := by rw [HRES.out, if_pos hbig]
    have ed : (decide ((nDigits m.natAbs : Int) ≤ 2000) && decide (((1 : Nat) : Int) ≤ 2000)) = false := by
      have : decide ((nDigits m.natAbs : Int) ≤ 2000) = false := by simp; omega
      rw [this]; rfl
    rw [ed] at hf
    have HF := Lib.hid hf
    have HER := Lib.hid er
    clear hf ed er hbig
    go_upto_region 12 with (go_at_call 72; refine HF.out.mono ?_; rintro e w12 ⟨rfl, hb12⟩)
    have i12 := i9'.next hb12
    obtain ⟨q0, q1, q2, q3, q4⟩ := i12.at5
    obtain ⟨u0, u1, u2, u3, u4⟩ := i12.fr5
    go_wp2
    have hj := i12.five (.bool false) (.slice none 0 0) (.bool false) (.slice none 0 0) (.int .i64 6)
    obtain ⟨d0, d1, d2, d3, d4⟩ := hj.at5
    refine bodyPost_ret (v := .agg #[.bool false, .slice none 0 0, .bool false, .slice none 0 0, .int .i64 6]) (by simp [results, Tryz.results102, go_sem, d0, d1, d2, d3, d4]) rfl ⟨_, _, _, _, _, _, _, _, by rw [HER.out], fun h => absurd (HER.out.symm.trans h) (by decide), below_five (hB.trans ((next_below hb10' hb12).mono hB.size)) (Nat.le_refl _) _ _ _ _ _⟩
  · have er : res = 0 := by rw [HRES.out, if_neg hbig]
    have ed : (decide ((nDigits m.natAbs : Int) ≤ 2000) && decide (((1 : Nat) : Int) ≤ 2000)) = true := by
      have : decide ((nDigits m.natAbs : Int) ≤ 2000) = true := by simp; omega
      rw [this]; rfl
    rw [ed] at hf
    have HF := Lib.hid hf
    have HER := Lib.hid er
    clear hf ed er hbig
    go_upto_region 13 with (go_at_call 72; refine HF.out.mono ?_; rintro e w12 ⟨rfl, hb12⟩)
    have i12 := i9'.next hb12
    have g12 := g9'.next hb12
    have hr12 := hr9'.below hb12
    clear x0 x1 x2 x3 x4
    obtain ⟨x0, x1, x2, x3, x4⟩ := g12.at5
    obtain ⟨q0, q1, q2, q3, q4⟩ := i12.at5
    obtain ⟨u0, u1, u2, u3, u4⟩ := i12.fr5
    go_wp2
    have hj := i12.five (.bool b) (.slice a k p) (.bool c) (.slice f l q) (.int .i64 0)
    obtain ⟨d0, d1, d2, d3, d4⟩ := hj.at5
    refine bodyPost_ret (v := .agg #[.bool b, .slice a k p, .bool c, .slice f l q, .int .i64 0]) (by simp [results, Tryz.results102, go_sem, d0, d1, d2, d3, d4]) rfl ⟨_, _, _, _, _, _, _, _, by rw [HER.out], fun _ => (hr12.nm HX.out.1.symm HX.out.2.symm).five i12 (by decide) _ _ _ _ _, below_five (hB.trans ((next_below hb10' hb12).mono hB.size)) (Nat.le_refl _) _ _ _ _ _⟩

end Go.Proofs.YtpmlmibceiolpaaGreatDoor
