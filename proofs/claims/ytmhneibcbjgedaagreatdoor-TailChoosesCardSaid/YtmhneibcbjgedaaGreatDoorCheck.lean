/- The contract of whole.Check: the error of a text of an integer. -/
import Derived.Test.YtmhneibcbjgedaaGreatDoorNum3
import Derived.Lib.ConvBytes
import Derived.WalkMore
set_option linter.unusedSimpArgs false
set_option linter.unusedVariables false
namespace Go.Proofs.YtmhneibcbjgedaaGreatDoor
open Go.RowKit
open Go.Lib (decDigits itoa nDigits)

/-- A byte that is a digit. -/
def isDig (c : UInt8) : Bool := decide (48 ≤ c.toNat) && decide (c.toNat ≤ 57)

/-- The text without its sign. -/
def unsgn (l : List UInt8) : List UInt8 := Lib.trimPrefix l [45]

/-- The error of a text of an integer. -/
def wcheck (l : List UInt8) : Int :=
  if l = [48] then 0 else
  match unsgn l with
  | [] => 5
  | c :: r => if c = 48 then 5 else if (c :: r).all isDig then (if 2000 < (c :: r).length then 6 else 0) else 5

theorem all_take_succ {l : List UInt8} {k : Nat} (h : (l.take k).all isDig = true) (hk : k < l.length) (hc : isDig l[k] = true) : (l.take (k + 1)).all isDig = true := by
  rw [List.take_succ_eq_append_getElem hk, List.all_append, h]; simp [hc]
theorem all_not {l : List UInt8} {k : Nat} (hk : k < l.length) (hc : isDig l[k] = false) : l.all isDig = false := by
  rw [List.all_eq_false]
  exact ⟨l[k], List.getElem_mem hk, by simp [hc]⟩

theorem ba_list (l : List UInt8) : (⟨l.toArray⟩ : ByteArray).toList = l := ByteArray.toList_mk l
theorem ba_data (l : List UInt8) : (⟨l.toArray⟩ : ByteArray).data.toList = l := rfl
theorem ba_size (l : List UInt8) : (⟨l.toArray⟩ : ByteArray).size = l.length := by show l.toArray.size = _; rw [List.size_toArray]

set_option maxHeartbeats 2000000 in
set_option maxRecDepth 100000 in
theorem check_any {w : World} (l : List UInt8) (hl : l.length ≤ 4294967296) :
    Calls Tryz.prog 124 #[.string ⟨l.toArray⟩] w (RetV w (.int .i64 (wcheck l))) := by
  have htp := Tryz.strings_TrimPrefix ⟨l.toArray⟩ ⟨#[45]⟩ w
  have e1 : Lib.trimPrefix (⟨l.toArray⟩ : ByteArray).data.toList (⟨#[45]⟩ : ByteArray).data.toList = unsgn l := rfl
  rw [e1] at htp
  have hul : (unsgn l).length ≤ 4294967296 := by
    unfold unsgn Lib.trimPrefix
    split
    · simp; omega
    · exact hl
  have HTP := Lib.hid htp
  clear htp e1
  by_cases h0 : l = [48]
  · subst h0
    have ew : wcheck [48] = 0 := rfl
    have eu : unsgn [48] = [48] := rfl
    rw [eu] at HTP
    rw [ew]
    clear ew eu hul
    go_enter Tryz.func124, Tryz.ntmps124
    go_wp2
    go_step3
    go_wp2_with (go_at_call 144; refine HTP.out.mono ?_; rintro e w1 ⟨rfl, rfl⟩)
    go_step3
    go_wp2
    rw [Exit.noGoto_ret]
    go_ret
    exact ⟨rfl, Below.refl _ _⟩
  · have hS0 : ((⟨l.toArray⟩ : ByteArray).toList == [48]) = false := by
      rw [beq_eq_false_iff_ne, ba_list]; exact h0
    have hw : wcheck l = match unsgn l with
      | [] => 5
      | c :: r => if c = 48 then 5 else if (c :: r).all isDig then (if 2000 < (c :: r).length then 6 else 0) else 5 := by
      unfold wcheck; rw [if_neg h0]
    rw [hw]
    generalize (⟨l.toArray⟩ : ByteArray) = S at *
    clear hw h0 hl
    generalize unsgn l = d at *
    clear l
    cases d with
    | nil =>
      go_enter Tryz.func124, Tryz.ntmps124
      go_wp2
      go_step3
      go_wp2_with (go_at_call 144; refine HTP.out.mono ?_; rintro e w1 ⟨rfl, rfl⟩)
      go_step3
      go_wp2
      rw [Exit.noGoto_ret]
      go_ret
      exact ⟨rfl, Below.refl _ _⟩
    | cons c r =>
      by_cases hc : c = 48
      · subst hc
        have e5 : (match (48 :: r : List UInt8) with | [] => (5 : Int) | c :: r => if c = 48 then 5 else if (c :: r).all isDig then (if 2000 < (c :: r).length then 6 else 0) else 5) = 5 := by simp
        rw [e5]
        clear e5
        go_enter Tryz.func124, Tryz.ntmps124
        go_wp2
        go_step3
        go_wp2_with (go_at_call 144; refine HTP.out.mono ?_; rintro e w1 ⟨rfl, rfl⟩)
        go_step3
        go_wp2
        rw [Exit.noGoto_ret]
        go_ret
        exact ⟨rfl, Below.refl _ _⟩
      · have e5 : (match (c :: r : List UInt8) with | [] => (5 : Int) | c :: r => if c = 48 then 5 else if (c :: r).all isDig then (if 2000 < (c :: r).length then 6 else 0) else 5) = (if (c :: r).all isDig then (if 2000 < (c :: r).length then 6 else 0) else 5) := by simp only [if_neg hc]
        rw [e5]
        clear e5
        have hconv := Lib.run_convert_string_bytes (P := Tryz.prog) w 9 116 5 ⟨(c :: r).toArray⟩ Tryz.underlying9 Tryz.underlying116 Tryz.underlying5
        have hbb := Joins.below_bytesWorld w.heap.size w 5 ⟨(c :: r).toArray⟩ (Nat.le_refl _)
        have hcell := Lib.bytesWorld_cell w 5 ⟨(c :: r).toArray⟩
        have hc48' : ∀ h : 0 < (⟨(c :: r).toArray⟩ : ByteArray).size, ((((⟨(c :: r).toArray⟩ : ByteArray)[0]'h).toNat : Int) == 48) = false := by
          intro h
          rw [beq_eq_false_iff_ne]
          intro e
          apply hc
          have h1 : ((⟨(c :: r).toArray⟩ : ByteArray)[0]'h) = c := rfl
          rw [h1] at e
          exact UInt8.toNat_inj.1 (show c.toNat = (48 : UInt8).toNat by have : (48 : UInt8).toNat = 48 := rfl; omega)
        have hsz := ba_size (c :: r)
        have hne : (⟨(c :: r).toArray⟩ : ByteArray).toList.isEmpty = false := by rw [ba_list]; rfl
        have hpos : 0 < (c :: r).length := by simp
        rw [ba_data, hsz] at hcell
        rw [hsz] at hconv
        generalize (⟨(c :: r).toArray⟩ : ByteArray) = T at *
        generalize c :: r = d at *
        clear hc
        generalize grownCap w d.length 0 5 = cap at *
        generalize Lib.bytesWorld w 5 T = W1 at *
        generalize hn : d.length = n at *
        have HN := Lib.hid hn
        have HCELL := Lib.hid hcell
        have HB := Lib.hid hbb
        clear hn hcell hbb
        obtain ⟨res, hres⟩ : ∃ res : Int, res = (if d.all isDig then (if 2000 < n then 6 else 0) else 5) := ⟨_, rfl⟩
        rw [← hres]
        have HRES := Lib.hid hres
        clear hres
        have hT0 : 0 < T.size := by rw [hsz]; exact hpos
        have hc48 := hc48' hT0
        clear hc48'
        go_enter Tryz.func124, Tryz.ntmps124
        go_wp2
        go_step3
        go_wp2_with (go_at_call 144; refine HTP.out.mono ?_; rintro e w1 ⟨rfl, hw1⟩; subst hw1)
        go_step3
        go_wp2
        clear hc48 hne hconv hS0
        go_loop [4, 12] (fun u4 u12 => ∃ k : Nat, k ≤ n ∧ u4 = .int .i64 0 ∧ u12 = .int .i64 k ∧ Hid ((d.take k).all isDig = true)) (fun _ u12 => n - (intOf u12).toNat)
        case atStart => exact ⟨0, Nat.zero_le _, rfl, rfl, Lib.hid (by simp)⟩
        case round =>
          obtain ⟨k, hk, rfl, rfl, hK⟩ := hrel
          by_cases hlt : k < n
          · have gx := HCELL.out k hlt
            have hkd : k < d.length := by rw [HN.out]; exact hlt
            have eg : d.getD k 0 = d[k] := by simp [List.getD, List.getElem?_eq_getElem hkd]
            rw [eg] at gx
            have hyes := Lib.hid (fun h => all_take_succ hK.out hkd h)
            have hno := Lib.hid (fun h => all_not hkd h)
            have hy : d[k].toNat < 256 := d[k].toNat_lt
            generalize d[k] = y at *
            clear eg hkd
            have hdig : isDig y = true ↔ (48 ≤ y.toNat ∧ y.toNat ≤ 57) := by unfold isDig; simp
            have HDIG := Lib.hid hdig
            clear hdig
            rcases (show y.toNat < 48 ∨ 57 < y.toNat ∨ (48 ≤ y.toNat ∧ y.toNat ≤ 57) by omega) with h1 | h1 | ⟨h1, h2⟩
            · have hf := hno.out (by rw [Bool.eq_false_iff]; intro h; have := HDIG.out.1 h; omega)
              have hr5 : res = 5 := by rw [HRES.out, hf]; rfl
              have HR5 := Lib.hid hr5
              clear hr5
              generalize y.toNat = yn at *
              have hb1 : ((yn : Int) < 48) := by omega
              clear hf hyes hno HDIG
              go_wp2
              try rw [Exit.noGoto_ret]
              go_ret
              exact ⟨ret_int HR5.out.symm, HB.out⟩
            · have hf := hno.out (by rw [Bool.eq_false_iff]; intro h; have := HDIG.out.1 h; omega)
              have hr5 : res = 5 := by rw [HRES.out, hf]; rfl
              have HR5 := Lib.hid hr5
              clear hr5
              generalize y.toNat = yn at *
              have hb1 : ¬ ((yn : Int) < 48) := by omega
              have hb2 : (57 < (yn : Int)) := by omega
              clear hf hyes hno HDIG
              go_wp2
              try rw [Exit.noGoto_ret]
              go_ret
              exact ⟨ret_int HR5.out.symm, HB.out⟩
            · have hy2 := Lib.hid (hyes.out (HDIG.out.2 ⟨h1, h2⟩))
              generalize y.toNat = yn at *
              have hb1 : ¬ ((yn : Int) < 48) := by omega
              have hb2 : ¬ (57 < (yn : Int)) := by omega
              clear hyes hno HDIG
              go_wp2
              go_round
              case rel => exact ⟨k + 1, by omega, rfl, by go_num, hy2⟩
              case measure => simp [intOf]; omega
          · obtain rfl : k = n := by omega
            have hall : d.all isDig = true := by
              have := hK.out
              rwa [← HN.out, List.take_length] at this
            by_cases hbig : 2000 < k
            · have hb1 : (2000 < (k : Int)) := by omega
              have e6 : res = 6 := by rw [HRES.out, hall]; simp [hbig]
              have HR5 := Lib.hid e6
              clear e6 hall
              go_wp2
              try rw [Exit.noGoto_ret]
              go_ret
              exact ⟨ret_int HR5.out.symm, HB.out⟩
            · have hb1 : ¬ (2000 < (k : Int)) := by omega
              have e6 : res = 0 := by rw [HRES.out, hall]; simp [hbig]
              have HR5 := Lib.hid e6
              clear e6 hall
              go_wp2
              try rw [Exit.noGoto_ret]
              go_ret
              exact ⟨ret_int HR5.out.symm, HB.out⟩

end Go.Proofs.YtmhneibcbjgedaaGreatDoor
