/- The contracts of croupierref01.Right and of croupierref02.Right, Check and Short at any text, and of croupierref02.Pow. -/
import Derived.Test.YtpmlmibceiolpaaGreatDoorR2b
set_option linter.unusedSimpArgs false
set_option linter.unusedVariables false
namespace Go.Proofs.YtpmlmibceiolpaaGreatDoor.D4
open Go.RowKit
open Go.Lib (decDigits itoa nDigits)

theorem wcheck_ok {l : List UInt8} (h0 : l ≠ [48]) {c : UInt8} {r : List UInt8} (hu : unsgn l = c :: r) (hc : c ≠ 48) : decide (wcheck l ≠ 5) = (c :: r).all isDig := by
  unfold wcheck
  rw [if_neg h0, hu]
  simp only [if_neg hc]
  cases h : (c :: r).all isDig
  · simp
  · rw [if_pos rfl]
    split <;> decide
theorem wcheck_no {l : List UInt8} (h0 : l ≠ [48]) (hu : unsgn l = [] ∨ ∃ r, unsgn l = 48 :: r) : decide (wcheck l ≠ 5) = false := by
  unfold wcheck
  rw [if_neg h0]
  rcases hu with hu | ⟨r, hu⟩ <;> rw [hu] <;> simp
theorem unsgn_minus (r : List UInt8) : unsgn (45 :: r) = r := by simp [unsgn, Lib.trimPrefix, Lib.hasPrefix, List.isPrefixOf]
theorem unsgn_plain {c : UInt8} {r : List UInt8} (h : c ≠ 45) : unsgn (c :: r) = c :: r := by
  have h1 : ([45] : List UInt8).isPrefixOf (c :: r) = false := by simp [List.isPrefixOf]; exact fun e => h e.symm
  simp [unsgn, Lib.trimPrefix, Lib.hasPrefix, h1]
theorem u8_eq {c : UInt8} {k : UInt8} {n : Int} (hn : n = (k.toNat : Int)) : (((c.toNat : Nat) : Int) == n) = decide (c = k) := by
  rw [Bool.eq_iff_iff, beq_iff_eq, decide_eq_true_eq, hn]
  constructor
  · intro e; exact UInt8.toNat_inj.1 (by omega)
  · intro e; subst e; rfl
theorem ba_at {l : List UInt8} {k : Nat} (h : k < (⟨l.toArray⟩ : ByteArray).size) (h2 : k < l.length) : ((⟨l.toArray⟩ : ByteArray)[k]'h) = l[k] := by
  show l.toArray[k] = l[k]
  simp

set_option maxHeartbeats 4000000 in
set_option maxRecDepth 100000 in
theorem right1_any {w : World} (l : List UInt8) (hl : l.length ≤ 1000000) : Calls Tryz.prog 121 #[.string ⟨l.toArray⟩] w (RetV w (.bool (decide (wcheck l ≠ 5)))) := by
  by_cases h0 : l = [48]
  · subst h0
    have e : decide (wcheck [48] ≠ 5) = true := by decide
    rw [e]
    clear e
    go_enter Tryz.func121, Tryz.ntmps121
    go_wp2
    go_ret
    exact ⟨rfl, Below.refl _ _⟩
  · have hS0 : ((⟨l.toArray⟩ : ByteArray).toList == [48]) = false := by
      rw [beq_eq_false_iff_ne, ba_list]; exact h0
    cases l with
    | nil =>
      rw [wcheck_no h0 (.inl rfl)]
      clear h0
      go_enter Tryz.func121, Tryz.ntmps121
      go_wp2
      go_ret
      exact ⟨rfl, Below.refl _ _⟩
    | cons c r =>
      obtain ⟨T, hT⟩ : ∃ T : ByteArray, T = ⟨(unsgn (c :: r)).toArray⟩ := ⟨_, rfl⟩
      have hTs : T.size = (unsgn (c :: r)).length := by rw [hT, ba_size]
      have hT0 : T.toList = unsgn (c :: r) := by rw [hT, ba_list]
      have hTc : ∀ i (h : i < T.size) (h2 : i < (unsgn (c :: r)).length), (T[i]'h).toNat = ((unsgn (c :: r))[i]).toNat := by
        intro i h h2
        subst hT
        rw [ba_at h h2]
      have hsz : 0 < (⟨(c :: r).toArray⟩ : ByteArray).size := by rw [ba_size]; simp
      have hz : ∀ h : 0 < (⟨(c :: r).toArray⟩ : ByteArray).size, ((((⟨(c :: r).toArray⟩ : ByteArray)[0]'h).toNat : Int) == 45) = decide (c = 45) := by
        intro h
        have h1 : ((⟨(c :: r).toArray⟩ : ByteArray)[0]'h) = c := rfl
        rw [h1]; exact u8_eq rfl
      have hex : (⟨(c :: r).toArray⟩ : ByteArray).extract 1 (⟨(c :: r).toArray⟩ : ByteArray).size = ⟨r.toArray⟩ := by
        rw [extract_list, ba_size]; simp
      have hul : (unsgn (c :: r)).length ≤ 1000000 := by
        by_cases hc : c = 45
        · subst hc; rw [unsgn_minus]; simp at hl; omega
        · rw [unsgn_plain hc]; exact hl
      obtain ⟨res, hres⟩ : ∃ res, res = decide (wcheck (c :: r) ≠ 5) := ⟨_, rfl⟩
      rw [← hres]
      have hno : unsgn (c :: r) = [] ∨ (∃ r', unsgn (c :: r) = 48 :: r') → res = false := fun h => by rw [hres]; exact wcheck_no h0 h
      have hok : ∀ {c' : UInt8} {r' : List UInt8}, unsgn (c :: r) = c' :: r' → c' ≠ 48 → res = (unsgn (c :: r)).all isDig := fun h1 h2 => by rw [hres, h1]; exact wcheck_ok h0 h1 h2
      by_cases hc : c = 45
      case' pos =>
        have hu : unsgn (c :: r) = r := by rw [hc]; exact unsgn_minus r
        replace hex := hex.trans (show (⟨r.toArray⟩ : ByteArray) = T by rw [hT, hu])
        have hcb : decide (c = 45) = true := by simpa using hc
        rw [hcb] at hz
      case' neg =>
        have hu : unsgn (c :: r) = c :: r := unsgn_plain hc
        have hST : (⟨(c :: r).toArray⟩ : ByteArray) = T := by rw [hT, hu]
        have hcb : decide (c = 45) = false := by simpa using hc
        rw [hcb] at hz
        rw [hST] at hz hsz hS0 ⊢
        clear hex hST
      all_goals
        clear hT hu hc hcb hres h0
        generalize unsgn (c :: r) = d at *
        clear hl
        try generalize (⟨(c :: r).toArray⟩ : ByteArray) = S at *
        cases d with
        | nil =>
          have hr := hno (.inl rfl)
          have HR := Lib.hid hr
          have hTs0 : T.size = 0 := by rw [hTs]; rfl
          clear hTs
          clear hno hok hr hTc hT0
          first
            | (exfalso; omega)
            | (go_enter Tryz.func121, Tryz.ntmps121
               go_upto_region 6 with fail
               try rw [hex]
               try clear hex
               clear hz
               go_wp2
               go_ret
               exact ⟨by rw [HR.out]; rfl, Below.refl _ _⟩)
        | cons c' r' =>
          have hh : ∀ h : 0 < T.size, (((T[0]'h).toNat : Int) == 48) = decide (c' = 48) := by
            intro h
            rw [hTc 0 h (by simp)]
            exact u8_eq rfl
          have hTp : 0 < T.size := by rw [hTs]; simp
          obtain ⟨n, hn⟩ : ∃ n, n = (c' :: r').length := ⟨_, rfl⟩
          rw [← hn] at hTs hul
          have hn0 : 0 < n := by omega
          have hn1 : ¬ n = 0 := by omega
          have hn2 : ((n : Int) == 0) = false := by rw [beq_eq_false_iff_ne]; omega
          by_cases h48 : c' = 48
          · have hr := hno (.inr ⟨r', by rw [h48]⟩)
            have HR := Lib.hid hr
            have hcb : decide (c' = 48) = true := by simpa using h48
            rw [hcb] at hh
            have hh0 := hh hTp
            clear hno hok hr hTc hT0 h48 hcb hh hn
            go_enter Tryz.func121, Tryz.ntmps121
            go_upto_region 6 with fail
            try rw [hex]
            try clear hex
            clear hz
            go_wp2
            go_ret
            exact ⟨by rw [HR.out]; rfl, Below.refl _ _⟩
          · have hr := hok rfl h48
            have HR := Lib.hid hr
            have hcb : decide (c' = 48) = false := by simpa using h48
            rw [hcb] at hh
            have hh0 := hh hTp
            have HTC := Lib.hid hTc
            generalize hd : c' :: r' = d at *
            have HN := Lib.hid hn
            clear hno hok hr hTc hT0 h48 hcb hh hd hn
            go_enter Tryz.func121, Tryz.ntmps121
            go_upto_region 6 with fail
            try rw [hex]
            try clear hex
            clear hz
            go_wp2
            go_loop [4] (fun u4 => ∃ k : Nat, k ≤ n ∧ u4 = .int .i64 k ∧ Hid ((d.take k).all isDig = true)) (fun u4 => n - (intOf u4).toNat)
            case atStart => exact ⟨0, Nat.zero_le _, rfl, Lib.hid (by simp)⟩
            case round =>
              obtain ⟨k, hk, rfl, hK⟩ := hrel
              by_cases hlt : k < n
              · have hkd : k < d.length := by rw [← HN.out]; exact hlt
                have hkT : k < T.size := by omega
                have hx := HTC.out k hkT hkd
                have hyes := Lib.hid (fun h => all_take_succ hK.out hkd h)
                have hno := Lib.hid (fun h => all_not hkd h)
                have hy : d[k].toNat < 256 := d[k].toNat_lt
                generalize d[k] = y at *
                have hdig : isDig y = true ↔ (48 ≤ y.toNat ∧ y.toNat ≤ 57) := by unfold isDig; simp
                have HDIG := Lib.hid hdig
                clear hdig hkd
                rcases (show y.toNat < 48 ∨ 57 < y.toNat ∨ (48 ≤ y.toNat ∧ y.toNat ≤ 57) by omega) with h1 | h1 | ⟨h1, h2⟩
                · have hf := hno.out (by rw [Bool.eq_false_iff]; intro h; have := HDIG.out.1 h; omega)
                  have hr5 := Lib.hid (show res = false by rw [HR.out, hf])
                  have hb1 : (((T[k]'hkT).toNat : Int) < 48) := by omega
                  clear hf hyes hno HDIG hx h1 hy
                  go_wp2
                  go_ret
                  exact ⟨by rw [hr5.out]; rfl, Below.refl _ _⟩
                · have hf := hno.out (by rw [Bool.eq_false_iff]; intro h; have := HDIG.out.1 h; omega)
                  have hr5 := Lib.hid (show res = false by rw [HR.out, hf])
                  have hb1 : ¬ (((T[k]'hkT).toNat : Int) < 48) := by omega
                  have hb2 : (57 < ((T[k]'hkT).toNat : Int)) := by omega
                  clear hf hyes hno HDIG hx h1 hy
                  go_wp2
                  go_ret
                  exact ⟨by rw [hr5.out]; rfl, Below.refl _ _⟩
                · have hy2 := Lib.hid (hyes.out (HDIG.out.2 ⟨h1, h2⟩))
                  have hb1 : ¬ (((T[k]'hkT).toNat : Int) < 48) := by omega
                  have hb2 : ¬ (57 < ((T[k]'hkT).toNat : Int)) := by omega
                  clear hyes hno HDIG hx h1 hy h2
                  go_wp2
                  go_round
                  case rel => exact ⟨k + 1, by omega, by go_num, hy2⟩
                  case measure => simp [intOf]; omega
              · obtain rfl : k = n := by omega
                have hr5 := Lib.hid (show res = true by
                  have := hK.out
                  rw [HN.out, List.take_length] at this
                  rw [HR.out, this])
                go_wp2
                go_ret
                exact ⟨by rw [hr5.out]; rfl, Below.refl _ _⟩

theorem rerr_plain {l : List UInt8} (h : Lib.cut l [47] = (l, [], false)) : decide (rerr l ≠ 5) = decide (wcheck l ≠ 5) := by
  unfold rerr
  rw [h]
  simp only [Bool.false_eq_true, if_false]
  by_cases h5 : wcheck l = 5
  · simp [h5]
  · rw [if_neg h5]
    split <;> simp [h5]
theorem rerr_slash {l n d : List UInt8} (h : Lib.cut l [47] = (n, d, true)) : decide (rerr l ≠ 5) = (decide (wcheck n ≠ 5) && (decide (wcheck d ≠ 5) && (decide (1 < sread d) && decide (Nat.gcd (sread n).natAbs (sread d).natAbs = 1)))) := by
  unfold rerr
  rw [h]
  simp only [if_true]
  by_cases h1 : wcheck n = 5
  · simp [h1]
  · by_cases h2 : wcheck d = 5
    · simp [h2]
    · rw [if_neg (by omega)]
      by_cases h3 : sread d ≤ 1 ∨ Nat.gcd (sread n).natAbs (sread d).natAbs ≠ 1
      · rw [if_pos h3]
        have e : (decide (1 < sread d) && decide (Nat.gcd (sread n).natAbs (sread d).natAbs = 1)) = false := by
          rcases h3 with h3 | h3
          · rw [decide_eq_false (by omega), Bool.false_and]
          · rw [decide_eq_false h3, Bool.and_false]
        rw [e]; simp
      · rw [if_neg h3]
        have e : (decide (1 < sread d) && decide (Nat.gcd (sread n).natAbs (sread d).natAbs = 1)) = true := by
          rw [decide_eq_true (by omega), decide_eq_true (by omega)]; rfl
        rw [e]
        split <;> simp [h1, h2]

set_option maxHeartbeats 4000000 in
set_option maxRecDepth 100000 in
theorem right2_any {w : World} (l : List UInt8) (hl : l.length ≤ 39000) (hg : Good w) : Calls Tryz.prog 80 #[.string ⟨l.toArray⟩] w (RetV w (.bool (decide (rerr l ≠ 5)))) := by
  have h0 := cut2_any (w := w) l (by omega)
  have HG := Lib.hid (fun (V : World) (hV : Below w.heap.size w V) => hg.below hV)
  have HB0 := Lib.hid (Below.refl w.heap.size w)
  unfold cutV at h0
  rcases cut_cases l with hcut | ⟨n, d, hcut, hs⟩
  · rw [rerr_plain hcut]
    rw [hcut] at h0
    simp only [Bool.false_eq_true, if_false] at h0
    have H1 := Lib.hid h0
    have H2 := Lib.hid (fun (V : World) => right1_any (w := V) l (by omega))
    have H3 := Lib.hid (fun (V : World) => show Calls Tryz.prog 121 #[.string ⟨#[49]⟩] V (RetV V (.bool true)) from right1_any (w := V) [49] (by decide))
    clear h0 hcut hl hg
    generalize (⟨l.toArray⟩ : ByteArray) = S at *
    generalize decide (wcheck l ≠ 5) = b at *
    cases b
    · go_enter Tryz.func80, Tryz.ntmps80
      go_wp2_with fail
      refine (H1.out).mono ?_
      rintro e V ⟨rfl, kk⟩
      have K1 := Lib.hid (next_below HB0.out kk)
      clear kk
      go_wp2_with fail
      refine (H2.out _).mono ?_
      rintro e V ⟨rfl, kk⟩
      have K2 := Lib.hid (next_below K1.out kk)
      clear kk
      go_wp2
      go_ret
      exact ⟨rfl, K2.out⟩
    · go_enter Tryz.func80, Tryz.ntmps80
      go_wp2_with fail
      refine (H1.out).mono ?_
      rintro e V ⟨rfl, kk⟩
      have K1 := Lib.hid (next_below HB0.out kk)
      clear kk
      go_wp2_with fail
      refine (H2.out _).mono ?_
      rintro e V ⟨rfl, kk⟩
      have K2 := Lib.hid (next_below K1.out kk)
      clear kk
      go_wp2_with fail
      refine (H3.out _).mono ?_
      rintro e V ⟨rfl, kk⟩
      have K3 := Lib.hid (next_below K2.out kk)
      clear kk
      go_wp2
      go_ret
      exact ⟨rfl, K3.out⟩
  · rw [rerr_slash hcut]
    rw [hcut] at h0
    simp only [if_true] at h0
    have H1 := Lib.hid h0
    have ln : n.length + d.length + 1 = l.length := by rw [hs]; simp; omega
    have H2 := Lib.hid (fun (V : World) => right1_any (w := V) n (by omega))
    have H3 := Lib.hid (fun (V : World) => right1_any (w := V) d (by omega))
    by_cases c1 : wcheck n = 5
    · have e1 : decide (wcheck n ≠ 5) = false := by simp [c1]
      rw [e1] at H2
      rw [e1, Bool.false_and]
      clear h0 hcut hl hg hs c1 e1 ln H3
      generalize (⟨l.toArray⟩ : ByteArray) = S at *
      generalize (⟨n.toArray⟩ : ByteArray) = A at *
      generalize (⟨d.toArray⟩ : ByteArray) = B at *
      go_enter Tryz.func80, Tryz.ntmps80
      go_wp2_with fail
      refine (H1.out).mono ?_
      rintro e V ⟨rfl, kk⟩
      have K1 := Lib.hid (next_below HB0.out kk)
      clear kk
      go_wp2_with fail
      refine (H2.out _).mono ?_
      rintro e V ⟨rfl, kk⟩
      have K2 := Lib.hid (next_below K1.out kk)
      clear kk
      go_wp2
      go_ret
      exact ⟨rfl, K2.out⟩
    · have e1 : decide (wcheck n ≠ 5) = true := by simp [c1]
      rw [e1] at H2
      rw [e1, Bool.true_and]
      by_cases c2 : wcheck d = 5
      · have e2 : decide (wcheck d ≠ 5) = false := by simp [c2]
        rw [e2] at H3
        rw [e2, Bool.false_and]
        clear h0 hcut hl hg hs c1 e1 ln c2 e2
        generalize (⟨l.toArray⟩ : ByteArray) = S at *
        generalize (⟨n.toArray⟩ : ByteArray) = A at *
        generalize (⟨d.toArray⟩ : ByteArray) = B at *
        go_enter Tryz.func80, Tryz.ntmps80
        go_wp2_with fail
        refine (H1.out).mono ?_
        rintro e V ⟨rfl, kk⟩
        have K1 := Lib.hid (next_below HB0.out kk)
        clear kk
        go_wp2_with fail
        refine (H2.out _).mono ?_
        rintro e V ⟨rfl, kk⟩
        have K2 := Lib.hid (next_below K1.out kk)
        clear kk
        go_wp2_with fail
        refine (H3.out _).mono ?_
        rintro e V ⟨rfl, kk⟩
        have K3 := Lib.hid (next_below K2.out kk)
        clear kk
        go_wp2
        go_ret
        exact ⟨rfl, K3.out⟩
      · have e2 : decide (wcheck d ≠ 5) = true := by simp [c2]
        rw [e2] at H3
        rw [e2, Bool.true_and]
        have en := wcheck_canon c1
        have ed := wcheck_canon c2
        have ln2 : nDigits (sread n).natAbs ≤ n.length := by
          have := itoa_len2 (sread n)
          rw [← en] at this; omega
        have ld2 : nDigits (sread d).natAbs ≤ d.length := by
          have := itoa_len2 (sread d)
          rw [← ed] at this; omega
        generalize sread n = a at *
        generalize sread d = b at *
        have tn : (⟨n.toArray⟩ : ByteArray) = it a := by rw [en]; rfl
        have td : (⟨d.toArray⟩ : ByteArray) = it b := by rw [ed]; rfl
        rw [tn] at H1 H2
        rw [td] at H1 H3
        have h4 := fun (V : World) => cmp_it (w := V) b 1 (Nat.le_trans ld2 (by omega)) (Nat.le_trans (nDigits_le (d := 1) (by decide)) (by omega))
        have e1' : it 1 = ⟨#[49]⟩ := by decide +kernel
        rw [e1'] at h4
        have H4 := Lib.hid h4
        have H5 := Lib.hid (fun (V : World) (hV : Good V) => gcd_it (w := V) a b (Nat.le_trans ln2 (by omega)) (Nat.le_trans ld2 (by omega)) hV)
        have hq := it_one (Nat.gcd a.natAbs b.natAbs : Nat)
        have hq2 : decide (((Nat.gcd a.natAbs b.natAbs : Nat) : Int) = 1) = decide (Nat.gcd a.natAbs b.natAbs = 1) := by congr 1; exact propext (by omega)
        rw [hq2] at hq
        generalize decide (Nat.gcd a.natAbs b.natAbs = 1) = q at *
        generalize it (Nat.gcd a.natAbs b.natAbs : Nat) = Gc at *
        have hgt : (sgz b 1 > 0) ↔ 1 < b := by
          unfold sgz
          split
          · omega
          · split <;> omega
        by_cases hb : 1 < b
        · have hb2 : (0 : Int) < sgz b 1 := hgt.2 hb
          have e3 : decide (1 < b) = true := by simpa using hb
          rw [e3, Bool.true_and]
          generalize sgz b 1 = z at *
          clear h0 hcut hl hg hs c1 e1 ln c2 e2 en ed ln2 ld2 tn td h4 e1' hq2 hgt hb e3
          generalize it a = A at *
          generalize it b = B at *
          generalize (⟨l.toArray⟩ : ByteArray) = S at *
          go_enter Tryz.func80, Tryz.ntmps80
          go_wp2_with fail
          refine (H1.out).mono ?_
          rintro e V ⟨rfl, kk⟩
          have K1 := Lib.hid (next_below HB0.out kk)
          clear kk
          go_wp2_with fail
          refine (H2.out _).mono ?_
          rintro e V ⟨rfl, kk⟩
          have K2 := Lib.hid (next_below K1.out kk)
          clear kk
          go_wp2_with fail
          refine (H3.out _).mono ?_
          rintro e V ⟨rfl, kk⟩
          have K3 := Lib.hid (next_below K2.out kk)
          clear kk
          go_wp2_with fail
          refine (H4.out _).mono ?_
          rintro e V ⟨rfl, kk⟩
          have K4 := Lib.hid (next_below K3.out kk)
          clear kk
          go_wp2_with fail
          refine (H5.out _ (HG.out _ K4.out)).mono ?_
          rintro e V ⟨rfl, kk⟩
          have K5 := Lib.hid (next_below K4.out kk)
          clear kk
          go_wp2
          go_ret
          exact ⟨rfl, K5.out⟩
        · have hb2 : ¬ (0 : Int) < sgz b 1 := fun h => hb (hgt.1 h)
          have e3 : decide (1 < b) = false := by simpa using hb
          rw [e3, Bool.false_and]
          generalize sgz b 1 = z at *
          clear h0 hcut hl hg hs c1 e1 ln c2 e2 en ed ln2 ld2 tn td h4 e1' hq2 hgt hb e3
          generalize it a = A at *
          generalize it b = B at *
          generalize (⟨l.toArray⟩ : ByteArray) = S at *
          go_enter Tryz.func80, Tryz.ntmps80
          go_wp2_with fail
          refine (H1.out).mono ?_
          rintro e V ⟨rfl, kk⟩
          have K1 := Lib.hid (next_below HB0.out kk)
          clear kk
          go_wp2_with fail
          refine (H2.out _).mono ?_
          rintro e V ⟨rfl, kk⟩
          have K2 := Lib.hid (next_below K1.out kk)
          clear kk
          go_wp2_with fail
          refine (H3.out _).mono ?_
          rintro e V ⟨rfl, kk⟩
          have K3 := Lib.hid (next_below K2.out kk)
          clear kk
          go_wp2_with fail
          refine (H4.out _).mono ?_
          rintro e V ⟨rfl, kk⟩
          have K4 := Lib.hid (next_below K3.out kk)
          clear kk
          go_wp2
          go_ret
          exact ⟨rfl, K4.out⟩

/-- The parts of a text that is a number's are no longer than the text. -/
theorem fits_len {x : Rat} (h : (ratText x).length ≤ 39000) : fitsD 40000 x := by
  unfold ratText at h
  rw [List.length_append] at h
  have h1 := itoa_len2 x.num
  refine ⟨by omega, ?_⟩
  by_cases hd : x.den = 1
  · rw [hd]; exact Nat.le_trans (nDigits_le (d := 1) (by decide)) (by omega)
  · rw [if_neg hd, List.length_cons, Lib.decDigits_length] at h
    omega

set_option maxHeartbeats 2000000 in
theorem check2_any {w : World} (l : List UInt8) (hl : l.length ≤ 39000) (hg : Good w) : Calls Tryz.prog 48 #[.string ⟨l.toArray⟩] w (RetV w (.int .i64 (rerr l))) := by
  have H1 := Lib.hid (right2_any (w := w) l hl hg)
  have HB0 := Lib.hid (Below.refl w.heap.size w)
  rcases rerr_vals l with h5 | ⟨x, hx, hv, he⟩
  · have e : decide (rerr l ≠ 5) = false := by simp [h5]
    rw [e] at H1
    rw [h5]
    clear hl hg e h5
    generalize (⟨l.toArray⟩ : ByteArray) = S at *
    go_enter Tryz.func48, Tryz.ntmps48
    go_wp2_with fail
    refine (H1.out).mono ?_
    rintro e V ⟨rfl, kk⟩
    have K1 := Lib.hid (next_below HB0.out kk)
    clear kk
    go_wp2
    go_ret
    exact ⟨rfl, K1.out⟩
  · have hf : fitsD 40000 x := fits_len (by rw [← hx]; exact hl)
    have e : decide (rerr l ≠ 5) = true := by rw [he]; split <;> simp
    rw [e] at H1
    rw [he]
    have H2 := Lib.hid (fun (V : World) => fits_rt (w := V) 2000 hf)
    have hs : (⟨l.toArray⟩ : ByteArray) = rt x := by rw [hx]; rfl
    rw [hs] at H1 ⊢
    by_cases hb : fitsD 2000 x
    · have hb2 : (decide (nDigits x.num.natAbs ≤ 2000) && decide (nDigits x.den ≤ 2000)) = true := by rw [decide_eq_true hb.1, decide_eq_true hb.2]; rfl
      rw [hb2] at H2
      rw [if_pos hb]
      clear hl hg e hx hv he hf hs hb hb2
      generalize rt x = S at *
      go_enter Tryz.func48, Tryz.ntmps48
      go_wp2_with fail
      refine (H1.out).mono ?_
      rintro e V ⟨rfl, kk⟩
      have K1 := Lib.hid (next_below HB0.out kk)
      clear kk
      go_wp2_with fail
      refine (H2.out _).mono ?_
      rintro e V ⟨rfl, kk⟩
      have K2 := Lib.hid (next_below K1.out kk)
      clear kk
      go_wp2
      go_ret
      exact ⟨rfl, K2.out⟩
    · have hb2 : (decide (nDigits x.num.natAbs ≤ 2000) && decide (nDigits x.den ≤ 2000)) = false := by
        rw [Bool.eq_false_iff]
        intro h
        simp at h
        exact hb h
      rw [hb2] at H2
      rw [if_neg hb]
      clear hl hg e hx hv he hf hs hb hb2
      generalize rt x = S at *
      go_enter Tryz.func48, Tryz.ntmps48
      go_wp2_with fail
      refine (H1.out).mono ?_
      rintro e V ⟨rfl, kk⟩
      have K1 := Lib.hid (next_below HB0.out kk)
      clear kk
      go_wp2_with fail
      refine (H2.out _).mono ?_
      rintro e V ⟨rfl, kk⟩
      have K2 := Lib.hid (next_below K1.out kk)
      clear kk
      go_wp2
      go_ret
      exact ⟨rfl, K2.out⟩

end Go.Proofs.YtpmlmibceiolpaaGreatDoor.D4
