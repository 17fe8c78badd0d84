/- The contracts of ratio.Decimal and ratio.Ceil. -/
import Derived.Test.YtabdnjakmhnnfaaGreatDoorQPowM
set_option linter.unusedSimpArgs false
set_option linter.unusedVariables false
namespace Go.Proofs.YtabdnjakmhnnfaaGreatDoor
open Go.RowKit
open Go.Lib (decDigits itoa nDigits)
open D4 (rt it)

/-- The digits, filled up. -/
def decD (m p : Nat) : ByteArray := ⟨(List.replicate (p + 1 - (decDigits m).length) 48 ++ decDigits m).toArray⟩
/-- The digits with their period. -/
def decP (E : ByteArray) (p : Nat) : ByteArray := if p = 0 then E else E.extract 0 (E.size - p) ++ ⟨#[46]⟩ ++ E.extract (E.size - p) E.size
/-- What is rounded down. -/
def decM (x : Rat) (p : Nat) : Int := (x * ((10 ^ p : Nat) : Rat)).floor
/-- The decimal. -/
def decT (x : Rat) (p : Nat) : ByteArray := if decM x p < 0 then ⟨#[45]⟩ ++ decP (decD (decM x p).natAbs p) p else decP (decD (decM x p).natAbs p) p
def decE (ls : List UInt8) (p : Int) : Int := if rerr ls = 0 then (if p < 0 ∨ 100 < p then 2 else 0) else rerr ls
def decS (ls : List UInt8) (p : Int) : ByteArray := if decE ls p = 0 then decT (rval ls) p.toNat else ⟨#[]⟩

theorem repeat_zero : ∀ c : Nat, Lib.repeatL [48] c = List.replicate c 48
  | 0 => rfl
  | c + 1 => by show [48] ++ Lib.repeatL [48] c = _; rw [repeat_zero c]; rfl
theorem rd_ten : ∀ p : Nat, rd 0 (49 :: List.replicate p 48) = 10 ^ p := by
  have h : ∀ (p a : Nat), rd a (List.replicate p 48) = a * 10 ^ p := by
    intro p
    induction p with
    | zero => intro a; simp [rd]
    | succ p ih =>
      intro a
      rw [List.replicate_succ]
      show rd (a * 10 + ((48 : UInt8).toNat - 48)) (List.replicate p 48) = _
      rw [ih, Nat.pow_succ]
      have : (48 : UInt8).toNat = 48 := rfl
      rw [this, Nat.sub_self, Nat.add_zero, Nat.mul_assoc, Nat.mul_comm 10]
  intro p
  show rd (0 * 10 + ((49 : UInt8).toNat - 48)) (List.replicate p 48) = _
  rw [h]
  have : (49 : UInt8).toNat = 49 := rfl
  rw [this]
  omega
theorem dig_ten (p : Nat) : Dig (49 :: List.replicate p 48) := by
  intro c hc
  rcases List.mem_cons.1 hc with rfl | h
  · decide
  · rw [(List.mem_replicate.1 h).2]; decide
theorem ten_text (p : Nat) : (⟨#[49]⟩ : ByteArray) ++ ⟨(Lib.repeatL [48] p).toArray⟩ = ⟨(sgnd false (49 :: List.replicate p 48)).toArray⟩ := by
  rw [repeat_zero]
  apply ByteArray.ext
  simp [ByteArray.data_append, sgnd]
theorem repeat_any {w : World} (p : Nat) (hp : p ≤ 1000000) : Calls Tryz.prog 13 #[.string ⟨#[48]⟩, .int .i64 p] w (RetV w (.string ⟨(Lib.repeatL [48] p).toArray⟩)) := by
  refine (Tryz.strings_Repeat ⟨#[48]⟩ p w (by omega) (by show 1 * p ≤ _; omega)).mono ?_
  rintro e w' ⟨rfl, h⟩
  exact ⟨rfl, h⟩

set_option maxHeartbeats 16000000 in
set_option maxRecDepth 100000 in
theorem dec_ok {w : World} (ls : List UInt8) (p : Nat) (hp : p ≤ 100) (hl : ls.length ≤ 268435000) (h0 : rerr ls = 0) (hg : Good w) : Calls Tryz.prog 23 #[.string ⟨ls.toArray⟩, .int .i64 p] w (RetV w (.tuple #[.string (decT (rval ls) p), .int .i64 0])) := by
  have hc := rread_any (w := w) ls hl hg
  have hf := rerr_fits h0
  rw [h0] at hc
  generalize rval ls = x at *
  generalize (⟨ls.toArray⟩ : ByteArray) = S at *
  have HC := Lib.hid hc
  have HG := Lib.hid (fun (V : World) (hV : Below w.heap.size w V) => hg.below hV)
  have H1 := Lib.hid (fun (V : World) => repeat_any (w := V) p (by omega))
  have hU := ten_text p
  have hfr := fun (V : World) (hV : Good V) => from_whole (w := V) false (dig_ten p) (by simp; omega) hV
  rw [rd_ten, ← hU] at hfr
  have HFR := Lib.hid hfr
  have hten : ∀ (V : World) v, Pr V v (sg false (10 ^ p)) 1 → Nm V v ((10 ^ p : Nat) : Rat) := fun V v h => h.nm (by simp [sg]) (by simp)
  have HTEN := Lib.hid hten
  have s1 : Sz 2000 x := sz_of_fits hf
  have s2 : Sz 2000 ((10 ^ p : Nat) : Rat) := by
    have hlt : 10 ^ p < 10 ^ (100 + 1) := Nat.pow_lt_pow_right (by omega) (by omega)
    refine ⟨?_, ?_⟩
    · rw [show ((10 ^ p : Nat) : Rat).num = ((10 ^ p : Nat) : Int) by simp, Int.natAbs_natCast]
      exact Nat.le_trans (limbs_digits (D4.nDigits_le (d := 100) hlt)) (by omega)
    · rw [show ((10 ^ p : Nat) : Rat).den = 1 by simp]; exact Nat.le_trans (limbs_len_le (k := 1) (by decide)) (by omega)
  have HMX := Lib.hid (fun (V : World) v v' (h1 : Nm V v x) (h2 : Nm V v' ((10 ^ p : Nat) : Rat)) => num_mul (w := V) h1 h2 (s1.mono (by omega)) (s2.mono (by omega)))
  have s3 : Sz 4000 (x * ((10 ^ p : Nat) : Rat)) := (s1.mul s2).mono (by omega)
  have HFL := Lib.hid (fun (V : World) v (q : Nm V v (x * ((10 ^ p : Nat) : Rat))) => num_floor (w := V) q (s3.mono (by omega)))
  have ff : Fit (decM x p) := by
    unfold decM
    rw [← rat_floor]
    refine (Fit.of_len (n := (x * ((10 ^ p : Nat) : Rat)).num) s3.1 (by omega)).le ?_
    rw [Int.fdiv_eq_ediv_of_nonneg _ (show (0 : Int) ≤ ((x * ((10 ^ p : Nat) : Rat)).den : Int) by omega)]
    exact Int.natAbs_ediv_le_natAbs _ _
  have HTX := Lib.hid (fun (V : World) v (q : Wh V v (decM x p)) (hV : Good V) => text_any (w := V) q ff hV)
  have hM : (x * ((10 ^ p : Nat) : Rat)).floor = decM x p := rfl
  rw [hM] at HFL
  have hcp := fun (V : World) => Tryz.strings_CutPrefix ⟨(itoa (decM x p)).toArray⟩ ⟨#[45]⟩ V
  have ecp : Lib.trimPrefix (⟨(itoa (decM x p)).toArray⟩ : ByteArray).data.toList (⟨#[45]⟩ : ByteArray).data.toList = decDigits (decM x p).natAbs := by
    show unsgn (itoa (decM x p)) = _
    rw [itoa_sgnd, unsgn_sgnd (decDigits_dig _)]
  have ehp : Lib.hasPrefix (⟨(itoa (decM x p)).toArray⟩ : ByteArray).data.toList (⟨#[45]⟩ : ByteArray).data.toList = decide (decM x p < 0) := by
    show Lib.hasPrefix (itoa (decM x p)) [45] = _
    rw [itoa_sgnd, hasPrefix_sgnd (decDigits_dig _)]
  simp only [ecp, ehp] at hcp
  have HCP := Lib.hid hcp
  have hres : decT x p = if decM x p < 0 then ⟨#[45]⟩ ++ decP (decD (decM x p).natAbs p) p else decP (decD (decM x p).natAbs p) p := rfl
  rw [hres]
  have hdl : (⟨(decDigits (decM x p).natAbs).toArray⟩ : ByteArray).size = (decDigits (decM x p).natAbs).length := ba_size _
  obtain ⟨c2, hc2⟩ : ∃ c2, c2 = p + 1 - (decDigits (decM x p).natAbs).length := ⟨_, rfl⟩
  have hE : (⟨(Lib.repeatL [48] c2).toArray⟩ : ByteArray) ++ ⟨(decDigits (decM x p).natAbs).toArray⟩ = decD (decM x p).natAbs p := by
    unfold decD
    rw [repeat_zero, hc2]
    apply ByteArray.ext
    simp [ByteArray.data_append]
  have hEs : (decD (decM x p).natAbs p).size = c2 + (decDigits (decM x p).natAbs).length := by
    unfold decD
    rw [ba_size, List.length_append, List.length_replicate, hc2]
  have hlen4 : (decDigits (decM x p).natAbs).length ≤ 1000000 := by
    rw [Lib.decDigits_length]
    have h9 := nDigits_limbs (decM x p).natAbs
    have h10 : (limbs (decM x p).natAbs).length ≤ 4001 := by
      refine Nat.le_trans (limbs_len_mono (b := (x * ((10 ^ p : Nat) : Rat)).num.natAbs) ?_) (Nat.le_trans s3.1 (by omega))
      unfold decM
      rw [← rat_floor, Int.fdiv_eq_ediv_of_nonneg _ (show (0 : Int) ≤ ((x * ((10 ^ p : Nat) : Rat)).den : Int) by omega)]
      exact Int.natAbs_ediv_le_natAbs _ _
    omega
  have H2 := Lib.hid (fun (V : World) => repeat_any (w := V) c2 (by omega))
  have hmx : max (0 : Int) (((p : Nat) : Int) + 1 - (((decDigits (decM x p).natAbs).length : Nat) : Int)) = ((c2 : Nat) : Int) := by omega
  have hdlb : (decDigits (decM x p).natAbs).length ≤ 1000000 := hlen4
  have hneg : (decM x p < 0) ∨ ¬ (decM x p < 0) := by omega
  have hdp : decP (decD (decM x p).natAbs p) p = if p = 0 then decD (decM x p).natAbs p else (decD (decM x p).natAbs p).extract 0 ((decD (decM x p).natAbs p).size - p) ++ ⟨#[46]⟩ ++ (decD (decM x p).natAbs p).extract ((decD (decM x p).natAbs p).size - p) (decD (decM x p).natAbs p).size := rfl
  have hsz2 : p + 1 ≤ c2 + (decDigits (decM x p).natAbs).length := by omega
  have hc2b : c2 ≤ 101 := by omega
  have HE := Lib.hid hE
  have HRES : Hid (∀ b : Bool, b = decide (decM x p < 0) → (if decM x p < 0 then (⟨#[45]⟩ : ByteArray) ++ decP (decD (decM x p).natAbs p) p else decP (decD (decM x p).natAbs p) p) = if b then (⟨#[45]⟩ : ByteArray) ++ decP (decD (decM x p).natAbs p) p else decP (decD (decM x p).natAbs p) p) := Lib.hid (fun b hb => by subst hb; simp)
  obtain ⟨ng, hng⟩ : ∃ b : Bool, b = decide (decM x p < 0) := ⟨_, rfl⟩
  rw [HRES.out ng hng]
  rw [← hng] at HCP
  rw [hdp]
  obtain ⟨RES, hRES⟩ : ∃ RES : ByteArray, RES = (if ng = true then (⟨#[45]⟩ : ByteArray) ++ (if p = 0 then decD (decM x p).natAbs p else (decD (decM x p).natAbs p).extract 0 ((decD (decM x p).natAbs p).size - p) ++ ⟨#[46]⟩ ++ (decD (decM x p).natAbs p).extract ((decD (decM x p).natAbs p).size - p) (decD (decM x p).natAbs p).size) else (if p = 0 then decD (decM x p).natAbs p else (decD (decM x p).natAbs p).extract 0 ((decD (decM x p).natAbs p).size - p) ++ ⟨#[46]⟩ ++ (decD (decM x p).natAbs p).extract ((decD (decM x p).natAbs p).size - p) (decD (decM x p).natAbs p).size)) := ⟨_, rfl⟩
  rw [← hRES]
  have HRS := Lib.hid hRES
  clear hRES
  have hp1 : ¬ ((p : Int) < 0) := by omega
  have hp2 : ¬ (100 < (p : Int)) := by omega
  have hZ1 : (⟨(Lib.repeatL [48] p).toArray⟩ : ByteArray).size = p := by rw [ba_size, Lib.repeatL_length]; simp
  have hZ2 : (⟨(Lib.repeatL [48] c2).toArray⟩ : ByteArray).size = c2 := by rw [ba_size, Lib.repeatL_length]; simp
  generalize (⟨(itoa (decM x p)).toArray⟩ : ByteArray) = MT at *
  generalize (⟨(decDigits (decM x p).natAbs).toArray⟩ : ByteArray) = D at *
  generalize decD (decM x p).natAbs p = E2 at *
  generalize (decDigits (decM x p).natAbs).length = dl at *
  generalize decM x p = mz at *
  generalize hxz : x * ((10 ^ p : Nat) : Rat) = xz at *
  generalize (⟨(Lib.repeatL [48] p).toArray⟩ : ByteArray) = Z1 at *
  generalize (⟨(Lib.repeatL [48] c2).toArray⟩ : ByteArray) = Z2 at *
  clear hc hf hfr hten s1 s2 s3 ff hM hcp ecp ehp hres hE hneg hdp HRES hng hxz hc2 hg h0 hl hU
  go_enter Tryz.func23, Tryz.ntmps23
  go_upto_region 2 with (go_at_call 65; refine HC.out.mono ?_; rintro e w1 ⟨b, a, k, p', c, f, l, q, rfl, hn, hb⟩)
  have g6' := Blk.new w1 107 #[.bool b, .slice a k p', .bool c, .slice f l q, .int .i64 0]
  have hn' := (hn (by first | rfl | trivial)).below ((Below.refl _ _).alloc (Nat.le_refl _) (.cells #[.bool b, .slice a k p', .bool c, .slice f l q, .int .i64 0] 107))
  have hb6 : Below w.heap.size w (w1.alloc (.cells #[.bool b, .slice a k p', .bool c, .slice f l q, .int .i64 0] 107)) := hb.alloc hb.size _
  have HN := Lib.hid hn'
  have G6 := Lib.hid g6'
  have K2 := Lib.hid hb6
  clear hn hn' hb hb6 g6' HC
  generalize w1.heap.size = z6 at *
  generalize (w1.alloc (.cells #[.bool b, .slice a k p', .bool c, .slice f l q, .int .i64 0] 107)) = w2 at *
  obtain ⟨x0, x1, x2, x3, x4⟩ := G6.out.at5
  go_upto_region 7 with (first
    | (go_at_call 13; refine (H1.out _).mono ?_; rintro e Va ⟨rfl, ka⟩; have ja := G6.out.next ka; have na := HN.out.below ka; have kka := next_below K2.out ka; clear x0 x1 x2 x3 x4)
    | (go_at_call 85; refine (HFR.out _ (HG.out _ kka)).mono ?_; rintro e Vb ⟨r, rfl, hr, kb⟩; have hr2 := HTEN.out _ _ hr; obtain ⟨b7, a7, k7, p7, c7, f7, l7, q7, rfl, -, -⟩ := id hr2.parts))
  have g7' := Blk.new Vb 105 #[.bool b7, .slice a7 k7 p7, .bool c7, .slice f7 l7 q7]
  have hal : Below Vb.heap.size Vb (Vb.alloc (.cells #[.bool b7, .slice a7 k7 p7, .bool c7, .slice f7 l7 q7] 105)) := (Below.refl _ _).alloc (Nat.le_refl _) _
  have R7 := Lib.hid (hr2.below hal)
  have G7 := Lib.hid g7'
  have G8 := Lib.hid ((ja.next kb).next hal)
  have N8 := Lib.hid ((na.below kb).below hal)
  have K8 := Lib.hid (next_below (next_below kka kb) hal)
  clear g7' hal hr2 hr ja na kka ka kb G6 HN K2 H1 HFR HTEN
  generalize Vb.heap.size = z7 at *
  generalize (Vb.alloc (.cells #[.bool b7, .slice a7 k7 p7, .bool c7, .slice f7 l7 q7] 105)) = w4 at *
  obtain ⟨x0, x1, x2, x3, x4⟩ := G8.out.at5
  obtain ⟨y0, y1, y2, y3⟩ := G7.out.at4
  go_upto_region 9 with (first
    | (go_at_call 68; refine (HMX.out _ _ _ N8.out R7.out).mono ?_; rintro e Vc ⟨r1, rfl, hr1, kc⟩; clear x0 x1 x2 x3 x4 y0 y1 y2 y3)
    | (go_at_call 86; refine (HFL.out _ _ hr1).mono ?_; rintro e Vd ⟨r2, rfl, hr2, kd⟩)
    | (go_at_call 87; refine (HTX.out _ _ hr2 (HG.out _ (next_below (next_below K8.out kc) kd))).mono ?_; rintro e Ve ⟨rfl, ke⟩)
    | (go_at_call 57; refine (HCP.out _).mono ?_; rintro e Vf ⟨rfl, rfl⟩)
    | (go_at_call 13; refine (H2.out _).mono ?_; rintro e Vg ⟨rfl, kg⟩))
  have K9 := Lib.hid (next_below (next_below (next_below (next_below K8.out kc) kd) ke) kg)
  clear kc kd ke kg hr1 hr2 G7 G8 N8 R7 K8 HMX HFL HTX HCP H2
  rw [HE.out]
  have hE2 : E2.size = c2 + dl := hEs
  rcases Nat.eq_zero_or_pos p with hz | hz
  · subst hz
    cases ng
    · go_wp2
      go_ret2
      exact ⟨by rw [HRS.out]; rfl, K9.out⟩
    · go_wp2
      go_ret2
      exact ⟨by rw [HRS.out]; rfl, K9.out⟩
  · have hz1 : (0 : Int) < (p : Int) := by omega
    have hz2 : p ≠ 0 := by omega
    obtain ⟨kk, hkk⟩ : ∃ kk, kk = E2.size - p := ⟨_, rfl⟩
    have HKK := Lib.hid hkk
    have hk1 : (E2.size : Int) - (p : Int) = (kk : Int) := by omega
    have hk2 : kk ≤ E2.size := by omega
    have hk3 : E2.size ≤ 2000000 := by omega
    clear hE2 hEs hkk
    have hX1 : (E2.extract 0 kk).size ≤ 2000000 := by rw [ByteArray.size_extract]; omega
    have hX2 : (E2.extract kk E2.size).size ≤ 2000000 := by rw [ByteArray.size_extract]; omega
    go_upto_region 10 with fail
    have hB0 : Below Vg.heap.size Vg Vg.drew := (Below.refl _ _).drew
    refine wp_region_list 14 (by kernel_rfl) (by kernel_rfl) [] [fun v _ => v = .string E2, fun v _ => v = .string E2, fun v _ => v = .int .i64 (E2.size : Int), fun v _ => v = .int .i64 (p : Int), fun v _ => v = .int .i64 (kk : Int), fun v _ => v = .string (E2.extract 0 kk), fun v _ => v = .string (E2.extract 0 kk ++ ⟨#[46]⟩), fun v _ => v = .string E2, fun v _ => v = .string E2, fun v _ => v = .int .i64 (E2.size : Int), fun v _ => v = .int .i64 (p : Int), fun v _ => v = .int .i64 (kk : Int), fun v _ => v = .string (E2.extract kk E2.size), fun v _ => v = .string (E2.extract 0 kk ++ ⟨#[46]⟩ ++ E2.extract kk E2.size)] (by simp only [List.take_succ_cons, List.take_zero]; rfl) (by simp only [List.drop_succ_cons, List.drop_zero]; rfl) (fun vals => by simp only [fam, Act.put, List.setIfInBounds_toArray, List.set_cons_zero, List.set_cons_succ, if_true]; rfl) (by repeat' (first | exact Stab.eq _ _ | exact Stab.wh _ _ | exact Stab.nm _ _ | exact Stab.new _ _ | exact Stab.newn _ _ | exact Stab.tw _ _ _ | exact Stab.lm _ _ _ | exact Stab.onet _ _ _ | exact trivial | apply And.intro)) trivial ?_ ?_
    · refine ⟨?_, ?_, ?_, ?_, ?_, ?_, ?_, ?_, ?_, ?_, ?_, ?_, ?_, ?_, trivial⟩
      all_goals
        intro vals w3 hB hp
        dsimp only
        (try simp [preOk, Region.binds, q_anygc, q_anytext] at hp)
      case refine_3 =>
        have a0 := hp
        generalize vals 1 = v1 at *
        subst a0
        go_wp2
        (first | exact ⟨rfl, _, rfl, rfl, Below.refl _ _, trivial⟩ | (refine ⟨rfl, _, ?_, rfl, Below.refl _ _, trivial⟩; simp only [Act.put, List.setIfInBounds_toArray, List.set_cons_zero, List.set_cons_succ, hp]))
      case refine_5 =>
        obtain ⟨a0, a1⟩ := hp
        generalize vals 2 = v2 at *
        subst a0
        generalize vals 3 = v3 at *
        subst a1
        go_wp2
        (first | exact ⟨rfl, _, rfl, rfl, Below.refl _ _, trivial⟩ | (refine ⟨rfl, _, ?_, rfl, Below.refl _ _, trivial⟩; simp only [Act.put, List.setIfInBounds_toArray, List.set_cons_zero, List.set_cons_succ, hp]))
      case refine_6 =>
        obtain ⟨a0, a1⟩ := hp
        generalize vals 0 = v0 at *
        subst a0
        generalize vals 4 = v4 at *
        subst a1
        go_wp2
        (first | exact ⟨rfl, _, rfl, rfl, Below.refl _ _, trivial⟩ | (refine ⟨rfl, _, ?_, rfl, Below.refl _ _, trivial⟩; simp only [Act.put, List.setIfInBounds_toArray, List.set_cons_zero, List.set_cons_succ, hp]))
      case refine_7 =>
        have a0 := hp
        generalize vals 5 = v5 at *
        subst a0
        go_wp2
        (first | exact ⟨rfl, _, rfl, rfl, Below.refl _ _, trivial⟩ | (refine ⟨rfl, _, ?_, rfl, Below.refl _ _, trivial⟩; simp only [Act.put, List.setIfInBounds_toArray, List.set_cons_zero, List.set_cons_succ, hp]))
      case refine_10 =>
        have a0 := hp
        generalize vals 8 = v8 at *
        subst a0
        go_wp2
        (first | exact ⟨rfl, _, rfl, rfl, Below.refl _ _, trivial⟩ | (refine ⟨rfl, _, ?_, rfl, Below.refl _ _, trivial⟩; simp only [Act.put, List.setIfInBounds_toArray, List.set_cons_zero, List.set_cons_succ, hp]))
      case refine_12 =>
        obtain ⟨a0, a1⟩ := hp
        generalize vals 9 = v9 at *
        subst a0
        generalize vals 10 = v10 at *
        subst a1
        go_wp2
        (first | exact ⟨rfl, _, rfl, rfl, Below.refl _ _, trivial⟩ | (refine ⟨rfl, _, ?_, rfl, Below.refl _ _, trivial⟩; simp only [Act.put, List.setIfInBounds_toArray, List.set_cons_zero, List.set_cons_succ, hp]))
      case refine_13 =>
        obtain ⟨a0, a1⟩ := hp
        generalize vals 7 = v7 at *
        subst a0
        generalize vals 11 = v11 at *
        subst a1
        go_wp2
        (first | exact ⟨rfl, _, rfl, rfl, Below.refl _ _, trivial⟩ | (refine ⟨rfl, _, ?_, rfl, Below.refl _ _, trivial⟩; simp only [Act.put, List.setIfInBounds_toArray, List.set_cons_zero, List.set_cons_succ, hp]))
      case refine_14 =>
        obtain ⟨a0, a1⟩ := hp
        generalize vals 6 = v6 at *
        subst a0
        generalize vals 12 = v12 at *
        subst a1
        go_wp2
        (first | exact ⟨rfl, _, rfl, rfl, Below.refl _ _, trivial⟩ | (refine ⟨rfl, _, ?_, rfl, Below.refl _ _, trivial⟩; simp only [Act.put, List.setIfInBounds_toArray, List.set_cons_zero, List.set_cons_succ, hp]))
      all_goals
        go_wp2
        (first | exact ⟨rfl, _, rfl, rfl, Below.refl _ _, trivial⟩ | (refine ⟨rfl, _, ?_, rfl, Below.refl _ _, trivial⟩; simp only [Act.put, List.setIfInBounds_toArray, List.set_cons_zero, List.set_cons_succ, hp]))
    · rintro vals w3 hB ⟨p0, p1, p2, p3, p4, p5, p6, p7, p8, p9, p10, p11, p12, p13, _⟩ hne
      have K10 := Lib.hid (next_below K9.out (next_below hB0 hB))
      simp at p13
      generalize vals 13 = v13 at *
      subst p13
      clear hne p0 p1 p2 p3 p4 p5 p6 p7 p8 p9 p10 p11 p12 hB hB0
      cases ng
      · go_wp2
        go_ret2
        exact ⟨by rw [HRS.out, if_neg hz2, ← HKK.out]; rfl, K10.out⟩
      · go_wp2
        go_ret2
        exact ⟨by rw [HRS.out, if_neg hz2, ← HKK.out]; rfl, K10.out⟩
end Go.Proofs.YtabdnjakmhnnfaaGreatDoor
