/- The outcome that bits decide: draw.Draw. -/
import Derived.Test.YtfjjdjhnodcfhaaGreatDoorDLeft
import Derived.WalkMore
set_option linter.unusedSimpArgs false
set_option linter.unusedVariables false
namespace Go.Proofs.YtfjjdjhnodcfhaaGreatDoor
open Go.RowKit
open Go.Lib (decDigits itoa nDigits)
open D4 (rt it Mid)

/-- Is a character a bit? -/
def isBit (c : UInt8) : Bool := c == 48 || c == 49
/-- The bits of a text. -/
def bitAt (bs : List UInt8) (j : Nat) : Bool := bs.getD j 0 == 49
/-- The error of bits. -/
def bitE (bs : List UInt8) : Int := if bs.all isBit then (if bs.length ≤ 200 then 0 else 3) else 5
/-- What Draw hands back. -/
def drw (ts : List (List UInt8)) (bs : List UInt8) : Int × Int × Int :=
  if okW ts then (if bitE bs = 0 then (match drawR (ts.map rval) (bitAt bs) bs.length 0 with | some (i, m) => ((i : Int), (m : Int), 0) | none => (0, 0, 4)) else (0, 0, bitE bs)) else (0, 0, 100)
theorem Stab.pl (W : World) (f t : Rat) : Stab W (fun v w => Pl w v f t) := fun v w1 w2 _ h2 h => h.below h2
/-- A place in a block of its own. -/
def PBox (w : World) (g : Nat) (f t : Rat) : Prop := ∃ b a, ∃ k p : Nat, ∃ c e, ∃ l q : Nat, ∃ b' a', ∃ k' p' : Nat, ∃ c' e', ∃ l' q' : Nat, Blk w g 92 #[.bool b, .slice a k p, .bool c, .slice e l q, .bool b', .slice a' k' p', .bool c', .slice e' l' q'] ∧ Pl w (.agg #[.bool b, .slice a k p, .bool c, .slice e l q, .bool b', .slice a' k' p', .bool c', .slice e' l' q']) f t
theorem PBox.below {w w' : World} {g : Nat} {f t : Rat} (h : PBox w g f t) (hb : Below w.heap.size w w') : PBox w' g f t := by
  obtain ⟨b, a, k, p, c, e, l, q, b', a', k', p', c', e', l', q', h1, h2⟩ := h
  exact ⟨b, a, k, p, c, e, l, q, b', a', k', p', c', e', l', q', h1.next hb, h2.below hb⟩
theorem vt_sum_fit (s : Nat → Bool) {k : Nat} (h : k ≤ 209) : fitsD 75 (vf s k + (vf s k + pw k)) := by
  have hb := vf_bounds s k
  have hp := pw_pos k
  have e : ((2 : Nat) : Rat) = 2 := rfl
  refine ((vf_on s k).add ((vf_on s k).add (pw_on k))).fitK (K := 2) (d := 74) ?_ ?_ (Nat.pow_pos (by omega)) (by omega) ?_
  · rw [e]; grind
  · rw [e]; grind
  · exact Nat.lt_of_lt_of_le (Nat.mul_lt_mul_of_pos_right (two_lt k (by omega)) (by omega)) (by decide)
theorem half_lo (s : Nat → Bool) (k : Nat) : (if s k then (vf s k + (vf s k + pw k)) / 2 else vf s k) = vf s (k + 1) := by
  have h := pw_half k
  have e : (vf s k + (vf s k + pw k)) / 2 = vf s k + pw (k + 1) := by
    rw [Rat.div_def]
    have : (2 : Rat)⁻¹ = 1 / 2 := by decide +kernel
    rw [this]; grind
  rw [e]
  show _ = vf s k + (if s k then pw (k + 1) else 0)
  split
  · rfl
  · grind
theorem half_hi (s : Nat → Bool) (k : Nat) : (if s k then vf s k + pw k else (vf s k + (vf s k + pw k)) / 2) = vf s (k + 1) + pw (k + 1) := by
  have h := pw_half k
  have e : (vf s k + (vf s k + pw k)) / 2 = vf s k + pw (k + 1) := by
    rw [Rat.div_def]
    have : (2 : Rat)⁻¹ = 1 / 2 := by decide +kernel
    rw [this]; grind
  rw [e]
  show _ = vf s k + (if s k then pw (k + 1) else 0) + pw (k + 1)
  split <;> grind

set_option maxHeartbeats 2000000 in
set_option maxRecDepth 100000 in
/-- Draw, where there are no weights. -/
theorem ddraw_no {w : World} {v : Value} (ts : List (List UInt8)) (S : ByteArray) (hlen : ts.length ≤ 1000) (hts : ∀ l ∈ ts, l.length ≤ 268435000) (hv : Qs w v ts) (hg : Good w) (hok : okW ts = false) :
    Calls Tryz.prog 20 #[v, .string S] w (RetV w (.tuple #[.int .i64 0, .int .i64 0, .int .i64 100])) := by
  have HR := Lib.hid (dread_any (w := w) ts hlen hts hv hg)
  obtain ⟨ao, cap, rfl, -, -, -, -⟩ := hv
  rw [hok] at HR
  clear hok hts hlen
  generalize ts.map rval = xs at *
  go_enter Tryz.func20, Tryz.ntmps20
  go_wp2_with fail
  go_step3
  go_wp2_with (go_at_call 36; refine HR.out.mono ?_; rintro e w1 ⟨rv, er, rfl, (⟨h1, -, -⟩ | ⟨-, rfl, rfl⟩), hb⟩; first | cases h1 | skip)
  rw [Exit.noGoto_ret]
  go_ret3
  exact ⟨rfl, hb⟩

set_option maxHeartbeats 4000000 in
set_option maxRecDepth 100000 in
theorem ddraw_ok {w : World} {v : Value} (ts : List (List UInt8)) (bs : List UInt8) (hbs : bs.length ≤ 268435000) (hlen : ts.length ≤ 1000) (hts : ∀ l ∈ ts, l.length ≤ 268435000) (hv : Qs w v ts) (hg : Good w) (hok : okW ts = true) :
    Calls Tryz.prog 20 #[v, .string ⟨bs.toArray⟩] w (RetV w (.tuple #[.int .i64 (drw ts bs).1, .int .i64 (drw ts bs).2.1, .int .i64 (drw ts bs).2.2])) := by
  obtain ⟨k1, k2, k3, k4⟩ := okW_parts hok
  have HR := dread_any (w := w) ts hlen hts hv hg
  rw [hok] at HR
  have hl : (ts.map rval).length = ts.length := by simp
  have HR2 := Lib.hid (read_ok HR (by intro h; rw [h] at hl; simp at hl; omega))
  have hd : drw ts bs = (if bitE bs = 0 then (match drawR (ts.map rval) (bitAt bs) bs.length 0 with | some (i, m) => ((i : Int), (m : Int), 0) | none => (0, 0, 4)) else (0, 0, bitE bs)) := by unfold drw; rw [hok]; rfl
  obtain ⟨D, hD⟩ : ∃ D, D = drw ts bs := ⟨_, rfl⟩
  rw [← hD] at hd ⊢
  have HD := Lib.hid hd
  have HG := Lib.hid (fun (V : World) (hV : Below w.heap.size w V) => hg.below hV)
  obtain ⟨ao, cap, rfl, -, -, -, -⟩ := hv
  clear HR hok hts hlen hl hd hD hg k1 k2
  generalize ts.map rval = xs at *
  generalize ts.length = tn at *
  have hconv := fun (V : World) => Lib.run_convert_string_bytes (P := Tryz.prog) V 9 35 5 ⟨bs.toArray⟩ Tryz.underlying9 Tryz.underlying35 Tryz.underlying5
  have HCELL := Lib.hid (fun (V : World) => Lib.bytesWorld_cell V 5 ⟨bs.toArray⟩)
  have hsz : (⟨bs.toArray⟩ : ByteArray).size = bs.length := ba_size bs
  obtain ⟨n, hn⟩ : ∃ n, n = bs.length := ⟨_, rfl⟩
  rw [← hn] at hsz hbs
  have HN := Lib.hid hn
  simp only [hsz] at hconv HCELL
  clear hn
  go_enter Tryz.func20, Tryz.ntmps20
  go_wp2_with fail
  go_step3
  go_upto_region 4 with (go_at_call 36; refine HR2.out.mono ?_; rintro o w1 ⟨g, c, rfl, hc1, hc2, hN, hb⟩)
  go_upto_region 5 with fail
  have HB1 := Lib.hid hb
  have HNB := Lib.hid (hN.below (Joins.below_bytesWorld _ w1 5 ⟨bs.toArray⟩ (Nat.le_refl _)))
  have HB4 := Lib.hid (next_below hb (Joins.below_bytesWorld _ w1 5 ⟨bs.toArray⟩ (Nat.le_refl _)))
  have HC4 := Lib.hid (HCELL.out w1)
  clear hb hN hconv HCELL
  generalize w1.heap.size = gb at *
  generalize Lib.bytesWorld w1 5 ⟨bs.toArray⟩ = W4 at *
  go_loop [4, 5, 6, 22] (fun u4 u5 u6 u22 => ∃ k : Nat, k ≤ n ∧ u4 = .int .i64 0 ∧ u5 = .int .i64 0 ∧ u6 = .int .i64 0 ∧ u22 = .int .i64 k ∧ Hid (∀ i, i < k → isBit (bs.getD i 0) = true)) (fun _ _ _ u22 => n - (intOf u22).toNat)
  case atStart => exact ⟨0, Nat.zero_le _, rfl, rfl, rfl, rfl, Lib.hid (fun i hi => by omega)⟩
  case round =>
    obtain ⟨k, hk, rfl, rfl, rfl, rfl, hA⟩ := hrel
    by_cases hlt : k < n
    · have gx := HC4.out k hlt
      have hkb : k < bs.length := by have := HN.out; omega
      have ed : (⟨bs.toArray⟩ : ByteArray).data.toList.getD k 0 = bs.getD k 0 := by simp
      rw [ed] at gx
      have hlti : ((k : Int) < n) := by omega
      obtain ⟨ch, hch⟩ : ∃ ch, ch = bs.getD k 0 := ⟨_, rfl⟩
      rw [← hch] at gx
      have HCH := Lib.hid hch
      clear ed hch
      by_cases h1 : ch = 48
      · subst h1
        go_wp2
        go_round
        case rel => exact ⟨k + 1, by omega, rfl, rfl, rfl, by go_num, Lib.hid (fun i hi => (by
          by_cases e : i = k
          · rw [e, ← HCH.out]; rfl
          · exact hA.out i (by omega)))⟩
        case measure => simp [intOf]; omega
      · by_cases h2 : ch = 49
        · subst h2
          go_wp2
          go_round
          case rel => exact ⟨k + 1, by omega, rfl, rfl, rfl, by go_num, Lib.hid (fun i hi => (by
            by_cases e : i = k
            · rw [e, ← HCH.out]; rfl
            · exact hA.out i (by omega)))⟩
          case measure => simp [intOf]; omega
        · have n1 : ¬ ((ch.toNat : Int) = 48) := fun e => h1 (UInt8.toNat_inj.1 (show ch.toNat = (48 : UInt8).toNat by have : (48 : UInt8).toNat = 48 := rfl; omega))
          have n2 : ¬ ((ch.toNat : Int) = 49) := fun e => h2 (UInt8.toNat_inj.1 (show ch.toNat = (49 : UInt8).toNat by have : (49 : UInt8).toNat = 49 := rfl; omega))
          have q1 : ((ch.toNat : Int) != 48) = true := by rw [bne_iff_ne]; exact n1
          have q2 : ((ch.toNat : Int) != 49) = true := by rw [bne_iff_ne]; exact n2
          have hbe : bitE bs = 5 := by
            unfold bitE
            have : bs.all isBit = false := by
              rw [← Bool.not_eq_true, List.all_eq_true]
              intro hall
              have h3 := hall _ (List.getElem_mem hkb)
              have h4 : bs[k] = ch := by rw [HCH.out, List.getD_eq_getElem?_getD, List.getElem?_eq_getElem hkb]; rfl
              rw [h4] at h3
              unfold isBit at h3
              simp [h1, h2] at h3
            rw [this]; rfl
          have hDD : D = (0, 0, 5) := by rw [HD.out, hbe]; rfl
          subst hDD
          go_wp2
          go_ret3
          exact ⟨rfl, HB4.out⟩
    · obtain rfl : k = n := by omega
      have hall : bs.all isBit = true := by
        rw [List.all_eq_true]
        intro l hl
        obtain ⟨i, hi, rfl⟩ := List.getElem_of_mem hl
        have := hA.out i (by have := HN.out; omega)
        rwa [List.getD_eq_getElem?_getD, List.getElem?_eq_getElem hi] at this
      by_cases hlong : (200 : Int) < (k : Int)
      · have hbe : bitE bs = 3 := by unfold bitE; rw [hall, if_pos rfl, if_neg (by have := HN.out; omega)]
        have hDD : D = (0, 0, 3) := by rw [HD.out, hbe]; rfl
        subst hDD
        go_wp2
        go_ret3
        exact ⟨rfl, HB4.out⟩
      · have hbe : bitE bs = 0 := by unfold bitE; rw [hall, if_pos rfl, if_pos (by have := HN.out; omega)]
        have HDD : Hid (D = match drawR xs (bitAt bs) k 0 with | some (i, m) => ((i : Int), (m : Int), 0) | none => (0, 0, 4)) := Lib.hid (by rw [HD.out, hbe, ← HN.out]; rfl)
        clear HD hbe hall hA HC4 hk
        go_upto_region 12 with fail
        go_upto_region 13 with (first
          | (go_at_call 37; refine zero_any.mono ?_; rintro o w5 ⟨r5, rfl, n5, b5⟩; obtain ⟨zb, za, zk, zp, zc, ze, zl, zq, rfl, -, -⟩ := id n5.parts)
          | (go_at_call 41; refine one_any.mono ?_; rintro o w6 ⟨r6, rfl, n6, b6⟩; obtain ⟨ob, oa, ok, op, oc, oe, ol, oq, rfl, -, -⟩ := id n6.parts))
        have gp := Blk.new w6 92 #[.bool zb, .slice za zk zp, .bool zc, .slice ze zl zq, .bool ob, .slice oa ok op, .bool oc, .slice oe ol oq]
        have ba : Below w6.heap.size w6 (w6.alloc (.cells #[.bool zb, .slice za zk zp, .bool zc, .slice ze zl zq, .bool ob, .slice oa ok op, .bool oc, .slice oe ol oq] 92)) := (Below.refl _ _).alloc (Nat.le_refl _) _
        have hpl : Pl (w6.alloc (.cells #[.bool zb, .slice za zk zp, .bool zc, .slice ze zl zq, .bool ob, .slice oa ok op, .bool oc, .slice oe ol oq] 92)) (.agg #[.bool zb, .slice za zk zp, .bool zc, .slice ze zl zq, .bool ob, .slice oa ok op, .bool oc, .slice oe ol oq]) (vf (bitAt bs) 0) (vf (bitAt bs) 0 + pw 0) :=
          ⟨_, _, _, _, _, _, _, _, _, _, _, _, _, _, _, _, rfl, (n5.below b6).below ba, by rw [pw_zero, show vf (bitAt bs) 0 + 1 = 1 by show (0 : Rat) + 1 = 1; decide +kernel]; exact n6.below ba⟩
        have PB := Lib.hid (show PBox _ _ (vf (bitAt bs) 0) (vf (bitAt bs) 0 + pw 0) from ⟨_, _, _, _, _, _, _, _, _, _, _, _, _, _, _, _, gp, hpl⟩)
        have BW := Lib.hid (next_below (next_below (next_below (Below.refl _ _) b5) b6) ba)
        have BGP := Lib.hid (show W4.heap.size ≤ w6.heap.size from by have := b5.size; have := b6.size; omega)
        clear gp ba hpl n5 n6 b5 b6
        generalize w6.heap.size = gpl at *
        generalize w6.alloc (.cells #[.bool zb, .slice za zk zp, .bool zc, .slice ze zl zq, .bool ob, .slice oa ok op, .bool oc, .slice oe ol oq] 92) = W7 at *
        go_wp2_with fail
        go_step3
        go_wp2_with fail
        have hk2 : k ≤ 200 := by omega
        go_loopg [5, 6] (k + 1) (fun gk u5 u6 wr => ∃ j : Nat, u5 = .int .i64 (j : Int) ∧ u6 = .int .i64 4 ∧ j + gk = k + 1 ∧ 1 ≤ gk ∧ Hid (PBox wr gpl (vf (bitAt bs) j) (vf (bitAt bs) j + pw j)) ∧ Hid (Below W4.heap.size W4 wr) ∧ Hid (∀ i, i < j → decR xs (bitAt bs) i = none))
        case atStart => exact ⟨0, rfl, rfl, by omega, by omega, PB, BW, Lib.hid (fun i hi => by omega)⟩
        case round =>
          obtain ⟨j, rfl, rfl, hjk, hgk, hP, hB, hN0⟩ := hrel
          clear PB BW
          have HF := Lib.hid (fun (V : World) (hV : Below W4.heap.size W4 V) v (hv : Pl V v (vf (bitAt bs) j) (vf (bitAt bs) j + pw j)) => first_any (w := V) (c := c) k3 hc1 hc2 (HNB.out.below hV) hv (fits_up (vf_fit (bitAt bs) (k := j) (by omega)) (by omega)) (fits_up (vt_fit (bitAt bs) (k := j) (by omega)) (by omega)))
          obtain ⟨b, a, kk, p, c', e, l, q, b2, a2, kk2, p2, c2, e2, l2, q2, j8, m8⟩ := hP.out
          have J8 := Lib.hid j8
          have M8 := Lib.hid m8
          obtain ⟨x0, x1, x2, x3, x4, x5, x6, x7⟩ := j8.at8
          clear j8 m8
          obtain ⟨dec, hdec⟩ : ∃ dec, dec = decR xs (bitAt bs) j := ⟨_, rfl⟩
          have HFV := Lib.hid (HF.out wr hB.out _ M8.out)
          rw [show firstR (inOut xs (vf (bitAt bs) j) (vf (bitAt bs) j + pw j)) xs.length 0 = dec from hdec.symm] at HFV
          have HDEC := Lib.hid hdec
          clear hdec HF
          cases dec with
          | some i0 =>
            have hDD : D = ((i0 : Int), (j : Int), 0) := by rw [HDD.out, drawR_is (i := i0) (m := j) k 0 (by omega) (by omega) HDEC.out.symm (fun i _ hi => hN0.out i hi)]
            subst hDD
            have hi0 : (0 : Int) ≤ optI (some i0) := by show (0 : Int) ≤ (i0 : Int); omega
            have he0 : optI (some i0) = (i0 : Int) := rfl
            rw [he0] at HFV hi0
            clear he0 HDD
            go_wp2_with (go_at_call 48; refine HFV.out.mono ?_; rintro o w8 ⟨rfl, b8⟩)
            rw [Exit.noGoto_ret]
            go_ret3
            exact ⟨rfl, next_below (next_below HB4.out hB.out) b8⟩
          | none =>
            have he0 : optI none = -1 := rfl
            rw [he0] at HFV
            by_cases hjl : j = k
            · have hDD : D = (0, 0, 4) := by rw [HDD.out, drawR_no k 0 (fun i _ hi => (if e : i = j then (by rw [e]; exact HDEC.out.symm) else hN0.out i (by omega)))]
              subst hDD
              have hjk2 : ((j : Int) = (k : Int)) := by omega
              clear he0 HDD
              go_wp2_with (go_at_call 48; refine HFV.out.mono ?_; rintro o w8 ⟨rfl, b8⟩)
              rw [Exit.noGoto_ret]
              go_ret3
              exact ⟨rfl, next_below (next_below HB4.out hB.out) b8⟩
            · have hjk2 : ¬ ((j : Int) = (k : Int)) := by omega
              have hjlt : j < k := by omega
              clear he0
              go_upto_region 19 with (go_at_call 48; refine HFV.out.mono ?_; rintro o w8 ⟨rfl, b8⟩)
              have HHF := Lib.hid (fun (V : World) v (hv : Pl V v (vf (bitAt bs) j) (vf (bitAt bs) j + pw j)) => half_any (w := V) hv (vf_fit (bitAt bs) (k := j) (by omega)) (vt_fit (bitAt bs) (k := j) (by omega)) (vt_sum_fit (bitAt bs) (k := j) (by omega)) (bitAt bs j))
              have HLO := Lib.hid (half_lo (bitAt bs) j)
              have HHI := Lib.hid (half_hi (bitAt bs) j)
              obtain ⟨ch, hch⟩ : ∃ ch, ch = bs.getD j 0 := ⟨_, rfl⟩
              have hjb : j < bs.length := by have := HN.out; omega
              have hix : ∀ h : j < (⟨bs.toArray⟩ : ByteArray).size, (⟨bs.toArray⟩ : ByteArray)[j]'h = ch := by
                intro h
                rw [hch, List.getD_eq_getElem?_getD, List.getElem?_eq_getElem hjb]; rfl
              have hbit : (((ch.toNat : Nat) : Int) == 49) = bitAt bs j := by
                unfold bitAt
                rw [← hch, Bool.eq_iff_iff, beq_iff_eq, beq_iff_eq]
                constructor
                · intro e; exact UInt8.toNat_inj.1 (show ch.toNat = (49 : UInt8).toNat by have : (49 : UInt8).toNat = 49 := rfl; omega)
                · intro e; rw [e]; rfl
              have HBIT := Lib.hid hbit
              have HIX := Lib.hid hix
              have J9 := Lib.hid (J8.out.next b8)
              have M9 := Lib.hid (M8.out.below b8)
              have B9 := Lib.hid (next_below hB.out b8)
              have hj0 : (0 : Int) ≤ (j : Int) := by omega
              clear x0 x1 x2 x3 x4 x5 x6 x7 hix hbit hch b8 HFV HDD
              have HJLT := Lib.hid hjlt
              clear hjk2 hjl hjlt
              have hB0 : Below w8.heap.size w8 w8.drew := (Below.refl _ _).drew
              refine wp_region_list 6 (by kernel_rfl) (by kernel_rfl) [] [fun v _ => v = .agg #[.bool b, .slice a kk p, .bool c', .slice e l q, .bool b2, .slice a2 kk2 p2, .bool c2, .slice e2 l2 q2], fun v _ => v = .string ⟨bs.toArray⟩, fun v _ => v = .int .i64 (j : Int), fun v _ => v = .int .u8 (ch.toNat : Int), fun v _ => v = .bool (bitAt bs j), fun v w' => Pl w' v (vf (bitAt bs) (j + 1)) (vf (bitAt bs) (j + 1) + pw (j + 1))] (by simp only [List.take_succ_cons, List.take_zero]; rfl) (by simp only [List.drop_succ_cons, List.drop_zero]; rfl) (fun vals => by simp only [fam, Act.put, List.setIfInBounds_toArray, List.set_cons_zero, List.set_cons_succ, if_true]; rfl) (by repeat' (first | exact Stab.eq _ _ | exact Stab.wh _ _ | exact Stab.nm _ _ | exact Stab.new _ _ | exact Stab.newn _ _ | exact Stab.tw _ _ _ | exact Stab.lm _ _ _ | exact Stab.onet _ _ _ | exact Stab.pl _ _ _ | exact trivial | apply And.intro)) trivial ?_ ?_
              · refine ⟨?_, ?_, ?_, ?_, ?_, ?_, trivial⟩
                all_goals
                  intro vals wx hB1 hp
                  dsimp only
                  (try simp [preOk, Region.binds, r_anygc, r_anytext] at hp)
                  have hb := next_below hB0 hB1
                  clear hB1
                case refine_1 =>
                  obtain ⟨x0, x1, x2, x3, x4, x5, x6, x7⟩ := (J9.out.next hb).at8
                  go_wp2
                  (first | exact ⟨rfl, _, rfl, rfl, Below.refl _ _, trivial⟩ | (refine ⟨rfl, _, ?_, rfl, Below.refl _ _, trivial⟩; simp only [Act.put, List.setIfInBounds_toArray, List.set_cons_zero, List.set_cons_succ, hp]))
                case refine_2 =>
                  go_wp2
                  (first | exact ⟨rfl, _, rfl, rfl, Below.refl _ _, trivial⟩ | (refine ⟨rfl, _, ?_, rfl, Below.refl _ _, trivial⟩; simp only [Act.put, List.setIfInBounds_toArray, List.set_cons_zero, List.set_cons_succ, hp]))
                case refine_3 =>
                  go_wp2
                  (first | exact ⟨rfl, _, rfl, rfl, Below.refl _ _, trivial⟩ | (refine ⟨rfl, _, ?_, rfl, Below.refl _ _, trivial⟩; simp only [Act.put, List.setIfInBounds_toArray, List.set_cons_zero, List.set_cons_succ, hp]))
                case refine_4 =>
                  obtain ⟨z0, z1⟩ := hp
                  generalize vals 1 = v1 at *
                  generalize vals 2 = v2 at *
                  subst z0 z1
                  have hix := HIX.out
                  have hjlt := HJLT.out
                  go_wp2
                  (first | exact ⟨rfl, _, rfl, rfl, Below.refl _ _, trivial⟩ | (refine ⟨rfl, _, ?_, rfl, Below.refl _ _, trivial⟩; simp only [Act.put, List.setIfInBounds_toArray, List.set_cons_zero, List.set_cons_succ, hp]))
                case refine_5 =>
                  have z0 := hp
                  generalize vals 3 = v3 at *
                  subst z0
                  have hbit := HBIT.out
                  go_wp2
                  (first | exact ⟨rfl, _, rfl, rfl, Below.refl _ _, trivial⟩ | (refine ⟨rfl, _, ?_, rfl, Below.refl _ _, trivial⟩; simp only [Act.put, List.setIfInBounds_toArray, List.set_cons_zero, List.set_cons_succ, hp]))
                case refine_6 =>
                  obtain ⟨z0, z1⟩ := hp
                  go_wp2_with (go_at_call 50; refine (HHF.out _ _ (M9.out.below hb)).mono ?_; rintro e w9 ⟨r9, rfl, hr9, hb9⟩)
                  rw [HLO.out, HHI.out] at hr9
                  refine ⟨rfl, _, ?_, hr9, hb9, trivial⟩
                  have hjkb : ((j : Int) == (k : Int)) = false := by rw [beq_eq_false_iff_ne]; have := HJLT.out; omega
                  simp only [Act.put, List.setIfInBounds_toArray, List.set_cons_zero, List.set_cons_succ, z0, z1, Nat.zero_add, Nat.reduceAdd, hjkb]
              · rintro vals wx hB1 ⟨p0, p1, p2', p3, p4, p5, _⟩ hne
                have hb := next_below hB0 hB1
                have p5' : Pl wx (vals 5) (vf (bitAt bs) (j + 1)) (vf (bitAt bs) (j + 1) + pw (j + 1)) := p5
                clear hne p0 p1 p2' p3 p4 p5 hB1 hB0
                generalize vals 5 = v5 at *
                generalize vals 0 = t0 at *
                generalize vals 1 = t1 at *
                generalize vals 2 = t2 at *
                generalize vals 3 = t3 at *
                generalize vals 4 = t4 at *
                obtain ⟨nb, na, nk, np, nc, ne, nl, nq, mb, ma, mk, mp, mc, me, ml, mq, rfl, q1, q2⟩ := p5'
                have jz := J9.out.next hb
                obtain ⟨x0, x1, x2, x3, x4, x5, x6, x7⟩ := jz.at8
                obtain ⟨z0, z1, z2, z3, z4, z5, z6, z7⟩ := jz.fr8
                have R1 := Lib.hid (q1.eight jz (by decide) (.bool nb) (.slice na nk np) (.bool nc) (.slice ne nl nq) (.bool mb) (.slice ma mk mp) (.bool mc) (.slice me ml mq))
                have R2 := Lib.hid (q2.eight jz (by decide) (.bool nb) (.slice na nk np) (.bool nc) (.slice ne nl nq) (.bool mb) (.slice ma mk mp) (.bool mc) (.slice me ml mq))
                have R0 := Lib.hid (jz.eight (.bool nb) (.slice na nk np) (.bool nc) (.slice ne nl nq) (.bool mb) (.slice ma mk mp) (.bool mc) (.slice me ml mq))
                have R3 := Lib.hid (below_eight (g := gpl) (next_below B9.out hb) BGP.out (.bool nb) (.slice na nk np) (.bool nc) (.slice ne nl nq) (.bool mb) (.slice ma mk mp) (.bool mc) (.slice me ml mq))
                clear jz q1 q2 hb
                go_wp2
                go_roundg (gk - 1)
                case rel => exact ⟨j + 1, by go_num, rfl, by omega, by have := HJLT.out; omega, Lib.hid ⟨_, _, _, _, _, _, _, _, _, _, _, _, _, _, _, _, R0.out, _, _, _, _, _, _, _, _, _, _, _, _, _, _, _, _, rfl, R1.out, R2.out⟩, R3, Lib.hid (fun i hi => (if e : i = j then (by rw [e]; exact HDEC.out.symm) else hN0.out i (by omega)))⟩
                case measure => omega
end Go.Proofs.YtfjjdjhnodcfhaaGreatDoor
