/- draw.read. -/
import Derived.Test.YtfjjdjhnodcfhaaGreatDoorDList
set_option linter.unusedSimpArgs false
set_option linter.unusedVariables false
namespace Go.Proofs.YtfjjdjhnodcfhaaGreatDoor
open Go.RowKit
open Go.Lib (decDigits itoa nDigits)
open D4 (rt it Mid)

theorem r_anytext : (Region.Mode.any == Region.Mode.text) = false := rfl
theorem r_anygc : (Region.Mode.any == Region.Mode.gc) = false := rfl
/-- Is a text a weight? -/
def wOk (l : List UInt8) : Bool := rshort l && decide (0 ≤ rval l)
/-- Are texts weights? -/
def okW (ts : List (List UInt8)) : Bool := decide (1 ≤ ts.length) && decide (ts.length ≤ 16) && ts.all wOk && decide (cum (ts.map rval) ts.length = 1)
theorem rshort_fit {l : List UInt8} (h : rshort l = true) : rerr l = 0 ∧ fitsD 4 (rval l) := by
  unfold rshort at h
  simp at h
  refine ⟨h.1, ?_, ?_⟩
  · have := h.2.1; omega
  · have := h.2.2; omega
/-- What read hands back. -/
def RetRd (w : World) (ok : Bool) (xs : List Rat) (e : Ending) (w' : World) : Prop := ∃ v, ∃ er : Int, e = .returned (.tuple #[v, .int .i64 er]) ∧ ((ok = true ∧ er = 0 ∧ ∃ B, NRow w' B v xs) ∨ (ok = false ∧ er = 100 ∧ v = .slice none 0 0)) ∧ Below w.heap.size w w'
theorem wOk_parts {l : List UInt8} (h : wOk l = true) : rshort l = true ∧ 0 ≤ rval l := by
  unfold wOk at h; simp at h; exact h
theorem okW_bad {ts : List (List UInt8)} {k : Nat} (hk : k < ts.length) (h : wOk (ts.getD k []) = false) : okW ts = false := by
  unfold okW
  have : ts.all wOk = false := by
    rw [← Bool.not_eq_true]
    intro ha
    have := List.all_eq_true.1 ha _ (List.getElem_mem hk)
    rw [List.getD_eq_getElem?_getD, List.getElem?_eq_getElem hk] at h
    simp at h
    rw [this] at h; cases h
  rw [this]; simp
theorem vals_at {ts : List (List UInt8)} {i : Nat} (h : i < ts.length) : (ts.map rval).getD i 0 = rval (ts.getD i []) := by
  simp [List.getD, List.getElem?_eq_getElem h]
theorem wok_of {ts : List (List UInt8)} {k : Nat} (hk : k ≤ ts.length) (h17 : k ≤ 17) (h : ∀ i, i < k → wOk (ts.getD i []) = true) : Wok (ts.map rval) k := by
  refine ⟨h17, fun i hi => ?_⟩
  obtain ⟨h1, h2⟩ := wOk_parts (h i hi)
  rw [vals_at (by omega)]
  exact ⟨h2, (rshort_fit h1).2⟩
theorem sgn_neg (x : Rat) : decide (x.num.sign < 0) = !decide (0 ≤ x) := by
  by_cases h : 0 ≤ x
  · rw [decide_eq_true h]
    have := Rat.num_nonneg.2 h
    have h2 : ¬ x.num.sign < 0 := by rw [Int.sign_neg_iff]; omega
    rw [decide_eq_false h2]; rfl
  · rw [decide_eq_false h]
    have h3 : ¬ 0 ≤ x.num := fun h4 => h (Rat.num_nonneg.1 h4)
    have h2 : x.num.sign < 0 := by rw [Int.sign_neg_iff]; omega
    rw [decide_eq_true h2]; rfl
theorem fit_sz {k : Nat} {x : Rat} (h : fitsD k x) (hk : k ≤ 268435456) : Sz 268435456 x := (sz_of_fits h).mono hk
/-- A number in a block of its own. -/
def NBox (w : World) (g : Nat) (x : Rat) : Prop := ∃ b a, ∃ k p : Nat, ∃ c e, ∃ l q : Nat, Blk w g 84 #[.bool b, .slice a k p, .bool c, .slice e l q] ∧ Nm w (.agg #[.bool b, .slice a k p, .bool c, .slice e l q]) x

theorem NBox.below {w w' : World} {g : Nat} {x : Rat} (h : NBox w g x) (hb : Below w.heap.size w w') : NBox w' g x := by
  obtain ⟨b, a, k, p, c, e, l, q, h1, h2⟩ := h
  exact ⟨b, a, k, p, c, e, l, q, h1.next hb, h2.below hb⟩

set_option maxHeartbeats 8000000 in
set_option maxRecDepth 100000 in
theorem dread_any {w : World} {v : Value} (ts : List (List UInt8)) (hlen : ts.length ≤ 1000) (hts : ∀ l ∈ ts, l.length ≤ 268435000) (hv : Qs w v ts) (hg : Good w) :
    Calls Tryz.prog 36 #[v] w (RetRd w (okW ts) (ts.map rval)) := by
  have hvs := hv
  obtain ⟨ao, cap, rfl, hcap, hcm, h3, h4⟩ := hv
  have HG := Lib.hid (fun (V : World) (hV : Below w.heap.size w V) => hg.below hV)
  unfold maxLen at hcm
  by_cases hn0 : ts.length < 1
  · have ok : okW ts = false := by unfold okW; rw [decide_eq_false (by omega)]; rfl
    rw [ok]
    have hz : ((ts.length : Nat) : Int) < 1 := by omega
    generalize ts.length = n at *
    clear h3 h4 hts hg hvs ok
    go_enter Tryz.func36, Tryz.ntmps36
    go_wp2
    go_ret2
    exact ⟨_, _, rfl, .inr ⟨rfl, rfl, rfl⟩, Below.refl _ _⟩
  · by_cases hn16 : 16 < ts.length
    · have ok : okW ts = false := by unfold okW; rw [decide_eq_false (p := ts.length ≤ 16) (by omega)]; simp
      rw [ok]
      have hz : (16 : Int) < ((ts.length : Nat) : Int) := by omega
      have hz1 : ¬ ((ts.length : Nat) : Int) < 1 := by omega
      generalize ts.length = n at *
      clear h3 h4 hts hg hvs ok
      go_enter Tryz.func36, Tryz.ntmps36
      go_wp2
      go_ret2
      exact ⟨_, _, rfl, .inr ⟨rfl, rfl, rfl⟩, Below.refl _ _⟩
    · obtain ⟨p, rfl⟩ := h3.resolve_left (fun h => hn0 (by rw [h]; simp))
      have HC := Lib.hid (h4 p rfl)
      have HTS := Lib.hid hts
      have HV := Lib.hid hvs
      have hz : ¬ ((ts.length : Nat) : Int) < 1 := by omega
      have hz1 : ¬ (16 : Int) < ((ts.length : Nat) : Int) := by omega
      obtain ⟨n, hn⟩ : ∃ n, n = ts.length := ⟨_, rfl⟩
      have HLI := Lib.hid (fun (V : World) (hb : Below w.heap.size w V) (hk : ∀ l ∈ ts, l.length ≤ 268435000 ∧ rerr l = 0) (hne : ts ≠ []) => list_any (w := V) ts hlen hk (hvs.below hb) hne (hg.below hb))
      rw [← hn] at hlen hcap hn0 hn16 hz hz1 HLI ⊢
      have HN := Lib.hid hn
      clear h3 h4 hts hg hn hvs
      go_enter Tryz.func36, Tryz.ntmps36
      go_upto_region 4 with (go_at_call 37; refine zero_any.mono ?_; rintro e w1 ⟨r7, rfl, hr7, hb7⟩; obtain ⟨b7, a7, k7, p7, c7, f7, l7, q7, rfl, -, -⟩ := id hr7.parts)
      have g7 := Blk.new w1 84 #[.bool b7, .slice a7 k7 p7, .bool c7, .slice f7 l7 q7]
      have m7 := hr7.below ((Below.refl _ _).alloc (Nat.le_refl _) (.cells #[.bool b7, .slice a7 k7 p7, .bool c7, .slice f7 l7 q7] 84))
      have hb8 : Below w.heap.size w (w1.alloc (.cells #[.bool b7, .slice a7 k7 p7, .bool c7, .slice f7 l7 q7] 84)) := hb7.alloc hb7.size _
      have HGS := Lib.hid hb7.size
      have K0 := Lib.hid hb8
      have BX := Lib.hid (show NBox _ _ 0 from ⟨b7, a7, k7, p7, c7, f7, l7, q7, g7, m7⟩)
      clear g7 m7 hb8 hb7 hr7
      generalize w1.heap.size = gs at *
      generalize (w1.alloc (.cells #[.bool b7, .slice a7 k7 p7, .bool c7, .slice f7 l7 q7] 84)) = w2 at *
      go_wp2_with fail
      go_loopg [18] n (fun gk u18 wr => ∃ k : Nat, u18 = .int .i64 (k : Int) ∧ k + gk = n ∧ Hid (∀ i, i < k → wOk (ts.getD i []) = true) ∧ Hid (NBox wr gs (cum (ts.map rval) k)) ∧ Hid (Below w.heap.size w wr))
      case atStart => exact ⟨0, rfl, by omega, Lib.hid (fun i hi => by omega), BX, K0⟩
      case round =>
        obtain ⟨k, rfl, hkn, hA, hX, hB⟩ := hrel
        clear BX K0
        by_cases hlt : k < n
        · have hcl := HC.out k (by have := HN.out; omega)
          have hbl := World.block_lt_of_cell? w (p.add k) hcl
          have g0 : wr.cell? (p.add k) = _ := (hB.out.cell (p := p.add k) hbl).trans hcl
          have hlti : ((k : Int) < n) := by omega
          have hkl : k < ts.length := by have := HN.out; omega
          have hll := HTS.out (ts.getD k []) (by simp [List.getD, List.getElem?_eq_getElem hkl])
          have hsh := fun (V : World) (hV : Good V) => rshort_any (w := V) (ts.getD k []) hll hV
          have hbad : wOk (ts.getD k []) = false → okW ts = false := okW_bad hkl
          have hcs : cum (ts.map rval) (k + 1) = cum (ts.map rval) k + rval (ts.getD k []) := by
            show cum (ts.map rval) k + (ts.map rval).getD k 0 = _
            rw [vals_at hkl]
          have HBAD := Lib.hid hbad
          have HCS := Lib.hid hcs
          have HLL := Lib.hid hll
          have HOKD : Hid (wOk (ts.getD k []) = (rshort (ts.getD k []) && decide (0 ≤ rval (ts.getD k [])))) := Lib.hid rfl
          have HSHF := Lib.hid (fun (h : rshort (ts.getD k []) = true) => rshort_fit h)
          have HSZK := Lib.hid (fit_sz (cum_fit (wok_of (k := k) (by omega) (by omega) hA.out) (Nat.le_refl _)) (by omega))
          have HNEXT := Lib.hid (fun (h : wOk (ts.getD k []) = true) => (fun i (hi : i < k + 1) => (if e : i = k then by rw [e]; exact h else hA.out i (by omega)) : ∀ i, i < k + 1 → wOk (ts.getD i []) = true))
          have HFROM := Lib.hid (fun (h : rerr (ts.getD k []) = 0) (V : World) (hV : Good V) => from_any (w := V) (ts.getD k []) HLL.out h hV)
          clear hcl hbl hbad hcs hll
          generalize hsb : rshort (ts.getD k []) = sb at *
          have HSH := Lib.hid hsh
          clear hsh
          generalize (⟨(ts.getD k []).toArray⟩ : ByteArray) = S at *
          cases sb
          · have hok := HBAD.out (by rw [HOKD.out]; rfl)
            go_wp2_with fail
            refine (HSH.out _ (HG.out _ hB.out)).mono ?_
            rintro e w3 ⟨rfl, hb3⟩
            go_wp2
            go_ret2
            exact ⟨_, _, rfl, .inr ⟨hok, rfl, rfl⟩, hB.out.trans (hb3.mono hB.out.size)⟩
          · obtain ⟨he0, hf4⟩ := HSHF.out rfl
            have HFR := Lib.hid (HFROM.out he0)
            have HZS := Lib.hid (fit_sz hf4 (by omega))
            have hsg := sgn_neg (rval (ts.getD k []))
            have HSG := Lib.hid (fun (V : World) v (h : Nm V v (rval (ts.getD k []))) => num_sign (w := V) h)
            have HADD := Lib.hid (fun (V : World) v v' (h1 : Nm V v (cum (ts.map rval) k)) (h2 : Nm V v' (rval (ts.getD k []))) => num_add (w := V) h1 h2 HSZK.out HZS.out)
            rw [← HCS.out] at HADD
            clear he0 hf4
            by_cases hneg : 0 ≤ rval (ts.getD k [])
            · have hok := HNEXT.out (by rw [HOKD.out, decide_eq_true hneg]; rfl)
              rw [decide_eq_true hneg] at hsg
              have hsg2 : ¬ ((rval (ts.getD k [])).num.sign < 0) := by simpa using hsg
              have HOK := Lib.hid hok
              clear hok HBAD HNEXT HOKD HSHF hsg hneg hsb
              generalize rval (ts.getD k []) = z at *
              generalize z.num.sign = sz at *
              go_wp2_with fail
              refine (HSH.out _ (HG.out _ hB.out)).mono ?_
              rintro e w3 ⟨rfl, hb3⟩
              have k3 := next_below hB.out hb3
              go_wp2_with fail
              refine (HFR.out _ (HG.out _ k3)).mono ?_
              rintro e w4 ⟨r4, rfl, hr4, hb4⟩
              have k4 := next_below k3 hb4
              go_wp2_with fail
              refine (HSG.out _ _ hr4).mono ?_
              rintro e w5 ⟨rfl, hb5⟩
              have k5 := Lib.hid (next_below k4 hb5)
              have hbw := Lib.hid (next_below (next_below hb3 hb4) hb5)
              clear hb3 hb4 hb5 k3 k4 hr4
              obtain ⟨b8, a8, k8, p8, c8, f8, l8, q8, j8, m8⟩ := NBox.below hX.out hbw.out
              have J8 := Lib.hid j8
              have M8 := Lib.hid m8
              clear j8 m8 HSG HSH
              go_upto_region 9 with fail
              have hB0 : Below w5.heap.size w5 w5.drew := (Below.refl _ _).drew
              refine wp_region_list 4 (by kernel_rfl) (by kernel_rfl) [] [fun v _ => v = .agg #[.bool b8, .slice a8 k8 p8, .bool c8, .slice f8 l8 q8], fun v _ => v = .string S, fun v w' => Nm w' v (z), fun v w' => Nm w' v (cum (ts.map rval) (k + 1))] (by simp only [List.take_succ_cons, List.take_zero]; rfl) (by simp only [List.drop_succ_cons, List.drop_zero]; rfl) (fun vals => by simp only [fam, Act.put, List.setIfInBounds_toArray, List.set_cons_zero, List.set_cons_succ, if_true]; rfl) (by repeat' (first | exact Stab.eq _ _ | exact Stab.wh _ _ | exact Stab.nm _ _ | exact Stab.new _ _ | exact Stab.newn _ _ | exact Stab.tw _ _ _ | exact Stab.lm _ _ _ | exact Stab.onet _ _ _ | exact Stab.pl _ _ _ | exact trivial | apply And.intro)) trivial ?_ ?_
              · refine ⟨?_, ?_, ?_, ?_, trivial⟩
                all_goals
                  intro vals w6 hB1 hp
                  dsimp only
                  (try simp [preOk, Region.binds, r_anygc, r_anytext] at hp)
                  have hb := next_below hB0 hB1
                  have kb := next_below k5.out hb
                  clear hB1
                case refine_1 =>
                  obtain ⟨y0, y1, y2, y3⟩ := (J8.out.next hb).at4
                  go_wp2
                  (first | exact ⟨rfl, _, rfl, rfl, Below.refl _ _, trivial⟩ | (refine ⟨rfl, _, ?_, rfl, Below.refl _ _, trivial⟩; simp only [Act.put, List.setIfInBounds_toArray, List.set_cons_zero, List.set_cons_succ, hp]))
                case refine_2 =>
                  go_wp2
                  (first | exact ⟨rfl, _, rfl, rfl, Below.refl _ _, trivial⟩ | (refine ⟨rfl, _, ?_, rfl, Below.refl _ _, trivial⟩; simp only [Act.put, List.setIfInBounds_toArray, List.set_cons_zero, List.set_cons_succ, hp]))
                case refine_3 =>
                  have a0 : vals 1 = .string S := by first | exact hp.1 | exact hp
                  clear hp
                  generalize vals 1 = z1 at *
                  subst a0
                  go_wp2_with (go_at_call 72; refine (HFR.out _ (HG.out _ kb)).mono ?_; rintro e w7 ⟨r7, rfl, hr7, hb7⟩)
                  exact ⟨rfl, _, rfl, hr7, hb7, trivial⟩
                case refine_4 =>
                  obtain ⟨a0, a2⟩ := hp
                  generalize vals 0 = z0 at *
                  subst a0
                  generalize vals 2 = z2 at *
                  have M9 := Lib.hid (M8.out.below hb)
                  have A2 := Lib.hid a2
                  clear a2
                  go_wp2_with (go_at_call 65; refine (HADD.out _ _ _ M9.out A2.out).mono ?_; rintro e w7 ⟨r7, rfl, hr7, hb7⟩)
                  exact ⟨rfl, _, rfl, hr7, hb7, trivial⟩
              · rintro vals w6 hB1 ⟨p0, p1, p2, p3, _⟩ hne
                have hb := next_below hB0 hB1
                generalize vals 3 = v3 at *
                have P3 := Lib.hid p3
                obtain ⟨b9, a9, k9, q9, c9, e9, l9, r9, rfl, -, -⟩ := id p3.parts
                have j9 := J8.out.next hb
                obtain ⟨c0, c1, c2, c3⟩ := j9.at4
                obtain ⟨u0, u1, u2, u3⟩ := j9.fr4
                have jn := Lib.hid (j9.four (.bool b9) (.slice a9 k9 q9) (.bool c9) (.slice e9 l9 r9))
                have nn := Lib.hid (P3.out.four j9 (by decide) (.bool b9) (.slice a9 k9 q9) (.bool c9) (.slice e9 l9 r9))
                have bb := Lib.hid (below_four (next_below k5.out hb) HGS.out (.bool b9) (.slice a9 k9 q9) (.bool c9) (.slice e9 l9 r9))
                clear hne p0 p1 p2 p3 hB1 hB0 j9 hb
                generalize vals 0 = v0 at *
                generalize vals 1 = v1 at *
                generalize vals 2 = v2 at *
                go_wp2
                go_roundg (gk - 1)
                case rel => exact ⟨k + 1, by go_num, by omega, HOK, Lib.hid ⟨_, _, _, _, _, _, _, _, jn.out, nn.out⟩, bb⟩
                case measure => omega
            · have hok := HBAD.out (by rw [HOKD.out, decide_eq_false hneg]; rfl)
              rw [decide_eq_false hneg] at hsg
              have hsg2 : (rval (ts.getD k [])).num.sign < 0 := by simpa using hsg
              clear hsg hneg hsb
              generalize rval (ts.getD k []) = z at *
              generalize z.num.sign = sz at *
              go_wp2_with fail
              refine (HSH.out _ (HG.out _ hB.out)).mono ?_
              rintro e w3 ⟨rfl, hb3⟩
              have k3 := next_below hB.out hb3
              go_wp2_with fail
              refine (HFR.out _ (HG.out _ k3)).mono ?_
              rintro e w4 ⟨r4, rfl, hr4, hb4⟩
              have k4 := next_below k3 hb4
              go_wp2_with fail
              refine (HSG.out _ _ hr4).mono ?_
              rintro e w5 ⟨rfl, hb5⟩
              go_wp2
              go_ret2
              exact ⟨_, _, rfl, .inr ⟨hok, rfl, rfl⟩, next_below k4 hb5⟩
        · obtain rfl : k = n := by omega
          have hall : ts.all wOk = true := by
            rw [List.all_eq_true]
            intro l hl
            obtain ⟨i, hi, rfl⟩ := List.getElem_of_mem hl
            have := hA.out i (by have := HN.out; omega)
            rwa [List.getD_eq_getElem?_getD, List.getElem?_eq_getElem hi] at this
          have hok : okW ts = decide (cum (ts.map rval) k = 1) := by
            unfold okW
            rw [← HN.out, decide_eq_true (p := 1 ≤ k) (by omega), decide_eq_true (p := k ≤ 16) (by omega), hall]; rfl
          have hgood : ∀ l ∈ ts, l.length ≤ 268435000 ∧ rerr l = 0 := fun l hl => ⟨HTS.out l hl, (rshort_fit (wOk_parts (List.all_eq_true.1 hall l hl)).1).1⟩
          have hne0 : ts ≠ [] := fun h => by have := HN.out; rw [h] at this; simp at this; omega
          have HL := Lib.hid (fun (V : World) (hb : Below w.heap.size w V) => HLI.out V hb hgood hne0)
          have HSZK := Lib.hid (fit_sz (cum_fit (wok_of (k := k) (by have := HN.out; omega) (by omega) hA.out) (Nat.le_refl _)) (by omega))
          have HCMP := Lib.hid (fun (V : World) v v' (h1 : Nm V v (cum (ts.map rval) k)) (h2 : Nm V v' 1) => num_cmp (w := V) h1 h2 HSZK.out (fit_sz (k := 1) (by decide +kernel) (by omega)))
          obtain ⟨b8, a8, k8, p8, c8, f8, l8, q8, j8, m8⟩ := hX.out
          have J8 := Lib.hid j8
          have M8 := Lib.hid m8
          have HZ := @rcmp_zero (cum (ts.map rval) k) 1
          obtain ⟨ok, hokd⟩ : ∃ ok, ok = okW ts := ⟨_, rfl⟩
          have HOE := Lib.hid hokd
          rw [hok] at hokd
          have HOKD : Hid ((ok = true → rcmp (cum (ts.map rval) k) 1 = 0) ∧ (ok = false → (rcmp (cum (ts.map rval) k) 1 != 0) = true)) := Lib.hid ⟨fun h => HZ.2 (by rw [hokd] at h; exact of_decide_eq_true h), fun h => by rw [hokd] at h; rw [bne_iff_ne]; exact fun h2 => of_decide_eq_false h (HZ.1 h2)⟩
          clear j8 m8 hall hok hgood hne0 HLI HZ hokd
          generalize rcmp (cum (ts.map rval) k) 1 = C at *
          have kB := hB
          go_upto_region 11 with fail
          have hB0 : Below wr.heap.size wr wr.drew := (Below.refl _ _).drew
          refine wp_region_list 4 (by kernel_rfl) (by kernel_rfl) [] [fun v _ => v = .agg #[.bool b8, .slice a8 k8 p8, .bool c8, .slice f8 l8 q8], fun v w' => Nm w' v (1), fun v _ => v = .int .i64 C, fun v _ => v = .bool (C != 0)] (by simp only [List.take_succ_cons, List.take_zero]; rfl) (by simp only [List.drop_succ_cons, List.drop_zero]; rfl) (fun vals => by simp only [fam, Act.put, List.setIfInBounds_toArray, List.set_cons_zero, List.set_cons_succ, if_true]; rfl) (by repeat' (first | exact Stab.eq _ _ | exact Stab.wh _ _ | exact Stab.nm _ _ | exact Stab.new _ _ | exact Stab.newn _ _ | exact Stab.tw _ _ _ | exact Stab.lm _ _ _ | exact Stab.onet _ _ _ | exact Stab.pl _ _ _ | exact trivial | apply And.intro)) trivial ?_ ?_
          · refine ⟨?_, ?_, ?_, ?_, trivial⟩
            all_goals
              intro vals w6 hB1 hp
              dsimp only
              (try simp [preOk, Region.binds, r_anygc, r_anytext] at hp)
              have hb := next_below hB0 hB1
              have kb := next_below kB.out hb
              clear hB1
            case refine_1 =>
              obtain ⟨y0, y1, y2, y3⟩ := (J8.out.next hb).at4
              go_wp2
              (first | exact ⟨rfl, _, rfl, rfl, Below.refl _ _, trivial⟩ | (refine ⟨rfl, _, ?_, rfl, Below.refl _ _, trivial⟩; simp only [Act.put, List.setIfInBounds_toArray, List.set_cons_zero, List.set_cons_succ, hp]))
            case refine_2 =>
              go_wp2_with (go_at_call 41; refine one_any.mono ?_; rintro e w7 ⟨r7, rfl, hr7, hb7⟩)
              exact ⟨rfl, _, rfl, hr7, hb7, trivial⟩
            case refine_3 =>
              obtain ⟨a0, a2⟩ := hp
              generalize vals 0 = z0 at *
              subst a0
              generalize vals 1 = z2 at *
              have M9 := Lib.hid (M8.out.below hb)
              have A2 := Lib.hid a2
              clear a2
              go_wp2_with (go_at_call 74; refine (HCMP.out _ _ _ M9.out A2.out).mono ?_; rintro e w7 ⟨rfl, hb7⟩)
              exact ⟨rfl, _, rfl, rfl, hb7, trivial⟩
            case refine_4 =>
              have a0 := hp
              generalize vals 2 = z2 at *
              subst a0
              go_wp2
              (first | exact ⟨rfl, _, rfl, rfl, Below.refl _ _, trivial⟩ | (refine ⟨rfl, _, ?_, rfl, Below.refl _ _, trivial⟩; simp only [Act.put, List.setIfInBounds_toArray, List.set_cons_zero, List.set_cons_succ, hp]))
          · rintro vals w6 hB1 ⟨p0, p1, p2, p3, _⟩ hne
            have kb := Lib.hid (next_below kB.out (next_below hB0 hB1))
            have z3 := p3
            (try dsimp only at z3)
            generalize vals 3 = v3 at *
            subst z3
            clear hne p0 p1 p2 p3 hB1 hB0
            generalize vals 0 = v0 at *
            generalize vals 1 = v1 at *
            generalize vals 2 = v2 at *
            cases ok
            · have hC := HOKD.out.2 rfl
              go_wp2
              go_ret2
              exact ⟨_, _, rfl, .inr ⟨HOE.out.symm, rfl, rfl⟩, kb.out⟩
            · have hC := HOKD.out.1 rfl
              subst hC
              go_wp2_with fail
              refine (HL.out _ kb.out).mono ?_
              rintro e w8 ⟨B, v, rfl, hrow, hb8⟩
              have HROW := Lib.hid hrow
              have kb8 := Lib.hid (next_below kb.out hb8)
              clear hrow hb8
              go_wp2
              go_ret2
              exact ⟨_, _, rfl, .inl ⟨HOE.out.symm, rfl, B, HROW.out⟩, kb8.out⟩
end Go.Proofs.YtfjjdjhnodcfhaaGreatDoor

/- draw.power, and places: within, half. -/
set_option linter.unusedSimpArgs false
set_option linter.unusedVariables false
namespace Go.Proofs.YtfjjdjhnodcfhaaGreatDoor
open Go.RowKit
open Go.Lib (decDigits itoa nDigits)
open D4 (rt it Mid)

theorem two_dbl (k : Nat) : ((2 ^ k : Nat) : Rat) + ((2 ^ k : Nat) : Rat) = ((2 ^ (k + 1) : Nat) : Rat) := by rw [two_succ]; grind
set_option maxHeartbeats 4000000 in
set_option maxRecDepth 100000 in
theorem power_any {w : World} (n : Nat) (hn : n ≤ 210) : Calls Tryz.prog 78 #[.int .i64 n] w (RetN w ((2 ^ n : Nat) : Rat)) := by
  obtain ⟨W, hW, hB, hsz, j1⟩ := entA w 84 #[.bool false, .slice none 0 0, .bool false, .slice none 0 0]
  have HW := Lib.hid hW
  have HB := Lib.hid hB
  have HSZ := Lib.hid hsz
  have J1 := Lib.hid j1
  have HADD := Lib.hid (fun (k : Nat) (hk : k < n) (V : World) v (h1 : Nm V v ((2 ^ k : Nat) : Rat)) => by
    have s := fit_sz (two_fit (k := k) (by omega)) (by omega)
    have h := num_add (w := V) h1 h1 s s
    rw [two_dbl] at h
    exact h)
  clear hW hsz hB j1
  go_enter Tryz.func78, Tryz.ntmps78
  go_upto_region 1 with fail
  rw [← HW.out]
  clear HW
  go_upto_region 2 with (go_at_call 41; refine one_any.mono ?_; rintro e w3 ⟨r3, rfl, hr3, hb3⟩; obtain ⟨b7, a7, k7, p7, c7, f7, l7, q7, rfl, -, -⟩ := id hr3.parts)
  have g7 := Blk.new w3 84 #[.bool b7, .slice a7 k7 p7, .bool c7, .slice f7 l7 q7]
  have m7 := hr3.below ((Below.refl _ _).alloc (Nat.le_refl _) (.cells #[.bool b7, .slice a7 k7 p7, .bool c7, .slice f7 l7 q7] 84))
  have K0 := Lib.hid (hb3.alloc hb3.size (.cells #[.bool b7, .slice a7 k7 p7, .bool c7, .slice f7 l7 q7] 84))
  have HGS := Lib.hid hb3.size
  have BX := Lib.hid (show NBox _ _ ((2 ^ 0 : Nat) : Rat) from ⟨b7, a7, k7, p7, c7, f7, l7, q7, g7, m7⟩)
  clear g7 m7 hb3 hr3
  generalize w3.heap.size = gs at *
  generalize (w3.alloc (.cells #[.bool b7, .slice a7 k7 p7, .bool c7, .slice f7 l7 q7] 84)) = w2 at *
  go_wp2_with fail
  go_loopg [6] n (fun gk u6 wr => ∃ k : Nat, u6 = .int .i64 (k : Int) ∧ k + gk = n ∧ Hid (NBox wr gs ((2 ^ k : Nat) : Rat)) ∧ Hid (Below W.heap.size W wr))
  case atStart => exact ⟨0, rfl, by omega, BX, K0⟩
  case round =>
    obtain ⟨k, rfl, hkn, hX, hK⟩ := hrel
    clear BX K0
    obtain ⟨b8, a8, k8, p8, c8, f8, l8, q8, j8, m8⟩ := hX.out
    have J8 := Lib.hid j8
    have M8 := Lib.hid m8
    obtain ⟨c0, c1, c2, c3⟩ := j8.at4
    clear j8 m8
    by_cases hlt : k < n
    · have hlti : ((k : Int) < n) := by omega
      go_wp2_with fail
      refine (HADD.out k hlt _ _ M8.out).mono ?_
      rintro e w5 ⟨r5, rfl, hr5, hb5⟩
      have P3 := Lib.hid hr5
      obtain ⟨b9, a9, k9, q9, c9, e9, l9, r9, rfl, -, -⟩ := id hr5.parts
      have j9 := J8.out.next hb5
      have kb := next_below hK.out hb5
      clear c0 c1 c2 c3 hr5
      obtain ⟨c0, c1, c2, c3⟩ := j9.at4
      obtain ⟨u0, u1, u2, u3⟩ := j9.fr4
      have jn := Lib.hid (j9.four (.bool b9) (.slice a9 k9 q9) (.bool c9) (.slice e9 l9 r9))
      have nn := Lib.hid (P3.out.four j9 (by decide) (.bool b9) (.slice a9 k9 q9) (.bool c9) (.slice e9 l9 r9))
      have bb := Lib.hid (below_four kb HGS.out (.bool b9) (.slice a9 k9 q9) (.bool c9) (.slice e9 l9 r9))
      clear j9 kb hb5
      go_wp2
      go_roundg (gk - 1)
      case rel => exact ⟨k + 1, by go_num, by omega, Lib.hid ⟨_, _, _, _, _, _, _, _, jn.out, nn.out⟩, bb⟩
      case measure => omega
    · obtain rfl : k = n := by omega
      have j9 := J1.out.next hK.out
      obtain ⟨r0, r1, r2, r3⟩ := j9.at4
      obtain ⟨u0, u1, u2, u3⟩ := j9.fr4
      obtain ⟨d0, d1, d2, d3⟩ := (j9.four (.bool b8) (.slice a8 k8 p8) (.bool c8) (.slice f8 l8 q8)).at4
      have nn := Lib.hid (M8.out.four j9 (by decide) (.bool b8) (.slice a8 k8 p8) (.bool c8) (.slice f8 l8 q8))
      have bb := Lib.hid (below_four (HB.out.trans (hK.out.mono HB.out.size)) (Nat.le_refl _) (.bool b8) (.slice a8 k8 p8) (.bool c8) (.slice f8 l8 q8))
      clear j9
      go_wp2
      refine bodyPost_ret (v := .agg #[.bool b8, .slice a8 k8 p8, .bool c8, .slice f8 l8 q8]) (by simp [results, Tryz.results78, go_sem, d0, d1, d2, d3]) rfl ⟨_, rfl, nn.out, bb.out⟩

/-- A place: where it begins, and where it ends. -/
def Pl (w : World) (v : Value) (f t : Rat) : Prop := ∃ b a, ∃ k p : Nat, ∃ c e, ∃ l q : Nat, ∃ b' a', ∃ k' p' : Nat, ∃ c' e', ∃ l' q' : Nat, v = .agg #[.bool b, .slice a k p, .bool c, .slice e l q, .bool b', .slice a' k' p', .bool c', .slice e' l' q'] ∧ Nm w (.agg #[.bool b, .slice a k p, .bool c, .slice e l q]) f ∧ Nm w (.agg #[.bool b', .slice a' k' p', .bool c', .slice e' l' q']) t
theorem Pl.below {w w' : World} {v : Value} {f t : Rat} (h : Pl w v f t) (hb : Below w.heap.size w w') : Pl w' v f t := by
  obtain ⟨b, a, k, p, c, e, l, q, b', a', k', p', c', e', l', q', h1, h2, h3⟩ := h
  exact ⟨b, a, k, p, c, e, l, q, b', a', k', p', c', e', l', q', h1, h2.below hb, h3.below hb⟩
theorem Blk.at8 {w : World} {g : Nat} {t : TypeId} {u0 u1 u2 u3 u4 u5 u6 u7 : Value} (h : Blk w g t #[u0, u1, u2, u3, u4, u5, u6, u7]) : w.cell? ⟨g, 0, none⟩ = some u0 ∧ w.cell? ⟨g, 1, none⟩ = some u1 ∧ w.cell? ⟨g, 2, none⟩ = some u2 ∧ w.cell? ⟨g, 3, none⟩ = some u3 ∧ w.cell? ⟨g, 4, none⟩ = some u4 ∧ w.cell? ⟨g, 5, none⟩ = some u5 ∧ w.cell? ⟨g, 6, none⟩ = some u6 ∧ w.cell? ⟨g, 7, none⟩ = some u7 :=
  ⟨by simpa using h.cell 0, by simpa using h.cell 1, by simpa using h.cell 2, by simpa using h.cell 3, by simpa using h.cell 4, by simpa using h.cell 5, by simpa using h.cell 6, by simpa using h.cell 7⟩
set_option maxHeartbeats 4000000 in
set_option maxRecDepth 100000 in
theorem within_any {w : World} {v v' : Value} {f t f' t' : Rat} (h : Pl w v f t) (h' : Pl w v' f' t') (s1 : fitsD 90 f) (s2 : fitsD 90 t) (s3 : fitsD 90 f') (s4 : fitsD 90 t') : Calls Tryz.prog 49 #[v, v'] w (RetV w (.bool (decide (f' ≤ f) && decide (t ≤ t')))) := by
  obtain ⟨b, a, k, p, c, e, l, q, b', a', k', p', c', e', l', q', rfl, h1, h2⟩ := h
  obtain ⟨xb, xa, xk, xp, xc, xe, xl, xq, xb', xa', xk', xp', xc', xe', xl', xq', rfl, h3, h4⟩ := h'
  obtain ⟨W, hW, hB, hsz, jx, jy⟩ := entB w 92 92 #[.bool b, .slice a k p, .bool c, .slice e l q, .bool b', .slice a' k' p', .bool c', .slice e' l' q'] #[.bool xb, .slice xa xk xp, .bool xc, .slice xe xl xq, .bool xb', .slice xa' xk' xp', .bool xc', .slice xe' xl' xq']
  have HW := Lib.hid hW
  have HB := Lib.hid hB
  have HC1 := Lib.hid (num_cmp (w := W) (h3.below hB) (h1.below hB) (fit_sz s3 (by omega)) (fit_sz s1 (by omega)))
  have HC2 := Lib.hid (fun (V : World) (hV : Below W.heap.size W V) => num_cmp (w := V) ((h2.below hB).below hV) ((h4.below hB).below hV) (fit_sz s2 (by omega)) (fit_sz s4 (by omega)))
  have e1 := @rcmp_le f' f
  have e2 := @rcmp_le t t'
  generalize rcmp f' f = C1 at *
  generalize rcmp t t' = C2 at *
  have JX := Lib.hid jx
  have JY := Lib.hid jy
  obtain ⟨x0, x1, x2, x3, x4, x5, x6, x7⟩ := jx.at8
  obtain ⟨y0, y1, y2, y3, y4, y5, y6, y7⟩ := jy.at8
  have HE1 := Lib.hid e1
  have HE2 := Lib.hid e2
  clear hW hB hsz jx jy h1 h2 h3 h4 s1 s2 s3 s4 e1 e2
  by_cases hc1 : C1 ≤ 0
  · by_cases hc2 : C2 ≤ 0
    · rw [decide_eq_true (HE1.out.1 hc1), decide_eq_true (HE2.out.1 hc2), Bool.and_true]
      have hd1 : decide (C1 ≤ 0) = true := decide_eq_true hc1
      have hd2 : decide (C2 ≤ 0) = true := decide_eq_true hc2
      go_enter Tryz.func49, Tryz.ntmps49
      go_upto_region 1 with fail
      rw [← HW.out]
      go_wp2_with fail
      refine HC1.out.mono ?_
      rintro o w1 ⟨rfl, b1⟩
      clear x0 x1 x2 x3 x4 x5 x6 x7 y0 y1 y2 y3 y4 y5 y6 y7
      obtain ⟨x0, x1, x2, x3, x4, x5, x6, x7⟩ := (JX.out.next b1).at8
      obtain ⟨y0, y1, y2, y3, y4, y5, y6, y7⟩ := (JY.out.next b1).at8
      have B1 := Lib.hid b1
      clear b1
      go_wp2_with fail
      refine (HC2.out _ B1.out).mono ?_
      rintro o w2 ⟨rfl, b2⟩
      go_wp2
      go_ret
      exact ⟨rfl, HB.out.trans ((next_below B1.out b2).mono HB.out.size)⟩
    · rw [decide_eq_true (HE1.out.1 hc1), decide_eq_false (fun h => hc2 (HE2.out.2 h)), Bool.and_false]
      have hd1 : decide (C1 ≤ 0) = true := decide_eq_true hc1
      have hd2 : decide (C2 ≤ 0) = false := decide_eq_false hc2
      go_enter Tryz.func49, Tryz.ntmps49
      go_upto_region 1 with fail
      rw [← HW.out]
      go_wp2_with fail
      refine HC1.out.mono ?_
      rintro o w1 ⟨rfl, b1⟩
      clear x0 x1 x2 x3 x4 x5 x6 x7 y0 y1 y2 y3 y4 y5 y6 y7
      obtain ⟨x0, x1, x2, x3, x4, x5, x6, x7⟩ := (JX.out.next b1).at8
      obtain ⟨y0, y1, y2, y3, y4, y5, y6, y7⟩ := (JY.out.next b1).at8
      have B1 := Lib.hid b1
      clear b1
      go_wp2_with fail
      refine (HC2.out _ B1.out).mono ?_
      rintro o w2 ⟨rfl, b2⟩
      go_wp2
      go_ret
      exact ⟨rfl, HB.out.trans ((next_below B1.out b2).mono HB.out.size)⟩
  · rw [decide_eq_false (fun h => hc1 (HE1.out.2 h)), Bool.false_and]
    have hd1 : decide (C1 ≤ 0) = false := decide_eq_false hc1
    go_enter Tryz.func49, Tryz.ntmps49
    go_upto_region 1 with fail
    rw [← HW.out]
    go_wp2_with fail
    refine HC1.out.mono ?_
    rintro o w1 ⟨rfl, b1⟩
    go_wp2
    go_ret
    exact ⟨rfl, HB.out.trans (b1.mono HB.out.size)⟩
end Go.Proofs.YtfjjdjhnodcfhaaGreatDoor

/- The half of a place. -/
set_option linter.unusedSimpArgs false
set_option linter.unusedVariables false
namespace Go.Proofs.YtfjjdjhnodcfhaaGreatDoor
open Go.RowKit
open Go.Lib (decDigits itoa nDigits)
open D4 (rt it Mid)

theorem Blk.fr8 {w : World} {g : Nat} {t : TypeId} {cs : Array Value} (h : Blk w g t cs) : w.frozen? ⟨g, 0, none⟩ = false ∧ w.frozen? ⟨g, 1, none⟩ = false ∧ w.frozen? ⟨g, 2, none⟩ = false ∧ w.frozen? ⟨g, 3, none⟩ = false ∧ w.frozen? ⟨g, 4, none⟩ = false ∧ w.frozen? ⟨g, 5, none⟩ = false ∧ w.frozen? ⟨g, 6, none⟩ = false ∧ w.frozen? ⟨g, 7, none⟩ = false :=
  ⟨h.frozen 0, h.frozen 1, h.frozen 2, h.frozen 3, h.frozen 4, h.frozen 5, h.frozen 6, h.frozen 7⟩
theorem Blk.eight {w : World} {g : Nat} {t : TypeId} {u0 u1 u2 u3 u4 u5 u6 u7 : Value} (h : Blk w g t #[u0, u1, u2, u3, u4, u5, u6, u7]) (y0 y1 y2 y3 y4 y5 y6 y7 : Value) : Blk ((((((((w.setCell ⟨g, 0, none⟩ y0).setCell ⟨g, 1, none⟩ y1).setCell ⟨g, 2, none⟩ y2).setCell ⟨g, 3, none⟩ y3).setCell ⟨g, 4, none⟩ y4).setCell ⟨g, 5, none⟩ y5).setCell ⟨g, 6, none⟩ y6).setCell ⟨g, 7, none⟩ y7) g t #[y0, y1, y2, y3, y4, y5, y6, y7] := by
  simpa using ((((((((h.set_ 0 y0).set_ 1 y1).set_ 2 y2).set_ 3 y3).set_ 4 y4).set_ 5 y5).set_ 6 y6).set_ 7 y7)
theorem below_eight {B : Nat} {a w : World} {g : Nat} (h : Below B a w) (hg : B ≤ g) (y0 y1 y2 y3 y4 y5 y6 y7 : Value) : Below B a ((((((((w.setCell ⟨g, 0, none⟩ y0).setCell ⟨g, 1, none⟩ y1).setCell ⟨g, 2, none⟩ y2).setCell ⟨g, 3, none⟩ y3).setCell ⟨g, 4, none⟩ y4).setCell ⟨g, 5, none⟩ y5).setCell ⟨g, 6, none⟩ y6).setCell ⟨g, 7, none⟩ y7) :=
  ((((((((h.setCell (p := ⟨g, 0, none⟩) hg y0).setCell (p := ⟨g, 1, none⟩) hg y1).setCell (p := ⟨g, 2, none⟩) hg y2).setCell (p := ⟨g, 3, none⟩) hg y3).setCell (p := ⟨g, 4, none⟩) hg y4).setCell (p := ⟨g, 5, none⟩) hg y5).setCell (p := ⟨g, 6, none⟩) hg y6).setCell (p := ⟨g, 7, none⟩) hg y7)
theorem Nm.eight {w : World} {v : Value} {n : Rat} {g : Nat} {t : TypeId} {u0 u1 u2 u3 u4 u5 u6 u7 : Value} (h : Nm w v n) (hb : Blk w g t #[u0, u1, u2, u3, u4, u5, u6, u7]) (ht : t ≠ 116) (y0 y1 y2 y3 y4 y5 y6 y7 : Value) : Nm ((((((((w.setCell ⟨g, 0, none⟩ y0).setCell ⟨g, 1, none⟩ y1).setCell ⟨g, 2, none⟩ y2).setCell ⟨g, 3, none⟩ y3).setCell ⟨g, 4, none⟩ y4).setCell ⟨g, 5, none⟩ y5).setCell ⟨g, 6, none⟩ y6).setCell ⟨g, 7, none⟩ y7) v n := by
  obtain ⟨a, b, c, d, h1, h2, h3⟩ := h
  have k0 := hb
  have k1 := k0.set_ 0 y0
  have k2 := k1.set_ 1 y1
  have k3 := k2.set_ 2 y2
  have k4 := k3.set_ 3 y3
  have k5 := k4.set_ 4 y4
  have k6 := k5.set_ 5 y5
  have k7 := k6.set_ 6 y6
  have key : ∀ {v : Value} {n : Int}, Wh w v n → Wh ((((((((w.setCell ⟨g, 0, none⟩ y0).setCell ⟨g, 1, none⟩ y1).setCell ⟨g, 2, none⟩ y2).setCell ⟨g, 3, none⟩ y3).setCell ⟨g, 4, none⟩ y4).setCell ⟨g, 5, none⟩ y5).setCell ⟨g, 6, none⟩ y6).setCell ⟨g, 7, none⟩ y7) v n := by
    rintro v n ⟨sv, hv, hl⟩
    exact ⟨sv, hv, (((((((hl.far k0 ht y0).far k1 ht y1).far k2 ht y2).far k3 ht y3).far k4 ht y4).far k5 ht y5).far k6 ht y6).far k7 ht y7⟩
  exact ⟨a, b, c, d, h1, key h2, key h3⟩
/-- What answers a place. -/
def RetPl (w : World) (f t : Rat) (e : Ending) (w' : World) : Prop := ∃ v, e = .returned v ∧ Pl w' v f t ∧ Below w.heap.size w w'

set_option maxHeartbeats 4000000 in
set_option maxRecDepth 100000 in
theorem half_any {w : World} {v : Value} {f t : Rat} (h : Pl w v f t) (s1 : fitsD 70 f) (s2 : fitsD 70 t) (s3 : fitsD 75 (f + t)) (u : Bool) : Calls Tryz.prog 50 #[v, .bool u] w (RetPl w (if u then (f + t) / 2 else f) (if u then t else (f + t) / 2)) := by
  obtain ⟨b, a, k, p, c, e, l, q, b', a', k', p', c', e', l', q', rfl, h1, h2⟩ := h
  obtain ⟨W, hW, hB, hsz, jx, jz⟩ := entB w 92 92 #[.bool b, .slice a k p, .bool c, .slice e l q, .bool b', .slice a' k' p', .bool c', .slice e' l' q'] #[.bool false, .slice none 0 0, .bool false, .slice none 0 0, .bool false, .slice none 0 0, .bool false, .slice none 0 0]
  have HW := Lib.hid hW
  have HB := Lib.hid hB
  have HSZ := Lib.hid hsz
  have m1 := h1.below hB
  have m2 := h2.below hB
  have HADD := Lib.hid (num_add (w := W) m1 m2 (fit_sz s1 (by omega)) (fit_sz s2 (by omega)))
  have HOF := Lib.hid (fun V => num_of (w := V) (m := 2) (n := 1) (by decide) (by decide) (by decide) (by decide) (by decide))
  have HDIV := Lib.hid (fun V v1 v2 (h1 : Nm V v1 (f + t)) (h2 : Nm V v2 (Rat.divInt 2 1)) => by
    have e2 : (Rat.divInt 2 1 : Rat) = ((2 ^ 1 : Nat) : Rat) := by decide +kernel
    rw [e2] at h2
    have h := num_div (w := V) h1 h2 (fit_sz s3 (by omega)) (fit_sz (two_fit (k := 1) (by omega)) (by omega)) (by decide +kernel)
    rw [show ((2 ^ 1 : Nat) : Rat) = 2 by decide +kernel] at h
    exact h)
  have JX := Lib.hid jx
  have JZ := Lib.hid jz
  have HM1 := Lib.hid m1
  have HM2 := Lib.hid m2
  obtain ⟨x0, x1, x2, x3, x4, x5, x6, x7⟩ := jx.at8
  clear hW hB hsz jx jz m1 m2 h1 h2 s1 s2 s3
  cases u
  ·
    go_enter Tryz.func50, Tryz.ntmps50
    go_upto_region 1 with fail
    rw [← HW.out]
    go_wp2_with fail
    refine HADD.out.mono ?_
    rintro ee w1 ⟨v1, rfl, n1, b1⟩
    have B1 := Lib.hid b1
    have N1 := Lib.hid n1
    obtain ⟨b7, a7, k7, p7, c7, f7, l7, q7, rfl, -, -⟩ := id n1.parts
    clear b1 n1
    go_wp2_with fail
    refine (HOF.out w1).mono ?_
    rintro ee w2 ⟨v2, rfl, n2, b2⟩
    have N2 := Lib.hid n2
    have N1' := Lib.hid (N1.out.below b2)
    have B2 := Lib.hid (next_below B1.out b2)
    obtain ⟨b8, a8, k8, p8, c8, f8, l8, q8, rfl, -, -⟩ := id n2.parts
    clear b2 n2 N1
    go_wp2_with fail
    refine (HDIV.out w2 _ _ N1'.out N2.out).mono ?_
    rintro ee w3 ⟨v3, rfl, n3, b3⟩
    obtain ⟨b9, a9, k9, q9, c9, e9, l9, r9, rfl, -, -⟩ := id n3.parts
    have B3 := Lib.hid (next_below B2.out b3)
    have jq := Blk.new w3 84 #[.bool b9, .slice a9 k9 q9, .bool c9, .slice e9 l9 r9]
    have bq := B3.out.alloc B3.out.size (.cells #[.bool b9, .slice a9 k9 q9, .bool c9, .slice e9 l9 r9] 84)
    have nq := n3.below ((Below.refl _ _).alloc (Nat.le_refl _) (.cells #[.bool b9, .slice a9 k9 q9, .bool c9, .slice e9 l9 r9] 84))
    have gs3 := B3.out.size
    clear N1' N2 B1 B2 b3 n3
    have jn := jq
    have nn := Lib.hid nq
    have bn := Lib.hid bq
    have sz3 := Lib.hid gs3
    clear nq bq gs3 x0 x1 x2 x3 x4 x5 x6 x7
    go_upto_region 2 with fail
    clear jq
    obtain ⟨o0, o1, o2, o3⟩ := jn.at4
    generalize w3.heap.size = gs at *
    generalize w3.alloc (.cells #[.bool b9, .slice a9 k9 q9, .bool c9, .slice e9 l9 r9] 84) = w5 at *
    have BW := Lib.hid bn.out
    have NQ := Lib.hid nn.out
    have jz := JZ.out.next BW.out
    obtain ⟨x0, x1, x2, x3, x4, x5, x6, x7⟩ := (JX.out.next BW.out).at8
    obtain ⟨y0, y1, y2, y3, y4, y5, y6, y7⟩ := jz.at8
    obtain ⟨z0, z1, z2, z3, z4, z5, z6, z7⟩ := jz.fr8
    have JE := Lib.hid jz
    have R1 := Lib.hid ((HM1.out.below BW.out).eight jz (by decide) (.bool b) (.slice a k p) (.bool c) (.slice e l q) (.bool b9) (.slice a9 k9 q9) (.bool c9) (.slice e9 l9 r9))
    have R2 := Lib.hid (NQ.out.eight jz (by decide) (.bool b) (.slice a k p) (.bool c) (.slice e l q) (.bool b9) (.slice a9 k9 q9) (.bool c9) (.slice e9 l9 r9))
    have R3 := Lib.hid (below_eight (g := w.heap.size + 1) (HB.out.trans (BW.out.mono HB.out.size)) (by omega) (.bool b) (.slice a k p) (.bool c) (.slice e l q) (.bool b9) (.slice a9 k9 q9) (.bool c9) (.slice e9 l9 r9))
    clear jz jn bn nn
    go_wp2
    obtain ⟨d0, d1, d2, d3, d4, d5, d6, d7⟩ := (JE.out.eight (.bool b) (.slice a k p) (.bool c) (.slice e l q) (.bool b9) (.slice a9 k9 q9) (.bool c9) (.slice e9 l9 r9)).at8
    refine bodyPost_ret (v := .agg #[.bool b, .slice a k p, .bool c, .slice e l q, .bool b9, .slice a9 k9 q9, .bool c9, .slice e9 l9 r9]) (by simp [results, Tryz.results50, go_sem, d0, d1, d2, d3, d4, d5, d6, d7]) rfl ⟨_, rfl, ⟨_, _, _, _, _, _, _, _, _, _, _, _, _, _, _, _, rfl, R1.out, R2.out⟩, R3.out⟩
  ·
    go_enter Tryz.func50, Tryz.ntmps50
    go_upto_region 1 with fail
    rw [← HW.out]
    go_wp2_with fail
    refine HADD.out.mono ?_
    rintro ee w1 ⟨v1, rfl, n1, b1⟩
    have B1 := Lib.hid b1
    have N1 := Lib.hid n1
    obtain ⟨b7, a7, k7, p7, c7, f7, l7, q7, rfl, -, -⟩ := id n1.parts
    clear b1 n1
    go_wp2_with fail
    refine (HOF.out w1).mono ?_
    rintro ee w2 ⟨v2, rfl, n2, b2⟩
    have N2 := Lib.hid n2
    have N1' := Lib.hid (N1.out.below b2)
    have B2 := Lib.hid (next_below B1.out b2)
    obtain ⟨b8, a8, k8, p8, c8, f8, l8, q8, rfl, -, -⟩ := id n2.parts
    clear b2 n2 N1
    go_wp2_with fail
    refine (HDIV.out w2 _ _ N1'.out N2.out).mono ?_
    rintro ee w3 ⟨v3, rfl, n3, b3⟩
    obtain ⟨b9, a9, k9, q9, c9, e9, l9, r9, rfl, -, -⟩ := id n3.parts
    have B3 := Lib.hid (next_below B2.out b3)
    have jq := Blk.new w3 84 #[.bool b9, .slice a9 k9 q9, .bool c9, .slice e9 l9 r9]
    have bq := B3.out.alloc B3.out.size (.cells #[.bool b9, .slice a9 k9 q9, .bool c9, .slice e9 l9 r9] 84)
    have nq := n3.below ((Below.refl _ _).alloc (Nat.le_refl _) (.cells #[.bool b9, .slice a9 k9 q9, .bool c9, .slice e9 l9 r9] 84))
    have gs3 := B3.out.size
    clear N1' N2 B1 B2 b3 n3
    have jn := jq
    have nn := Lib.hid nq
    have bn := Lib.hid bq
    have sz3 := Lib.hid gs3
    clear nq bq gs3 x0 x1 x2 x3 x4 x5 x6 x7
    go_upto_region 2 with fail
    clear jq
    obtain ⟨o0, o1, o2, o3⟩ := jn.at4
    generalize w3.heap.size = gs at *
    generalize w3.alloc (.cells #[.bool b9, .slice a9 k9 q9, .bool c9, .slice e9 l9 r9] 84) = w5 at *
    have BW := Lib.hid bn.out
    have NQ := Lib.hid nn.out
    have jz := JZ.out.next BW.out
    obtain ⟨x0, x1, x2, x3, x4, x5, x6, x7⟩ := (JX.out.next BW.out).at8
    obtain ⟨y0, y1, y2, y3, y4, y5, y6, y7⟩ := jz.at8
    obtain ⟨z0, z1, z2, z3, z4, z5, z6, z7⟩ := jz.fr8
    have JE := Lib.hid jz
    have R1 := Lib.hid (NQ.out.eight jz (by decide) (.bool b9) (.slice a9 k9 q9) (.bool c9) (.slice e9 l9 r9) (.bool b') (.slice a' k' p') (.bool c') (.slice e' l' q'))
    have R2 := Lib.hid ((HM2.out.below BW.out).eight jz (by decide) (.bool b9) (.slice a9 k9 q9) (.bool c9) (.slice e9 l9 r9) (.bool b') (.slice a' k' p') (.bool c') (.slice e' l' q'))
    have R3 := Lib.hid (below_eight (g := w.heap.size + 1) (HB.out.trans (BW.out.mono HB.out.size)) (by omega) (.bool b9) (.slice a9 k9 q9) (.bool c9) (.slice e9 l9 r9) (.bool b') (.slice a' k' p') (.bool c') (.slice e' l' q'))
    clear jz jn bn nn
    go_wp2
    obtain ⟨d0, d1, d2, d3, d4, d5, d6, d7⟩ := (JE.out.eight (.bool b9) (.slice a9 k9 q9) (.bool c9) (.slice e9 l9 r9) (.bool b') (.slice a' k' p') (.bool c') (.slice e' l' q')).at8
    refine bodyPost_ret (v := .agg #[.bool b9, .slice a9 k9 q9, .bool c9, .slice e9 l9 r9, .bool b', .slice a' k' p', .bool c', .slice e' l' q']) (by simp [results, Tryz.results50, go_sem, d0, d1, d2, d3, d4, d5, d6, d7]) rfl ⟨_, rfl, ⟨_, _, _, _, _, _, _, _, _, _, _, _, _, _, _, _, rfl, R1.out, R2.out⟩, R3.out⟩
end Go.Proofs.YtfjjdjhnodcfhaaGreatDoor

/- draw.Check. -/
set_option linter.unusedSimpArgs false
set_option linter.unusedVariables false
namespace Go.Proofs.YtfjjdjhnodcfhaaGreatDoor
open Go.RowKit
open Go.Lib (decDigits itoa nDigits)
open D4 (rt it Mid)
set_option maxHeartbeats 2000000 in
set_option maxRecDepth 100000 in
/-- Check: 0 for weights, 100 for what are none. -/
theorem dcheck_any {w : World} {v : Value} (ts : List (List UInt8)) (hlen : ts.length ≤ 1000) (hts : ∀ l ∈ ts, l.length ≤ 268435000) (hv : Qs w v ts) (hg : Good w) :
    Calls Tryz.prog 13 #[v] w (RetV w (.int .i64 (if okW ts then 0 else 100))) := by
  have HR := Lib.hid (dread_any ts hlen hts hv hg)
  clear hlen hts hg
  obtain ⟨ao, cap, rfl, -, -, -, -⟩ := hv
  obtain ⟨RES, hRES⟩ : ∃ r : Int, r = (if okW ts then 0 else 100) := ⟨_, rfl⟩
  rw [← hRES]
  have HRES := Lib.hid hRES
  clear hRES
  go_enter Tryz.func13, Tryz.ntmps13
  go_wp2_with (go_at_call 36; refine HR.out.mono ?_; rintro e w1 ⟨rv, er, rfl, h, hb⟩; have he : er = RES := (by rw [HRES.out]; rcases h with ⟨h1, h2, -⟩ | ⟨h1, h2, -⟩ <;> rw [h1, h2] <;> rfl); clear h; subst he)
  go_ret
  exact ⟨rfl, hb⟩
end Go.Proofs.YtfjjdjhnodcfhaaGreatDoor
