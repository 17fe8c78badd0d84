/- A region that draws its order and ends in an extraction and a store of which neither waits for the other. -/
import Derived.Test.YtpmlmibceiolpaaGreatDoorOrd
set_option linter.unusedSimpArgs false
set_option linter.unusedVariables false
namespace Go.Proofs.YtpmlmibceiolpaaGreatDoor
open Go.RowKit

section
variable {P : Program} {Q : Exit → Act → World → Prop}

/-- The last operation waits for the last but one, too. -/
def lateOps (ops : Array Oper) : Array Oper := ops.modify (ops.size - 1) fun o => { o with after := o.after.push { on := ops.size - 2, ground := .data } }

theorem lateOps_size (ops : Array Oper) : (lateOps ops).size = ops.size := by simp [lateOps]
theorem lateOps_at (ops : Array Oper) (i : Nat) : (lateOps ops)[i]? = if ops.size - 1 = i then ops[i]?.map fun o => { o with after := o.after.push { on := ops.size - 2, ground := .data } } else ops[i]? := by
  unfold lateOps
  rw [Array.getElem?_modify]
theorem yielded_late (ops : Array Oper) : yielded (lateOps ops) = yielded ops := by
  funext tmps j
  unfold yielded
  have : ((lateOps ops)[j]?).bind (·.dst) = (ops[j]?).bind (·.dst) := by
    rw [lateOps_at]
    split
    · cases ops[j]? <;> rfl
    · rfl
  rw [this]

def isExtract : Op → Bool
  | .extract _ _ => true
  | _ => false
def isStore : Op → Bool
  | .store _ _ _ => true
  | _ => false

def lateOk (ops : Array Oper) : Bool :=
  decide (2 ≤ ops.size) && match ops[ops.size - 2]?, ops[ops.size - 1]? with
  | some p, some s => isExtract p.op && p.guard.isNone && isStore s.op && s.guard.isNone && s.dst.isNone && (match p.dst with | some d => !(s.looksAt ops).contains d | none => false) &&
      (p.after.all fun e => !Region.binds .any e || decide (e.on < ops.size - 2)) && (s.after.all fun e => !Region.binds .any e || decide (e.on < ops.size - 2)) && (List.range (ops.size - 2)).all fun j => covers ops 4 j (ops.size - 1)
  | _, _ => false

theorem store_form {o : Oper} (h : isStore o.op = true) (ρ : Operand → Value) (w : World) : (∃ w', (execOp ρ o).run P w = .ok .skip w') ∨ (∃ s w', (execOp ρ o).run P w = .halt s w') := by
  have key : ∀ t a x, o.op = .store t a x → execOp ρ o = (Instr.storeAt t (ρ a) (ρ x) >>= fun _ => pure .skip) := fun t a x h => by unfold execOp; rw [h]
  cases ho : o.op <;> rw [ho] at h <;> simp only [isStore] at h <;> first | cases h | skip
  rename_i t a x
  rw [key t a x ho]
  generalize Instr.storeAt t (ρ a) (ρ x) = s
  rw [Sem.run_bind]
  cases s.run P w with
  | ok u w' => exact .inl ⟨w', rfl⟩
  | halt h w' => exact .inr ⟨h, w', rfl⟩

theorem extract_form {o : Oper} (h : isExtract o.op = true) (a : Act) : (∃ v, ∀ w, (execOp a.eval o).run P w = .ok (.value v) w) ∨ (∀ w K Q, ¬ o.wp P a w K Q) := by
  have key : ∀ t ix, o.op = .extract t ix → execOp a.eval o = (Instr.extract (a.eval t) ix >>= fun v => pure (.value v)) := fun t ix h => by unfold execOp; rw [h]
  unfold Oper.wp
  cases ho : o.op <;> rw [ho] at h <;> simp only [isExtract] at h <;> first | cases h | skip
  rename_i t ix
  rw [key t ix ho]
  unfold Instr.extract
  cases a.eval t <;> try (exact .inr fun w K Q h => h)
  rename_i vs
  cases hv : vs[ix]? with
  | some v => exact .inl ⟨v, fun w => by simp only [hv]; rfl⟩
  | none => exact .inr fun w K Q h => by simp only [hv] at h; exact h

/-- Only where all ends well. -/
def Well (Q : Exit → Act → World → Prop) : Exit → Act → World → Prop := fun e a w => e = .normal ∧ Q e a w
theorem not_lets : ¬ LetsOut (Well Q) := fun ⟨_, _, h, _⟩ => by cases h

structure LateAt (ops : Array Oper) (p s : Oper) (d : Tmp) : Prop where
  two : 2 ≤ ops.size
  atp : ops[ops.size - 2]? = some p
  ats : ops[ops.size - 1]? = some s
  ext : isExtract p.op = true
  pg : p.guard = none
  sto : isStore s.op = true
  sg : s.guard = none
  sd : s.dst = none
  pd : p.dst = some d
  look : d ∉ s.looksAt ops
  pw : ∀ e ∈ p.after, Region.binds .any e = true → e.on < ops.size - 2
  sw : ∀ e ∈ s.after, Region.binds .any e = true → e.on < ops.size - 2
  cov : ∀ j, j < ops.size - 2 → covers ops 4 j (ops.size - 1) = true

theorem lateOk_at {ops : Array Oper} (h : lateOk ops = true) : ∃ p s d, LateAt ops p s d := by
  unfold lateOk at h
  rw [Bool.and_eq_true, decide_eq_true_eq] at h
  obtain ⟨h2, h⟩ := h
  cases hp : ops[ops.size - 2]? with
  | none => rw [hp] at h; cases h
  | some p =>
    cases hs : ops[ops.size - 1]? with
    | none => rw [hp, hs] at h; cases h
    | some s =>
      rw [hp, hs] at h
      simp only [Bool.and_eq_true] at h
      obtain ⟨⟨⟨⟨⟨⟨⟨⟨a1, a2⟩, a3⟩, a4⟩, a5⟩, a6⟩, a7⟩, a8⟩, a9⟩ := h
      cases hd : p.dst with
      | none => rw [hd] at a6; cases a6
      | some d =>
        rw [hd] at a6
        refine ⟨p, s, d, h2, hp, hs, a1, by simpa using a2, a3, by simpa using a4, by simpa using a5, hd, by simpa using a6, ?_, ?_, ?_⟩
        · intro e he hb
          have := Array.all_eq_true_iff_forall_mem.1 a7 e he
          rw [hb] at this; simpa using this
        · intro e he hb
          have := Array.all_eq_true_iff_forall_mem.1 a8 e he
          rw [hb] at this; simpa using this
        · intro j hj
          exact List.all_eq_true.1 a9 j (List.mem_range.2 hj)

theorem wpAny_all {ops : Array Oper} {fuel : Nat} {listed : Array Bool} {a : Act} {w : World} (hs : listed.size = ops.size) (hl : ∀ j, j < ops.size → listed.getD j false = true) : wpAny P .any ops Q fuel listed a w ↔ Q .normal a w := by
  have hr : Region.ready .any ops listed = [] := by
    apply List.eq_nil_iff_forall_not_mem.2
    intro j hj
    obtain ⟨h1, o, ho, _⟩ := mem_ready.1 hj
    have hlt : j < ops.size := (Array.getElem?_eq_some_iff.1 ho).1
    have h2 := hl j hlt
    have hlt' : j < listed.size := by omega
    simp [Array.getD, hlt'] at h1 h2
    rw [h1] at h2; cases h2
  cases fuel with
  | zero => exact ⟨fun h => h.2, fun h => ⟨hr, h⟩⟩
  | succ f => exact ⟨fun h => h.1 hr, fun h => ⟨fun _ => h, fun i hi => by rw [hr] at hi; cases hi⟩⟩

theorem getD_flip {listed : Array Bool} {i : Nat} (hi : i < listed.size) : listed.getD i true = listed.getD i false := by simp [Array.getD, hi]

theorem late_op (ops : Array Oper) {i : Nat} {K K' : Act → World → Prop} {a : Act} {w : World} (hK : ∀ a w, K a w → K' a w) (h : wpOp P (lateOps ops) (Well Q) i K a w) : wpOp P ops Q i K' a w := by
  have key : ∀ o : Oper, (if Region.wanted o (yielded ops a.tmps) then o.wp P a w K (Well Q) ∨ (o.asks P a w ∧ LetsOut (Well Q)) else K (a.put o.dst undef) w) → (if Region.wanted o (yielded ops a.tmps) then o.wp P a w K' Q ∨ (o.asks P a w ∧ LetsOut Q) else K' (a.put o.dst undef) w) := by
    intro o h
    split
    · rename_i hw
      rw [if_pos hw] at h
      rcases h with h | ⟨_, h⟩
      · refine .inl ?_
        have h1 := Oper.wp_mono hK h
        unfold Oper.wp at h1 ⊢
        generalize (execOp a.eval o).run P w = r at *
        cases r with
        | ok n w' =>
          cases n <;> simp only [Oper.upon] at h1 ⊢
          case value u => exact h1
          case skip => exact h1
          case defer d => exact h1
          case enter f args =>
            refine Calls.mono h1 fun e w'' he => ?_
            cases e with
            | returned u => exact he
            | panicked c => exact he.2
            | outgrown => exact absurd he not_lets
          case row row args => exact h1
        | halt x w' =>
          cases x <;> simp only [Oper.upon] at h1 ⊢
          case panic u => exact h1.2
      · exact absurd h not_lets
    · rename_i hw
      rw [if_neg hw] at h
      exact hK _ _ h
  unfold wpOp at h ⊢
  rw [lateOps_at, yielded_late] at h
  cases ho : ops[i]? with
  | none => rw [ho] at h; simp only [Option.map_none, ite_self] at h; exact hK _ _ h
  | some o =>
    rw [ho] at h
    by_cases hin : ops.size - 1 = i
    · rw [if_pos hin] at h; exact key o h
    · rw [if_neg hin] at h; exact key o h

theorem wpAny_late {ops : Array Oper} (hc : lateOk ops = true) : ∀ (fuel : Nat) (listed : Array Bool) (a : Act) (w : World), listed.size = ops.size → Closed ops (fun j => listed.getD j false) → wpAny P .any (lateOps ops) (Well Q) fuel listed a w → wpAny P .any ops Q fuel listed a w := by
  obtain ⟨p, s, d, L⟩ := lateOk_at hc
  have two := L.two
  -- who is ready: the same, but for the store while the extraction stands
  have same : ∀ (listed : Array Bool) (i : Nat), listed.size = ops.size → i ∈ Region.ready .any ops listed → i ∈ Region.ready .any (lateOps ops) listed ∨ (i = ops.size - 1 ∧ listed.getD (ops.size - 2) false = false) := by
    intro listed i hs hi
    obtain ⟨h1, o, ho, hall⟩ := mem_ready.1 hi
    by_cases hin : ops.size - 1 = i
    · cases hp : listed.getD (ops.size - 2) false with
      | false => exact .inr ⟨hin.symm, rfl⟩
      | true =>
        refine .inl (mem_ready.2 ⟨h1, _, by rw [lateOps_at, if_pos hin, ho]; rfl, fun e he hb => ?_⟩)
        simp only [Array.mem_push] at he
        rcases he with he | rfl
        · exact hall e he hb
        · exact hp
    · exact .inl (mem_ready.2 ⟨h1, o, by rw [lateOps_at, if_neg hin]; exact ho, hall⟩)
  have back : ∀ (listed : Array Bool) (i : Nat), i ∈ Region.ready .any (lateOps ops) listed → i ∈ Region.ready .any ops listed := by
    intro listed i hi
    obtain ⟨h1, o, ho, hall⟩ := mem_ready.1 hi
    rw [lateOps_at] at ho
    split at ho
    · cases h2 : ops[i]? with
      | none => rw [h2] at ho; cases ho
      | some o' =>
        rw [h2] at ho
        injection ho with ho
        subst ho
        exact mem_ready.2 ⟨h1, o', h2, fun e he hb => hall e (by simp [he]) hb⟩
    · exact mem_ready.2 ⟨h1, o, ho, hall⟩
  -- the store stands ready and the extraction is not listed: so it is ready
  have lone : ∀ (listed : Array Bool), listed.size = ops.size → Closed ops (fun j => listed.getD j false) → ops.size - 1 ∈ Region.ready .any ops listed → listed.getD (ops.size - 2) false = false →
      (∀ j, j < ops.size - 2 → listed.getD j false = true) ∧ listed.getD (ops.size - 1) false = false := by
    intro listed hs hcl hi hp
    obtain ⟨h1, o, ho, hall⟩ := mem_ready.1 hi
    refine ⟨fun j hj => ?_, by rw [← getD_flip (by omega)]; exact h1⟩
    exact covers_spec (L := fun j => listed.getD j false) hcl 4 j _ o ho hall (L.cov j hj)
  have pready : ∀ (listed : Array Bool) (ops' : Array Oper), ops' = ops ∨ ops' = lateOps ops → listed.size = ops.size → (∀ j, j < ops.size - 2 → listed.getD j false = true) → listed.getD (ops.size - 2) false = false → ops.size - 2 ∈ Region.ready .any ops' listed := by
    intro listed ops' ho hs hl hp
    refine mem_ready.2 ⟨by rw [getD_flip (by omega)]; exact hp, p, ?_, fun e he hb => hl _ (L.pw e he hb)⟩
    rcases ho with rfl | rfl
    · exact L.atp
    · rw [lateOps_at, if_neg (by omega)]; exact L.atp
  intro fuel
  induction fuel with
  | zero =>
    intro listed a w hs hcl h
    refine ⟨List.eq_nil_iff_forall_not_mem.2 fun i hi => ?_, h.2.2⟩
    rcases same listed i hs hi with h1 | ⟨rfl, hp⟩
    · rw [h.1] at h1; cases h1
    · have h1 := pready listed _ (.inr rfl) hs (lone listed hs hcl hi hp).1 hp
      rw [h.1] at h1; cases h1
  | succ fuel ih =>
    intro listed a w hs hcl h
    refine ⟨fun hr => ?_, fun i hi => ?_⟩
    · refine (h.1 (List.eq_nil_iff_forall_not_mem.2 fun i hi => ?_)).2
      have := back listed i hi
      rw [hr] at this; cases this
    · rcases same listed i hs hi with h1 | ⟨rfl, hp⟩
      · refine late_op ops (fun a' w' hw => ih _ a' w' (by simpa using hs) ?_ hw) (h.2 i h1)
        obtain ⟨_, o, ho, hall⟩ := mem_ready.1 hi
        have hlt' : i < listed.size := by have := (Array.getElem?_eq_some_iff.1 ho).1; omega
        intro i' o' hi' hL' e' he' hb'
        by_cases hii : i' = i
        · subst hii
          rw [ho] at hi'; cases hi'
          exact getD_set_true (hall e' he' hb')
        · simp only [getD_set_ne false (fun e => hii e.symm)] at hL'
          exact getD_set_true (hcl i' o' hi' hL' e' he' hb')
      · obtain ⟨hl, hsn⟩ := lone listed hs hcl hi hp
        have h1 := h.2 _ (pready listed _ (.inr rfl) hs hl hp)
        unfold wpOp at h1
        rw [lateOps_at, if_neg (by omega), L.atp] at h1
        simp only at h1
        have hwp : ∀ y, Region.wanted p y = true := fun y => by unfold Region.wanted; rw [L.pg]
        have hws : ∀ y, Region.wanted s y = true := fun y => by unfold Region.wanted; rw [L.sg]
        rw [if_pos (hwp _)] at h1
        rcases h1 with h1 | ⟨_, h1⟩
        · rcases extract_form L.ext a with ⟨v, hv⟩ | hno
          · unfold Oper.wp at h1
            rw [hv w] at h1
            simp only [Oper.upon, L.pd] at h1
            -- then the store
            have hlt2 : ops.size - 2 < listed.size := by omega
            have hl2 : ∀ j, j < ops.size - 1 → (listed.setIfInBounds (ops.size - 2) true).getD j false = true := by
              intro j hj
              by_cases hj2 : j = ops.size - 2
              · subst hj2; simp [hlt2]
              · exact getD_set_true (hl j (by omega))
            have hn2 : (listed.setIfInBounds (ops.size - 2) true).getD (ops.size - 1) false = false := by
              rw [getD_set_ne false (by omega)]; exact hsn
            have hsr : ops.size - 1 ∈ Region.ready .any (lateOps ops) (listed.setIfInBounds (ops.size - 2) true) := by
              refine mem_ready.2 ⟨by rw [getD_flip (by simp; omega)]; exact hn2, _, by rw [lateOps_at, if_pos rfl, L.ats]; rfl, fun e he hb => ?_⟩
              simp only [Array.mem_push] at he
              rcases he with he | rfl
              · exact hl2 _ (by have := L.sw e he hb; omega)
              · exact hl2 _ (by simp only; omega)
            have hall : ∀ j, j < ops.size → ((listed.setIfInBounds (ops.size - 2) true).setIfInBounds (ops.size - 1) true).getD j false = true := by
              intro j hj
              by_cases hj2 : j = ops.size - 1
              · subst hj2
                have : ops.size - 1 < listed.size := by omega
                simp [this]
              · exact getD_set_true (hl2 j (by omega))
            have hall' : ∀ j, j < ops.size → ((listed.setIfInBounds (ops.size - 1) true).setIfInBounds (ops.size - 2) true).getD j false = true := by
              intro j hj
              by_cases hj2 : j = ops.size - 2
              · subst hj2; simp [hlt2]
              · have h3 := hall j hj
                refine getD_set_true ?_
                by_cases hj3 : j = ops.size - 1
                · subst hj3
                  have : ops.size - 1 < listed.size := by omega
                  simp [this]
                · exact getD_set_true (hl j (by omega))
            cases fuel with
            | zero => rw [h1.1] at hsr; cases hsr
            | succ f =>
              have h2 := h1.2 _ hsr
              unfold wpOp at h2
              rw [lateOps_at, if_pos rfl, L.ats] at h2
              simp only [Option.map_some] at h2
              rw [if_pos (by unfold Region.wanted; simp only [L.sg])] at h2
              rcases h2 with h2 | ⟨_, h2⟩
              · have h3 : s.wp P (a.put (some d) v) w (wpAny P .any (lateOps ops) (Well Q) f ((listed.setIfInBounds (ops.size - 2) true).setIfInBounds (ops.size - 1) true)) (Well Q) := h2
                unfold Oper.wp at h3
                have hexe : execOp (a.put (some d) v).eval s = execOp a.eval s := execOp_put (ops := ops) s (fun cs b hc => by have := L.sto; rw [hc] at this; cases this) a (some d) v (fun d' hd' => by cases hd'; exact L.look)
                rw [hexe] at h3
                unfold wpOp
                rw [L.ats]
                simp only
                rw [if_pos (hws _)]
                refine .inl ?_
                unfold Oper.wp
                rcases store_form (P := P) L.sto a.eval w with ⟨w', hw'⟩ | ⟨x, w', hw'⟩
                · rw [hw'] at h3 ⊢
                  simp only [Oper.upon, L.sd] at h3 ⊢
                  have h4 := ((wpAny_all (by simp [lateOps_size, hs]) (by rw [lateOps_size]; exact hall)).1 h3).2
                  refine ⟨fun hr => ?_, fun i hi2 => ?_⟩
                  · have h5 := pready (listed.setIfInBounds (ops.size - 1) true) ops (.inl rfl) (by simpa using hs) (fun j hj => getD_set_true (hl j hj)) (by rw [getD_set_ne false (by omega)]; exact hp)
                    rw [hr] at h5; cases h5
                  · have hi3 : i = ops.size - 2 := by
                      obtain ⟨g1, o, ho, _⟩ := mem_ready.1 hi2
                      have hlt : i < ops.size := (Array.getElem?_eq_some_iff.1 ho).1
                      rw [getD_flip (by simp; omega)] at g1
                      by_cases g2 : i = ops.size - 2
                      · exact g2
                      · exfalso
                        by_cases g3 : i = ops.size - 1
                        · subst g3
                          have : ops.size - 1 < listed.size := by omega
                          simp [this] at g1
                        · rw [getD_set_ne false (by omega), hl i (by omega)] at g1
                          cases g1
                    subst hi3
                    unfold wpOp
                    rw [L.atp]
                    simp only
                    rw [if_pos (hwp _)]
                    refine .inl ?_
                    unfold Oper.wp
                    have e0 : (a.put none undef) = a := rfl
                    rw [e0, hv w']
                    simp only [Oper.upon, L.pd]
                    exact (wpAny_all (by simpa using hs) hall').2 h4
                · rw [hw'] at h3
                  cases x <;> simp only [Oper.upon] at h3
                  case panic u => cases h3.1
              · exact absurd h2 not_lets
          · exact absurd h1 (hno _ _ _)
        · exact absurd h1 not_lets

/-- wp_region_list, where the last two operations are an extraction and a store of which neither waits for the other. -/
theorem wp_region_late (n : Nat) {id : Nat} {ops : Array Oper} {a : Act} {w : World} (hm : P.follows .mixedOrders = true) (hlt : lateOk ops = true) (hc : famOk (lateOps ops) n = true) (hn : n + 1 = ops.size) (N : List Nat) (Φs : List (Value → World → Prop)) {A : (Nat → Value) → Act} {pre tl : List Oper}
    (hpre : ops.toList.take n = pre) (htl : ops.toList.drop n = tl)
    (hA : ∀ vals, fam vals (fun _ => true) 0 pre a = A vals) (hΦ : allStab w.drew Φs) (hN : allNew Φs N)
    (hs : stepOk P ops w.drew N (fun i => Φs.getD i (fun _ _ => True)) A 0 pre) (hend : ∀ vals w1, Below w.drew.heap.size w.drew w1 → allOk (fun i => Φs.getD i (fun _ _ => True)) vals w1 0 pre → (∀ i j, N.contains i = true → N.contains j = true → i ≠ j → i < n → j < n → vals i ≠ vals j) → wpList P ops (Well Q) tl (A vals) w1) : (Code.region id ops true).wp P Q a w := by
  refine wp_region_any hm ?_
  obtain ⟨p, s, d, L⟩ := lateOk_at hlt
  have two := L.two
  refine wpAny_late hlt _ _ _ _ (by simp) (fun i o _ hL => by simp only [Array.getD] at hL; split at hL <;> simp at hL) ?_
  have e1 : (lateOps ops).toList.take n = pre := by
    rw [← hpre]
    apply List.ext_getElem?
    intro i
    rw [List.getElem?_take, List.getElem?_take]
    split
    · rw [Array.getElem?_toList, Array.getElem?_toList, lateOps_at, if_neg (by omega)]
    · rfl
  have e2 : (lateOps ops).toList.drop n = [{ s with after := s.after.push { on := ops.size - 2, ground := .data } }] := by
    apply List.ext_getElem?
    intro i
    rw [List.getElem?_drop, Array.getElem?_toList, lateOps_at]
    cases i with
    | zero => rw [if_pos (by omega)]; have : n + 0 = ops.size - 1 := by omega
              rw [this, L.ats]; rfl
    | succ i => rw [if_neg (by omega)]; simp; omega
  have e3 : tl = [s] := by
    rw [← htl]
    apply List.ext_getElem?
    intro i
    rw [List.getElem?_drop, Array.getElem?_toList]
    cases i with
    | zero => have : n + 0 = ops.size - 1 := by omega
              rw [this, L.ats]; rfl
    | succ i => simp; omega
  have hlist : ∀ (Q : Exit → Act → World → Prop) (l : List Oper) (a : Act) (w : World), wpList P (lateOps ops) Q l a w = wpList P ops Q l a w := by
    intro Q l
    induction l with
    | nil => intro a w; rfl
    | cons o l ih =>
      intro a w
      have : wpList P (lateOps ops) Q l = wpList P ops Q l := by funext a w; exact ih a w
      unfold wpList
      rw [yielded_late, this]
  have hstep : ∀ (l : List Oper) (i : Nat), stepOk P ops w.drew N (fun i => Φs.getD i (fun _ _ => True)) A i l → stepOk P (lateOps ops) w.drew N (fun i => Φs.getD i (fun _ _ => True)) A i l := by
    intro l
    induction l with
    | nil => intro i _; trivial
    | cons o l ih => intro i h; exact ⟨fun vals w hB hp => by rw [hlist]; exact h.1 vals w hB hp, ih _ h.2⟩
  have hz := lateOps_size ops
  have h := wpAny_start (P := P) (Q := Well Q) n (ops := lateOps ops) (a := a) (w := w) hc N (fun i => Φs.getD i (fun _ _ => True)) e1 e2 hA (fun i v w1 w2 h1 h2 h3 => allStab_at Φs hΦ i v w1 w2 h1 h2 h3) (fun i v w1 h1 h2 => allNew_at N hN i h1 v w1 h2) (hstep _ _ hs) (fun vals w1 h1 h2 h3 => by
    have := hend vals w1 h1 h2 h3
    rw [e3] at this
    rw [hlist]
    exact this)
  rw [hz] at h
  exact h

end
end Go.Proofs.YtpmlmibceiolpaaGreatDoor
