/- The contract of limbs.short: a magnitude divided by a limb. -/
import Derived.Test.YtpmlmibceiolpaaGreatDoorValue
import Derived.Test.YtpmlmibceiolpaaGreatDoorLift
import Derived.Deep.RegionHeld3
import Derived.Deep.DeepCutAuto
import Derived.Deep.LoopGhost
import Derived.Outline
set_option linter.unusedSimpArgs false
set_option linter.unusedVariables false
namespace Go.Proofs.YtpmlmibceiolpaaGreatDoor
open Go.RowKit Go.Shelf
attribute [local go_sem] Oper.semAt_some

theorem blk_own {A B : World} {g : Nat} {t : TypeId} {cs : Array Value} {row : Option Nat} (h : Blk A g t cs) (hg : A.grownBy B row) (hr : ∀ r, row = some r → ∃ o : Obj, A.heap[r]? = some o ∧ o.isCells = false) : Blk B g t cs := by
  refine (hg.block g h.lt ?_).trans h
  intro e
  obtain ⟨o, h1, h2⟩ := hr g e.symm
  unfold Blk at h
  rw [h] at h1
  cases h1
  simp [Obj.isCells] at h2

/-- The limbs of the quotient, and the rest, when the limbs with these indexes have come. -/
def sB (l : List Nat) (b : Nat) (pre : List Nat) : List Nat × Nat :=
  pre.foldl (fun s x => (s.1.set (x % l.length) ((s.2 * 1000000000 + l.getD (x % l.length) 0) / b), (s.2 * 1000000000 + l.getD (x % l.length) 0) % b)) (List.replicate l.length 0, 0)
theorem sB_snoc (l : List Nat) (b : Nat) (pre : List Nat) (x : Nat) : sB l b (pre ++ [x]) = ((sB l b pre).1.set (x % l.length) (((sB l b pre).2 * 1000000000 + l.getD (x % l.length) 0) / b), ((sB l b pre).2 * 1000000000 + l.getD (x % l.length) 0) % b) := by simp [sB]

theorem snoc_ind {p : List Nat → Prop} (h0 : p []) (h1 : ∀ l x, p l → p (l ++ [x])) : ∀ l, p l := by
  intro l
  have : ∀ n (l : List Nat), l.length = n → p l := by
    intro n
    induction n with
    | zero => intro l hl; rw [List.length_eq_zero_iff.1 hl]; exact h0
    | succ n ih =>
      intro l hl
      have hne : l ≠ [] := by rintro rfl; simp at hl
      rw [← List.dropLast_concat_getLast hne]
      exact h1 _ _ (ih _ (by simp [hl]))
  exact this _ l rfl

theorem sB_facts {l : List Nat} {b : Nat} (ho : Ok l) (hb : 0 < b) (hb1 : b < 1000000000) (pre : List Nat) : (sB l b pre).1.length = l.length ∧ Ok (sB l b pre).1 ∧ (sB l b pre).2 < b := by
  refine snoc_ind (p := fun pre => (sB l b pre).1.length = l.length ∧ Ok (sB l b pre).1 ∧ (sB l b pre).2 < b) ⟨by simp [sB], Ok.zeros _, hb⟩ ?_ pre
  rintro pre x ⟨h1, h2, h3⟩
  rw [sB_snoc]
  refine ⟨by simp [h1], h2.set _ _ ?_, Nat.mod_lt _ hb⟩
  have h4 := ho.getD (x % l.length)
  rw [Nat.div_lt_iff_lt_mul hb]
  have : ((sB l b pre).2 + 1) * 1000000000 ≤ b * 1000000000 := Nat.mul_le_mul_right _ h3
  rw [Nat.mul_comm 1000000000 b]; omega

/-- Behind k rounds: the quotient's upper limbs are there. -/
theorem sB_back {l : List Nat} {b : Nat} (ho : Ok l) (hb : 0 < b) (hb1 : b < 1000000000) (k : Nat) (hk : k ≤ l.length) :
    val ((sB l b (back l k)).1.drop (l.length - k)) * b + (sB l b (back l k)).2 = val (l.drop (l.length - k)) := by
  induction k with
  | zero => simp [back, sB, val]
  | succ k ih =>
    have hf := sB_facts ho hb hb1 (back l k)
    have ih := ih (by omega)
    have e : l.length - k = l.length - (k + 1) + 1 := by omega
    have ei : (l.length - 1 - k) % l.length = l.length - (k + 1) := by rw [Nat.mod_eq_of_lt (by omega)]; omega
    rw [back_succ, sB_snoc, ei]
    rw [e] at ih
    generalize sB l b (back l k) = s at *
    have hi : l.length - (k + 1) < l.length := by omega
    generalize l.length - (k + 1) = i at *
    rw [drop_eq (l := l) hi, drop_eq (l := s.1.set i _) (by simp [hf.1]; exact hi), List.drop_set_of_lt (by omega)]
    have e2 : (s.1.set i ((s.2 * 1000000000 + l.getD i 0) / b)).getD i 0 = (s.2 * 1000000000 + l.getD i 0) / b := by simp [List.getD, hf.1, hi]
    simp only [val]
    rw [e2]
    have e3 := Nat.div_add_mod (s.2 * 1000000000 + l.getD i 0) b
    rw [← ih]
    generalize (s.2 * 1000000000 + l.getD i 0) / b = qq at *
    generalize (s.2 * 1000000000 + l.getD i 0) % b = rr at *
    generalize val (List.drop (i + 1) s.1) = D at *
    have e4 : (qq + 1000000000 * D) * b = b * qq + 1000000000 * (D * b) := by rw [Nat.add_mul, Nat.mul_comm qq b, Nat.mul_assoc]
    rw [e4]
    omega

theorem sB_all {l : List Nat} {b : Nat} (ho : Ok l) (hb : 0 < b) (hb1 : b < 1000000000) : val (sB l b (back l l.length)).1 = val l / b ∧ (sB l b (back l l.length)).2 = val l % b := by
  have h := sB_back ho hb hb1 l.length (Nat.le_refl _)
  have hf := (sB_facts ho hb hb1 (back l l.length)).2.2
  rw [Nat.sub_self, List.drop_zero, List.drop_zero] at h
  have := (Nat.div_mod_unique (b := b) hb (a := val l) (c := (sB l b (back l l.length)).2) (d := val (sB l b (back l l.length)).1)).2 ⟨by rw [Nat.mul_comm, Nat.add_comm]; exact h, hf⟩
  exact ⟨this.1.symm, this.2.symm⟩

/-- What short hands back. -/
def RetD (w : World) (q r : Nat) (e : Ending) (w' : World) : Prop :=
  ∃ v xs, e = .returned (.tuple #[v, .int .u32 r]) ∧ Lim w' v xs ∧ Ok xs ∧ val xs = q ∧ Below w.heap.size w w'

theorem madeZeros (n : Nat) : madeCells (Value.int .u32 0).cells (n * 1) = arr (List.replicate n 0) := by
  apply Array.ext'
  rw [show (Value.int .u32 0).cells = #[Value.int .u32 0] from rfl, Nat.mul_one, toList_madeCells_one]
  simp [arr]

set_option maxRecDepth 100000 in
set_option maxHeartbeats 2000000 in
theorem short_any {w : World} {v : Value} {l : List Nat} (b : Nat) (h : Lim w v l) (ho : Ok l) (hb : 0 < b) (hb1 : b < 1000000000) (hlen : l.length ≤ 1073741824) :
    Calls Tryz.prog 156 #[v, .int .u32 b] w (RetD w (val l / b) (val l % b)) := by
  obtain ⟨i0, hi, hz0, hz1, hz2⟩ := info_parts info32
  obtain ⟨a, cap, rfl, hc, hm, h⟩ := h
  have hmk : ∀ w : World, (Instr.makeSlice 84 (.int .i64 (l.length : Int)) (.int .i64 (l.length : Int))).run Tryz.prog w = .ok (.slice (some ⟨w.heap.size, 0, none⟩) l.length l.length) (w.alloc (.cells (arr (List.replicate l.length 0)) 143)) := by
    intro w
    have := run_make (P := Tryz.prog) w 84 143 i0 (.int .u32 0) Tryz.underlying84 hi hz0 .i64 .i64 l.length l.length (by omega) (by omega) (by rw [hz2]; omega) (by omega)
    simp only [Int.toNat_natCast, hz1] at this
    rw [this, madeZeros]
  refine (callsIn_wide (n := 5)).1 ?_
  refine callsIn_of_wp_marks Tryz.func156 rfl trivial ?_ rfl
  simp only [Tryz.ntmps156, List.size_toArray, List.length_cons, List.length_nil, Nat.reduceAdd, Nat.reduceSub, Array.replicate_succ, Array.replicate_zero, List.push_toArray, List.append_toArray, List.nil_append, List.cons_append]
  gi_wp2_with (refine ⟨trivial, ?_⟩; gi_at_call 160; refine (callsIn_wide.2 (backward_any _ _ _ _)).mono ?_; rintro e w' ⟨rfl, rfl⟩)
  obtain ⟨n, hn⟩ : ∃ n, n = w.heap.size := ⟨_, rfl⟩
  have k0 : Blk (((((w.alloc (.cells #[.int .u32 b] 143)).alloc (.cells (arr (List.replicate l.length 0)) 143)).alloc (.cells #[.slice (some ⟨w.heap.size + 1, 0, none⟩) l.length l.length] 84)).alloc (.cells #[.int .u64 0] 57)).alloc (.cells #[.slice a l.length cap] 84)) w.heap.size 143 #[.int .u32 b] := ((((Blk.new _ _ _).alloc _).alloc _).alloc _).alloc _
  have k1 : Blk (((((w.alloc (.cells #[.int .u32 b] 143)).alloc (.cells (arr (List.replicate l.length 0)) 143)).alloc (.cells #[.slice (some ⟨w.heap.size + 1, 0, none⟩) l.length l.length] 84)).alloc (.cells #[.int .u64 0] 57)).alloc (.cells #[.slice a l.length cap] 84)) (w.heap.size + 1) 143 (arr (List.replicate l.length 0)) := by
    have := (((Blk.new (w.alloc (.cells #[.int .u32 b] 143)) 143 (arr (List.replicate l.length 0))).alloc (.cells #[.slice (some ⟨w.heap.size + 1, 0, none⟩) l.length l.length] 84)).alloc (.cells #[.int .u64 0] 57)).alloc (.cells #[.slice a l.length cap] 84)
    rwa [World.size_alloc] at this
  have k2 : Blk (((((w.alloc (.cells #[.int .u32 b] 143)).alloc (.cells (arr (List.replicate l.length 0)) 143)).alloc (.cells #[.slice (some ⟨w.heap.size + 1, 0, none⟩) l.length l.length] 84)).alloc (.cells #[.int .u64 0] 57)).alloc (.cells #[.slice a l.length cap] 84)) (w.heap.size + 2) 84 #[.slice (some ⟨w.heap.size + 1, 0, none⟩) l.length l.length] := by
    have := ((Blk.new ((w.alloc (.cells #[.int .u32 b] 143)).alloc (.cells (arr (List.replicate l.length 0)) 143)) 84 #[.slice (some ⟨w.heap.size + 1, 0, none⟩) l.length l.length]).alloc (.cells #[.int .u64 0] 57)).alloc (.cells #[.slice a l.length cap] 84)
    rwa [World.size_alloc, World.size_alloc] at this
  have k3 : Blk (((((w.alloc (.cells #[.int .u32 b] 143)).alloc (.cells (arr (List.replicate l.length 0)) 143)).alloc (.cells #[.slice (some ⟨w.heap.size + 1, 0, none⟩) l.length l.length] 84)).alloc (.cells #[.int .u64 0] 57)).alloc (.cells #[.slice a l.length cap] 84)) (w.heap.size + 3) 57 #[.int .u64 0] := by
    have := (Blk.new (((w.alloc (.cells #[.int .u32 b] 143)).alloc (.cells (arr (List.replicate l.length 0)) 143)).alloc (.cells #[.slice (some ⟨w.heap.size + 1, 0, none⟩) l.length l.length] 84)) 57 #[.int .u64 0]).alloc (.cells #[.slice a l.length cap] 84)
    rwa [World.size_alloc, World.size_alloc, World.size_alloc] at this
  have k4 : Blk (((((w.alloc (.cells #[.int .u32 b] 143)).alloc (.cells (arr (List.replicate l.length 0)) 143)).alloc (.cells #[.slice (some ⟨w.heap.size + 1, 0, none⟩) l.length l.length] 84)).alloc (.cells #[.int .u64 0] 57)).alloc (.cells #[.slice a l.length cap] 84)) (w.heap.size + 4) 84 #[.slice a l.length cap] := by
    have := Blk.new ((((w.alloc (.cells #[.int .u32 b] 143)).alloc (.cells (arr (List.replicate l.length 0)) 143)).alloc (.cells #[.slice (some ⟨w.heap.size + 1, 0, none⟩) l.length l.length] 84)).alloc (.cells #[.int .u64 0] 57)) 84 #[.slice a l.length cap]
    rwa [World.size_alloc, World.size_alloc, World.size_alloc, World.size_alloc] at this
  have hB0 : Below w.heap.size w (((((w.alloc (.cells #[.int .u32 b] 143)).alloc (.cells (arr (List.replicate l.length 0)) 143)).alloc (.cells #[.slice (some ⟨w.heap.size + 1, 0, none⟩) l.length l.length] 84)).alloc (.cells #[.int .u64 0] 57)).alloc (.cells #[.slice a l.length cap] 84)) := (((((Below.refl _ w).alloc (Nat.le_refl _) _).alloc (by simp) _).alloc (by simp; omega) _).alloc (by simp; omega) _).alloc (by simp; omega) _
  have hsz : (((((w.alloc (.cells #[.int .u32 b] 143)).alloc (.cells (arr (List.replicate l.length 0)) 143)).alloc (.cells #[.slice (some ⟨w.heap.size + 1, 0, none⟩) l.length l.length] 84)).alloc (.cells #[.int .u64 0] 57)).alloc (.cells #[.slice a l.length cap] 84)).heap.size = w.heap.size + 5 := by simp
  generalize (((((w.alloc (.cells #[.int .u32 b] 143)).alloc (.cells (arr (List.replicate l.length 0)) 143)).alloc (.cells #[.slice (some ⟨w.heap.size + 1, 0, none⟩) l.length l.length] 84)).alloc (.cells #[.int .u64 0] 57)).alloc (.cells #[.slice a l.length cap] 84)) = W0 at *
  have hN4 : w.heap.size + 4 < W0.heap.size := by omega
  have hN0 : w.heap.size ≤ W0.heap.size := by omega
  clear hn
  refine wpIn_rangeFunc_ownG rfl (by omega) (gf := 169) (lb := #[.pointer (some ⟨w.heap.size + 4, 0, none⟩)]) rfl trivial (enters_of Tryz.func169 (by kernel_rfl) rfl)
    (back_stops (5 - 1) (by omega) (w.heap.size + 4) w.heap.size a cap l hlen _ hN4 hN0 (by have := k4.cell 0; simpa using this) (h.imp id fun ⟨b, o, ha, hcl⟩ => ⟨b, o, ha, hcl.lt, hcl.below hB0 hcl.lt⟩))
    Keep.trans (Keep.turn hN0 hN4) (Below.refl _ _) (fun _ => rfl)
    (fun pre W => (Blk W w.heap.size 143 #[.int .u32 b] ∧ Blk W (w.heap.size + 1) 143 (arr (sB l b pre).1) ∧ Blk W (w.heap.size + 2) 84 #[.slice (some ⟨w.heap.size + 1, 0, none⟩) l.length l.length] ∧ Blk W (w.heap.size + 3) 57 #[.int .u64 ((sB l b pre).2 : Nat)]) ∧ Below w.heap.size w W)
    (fun _ _ _ => False)
    (OwnFrom.and (Own.from (fun s A B row hs hg hr => ⟨blk_own hs.1 hg hr, blk_own hs.2.1 hg hr, blk_own hs.2.2.1 hg hr, blk_own hs.2.2.2 hg hr⟩) _) (ownFrom_below (Nat.le_refl _) hN0))
    (fun _ _ _ _ _ hs _ _ => hs)
    ⟨⟨k0, k1, k2, k3⟩, hB0⟩
    (fun x => { tmps := #[.slice a l.length cap, .int .u32 b, undef, .pointer (some ⟨w.heap.size, 0, none⟩), .slice none 0 0, .int .u32 0, .pointer (some ⟨w.heap.size + 1 + 1, 0, none⟩), .pointer (some ⟨w.heap.size + 1 + 1 + 1, 0, none⟩), .int .i64 ((x % l.length : Nat) : Int), .int .u32 ((l.getD (x % l.length) 0 : Nat) : Int), undef, .slice a l.length cap, .int .i64 l.length, .slice (some ⟨w.heap.size + 1, 0, none⟩) l.length l.length, .slice a l.length cap, .func (.func 169) #[] #[.pointer (some ⟨w.heap.size + 4, 0, none⟩)], .int .i64 ((x % l.length : Nat) : Int), .int .u32 ((l.getD (x % l.length) 0 : Nat) : Int), undef, undef, undef, undef, undef, undef, undef, undef, undef, undef, undef, undef, undef, undef, undef, undef, undef, undef, undef, undef], defers := [] }) ?assign ?body ?done ?stop
  case assign =>
    intro y x W K hK
    unfold encB
    generalize l.getD (x % l.length) 0 = z at *
    generalize x % l.length = xi at *
    gi_wp2
    exact hK
  case body =>
    clear k0 k1 k2 k3 k4
    rintro y pre x W ⟨⟨k0, k1, k2, k3⟩, hB⟩ hpl
    have hsf := sB_facts ho hb hb1 pre
    have h3 := sB_snoc l b pre x
    have hx2 := ho.getD (x % l.length)
    have hxi : x % l.length < l.length := Nat.mod_lt _ (by omega)
    generalize l.getD (x % l.length) 0 = z at *
    generalize x % l.length = xi at *
    generalize sB l b pre = s at *
    obtain ⟨out, q⟩ := s
    simp only at hsf h3 k1 k3
    have hq := hsf.2.2
    have H3 := Lib.hid h3
    have HO := Lib.hid hsf
    have c0 : W.cell? ⟨w.heap.size, 0, none⟩ = some (.int .u32 b) := by simpa using k0.cell 0
    have c1 : W.cell? ⟨w.heap.size + 1, xi, none⟩ = some (.int .u32 (out.getD xi 0 : Nat)) := k1.at_ (by rw [hsf.1]; exact hxi)
    have c2 : W.cell? ⟨w.heap.size + 1 + 1, 0, none⟩ = some (.slice (some ⟨w.heap.size + 1, 0, none⟩) l.length l.length) := by simpa using k2.cell 0
    have c3 : W.cell? ⟨w.heap.size + 1 + 1 + 1, 0, none⟩ = some (.int .u64 q) := by simpa using k3.cell 0
    have f1 : W.frozen? ⟨w.heap.size + 1, xi, none⟩ = false := k1.frozen xi
    have f3 : W.frozen? ⟨w.heap.size + 1 + 1 + 1, 0, none⟩ = false := k3.frozen 0
    generalize out.getD xi 0 = oz at *
    generalize hlz : l.length = len at *
    have HL := Lib.hid hlz
    have K0 := Lib.hid k0
    have K2 := Lib.hid k2
    have K1 := Lib.hid k1
    have K3 := Lib.hid k3
    clear h3 hsf k0 k1 k2 k3 hlz
    have hqb : ((b : Int) == 0) = false := by simp; omega
    have hxi' : (xi : Int) < (len : Int) := by omega
    have hmx : Tryz.prog.follows .mixedOrders = true := by kernel_rfl
    gi_wp2
    obtain ⟨N, hN⟩ : ∃ N : Nat, N = q * 1000000000 + z := ⟨_, rfl⟩
    have hNi : (q : Int) * 1000000000 + z = (N : Int) := by omega
    have hQ : N / b < 1000000000 := by
      rw [Nat.div_lt_iff_lt_mul hb, hN]
      have : (q + 1) * 1000000000 ≤ b * 1000000000 := Nat.mul_le_mul_right _ hq
      rw [Nat.mul_comm 1000000000 b]; omega
    have hR : N % b < b := Nat.mod_lt _ hb
    have ht1 : (N : Int).tdiv (b : Int) = ((N / b : Nat) : Int) := by rw [Int.tdiv_eq_ediv_of_nonneg (by omega)]; simp
    have ht2 : (N : Int).tmod (b : Int) = ((N % b : Nat) : Int) := by rw [Int.tmod_eq_emod_of_nonneg (by omega)]; simp
    rw [hNi]
    have HN := Lib.hid hN
    clear hN hNi
    rw [← HN.out] at H3
    generalize N / b = Q at *
    generalize N % b = R at *
    have hw1 : IntKind.u64.wrap (b : Int) = b := IntWalk.u64_in _ (by omega)
    have hw2 : IntKind.u64.wrap (Q : Int) = Q := IntWalk.u64_in _ (by omega)
    have hw3 : IntKind.u32.wrap (Q : Int) = Q := IntWalk.u32_in _ (by omega)
    have hw4 : IntKind.u64.wrap (R : Int) = R := IntWalk.u64_in _ (by omega)
    have hb0 : ¬ b = 0 := by omega
    have hS : (fun w' : World => w'.cell? ⟨w.heap.size, 0, none⟩ = some (.int .u32 b) ∧ w'.cell? ⟨w.heap.size + 1 + 1, 0, none⟩ = some (.slice (some ⟨w.heap.size + 1, 0, none⟩) len len)) W.drew := ⟨c0, c2⟩
    refine region_lift (S := fun w' : World => w'.cell? ⟨w.heap.size, 0, none⟩ = some (.int .u32 b) ∧ w'.cell? ⟨w.heap.size + 1 + 1, 0, none⟩ = some (.slice (some ⟨w.heap.size + 1, 0, none⟩) len len)) hmx (by kernel_rfl) (fun _ _ h => h) ?_
    refine wpAnyH_take (i := 0) (v := ?_) rfl (by kernel_rfl) (by kernel_rfl) (by kernel_rfl) (fun _ _ _ h => h) (Or.inl ⟨by rfl, ?_⟩) (by assumption) ?_
    rotate_left
    · (intro w hSw; (try dsimp only at hSw); go_simp) <;> (with_reducible rfl)
    try simp only [Act.put, List.setIfInBounds_toArray, List.set_cons_zero, List.set_cons_succ]
    refine wpAnyH_take (i := 1) (v := ?_) rfl (by kernel_rfl) (by kernel_rfl) (by kernel_rfl) (fun _ _ _ h => h) (Or.inl ⟨by rfl, ?_⟩) (by assumption) ?_
    rotate_left
    · (intro w hSw; (try dsimp only at hSw); go_simp) <;> (with_reducible rfl)
    try simp only [Act.put, List.setIfInBounds_toArray, List.set_cons_zero, List.set_cons_succ]
    refine wpAnyH_take (i := 2) (v := ?_) rfl (by kernel_rfl) (by kernel_rfl) (by kernel_rfl) (fun _ _ _ h => h) (Or.inl ⟨by rfl, ?_⟩) (by assumption) ?_
    rotate_left
    · (intro w hSw; (try dsimp only at hSw); go_simp) <;> (with_reducible rfl)
    try simp only [Act.put, List.setIfInBounds_toArray, List.set_cons_zero, List.set_cons_succ]
    refine wpAnyH_take (i := 3) (v := ?_) rfl (by kernel_rfl) (by kernel_rfl) (by kernel_rfl) (fun _ _ _ h => h) (Or.inl ⟨by rfl, ?_⟩) (by assumption) ?_
    rotate_left
    · (intro w hSw; (try dsimp only at hSw); go_simp) <;> (with_reducible rfl)
    try simp only [Act.put, List.setIfInBounds_toArray, List.set_cons_zero, List.set_cons_succ]
    refine wpAnyH_take (i := 4) (v := ?_) rfl (by kernel_rfl) (by kernel_rfl) (by kernel_rfl) (fun _ _ _ h => h) (Or.inl ⟨by rfl, ?_⟩) (by assumption) ?_
    rotate_left
    · (intro w hSw; (try dsimp only at hSw); go_simp) <;> (with_reducible rfl)
    try simp only [Act.put, List.setIfInBounds_toArray, List.set_cons_zero, List.set_cons_succ]
    refine wpAnyH_take (i := 5) (v := ?_) rfl (by kernel_rfl) (by kernel_rfl) (by kernel_rfl) (fun _ _ _ h => h) (Or.inl ⟨by rfl, ?_⟩) (by assumption) ?_
    rotate_left
    · (intro w hSw; (try dsimp only at hSw); go_simp) <;> (with_reducible rfl)
    try simp only [Act.put, List.setIfInBounds_toArray, List.set_cons_zero, List.set_cons_succ]
    refine wpAnyH_take (i := 6) (v := ?_) rfl (by kernel_rfl) (by kernel_rfl) (by kernel_rfl) (fun _ _ _ h => h) (Or.inl ⟨by rfl, ?_⟩) (by assumption) ?_
    rotate_left
    · (intro w hSw; (try dsimp only at hSw); go_simp) <;> (with_reducible rfl)
    try simp only [Act.put, List.setIfInBounds_toArray, List.set_cons_zero, List.set_cons_succ]
    refine wpAnyH_take (i := 7) (v := ?_) rfl (by kernel_rfl) (by kernel_rfl) (by kernel_rfl) (fun _ _ _ h => h) (Or.inl ⟨by rfl, ?_⟩) (by assumption) ?_
    rotate_left
    · (intro w hSw; (try dsimp only at hSw); go_simp) <;> (with_reducible rfl)
    try simp only [Act.put, List.setIfInBounds_toArray, List.set_cons_zero, List.set_cons_succ]
    refine wpAnyH_take (i := 8) (v := ?_) rfl (by kernel_rfl) (by kernel_rfl) (by kernel_rfl) (fun _ _ _ h => h) (Or.inl ⟨by rfl, ?_⟩) (by assumption) ?_
    rotate_left
    · (intro w hSw; (try dsimp only at hSw); go_simp) <;> (with_reducible rfl)
    try simp only [Act.put, List.setIfInBounds_toArray, List.set_cons_zero, List.set_cons_succ]
    refine wpAnyH_take (i := 9) (v := ?_) rfl (by kernel_rfl) (by kernel_rfl) (by kernel_rfl) (fun _ _ _ h => h) (Or.inl ⟨by rfl, ?_⟩) (by assumption) ?_
    rotate_left
    · (intro w hSw; (try dsimp only at hSw); go_simp) <;> (with_reducible rfl)
    try simp only [Act.put, List.setIfInBounds_toArray, List.set_cons_zero, List.set_cons_succ]
    refine wpAnyH_take (i := 10) (v := ?_) rfl (by kernel_rfl) (by kernel_rfl) (by kernel_rfl) (fun _ _ _ h => h) (Or.inl ⟨by rfl, ?_⟩) (by assumption) ?_
    rotate_left
    · (intro w hSw; (try dsimp only at hSw); go_simp) <;> (with_reducible rfl)
    try simp only [Act.put, List.setIfInBounds_toArray, List.set_cons_zero, List.set_cons_succ]
    refine wpAnyH_take (i := 11) (v := ?_) rfl (by kernel_rfl) (by kernel_rfl) (by kernel_rfl) (fun _ _ _ h => h) (Or.inl ⟨by rfl, ?_⟩) (by assumption) ?_
    rotate_left
    · (intro w hSw; (try dsimp only at hSw); go_simp) <;> (with_reducible rfl)
    try simp only [Act.put, List.setIfInBounds_toArray, List.set_cons_zero, List.set_cons_succ]
    refine held_one (i := 12) (by kernel_rfl) rfl (by rfl) ?_
    go_simp
    refine held_one (i := 13) (by kernel_rfl) rfl (by rfl) ?_
    go_simp
    refine wpAnyH_done (by kernel_rfl) ?_ _
    have g0 : w.heap.size ≠ w.heap.size + 1 := by omega
    have b1 : Blk ((W.setCell ⟨w.heap.size + 1, xi, none⟩ (.int .u32 Q)).setCell ⟨w.heap.size + 1 + 1 + 1, 0, none⟩ (.int .u64 R)) (w.heap.size + 1) 143 (arr (out.set xi Q)) := (K1.out.put xi Q rfl).far (p := ⟨w.heap.size + 1 + 1 + 1, 0, none⟩) (by simp) _
    have b3 : Blk ((W.setCell ⟨w.heap.size + 1, xi, none⟩ (.int .u32 Q)).setCell ⟨w.heap.size + 1 + 1 + 1, 0, none⟩ (.int .u64 R)) (w.heap.size + 3) 57 #[.int .u64 R] := by
      have := (K3.out.far (p := ⟨w.heap.size + 1, xi, none⟩) (by simp) (.int .u32 Q)).set_ 0 (.int .u64 R)
      simpa using this
    have b0 : Blk ((W.setCell ⟨w.heap.size + 1, xi, none⟩ (.int .u32 Q)).setCell ⟨w.heap.size + 1 + 1 + 1, 0, none⟩ (.int .u64 R)) w.heap.size 143 #[.int .u32 b] := (K0.out.far (p := ⟨w.heap.size + 1, xi, none⟩) (by simp) _).far (p := ⟨w.heap.size + 1 + 1 + 1, 0, none⟩) (by simp; omega) _
    have b2 : Blk ((W.setCell ⟨w.heap.size + 1, xi, none⟩ (.int .u32 Q)).setCell ⟨w.heap.size + 1 + 1 + 1, 0, none⟩ (.int .u64 R)) (w.heap.size + 2) 84 #[.slice (some ⟨w.heap.size + 1, 0, none⟩) len len] := (K2.out.far (p := ⟨w.heap.size + 1, xi, none⟩) (by simp) _).far (p := ⟨w.heap.size + 1 + 1 + 1, 0, none⟩) (by simp) _
    have hBe : Below w.heap.size w ((W.setCell ⟨w.heap.size + 1, xi, none⟩ (.int .u32 Q)).setCell ⟨w.heap.size + 1 + 1 + 1, 0, none⟩ (.int .u64 R)) := (hB.setCell (p := ⟨w.heap.size + 1, xi, none⟩) (by simp) _).setCell (p := ⟨w.heap.size + 1 + 1 + 1, 0, none⟩) (by simp; omega) _
    exact ⟨(((KeepsOthers.setCell _ _ _).trans (KeepsOthers.setCell _ _ _)).trans (KeepsOthers.drew _)).from _, (((Keep.refl w.heap.size (w.heap.size + 4) W).setCell (p := ⟨w.heap.size + 1, xi, none⟩) (by simp) (by simp) _).setCell (p := ⟨w.heap.size + 1 + 1 + 1, 0, none⟩) (by simp; omega) (by simp) _).drew, ⟨b0, by rw [H3.out]; exact b1, b2, by rw [H3.out]; exact b3⟩, hBe.drew⟩
  case done =>
    clear k0 k1 k2 k3 k4
    rintro D ys W hD rfl ⟨⟨k0, k1, k2, k3⟩, hB⟩ hK
    have hall := sB_all ho hb hb1
    have hsf := sB_facts ho hb hb1 (back l l.length)
    generalize sB l b (back l l.length) = s at *
    obtain ⟨out, q⟩ := s
    simp only at hall hsf k1 k3
    have hq := hsf.2.2
    have hw3 : IntKind.u32.wrap (q : Int) = q := IntWalk.u32_in _ (by omega)
    have c2 : W.cell? ⟨w.heap.size + 1 + 1, 0, none⟩ = some (.slice (some ⟨w.heap.size + 1, 0, none⟩) l.length l.length) := by simpa using k2.cell 0
    have c3 : W.cell? ⟨w.heap.size + 1 + 1 + 1, 0, none⟩ = some (.int .u64 q) := by simpa using k3.cell 0
    have HA := Lib.hid hall
    have HS := Lib.hid hsf
    have K1 := Lib.hid k1
    clear hall hsf k0 k1 k2 k3 hq
    gi_wp2
    gi_region
    gi_wp2
    have hK' : W.drew.heap[D]? = some (.deferred (some [])) := hK
    refine ⟨by simp, .inl ⟨_, _, rfl, run_takeDeferred hK', ?_⟩⟩
    have hbe := belowK_b (w := w) (Nat.le_refl _) W D (.deferred (some [])) (.deferred none) (by omega) hK rfl rfl
    have k1' : Blk (W.putObj D (.deferred none)) (w.heap.size + 1) 143 (arr out) := blk_own K1.out (grownBy_putObj' W D (.deferred none)) (fun r e => by cases e; exact ⟨_, hK, rfl⟩)
    refine ⟨_, results_tmp2 rfl _ _ _, .slice (some ⟨w.heap.size + 1, 0, none⟩) l.length l.length, out, ?_, ?_, HS.out.2.1, HA.out.1, (hB.trans hbe).drew⟩
    · rw [← HA.out.2]; rfl
    · refine ⟨_, l.length, by rw [HS.out.1], Nat.le_of_eq HS.out.1, by unfold maxLen; omega, .inr ⟨_, 0, rfl, ⟨_, _, k1'⟩, fun i hi => ?_⟩⟩
      have := k1'.at_ hi
      rwa [Nat.zero_add]
  case stop =>
    rintro D c pre W _ _ h _
    exact h.elim

end Go.Proofs.YtpmlmibceiolpaaGreatDoor

/- Long division, limb by limb: plain facts (no program in sight). -/
set_option linter.unusedSimpArgs false
set_option linter.unusedVariables false
namespace Go.Proofs.YtpmlmibceiolpaaGreatDoor

/-- The numbers of one step: the window S of the dividend, the divisor v, both by their greatest limbs. -/
structure Step (S v P top x2 y1 y0 : Nat) : Prop where
  hs : ∃ s', s' < P ∧ S = s' + P * (x2 + 1000000000 * top)
  hv : ∃ t', t' < P ∧ v = t' + P * (y0 + 1000000000 * y1)
  y1 : 0 < y1
  y0 : y0 < 1000000000
  x2 : x2 < 1000000000
  lt : S < v * 1000000000

section
variable {S v P top x2 y1 y0 : Nat}
theorem Step.vpos (h : Step S v P top x2 y1 y0) : 0 < v := by
  rcases Nat.eq_zero_or_pos v with h0 | h0
  · have := h.lt; rw [h0] at this; omega
  · exact h0

theorem Step.q_lt (h : Step S v P top x2 y1 y0) : S / v < 1000000000 := by
  rw [Nat.div_lt_iff_lt_mul h.vpos, Nat.mul_comm]; exact h.lt

theorem Step.q_le (h : Step S v P top x2 y1 y0) : S / v ≤ min (top / y1) 999999999 := by
  have h1 := h.q_lt
  refine Nat.le_min.2 ⟨?_, by omega⟩
  rw [Nat.le_div_iff_mul_le h.y1]
  obtain ⟨s', hs, hS⟩ := h.hs
  obtain ⟨t', ht, hv⟩ := h.hv
  have hx := h.x2
  have h2 : S / v * v ≤ S := Nat.div_mul_le_self S v
  generalize S / v = q at *
  rcases Nat.lt_or_ge top (q * y1) with h3 | h3
  · exfalso
    have e1 : P * 1000000000 * (top + 1) ≤ P * 1000000000 * (q * y1) := Nat.mul_le_mul_left _ h3
    have e2 : q * v = q * t' + (P * (q * y0) + P * 1000000000 * (q * y1)) := by
      rw [hv]
      simp only [Nat.mul_add, Nat.mul_assoc, Nat.mul_comm, Nat.mul_left_comm]
    have e3 : P * (x2 + 1000000000 * top) = P * x2 + P * 1000000000 * top := by rw [Nat.mul_add, Nat.mul_assoc]
    have e4 : P * 1000000000 * (top + 1) = P * 1000000000 * top + P * 1000000000 := by rw [Nat.mul_add, Nat.mul_one]
    have e5 : P * (x2 + 1) ≤ P * 1000000000 := Nat.mul_le_mul_left _ hx
    rw [Nat.mul_add, Nat.mul_one] at e5
    omega
  · exact h3

/-- The first test says yes: the guess is too great. -/
theorem Step.down (h : Step S v P top x2 y1 y0) {g : Nat} (hg : g * y1 ≤ top) (hc : (top - g * y1) * 1000000000 + x2 < g * y0) : S / v < g := by
  obtain ⟨s', hs, hS⟩ := h.hs
  obtain ⟨t', ht, hv⟩ := h.hv
  rw [Nat.div_lt_iff_lt_mul h.vpos]
  have e2 : g * v = g * t' + (P * (g * y0) + P * (1000000000 * (g * y1))) := by
    rw [hv]
    simp only [Nat.mul_add, Nat.mul_assoc, Nat.mul_comm, Nat.mul_left_comm]
  have e3 : P * (x2 + 1000000000 * top + 1) ≤ P * (g * y0 + 1000000000 * (g * y1)) := Nat.mul_le_mul_left _ (by omega)
  rw [Nat.mul_add _ _ 1, Nat.mul_add _ (g * y0)] at e3
  omega

/-- One of the tests says no: the guess is too great by one at most. -/
theorem Step.near (h : Step S v P top x2 y1 y0) {g : Nat} (hg : g * y1 ≤ top) (hg1 : g < 1000000000) (hc : g * y0 ≤ (top - g * y1) * 1000000000 + x2 ∨ 1000000000 ≤ top - g * y1) : g ≤ S / v + 1 := by
  obtain ⟨s', hs, hS⟩ := h.hs
  obtain ⟨t', ht, hv⟩ := h.hv
  have hy0 := h.y0
  have hy1 := h.y1
  have hc : g * y0 ≤ (top - g * y1) * 1000000000 + x2 := by
    rcases hc with hc | hc
    · exact hc
    · have : g * y0 ≤ 1000000000 * 1000000000 := Nat.mul_le_mul (by omega) (by omega)
      omega
  rcases Nat.eq_zero_or_pos g with h0 | h0
  · rw [h0]; exact Nat.zero_le _
  · obtain ⟨k, hk⟩ : ∃ k, g = k + 1 := ⟨g - 1, by omega⟩
    have e0 : g * v = k * v + v := by rw [hk, Nat.add_mul, Nat.one_mul]
    suffices hs : k ≤ S / v by omega
    rw [Nat.le_div_iff_mul_le h.vpos]
    have e2 : g * v = g * t' + (P * (g * y0) + P * (1000000000 * (g * y1))) := by
      rw [hv]
      simp only [Nat.mul_add, Nat.mul_assoc, Nat.mul_comm, Nat.mul_left_comm]
    have e3 : P * (g * y0 + 1000000000 * (g * y1)) ≤ P * (x2 + 1000000000 * top) := Nat.mul_le_mul_left _ (by omega)
    rw [Nat.mul_add _ (g * y0)] at e3
    have e4 : g * t' ≤ 1000000000 * P := Nat.mul_le_mul (by omega) (by omega)
    have e5 : P * (1000000000 * 1) ≤ P * (y0 + 1000000000 * y1) := Nat.mul_le_mul_left _ (by omega)
    omega

/-- The guess is less than twice the base too small, so nothing overflows. -/
theorem Step.rest (h : Step S v P top x2 y1 y0) (ht : top / 1000000000 ≤ y1) : top - min (top / y1) 999999999 * y1 < 2000000000 ∨ y1 ≥ 1000000000 := by
  have hy1 := h.y1
  rcases Nat.lt_or_ge y1 1000000000 with h1 | h1
  · left
    rcases Nat.le_total (top / y1) 999999999 with h2 | h2
    · rw [Nat.min_eq_left h2]
      have h3 := Nat.div_add_mod' top y1
      have h4 := Nat.mod_lt top hy1
      omega
    · rw [Nat.min_eq_right h2]
      omega
  · exact .inr h1

/-- What is left of the window. -/
theorem Step.exact (h : Step S v P top x2 y1 y0) {g R C b : Nat} (h1 : S / v ≤ g) (h2 : g ≤ S / v + 1) (hb : b ≤ 1) (hC : C < R) (hv : v < R) (he : C + g * v = S + R * b) : (b = 0 ↔ g = S / v) := by
  have hm := Nat.div_add_mod S v
  have hl := Nat.mod_lt S h.vpos
  generalize S / v = q at *
  rw [Nat.mul_comm] at hm
  constructor
  · rintro rfl
    rcases (show g = q ∨ g = q + 1 by omega) with rfl | rfl
    · rfl
    · rw [Nat.add_mul, Nat.one_mul] at he; omega
  · rintro rfl
    rcases (show b = 0 ∨ b = 1 by omega) with rfl | rfl
    · rfl
    · omega
end

/-- The relation of the outer loop: the limbs of the quotient from k on are there. -/
structure DivInv (N n a0 vb : Nat) (k : Nat) (A Q : List Nat) : Prop where
  lenA : A.length = N
  lenQ : Q.length + n = N
  okA : Ok A
  okQ : Ok Q
  sum : val A + vb * val Q = a0
  low : val (A.drop k) < vb
  zero : ∀ j, j < k → Q.getD j 0 = 0

theorem val_set {Q : List Nat} {j x : Nat} (hj : j < Q.length) (h0 : Q.getD j 0 = 0) : val (Q.set j x) = val Q + 1000000000 ^ j * x := by
  rw [val_split (Q.set j x) j (by simp; omega), val_split Q j (by omega), List.take_set_of_le (Nat.le_refl _), drop_eq (l := Q) hj, drop_eq (l := Q.set j x) (by simpa using hj), List.drop_set_of_lt (by omega), h0]
  have e : (Q.set j x).getD j 0 = x := by simp [List.getD, hj]
  rw [e]
  simp only [val, Nat.mul_add]
  omega

theorem DivInv.start {N n a0 vb : Nat} {A : List Nat} (hA : A.length = N) (hn : n ≤ N) (ho : Ok A) (hv : val A = a0) (hl : val (A.drop (N - n)) < vb) : DivInv N n a0 vb (N - n) A (List.replicate (N - n) 0) := by
  refine ⟨hA, by simp; omega, ho, Ok.zeros _, by rw [val_zeros, hv]; simp, hl, fun j hj => by simp [List.getD, hj]⟩

/-- The window of a step, and that nothing lies above it. -/
theorem DivInv.win {N n a0 vb k : Nat} {A Q : List Nat} (h : DivInv N n a0 vb (k + 1) A Q) (hv : vb < 1000000000 ^ n) (hk : k + 1 ≤ Q.length) :
    val (A.drop k) = val (win A k (n + 1)) ∧ val (win A k (n + 1)) < vb * 1000000000 ∧ val (A.drop (k + n + 1)) = 0 := by
  have h1 := h.low
  have h2 : A.drop k = A.getD k 0 :: A.drop (k + 1) := drop_eq (by have := h.lenA; have := h.lenQ; omega)
  have h3 := h.okA.getD k
  have h4 : val (A.drop k) < vb * 1000000000 := by rw [h2]; simp only [val]; omega
  have h5 := val_split (A.drop k) (n + 1) (by have := h.lenA; have := h.lenQ; simp; omega)
  rw [List.drop_drop, show k + (n + 1) = k + n + 1 by omega] at h5
  have h6 : val (A.drop (k + n + 1)) = 0 := by
    rcases Nat.eq_zero_or_pos (val (A.drop (k + n + 1))) with h0 | h0
    · exact h0
    · exfalso
      have h7 : 1000000000 ^ (n + 1) * 1 ≤ 1000000000 ^ (n + 1) * val (A.drop (k + n + 1)) := Nat.mul_le_mul_left _ h0
      have h8 : vb * 1000000000 ≤ 1000000000 ^ (n + 1) := by rw [Nat.pow_succ]; exact Nat.mul_le_mul_right _ (by omega)
      omega
  rw [h6, Nat.mul_zero, Nat.add_zero] at h5
  unfold Proofs.YtpmlmibceiolpaaGreatDoor.win
  exact ⟨h5, by rw [← h5]; exact h4, h6⟩

theorem step_sum {P a c d vb g q a0 : Nat} (hr : c + g * vb = d) (h : a + P * d + vb * q = a0) : a + P * c + vb * (q + P * g) = a0 := by
  have e3 : vb * (P * g) = P * (g * vb) := by simp only [Nat.mul_comm, Nat.mul_left_comm, Nat.mul_assoc]
  rw [← h, ← hr, Nat.mul_add vb, Nat.mul_add P, e3]
  omega

theorem rest_lt {x y g v : Nat} (hv : 0 < v) (hg : g = y / v) (h : x + g * v = y) : x < v := by
  have h4 := Nat.div_add_mod' y v
  have h5 := Nat.mod_lt y hv
  rw [← hg] at h4
  omega

theorem Upto.tail {A A' : List Nat} {k n : Nat} (hu : Upto A A' k (n + 1)) (hl : k + n + 1 ≤ A.length) (h3 : val (A.drop (k + n + 1)) = 0) : val (A'.drop k) = val (win A' k (n + 1)) := by
  have h5 := val_split (A'.drop k) (n + 1) (by have := hu.1; simp; omega)
  rw [List.drop_drop, hu.2.2.1, show k + (n + 1) = k + n + 1 from rfl, h3, Nat.mul_zero, Nat.add_zero] at h5
  exact h5

/-- A step: the window is replaced by what is left of it, and the limb of the quotient is set. -/
theorem DivInv.step {N n a0 vb k : Nat} {A A' Q : List Nat} {g : Nat} (h : DivInv N n a0 vb (k + 1) A Q) (hv : vb < 1000000000 ^ n) (hv0 : 0 < vb) (hk : k + 1 ≤ Q.length) (hu : Upto A A' k (n + 1)) (hg : g = val (Proofs.YtpmlmibceiolpaaGreatDoor.win A k (n + 1)) / vb) (hr : val (Proofs.YtpmlmibceiolpaaGreatDoor.win A' k (n + 1)) + g * vb = val (Proofs.YtpmlmibceiolpaaGreatDoor.win A k (n + 1))) :
    DivInv N n a0 vb k A' (Q.set k g) := by
  obtain ⟨h1, h2, h3⟩ := h.win hv hk
  have hg1 : g < 1000000000 := by rw [hg, Nat.div_lt_iff_lt_mul hv0, Nat.mul_comm]; exact h2
  have hlow := rest_lt hv0 hg hr
  have hd := hu.tail (by have := h.lenA; have := h.lenQ; omega) h3
  refine ⟨by rw [hu.1]; exact h.lenA, by simp; exact h.lenQ, hu.2.2.2, h.okQ.set _ _ hg1, ?_, by rw [hd]; exact hlow, ?_⟩
  · have e1 := val_split A k (by have := h.lenA; have := h.lenQ; omega)
    have e2 := val_split A' k (by have := hu.1; have := h.lenA; have := h.lenQ; omega)
    have e3 := h.sum
    rw [hu.2.1, hd] at e2
    rw [e1, h1] at e3
    rw [val_set (by omega) (h.zero k (by omega)), e2]
    exact step_sum hr e3
  · intro j hj
    have := h.zero j (by omega)
    simp only [List.getD, List.getElem?_set] at this ⊢
    rw [if_neg (by omega)]; exact this

theorem DivInv.done {N n a0 vb : Nat} {A Q : List Nat} (h : DivInv N n a0 vb 0 A Q) : val Q = a0 / vb ∧ val A = a0 % vb := by
  have h1 := h.low
  rw [List.drop_zero] at h1
  have hv : 0 < vb := by omega
  have := (Nat.div_mod_unique hv (a := a0) (c := val A) (d := val Q)).2 ⟨by have := h.sum; omega, h1⟩
  exact ⟨this.1.symm, this.2.symm⟩

/-- A guess of the limb of the quotient, on its way down. -/
structure GInv (S v P T X2 Y1 Y0 g : Nat) : Prop where
  step : Step S v P T X2 Y1 Y0
  ge : S / v ≤ g
  lt : g < 1000000000
  top : g * Y1 ≤ T
  rest : T - g * Y1 < 2000000000

theorem GInv.down {S v P T X2 Y1 Y0 g : Nat} (h : GInv S v P T X2 Y1 Y0 g) (hY : Y1 < 1000000000) (h1 : (T - g * Y1) * 1000000000 + X2 < g * Y0) (h2 : T - g * Y1 < 1000000000) : 0 < g ∧ GInv S v P T X2 Y1 Y0 (g - 1) := by
  have hd := h.step.down h.top h1
  have hg : 0 < g := Nat.lt_of_le_of_lt (Nat.zero_le _) hd
  obtain ⟨k, hk⟩ : ∃ k, g = k + 1 := ⟨g - 1, by omega⟩
  have e : g * Y1 = k * Y1 + Y1 := by rw [hk, Nat.add_mul, Nat.one_mul]
  have ek : g - 1 = k := by omega
  have ht := h.top
  refine ⟨hg, h.step, Nat.le_sub_one_of_lt hd, by have := h.lt; omega, by rw [ek]; omega, by rw [ek]; omega⟩

theorem GInv.init {S v P T X2 Y1 Y0 : Nat} (h : Step S v P T X2 Y1 Y0) (hY : Y1 < 1000000000) (ht : T / 1000000000 ≤ Y1) : GInv S v P T X2 Y1 Y0 (min (T / Y1) 999999999) := by
  refine ⟨h, h.q_le, by omega, ?_, ?_⟩
  · exact Nat.le_trans (Nat.mul_le_mul_right _ (Nat.min_le_left _ _)) (Nat.div_mul_le_self _ _)
  · rcases h.rest ht with h1 | h1
    · exact h1
    · omega

/-- What is left of the window where the guess was right, and where it was too great by one. -/
theorem left_right {S v P T X2 Y1 Y0 g C R b : Nat} (h : GInv S v P T X2 Y1 Y0 g) (hn : g ≤ S / v + 1) (hb : b ≤ 1) (hC : C < R) (hv : v < R) (he : C + g * v = S + R * b) (hg : g = S / v) : b = 0 ∧ C + g * v = S := by
  have := (h.step.exact h.ge hn hb hC hv he).2 hg
  subst this
  exact ⟨rfl, by rw [he, Nat.mul_zero, Nat.add_zero]⟩

theorem left_wrong {S v P T X2 Y1 Y0 g C R b C2 c : Nat} (h : GInv S v P T X2 Y1 Y0 g) (hn : g ≤ S / v + 1) (hb : b ≤ 1) (hC : C < R) (hv : v < R) (he : C + g * v = S + R * b) (hg : ¬ g = S / v) (hC2 : C2 < R) (hc : c ≤ 1) (he2 : C2 + R * c = C + v) : b = 1 ∧ g - 1 = S / v ∧ 0 < g ∧ C2 + (g - 1) * v = S := by
  have hge := h.ge
  have hm := Nat.div_add_mod' S v
  have hl := Nat.mod_lt S h.step.vpos
  generalize S / v = q at *
  generalize S % v = r at *
  obtain rfl : g = q + 1 := by omega
  rw [Nat.add_sub_cancel]
  rw [Nat.add_mul, Nat.one_mul] at he
  generalize q * v = qv at *
  rcases (show b = 0 ∨ b = 1 by omega) with rfl | rfl
  · omega
  · rcases (show c = 0 ∨ c = 1 by omega) with rfl | rfl
    · omega
    · refine ⟨rfl, rfl, by omega, by omega⟩

theorem unit_fits {l : List Nat} {m u : Nat} (ho : Ok l) (hl : l.length = m + 2) (hu : u = 1000000000 / (l.getD (m + 1) 0 + 1)) (hu0 : 0 < u) : val l * u < 1000000000 ^ (m + 2) := by
  have h1 := val_lt (ho.take (m + 1))
  have e : (l.take (m + 1)).length = m + 1 := by simp; omega
  rw [e] at h1
  have h2 := val_take_succ l (m + 1)
  rw [List.take_of_length_le (by omega)] at h2
  have h3 : u * (l.getD (m + 1) 0 + 1) ≤ 1000000000 := by rw [hu]; exact Nat.div_mul_le_self _ _
  generalize l.getD (m + 1) 0 = x at *
  have h4 : val l + 1 ≤ 1000000000 ^ (m + 1) * (x + 1) := by rw [Nat.mul_add, Nat.mul_one]; omega
  have h5 : (val l + 1) * u ≤ 1000000000 ^ (m + 1) * (x + 1) * u := Nat.mul_le_mul_right _ h4
  have h6 : 1000000000 ^ (m + 1) * (x + 1) * u ≤ 1000000000 ^ (m + 1) * 1000000000 := by
    rw [Nat.mul_assoc, Nat.mul_comm (x + 1)]; exact Nat.mul_le_mul_left _ h3
  rw [Nat.add_mul, Nat.one_mul] at h5
  rw [show m + 2 = (m + 1) + 1 from rfl, Nat.pow_succ]
  omega

theorem take_val {B : List Nat} {k : Nat} (hk : k ≤ B.length) (h : val B < 1000000000 ^ k) : val (B.take k) = val B := by
  have h1 := val_split B k hk
  rcases Nat.eq_zero_or_pos (val (B.drop k)) with h0 | h0
  · rw [h0, Nat.mul_zero, Nat.add_zero] at h1; exact h1.symm
  · have : 1000000000 ^ k * 1 ≤ 1000000000 ^ k * val (B.drop k) := Nat.mul_le_mul_left _ h0
    omega

theorem top_pos {l B : List Nat} {m u : Nat} (ho : Ok l) (hl : l.length = m + 2) (hL : Last l) (oB : Ok B) (hB : B.length = m + 2 + 1) (hv : val B = val l * u) (hu0 : 0 < u) (hf : val l * u < 1000000000 ^ (m + 2)) : 0 < B.getD (m + 1) 0 := by
  have h1 := take_val (B := B) (k := m + 2) (by omega) (by rw [hv]; exact hf)
  have h2 := val_take_succ B (m + 1)
  rw [show m + 1 + 1 = m + 2 from rfl, h1, hv] at h2
  have h3 := val_lt (oB.take (m + 1))
  have e : (B.take (m + 1)).length = m + 1 := by simp; omega
  rw [e] at h3
  rcases Nat.eq_zero_or_pos (B.getD (m + 1) 0) with h0 | h0
  · exfalso
    rw [h0, Nat.mul_zero, Nat.add_zero] at h2
    have h4 := val_take_succ l (m + 1)
    rw [List.take_of_length_le (by omega)] at h4
    have h5 : 0 < l.getD (m + 1) 0 := by
      have := hL (by intro e; rw [e] at hl; simp at hl)
      rw [hl] at this
      exact Nat.pos_of_ne_zero this
    have h6 : 1000000000 ^ (m + 1) * 1 ≤ 1000000000 ^ (m + 1) * l.getD (m + 1) 0 := Nat.mul_le_mul_left _ h5
    have h7 : val l * 1 ≤ val l * u := Nat.mul_le_mul_left _ hu0
    omega
  · exact h0

theorem step_of {A B : List Nat} {j m v : Nat} (oA : Ok A) (oB : Ok B) (lA : j + (m + 2) < A.length) (lB : B.length = m + 2 + 1) (hv : val (B.take (m + 2)) = v) (hY : 0 < B.getD (m + 1) 0) (hlt : val (win A j (m + 2 + 1)) < v * 1000000000) :
    Step (val (win A j (m + 2 + 1))) v (1000000000 ^ m) (A.getD (j + (m + 2)) 0 * 1000000000 + A.getD (j + (m + 1)) 0) (A.getD (j + m) 0) (B.getD (m + 1) 0) (B.getD m 0) ∧ (A.getD (j + (m + 2)) 0 * 1000000000 + A.getD (j + (m + 1)) 0) / 1000000000 ≤ B.getD (m + 1) 0 := by
  have a1 := win_succ A j m
  have a2 := win_succ A j (m + 1)
  have a3 := win_succ A j (m + 2)
  have b1 := val_take_succ B m
  have b2 := val_take_succ B (m + 1)
  rw [show m + 1 + 1 = m + 2 from rfl] at a2 b2
  have c1 : val (win A j m) < 1000000000 ^ m := by
    have := val_lt (l := win A j m) ((oA.drop j).take m)
    rwa [win_length (by omega)] at this
  have c2 : val (B.take m) < 1000000000 ^ m := by
    have := val_lt (oB.take m)
    have e : (B.take m).length = m := by simp; omega
    rwa [e] at this
  have x1 := oA.getD (j + (m + 1))
  have x2 := oA.getD (j + m)
  have y0 := oB.getD m
  have e1 : (1000000000 : Nat) ^ (m + 1) = 1000000000 ^ m * 1000000000 := by rw [Nat.pow_succ]
  have e2 : (1000000000 : Nat) ^ (m + 2) = 1000000000 ^ m * 1000000000 * 1000000000 := by rw [Nat.pow_succ, Nat.pow_succ]
  rw [e1] at a2 b2
  rw [e2] at a3
  generalize (1000000000 : Nat) ^ m = P at *
  generalize A.getD (j + (m + 2)) 0 = X0 at *
  generalize A.getD (j + (m + 1)) 0 = X1 at *
  generalize A.getD (j + m) 0 = X2 at *
  generalize B.getD (m + 1) 0 = Y1 at *
  generalize B.getD m 0 = Y0 at *
  have f1 : P * 1000000000 * X1 = P * (1000000000 * X1) := Nat.mul_assoc _ _ _
  have f2 : P * 1000000000 * 1000000000 * X0 = P * (1000000000 * (X0 * 1000000000)) := by rw [Nat.mul_assoc, Nat.mul_assoc, Nat.mul_comm X0]
  have f3 : P * 1000000000 * Y1 = P * (1000000000 * Y1) := Nat.mul_assoc _ _ _
  refine ⟨⟨⟨val (win A j m), c1, ?_⟩, ⟨val (B.take m), c2, ?_⟩, hY, y0, x2, hlt⟩, ?_⟩
  · rw [a3, a2, a1, f1, f2]; simp only [Nat.mul_add]; omega
  · rw [← hv, b2, b1, f3]; simp only [Nat.mul_add]; omega
  · rcases Nat.lt_or_ge Y1 X0 with h | h
    · exfalso
      have g1 : P * (Y0 + 1) ≤ P * 1000000000 := Nat.mul_le_mul_left _ y0
      have g2 : P * 1000000000 * 1000000000 * (Y1 + 1) ≤ P * 1000000000 * 1000000000 * X0 := Nat.mul_le_mul_left _ h
      rw [Nat.mul_add, Nat.mul_one] at g1 g2
      have g3 : P * 1000000000 * 1000000000 * Y1 = P * 1000000000 * Y1 * 1000000000 := by simp only [Nat.mul_comm, Nat.mul_left_comm, Nat.mul_assoc]
      omega
    · omega

theorem start_low {l1 l2 A : List Nat} {n1 m L u : Nat} (h1 : l1.length = n1) (h2 : l2.length = m + 2) (k2 : Last l2) (o1 : Ok l1) (o2 : Ok l2) (hA : A.length = n1 + 1) (hv : val A = val l1 * u) (hu : 0 < u) (hL : L + m + 1 = n1) : val (A.drop L) < val l2 * u := by
  have e1 := val_split A L (by omega)
  have e2 := val_lt o1
  rw [h1] at e2
  have e3 : (1000000000 : Nat) ^ n1 = 1000000000 ^ L * 1000000000 ^ (m + 1) := by rw [← Nat.pow_add]; congr 1; omega
  have e4 : val l1 * u < 1000000000 ^ L * (1000000000 ^ (m + 1) * u) := by
    rw [← Nat.mul_assoc, ← e3]; exact Nat.mul_lt_mul_of_pos_right e2 hu
  have e5 : 1000000000 ^ L * val (A.drop L) < 1000000000 ^ L * (1000000000 ^ (m + 1) * u) := by omega
  have e6 : val (A.drop L) < 1000000000 ^ (m + 1) * u := Nat.lt_of_mul_lt_mul_left e5
  have e7 : 1000000000 ^ (m + 1) * u ≤ val l2 * u := by
    refine Nat.mul_le_mul_right _ ?_
    have h4 := val_take_succ l2 (m + 1)
    rw [List.take_of_length_le (by omega)] at h4
    have h5 : 0 < l2.getD (m + 1) 0 := by
      have := k2 (by intro e; rw [e] at h2; simp at h2)
      rw [h2] at this
      exact Nat.pos_of_ne_zero this
    have h6 : 1000000000 ^ (m + 1) * 1 ≤ 1000000000 ^ (m + 1) * l2.getD (m + 1) 0 := Nat.mul_le_mul_left _ h5
    omega
  omega

end Go.Proofs.YtpmlmibceiolpaaGreatDoor

/- The contract of limbs.divided: the quotient and the rest of magnitudes. -/
set_option linter.unusedSimpArgs false
set_option linter.unusedVariables false
namespace Go.Proofs.YtpmlmibceiolpaaGreatDoor
open Go.RowKit

/-- What divided hands back. -/
def RetQR (w : World) (q r : Nat) (e : Ending) (w' : World) : Prop :=
  ∃ vq vr lq lr, e = .returned (.tuple #[vq, vr]) ∧ Lim w' vq lq ∧ Lim w' vr lr ∧ Ok lq ∧ Ok lr ∧ val lq = q ∧ val lr = r ∧ Below w.heap.size w w'

theorem compare_lt {w : World} {v1 v2 : Value} {l1 l2 : List Nat} (h1 : Lim w v1 l1) (h2 : Lim w v2 l2) (o1 : Ok l1) (o2 : Ok l2) (k1 : Last l1) (k2 : Last l2) (h : val l1 < val l2) :
    Calls Tryz.prog 119 #[v1, v2] w fun e w' => e = .returned (.int .i64 (-1)) ∧ Drawn w w' :=
  (compare_any h1 h2 o1 o2 k1 k2).mono fun e w' ⟨he, hd⟩ => ⟨by rw [he, sgn_lt h], hd⟩

/-- A comparison that is not less. -/
def Geq (w : World) (e : Ending) (w' : World) : Prop := ∃ s : Int, e = .returned (.int .i64 s) ∧ 0 ≤ s ∧ s ≤ 1 ∧ Drawn w w'
theorem compare_ge {w : World} {v1 v2 : Value} {l1 l2 : List Nat} (h1 : Lim w v1 l1) (h2 : Lim w v2 l2) (o1 : Ok l1) (o2 : Ok l2) (k1 : Last l1) (k2 : Last l2) (h : val l2 ≤ val l1) :
    Calls Tryz.prog 119 #[v1, v2] w (Geq w) := by
  refine (compare_any h1 h2 o1 o2 k1 k2).mono ?_
  rintro e w' ⟨he, hd⟩
  refine ⟨_, he, ?_, ?_, hd⟩ <;> (unfold sgn; split; omega; split <;> omega)

set_option maxHeartbeats 1000000 in
set_option maxRecDepth 100000 in
/-- The dividend is less. -/
theorem divided_less {w : World} {v1 v2 : Value} {l1 l2 : List Nat} (h1 : Lim w v1 l1) (h2 : Lim w v2 l2) (o1 : Ok l1) (o2 : Ok l2) (k1 : Last l1) (k2 : Last l2) (h : val l1 < val l2) :
    Calls Tryz.prog 138 #[v1, v2] w (RetQR w 0 (val l1)) := by
  have c := compare_lt h1 h2 o1 o2 k1 k2 h
  obtain ⟨a1, c1, rfl, hc1⟩ := id h1
  obtain ⟨a2, c2, rfl, hc2⟩ := id h2
  have H := Lib.hid h1
  have C := Lib.hid c
  clear h1 h2 hc1 hc2 c
  go_enter Tryz.func138, Tryz.ntmps138
  go_wp2_with (go_at_call 119; refine C.out.mono ?_; rintro e w' ⟨rfl, hd⟩)
  go_ret2
  exact ⟨_, _, [], l1, rfl, Lim.nil _, H.out.drawn hd, Ok.nil, o1, rfl, rfl, hd.below _⟩

theorem one_limb {l : List Nat} (h : l.length = 1) : val l = l.getD 0 0 := by
  match l, h with
  | [x], _ => simp [val]

theorem Lim.one {w : World} (g x : Nat) (h : Blk w g 143 #[.int .u32 x]) : Lim w (.slice (some ⟨g, 0, none⟩) 1 1) [x] := by
  refine ⟨_, 1, rfl, by simp, by unfold maxLen; omega, .inr ⟨g, 0, rfl, ⟨_, _, h⟩, fun i hi => ?_⟩⟩
  obtain rfl : i = 0 := by simpa using hi
  simpa using h.cell 0

set_option maxHeartbeats 1000000 in
set_option maxRecDepth 100000 in
/-- The divisor is one limb. -/
theorem divided_one {w : World} {v1 v2 : Value} {l1 l2 : List Nat} (h1 : Lim w v1 l1) (h2 : Lim w v2 l2) (o1 : Ok l1) (o2 : Ok l2) (k1 : Last l1) (k2 : Last l2) (h : val l2 ≤ val l1) (hn : l2.length = 1) (h0 : 0 < val l2) (hsz : l1.length ≤ 1073741824) :
    Calls Tryz.prog 138 #[v1, v2] w (RetQR w (val l1 / val l2) (val l1 % val l2)) := by
  have c := compare_ge h1 h2 o1 o2 k1 k2 h
  have s := fun w' hd => short_any (l2.getD 0 0) (h1.drawn (w' := w') hd) o1 (by rw [← one_limb hn]; exact h0) (o2.getD 0) hsz
  have hm := Nat.mod_lt (val l1) h0
  have hl := o2.getD 0
  rw [one_limb hn] at hm ⊢
  obtain ⟨a1, c1, rfl, hc1⟩ := id h1
  rcases h2.cases with ⟨h2, _⟩ | ⟨b2, p2, c2, rfl, hlt, hcc, hm2, hcell⟩
  · rw [h2] at hn; simp at hn
  have g0 := hcell.2 0 hlt
  rw [Nat.add_zero] at g0
  rw [hn] at c ⊢
  generalize l2.getD 0 0 = x at *
  generalize val l1 / x = q at *
  generalize val l1 % x = r at *
  have C := Lib.hid c
  have S := Lib.hid s
  clear h1 h2 hc1 c s k1 k2 h hn h0 hlt hcc
  go_enter Tryz.func138, Tryz.ntmps138
  go_wp2_with (first
    | (go_at_call 119; refine C.out.mono ?_; rintro e w' ⟨s, rfl, hs0, hs1, hd⟩; have g1 : w'.cell? ⟨b2, p2, none⟩ = some (.int .u32 x) := (hd.cell _).trans g0)
    | (go_at_call 156; refine (S.out _ hd).mono ?_; rintro e w1 ⟨vq, xs, rfl, hlim, hok, hv, hb⟩))
  go_ret2
  have hz : Blk (w1.alloc (.cells #[.int .u32 r] 143)) w1.heap.size 143 #[.int .u32 r] := Blk.new _ _ _
  have hbe : Below w.heap.size w (w1.alloc (.cells #[.int .u32 r] 143)) := ((hd.below _).trans (hb.mono (by rw [hd.size]; exact Nat.le_refl _))).alloc (by have := hb.size; rw [hd.size] at this; exact this) _
  exact ⟨_, _, xs, [r], rfl, hlim.below ((Below.refl _ _).alloc (Nat.le_refl _) _), Lim.one _ _ hz, hok, Ok.cons (by omega) Ok.nil, hv, by simp [val], hbe⟩

end Go.Proofs.YtpmlmibceiolpaaGreatDoor
