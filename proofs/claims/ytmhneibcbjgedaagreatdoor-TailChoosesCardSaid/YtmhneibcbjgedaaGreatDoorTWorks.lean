/- The contracts of the closures of the examples, and of works. -/
import Derived.Test.YtmhneibcbjgedaaGreatDoorTKnown0
set_option linter.unusedSimpArgs false
set_option linter.unusedVariables false
namespace Go.Proofs.YtmhneibcbjgedaaGreatDoor
open Go.RowKit

/-- The library's variables hold what they hold, and what lay there lies there. -/
def Gd (w0 w : World) : Prop := Good w ∧ Below w0.heap.size w0 w
theorem Gd.next {w0 w w' : World} (h : Gd w0 w) (hb : Below w.heap.size w w') : Gd w0 w' := ⟨h.1.below hb, h.2.trans (hb.mono h.2.size)⟩
theorem Gd.more {w0 w : World} (h : Gd w0 w) (o : Obj) : Gd w0 (w.alloc o) := h.next ((Below.refl _ _).alloc (Nat.le_refl _) _)

theorem is_any {w : World} (s : ByteArray) : Calls Tryz.prog 17 #[.string s] w fun e w' => ∃ g : Nat, e = .returned (.func (.func 51) #[] #[.pointer (some ⟨g, 0, none⟩)]) ∧ Blk w' g 26 #[.string s] ∧ Below w.heap.size w w' := by
  go_enter Tryz.func17, Tryz.ntmps17
  go_wp2
  go_ret
  exact ⟨_, rfl, Blk.new _ _ _, (Below.refl _ _).alloc (Nat.le_refl _) _⟩
theorem fails_any {w : World} (n : Int) : Calls Tryz.prog 13 #[.int .i64 n] w fun e w' => ∃ g : Nat, e = .returned (.func (.func 44) #[] #[.pointer (some ⟨g, 0, none⟩)]) ∧ Blk w' g 23 #[.int .i64 n] ∧ Below w.heap.size w w' := by
  go_enter Tryz.func13, Tryz.ntmps13
  go_wp2
  go_ret
  exact ⟨_, rfl, Blk.new _ _ _, (Below.refl _ _).alloc (Nat.le_refl _) _⟩
theorem is_true {w : World} {g : Nat} {s : ByteArray} (h : Blk w g 26 #[.string s]) : Calls Tryz.prog 51 #[.string s, .int .i64 0, .pointer (some ⟨g, 0, none⟩)] w (RetV w (.bool true)) := by
  have hc := h.cell 0
  simp at hc
  go_enter Tryz.func51, Tryz.ntmps51
  go_wp2
  go_ret
  exact ⟨rfl, Below.refl _ _⟩
theorem fails_true {w : World} {g : Nat} {n : Int} (h : Blk w g 23 #[.int .i64 n]) : Calls Tryz.prog 44 #[.string { data := #[] }, .int .i64 n, .pointer (some ⟨g, 0, none⟩)] w (RetV w (.bool true)) := by
  have hc := h.cell 0
  simp at hc
  go_enter Tryz.func44, Tryz.ntmps44
  go_wp2
  go_ret
  exact ⟨rfl, Below.refl _ _⟩

set_option maxHeartbeats 4000000 in
set_option maxRecDepth 100000 in
theorem works_any {w : World} (hg : Good w) : Calls Tryz.prog 10 #[] w (RetV w (.bool true)) := by
  have hG : Gd w w := ⟨hg, Below.refl _ _⟩
  clear hg
  go_enter Tryz.func10, Tryz.ntmps10
  go_wp2_with fail
  refine (known_0 hG.1).mono ?_; rintro e wn ⟨rfl, hb⟩; replace hG := hG.next hb; clear hb
  go_wp2_with fail
  refine (known_1 hG.1).mono ?_; rintro e wn ⟨rfl, hb⟩; replace hG := hG.next hb; clear hb
  go_wp2_with fail
  refine (known_2 hG.1).mono ?_; rintro e wn ⟨rfl, hb⟩; replace hG := hG.next hb; clear hb
  go_wp2_with fail
  refine (known_3 hG.1).mono ?_; rintro e wn ⟨rfl, hb⟩; replace hG := hG.next hb; clear hb
  go_wp2_with fail
  refine (known_4 hG.1).mono ?_; rintro e wn ⟨rfl, hb⟩; replace hG := hG.next hb; clear hb
  go_wp2_with fail
  refine (is_any _).mono ?_; rintro e wn ⟨gz, rfl, hz, hb⟩; replace hG := hG.next hb; clear hb
  go_wp2_with fail
  refine (known_5 hG.1).mono ?_; rintro e wn ⟨rfl, hb⟩; replace hG := hG.next hb; replace hz := hz.next hb; clear hb
  go_wp2_with fail
  refine (is_true hz).mono ?_; rintro e wn ⟨rfl, hb⟩; replace hG := hG.next hb; clear hb hz
  go_wp2_with fail
  refine (is_any _).mono ?_; rintro e wn ⟨gz, rfl, hz, hb⟩; replace hG := hG.next hb; clear hb
  go_wp2_with fail
  refine (known_6 hG.1).mono ?_; rintro e wn ⟨rfl, hb⟩; replace hG := hG.next hb; replace hz := hz.next hb; clear hb
  go_wp2_with fail
  refine (is_true hz).mono ?_; rintro e wn ⟨rfl, hb⟩; replace hG := hG.next hb; clear hb hz
  go_wp2_with fail
  refine (is_any _).mono ?_; rintro e wn ⟨gz, rfl, hz, hb⟩; replace hG := hG.next hb; clear hb
  go_wp2_with fail
  refine (known_7 hG.1).mono ?_; rintro e wn ⟨rfl, hb⟩; replace hG := hG.next hb; replace hz := hz.next hb; clear hb
  go_wp2_with fail
  refine (is_true hz).mono ?_; rintro e wn ⟨rfl, hb⟩; replace hG := hG.next hb; clear hb hz
  go_wp2_with fail
  refine (is_any _).mono ?_; rintro e wn ⟨gz, rfl, hz, hb⟩; replace hG := hG.next hb; clear hb
  go_wp2_with fail
  refine (known_8 hG.1).mono ?_; rintro e wn ⟨rfl, hb⟩; replace hG := hG.next hb; replace hz := hz.next hb; clear hb
  go_wp2_with fail
  refine (is_true hz).mono ?_; rintro e wn ⟨rfl, hb⟩; replace hG := hG.next hb; clear hb hz
  go_wp2_with fail
  refine (is_any _).mono ?_; rintro e wn ⟨gz, rfl, hz, hb⟩; replace hG := hG.next hb; clear hb
  go_wp2_with fail
  refine (known_9 hG.1).mono ?_; rintro e wn ⟨rfl, hb⟩; replace hG := hG.next hb; replace hz := hz.next hb; clear hb
  go_wp2_with fail
  refine (is_true hz).mono ?_; rintro e wn ⟨rfl, hb⟩; replace hG := hG.next hb; clear hb hz
  go_wp2_with fail
  refine (is_any _).mono ?_; rintro e wn ⟨gz, rfl, hz, hb⟩; replace hG := hG.next hb; clear hb
  go_wp2_with fail
  refine (known_10 hG.1).mono ?_; rintro e wn ⟨rfl, hb⟩; replace hG := hG.next hb; replace hz := hz.next hb; clear hb
  go_wp2_with fail
  refine (is_true hz).mono ?_; rintro e wn ⟨rfl, hb⟩; replace hG := hG.next hb; clear hb hz
  go_wp2_with fail
  refine (is_any _).mono ?_; rintro e wn ⟨gz, rfl, hz, hb⟩; replace hG := hG.next hb; clear hb
  go_wp2_with fail
  refine (known_11 hG.1).mono ?_; rintro e wn ⟨rfl, hb⟩; replace hG := hG.next hb; replace hz := hz.next hb; clear hb
  go_wp2_with fail
  refine (is_true hz).mono ?_; rintro e wn ⟨rfl, hb⟩; replace hG := hG.next hb; clear hb hz
  go_wp2_with fail
  refine (is_any _).mono ?_; rintro e wn ⟨gz, rfl, hz, hb⟩; replace hG := hG.next hb; clear hb
  go_wp2_with fail
  refine (known_12 hG.1).mono ?_; rintro e wn ⟨rfl, hb⟩; replace hG := hG.next hb; replace hz := hz.next hb; clear hb
  go_wp2_with fail
  refine (is_true hz).mono ?_; rintro e wn ⟨rfl, hb⟩; replace hG := hG.next hb; clear hb hz
  go_wp2_with fail
  refine (is_any _).mono ?_; rintro e wn ⟨gz, rfl, hz, hb⟩; replace hG := hG.next hb; clear hb
  go_wp2_with fail
  refine (known_13 hG.1).mono ?_; rintro e wn ⟨rfl, hb⟩; replace hG := hG.next hb; replace hz := hz.next hb; clear hb
  go_wp2_with fail
  refine (is_true hz).mono ?_; rintro e wn ⟨rfl, hb⟩; replace hG := hG.next hb; clear hb hz
  go_wp2_with fail
  refine (fails_any _).mono ?_; rintro e wn ⟨gz, rfl, hz, hb⟩; replace hG := hG.next hb; clear hb
  go_wp2_with fail
  refine (known_14 hG.1).mono ?_; rintro e wn ⟨rfl, hb⟩; replace hG := hG.next hb; replace hz := hz.next hb; clear hb
  go_wp2_with fail
  refine (fails_true hz).mono ?_; rintro e wn ⟨rfl, hb⟩; replace hG := hG.next hb; clear hb hz
  go_wp2_with fail
  refine (fails_any _).mono ?_; rintro e wn ⟨gz, rfl, hz, hb⟩; replace hG := hG.next hb; clear hb
  go_wp2_with fail
  refine (known_15 hG.1).mono ?_; rintro e wn ⟨rfl, hb⟩; replace hG := hG.next hb; replace hz := hz.next hb; clear hb
  go_wp2_with fail
  refine (fails_true hz).mono ?_; rintro e wn ⟨rfl, hb⟩; replace hG := hG.next hb; clear hb hz
  go_wp2_with fail
  refine (fails_any _).mono ?_; rintro e wn ⟨gz, rfl, hz, hb⟩; replace hG := hG.next hb; clear hb
  go_wp2_with fail
  refine (known_16 hG.1).mono ?_; rintro e wn ⟨rfl, hb⟩; replace hG := hG.next hb; replace hz := hz.next hb; clear hb
  go_wp2_with fail
  refine (fails_true hz).mono ?_; rintro e wn ⟨rfl, hb⟩; replace hG := hG.next hb; clear hb hz
  go_wp2_with fail
  refine (fails_any _).mono ?_; rintro e wn ⟨gz, rfl, hz, hb⟩; replace hG := hG.next hb; clear hb
  go_wp2_with fail
  refine (known_17 hG.1).mono ?_; rintro e wn ⟨rfl, hb⟩; replace hG := hG.next hb; replace hz := hz.next hb; clear hb
  go_wp2_with fail
  refine (fails_true hz).mono ?_; rintro e wn ⟨rfl, hb⟩; replace hG := hG.next hb; clear hb hz
  go_wp2_with fail
  refine (fails_any _).mono ?_; rintro e wn ⟨gz, rfl, hz, hb⟩; replace hG := hG.next hb; clear hb
  go_wp2_with fail
  refine (known_18 hG.1).mono ?_; rintro e wn ⟨rfl, hb⟩; replace hG := hG.next hb; replace hz := hz.next hb; clear hb
  go_wp2_with fail
  refine (fails_true hz).mono ?_; rintro e wn ⟨rfl, hb⟩; replace hG := hG.next hb; clear hb hz
  go_wp2_with fail
  refine (fails_any _).mono ?_; rintro e wn ⟨gz, rfl, hz, hb⟩; replace hG := hG.next hb; clear hb
  go_wp2_with fail
  refine (known_19 hG.1).mono ?_; rintro e wn ⟨rfl, hb⟩; replace hG := hG.next hb; replace hz := hz.next hb; clear hb
  go_wp2_with fail
  refine (fails_true hz).mono ?_; rintro e wn ⟨rfl, hb⟩; replace hG := hG.next hb; clear hb hz
  go_wp2_with fail
  go_ret
  exact ⟨rfl, hG.2⟩

end Go.Proofs.YtmhneibcbjgedaaGreatDoor
