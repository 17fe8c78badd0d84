/- The statement TailKnown, walked. -/
import Derived.Test.YtmhneibcbjgedaaGreatDoorTWorks
set_option linter.unusedSimpArgs false
set_option linter.unusedVariables false
namespace Go.Proofs.YtmhneibcbjgedaaGreatDoor
open Go.RowKit

set_option maxHeartbeats 4000000 in
set_option maxRecDepth 100000 in
theorem known_any {w : World} (hg : Good w) : Calls Tryz.prog 3 #[] w (RetV w (.bool true)) := by
  obtain ⟨T, hT, hbig⟩ := known_big
  have hG : Gd w w := ⟨hg, Below.refl _ _⟩
  clear hg
  go_enter Tryz.func3, Tryz.ntmps3
  go_wp2_with fail
  refine (works_any hG.1).mono ?_; rintro e wn ⟨rfl, hb⟩; replace hG := hG.next hb; clear hb
  go_wp2_with fail
  refine (known_20 hG.1).mono ?_; rintro e wn ⟨rfl, hb⟩; replace hG := hG.next hb; clear hb
  go_wp2_with fail
  refine (known_21 hG.1).mono ?_; rintro e wn ⟨rfl, hb⟩; replace hG := hG.next hb; clear hb
  go_wp2_with fail
  refine (known_22 hG.1).mono ?_; rintro e wn ⟨rfl, hb⟩; replace hG := hG.next hb; clear hb
  go_wp2_with fail
  refine (hbig _ hG.1).mono ?_; rintro e wn ⟨rfl, hb⟩; replace hG := hG.next hb; clear hb
  go_wp2_with fail
  refine (fails_any _).mono ?_; rintro e wn ⟨gz, rfl, hz, hb⟩; replace hG := hG.next hb; clear hb
  go_wp2_with fail
  refine (known_23 hG.1).mono ?_; rintro e wn ⟨rfl, hb⟩; replace hG := hG.next hb; replace hz := hz.next hb; clear hb
  go_wp2_with fail
  refine (fails_true hz).mono ?_; rintro e wn ⟨rfl, hb⟩; replace hG := hG.next hb; clear hb hz
  go_wp2_with fail
  refine (fails_any _).mono ?_; rintro e wn ⟨gz, rfl, hz, hb⟩; replace hG := hG.next hb; clear hb
  go_wp2_with fail
  refine (known_24 hG.1).mono ?_; rintro e wn ⟨rfl, hb⟩; replace hG := hG.next hb; replace hz := hz.next hb; clear hb
  go_wp2_with fail
  refine (fails_true hz).mono ?_; rintro e wn ⟨rfl, hb⟩; replace hG := hG.next hb; clear hb hz
  go_wp2_with fail
  refine (fails_any _).mono ?_; rintro e wn ⟨gz, rfl, hz, hb⟩; replace hG := hG.next hb; clear hb
  go_wp2_with fail
  refine (known_25 hG.1).mono ?_; rintro e wn ⟨rfl, hb⟩; replace hG := hG.next hb; replace hz := hz.next hb; clear hb
  go_wp2_with fail
  refine (fails_true hz).mono ?_; rintro e wn ⟨rfl, hb⟩; replace hG := hG.next hb; clear hb hz
  go_wp2_with fail
  refine (fails_any _).mono ?_; rintro e wn ⟨gz, rfl, hz, hb⟩; replace hG := hG.next hb; clear hb
  go_wp2_with fail
  refine (known_26 hG.1).mono ?_; rintro e wn ⟨rfl, hb⟩; replace hG := hG.next hb; replace hz := hz.next hb; clear hb
  go_wp2_with fail
  refine (fails_true hz).mono ?_; rintro e wn ⟨rfl, hb⟩; replace hG := hG.next hb; clear hb hz
  go_wp2_with fail
  refine (fails_any _).mono ?_; rintro e wn ⟨gz, rfl, hz, hb⟩; replace hG := hG.next hb; clear hb
  go_wp2_with fail
  refine (known_27 hG.1).mono ?_; rintro e wn ⟨rfl, hb⟩; replace hG := hG.next hb; replace hz := hz.next hb; clear hb
  go_wp2_with fail
  refine (fails_true hz).mono ?_; rintro e wn ⟨rfl, hb⟩; replace hG := hG.next hb; clear hb hz
  go_wp2_with fail
  refine (fails_any _).mono ?_; rintro e wn ⟨gz, rfl, hz, hb⟩; replace hG := hG.next hb; clear hb
  go_wp2_with fail
  refine (known_28 hG.1).mono ?_; rintro e wn ⟨rfl, hb⟩; replace hG := hG.next hb; replace hz := hz.next hb; clear hb
  go_wp2_with fail
  refine (fails_true hz).mono ?_; rintro e wn ⟨rfl, hb⟩; replace hG := hG.next hb; clear hb hz
  go_wp2_with fail
  refine (fails_any _).mono ?_; rintro e wn ⟨gz, rfl, hz, hb⟩; replace hG := hG.next hb; clear hb
  go_wp2_with fail
  refine (known_29 hG.1).mono ?_; rintro e wn ⟨rfl, hb⟩; replace hG := hG.next hb; replace hz := hz.next hb; clear hb
  go_wp2_with fail
  refine (fails_true hz).mono ?_; rintro e wn ⟨rfl, hb⟩; replace hG := hG.next hb; clear hb hz
  go_wp2_with fail
  refine (fails_any _).mono ?_; rintro e wn ⟨gz, rfl, hz, hb⟩; replace hG := hG.next hb; clear hb
  go_wp2_with fail
  refine (known_30 hG.1).mono ?_; rintro e wn ⟨rfl, hb⟩; replace hG := hG.next hb; replace hz := hz.next hb; clear hb
  go_wp2_with fail
  refine (fails_true hz).mono ?_; rintro e wn ⟨rfl, hb⟩; replace hG := hG.next hb; clear hb hz
  go_wp2_with fail
  refine (is_any _).mono ?_; rintro e wn ⟨gz, rfl, hz, hb⟩; replace hG := hG.next hb; clear hb
  go_wp2_with fail
  refine (known_31 hG.1).mono ?_; rintro e wn ⟨rfl, hb⟩; replace hG := hG.next hb; replace hz := hz.next hb; clear hb
  go_wp2_with fail
  refine (is_true hz).mono ?_; rintro e wn ⟨rfl, hb⟩; replace hG := hG.next hb; clear hb hz
  go_wp2_with fail
  refine (is_any _).mono ?_; rintro e wn ⟨gz, rfl, hz, hb⟩; replace hG := hG.next hb; clear hb
  go_wp2_with fail
  refine (known_32 hG.1).mono ?_; rintro e wn ⟨rfl, hb⟩; replace hG := hG.next hb; replace hz := hz.next hb; clear hb
  go_wp2_with fail
  refine (is_true hz).mono ?_; rintro e wn ⟨rfl, hb⟩; replace hG := hG.next hb; clear hb hz
  go_wp2_with fail
  refine (is_any _).mono ?_; rintro e wn ⟨gz, rfl, hz, hb⟩; replace hG := hG.next hb; clear hb
  go_wp2_with fail
  refine (known_33 hG.1).mono ?_; rintro e wn ⟨rfl, hb⟩; replace hG := hG.next hb; replace hz := hz.next hb; clear hb
  go_wp2_with fail
  refine (is_true hz).mono ?_; rintro e wn ⟨rfl, hb⟩; replace hG := hG.next hb; clear hb hz
  go_wp2_with fail
  refine (is_any _).mono ?_; rintro e wn ⟨gz, rfl, hz, hb⟩; replace hG := hG.next hb; clear hb
  go_wp2_with fail
  refine (known_34 hG.1).mono ?_; rintro e wn ⟨rfl, hb⟩; replace hG := hG.next hb; replace hz := hz.next hb; clear hb
  go_wp2_with fail
  refine (is_true hz).mono ?_; rintro e wn ⟨rfl, hb⟩; replace hG := hG.next hb; clear hb hz
  go_wp2_with fail
  refine (is_any _).mono ?_; rintro e wn ⟨gz, rfl, hz, hb⟩; replace hG := hG.next hb; clear hb
  go_wp2_with fail
  refine (known_35 hG.1).mono ?_; rintro e wn ⟨rfl, hb⟩; replace hG := hG.next hb; replace hz := hz.next hb; clear hb
  go_wp2_with fail
  refine (is_true hz).mono ?_; rintro e wn ⟨rfl, hb⟩; replace hG := hG.next hb; clear hb hz
  go_wp2_with fail
  refine (is_any _).mono ?_; rintro e wn ⟨gz, rfl, hz, hb⟩; replace hG := hG.next hb; clear hb
  go_wp2_with fail
  refine (known_36 hG.1).mono ?_; rintro e wn ⟨rfl, hb⟩; replace hG := hG.next hb; replace hz := hz.next hb; clear hb
  go_wp2_with fail
  refine (is_true hz).mono ?_; rintro e wn ⟨rfl, hb⟩; replace hG := hG.next hb; clear hb hz
  go_wp2_with fail
  refine (is_any _).mono ?_; rintro e wn ⟨gz, rfl, hz, hb⟩; replace hG := hG.next hb; clear hb
  go_wp2_with fail
  refine (known_37 hG.1).mono ?_; rintro e wn ⟨rfl, hb⟩; replace hG := hG.next hb; replace hz := hz.next hb; clear hb
  go_wp2_with fail
  refine (is_true hz).mono ?_; rintro e wn ⟨rfl, hb⟩; replace hG := hG.next hb; clear hb hz
  go_wp2_with fail
  refine (is_any _).mono ?_; rintro e wn ⟨gz, rfl, hz, hb⟩; replace hG := hG.next hb; clear hb
  go_wp2_with fail
  refine (known_38 hG.1).mono ?_; rintro e wn ⟨rfl, hb⟩; replace hG := hG.next hb; replace hz := hz.next hb; clear hb
  go_wp2_with fail
  refine (is_true hz).mono ?_; rintro e wn ⟨rfl, hb⟩; replace hG := hG.next hb; clear hb hz
  go_wp2_with fail
  refine (works_any hG.1).mono ?_; rintro e wn ⟨rfl, hb⟩; replace hG := hG.next hb; clear hb
  go_wp2_with fail
  refine (is_any _).mono ?_; rintro e wn ⟨gz, rfl, hz, hb⟩; replace hG := hG.next hb; clear hb
  go_wp2_with fail
  refine (known_39 hG.1).mono ?_; rintro e wn ⟨rfl, hb⟩; replace hG := hG.next hb; replace hz := hz.next hb; clear hb
  go_wp2_with fail
  refine (is_true hz).mono ?_; rintro e wn ⟨rfl, hb⟩; replace hG := hG.next hb; clear hb hz
  go_wp2_with fail
  go_ret
  exact ⟨rfl, hG.2⟩

end Go.Proofs.YtmhneibcbjgedaaGreatDoor
