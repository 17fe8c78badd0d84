/- RatioKnown answers true. -/
import Derived.Test.YtabdnjakmhnnfaaGreatDoorQKnown0
set_option linter.unusedSimpArgs false
set_option linter.unusedVariables false
namespace Go.Proofs.YtabdnjakmhnnfaaGreatDoor
open Go.RowKit

set_option maxHeartbeats 16000000 in
set_option maxRecDepth 100000 in
theorem ratioKnown_any {w : World} (hg : Good w) : Calls Tryz.prog 3 #[] w (RetV w (.bool true)) := by
  have hG : Hid (Gd w w) := Lib.hid ⟨hg, Below.refl _ _⟩
  clear hg
  have HR9 := Lib.hid (fun (V : World) => rep_nine (w := V))
  have HR0 := Lib.hid (fun (V : World) => rep_zero (w := V))
  have H2 := Lib.hid two_is
  have hs0 := rep_size
  have hsN := NT_size
  have HK27 := Lib.hid (fun (V : World) (hV : Good V) => known_27 (w := V) hV)
  have HK28 := Lib.hid (fun (V : World) (hV : Good V) => known_28 (w := V) hV)
  have HK29 := Lib.hid (fun (V : World) (hV : Good V) => known_29 (w := V) hV)
  have HK30 := Lib.hid (fun (V : World) (hV : Good V) => known_30 (w := V) hV)
  have HK31 := Lib.hid (fun (V : World) (hV : Good V) => known_31 (w := V) hV)
  have HK36 := Lib.hid (fun (V : World) (hV : Good V) => known_36 (w := V) hV)
  have HK37 := Lib.hid (fun (V : World) (hV : Good V) => known_37 (w := V) hV)
  have HK38 := Lib.hid (fun (V : World) (hV : Good V) => known_38 (w := V) hV)
  generalize NT = nt at *
  generalize TT = tt at *
  generalize (⟨(Lib.repeatL [48] 1999).toArray⟩ : ByteArray) = zt at *
  go_enter Tryz.func3, Tryz.ntmps3
  go_wp2_with fail
  refine (works_any hG.out.1).mono ?_; rintro e wn ⟨rfl, hb⟩; replace hG := Lib.hid (hG.out.next hb); clear hb
  go_wp2_with fail
  refine (HR9.out _).mono ?_; rintro e wn ⟨rfl, hb⟩; replace hG := Lib.hid (hG.out.next hb); clear hb
  go_wp2_with fail
  refine (HR0.out _).mono ?_; rintro e wn ⟨rfl, hb⟩; replace hG := Lib.hid (hG.out.next hb); clear hb
  go_upto_region 5 with fail
  rw [H2.out]
  go_wp2_with fail
  refine (HK27.out _ hG.out.1).mono ?_; rintro e wn ⟨rfl, hb⟩; replace hG := Lib.hid (hG.out.next hb); clear hb
  go_wp2_with fail
  refine (HK28.out _ hG.out.1).mono ?_; rintro e wn ⟨rfl, hb⟩; replace hG := Lib.hid (hG.out.next hb); clear hb
  go_wp2_with fail
  refine (HK29.out _ hG.out.1).mono ?_; rintro e wn ⟨rfl, hb⟩; replace hG := Lib.hid (hG.out.next hb); clear hb
  go_wp2_with fail
  refine (HK30.out _ hG.out.1).mono ?_; rintro e wn ⟨rfl, hb⟩; replace hG := Lib.hid (hG.out.next hb); clear hb
  go_wp2_with fail
  refine (HK31.out _ hG.out.1).mono ?_; rintro e wn ⟨rfl, hb⟩; replace hG := Lib.hid (hG.out.next hb); clear hb
  go_wp2_with fail
  refine (known_32 hG.out.1).mono ?_; rintro e wn ⟨rfl, hb⟩; replace hG := Lib.hid (hG.out.next hb); clear hb
  go_wp2_with fail
  refine (known_33 hG.out.1).mono ?_; rintro e wn ⟨rfl, hb⟩; replace hG := Lib.hid (hG.out.next hb); clear hb
  go_wp2_with fail
  refine (known_34 hG.out.1).mono ?_; rintro e wn ⟨rfl, hb⟩; replace hG := Lib.hid (hG.out.next hb); clear hb
  go_wp2_with fail
  refine (known_35 hG.out.1).mono ?_; rintro e wn ⟨rfl, hb⟩; replace hG := Lib.hid (hG.out.next hb); clear hb
  go_wp2_with fail
  refine (fails_any _).mono ?_; rintro e wn ⟨gz, rfl, hz, hb⟩; replace hG := Lib.hid (hG.out.next hb); clear hb; replace hz := Lib.hid hz
  go_wp2_with fail
  refine (HK36.out _ hG.out.1).mono ?_; rintro e wn ⟨rfl, hb⟩; replace hG := Lib.hid (hG.out.next hb); replace hz := Lib.hid (hz.out.next hb); clear hb
  go_wp2_with fail
  refine (fails_true hz.out).mono ?_; rintro e wn ⟨rfl, hb⟩; replace hG := Lib.hid (hG.out.next hb); clear hb hz
  go_wp2_with fail
  refine (is_any _).mono ?_; rintro e wn ⟨gz, rfl, hz, hb⟩; replace hG := Lib.hid (hG.out.next hb); clear hb; replace hz := Lib.hid hz
  go_wp2_with fail
  refine (HK37.out _ hG.out.1).mono ?_; rintro e wn ⟨rfl, hb⟩; replace hG := Lib.hid (hG.out.next hb); replace hz := Lib.hid (hz.out.next hb); clear hb
  go_wp2_with fail
  refine (is_true hz.out).mono ?_; rintro e wn ⟨rfl, hb⟩; replace hG := Lib.hid (hG.out.next hb); clear hb hz
  go_wp2_with fail
  refine (fails_any _).mono ?_; rintro e wn ⟨gz, rfl, hz, hb⟩; replace hG := Lib.hid (hG.out.next hb); clear hb; replace hz := Lib.hid hz
  go_wp2_with fail
  refine (HK38.out _ hG.out.1).mono ?_; rintro e wn ⟨rfl, hb⟩; replace hG := Lib.hid (hG.out.next hb); replace hz := Lib.hid (hz.out.next hb); clear hb
  go_wp2_with fail
  refine (fails_true hz.out).mono ?_; rintro e wn ⟨rfl, hb⟩; replace hG := Lib.hid (hG.out.next hb); clear hb hz
  go_wp2_with fail
  refine (fails_any _).mono ?_; rintro e wn ⟨gz, rfl, hz, hb⟩; replace hG := Lib.hid (hG.out.next hb); clear hb; replace hz := Lib.hid hz
  go_wp2_with fail
  refine (known_39 hG.out.1).mono ?_; rintro e wn ⟨rfl, hb⟩; replace hG := Lib.hid (hG.out.next hb); replace hz := Lib.hid (hz.out.next hb); clear hb
  go_wp2_with fail
  refine (fails_true hz.out).mono ?_; rintro e wn ⟨rfl, hb⟩; replace hG := Lib.hid (hG.out.next hb); clear hb hz
  go_wp2_with fail
  refine (is_any _).mono ?_; rintro e wn ⟨gz, rfl, hz, hb⟩; replace hG := Lib.hid (hG.out.next hb); clear hb; replace hz := Lib.hid hz
  go_wp2_with fail
  refine (known_40 hG.out.1).mono ?_; rintro e wn ⟨rfl, hb⟩; replace hG := Lib.hid (hG.out.next hb); replace hz := Lib.hid (hz.out.next hb); clear hb
  go_wp2_with fail
  refine (is_true hz.out).mono ?_; rintro e wn ⟨rfl, hb⟩; replace hG := Lib.hid (hG.out.next hb); clear hb hz
  go_wp2_with fail
  refine (is_any _).mono ?_; rintro e wn ⟨gz, rfl, hz, hb⟩; replace hG := Lib.hid (hG.out.next hb); clear hb; replace hz := Lib.hid hz
  go_wp2_with fail
  refine (known_41 hG.out.1).mono ?_; rintro e wn ⟨rfl, hb⟩; replace hG := Lib.hid (hG.out.next hb); replace hz := Lib.hid (hz.out.next hb); clear hb
  go_wp2_with fail
  refine (is_true hz.out).mono ?_; rintro e wn ⟨rfl, hb⟩; replace hG := Lib.hid (hG.out.next hb); clear hb hz
  go_wp2_with fail
  refine (fails_any _).mono ?_; rintro e wn ⟨gz, rfl, hz, hb⟩; replace hG := Lib.hid (hG.out.next hb); clear hb; replace hz := Lib.hid hz
  go_wp2_with fail
  refine (known_42 hG.out.1).mono ?_; rintro e wn ⟨rfl, hb⟩; replace hG := Lib.hid (hG.out.next hb); replace hz := Lib.hid (hz.out.next hb); clear hb
  go_wp2_with fail
  refine (fails_true hz.out).mono ?_; rintro e wn ⟨rfl, hb⟩; replace hG := Lib.hid (hG.out.next hb); clear hb hz
  go_wp2_with fail
  refine (is_any _).mono ?_; rintro e wn ⟨gz, rfl, hz, hb⟩; replace hG := Lib.hid (hG.out.next hb); clear hb; replace hz := Lib.hid hz
  go_wp2_with fail
  refine (known_43 hG.out.1).mono ?_; rintro e wn ⟨rfl, hb⟩; replace hG := Lib.hid (hG.out.next hb); replace hz := Lib.hid (hz.out.next hb); clear hb
  go_wp2_with fail
  refine (is_true hz.out).mono ?_; rintro e wn ⟨rfl, hb⟩; replace hG := Lib.hid (hG.out.next hb); clear hb hz
  go_wp2_with fail
  refine (fails_any _).mono ?_; rintro e wn ⟨gz, rfl, hz, hb⟩; replace hG := Lib.hid (hG.out.next hb); clear hb; replace hz := Lib.hid hz
  go_wp2_with fail
  refine (known_44 hG.out.1).mono ?_; rintro e wn ⟨rfl, hb⟩; replace hG := Lib.hid (hG.out.next hb); replace hz := Lib.hid (hz.out.next hb); clear hb
  go_wp2_with fail
  refine (fails_true hz.out).mono ?_; rintro e wn ⟨rfl, hb⟩; replace hG := Lib.hid (hG.out.next hb); clear hb hz
  go_wp2_with fail
  refine (fails_any _).mono ?_; rintro e wn ⟨gz, rfl, hz, hb⟩; replace hG := Lib.hid (hG.out.next hb); clear hb; replace hz := Lib.hid hz
  go_wp2_with fail
  refine (known_45 hG.out.1).mono ?_; rintro e wn ⟨rfl, hb⟩; replace hG := Lib.hid (hG.out.next hb); replace hz := Lib.hid (hz.out.next hb); clear hb
  go_wp2_with fail
  refine (fails_true hz.out).mono ?_; rintro e wn ⟨rfl, hb⟩; replace hG := Lib.hid (hG.out.next hb); clear hb hz
  go_wp2_with fail
  refine (fails_any _).mono ?_; rintro e wn ⟨gz, rfl, hz, hb⟩; replace hG := Lib.hid (hG.out.next hb); clear hb; replace hz := Lib.hid hz
  go_wp2_with fail
  refine (known_46 hG.out.1).mono ?_; rintro e wn ⟨rfl, hb⟩; replace hG := Lib.hid (hG.out.next hb); replace hz := Lib.hid (hz.out.next hb); clear hb
  go_wp2_with fail
  refine (fails_true hz.out).mono ?_; rintro e wn ⟨rfl, hb⟩; replace hG := Lib.hid (hG.out.next hb); clear hb hz
  go_wp2_with fail
  refine (fails_any _).mono ?_; rintro e wn ⟨gz, rfl, hz, hb⟩; replace hG := Lib.hid (hG.out.next hb); clear hb; replace hz := Lib.hid hz
  go_wp2_with fail
  refine (known_47 hG.out.1).mono ?_; rintro e wn ⟨rfl, hb⟩; replace hG := Lib.hid (hG.out.next hb); replace hz := Lib.hid (hz.out.next hb); clear hb
  go_wp2_with fail
  refine (fails_true hz.out).mono ?_; rintro e wn ⟨rfl, hb⟩; replace hG := Lib.hid (hG.out.next hb); clear hb hz
  go_wp2_with fail
  refine (fails_any _).mono ?_; rintro e wn ⟨gz, rfl, hz, hb⟩; replace hG := Lib.hid (hG.out.next hb); clear hb; replace hz := Lib.hid hz
  go_wp2_with fail
  refine (known_48 hG.out.1).mono ?_; rintro e wn ⟨rfl, hb⟩; replace hG := Lib.hid (hG.out.next hb); replace hz := Lib.hid (hz.out.next hb); clear hb
  go_wp2_with fail
  refine (fails_true hz.out).mono ?_; rintro e wn ⟨rfl, hb⟩; replace hG := Lib.hid (hG.out.next hb); clear hb hz
  go_wp2_with fail
  refine (fails_any _).mono ?_; rintro e wn ⟨gz, rfl, hz, hb⟩; replace hG := Lib.hid (hG.out.next hb); clear hb; replace hz := Lib.hid hz
  go_wp2_with fail
  refine (known_49 hG.out.1).mono ?_; rintro e wn ⟨rfl, hb⟩; replace hG := Lib.hid (hG.out.next hb); replace hz := Lib.hid (hz.out.next hb); clear hb
  go_wp2_with fail
  refine (fails_true hz.out).mono ?_; rintro e wn ⟨rfl, hb⟩; replace hG := Lib.hid (hG.out.next hb); clear hb hz
  go_wp2_with fail
  refine (fails_any _).mono ?_; rintro e wn ⟨gz, rfl, hz, hb⟩; replace hG := Lib.hid (hG.out.next hb); clear hb; replace hz := Lib.hid hz
  go_wp2_with fail
  refine (known_50 hG.out.1).mono ?_; rintro e wn ⟨rfl, hb⟩; replace hG := Lib.hid (hG.out.next hb); replace hz := Lib.hid (hz.out.next hb); clear hb
  go_wp2_with fail
  refine (fails_true hz.out).mono ?_; rintro e wn ⟨rfl, hb⟩; replace hG := Lib.hid (hG.out.next hb); clear hb hz
  go_wp2_with fail
  refine (fails_any _).mono ?_; rintro e wn ⟨gz, rfl, hz, hb⟩; replace hG := Lib.hid (hG.out.next hb); clear hb; replace hz := Lib.hid hz
  go_wp2_with fail
  refine (known_51 hG.out.1).mono ?_; rintro e wn ⟨rfl, hb⟩; replace hG := Lib.hid (hG.out.next hb); replace hz := Lib.hid (hz.out.next hb); clear hb
  go_wp2_with fail
  refine (fails_true hz.out).mono ?_; rintro e wn ⟨rfl, hb⟩; replace hG := Lib.hid (hG.out.next hb); clear hb hz
  go_wp2_with fail
  refine (is_any _).mono ?_; rintro e wn ⟨gz, rfl, hz, hb⟩; replace hG := Lib.hid (hG.out.next hb); clear hb; replace hz := Lib.hid hz
  go_wp2_with fail
  refine (known_52 hG.out.1).mono ?_; rintro e wn ⟨rfl, hb⟩; replace hG := Lib.hid (hG.out.next hb); replace hz := Lib.hid (hz.out.next hb); clear hb
  go_wp2_with fail
  refine (is_true hz.out).mono ?_; rintro e wn ⟨rfl, hb⟩; replace hG := Lib.hid (hG.out.next hb); clear hb hz
  go_wp2_with fail
  refine (is_any _).mono ?_; rintro e wn ⟨gz, rfl, hz, hb⟩; replace hG := Lib.hid (hG.out.next hb); clear hb; replace hz := Lib.hid hz
  go_wp2_with fail
  refine (known_53 hG.out.1).mono ?_; rintro e wn ⟨rfl, hb⟩; replace hG := Lib.hid (hG.out.next hb); replace hz := Lib.hid (hz.out.next hb); clear hb
  go_wp2_with fail
  refine (is_true hz.out).mono ?_; rintro e wn ⟨rfl, hb⟩; replace hG := Lib.hid (hG.out.next hb); clear hb hz
  go_wp2_with fail
  refine (known_54 hG.out.1).mono ?_; rintro e wn ⟨rfl, hb⟩; replace hG := Lib.hid (hG.out.next hb); clear hb
  go_wp2_with fail
  refine (works_any hG.out.1).mono ?_; rintro e wn ⟨rfl, hb⟩; replace hG := Lib.hid (hG.out.next hb); clear hb
  go_wp2_with fail
  refine (known_55 hG.out.1).mono ?_; rintro e wn ⟨rfl, hb⟩; replace hG := Lib.hid (hG.out.next hb); clear hb
  go_wp2_with fail
  refine (known_56 hG.out.1).mono ?_; rintro e wn ⟨rfl, hb⟩; replace hG := Lib.hid (hG.out.next hb); clear hb
  go_wp2_with fail
  refine (known_57 hG.out.1).mono ?_; rintro e wn ⟨rfl, hb⟩; replace hG := Lib.hid (hG.out.next hb); clear hb
  go_wp2_with fail
  refine (says_any _).mono ?_; rintro e wn ⟨gz, rfl, hz, hb⟩; replace hG := Lib.hid (hG.out.next hb); clear hb; replace hz := Lib.hid hz
  go_wp2_with fail
  refine (known_58 hG.out.1).mono ?_; rintro e wn ⟨rfl, hb⟩; replace hG := Lib.hid (hG.out.next hb); replace hz := Lib.hid (hz.out.next hb); clear hb
  go_wp2_with fail
  refine (says_true hz.out).mono ?_; rintro e wn ⟨rfl, hb⟩; replace hG := Lib.hid (hG.out.next hb); clear hb hz
  go_wp2_with fail
  refine (says_any _).mono ?_; rintro e wn ⟨gz, rfl, hz, hb⟩; replace hG := Lib.hid (hG.out.next hb); clear hb; replace hz := Lib.hid hz
  go_wp2_with fail
  refine (known_59 hG.out.1).mono ?_; rintro e wn ⟨rfl, hb⟩; replace hG := Lib.hid (hG.out.next hb); replace hz := Lib.hid (hz.out.next hb); clear hb
  go_wp2_with fail
  refine (says_true hz.out).mono ?_; rintro e wn ⟨rfl, hb⟩; replace hG := Lib.hid (hG.out.next hb); clear hb hz
  go_wp2_with fail
  refine (says_any _).mono ?_; rintro e wn ⟨gz, rfl, hz, hb⟩; replace hG := Lib.hid (hG.out.next hb); clear hb; replace hz := Lib.hid hz
  go_wp2_with fail
  refine (known_60 hG.out.1).mono ?_; rintro e wn ⟨rfl, hb⟩; replace hG := Lib.hid (hG.out.next hb); replace hz := Lib.hid (hz.out.next hb); clear hb
  go_wp2_with fail
  refine (says_true hz.out).mono ?_; rintro e wn ⟨rfl, hb⟩; replace hG := Lib.hid (hG.out.next hb); clear hb hz
  go_wp2
  go_ret
  exact ⟨rfl, hG.out.2⟩
end Go.Proofs.YtabdnjakmhnnfaaGreatDoor
