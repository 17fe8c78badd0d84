/-
  DERIVED. GIVEN WITH THE SEED: THE CARDS: each row of YtmhneibcbjgedaaGreatDoorRows.lean that lists a variable, with what it lists TIED to the program's text (the seventh form; the later family's looks); each row that meets fmt, with fmt's text TOLD by the authors' own Lean function (tested against real Go, not proved from fmt's source: count such statements apart). THE CARD IS WHAT COUNTS. Prove the row's statement (the work); the ties are given (YtmhneibcbjgedaaGreatDoorTie.lean); close each card by the builder's one call (the guide's Derived/Test/ToyasCard.lean, 'card_holds'). Laid BY PROGRAM, IN A SANDBOX (cutbox-door.mjs). By AI agents, Wed Nov 11 2026. No macro, syntax, notation, axiom, sorry.
-/
import Derived.Test.YtmhneibcbjgedaaGreatDoorRows
import GoSem.ClaimSeven
namespace Go.Proofs.YtmhneibcbjgedaaGreatDoor
namespace Rows

/-- THE TIED CARD OF 'croupierlaw09.TailKnown'. -/
def tailKnownCard : Claim7 := { stood := { row := tailKnownRow, standIns := [], harness := (true, "9301319d5a0094026ccbfa932605bad560ede1e5b625a763d7c31c2379bf205b"), looks := true }, kinds := [], alts := [], laidByText := true, laidKinds := [.data, .data, .data, .sentinel, .sentinel], laidTests := true, laidLooks := .later }
def TailKnownCardSaid : Prop := Claim7.holds Tryz.pinned (.plain (OpenSpec.ofChange tailKnownSpec)) tailKnownCard

/-- THE TIED CARD OF 'croupierlaw09.TailChooses'. -/
def tailChoosesCard : Claim7 := { stood := { row := tailChoosesRow, standIns := [], harness := (true, "9301319d5a0094026ccbfa932605bad560ede1e5b625a763d7c31c2379bf205b"), looks := true }, kinds := [], alts := [], laidByText := true, laidKinds := [.data, .data, .data, .sentinel, .sentinel], laidTests := true, laidLooks := .later }
def TailChoosesCardSaid : Prop := Claim7.holds Tryz.pinned (.plain (OpenSpec.ofChange tailChoosesSpec)) tailChoosesCard

/-- THE TIED CARD OF 'croupierlaw09.TailMasses'. -/
def tailMassesCard : Claim7 := { stood := { row := tailMassesRow, standIns := [], harness := (true, "9301319d5a0094026ccbfa932605bad560ede1e5b625a763d7c31c2379bf205b"), looks := true }, kinds := [], alts := [], laidByText := true, laidKinds := [.data, .data, .data, .sentinel, .sentinel], laidTests := true, laidLooks := .later }
def TailMassesCardSaid : Prop := Claim7.holds Tryz.pinned (.plain (OpenSpec.ofChange tailMassesSpec)) tailMassesCard

/-- THE TIED CARD OF 'croupierlaw09.TailBounds'. -/
def tailBoundsCard : Claim7 := { stood := { row := tailBoundsRow, standIns := [], harness := (true, "9301319d5a0094026ccbfa932605bad560ede1e5b625a763d7c31c2379bf205b"), looks := true }, kinds := [], alts := [], laidByText := true, laidKinds := [.data, .data, .data, .sentinel, .sentinel], laidTests := true, laidLooks := .later }
def TailBoundsCardSaid : Prop := Claim7.holds Tryz.pinned (.plain (OpenSpec.ofChange tailBoundsSpec)) tailBoundsCard

/-- THE TIED CARD OF 'croupierlaw09.TailAdds'. -/
def tailAddsCard : Claim7 := { stood := { row := tailAddsRow, standIns := [], harness := (true, "9301319d5a0094026ccbfa932605bad560ede1e5b625a763d7c31c2379bf205b"), looks := true }, kinds := [], alts := [], laidByText := true, laidKinds := [.data, .data, .data, .sentinel, .sentinel], laidTests := true, laidLooks := .later }
def TailAddsCardSaid : Prop := Claim7.holds Tryz.pinned (.plain (OpenSpec.ofChange tailAddsSpec)) tailAddsCard

/-- THE TIED CARD OF 'croupierlaw09.TailGrows'. -/
def tailGrowsCard : Claim7 := { stood := { row := tailGrowsRow, standIns := [], harness := (true, "9301319d5a0094026ccbfa932605bad560ede1e5b625a763d7c31c2379bf205b"), looks := true }, kinds := [], alts := [], laidByText := true, laidKinds := [.data, .data, .data, .sentinel, .sentinel], laidTests := true, laidLooks := .later }
def TailGrowsCardSaid : Prop := Claim7.holds Tryz.pinned (.plain (OpenSpec.ofChange tailGrowsSpec)) tailGrowsCard

/-- THE TIED CARD OF 'croupierlaw09.TailCovers'. -/
def tailCoversCard : Claim7 := { stood := { row := tailCoversRow, standIns := [], harness := (true, "9301319d5a0094026ccbfa932605bad560ede1e5b625a763d7c31c2379bf205b"), looks := true }, kinds := [], alts := [], laidByText := true, laidKinds := [.data, .data, .data, .sentinel, .sentinel], laidTests := true, laidLooks := .later }
def TailCoversCardSaid : Prop := Claim7.holds Tryz.pinned (.plain (OpenSpec.ofChange tailCoversSpec)) tailCoversCard

/-- THE SECOND FORM's CARD OF 'croupierlaw09.TailKnown'. -/
def tailKnownUptoCard : Claim7 := { stood := { row := tailKnownUptoRow, standIns := [], harness := (true, "9301319d5a0094026ccbfa932605bad560ede1e5b625a763d7c31c2379bf205b"), looks := true }, kinds := [], alts := [], laidByText := true, laidKinds := [.data, .data, .data, .sentinel, .sentinel], laidTests := true, laidLooks := .later }
def TailKnownUptoCardSaid : Prop := Claim7.holds Tryz.pinned (.plain (OpenSpec.upto tailKnownSpec)) tailKnownUptoCard

/-- THE SECOND FORM's CARD OF 'croupierlaw09.TailChooses'. -/
def tailChoosesUptoCard : Claim7 := { stood := { row := tailChoosesUptoRow, standIns := [], harness := (true, "9301319d5a0094026ccbfa932605bad560ede1e5b625a763d7c31c2379bf205b"), looks := true }, kinds := [], alts := [], laidByText := true, laidKinds := [.data, .data, .data, .sentinel, .sentinel], laidTests := true, laidLooks := .later }
def TailChoosesUptoCardSaid : Prop := Claim7.holds Tryz.pinned (.plain (OpenSpec.upto tailChoosesSpec)) tailChoosesUptoCard

/-- THE SECOND FORM's CARD OF 'croupierlaw09.TailMasses'. -/
def tailMassesUptoCard : Claim7 := { stood := { row := tailMassesUptoRow, standIns := [], harness := (true, "9301319d5a0094026ccbfa932605bad560ede1e5b625a763d7c31c2379bf205b"), looks := true }, kinds := [], alts := [], laidByText := true, laidKinds := [.data, .data, .data, .sentinel, .sentinel], laidTests := true, laidLooks := .later }
def TailMassesUptoCardSaid : Prop := Claim7.holds Tryz.pinned (.plain (OpenSpec.upto tailMassesSpec)) tailMassesUptoCard

/-- THE SECOND FORM's CARD OF 'croupierlaw09.TailBounds'. -/
def tailBoundsUptoCard : Claim7 := { stood := { row := tailBoundsUptoRow, standIns := [], harness := (true, "9301319d5a0094026ccbfa932605bad560ede1e5b625a763d7c31c2379bf205b"), looks := true }, kinds := [], alts := [], laidByText := true, laidKinds := [.data, .data, .data, .sentinel, .sentinel], laidTests := true, laidLooks := .later }
def TailBoundsUptoCardSaid : Prop := Claim7.holds Tryz.pinned (.plain (OpenSpec.upto tailBoundsSpec)) tailBoundsUptoCard

/-- THE SECOND FORM's CARD OF 'croupierlaw09.TailAdds'. -/
def tailAddsUptoCard : Claim7 := { stood := { row := tailAddsUptoRow, standIns := [], harness := (true, "9301319d5a0094026ccbfa932605bad560ede1e5b625a763d7c31c2379bf205b"), looks := true }, kinds := [], alts := [], laidByText := true, laidKinds := [.data, .data, .data, .sentinel, .sentinel], laidTests := true, laidLooks := .later }
def TailAddsUptoCardSaid : Prop := Claim7.holds Tryz.pinned (.plain (OpenSpec.upto tailAddsSpec)) tailAddsUptoCard

/-- THE SECOND FORM's CARD OF 'croupierlaw09.TailGrows'. -/
def tailGrowsUptoCard : Claim7 := { stood := { row := tailGrowsUptoRow, standIns := [], harness := (true, "9301319d5a0094026ccbfa932605bad560ede1e5b625a763d7c31c2379bf205b"), looks := true }, kinds := [], alts := [], laidByText := true, laidKinds := [.data, .data, .data, .sentinel, .sentinel], laidTests := true, laidLooks := .later }
def TailGrowsUptoCardSaid : Prop := Claim7.holds Tryz.pinned (.plain (OpenSpec.upto tailGrowsSpec)) tailGrowsUptoCard

/-- THE SECOND FORM's CARD OF 'croupierlaw09.TailCovers'. -/
def tailCoversUptoCard : Claim7 := { stood := { row := tailCoversUptoRow, standIns := [], harness := (true, "9301319d5a0094026ccbfa932605bad560ede1e5b625a763d7c31c2379bf205b"), looks := true }, kinds := [], alts := [], laidByText := true, laidKinds := [.data, .data, .data, .sentinel, .sentinel], laidTests := true, laidLooks := .later }
def TailCoversUptoCardSaid : Prop := Claim7.holds Tryz.pinned (.plain (OpenSpec.upto tailCoversSpec)) tailCoversUptoCard
end Rows
end Go.Proofs.YtmhneibcbjgedaaGreatDoor
