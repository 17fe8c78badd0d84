/-
  DERIVED. GIVEN WITH THE SEED: THE CARDS: each row of YtfjjdjhnodcfhaaGreatDoorRows.lean that lists a variable, with what it lists TIED to the program's text (the seventh form; the later family's looks); each row that meets fmt, with fmt's text TOLD by the authors' own Lean function (tested against real Go, not proved from fmt's source: count such statements apart). THE CARD IS WHAT COUNTS. Prove the row's statement (the work); the ties are given (YtfjjdjhnodcfhaaGreatDoorTie.lean); close each card by the builder's one call (the guide's Derived/Test/ToyasCard.lean, 'card_holds'). Laid BY PROGRAM, IN A SANDBOX (cutbox-door.mjs). By AI agents, Wed Nov 11 2026. No macro, syntax, notation, axiom, sorry.
-/
import Derived.Test.YtfjjdjhnodcfhaaGreatDoorRows
import GoSem.ClaimSeven
namespace Go.Proofs.YtfjjdjhnodcfhaaGreatDoor
namespace Rows

/-- THE TIED CARD OF 'croupierlaw10.DrawKnown'. -/
def drawKnownCard : Claim7 := { stood := { row := drawKnownRow, standIns := [], harness := (true, "b652cb969671c6707b76dd5c23c44c153739d32307000f129f3a5159c3c6cc36"), looks := true }, kinds := [], alts := [], laidByText := true, laidKinds := [.data, .data, .data, .sentinel, .sentinel], laidTests := true, laidLooks := .later }
def DrawKnownCardSaid : Prop := Claim7.holds Tryz.pinned (.plain (OpenSpec.ofChange drawKnownSpec)) drawKnownCard

/-- THE TIED CARD OF 'croupierlaw10.DrawReads'. -/
def drawReadsCard : Claim7 := { stood := { row := drawReadsRow, standIns := [], harness := (true, "b652cb969671c6707b76dd5c23c44c153739d32307000f129f3a5159c3c6cc36"), looks := true }, kinds := [], alts := [], laidByText := true, laidKinds := [.data, .data, .data, .sentinel, .sentinel], laidTests := true, laidLooks := .later }
def DrawReadsCardSaid : Prop := Claim7.holds Tryz.pinned (.plain (OpenSpec.ofChange drawReadsSpec)) drawReadsCard

/-- THE TIED CARD OF 'croupierlaw10.DrawLaws'. -/
def drawLawsCard : Claim7 := { stood := { row := drawLawsRow, standIns := [], harness := (true, "b652cb969671c6707b76dd5c23c44c153739d32307000f129f3a5159c3c6cc36"), looks := true }, kinds := [], alts := [], laidByText := true, laidKinds := [.data, .data, .data, .sentinel, .sentinel], laidTests := true, laidLooks := .later }
def DrawLawsCardSaid : Prop := Claim7.holds Tryz.pinned (.plain (OpenSpec.ofChange drawLawsSpec)) drawLawsCard

/-- THE TIED CARD OF 'croupierlaw10.DrawKeeps'. -/
def drawKeepsCard : Claim7 := { stood := { row := drawKeepsRow, standIns := [], harness := (true, "b652cb969671c6707b76dd5c23c44c153739d32307000f129f3a5159c3c6cc36"), looks := true }, kinds := [], alts := [], laidByText := true, laidKinds := [.data, .data, .data, .sentinel, .sentinel], laidTests := true, laidLooks := .later }
def DrawKeepsCardSaid : Prop := Claim7.holds Tryz.pinned (.plain (OpenSpec.ofChange drawKeepsSpec)) drawKeepsCard

/-- THE TIED CARD OF 'croupierlaw10.DrawCounts'. -/
def drawCountsCard : Claim7 := { stood := { row := drawCountsRow, standIns := [], harness := (true, "b652cb969671c6707b76dd5c23c44c153739d32307000f129f3a5159c3c6cc36"), looks := true }, kinds := [], alts := [], laidByText := true, laidKinds := [.data, .data, .data, .sentinel, .sentinel], laidTests := true, laidLooks := .later }
def DrawCountsCardSaid : Prop := Claim7.holds Tryz.pinned (.plain (OpenSpec.ofChange drawCountsSpec)) drawCountsCard

/-- THE TIED CARD OF 'croupierlaw10.DrawNear'. -/
def drawNearCard : Claim7 := { stood := { row := drawNearRow, standIns := [], harness := (true, "b652cb969671c6707b76dd5c23c44c153739d32307000f129f3a5159c3c6cc36"), looks := true }, kinds := [], alts := [], laidByText := true, laidKinds := [.data, .data, .data, .sentinel, .sentinel], laidTests := true, laidLooks := .later }
def DrawNearCardSaid : Prop := Claim7.holds Tryz.pinned (.plain (OpenSpec.ofChange drawNearSpec)) drawNearCard

/-- THE SECOND FORM's CARD OF 'croupierlaw10.DrawKnown'. -/
def drawKnownUptoCard : Claim7 := { stood := { row := drawKnownUptoRow, standIns := [], harness := (true, "b652cb969671c6707b76dd5c23c44c153739d32307000f129f3a5159c3c6cc36"), looks := true }, kinds := [], alts := [], laidByText := true, laidKinds := [.data, .data, .data, .sentinel, .sentinel], laidTests := true, laidLooks := .later }
def DrawKnownUptoCardSaid : Prop := Claim7.holds Tryz.pinned (.plain (OpenSpec.upto drawKnownSpec)) drawKnownUptoCard

/-- THE SECOND FORM's CARD OF 'croupierlaw10.DrawReads'. -/
def drawReadsUptoCard : Claim7 := { stood := { row := drawReadsUptoRow, standIns := [], harness := (true, "b652cb969671c6707b76dd5c23c44c153739d32307000f129f3a5159c3c6cc36"), looks := true }, kinds := [], alts := [], laidByText := true, laidKinds := [.data, .data, .data, .sentinel, .sentinel], laidTests := true, laidLooks := .later }
def DrawReadsUptoCardSaid : Prop := Claim7.holds Tryz.pinned (.plain (OpenSpec.upto drawReadsSpec)) drawReadsUptoCard

/-- THE SECOND FORM's CARD OF 'croupierlaw10.DrawLaws'. -/
def drawLawsUptoCard : Claim7 := { stood := { row := drawLawsUptoRow, standIns := [], harness := (true, "b652cb969671c6707b76dd5c23c44c153739d32307000f129f3a5159c3c6cc36"), looks := true }, kinds := [], alts := [], laidByText := true, laidKinds := [.data, .data, .data, .sentinel, .sentinel], laidTests := true, laidLooks := .later }
def DrawLawsUptoCardSaid : Prop := Claim7.holds Tryz.pinned (.plain (OpenSpec.upto drawLawsSpec)) drawLawsUptoCard

/-- THE SECOND FORM's CARD OF 'croupierlaw10.DrawKeeps'. -/
def drawKeepsUptoCard : Claim7 := { stood := { row := drawKeepsUptoRow, standIns := [], harness := (true, "b652cb969671c6707b76dd5c23c44c153739d32307000f129f3a5159c3c6cc36"), looks := true }, kinds := [], alts := [], laidByText := true, laidKinds := [.data, .data, .data, .sentinel, .sentinel], laidTests := true, laidLooks := .later }
def DrawKeepsUptoCardSaid : Prop := Claim7.holds Tryz.pinned (.plain (OpenSpec.upto drawKeepsSpec)) drawKeepsUptoCard

/-- THE SECOND FORM's CARD OF 'croupierlaw10.DrawCounts'. -/
def drawCountsUptoCard : Claim7 := { stood := { row := drawCountsUptoRow, standIns := [], harness := (true, "b652cb969671c6707b76dd5c23c44c153739d32307000f129f3a5159c3c6cc36"), looks := true }, kinds := [], alts := [], laidByText := true, laidKinds := [.data, .data, .data, .sentinel, .sentinel], laidTests := true, laidLooks := .later }
def DrawCountsUptoCardSaid : Prop := Claim7.holds Tryz.pinned (.plain (OpenSpec.upto drawCountsSpec)) drawCountsUptoCard

/-- THE SECOND FORM's CARD OF 'croupierlaw10.DrawNear'. -/
def drawNearUptoCard : Claim7 := { stood := { row := drawNearUptoRow, standIns := [], harness := (true, "b652cb969671c6707b76dd5c23c44c153739d32307000f129f3a5159c3c6cc36"), looks := true }, kinds := [], alts := [], laidByText := true, laidKinds := [.data, .data, .data, .sentinel, .sentinel], laidTests := true, laidLooks := .later }
def DrawNearUptoCardSaid : Prop := Claim7.holds Tryz.pinned (.plain (OpenSpec.upto drawNearSpec)) drawNearUptoCard
end Rows
end Go.Proofs.YtfjjdjhnodcfhaaGreatDoor
