/-
  DERIVED. GIVEN WITH THE SEED: THE CARDS: each row of YtpmlmibceiolpaaGreatDoorRows.lean that lists a variable, with what it lists TIED to the program's text (the seventh form; the later family's looks); each row that meets fmt, with fmt's text TOLD by the authors' own Lean function (tested against real Go, not proved from fmt's source: count such statements apart). THE CARD IS WHAT COUNTS. Prove the row's statement (the work); the ties are given (YtpmlmibceiolpaaGreatDoorTie.lean); close each card by the builder's one call (the guide's Derived/Test/ToyasCard.lean, 'card_holds'). Laid BY PROGRAM, IN A SANDBOX (cutbox-door.mjs). By AI agents, Wed Nov 11 2026. No macro, syntax, notation, axiom, sorry.
-/
import Derived.Test.YtpmlmibceiolpaaGreatDoorRows
import GoSem.ClaimSeven
namespace Go.Proofs.YtpmlmibceiolpaaGreatDoor
namespace Rows

/-- THE TIED CARD OF 'croupierlaw26.DiagramCanon'. -/
def diagramCanonCard : Claim7 := { stood := { row := diagramCanonRow, standIns := [], harness := (true, "087b29fbde7c1c938e6c569310f346dc57dbcfe55a152b3c382a9a9f37300476"), looks := true }, kinds := [], alts := [], laidByText := true, laidKinds := [.data, .data, .data, .sentinel, .sentinel], laidTests := true, laidLooks := .later }
def DiagramCanonCardSaid : Prop := Claim7.holds Tryz.pinned (.plain (OpenSpec.ofChange diagramCanonSpec)) diagramCanonCard

/-- THE TIED CARD OF 'croupierlaw26.DiagramShares'. -/
def diagramSharesCard : Claim7 := { stood := { row := diagramSharesRow, standIns := [], harness := (true, "087b29fbde7c1c938e6c569310f346dc57dbcfe55a152b3c382a9a9f37300476"), looks := true }, kinds := [], alts := [], laidByText := true, laidKinds := [.data, .data, .data, .sentinel, .sentinel], laidTests := true, laidLooks := .later }
def DiagramSharesCardSaid : Prop := Claim7.holds Tryz.pinned (.plain (OpenSpec.ofChange diagramSharesSpec)) diagramSharesCard

/-- THE TIED CARD OF 'croupierlaw26.DiagramAlgebra'. -/
def diagramAlgebraCard : Claim7 := { stood := { row := diagramAlgebraRow, standIns := [], harness := (true, "087b29fbde7c1c938e6c569310f346dc57dbcfe55a152b3c382a9a9f37300476"), looks := true }, kinds := [], alts := [], laidByText := true, laidKinds := [.data, .data, .data, .sentinel, .sentinel], laidTests := true, laidLooks := .later }
def DiagramAlgebraCardSaid : Prop := Claim7.holds Tryz.pinned (.plain (OpenSpec.ofChange diagramAlgebraSpec)) diagramAlgebraCard

/-- THE TIED CARD OF 'croupierlaw26.DiagramSums'. -/
def diagramSumsCard : Claim7 := { stood := { row := diagramSumsRow, standIns := [], harness := (true, "087b29fbde7c1c938e6c569310f346dc57dbcfe55a152b3c382a9a9f37300476"), looks := true }, kinds := [], alts := [], laidByText := true, laidKinds := [.data, .data, .data, .sentinel, .sentinel], laidTests := true, laidLooks := .later }
def DiagramSumsCardSaid : Prop := Claim7.holds Tryz.pinned (.plain (OpenSpec.ofChange diagramSumsSpec)) diagramSumsCard

/-- THE TIED CARD OF 'croupierlaw26.DiagramMakes'. -/
def diagramMakesCard : Claim7 := { stood := { row := diagramMakesRow, standIns := [], harness := (true, "087b29fbde7c1c938e6c569310f346dc57dbcfe55a152b3c382a9a9f37300476"), looks := true }, kinds := [], alts := [], laidByText := true, laidKinds := [.data, .data, .data, .sentinel, .sentinel], laidTests := true, laidLooks := .later }
def DiagramMakesCardSaid : Prop := Claim7.holds Tryz.pinned (.plain (OpenSpec.ofChange diagramMakesSpec)) diagramMakesCard

/-- THE TIED CARD OF 'croupierlaw26.DiagramPoints'. -/
def diagramPointsCard : Claim7 := { stood := { row := diagramPointsRow, standIns := [], harness := (true, "087b29fbde7c1c938e6c569310f346dc57dbcfe55a152b3c382a9a9f37300476"), looks := true }, kinds := [], alts := [], laidByText := true, laidKinds := [.data, .data, .data, .sentinel, .sentinel], laidTests := true, laidLooks := .later }
def DiagramPointsCardSaid : Prop := Claim7.holds Tryz.pinned (.plain (OpenSpec.ofChange diagramPointsSpec)) diagramPointsCard

/-- THE TIED CARD OF 'croupierlaw26.DiagramKnown'. -/
def diagramKnownCard : Claim7 := { stood := { row := diagramKnownRow, standIns := [], harness := (true, "087b29fbde7c1c938e6c569310f346dc57dbcfe55a152b3c382a9a9f37300476"), looks := true }, kinds := [], alts := [], laidByText := true, laidKinds := [.data, .data, .data, .sentinel, .sentinel], laidTests := true, laidLooks := .later }
def DiagramKnownCardSaid : Prop := Claim7.holds Tryz.pinned (.plain (OpenSpec.ofChange diagramKnownSpec)) diagramKnownCard

/-- THE SECOND FORM's CARD OF 'croupierlaw26.DiagramCanon'. -/
def diagramCanonUptoCard : Claim7 := { stood := { row := diagramCanonUptoRow, standIns := [], harness := (true, "087b29fbde7c1c938e6c569310f346dc57dbcfe55a152b3c382a9a9f37300476"), looks := true }, kinds := [], alts := [], laidByText := true, laidKinds := [.data, .data, .data, .sentinel, .sentinel], laidTests := true, laidLooks := .later }
def DiagramCanonUptoCardSaid : Prop := Claim7.holds Tryz.pinned (.plain (OpenSpec.upto diagramCanonSpec)) diagramCanonUptoCard

/-- THE SECOND FORM's CARD OF 'croupierlaw26.DiagramShares'. -/
def diagramSharesUptoCard : Claim7 := { stood := { row := diagramSharesUptoRow, standIns := [], harness := (true, "087b29fbde7c1c938e6c569310f346dc57dbcfe55a152b3c382a9a9f37300476"), looks := true }, kinds := [], alts := [], laidByText := true, laidKinds := [.data, .data, .data, .sentinel, .sentinel], laidTests := true, laidLooks := .later }
def DiagramSharesUptoCardSaid : Prop := Claim7.holds Tryz.pinned (.plain (OpenSpec.upto diagramSharesSpec)) diagramSharesUptoCard

/-- THE SECOND FORM's CARD OF 'croupierlaw26.DiagramAlgebra'. -/
def diagramAlgebraUptoCard : Claim7 := { stood := { row := diagramAlgebraUptoRow, standIns := [], harness := (true, "087b29fbde7c1c938e6c569310f346dc57dbcfe55a152b3c382a9a9f37300476"), looks := true }, kinds := [], alts := [], laidByText := true, laidKinds := [.data, .data, .data, .sentinel, .sentinel], laidTests := true, laidLooks := .later }
def DiagramAlgebraUptoCardSaid : Prop := Claim7.holds Tryz.pinned (.plain (OpenSpec.upto diagramAlgebraSpec)) diagramAlgebraUptoCard

/-- THE SECOND FORM's CARD OF 'croupierlaw26.DiagramSums'. -/
def diagramSumsUptoCard : Claim7 := { stood := { row := diagramSumsUptoRow, standIns := [], harness := (true, "087b29fbde7c1c938e6c569310f346dc57dbcfe55a152b3c382a9a9f37300476"), looks := true }, kinds := [], alts := [], laidByText := true, laidKinds := [.data, .data, .data, .sentinel, .sentinel], laidTests := true, laidLooks := .later }
def DiagramSumsUptoCardSaid : Prop := Claim7.holds Tryz.pinned (.plain (OpenSpec.upto diagramSumsSpec)) diagramSumsUptoCard

/-- THE SECOND FORM's CARD OF 'croupierlaw26.DiagramMakes'. -/
def diagramMakesUptoCard : Claim7 := { stood := { row := diagramMakesUptoRow, standIns := [], harness := (true, "087b29fbde7c1c938e6c569310f346dc57dbcfe55a152b3c382a9a9f37300476"), looks := true }, kinds := [], alts := [], laidByText := true, laidKinds := [.data, .data, .data, .sentinel, .sentinel], laidTests := true, laidLooks := .later }
def DiagramMakesUptoCardSaid : Prop := Claim7.holds Tryz.pinned (.plain (OpenSpec.upto diagramMakesSpec)) diagramMakesUptoCard

/-- THE SECOND FORM's CARD OF 'croupierlaw26.DiagramPoints'. -/
def diagramPointsUptoCard : Claim7 := { stood := { row := diagramPointsUptoRow, standIns := [], harness := (true, "087b29fbde7c1c938e6c569310f346dc57dbcfe55a152b3c382a9a9f37300476"), looks := true }, kinds := [], alts := [], laidByText := true, laidKinds := [.data, .data, .data, .sentinel, .sentinel], laidTests := true, laidLooks := .later }
def DiagramPointsUptoCardSaid : Prop := Claim7.holds Tryz.pinned (.plain (OpenSpec.upto diagramPointsSpec)) diagramPointsUptoCard

/-- THE SECOND FORM's CARD OF 'croupierlaw26.DiagramKnown'. -/
def diagramKnownUptoCard : Claim7 := { stood := { row := diagramKnownUptoRow, standIns := [], harness := (true, "087b29fbde7c1c938e6c569310f346dc57dbcfe55a152b3c382a9a9f37300476"), looks := true }, kinds := [], alts := [], laidByText := true, laidKinds := [.data, .data, .data, .sentinel, .sentinel], laidTests := true, laidLooks := .later }
def DiagramKnownUptoCardSaid : Prop := Claim7.holds Tryz.pinned (.plain (OpenSpec.upto diagramKnownSpec)) diagramKnownUptoCard
end Rows
end Go.Proofs.YtpmlmibceiolpaaGreatDoor
