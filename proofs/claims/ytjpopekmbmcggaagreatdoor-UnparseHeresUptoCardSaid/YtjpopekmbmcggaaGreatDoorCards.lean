/-
  DERIVED. GIVEN WITH THE SEED: THE CARDS: each row of YtjpopekmbmcggaaGreatDoorRows.lean that lists a variable, with what it lists TIED to the program's text (the seventh form; the later family's looks); each row that meets fmt, with fmt's text TOLD by the authors' own Lean function (tested against real Go, not proved from fmt's source: count such statements apart). THE CARD IS WHAT COUNTS. Prove the row's statement (the work); the ties are given (YtjpopekmbmcggaaGreatDoorTie.lean); close each card by the builder's one call (the guide's Derived/Test/ToyasCard.lean, 'card_holds'). Laid BY PROGRAM, IN A SANDBOX (cutbox-door.mjs). By AI agents, Wed Nov 11 2026. No macro, syntax, notation, axiom, sorry.
-/
import Derived.Test.YtjpopekmbmcggaaGreatDoorRows
import GoSem.ClaimSeven
namespace Go.Proofs.YtjpopekmbmcggaaGreatDoor
namespace Rows

/-- THE TIED CARD OF 'conchlaw32.NodeTells'. -/
def nodeTellsCard : Claim7 := { stood := { row := nodeTellsRow, standIns := [], harness := (true, "6245b0077c21882a2195ea04034ffc15a097ea281ddb8af577947b3d7da73ca5"), looks := false }, kinds := [], alts := [], laidByText := true, laidKinds := [.data], laidTests := true, laidLooks := .later }
def NodeTellsCardSaid : Prop := Claim7.holds Tryz.pinned (.plain (OpenSpec.ofChange nodeTellsSpec)) nodeTellsCard

/-- THE TIED CARD OF 'conchlaw32.NodeSame'. -/
def nodeSameCard : Claim7 := { stood := { row := nodeSameRow, standIns := [], harness := (true, "6245b0077c21882a2195ea04034ffc15a097ea281ddb8af577947b3d7da73ca5"), looks := false }, kinds := [], alts := [], laidByText := true, laidKinds := [.data], laidTests := true, laidLooks := .later }
def NodeSameCardSaid : Prop := Claim7.holds Tryz.pinned (.plain (OpenSpec.ofChange nodeSameSpec)) nodeSameCard

/-- THE TIED CARD OF 'conchlaw32.NodeParts'. -/
def nodePartsCard : Claim7 := { stood := { row := nodePartsRow, standIns := [], harness := (true, "6245b0077c21882a2195ea04034ffc15a097ea281ddb8af577947b3d7da73ca5"), looks := false }, kinds := [], alts := [], laidByText := true, laidKinds := [.data], laidTests := true, laidLooks := .later }
def NodePartsCardSaid : Prop := Claim7.holds Tryz.pinned (.plain (OpenSpec.ofChange nodePartsSpec)) nodePartsCard

/-- THE TIED CARD OF 'conchlaw32.NodeJoins'. -/
def nodeJoinsCard : Claim7 := { stood := { row := nodeJoinsRow, standIns := [], harness := (true, "6245b0077c21882a2195ea04034ffc15a097ea281ddb8af577947b3d7da73ca5"), looks := false }, kinds := [], alts := [], laidByText := true, laidKinds := [.data], laidTests := true, laidLooks := .later }
def NodeJoinsCardSaid : Prop := Claim7.holds Tryz.pinned (.plain (OpenSpec.ofChange nodeJoinsSpec)) nodeJoinsCard

/-- THE TIED CARD OF 'conchlaw33.UnparseShows'. -/
def unparseShowsCard : Claim7 := { stood := { row := unparseShowsRow, standIns := [], harness := (true, "6245b0077c21882a2195ea04034ffc15a097ea281ddb8af577947b3d7da73ca5"), looks := false }, kinds := [], alts := [], laidByText := true, laidKinds := [.data, .data], laidTests := true, laidLooks := .later }
def UnparseShowsCardSaid : Prop := Claim7.holds Tryz.pinned (.plain (OpenSpec.ofChange unparseShowsSpec)) unparseShowsCard

/-- THE TIED CARD OF 'conchlaw33.UnparseRight'. -/
def unparseRightCard : Claim7 := { stood := { row := unparseRightRow, standIns := [], harness := (true, "6245b0077c21882a2195ea04034ffc15a097ea281ddb8af577947b3d7da73ca5"), looks := false }, kinds := [], alts := [], laidByText := true, laidKinds := [.data, .data], laidTests := true, laidLooks := .later }
def UnparseRightCardSaid : Prop := Claim7.holds Tryz.pinned (.plain (OpenSpec.ofChange unparseRightSpec)) unparseRightCard

/-- THE TIED CARD OF 'conchlaw33.UnparseHeres'. -/
def unparseHeresCard : Claim7 := { stood := { row := unparseHeresRow, standIns := [], harness := (true, "6245b0077c21882a2195ea04034ffc15a097ea281ddb8af577947b3d7da73ca5"), looks := false }, kinds := [], alts := [], laidByText := true, laidKinds := [.data, .data], laidTests := true, laidLooks := .later }
def UnparseHeresCardSaid : Prop := Claim7.holds Tryz.pinned (.plain (OpenSpec.ofChange unparseHeresSpec)) unparseHeresCard

/-- THE SECOND FORM's CARD OF 'conchlaw32.NodeTells'. -/
def nodeTellsUptoCard : Claim7 := { stood := { row := nodeTellsUptoRow, standIns := [], harness := (true, "6245b0077c21882a2195ea04034ffc15a097ea281ddb8af577947b3d7da73ca5"), looks := false }, kinds := [], alts := [], laidByText := true, laidKinds := [.data], laidTests := true, laidLooks := .later }
def NodeTellsUptoCardSaid : Prop := Claim7.holds Tryz.pinned (.plain (OpenSpec.upto nodeTellsSpec)) nodeTellsUptoCard

/-- THE SECOND FORM's CARD OF 'conchlaw32.NodeSame'. -/
def nodeSameUptoCard : Claim7 := { stood := { row := nodeSameUptoRow, standIns := [], harness := (true, "6245b0077c21882a2195ea04034ffc15a097ea281ddb8af577947b3d7da73ca5"), looks := false }, kinds := [], alts := [], laidByText := true, laidKinds := [.data], laidTests := true, laidLooks := .later }
def NodeSameUptoCardSaid : Prop := Claim7.holds Tryz.pinned (.plain (OpenSpec.upto nodeSameSpec)) nodeSameUptoCard

/-- THE SECOND FORM's CARD OF 'conchlaw32.NodeParts'. -/
def nodePartsUptoCard : Claim7 := { stood := { row := nodePartsUptoRow, standIns := [], harness := (true, "6245b0077c21882a2195ea04034ffc15a097ea281ddb8af577947b3d7da73ca5"), looks := false }, kinds := [], alts := [], laidByText := true, laidKinds := [.data], laidTests := true, laidLooks := .later }
def NodePartsUptoCardSaid : Prop := Claim7.holds Tryz.pinned (.plain (OpenSpec.upto nodePartsSpec)) nodePartsUptoCard

/-- THE SECOND FORM's CARD OF 'conchlaw32.NodeJoins'. -/
def nodeJoinsUptoCard : Claim7 := { stood := { row := nodeJoinsUptoRow, standIns := [], harness := (true, "6245b0077c21882a2195ea04034ffc15a097ea281ddb8af577947b3d7da73ca5"), looks := false }, kinds := [], alts := [], laidByText := true, laidKinds := [.data], laidTests := true, laidLooks := .later }
def NodeJoinsUptoCardSaid : Prop := Claim7.holds Tryz.pinned (.plain (OpenSpec.upto nodeJoinsSpec)) nodeJoinsUptoCard

/-- THE SECOND FORM's CARD OF 'conchlaw33.UnparseShows'. -/
def unparseShowsUptoCard : Claim7 := { stood := { row := unparseShowsUptoRow, standIns := [], harness := (true, "6245b0077c21882a2195ea04034ffc15a097ea281ddb8af577947b3d7da73ca5"), looks := false }, kinds := [], alts := [], laidByText := true, laidKinds := [.data, .data], laidTests := true, laidLooks := .later }
def UnparseShowsUptoCardSaid : Prop := Claim7.holds Tryz.pinned (.plain (OpenSpec.upto unparseShowsSpec)) unparseShowsUptoCard

/-- THE SECOND FORM's CARD OF 'conchlaw33.UnparseRight'. -/
def unparseRightUptoCard : Claim7 := { stood := { row := unparseRightUptoRow, standIns := [], harness := (true, "6245b0077c21882a2195ea04034ffc15a097ea281ddb8af577947b3d7da73ca5"), looks := false }, kinds := [], alts := [], laidByText := true, laidKinds := [.data, .data], laidTests := true, laidLooks := .later }
def UnparseRightUptoCardSaid : Prop := Claim7.holds Tryz.pinned (.plain (OpenSpec.upto unparseRightSpec)) unparseRightUptoCard

/-- THE SECOND FORM's CARD OF 'conchlaw33.UnparseHeres'. -/
def unparseHeresUptoCard : Claim7 := { stood := { row := unparseHeresUptoRow, standIns := [], harness := (true, "6245b0077c21882a2195ea04034ffc15a097ea281ddb8af577947b3d7da73ca5"), looks := false }, kinds := [], alts := [], laidByText := true, laidKinds := [.data, .data], laidTests := true, laidLooks := .later }
def UnparseHeresUptoCardSaid : Prop := Claim7.holds Tryz.pinned (.plain (OpenSpec.upto unparseHeresSpec)) unparseHeresUptoCard
end Rows
end Go.Proofs.YtjpopekmbmcggaaGreatDoor
