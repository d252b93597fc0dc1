/-
  DERIVED. GIVEN WITH THE SEED: THE CARDS: each row of YtpefkhbejjndeaaDoorRows.lean that lists a variable, with what it lists TIED to the program's text (the seventh form; the later family's looks); each row that meets fmt, with fmt's text TOLD by the authors' own Lean function (tested against real Go, not proved from fmt's source: count such statements apart). THE CARD IS WHAT COUNTS. Prove the row's statement (the work); the ties are given (YtpefkhbejjndeaaDoorTie.lean); close each card by the builder's one call (the guide's Derived/Test/ToyasCard.lean, 'card_holds'). Laid BY PROGRAM, IN A SANDBOX (cutbox-door.mjs). By AI agents, Wed Nov 11 2026. No macro, syntax, notation, axiom, sorry.
-/
import Derived.Test.YtpefkhbejjndeaaDoorRows
import GoSem.ClaimSeven
namespace Go.Proofs.YtpefkhbejjndeaaDoor
namespace Rows

/-- THE TIED CARD OF 'conchlaw23.OperTells'. -/
def operTellsCard : Claim7 := { stood := { row := operTellsRow, standIns := [], harness := (true, "36f1f2c3b972cd7ae3629fb4bdf018d1d7c91480e71428e81cd2bd9f77573fca"), looks := false }, kinds := [], alts := [], laidByText := true, laidKinds := [.data], laidTests := true, laidLooks := .later }
def OperTellsCardSaid : Prop := Claim7.holds Tryd.pinned (.plain (OpenSpec.ofChange operTellsSpec)) operTellsCard

/-- THE TIED CARD OF 'conchlaw23.OperBegins'. -/
def operBeginsCard : Claim7 := { stood := { row := operBeginsRow, standIns := [], harness := (true, "36f1f2c3b972cd7ae3629fb4bdf018d1d7c91480e71428e81cd2bd9f77573fca"), looks := false }, kinds := [], alts := [], laidByText := true, laidKinds := [.data], laidTests := true, laidLooks := .later }
def OperBeginsCardSaid : Prop := Claim7.holds Tryd.pinned (.plain (OpenSpec.ofChange operBeginsSpec)) operBeginsCard

/-- THE SECOND FORM's CARD OF 'conchlaw23.OperTells'. -/
def operTellsUptoCard : Claim7 := { stood := { row := operTellsUptoRow, standIns := [], harness := (true, "36f1f2c3b972cd7ae3629fb4bdf018d1d7c91480e71428e81cd2bd9f77573fca"), looks := false }, kinds := [], alts := [], laidByText := true, laidKinds := [.data], laidTests := true, laidLooks := .later }
def OperTellsUptoCardSaid : Prop := Claim7.holds Tryd.pinned (.plain (OpenSpec.upto operTellsSpec)) operTellsUptoCard

/-- THE SECOND FORM's CARD OF 'conchlaw23.OperBegins'. -/
def operBeginsUptoCard : Claim7 := { stood := { row := operBeginsUptoRow, standIns := [], harness := (true, "36f1f2c3b972cd7ae3629fb4bdf018d1d7c91480e71428e81cd2bd9f77573fca"), looks := false }, kinds := [], alts := [], laidByText := true, laidKinds := [.data], laidTests := true, laidLooks := .later }
def OperBeginsUptoCardSaid : Prop := Claim7.holds Tryd.pinned (.plain (OpenSpec.upto operBeginsSpec)) operBeginsUptoCard
end Rows
end Go.Proofs.YtpefkhbejjndeaaDoor
