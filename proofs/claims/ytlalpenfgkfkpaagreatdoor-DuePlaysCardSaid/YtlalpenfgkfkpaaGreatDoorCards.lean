/-
  DERIVED. GIVEN WITH THE SEED: THE CARDS: each row of YtlalpenfgkfkpaaGreatDoorRows.lean that lists a variable, with what it lists TIED to the program's text (the seventh form; the later family's looks); each row that meets fmt, with fmt's text TOLD by the authors' own Lean function (tested against real Go, not proved from fmt's source: count such statements apart). THE CARD IS WHAT COUNTS. Prove the row's statement (the work); the ties are given (YtlalpenfgkfkpaaGreatDoorTie.lean); close each card by the builder's one call (the guide's Derived/Test/ToyasCard.lean, 'card_holds'). Laid BY PROGRAM, IN A SANDBOX (cutbox-door.mjs). By AI agents, Wed Nov 11 2026. No macro, syntax, notation, axiom, sorry.
-/
import Derived.Test.YtlalpenfgkfkpaaGreatDoorRows
import GoSem.ClaimSeven
namespace Go.Proofs.YtlalpenfgkfkpaaGreatDoor
namespace Rows

/-- THE TIED CARD OF 'cubbyholelaw21.DuePlays'. -/
def duePlaysCard : Claim7 := { stood := { row := duePlaysRow, standIns := [], harness := (true, "1395259e6c39a25e75acc9490729956f6fbacf4bbcb62f8986b983cd0c085cb4"), looks := false }, kinds := [], alts := [], laidByText := true, laidKinds := [.data], laidTests := true, laidLooks := .later }
def DuePlaysCardSaid : Prop := Claim7.holds Tryz.pinned (.plain (OpenSpec.ofChange duePlaysSpec)) duePlaysCard

/-- THE SECOND FORM's CARD OF 'cubbyholelaw21.DuePlays'. -/
def duePlaysUptoCard : Claim7 := { stood := { row := duePlaysUptoRow, standIns := [], harness := (true, "1395259e6c39a25e75acc9490729956f6fbacf4bbcb62f8986b983cd0c085cb4"), looks := false }, kinds := [], alts := [], laidByText := true, laidKinds := [.data], laidTests := true, laidLooks := .later }
def DuePlaysUptoCardSaid : Prop := Claim7.holds Tryz.pinned (.plain (OpenSpec.upto duePlaysSpec)) duePlaysUptoCard
end Rows
end Go.Proofs.YtlalpenfgkfkpaaGreatDoor
