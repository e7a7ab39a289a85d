/-
  DERIVED. GIVEN WITH THE SEED: THE CARDS: each row of YtpadepliilhmhaaGreatDoorRows.lean that lists a variable, with what it lists TIED to the program's text (the seventh form; the later family's looks); each row that meets fmt, with fmt's text TOLD by the authors' own Lean function (tested against real Go, not proved from fmt's source: count such statements apart). THE CARD IS WHAT COUNTS. Prove the row's statement (the work); the ties are given (YtpadepliilhmhaaGreatDoorTie.lean); close each card by the builder's one call (the guide's Derived/Test/ToyasCard.lean, 'card_holds'). Laid BY PROGRAM, IN A SANDBOX (cutbox-door.mjs). By AI agents, Wed Nov 11 2026. No macro, syntax, notation, axiom, sorry.
-/
import Derived.Test.YtpadepliilhmhaaGreatDoorRows
import GoSem.ClaimSeven
namespace Go.Proofs.YtpadepliilhmhaaGreatDoor
namespace Rows

/-- THE TIED CARD OF 'cubbyholelaw25.CursorFull'. -/
def cursorFullCard : Claim7 := { stood := { row := cursorFullRow, standIns := [], harness := (true, "9f1be94035da35dc4c682a22e5f35df2fe621022dfc893408612fa997c4d2119"), looks := false }, kinds := [], alts := [], laidByText := true, laidKinds := [.data], laidTests := true, laidLooks := .later }
def CursorFullCardSaid : Prop := Claim7.holds Tryz.pinned (.plain (OpenSpec.ofChange cursorFullSpec)) cursorFullCard

/-- THE TIED CARD OF 'cubbyholelaw25.CursorNone'. -/
def cursorNoneCard : Claim7 := { stood := { row := cursorNoneRow, standIns := [], harness := (true, "9f1be94035da35dc4c682a22e5f35df2fe621022dfc893408612fa997c4d2119"), looks := false }, kinds := [], alts := [], laidByText := true, laidKinds := [.data], laidTests := true, laidLooks := .later }
def CursorNoneCardSaid : Prop := Claim7.holds Tryz.pinned (.plain (OpenSpec.ofChange cursorNoneSpec)) cursorNoneCard

/-- THE SECOND FORM's CARD OF 'cubbyholelaw25.CursorFull'. -/
def cursorFullUptoCard : Claim7 := { stood := { row := cursorFullUptoRow, standIns := [], harness := (true, "9f1be94035da35dc4c682a22e5f35df2fe621022dfc893408612fa997c4d2119"), looks := false }, kinds := [], alts := [], laidByText := true, laidKinds := [.data], laidTests := true, laidLooks := .later }
def CursorFullUptoCardSaid : Prop := Claim7.holds Tryz.pinned (.plain (OpenSpec.upto cursorFullSpec)) cursorFullUptoCard

/-- THE SECOND FORM's CARD OF 'cubbyholelaw25.CursorNone'. -/
def cursorNoneUptoCard : Claim7 := { stood := { row := cursorNoneUptoRow, standIns := [], harness := (true, "9f1be94035da35dc4c682a22e5f35df2fe621022dfc893408612fa997c4d2119"), looks := false }, kinds := [], alts := [], laidByText := true, laidKinds := [.data], laidTests := true, laidLooks := .later }
def CursorNoneUptoCardSaid : Prop := Claim7.holds Tryz.pinned (.plain (OpenSpec.upto cursorNoneSpec)) cursorNoneUptoCard
end Rows
end Go.Proofs.YtpadepliilhmhaaGreatDoor
