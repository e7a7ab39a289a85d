/-
  DERIVED. GIVEN WITH THE SEED: THE CARDS: each row of YtifbnponicgplaaGreatDoorRows.lean that lists a variable, with what it lists TIED to the program's text (the seventh form; the later family's looks); each row that meets fmt, with fmt's text TOLD by the authors' own Lean function (tested against real Go, not proved from fmt's source: count such statements apart). THE CARD IS WHAT COUNTS. Prove the row's statement (the work); the ties are given (YtifbnponicgplaaGreatDoorTie.lean); close each card by the builder's one call (the guide's Derived/Test/ToyasCard.lean, 'card_holds'). Laid BY PROGRAM, IN A SANDBOX (cutbox-door.mjs). By AI agents, Wed Nov 11 2026. No macro, syntax, notation, axiom, sorry.
-/
import Derived.Test.YtifbnponicgplaaGreatDoorRows
import GoSem.ClaimSeven
namespace Go.Proofs.YtifbnponicgplaaGreatDoor
namespace Rows

/-- THE TIED CARD OF 'cubbyholelaw42.TierLong'. -/
def tierLongCard : Claim7 := { stood := { row := tierLongRow, standIns := [], harness := (true, "789983210144dea20642dd08e9932c23d5427d50fe3c76f147989db04b01723c"), looks := false }, kinds := [], alts := [], laidByText := true, laidKinds := [.data], laidTests := true, laidLooks := .later }
def TierLongCardSaid : Prop := Claim7.holds Tryz.pinned (.plain (OpenSpec.ofChange tierLongSpec)) tierLongCard

/-- THE TIED CARD OF 'cubbyholelaw42.TierNone'. -/
def tierNoneCard : Claim7 := { stood := { row := tierNoneRow, standIns := [], harness := (true, "789983210144dea20642dd08e9932c23d5427d50fe3c76f147989db04b01723c"), looks := false }, kinds := [], alts := [], laidByText := true, laidKinds := [.data], laidTests := true, laidLooks := .later }
def TierNoneCardSaid : Prop := Claim7.holds Tryz.pinned (.plain (OpenSpec.ofChange tierNoneSpec)) tierNoneCard

/-- THE SECOND FORM's CARD OF 'cubbyholelaw42.TierLong'. -/
def tierLongUptoCard : Claim7 := { stood := { row := tierLongUptoRow, standIns := [], harness := (true, "789983210144dea20642dd08e9932c23d5427d50fe3c76f147989db04b01723c"), looks := false }, kinds := [], alts := [], laidByText := true, laidKinds := [.data], laidTests := true, laidLooks := .later }
def TierLongUptoCardSaid : Prop := Claim7.holds Tryz.pinned (.plain (OpenSpec.upto tierLongSpec)) tierLongUptoCard

/-- THE SECOND FORM's CARD OF 'cubbyholelaw42.TierNone'. -/
def tierNoneUptoCard : Claim7 := { stood := { row := tierNoneUptoRow, standIns := [], harness := (true, "789983210144dea20642dd08e9932c23d5427d50fe3c76f147989db04b01723c"), looks := false }, kinds := [], alts := [], laidByText := true, laidKinds := [.data], laidTests := true, laidLooks := .later }
def TierNoneUptoCardSaid : Prop := Claim7.holds Tryz.pinned (.plain (OpenSpec.upto tierNoneSpec)) tierNoneUptoCard
end Rows
end Go.Proofs.YtifbnponicgplaaGreatDoor
