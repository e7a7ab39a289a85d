/-
  DERIVED. GIVEN WITH THE SEED: THE CARDS: each row of YtdohbogbnheakaaGreatDoorRows.lean that lists a variable, with what it lists TIED to the program's text (the seventh form; the later family's looks); each row that meets fmt, with fmt's text TOLD by the authors' own Lean function (tested against real Go, not proved from fmt's source: count such statements apart). THE CARD IS WHAT COUNTS. Prove the row's statement (the work); the ties are given (YtdohbogbnheakaaGreatDoorTie.lean); close each card by the builder's one call (the guide's Derived/Test/ToyasCard.lean, 'card_holds'). Laid BY PROGRAM, IN A SANDBOX (cutbox-door.mjs). By AI agents, Wed Nov 11 2026. No macro, syntax, notation, axiom, sorry.
-/
import Derived.Test.YtdohbogbnheakaaGreatDoorRows
import GoSem.ClaimSeven
namespace Go.Proofs.YtdohbogbnheakaaGreatDoor
namespace Rows

/-- THE TIED CARD OF 'cubbyholelaw40.FetchFulls'. -/
def fetchFullsCard : Claim7 := { stood := { row := fetchFullsRow, standIns := [], harness := (true, "92c3de4524a85878eec161b541176db56b740cab62d270201b6ab0d5c0ce264a"), looks := true }, kinds := [], alts := [], laidByText := true, laidKinds := [.data], laidTests := true, laidLooks := .later }
def FetchFullsCardSaid : Prop := Claim7.holds Tryz.pinned (.plain (OpenSpec.ofChange fetchFullsSpec)) fetchFullsCard

/-- THE TIED CARD OF 'cubbyholelaw40.FetchNone'. -/
def fetchNoneCard : Claim7 := { stood := { row := fetchNoneRow, standIns := [], harness := (true, "92c3de4524a85878eec161b541176db56b740cab62d270201b6ab0d5c0ce264a"), looks := true }, kinds := [], alts := [], laidByText := true, laidKinds := [.data], laidTests := true, laidLooks := .later }
def FetchNoneCardSaid : Prop := Claim7.holds Tryz.pinned (.plain (OpenSpec.ofChange fetchNoneSpec)) fetchNoneCard

/-- THE TIED CARD OF 'cubbyholelaw48.LeaseFulls'. -/
def leaseFullsCard : Claim7 := { stood := { row := leaseFullsRow, standIns := [], harness := (true, "92c3de4524a85878eec161b541176db56b740cab62d270201b6ab0d5c0ce264a"), looks := true }, kinds := [], alts := [], laidByText := true, laidKinds := [.data], laidTests := true, laidLooks := .later }
def LeaseFullsCardSaid : Prop := Claim7.holds Tryz.pinned (.plain (OpenSpec.ofChange leaseFullsSpec)) leaseFullsCard

/-- THE TIED CARD OF 'cubbyholelaw48.LeaseNone'. -/
def leaseNoneCard : Claim7 := { stood := { row := leaseNoneRow, standIns := [], harness := (true, "92c3de4524a85878eec161b541176db56b740cab62d270201b6ab0d5c0ce264a"), looks := true }, kinds := [], alts := [], laidByText := true, laidKinds := [.data], laidTests := true, laidLooks := .later }
def LeaseNoneCardSaid : Prop := Claim7.holds Tryz.pinned (.plain (OpenSpec.ofChange leaseNoneSpec)) leaseNoneCard

/-- THE SECOND FORM's CARD OF 'cubbyholelaw40.FetchFulls'. -/
def fetchFullsUptoCard : Claim7 := { stood := { row := fetchFullsUptoRow, standIns := [], harness := (true, "92c3de4524a85878eec161b541176db56b740cab62d270201b6ab0d5c0ce264a"), looks := true }, kinds := [], alts := [], laidByText := true, laidKinds := [.data], laidTests := true, laidLooks := .later }
def FetchFullsUptoCardSaid : Prop := Claim7.holds Tryz.pinned (.plain (OpenSpec.upto fetchFullsSpec)) fetchFullsUptoCard

/-- THE SECOND FORM's CARD OF 'cubbyholelaw40.FetchNone'. -/
def fetchNoneUptoCard : Claim7 := { stood := { row := fetchNoneUptoRow, standIns := [], harness := (true, "92c3de4524a85878eec161b541176db56b740cab62d270201b6ab0d5c0ce264a"), looks := true }, kinds := [], alts := [], laidByText := true, laidKinds := [.data], laidTests := true, laidLooks := .later }
def FetchNoneUptoCardSaid : Prop := Claim7.holds Tryz.pinned (.plain (OpenSpec.upto fetchNoneSpec)) fetchNoneUptoCard

/-- THE SECOND FORM's CARD OF 'cubbyholelaw48.LeaseFulls'. -/
def leaseFullsUptoCard : Claim7 := { stood := { row := leaseFullsUptoRow, standIns := [], harness := (true, "92c3de4524a85878eec161b541176db56b740cab62d270201b6ab0d5c0ce264a"), looks := true }, kinds := [], alts := [], laidByText := true, laidKinds := [.data], laidTests := true, laidLooks := .later }
def LeaseFullsUptoCardSaid : Prop := Claim7.holds Tryz.pinned (.plain (OpenSpec.upto leaseFullsSpec)) leaseFullsUptoCard

/-- THE SECOND FORM's CARD OF 'cubbyholelaw48.LeaseNone'. -/
def leaseNoneUptoCard : Claim7 := { stood := { row := leaseNoneUptoRow, standIns := [], harness := (true, "92c3de4524a85878eec161b541176db56b740cab62d270201b6ab0d5c0ce264a"), looks := true }, kinds := [], alts := [], laidByText := true, laidKinds := [.data], laidTests := true, laidLooks := .later }
def LeaseNoneUptoCardSaid : Prop := Claim7.holds Tryz.pinned (.plain (OpenSpec.upto leaseNoneSpec)) leaseNoneUptoCard
end Rows
end Go.Proofs.YtdohbogbnheakaaGreatDoor
