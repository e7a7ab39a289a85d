/-
  DERIVED. GIVEN WITH THE SEED: THE CARDS: each row of YtlalpenfgkfkpaaDoorRows.lean that lists a variable, with what it lists TIED to the program's text (the seventh form; the later family's looks); each row that meets fmt, with fmt's text TOLD by the authors' own Lean function (tested against real Go, not proved from fmt's source: count such statements apart). THE CARD IS WHAT COUNTS. Prove the row's statement (the work); the ties are given (YtlalpenfgkfkpaaDoorTie.lean); close each card by the builder's one call (the guide's Derived/Test/ToyasCard.lean, 'card_holds'). Laid BY PROGRAM, IN A SANDBOX (cutbox-door.mjs). By AI agents, Wed Nov 11 2026. No macro, syntax, notation, axiom, sorry.
-/
import Derived.Test.YtlalpenfgkfkpaaDoorRows
import GoSem.ClaimSeven
namespace Go.Proofs.YtlalpenfgkfkpaaDoor
namespace Rows

/-- THE TIED CARD OF 'cubbyholelaw20.CascadeHolds'. -/
def cascadeHoldsCard : Claim7 := { stood := { row := cascadeHoldsRow, standIns := [], harness := (true, "32ac67b8eceb4b48a110b81ffa76978674269b98ea7c9e0c35b58819e2be4850"), looks := false }, kinds := [], alts := [], laidByText := true, laidKinds := [.data], laidTests := true, laidLooks := .later }
def CascadeHoldsCardSaid : Prop := Claim7.holds Tryd.pinned (.plain (OpenSpec.ofChange cascadeHoldsSpec)) cascadeHoldsCard

/-- THE TIED CARD OF 'cubbyholelaw20.CascadeJumps'. -/
def cascadeJumpsCard : Claim7 := { stood := { row := cascadeJumpsRow, standIns := [], harness := (true, "32ac67b8eceb4b48a110b81ffa76978674269b98ea7c9e0c35b58819e2be4850"), looks := false }, kinds := [], alts := [], laidByText := true, laidKinds := [.data], laidTests := true, laidLooks := .later }
def CascadeJumpsCardSaid : Prop := Claim7.holds Tryd.pinned (.plain (OpenSpec.ofChange cascadeJumpsSpec)) cascadeJumpsCard

/-- THE TIED CARD OF 'cubbyholelaw20.CascadeNil'. -/
def cascadeNilCard : Claim7 := { stood := { row := cascadeNilRow, standIns := [], harness := (true, "32ac67b8eceb4b48a110b81ffa76978674269b98ea7c9e0c35b58819e2be4850"), looks := false }, kinds := [], alts := [], laidByText := true, laidKinds := [.data], laidTests := true, laidLooks := .later }
def CascadeNilCardSaid : Prop := Claim7.holds Tryd.pinned (.plain (OpenSpec.ofChange cascadeNilSpec)) cascadeNilCard

/-- THE TIED CARD OF 'cubbyholelaw20.CascadePlays'. -/
def cascadePlaysCard : Claim7 := { stood := { row := cascadePlaysRow, standIns := [], harness := (true, "32ac67b8eceb4b48a110b81ffa76978674269b98ea7c9e0c35b58819e2be4850"), looks := false }, kinds := [], alts := [], laidByText := true, laidKinds := [.data], laidTests := true, laidLooks := .later }
def CascadePlaysCardSaid : Prop := Claim7.holds Tryd.pinned (.plain (OpenSpec.ofChange cascadePlaysSpec)) cascadePlaysCard

/-- THE TIED CARD OF 'cubbyholelaw21.DueHolds'. -/
def dueHoldsCard : Claim7 := { stood := { row := dueHoldsRow, standIns := [], harness := (true, "32ac67b8eceb4b48a110b81ffa76978674269b98ea7c9e0c35b58819e2be4850"), looks := false }, kinds := [], alts := [], laidByText := true, laidKinds := [.data], laidTests := true, laidLooks := .later }
def DueHoldsCardSaid : Prop := Claim7.holds Tryd.pinned (.plain (OpenSpec.ofChange dueHoldsSpec)) dueHoldsCard

/-- THE TIED CARD OF 'cubbyholelaw21.DueNil'. -/
def dueNilCard : Claim7 := { stood := { row := dueNilRow, standIns := [], harness := (true, "32ac67b8eceb4b48a110b81ffa76978674269b98ea7c9e0c35b58819e2be4850"), looks := false }, kinds := [], alts := [], laidByText := true, laidKinds := [.data], laidTests := true, laidLooks := .later }
def DueNilCardSaid : Prop := Claim7.holds Tryd.pinned (.plain (OpenSpec.ofChange dueNilSpec)) dueNilCard

/-- THE TIED CARD OF 'cubbyholelaw21.DueNumbers'. -/
def dueNumbersCard : Claim7 := { stood := { row := dueNumbersRow, standIns := [], harness := (true, "32ac67b8eceb4b48a110b81ffa76978674269b98ea7c9e0c35b58819e2be4850"), looks := false }, kinds := [], alts := [], laidByText := true, laidKinds := [.data], laidTests := true, laidLooks := .later }
def DueNumbersCardSaid : Prop := Claim7.holds Tryd.pinned (.plain (OpenSpec.ofChange dueNumbersSpec)) dueNumbersCard

/-- THE SECOND FORM's CARD OF 'cubbyholelaw20.CascadeHolds'. -/
def cascadeHoldsUptoCard : Claim7 := { stood := { row := cascadeHoldsUptoRow, standIns := [], harness := (true, "32ac67b8eceb4b48a110b81ffa76978674269b98ea7c9e0c35b58819e2be4850"), looks := false }, kinds := [], alts := [], laidByText := true, laidKinds := [.data], laidTests := true, laidLooks := .later }
def CascadeHoldsUptoCardSaid : Prop := Claim7.holds Tryd.pinned (.plain (OpenSpec.upto cascadeHoldsSpec)) cascadeHoldsUptoCard

/-- THE SECOND FORM's CARD OF 'cubbyholelaw20.CascadeJumps'. -/
def cascadeJumpsUptoCard : Claim7 := { stood := { row := cascadeJumpsUptoRow, standIns := [], harness := (true, "32ac67b8eceb4b48a110b81ffa76978674269b98ea7c9e0c35b58819e2be4850"), looks := false }, kinds := [], alts := [], laidByText := true, laidKinds := [.data], laidTests := true, laidLooks := .later }
def CascadeJumpsUptoCardSaid : Prop := Claim7.holds Tryd.pinned (.plain (OpenSpec.upto cascadeJumpsSpec)) cascadeJumpsUptoCard

/-- THE SECOND FORM's CARD OF 'cubbyholelaw20.CascadeNil'. -/
def cascadeNilUptoCard : Claim7 := { stood := { row := cascadeNilUptoRow, standIns := [], harness := (true, "32ac67b8eceb4b48a110b81ffa76978674269b98ea7c9e0c35b58819e2be4850"), looks := false }, kinds := [], alts := [], laidByText := true, laidKinds := [.data], laidTests := true, laidLooks := .later }
def CascadeNilUptoCardSaid : Prop := Claim7.holds Tryd.pinned (.plain (OpenSpec.upto cascadeNilSpec)) cascadeNilUptoCard

/-- THE SECOND FORM's CARD OF 'cubbyholelaw20.CascadePlays'. -/
def cascadePlaysUptoCard : Claim7 := { stood := { row := cascadePlaysUptoRow, standIns := [], harness := (true, "32ac67b8eceb4b48a110b81ffa76978674269b98ea7c9e0c35b58819e2be4850"), looks := false }, kinds := [], alts := [], laidByText := true, laidKinds := [.data], laidTests := true, laidLooks := .later }
def CascadePlaysUptoCardSaid : Prop := Claim7.holds Tryd.pinned (.plain (OpenSpec.upto cascadePlaysSpec)) cascadePlaysUptoCard

/-- THE SECOND FORM's CARD OF 'cubbyholelaw21.DueHolds'. -/
def dueHoldsUptoCard : Claim7 := { stood := { row := dueHoldsUptoRow, standIns := [], harness := (true, "32ac67b8eceb4b48a110b81ffa76978674269b98ea7c9e0c35b58819e2be4850"), looks := false }, kinds := [], alts := [], laidByText := true, laidKinds := [.data], laidTests := true, laidLooks := .later }
def DueHoldsUptoCardSaid : Prop := Claim7.holds Tryd.pinned (.plain (OpenSpec.upto dueHoldsSpec)) dueHoldsUptoCard

/-- THE SECOND FORM's CARD OF 'cubbyholelaw21.DueNil'. -/
def dueNilUptoCard : Claim7 := { stood := { row := dueNilUptoRow, standIns := [], harness := (true, "32ac67b8eceb4b48a110b81ffa76978674269b98ea7c9e0c35b58819e2be4850"), looks := false }, kinds := [], alts := [], laidByText := true, laidKinds := [.data], laidTests := true, laidLooks := .later }
def DueNilUptoCardSaid : Prop := Claim7.holds Tryd.pinned (.plain (OpenSpec.upto dueNilSpec)) dueNilUptoCard

/-- THE SECOND FORM's CARD OF 'cubbyholelaw21.DueNumbers'. -/
def dueNumbersUptoCard : Claim7 := { stood := { row := dueNumbersUptoRow, standIns := [], harness := (true, "32ac67b8eceb4b48a110b81ffa76978674269b98ea7c9e0c35b58819e2be4850"), looks := false }, kinds := [], alts := [], laidByText := true, laidKinds := [.data], laidTests := true, laidLooks := .later }
def DueNumbersUptoCardSaid : Prop := Claim7.holds Tryd.pinned (.plain (OpenSpec.upto dueNumbersSpec)) dueNumbersUptoCard
end Rows
end Go.Proofs.YtlalpenfgkfkpaaDoor
