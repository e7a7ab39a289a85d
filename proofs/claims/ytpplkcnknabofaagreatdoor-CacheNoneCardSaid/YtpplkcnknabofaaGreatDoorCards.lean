/-
  DERIVED. GIVEN WITH THE SEED: THE CARDS: each row of YtpplkcnknabofaaGreatDoorRows.lean that lists a variable, with what it lists TIED to the program's text (the seventh form; the later family's looks); each row that meets fmt, with fmt's text TOLD by the authors' own Lean function (tested against real Go, not proved from fmt's source: count such statements apart). THE CARD IS WHAT COUNTS. Prove the row's statement (the work); the ties are given (YtpplkcnknabofaaGreatDoorTie.lean); close each card by the builder's one call (the guide's Derived/Test/ToyasCard.lean, 'card_holds'). Laid BY PROGRAM, IN A SANDBOX (cutbox-door.mjs). By AI agents, Wed Nov 11 2026. No macro, syntax, notation, axiom, sorry.
-/
import Derived.Test.YtpplkcnknabofaaGreatDoorRows
import GoSem.ClaimSeven
namespace Go.Proofs.YtpplkcnknabofaaGreatDoor
namespace Rows

/-- THE TIED CARD OF 'cubbyholelaw24.CacheHolds'. -/
def cacheHoldsCard : Claim7 := { stood := { row := cacheHoldsRow, standIns := [], harness := (true, "4bfa7a8a3434ae10c62445a374bc481c4c0d844d56a1e95e60135b473156ff02"), looks := false }, kinds := [], alts := [], laidByText := true, laidKinds := [.data], laidTests := true, laidLooks := .later }
def CacheHoldsCardSaid : Prop := Claim7.holds Tryz.pinned (.plain (OpenSpec.ofChange cacheHoldsSpec)) cacheHoldsCard

/-- THE TIED CARD OF 'cubbyholelaw24.CacheMany'. -/
def cacheManyCard : Claim7 := { stood := { row := cacheManyRow, standIns := [], harness := (true, "4bfa7a8a3434ae10c62445a374bc481c4c0d844d56a1e95e60135b473156ff02"), looks := false }, kinds := [], alts := [], laidByText := true, laidKinds := [.data], laidTests := true, laidLooks := .later }
def CacheManyCardSaid : Prop := Claim7.holds Tryz.pinned (.plain (OpenSpec.ofChange cacheManySpec)) cacheManyCard

/-- THE TIED CARD OF 'cubbyholelaw24.CacheNew'. -/
def cacheNewCard : Claim7 := { stood := { row := cacheNewRow, standIns := [], harness := (true, "4bfa7a8a3434ae10c62445a374bc481c4c0d844d56a1e95e60135b473156ff02"), looks := false }, kinds := [], alts := [], laidByText := true, laidKinds := [.data], laidTests := true, laidLooks := .later }
def CacheNewCardSaid : Prop := Claim7.holds Tryz.pinned (.plain (OpenSpec.ofChange cacheNewSpec)) cacheNewCard

/-- THE TIED CARD OF 'cubbyholelaw24.CacheNone'. -/
def cacheNoneCard : Claim7 := { stood := { row := cacheNoneRow, standIns := [], harness := (true, "4bfa7a8a3434ae10c62445a374bc481c4c0d844d56a1e95e60135b473156ff02"), looks := false }, kinds := [], alts := [], laidByText := true, laidKinds := [.data], laidTests := true, laidLooks := .later }
def CacheNoneCardSaid : Prop := Claim7.holds Tryz.pinned (.plain (OpenSpec.ofChange cacheNoneSpec)) cacheNoneCard

/-- THE TIED CARD OF 'cubbyholelaw24.CachePlays'. -/
def cachePlaysCard : Claim7 := { stood := { row := cachePlaysRow, standIns := [], harness := (true, "4bfa7a8a3434ae10c62445a374bc481c4c0d844d56a1e95e60135b473156ff02"), looks := false }, kinds := [], alts := [], laidByText := true, laidKinds := [.data], laidTests := true, laidLooks := .later }
def CachePlaysCardSaid : Prop := Claim7.holds Tryz.pinned (.plain (OpenSpec.ofChange cachePlaysSpec)) cachePlaysCard

/-- THE TIED CARD OF 'cubbyholelaw24.CacheRestores'. -/
def cacheRestoresCard : Claim7 := { stood := { row := cacheRestoresRow, standIns := [], harness := (true, "4bfa7a8a3434ae10c62445a374bc481c4c0d844d56a1e95e60135b473156ff02"), looks := false }, kinds := [], alts := [], laidByText := true, laidKinds := [.data], laidTests := true, laidLooks := .later }
def CacheRestoresCardSaid : Prop := Claim7.holds Tryz.pinned (.plain (OpenSpec.ofChange cacheRestoresSpec)) cacheRestoresCard

/-- THE TIED CARD OF 'cubbyholelaw24.CacheSeeds'. -/
def cacheSeedsCard : Claim7 := { stood := { row := cacheSeedsRow, standIns := [], harness := (true, "4bfa7a8a3434ae10c62445a374bc481c4c0d844d56a1e95e60135b473156ff02"), looks := false }, kinds := [], alts := [], laidByText := true, laidKinds := [.data], laidTests := true, laidLooks := .later }
def CacheSeedsCardSaid : Prop := Claim7.holds Tryz.pinned (.plain (OpenSpec.ofChange cacheSeedsSpec)) cacheSeedsCard

/-- THE SECOND FORM's CARD OF 'cubbyholelaw24.CacheHolds'. -/
def cacheHoldsUptoCard : Claim7 := { stood := { row := cacheHoldsUptoRow, standIns := [], harness := (true, "4bfa7a8a3434ae10c62445a374bc481c4c0d844d56a1e95e60135b473156ff02"), looks := false }, kinds := [], alts := [], laidByText := true, laidKinds := [.data], laidTests := true, laidLooks := .later }
def CacheHoldsUptoCardSaid : Prop := Claim7.holds Tryz.pinned (.plain (OpenSpec.upto cacheHoldsSpec)) cacheHoldsUptoCard

/-- THE SECOND FORM's CARD OF 'cubbyholelaw24.CacheMany'. -/
def cacheManyUptoCard : Claim7 := { stood := { row := cacheManyUptoRow, standIns := [], harness := (true, "4bfa7a8a3434ae10c62445a374bc481c4c0d844d56a1e95e60135b473156ff02"), looks := false }, kinds := [], alts := [], laidByText := true, laidKinds := [.data], laidTests := true, laidLooks := .later }
def CacheManyUptoCardSaid : Prop := Claim7.holds Tryz.pinned (.plain (OpenSpec.upto cacheManySpec)) cacheManyUptoCard

/-- THE SECOND FORM's CARD OF 'cubbyholelaw24.CacheNew'. -/
def cacheNewUptoCard : Claim7 := { stood := { row := cacheNewUptoRow, standIns := [], harness := (true, "4bfa7a8a3434ae10c62445a374bc481c4c0d844d56a1e95e60135b473156ff02"), looks := false }, kinds := [], alts := [], laidByText := true, laidKinds := [.data], laidTests := true, laidLooks := .later }
def CacheNewUptoCardSaid : Prop := Claim7.holds Tryz.pinned (.plain (OpenSpec.upto cacheNewSpec)) cacheNewUptoCard

/-- THE SECOND FORM's CARD OF 'cubbyholelaw24.CacheNone'. -/
def cacheNoneUptoCard : Claim7 := { stood := { row := cacheNoneUptoRow, standIns := [], harness := (true, "4bfa7a8a3434ae10c62445a374bc481c4c0d844d56a1e95e60135b473156ff02"), looks := false }, kinds := [], alts := [], laidByText := true, laidKinds := [.data], laidTests := true, laidLooks := .later }
def CacheNoneUptoCardSaid : Prop := Claim7.holds Tryz.pinned (.plain (OpenSpec.upto cacheNoneSpec)) cacheNoneUptoCard

/-- THE SECOND FORM's CARD OF 'cubbyholelaw24.CachePlays'. -/
def cachePlaysUptoCard : Claim7 := { stood := { row := cachePlaysUptoRow, standIns := [], harness := (true, "4bfa7a8a3434ae10c62445a374bc481c4c0d844d56a1e95e60135b473156ff02"), looks := false }, kinds := [], alts := [], laidByText := true, laidKinds := [.data], laidTests := true, laidLooks := .later }
def CachePlaysUptoCardSaid : Prop := Claim7.holds Tryz.pinned (.plain (OpenSpec.upto cachePlaysSpec)) cachePlaysUptoCard

/-- THE SECOND FORM's CARD OF 'cubbyholelaw24.CacheRestores'. -/
def cacheRestoresUptoCard : Claim7 := { stood := { row := cacheRestoresUptoRow, standIns := [], harness := (true, "4bfa7a8a3434ae10c62445a374bc481c4c0d844d56a1e95e60135b473156ff02"), looks := false }, kinds := [], alts := [], laidByText := true, laidKinds := [.data], laidTests := true, laidLooks := .later }
def CacheRestoresUptoCardSaid : Prop := Claim7.holds Tryz.pinned (.plain (OpenSpec.upto cacheRestoresSpec)) cacheRestoresUptoCard

/-- THE SECOND FORM's CARD OF 'cubbyholelaw24.CacheSeeds'. -/
def cacheSeedsUptoCard : Claim7 := { stood := { row := cacheSeedsUptoRow, standIns := [], harness := (true, "4bfa7a8a3434ae10c62445a374bc481c4c0d844d56a1e95e60135b473156ff02"), looks := false }, kinds := [], alts := [], laidByText := true, laidKinds := [.data], laidTests := true, laidLooks := .later }
def CacheSeedsUptoCardSaid : Prop := Claim7.holds Tryz.pinned (.plain (OpenSpec.upto cacheSeedsSpec)) cacheSeedsUptoCard
end Rows
end Go.Proofs.YtpplkcnknabofaaGreatDoor
