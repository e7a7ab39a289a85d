/-
  No cell of these rows narrows 'for every input' (looked for: loops, veiled, ifaces, maps, wideKeys, modest, calm, conditions, laid).
  DERIVED. THE GIVEN ROWS OF THIS SEAT. 4 by the template 'for every input the law returns true; each argument reads behind the call as it read before'; 0 by the template 'total and deterministic' (their statements: YtapplindfijngaaGreatTotals.lean).
  GIVEN WITH THE SEED: the statements are not yours to turn. If you find one false, say at which input.
  Laid BY PROGRAM, IN A SANDBOX (cutbox-rows.mjs): the forced cells as the released guide's own fill.sh prints them over the translation d51e78823827ce04… (all of the seat's roots in one cut). By AI agents, Wed Nov 11 2026. No macro, syntax, notation, axiom, sorry.
-/
import Derived.Test.YtapplindfijngaaGreatChecked
import GoSem.Claim
import GoSem.ClaimJoined
import GoSem.ClaimMapViews
import Derived.JoinedTies
import Derived.KernelRfl
namespace Go.Proofs.YtapplindfijngaaGreat
/- THE CELL 'sum', in the pinned program and in every row, IS THE sha256 OF THE DUMP (.gsa) THAT YtapplindfijngaaGreatProg.lean LOADS. Nothing in Lean hashes anything: it is a label: what it is worth is what the hold of that sum in a sandbox is worth. -/
noncomputable def Tryz.pinned : Pinned := { name := "ytapplindfijngaagreat", sum := "d51e78823827ce046a9436d06f1f276ac29de16c1dbd3974f5163468b9e0ae06", checked := Tryz.checked }
namespace Rows
def none {H : Type} : Left H := { results := [], args := [] }

/-- 'cubbyholelaw10.DictGrows': WHATEVER THE INPUT: true; the input reads as it did. -/
def dictGrowsSpec : ChangeSpec := { name := "dictGrows", fn := fun _ => fun
  | [d1, d2, d3, d4] => { results := [.lit (.bool true)], args := [d1, d2, d3, d4] }
  | _ => none }
def dictGrowsRow : OpenClaim := { program := "ytapplindfijngaagreat", sum := "d51e78823827ce046a9436d06f1f276ac29de16c1dbd3974f5163468b9e0ae06", func := "cubbyhole/cubbyholelaw10.DictGrows", spec := "dictGrows", unfollowed := true, recurses := true, apart := false }
def DictGrowsSaid : Prop := dictGrowsRow.holds Tryz.pinned (OpenSpec.ofChange dictGrowsSpec)

/-- ITS FALSE NEIGHBOUR: 'it returns false'. Refute it at one input. -/
def dictGrowsWrong : ChangeSpec := { name := "dictGrows", fn := fun _ => fun
  | [d1, d2, d3, d4] => { results := [.lit (.bool false)], args := [d1, d2, d3, d4] }
  | _ => none }
def DictGrowsWrongFalsely : Prop := dictGrowsRow.holds Tryz.pinned (OpenSpec.ofChange dictGrowsWrong)

/-- 'cubbyholelaw10.DictOf': WHATEVER THE INPUT: true; the input reads as it did. -/
def dictOfSpec : ChangeSpec := { name := "dictOf", fn := fun _ => fun
  | [d1, d2, d3, d4] => { results := [.lit (.bool true)], args := [d1, d2, d3, d4] }
  | _ => none }
def dictOfRow : OpenClaim := { program := "ytapplindfijngaagreat", sum := "d51e78823827ce046a9436d06f1f276ac29de16c1dbd3974f5163468b9e0ae06", func := "cubbyhole/cubbyholelaw10.DictOf", spec := "dictOf", unfollowed := true, recurses := true, apart := false }
def DictOfSaid : Prop := dictOfRow.holds Tryz.pinned (OpenSpec.ofChange dictOfSpec)

/-- ITS FALSE NEIGHBOUR: 'it returns false'. Refute it at one input. -/
def dictOfWrong : ChangeSpec := { name := "dictOf", fn := fun _ => fun
  | [d1, d2, d3, d4] => { results := [.lit (.bool false)], args := [d1, d2, d3, d4] }
  | _ => none }
def DictOfWrongFalsely : Prop := dictOfRow.holds Tryz.pinned (OpenSpec.ofChange dictOfWrong)

/-- 'cubbyholelaw10.DictPlays': WHATEVER THE INPUT: true; the input reads as it did. -/
def dictPlaysSpec : ChangeSpec := { name := "dictPlays", fn := fun _ => fun
  | [d1, d2, d3] => { results := [.lit (.bool true)], args := [d1, d2, d3] }
  | _ => none }
def dictPlaysRow : OpenClaim := { program := "ytapplindfijngaagreat", sum := "d51e78823827ce046a9436d06f1f276ac29de16c1dbd3974f5163468b9e0ae06", func := "cubbyhole/cubbyholelaw10.DictPlays", spec := "dictPlays", unfollowed := true, recurses := true, apart := false }
def DictPlaysSaid : Prop := dictPlaysRow.holds Tryz.pinned (OpenSpec.ofChange dictPlaysSpec)

/-- ITS FALSE NEIGHBOUR: 'it returns false'. Refute it at one input. -/
def dictPlaysWrong : ChangeSpec := { name := "dictPlays", fn := fun _ => fun
  | [d1, d2, d3] => { results := [.lit (.bool false)], args := [d1, d2, d3] }
  | _ => none }
def DictPlaysWrongFalsely : Prop := dictPlaysRow.holds Tryz.pinned (OpenSpec.ofChange dictPlaysWrong)

/-- 'cubbyholelaw11.CompactDicts': WHATEVER THE INPUT: true; the input reads as it did. -/
def compactDictsSpec : ChangeSpec := { name := "compactDicts", fn := fun _ => fun
  | [d1, d2, d3, d4] => { results := [.lit (.bool true)], args := [d1, d2, d3, d4] }
  | _ => none }
def compactDictsRow : OpenClaim := { program := "ytapplindfijngaagreat", sum := "d51e78823827ce046a9436d06f1f276ac29de16c1dbd3974f5163468b9e0ae06", func := "cubbyhole/cubbyholelaw11.CompactDicts", spec := "compactDicts", unfollowed := true, recurses := true, apart := false }
def CompactDictsSaid : Prop := compactDictsRow.holds Tryz.pinned (OpenSpec.ofChange compactDictsSpec)

/-- ITS FALSE NEIGHBOUR: 'it returns false'. Refute it at one input. -/
def compactDictsWrong : ChangeSpec := { name := "compactDicts", fn := fun _ => fun
  | [d1, d2, d3, d4] => { results := [.lit (.bool false)], args := [d1, d2, d3, d4] }
  | _ => none }
def CompactDictsWrongFalsely : Prop := compactDictsRow.holds Tryz.pinned (OpenSpec.ofChange compactDictsWrong)

/- THE SECOND FORM. 'bulk': how many values and letters a reading holds, each counted each time it is reached (what is shared counts as often as it is met; a slice's spare places count too). A statement '..UptoSaid' is the law's where the arguments, and the package variables that the reading takes, are together of bulk at most 1048576: NARROWER than '..Said'. Prove '..Said' where nothing that the law and all that it calls make is longer than what came in: it says more and counts as full. Else prove '..UptoSaid'. A law counts once. -/
mutual
def uptoBulk {H : Type} : DataW H → Nat
  | .lit (.string bytes) => bytes.length + 1
  | .lit _ => 1
  | .nil => 1
  | .ptr d => uptoBulk d + 1
  | .slice elems spare => uptoBulkAll elems + uptoBulkAll spare + 1
  | .agg parts => uptoBulkAll parts + 1
  | .iface _ d => uptoBulk d + 1
  | .map entries => uptoBulkEntries entries + 1
  | .held _ => 1
def uptoBulkAll {H : Type} : List (DataW H) → Nat
  | [] => 0
  | d :: r => uptoBulk d + uptoBulkAll r
def uptoBulkEntries {H : Type} : List (Lit × DataW H) → Nat
  | [] => 0
  | x :: r => uptoBulkEntry x + uptoBulkEntries r
def uptoBulkEntry {H : Type} : Lit × DataW H → Nat
  | (.string bytes, d) => bytes.length + uptoBulk d + 1
  | (_, d) => uptoBulk d + 1
 end
def uptoSmall : (H : Type) → List (DataW H) → Bool := fun _ ds => decide (uptoBulkAll ds ≤ 1048576)
def OpenSpec.upto (s : _root_.Go.ChangeSpec) : _root_.Go.OpenSpec := { _root_.Go.OpenSpec.ofChange s with cond := some uptoSmall }

/-- 'cubbyholelaw10.DictGrows', WHERE WHAT IT READS IS OF BULK AT MOST 1048576: true; the input reads as it did. -/
def dictGrowsUptoRow : OpenClaim := { program := "ytapplindfijngaagreat", sum := "d51e78823827ce046a9436d06f1f276ac29de16c1dbd3974f5163468b9e0ae06", func := "cubbyhole/cubbyholelaw10.DictGrows", spec := "dictGrows", unfollowed := true, recurses := true, apart := false, narrowed := true }
def DictGrowsUptoSaid : Prop := dictGrowsUptoRow.holds Tryz.pinned (OpenSpec.upto dictGrowsSpec)

/-- 'cubbyholelaw10.DictOf', WHERE WHAT IT READS IS OF BULK AT MOST 1048576: true; the input reads as it did. -/
def dictOfUptoRow : OpenClaim := { program := "ytapplindfijngaagreat", sum := "d51e78823827ce046a9436d06f1f276ac29de16c1dbd3974f5163468b9e0ae06", func := "cubbyhole/cubbyholelaw10.DictOf", spec := "dictOf", unfollowed := true, recurses := true, apart := false, narrowed := true }
def DictOfUptoSaid : Prop := dictOfUptoRow.holds Tryz.pinned (OpenSpec.upto dictOfSpec)

/-- 'cubbyholelaw10.DictPlays', WHERE WHAT IT READS IS OF BULK AT MOST 1048576: true; the input reads as it did. -/
def dictPlaysUptoRow : OpenClaim := { program := "ytapplindfijngaagreat", sum := "d51e78823827ce046a9436d06f1f276ac29de16c1dbd3974f5163468b9e0ae06", func := "cubbyhole/cubbyholelaw10.DictPlays", spec := "dictPlays", unfollowed := true, recurses := true, apart := false, narrowed := true }
def DictPlaysUptoSaid : Prop := dictPlaysUptoRow.holds Tryz.pinned (OpenSpec.upto dictPlaysSpec)

/-- 'cubbyholelaw11.CompactDicts', WHERE WHAT IT READS IS OF BULK AT MOST 1048576: true; the input reads as it did. -/
def compactDictsUptoRow : OpenClaim := { program := "ytapplindfijngaagreat", sum := "d51e78823827ce046a9436d06f1f276ac29de16c1dbd3974f5163468b9e0ae06", func := "cubbyhole/cubbyholelaw11.CompactDicts", spec := "compactDicts", unfollowed := true, recurses := true, apart := false, narrowed := true }
def CompactDictsUptoSaid : Prop := compactDictsUptoRow.holds Tryz.pinned (OpenSpec.upto compactDictsSpec)

end Rows
end Go.Proofs.YtapplindfijngaaGreat
