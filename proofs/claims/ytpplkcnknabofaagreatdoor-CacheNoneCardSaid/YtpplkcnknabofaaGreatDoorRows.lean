/-
  NARROWER THAN 'FOR EVERY INPUT', by the rows' own cells (each row's printed sentence says how): CacheHolds: laid · CacheMany: laid · CacheNew: laid · CacheNone: laid · CachePlays: laid · CacheRestores: laid · CacheSeeds: laid.
  DERIVED. THE GIVEN ROWS OF THIS SEAT. 7 by the template 'for every input the law returns true; each argument reads behind the call as it read before'; 0 by the template 'total and deterministic' (their statements: YtpplkcnknabofaaGreatDoorTotals.lean).
  GIVEN WITH THE SEED: the statements are not yours to turn. If you find one false, say at which input.
  Laid BY PROGRAM, IN A SANDBOX (cutbox-rows.mjs): the forced cells as the released guide's own fill.sh prints them over the translation 69cbdde6d99a3251… (all of the seat's roots in one cut). By AI agents, Wed Nov 11 2026. No macro, syntax, notation, axiom, sorry.
-/
import Derived.Test.YtpplkcnknabofaaGreatDoorChecked
import GoSem.Claim
import GoSem.ClaimJoined
import GoSem.ClaimMapViews
import Derived.JoinedTies
import Derived.KernelRfl
namespace Go.Proofs.YtpplkcnknabofaaGreatDoor
/- THE CELL 'sum', in the pinned program and in every row, IS THE sha256 OF THE DUMP (.gsa) THAT YtpplkcnknabofaaGreatDoorProg.lean LOADS. Nothing in Lean hashes anything: it is a label: what it is worth is what the hold of that sum in a sandbox is worth. -/
noncomputable def Tryz.pinned : Pinned := { name := "ytpplkcnknabofaagreatdoor", sum := "69cbdde6d99a325177d5de8cc49d35eff3ee4bc28bd32b47b7f2f3df2c322bc9", checked := Tryz.checked }
namespace Rows
def none {H : Type} : Left H := { results := [], args := [] }

/- WHAT THE LISTED PACKAGE-LEVEL VARIABLES READ AS WHEN THE CALL BEGINS. Each datum BY PROGRAM (the guide's laid-datum.mjs) off the statement by which the dump's own 'gosem.cut.vars' lays the variable. In a bare row this is a premise. The card (YtpplkcnknabofaaGreatDoorCards.lean) ties it to the program's text. -/
def laid_math_bits_deBruijn64tab {H : Type} : DataW H := .agg [.lit (.int .u8 0), .lit (.int .u8 1), .lit (.int .u8 56), .lit (.int .u8 2), .lit (.int .u8 57), .lit (.int .u8 49), .lit (.int .u8 28), .lit (.int .u8 3), .lit (.int .u8 61), .lit (.int .u8 58), .lit (.int .u8 42), .lit (.int .u8 50), .lit (.int .u8 38), .lit (.int .u8 29), .lit (.int .u8 17), .lit (.int .u8 4), .lit (.int .u8 62), .lit (.int .u8 47), .lit (.int .u8 59), .lit (.int .u8 36), .lit (.int .u8 45), .lit (.int .u8 43), .lit (.int .u8 51), .lit (.int .u8 22), .lit (.int .u8 53), .lit (.int .u8 39), .lit (.int .u8 33), .lit (.int .u8 30), .lit (.int .u8 24), .lit (.int .u8 18), .lit (.int .u8 12), .lit (.int .u8 5), .lit (.int .u8 63), .lit (.int .u8 55), .lit (.int .u8 48), .lit (.int .u8 27), .lit (.int .u8 60), .lit (.int .u8 41), .lit (.int .u8 37), .lit (.int .u8 16), .lit (.int .u8 46), .lit (.int .u8 35), .lit (.int .u8 44), .lit (.int .u8 21), .lit (.int .u8 52), .lit (.int .u8 32), .lit (.int .u8 23), .lit (.int .u8 11), .lit (.int .u8 54), .lit (.int .u8 26), .lit (.int .u8 40), .lit (.int .u8 15), .lit (.int .u8 34), .lit (.int .u8 20), .lit (.int .u8 31), .lit (.int .u8 10), .lit (.int .u8 25), .lit (.int .u8 14), .lit (.int .u8 19), .lit (.int .u8 9), .lit (.int .u8 13), .lit (.int .u8 8), .lit (.int .u8 7), .lit (.int .u8 6)]

/-- 'cubbyholelaw24.CacheHolds': WHATEVER THE INPUT: true; the input reads as it did. -/
def cacheHoldsSpec : ChangeSpec := { name := "cacheHolds", fn := fun _ => fun
  | [d1, d2] => { results := [.lit (.bool true)], args := [d1, d2] }
  | _ => none }
def cacheHoldsRow : OpenClaim := { program := "ytpplkcnknabofaagreatdoor", sum := "69cbdde6d99a325177d5de8cc49d35eff3ee4bc28bd32b47b7f2f3df2c322bc9", func := "cubbyhole/cubbyholelaw24.CacheHolds", spec := "cacheHolds", unfollowed := true, recurses := true, named := ["math/bits.deBruijn64tab"], apart := false, laid := [("math/bits.deBruijn64tab", laid_math_bits_deBruijn64tab)] }
def CacheHoldsSaid : Prop := cacheHoldsRow.holds Tryz.pinned (OpenSpec.ofChange cacheHoldsSpec)

/-- ITS FALSE NEIGHBOUR: 'it returns false'. Refute it at one input. -/
def cacheHoldsWrong : ChangeSpec := { name := "cacheHolds", fn := fun _ => fun
  | [d1, d2] => { results := [.lit (.bool false)], args := [d1, d2] }
  | _ => none }
def CacheHoldsWrongFalsely : Prop := cacheHoldsRow.holds Tryz.pinned (OpenSpec.ofChange cacheHoldsWrong)

/-- 'cubbyholelaw24.CacheMany': WHATEVER THE INPUT: true; the input reads as it did. -/
def cacheManySpec : ChangeSpec := { name := "cacheMany", fn := fun _ => fun
  | [d1, d2, d3, d4] => { results := [.lit (.bool true)], args := [d1, d2, d3, d4] }
  | _ => none }
def cacheManyRow : OpenClaim := { program := "ytpplkcnknabofaagreatdoor", sum := "69cbdde6d99a325177d5de8cc49d35eff3ee4bc28bd32b47b7f2f3df2c322bc9", func := "cubbyhole/cubbyholelaw24.CacheMany", spec := "cacheMany", unfollowed := true, recurses := true, named := ["math/bits.deBruijn64tab"], apart := false, laid := [("math/bits.deBruijn64tab", laid_math_bits_deBruijn64tab)] }
def CacheManySaid : Prop := cacheManyRow.holds Tryz.pinned (OpenSpec.ofChange cacheManySpec)

/-- ITS FALSE NEIGHBOUR: 'it returns false'. Refute it at one input. -/
def cacheManyWrong : ChangeSpec := { name := "cacheMany", fn := fun _ => fun
  | [d1, d2, d3, d4] => { results := [.lit (.bool false)], args := [d1, d2, d3, d4] }
  | _ => none }
def CacheManyWrongFalsely : Prop := cacheManyRow.holds Tryz.pinned (OpenSpec.ofChange cacheManyWrong)

/-- 'cubbyholelaw24.CacheNew': WHATEVER THE INPUT: true; the input reads as it did. -/
def cacheNewSpec : ChangeSpec := { name := "cacheNew", fn := fun _ => fun
  | [d] => { results := [.lit (.bool true)], args := [d] }
  | _ => none }
def cacheNewRow : OpenClaim := { program := "ytpplkcnknabofaagreatdoor", sum := "69cbdde6d99a325177d5de8cc49d35eff3ee4bc28bd32b47b7f2f3df2c322bc9", func := "cubbyhole/cubbyholelaw24.CacheNew", spec := "cacheNew", unfollowed := true, recurses := true, named := ["math/bits.deBruijn64tab"], apart := false, laid := [("math/bits.deBruijn64tab", laid_math_bits_deBruijn64tab)] }
def CacheNewSaid : Prop := cacheNewRow.holds Tryz.pinned (OpenSpec.ofChange cacheNewSpec)

/-- ITS FALSE NEIGHBOUR: 'it returns false'. Refute it at one input. -/
def cacheNewWrong : ChangeSpec := { name := "cacheNew", fn := fun _ => fun
  | [d] => { results := [.lit (.bool false)], args := [d] }
  | _ => none }
def CacheNewWrongFalsely : Prop := cacheNewRow.holds Tryz.pinned (OpenSpec.ofChange cacheNewWrong)

/-- 'cubbyholelaw24.CacheNone': WHATEVER THE INPUT: true; the input reads as it did. -/
def cacheNoneSpec : ChangeSpec := { name := "cacheNone", fn := fun _ => fun
  | [d] => { results := [.lit (.bool true)], args := [d] }
  | _ => none }
def cacheNoneRow : OpenClaim := { program := "ytpplkcnknabofaagreatdoor", sum := "69cbdde6d99a325177d5de8cc49d35eff3ee4bc28bd32b47b7f2f3df2c322bc9", func := "cubbyhole/cubbyholelaw24.CacheNone", spec := "cacheNone", unfollowed := true, recurses := true, named := ["math/bits.deBruijn64tab"], apart := false, laid := [("math/bits.deBruijn64tab", laid_math_bits_deBruijn64tab)] }
def CacheNoneSaid : Prop := cacheNoneRow.holds Tryz.pinned (OpenSpec.ofChange cacheNoneSpec)

/-- ITS FALSE NEIGHBOUR: 'it returns false'. Refute it at one input. -/
def cacheNoneWrong : ChangeSpec := { name := "cacheNone", fn := fun _ => fun
  | [d] => { results := [.lit (.bool false)], args := [d] }
  | _ => none }
def CacheNoneWrongFalsely : Prop := cacheNoneRow.holds Tryz.pinned (OpenSpec.ofChange cacheNoneWrong)

/-- 'cubbyholelaw24.CachePlays': WHATEVER THE INPUT: true; the input reads as it did. -/
def cachePlaysSpec : ChangeSpec := { name := "cachePlays", fn := fun _ => fun
  | [d1, d2] => { results := [.lit (.bool true)], args := [d1, d2] }
  | _ => none }
def cachePlaysRow : OpenClaim := { program := "ytpplkcnknabofaagreatdoor", sum := "69cbdde6d99a325177d5de8cc49d35eff3ee4bc28bd32b47b7f2f3df2c322bc9", func := "cubbyhole/cubbyholelaw24.CachePlays", spec := "cachePlays", unfollowed := true, recurses := true, named := ["math/bits.deBruijn64tab"], apart := false, laid := [("math/bits.deBruijn64tab", laid_math_bits_deBruijn64tab)] }
def CachePlaysSaid : Prop := cachePlaysRow.holds Tryz.pinned (OpenSpec.ofChange cachePlaysSpec)

/-- ITS FALSE NEIGHBOUR: 'it returns false'. Refute it at one input. -/
def cachePlaysWrong : ChangeSpec := { name := "cachePlays", fn := fun _ => fun
  | [d1, d2] => { results := [.lit (.bool false)], args := [d1, d2] }
  | _ => none }
def CachePlaysWrongFalsely : Prop := cachePlaysRow.holds Tryz.pinned (OpenSpec.ofChange cachePlaysWrong)

/-- 'cubbyholelaw24.CacheRestores': WHATEVER THE INPUT: true; the input reads as it did. -/
def cacheRestoresSpec : ChangeSpec := { name := "cacheRestores", fn := fun _ => fun
  | [d1, d2] => { results := [.lit (.bool true)], args := [d1, d2] }
  | _ => none }
def cacheRestoresRow : OpenClaim := { program := "ytpplkcnknabofaagreatdoor", sum := "69cbdde6d99a325177d5de8cc49d35eff3ee4bc28bd32b47b7f2f3df2c322bc9", func := "cubbyhole/cubbyholelaw24.CacheRestores", spec := "cacheRestores", unfollowed := true, recurses := true, named := ["math/bits.deBruijn64tab"], apart := false, laid := [("math/bits.deBruijn64tab", laid_math_bits_deBruijn64tab)] }
def CacheRestoresSaid : Prop := cacheRestoresRow.holds Tryz.pinned (OpenSpec.ofChange cacheRestoresSpec)

/-- ITS FALSE NEIGHBOUR: 'it returns false'. Refute it at one input. -/
def cacheRestoresWrong : ChangeSpec := { name := "cacheRestores", fn := fun _ => fun
  | [d1, d2] => { results := [.lit (.bool false)], args := [d1, d2] }
  | _ => none }
def CacheRestoresWrongFalsely : Prop := cacheRestoresRow.holds Tryz.pinned (OpenSpec.ofChange cacheRestoresWrong)

/-- 'cubbyholelaw24.CacheSeeds': WHATEVER THE INPUT: true; the input reads as it did. -/
def cacheSeedsSpec : ChangeSpec := { name := "cacheSeeds", fn := fun _ => fun
  | [d1, d2, d3, d4] => { results := [.lit (.bool true)], args := [d1, d2, d3, d4] }
  | _ => none }
def cacheSeedsRow : OpenClaim := { program := "ytpplkcnknabofaagreatdoor", sum := "69cbdde6d99a325177d5de8cc49d35eff3ee4bc28bd32b47b7f2f3df2c322bc9", func := "cubbyhole/cubbyholelaw24.CacheSeeds", spec := "cacheSeeds", unfollowed := true, recurses := true, named := ["math/bits.deBruijn64tab"], apart := false, laid := [("math/bits.deBruijn64tab", laid_math_bits_deBruijn64tab)] }
def CacheSeedsSaid : Prop := cacheSeedsRow.holds Tryz.pinned (OpenSpec.ofChange cacheSeedsSpec)

/-- ITS FALSE NEIGHBOUR: 'it returns false'. Refute it at one input. -/
def cacheSeedsWrong : ChangeSpec := { name := "cacheSeeds", fn := fun _ => fun
  | [d1, d2, d3, d4] => { results := [.lit (.bool false)], args := [d1, d2, d3, d4] }
  | _ => none }
def CacheSeedsWrongFalsely : Prop := cacheSeedsRow.holds Tryz.pinned (OpenSpec.ofChange cacheSeedsWrong)

/- THE SECOND FORM. 'bulk': how many values and letters a reading holds, each counted each time it is reached (what is shared counts as often as it is met; a slice's spare places count too). A statement '..UptoSaid' is the law's where the arguments, and the package variables that the reading takes, are together of bulk at most 1048576: NARROWER than '..Said'. Prove '..Said' where nothing that the law and all that it calls make is longer than what came in: it says more and counts as full. Else prove '..UptoSaid'. A law counts once. -/
mutual
def uptoBulk {H : Type} : DataW H → Nat
  | .lit (.string bytes) => bytes.length + 1
  | .lit _ => 1
  | .nil => 1
  | .ptr d => uptoBulk d + 1
  | .slice elems spare => uptoBulkAll elems + uptoBulkAll spare + 1
  | .agg parts => uptoBulkAll parts + 1
  | .iface _ d => uptoBulk d + 1
  | .map entries => uptoBulkEntries entries + 1
  | .held _ => 1
def uptoBulkAll {H : Type} : List (DataW H) → Nat
  | [] => 0
  | d :: r => uptoBulk d + uptoBulkAll r
def uptoBulkEntries {H : Type} : List (Lit × DataW H) → Nat
  | [] => 0
  | x :: r => uptoBulkEntry x + uptoBulkEntries r
def uptoBulkEntry {H : Type} : Lit × DataW H → Nat
  | (.string bytes, d) => bytes.length + uptoBulk d + 1
  | (_, d) => uptoBulk d + 1
 end
def uptoSmall : (H : Type) → List (DataW H) → Bool := fun _ ds => decide (uptoBulkAll ds ≤ 1048576)
def OpenSpec.upto (s : _root_.Go.ChangeSpec) : _root_.Go.OpenSpec := { _root_.Go.OpenSpec.ofChange s with cond := some uptoSmall }

/-- 'cubbyholelaw24.CacheHolds', WHERE WHAT IT READS IS OF BULK AT MOST 1048576: true; the input reads as it did. -/
def cacheHoldsUptoRow : OpenClaim := { program := "ytpplkcnknabofaagreatdoor", sum := "69cbdde6d99a325177d5de8cc49d35eff3ee4bc28bd32b47b7f2f3df2c322bc9", func := "cubbyhole/cubbyholelaw24.CacheHolds", spec := "cacheHolds", unfollowed := true, recurses := true, named := ["math/bits.deBruijn64tab"], apart := false, laid := [("math/bits.deBruijn64tab", laid_math_bits_deBruijn64tab)], narrowed := true }
def CacheHoldsUptoSaid : Prop := cacheHoldsUptoRow.holds Tryz.pinned (OpenSpec.upto cacheHoldsSpec)

/-- 'cubbyholelaw24.CacheMany', WHERE WHAT IT READS IS OF BULK AT MOST 1048576: true; the input reads as it did. -/
def cacheManyUptoRow : OpenClaim := { program := "ytpplkcnknabofaagreatdoor", sum := "69cbdde6d99a325177d5de8cc49d35eff3ee4bc28bd32b47b7f2f3df2c322bc9", func := "cubbyhole/cubbyholelaw24.CacheMany", spec := "cacheMany", unfollowed := true, recurses := true, named := ["math/bits.deBruijn64tab"], apart := false, laid := [("math/bits.deBruijn64tab", laid_math_bits_deBruijn64tab)], narrowed := true }
def CacheManyUptoSaid : Prop := cacheManyUptoRow.holds Tryz.pinned (OpenSpec.upto cacheManySpec)

/-- 'cubbyholelaw24.CacheNew', WHERE WHAT IT READS IS OF BULK AT MOST 1048576: true; the input reads as it did. -/
def cacheNewUptoRow : OpenClaim := { program := "ytpplkcnknabofaagreatdoor", sum := "69cbdde6d99a325177d5de8cc49d35eff3ee4bc28bd32b47b7f2f3df2c322bc9", func := "cubbyhole/cubbyholelaw24.CacheNew", spec := "cacheNew", unfollowed := true, recurses := true, named := ["math/bits.deBruijn64tab"], apart := false, laid := [("math/bits.deBruijn64tab", laid_math_bits_deBruijn64tab)], narrowed := true }
def CacheNewUptoSaid : Prop := cacheNewUptoRow.holds Tryz.pinned (OpenSpec.upto cacheNewSpec)

/-- 'cubbyholelaw24.CacheNone', WHERE WHAT IT READS IS OF BULK AT MOST 1048576: true; the input reads as it did. -/
def cacheNoneUptoRow : OpenClaim := { program := "ytpplkcnknabofaagreatdoor", sum := "69cbdde6d99a325177d5de8cc49d35eff3ee4bc28bd32b47b7f2f3df2c322bc9", func := "cubbyhole/cubbyholelaw24.CacheNone", spec := "cacheNone", unfollowed := true, recurses := true, named := ["math/bits.deBruijn64tab"], apart := false, laid := [("math/bits.deBruijn64tab", laid_math_bits_deBruijn64tab)], narrowed := true }
def CacheNoneUptoSaid : Prop := cacheNoneUptoRow.holds Tryz.pinned (OpenSpec.upto cacheNoneSpec)

/-- 'cubbyholelaw24.CachePlays', WHERE WHAT IT READS IS OF BULK AT MOST 1048576: true; the input reads as it did. -/
def cachePlaysUptoRow : OpenClaim := { program := "ytpplkcnknabofaagreatdoor", sum := "69cbdde6d99a325177d5de8cc49d35eff3ee4bc28bd32b47b7f2f3df2c322bc9", func := "cubbyhole/cubbyholelaw24.CachePlays", spec := "cachePlays", unfollowed := true, recurses := true, named := ["math/bits.deBruijn64tab"], apart := false, laid := [("math/bits.deBruijn64tab", laid_math_bits_deBruijn64tab)], narrowed := true }
def CachePlaysUptoSaid : Prop := cachePlaysUptoRow.holds Tryz.pinned (OpenSpec.upto cachePlaysSpec)

/-- 'cubbyholelaw24.CacheRestores', WHERE WHAT IT READS IS OF BULK AT MOST 1048576: true; the input reads as it did. -/
def cacheRestoresUptoRow : OpenClaim := { program := "ytpplkcnknabofaagreatdoor", sum := "69cbdde6d99a325177d5de8cc49d35eff3ee4bc28bd32b47b7f2f3df2c322bc9", func := "cubbyhole/cubbyholelaw24.CacheRestores", spec := "cacheRestores", unfollowed := true, recurses := true, named := ["math/bits.deBruijn64tab"], apart := false, laid := [("math/bits.deBruijn64tab", laid_math_bits_deBruijn64tab)], narrowed := true }
def CacheRestoresUptoSaid : Prop := cacheRestoresUptoRow.holds Tryz.pinned (OpenSpec.upto cacheRestoresSpec)

/-- 'cubbyholelaw24.CacheSeeds', WHERE WHAT IT READS IS OF BULK AT MOST 1048576: true; the input reads as it did. -/
def cacheSeedsUptoRow : OpenClaim := { program := "ytpplkcnknabofaagreatdoor", sum := "69cbdde6d99a325177d5de8cc49d35eff3ee4bc28bd32b47b7f2f3df2c322bc9", func := "cubbyhole/cubbyholelaw24.CacheSeeds", spec := "cacheSeeds", unfollowed := true, recurses := true, named := ["math/bits.deBruijn64tab"], apart := false, laid := [("math/bits.deBruijn64tab", laid_math_bits_deBruijn64tab)], narrowed := true }
def CacheSeedsUptoSaid : Prop := cacheSeedsUptoRow.holds Tryz.pinned (OpenSpec.upto cacheSeedsSpec)

end Rows
end Go.Proofs.YtpplkcnknabofaaGreatDoor
