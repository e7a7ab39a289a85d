/-
  NARROWER THAN 'FOR EVERY INPUT', by the rows' own cells (each row's printed sentence says how): CascadeHolds: laid · CascadeJumps: laid · CascadeNil: laid · CascadePlays: laid · DueHolds: laid · DueNil: laid · DueNumbers: laid.
  DERIVED. THE GIVEN ROWS OF THIS SEAT. 7 by the template 'for every input the law returns true; each argument reads behind the call as it read before'; 0 by the template 'total and deterministic' (their statements: YtlalpenfgkfkpaaDoorTotals.lean).
  GIVEN WITH THE SEED: the statements are not yours to turn. If you find one false, say at which input.
  Laid BY PROGRAM, IN A SANDBOX (cutbox-rows.mjs): the forced cells as the released guide's own fill.sh prints them over the translation 248748375f076aab… (all of the seat's roots in one cut). By AI agents, Wed Nov 11 2026. No macro, syntax, notation, axiom, sorry.
-/
import Derived.Test.YtlalpenfgkfkpaaDoorChecked
import GoSem.Claim
import GoSem.ClaimJoined
import GoSem.ClaimMapViews
import Derived.JoinedTies
import Derived.KernelRfl
namespace Go.Proofs.YtlalpenfgkfkpaaDoor
/- THE CELL 'sum', in the pinned program and in every row, IS THE sha256 OF THE DUMP (.gsa) THAT YtlalpenfgkfkpaaDoorProg.lean LOADS. Nothing in Lean hashes anything: it is a label: what it is worth is what the hold of that sum in a sandbox is worth. -/
noncomputable def Tryd.pinned : Pinned := { name := "ytlalpenfgkfkpaadoor", sum := "248748375f076aab84ccc1863851a52fcf7c47032c910772a06cfc11d0fa688c", checked := Tryd.checked }
namespace Rows
def none {H : Type} : Left H := { results := [], args := [] }

/- WHAT THE LISTED PACKAGE-LEVEL VARIABLES READ AS WHEN THE CALL BEGINS. Each datum BY PROGRAM (the guide's laid-datum.mjs) off the statement by which the dump's own 'gosem.cut.vars' lays the variable. In a bare row this is a premise. The card (YtlalpenfgkfkpaaDoorCards.lean) ties it to the program's text. -/
def laid_math_bits_deBruijn64tab {H : Type} : DataW H := .agg [.lit (.int .u8 0), .lit (.int .u8 1), .lit (.int .u8 56), .lit (.int .u8 2), .lit (.int .u8 57), .lit (.int .u8 49), .lit (.int .u8 28), .lit (.int .u8 3), .lit (.int .u8 61), .lit (.int .u8 58), .lit (.int .u8 42), .lit (.int .u8 50), .lit (.int .u8 38), .lit (.int .u8 29), .lit (.int .u8 17), .lit (.int .u8 4), .lit (.int .u8 62), .lit (.int .u8 47), .lit (.int .u8 59), .lit (.int .u8 36), .lit (.int .u8 45), .lit (.int .u8 43), .lit (.int .u8 51), .lit (.int .u8 22), .lit (.int .u8 53), .lit (.int .u8 39), .lit (.int .u8 33), .lit (.int .u8 30), .lit (.int .u8 24), .lit (.int .u8 18), .lit (.int .u8 12), .lit (.int .u8 5), .lit (.int .u8 63), .lit (.int .u8 55), .lit (.int .u8 48), .lit (.int .u8 27), .lit (.int .u8 60), .lit (.int .u8 41), .lit (.int .u8 37), .lit (.int .u8 16), .lit (.int .u8 46), .lit (.int .u8 35), .lit (.int .u8 44), .lit (.int .u8 21), .lit (.int .u8 52), .lit (.int .u8 32), .lit (.int .u8 23), .lit (.int .u8 11), .lit (.int .u8 54), .lit (.int .u8 26), .lit (.int .u8 40), .lit (.int .u8 15), .lit (.int .u8 34), .lit (.int .u8 20), .lit (.int .u8 31), .lit (.int .u8 10), .lit (.int .u8 25), .lit (.int .u8 14), .lit (.int .u8 19), .lit (.int .u8 9), .lit (.int .u8 13), .lit (.int .u8 8), .lit (.int .u8 7), .lit (.int .u8 6)]

/-- 'cubbyholelaw20.CascadeHolds': WHATEVER THE INPUT: true; the input reads as it did. -/
def cascadeHoldsSpec : ChangeSpec := { name := "cascadeHolds", fn := fun _ => fun
  | [d1, d2, d3, d4] => { results := [.lit (.bool true)], args := [d1, d2, d3, d4] }
  | _ => none }
def cascadeHoldsRow : OpenClaim := { program := "ytlalpenfgkfkpaadoor", sum := "248748375f076aab84ccc1863851a52fcf7c47032c910772a06cfc11d0fa688c", func := "cubbyhole/cubbyholelaw20.CascadeHolds", spec := "cascadeHolds", unfollowed := true, recurses := true, named := ["math/bits.deBruijn64tab"], apart := false, laid := [("math/bits.deBruijn64tab", laid_math_bits_deBruijn64tab)] }
def CascadeHoldsSaid : Prop := cascadeHoldsRow.holds Tryd.pinned (OpenSpec.ofChange cascadeHoldsSpec)

/-- ITS FALSE NEIGHBOUR: 'it returns false'. Refute it at one input. -/
def cascadeHoldsWrong : ChangeSpec := { name := "cascadeHolds", fn := fun _ => fun
  | [d1, d2, d3, d4] => { results := [.lit (.bool false)], args := [d1, d2, d3, d4] }
  | _ => none }
def CascadeHoldsWrongFalsely : Prop := cascadeHoldsRow.holds Tryd.pinned (OpenSpec.ofChange cascadeHoldsWrong)

/-- 'cubbyholelaw20.CascadeJumps': WHATEVER THE INPUT: true; the input reads as it did. -/
def cascadeJumpsSpec : ChangeSpec := { name := "cascadeJumps", fn := fun _ => fun
  | [d1, d2, d3, d4] => { results := [.lit (.bool true)], args := [d1, d2, d3, d4] }
  | _ => none }
def cascadeJumpsRow : OpenClaim := { program := "ytlalpenfgkfkpaadoor", sum := "248748375f076aab84ccc1863851a52fcf7c47032c910772a06cfc11d0fa688c", func := "cubbyhole/cubbyholelaw20.CascadeJumps", spec := "cascadeJumps", unfollowed := true, recurses := true, named := ["math/bits.deBruijn64tab"], apart := false, laid := [("math/bits.deBruijn64tab", laid_math_bits_deBruijn64tab)] }
def CascadeJumpsSaid : Prop := cascadeJumpsRow.holds Tryd.pinned (OpenSpec.ofChange cascadeJumpsSpec)

/-- ITS FALSE NEIGHBOUR: 'it returns false'. Refute it at one input. -/
def cascadeJumpsWrong : ChangeSpec := { name := "cascadeJumps", fn := fun _ => fun
  | [d1, d2, d3, d4] => { results := [.lit (.bool false)], args := [d1, d2, d3, d4] }
  | _ => none }
def CascadeJumpsWrongFalsely : Prop := cascadeJumpsRow.holds Tryd.pinned (OpenSpec.ofChange cascadeJumpsWrong)

/-- 'cubbyholelaw20.CascadeNil': WHATEVER THE INPUT: true; the input reads as it did. -/
def cascadeNilSpec : ChangeSpec := { name := "cascadeNil", fn := fun _ => fun
  | [d] => { results := [.lit (.bool true)], args := [d] }
  | _ => none }
def cascadeNilRow : OpenClaim := { program := "ytlalpenfgkfkpaadoor", sum := "248748375f076aab84ccc1863851a52fcf7c47032c910772a06cfc11d0fa688c", func := "cubbyhole/cubbyholelaw20.CascadeNil", spec := "cascadeNil", unfollowed := true, recurses := true, named := ["math/bits.deBruijn64tab"], apart := false, laid := [("math/bits.deBruijn64tab", laid_math_bits_deBruijn64tab)] }
def CascadeNilSaid : Prop := cascadeNilRow.holds Tryd.pinned (OpenSpec.ofChange cascadeNilSpec)

/-- ITS FALSE NEIGHBOUR: 'it returns false'. Refute it at one input. -/
def cascadeNilWrong : ChangeSpec := { name := "cascadeNil", fn := fun _ => fun
  | [d] => { results := [.lit (.bool false)], args := [d] }
  | _ => none }
def CascadeNilWrongFalsely : Prop := cascadeNilRow.holds Tryd.pinned (OpenSpec.ofChange cascadeNilWrong)

/-- 'cubbyholelaw20.CascadePlays': WHATEVER THE INPUT: true; the input reads as it did. -/
def cascadePlaysSpec : ChangeSpec := { name := "cascadePlays", fn := fun _ => fun
  | [d1, d2] => { results := [.lit (.bool true)], args := [d1, d2] }
  | _ => none }
def cascadePlaysRow : OpenClaim := { program := "ytlalpenfgkfkpaadoor", sum := "248748375f076aab84ccc1863851a52fcf7c47032c910772a06cfc11d0fa688c", func := "cubbyhole/cubbyholelaw20.CascadePlays", spec := "cascadePlays", unfollowed := true, recurses := true, named := ["math/bits.deBruijn64tab"], apart := false, laid := [("math/bits.deBruijn64tab", laid_math_bits_deBruijn64tab)] }
def CascadePlaysSaid : Prop := cascadePlaysRow.holds Tryd.pinned (OpenSpec.ofChange cascadePlaysSpec)

/-- ITS FALSE NEIGHBOUR: 'it returns false'. Refute it at one input. -/
def cascadePlaysWrong : ChangeSpec := { name := "cascadePlays", fn := fun _ => fun
  | [d1, d2] => { results := [.lit (.bool false)], args := [d1, d2] }
  | _ => none }
def CascadePlaysWrongFalsely : Prop := cascadePlaysRow.holds Tryd.pinned (OpenSpec.ofChange cascadePlaysWrong)

/-- 'cubbyholelaw21.DueHolds': WHATEVER THE INPUT: true; the input reads as it did. -/
def dueHoldsSpec : ChangeSpec := { name := "dueHolds", fn := fun _ => fun
  | [d1, d2] => { results := [.lit (.bool true)], args := [d1, d2] }
  | _ => none }
def dueHoldsRow : OpenClaim := { program := "ytlalpenfgkfkpaadoor", sum := "248748375f076aab84ccc1863851a52fcf7c47032c910772a06cfc11d0fa688c", func := "cubbyhole/cubbyholelaw21.DueHolds", spec := "dueHolds", unfollowed := true, recurses := true, named := ["math/bits.deBruijn64tab"], apart := false, laid := [("math/bits.deBruijn64tab", laid_math_bits_deBruijn64tab)] }
def DueHoldsSaid : Prop := dueHoldsRow.holds Tryd.pinned (OpenSpec.ofChange dueHoldsSpec)

/-- ITS FALSE NEIGHBOUR: 'it returns false'. Refute it at one input. -/
def dueHoldsWrong : ChangeSpec := { name := "dueHolds", fn := fun _ => fun
  | [d1, d2] => { results := [.lit (.bool false)], args := [d1, d2] }
  | _ => none }
def DueHoldsWrongFalsely : Prop := dueHoldsRow.holds Tryd.pinned (OpenSpec.ofChange dueHoldsWrong)

/-- 'cubbyholelaw21.DueNil': WHATEVER THE INPUT: true; the input reads as it did. -/
def dueNilSpec : ChangeSpec := { name := "dueNil", fn := fun _ => fun
  | [d1, d2, d3] => { results := [.lit (.bool true)], args := [d1, d2, d3] }
  | _ => none }
def dueNilRow : OpenClaim := { program := "ytlalpenfgkfkpaadoor", sum := "248748375f076aab84ccc1863851a52fcf7c47032c910772a06cfc11d0fa688c", func := "cubbyhole/cubbyholelaw21.DueNil", spec := "dueNil", unfollowed := true, recurses := true, named := ["math/bits.deBruijn64tab"], apart := false, laid := [("math/bits.deBruijn64tab", laid_math_bits_deBruijn64tab)] }
def DueNilSaid : Prop := dueNilRow.holds Tryd.pinned (OpenSpec.ofChange dueNilSpec)

/-- ITS FALSE NEIGHBOUR: 'it returns false'. Refute it at one input. -/
def dueNilWrong : ChangeSpec := { name := "dueNil", fn := fun _ => fun
  | [d1, d2, d3] => { results := [.lit (.bool false)], args := [d1, d2, d3] }
  | _ => none }
def DueNilWrongFalsely : Prop := dueNilRow.holds Tryd.pinned (OpenSpec.ofChange dueNilWrong)

/-- 'cubbyholelaw21.DueNumbers': WHATEVER THE INPUT: true; the input reads as it did. -/
def dueNumbersSpec : ChangeSpec := { name := "dueNumbers", fn := fun _ => fun
  | [d1, d2, d3, d4] => { results := [.lit (.bool true)], args := [d1, d2, d3, d4] }
  | _ => none }
def dueNumbersRow : OpenClaim := { program := "ytlalpenfgkfkpaadoor", sum := "248748375f076aab84ccc1863851a52fcf7c47032c910772a06cfc11d0fa688c", func := "cubbyhole/cubbyholelaw21.DueNumbers", spec := "dueNumbers", unfollowed := true, recurses := true, named := ["math/bits.deBruijn64tab"], apart := false, laid := [("math/bits.deBruijn64tab", laid_math_bits_deBruijn64tab)] }
def DueNumbersSaid : Prop := dueNumbersRow.holds Tryd.pinned (OpenSpec.ofChange dueNumbersSpec)

/-- ITS FALSE NEIGHBOUR: 'it returns false'. Refute it at one input. -/
def dueNumbersWrong : ChangeSpec := { name := "dueNumbers", fn := fun _ => fun
  | [d1, d2, d3, d4] => { results := [.lit (.bool false)], args := [d1, d2, d3, d4] }
  | _ => none }
def DueNumbersWrongFalsely : Prop := dueNumbersRow.holds Tryd.pinned (OpenSpec.ofChange dueNumbersWrong)

/- THE SECOND FORM. 'bulk': how many values and letters a reading holds, each counted each time it is reached (what is shared counts as often as it is met; a slice's spare places count too). A statement '..UptoSaid' is the law's where the arguments, and the package variables that the reading takes, are together of bulk at most 1048576: NARROWER than '..Said'. Prove '..Said' where nothing that the law and all that it calls make is longer than what came in: it says more and counts as full. Else prove '..UptoSaid'. A law counts once. -/
mutual
def uptoBulk {H : Type} : DataW H → Nat
  | .lit (.string bytes) => bytes.length + 1
  | .lit _ => 1
  | .nil => 1
  | .ptr d => uptoBulk d + 1
  | .slice elems spare => uptoBulkAll elems + uptoBulkAll spare + 1
  | .agg parts => uptoBulkAll parts + 1
  | .iface _ d => uptoBulk d + 1
  | .map entries => uptoBulkEntries entries + 1
  | .held _ => 1
def uptoBulkAll {H : Type} : List (DataW H) → Nat
  | [] => 0
  | d :: r => uptoBulk d + uptoBulkAll r
def uptoBulkEntries {H : Type} : List (Lit × DataW H) → Nat
  | [] => 0
  | x :: r => uptoBulkEntry x + uptoBulkEntries r
def uptoBulkEntry {H : Type} : Lit × DataW H → Nat
  | (.string bytes, d) => bytes.length + uptoBulk d + 1
  | (_, d) => uptoBulk d + 1
 end
def uptoSmall : (H : Type) → List (DataW H) → Bool := fun _ ds => decide (uptoBulkAll ds ≤ 1048576)
def OpenSpec.upto (s : _root_.Go.ChangeSpec) : _root_.Go.OpenSpec := { _root_.Go.OpenSpec.ofChange s with cond := some uptoSmall }

/-- 'cubbyholelaw20.CascadeHolds', WHERE WHAT IT READS IS OF BULK AT MOST 1048576: true; the input reads as it did. -/
def cascadeHoldsUptoRow : OpenClaim := { program := "ytlalpenfgkfkpaadoor", sum := "248748375f076aab84ccc1863851a52fcf7c47032c910772a06cfc11d0fa688c", func := "cubbyhole/cubbyholelaw20.CascadeHolds", spec := "cascadeHolds", unfollowed := true, recurses := true, named := ["math/bits.deBruijn64tab"], apart := false, laid := [("math/bits.deBruijn64tab", laid_math_bits_deBruijn64tab)], narrowed := true }
def CascadeHoldsUptoSaid : Prop := cascadeHoldsUptoRow.holds Tryd.pinned (OpenSpec.upto cascadeHoldsSpec)

/-- 'cubbyholelaw20.CascadeJumps', WHERE WHAT IT READS IS OF BULK AT MOST 1048576: true; the input reads as it did. -/
def cascadeJumpsUptoRow : OpenClaim := { program := "ytlalpenfgkfkpaadoor", sum := "248748375f076aab84ccc1863851a52fcf7c47032c910772a06cfc11d0fa688c", func := "cubbyhole/cubbyholelaw20.CascadeJumps", spec := "cascadeJumps", unfollowed := true, recurses := true, named := ["math/bits.deBruijn64tab"], apart := false, laid := [("math/bits.deBruijn64tab", laid_math_bits_deBruijn64tab)], narrowed := true }
def CascadeJumpsUptoSaid : Prop := cascadeJumpsUptoRow.holds Tryd.pinned (OpenSpec.upto cascadeJumpsSpec)

/-- 'cubbyholelaw20.CascadeNil', WHERE WHAT IT READS IS OF BULK AT MOST 1048576: true; the input reads as it did. -/
def cascadeNilUptoRow : OpenClaim := { program := "ytlalpenfgkfkpaadoor", sum := "248748375f076aab84ccc1863851a52fcf7c47032c910772a06cfc11d0fa688c", func := "cubbyhole/cubbyholelaw20.CascadeNil", spec := "cascadeNil", unfollowed := true, recurses := true, named := ["math/bits.deBruijn64tab"], apart := false, laid := [("math/bits.deBruijn64tab", laid_math_bits_deBruijn64tab)], narrowed := true }
def CascadeNilUptoSaid : Prop := cascadeNilUptoRow.holds Tryd.pinned (OpenSpec.upto cascadeNilSpec)

/-- 'cubbyholelaw20.CascadePlays', WHERE WHAT IT READS IS OF BULK AT MOST 1048576: true; the input reads as it did. -/
def cascadePlaysUptoRow : OpenClaim := { program := "ytlalpenfgkfkpaadoor", sum := "248748375f076aab84ccc1863851a52fcf7c47032c910772a06cfc11d0fa688c", func := "cubbyhole/cubbyholelaw20.CascadePlays", spec := "cascadePlays", unfollowed := true, recurses := true, named := ["math/bits.deBruijn64tab"], apart := false, laid := [("math/bits.deBruijn64tab", laid_math_bits_deBruijn64tab)], narrowed := true }
def CascadePlaysUptoSaid : Prop := cascadePlaysUptoRow.holds Tryd.pinned (OpenSpec.upto cascadePlaysSpec)

/-- 'cubbyholelaw21.DueHolds', WHERE WHAT IT READS IS OF BULK AT MOST 1048576: true; the input reads as it did. -/
def dueHoldsUptoRow : OpenClaim := { program := "ytlalpenfgkfkpaadoor", sum := "248748375f076aab84ccc1863851a52fcf7c47032c910772a06cfc11d0fa688c", func := "cubbyhole/cubbyholelaw21.DueHolds", spec := "dueHolds", unfollowed := true, recurses := true, named := ["math/bits.deBruijn64tab"], apart := false, laid := [("math/bits.deBruijn64tab", laid_math_bits_deBruijn64tab)], narrowed := true }
def DueHoldsUptoSaid : Prop := dueHoldsUptoRow.holds Tryd.pinned (OpenSpec.upto dueHoldsSpec)

/-- 'cubbyholelaw21.DueNil', WHERE WHAT IT READS IS OF BULK AT MOST 1048576: true; the input reads as it did. -/
def dueNilUptoRow : OpenClaim := { program := "ytlalpenfgkfkpaadoor", sum := "248748375f076aab84ccc1863851a52fcf7c47032c910772a06cfc11d0fa688c", func := "cubbyhole/cubbyholelaw21.DueNil", spec := "dueNil", unfollowed := true, recurses := true, named := ["math/bits.deBruijn64tab"], apart := false, laid := [("math/bits.deBruijn64tab", laid_math_bits_deBruijn64tab)], narrowed := true }
def DueNilUptoSaid : Prop := dueNilUptoRow.holds Tryd.pinned (OpenSpec.upto dueNilSpec)

/-- 'cubbyholelaw21.DueNumbers', WHERE WHAT IT READS IS OF BULK AT MOST 1048576: true; the input reads as it did. -/
def dueNumbersUptoRow : OpenClaim := { program := "ytlalpenfgkfkpaadoor", sum := "248748375f076aab84ccc1863851a52fcf7c47032c910772a06cfc11d0fa688c", func := "cubbyhole/cubbyholelaw21.DueNumbers", spec := "dueNumbers", unfollowed := true, recurses := true, named := ["math/bits.deBruijn64tab"], apart := false, laid := [("math/bits.deBruijn64tab", laid_math_bits_deBruijn64tab)], narrowed := true }
def DueNumbersUptoSaid : Prop := dueNumbersUptoRow.holds Tryd.pinned (OpenSpec.upto dueNumbersSpec)

end Rows
end Go.Proofs.YtlalpenfgkfkpaaDoor
