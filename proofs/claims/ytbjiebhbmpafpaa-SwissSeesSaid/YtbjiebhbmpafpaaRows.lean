/-
  No cell of these rows narrows 'for every input' (looked for: loops, veiled, ifaces, maps, wideKeys, modest, calm, conditions, laid).
  DERIVED. THE GIVEN ROWS OF THIS SEAT. 10 by the template 'for every input the law returns true; each argument reads behind the call as it read before'; 0 by the template 'total and deterministic' (their statements: YtbjiebhbmpafpaaTotals.lean).
  GIVEN WITH THE SEED: the statements are not yours to turn. If you find one false, say at which input.
  Laid BY PROGRAM, IN A SANDBOX (cutbox-rows.mjs): the forced cells as the released guide's own fill.sh prints them over the translation d9391fec7bc16a6e… (all of the seat's roots in one cut). By AI agents, Wed Nov 11 2026. No macro, syntax, notation, axiom, sorry.
-/
import Derived.Test.YtbjiebhbmpafpaaChecked
import GoSem.Claim
import GoSem.ClaimJoined
import GoSem.ClaimMapViews
import Derived.JoinedTies
import Derived.KernelRfl
namespace Go.Proofs.Ytbjiebhbmpafpaa
/- THE CELL 'sum', in the pinned program and in every row, IS THE sha256 OF THE DUMP (.gsa) THAT YtbjiebhbmpafpaaProg.lean LOADS. Nothing in Lean hashes anything: it is a label: what it is worth is what the hold of that sum in a sandbox is worth. -/
noncomputable def Try.pinned : Pinned := { name := "ytbjiebhbmpafpaa", sum := "d9391fec7bc16a6e8e6d0771da3d1a1db14964bf4c2e1ba745a9db7019429d6e", checked := Try.checked }
namespace Rows
def none {H : Type} : Left H := { results := [], args := [] }

/-- 'cubbyholelaw11.CompactDue': WHATEVER THE INPUT: true; the input reads as it did. -/
def compactDueSpec : ChangeSpec := { name := "compactDue", fn := fun _ => fun
  | [d1, d2] => { results := [.lit (.bool true)], args := [d1, d2] }
  | _ => none }
def compactDueRow : OpenClaim := { program := "ytbjiebhbmpafpaa", sum := "d9391fec7bc16a6e8e6d0771da3d1a1db14964bf4c2e1ba745a9db7019429d6e", func := "cubbyhole/cubbyholelaw11.CompactDue", spec := "compactDue", unfollowed := true, recurses := true, apart := false }
def CompactDueSaid : Prop := compactDueRow.holds Try.pinned (OpenSpec.ofChange compactDueSpec)

/-- ITS FALSE NEIGHBOUR: 'it returns false'. Refute it at one input. -/
def compactDueWrong : ChangeSpec := { name := "compactDue", fn := fun _ => fun
  | [d1, d2] => { results := [.lit (.bool false)], args := [d1, d2] }
  | _ => none }
def CompactDueWrongFalsely : Prop := compactDueRow.holds Try.pinned (OpenSpec.ofChange compactDueWrong)

/-- 'cubbyholelaw11.CompactThen': WHATEVER THE INPUT: true; the input reads as it did. -/
def compactThenSpec : ChangeSpec := { name := "compactThen", fn := fun _ => fun
  | [d1, d2, d3, d4] => { results := [.lit (.bool true)], args := [d1, d2, d3, d4] }
  | _ => none }
def compactThenRow : OpenClaim := { program := "ytbjiebhbmpafpaa", sum := "d9391fec7bc16a6e8e6d0771da3d1a1db14964bf4c2e1ba745a9db7019429d6e", func := "cubbyhole/cubbyholelaw11.CompactThen", spec := "compactThen", unfollowed := true, recurses := true, apart := false }
def CompactThenSaid : Prop := compactThenRow.holds Try.pinned (OpenSpec.ofChange compactThenSpec)

/-- ITS FALSE NEIGHBOUR: 'it returns false'. Refute it at one input. -/
def compactThenWrong : ChangeSpec := { name := "compactThen", fn := fun _ => fun
  | [d1, d2, d3, d4] => { results := [.lit (.bool false)], args := [d1, d2, d3, d4] }
  | _ => none }
def CompactThenWrongFalsely : Prop := compactThenRow.holds Try.pinned (OpenSpec.ofChange compactThenWrong)

/-- 'cubbyholelaw11.CompactHolds': WHATEVER THE INPUT: true; the input reads as it did. -/
def compactHoldsSpec : ChangeSpec := { name := "compactHolds", fn := fun _ => fun
  | [d1, d2] => { results := [.lit (.bool true)], args := [d1, d2] }
  | _ => none }
def compactHoldsRow : OpenClaim := { program := "ytbjiebhbmpafpaa", sum := "d9391fec7bc16a6e8e6d0771da3d1a1db14964bf4c2e1ba745a9db7019429d6e", func := "cubbyhole/cubbyholelaw11.CompactHolds", spec := "compactHolds", unfollowed := true, recurses := true, apart := false }
def CompactHoldsSaid : Prop := compactHoldsRow.holds Try.pinned (OpenSpec.ofChange compactHoldsSpec)

/-- ITS FALSE NEIGHBOUR: 'it returns false'. Refute it at one input. -/
def compactHoldsWrong : ChangeSpec := { name := "compactHolds", fn := fun _ => fun
  | [d1, d2] => { results := [.lit (.bool false)], args := [d1, d2] }
  | _ => none }
def CompactHoldsWrongFalsely : Prop := compactHoldsRow.holds Try.pinned (OpenSpec.ofChange compactHoldsWrong)

/-- 'cubbyholelaw11.CompactLogs': WHATEVER THE INPUT: true; the input reads as it did. -/
def compactLogsSpec : ChangeSpec := { name := "compactLogs", fn := fun _ => fun
  | [d1, d2] => { results := [.lit (.bool true)], args := [d1, d2] }
  | _ => none }
def compactLogsRow : OpenClaim := { program := "ytbjiebhbmpafpaa", sum := "d9391fec7bc16a6e8e6d0771da3d1a1db14964bf4c2e1ba745a9db7019429d6e", func := "cubbyhole/cubbyholelaw11.CompactLogs", spec := "compactLogs", unfollowed := true, recurses := true, apart := false }
def CompactLogsSaid : Prop := compactLogsRow.holds Try.pinned (OpenSpec.ofChange compactLogsSpec)

/-- ITS FALSE NEIGHBOUR: 'it returns false'. Refute it at one input. -/
def compactLogsWrong : ChangeSpec := { name := "compactLogs", fn := fun _ => fun
  | [d1, d2] => { results := [.lit (.bool false)], args := [d1, d2] }
  | _ => none }
def CompactLogsWrongFalsely : Prop := compactLogsRow.holds Try.pinned (OpenSpec.ofChange compactLogsWrong)

/-- 'cubbyholelaw07.SwissFills': WHATEVER THE INPUT: true; the input reads as it did. -/
def swissFillsSpec : ChangeSpec := { name := "swissFills", fn := fun _ => fun
  | [d1, d2, d3] => { results := [.lit (.bool true)], args := [d1, d2, d3] }
  | _ => none }
def swissFillsRow : OpenClaim := { program := "ytbjiebhbmpafpaa", sum := "d9391fec7bc16a6e8e6d0771da3d1a1db14964bf4c2e1ba745a9db7019429d6e", func := "cubbyhole/cubbyholelaw07.SwissFills", spec := "swissFills", unfollowed := true, recurses := true, apart := false }
def SwissFillsSaid : Prop := swissFillsRow.holds Try.pinned (OpenSpec.ofChange swissFillsSpec)

/-- ITS FALSE NEIGHBOUR: 'it returns false'. Refute it at one input. -/
def swissFillsWrong : ChangeSpec := { name := "swissFills", fn := fun _ => fun
  | [d1, d2, d3] => { results := [.lit (.bool false)], args := [d1, d2, d3] }
  | _ => none }
def SwissFillsWrongFalsely : Prop := swissFillsRow.holds Try.pinned (OpenSpec.ofChange swissFillsWrong)

/-- 'cubbyholelaw07.SwissHolds': WHATEVER THE INPUT: true; the input reads as it did. -/
def swissHoldsSpec : ChangeSpec := { name := "swissHolds", fn := fun _ => fun
  | [d1, d2, d3] => { results := [.lit (.bool true)], args := [d1, d2, d3] }
  | _ => none }
def swissHoldsRow : OpenClaim := { program := "ytbjiebhbmpafpaa", sum := "d9391fec7bc16a6e8e6d0771da3d1a1db14964bf4c2e1ba745a9db7019429d6e", func := "cubbyhole/cubbyholelaw07.SwissHolds", spec := "swissHolds", unfollowed := true, recurses := true, apart := false }
def SwissHoldsSaid : Prop := swissHoldsRow.holds Try.pinned (OpenSpec.ofChange swissHoldsSpec)

/-- ITS FALSE NEIGHBOUR: 'it returns false'. Refute it at one input. -/
def swissHoldsWrong : ChangeSpec := { name := "swissHolds", fn := fun _ => fun
  | [d1, d2, d3] => { results := [.lit (.bool false)], args := [d1, d2, d3] }
  | _ => none }
def SwissHoldsWrongFalsely : Prop := swissHoldsRow.holds Try.pinned (OpenSpec.ofChange swissHoldsWrong)

/-- 'cubbyholelaw07.SwissSees': WHATEVER THE INPUT: true; the input reads as it did. -/
def swissSeesSpec : ChangeSpec := { name := "swissSees", fn := fun _ => fun
  | [d1, d2, d3, d4] => { results := [.lit (.bool true)], args := [d1, d2, d3, d4] }
  | _ => none }
def swissSeesRow : OpenClaim := { program := "ytbjiebhbmpafpaa", sum := "d9391fec7bc16a6e8e6d0771da3d1a1db14964bf4c2e1ba745a9db7019429d6e", func := "cubbyhole/cubbyholelaw07.SwissSees", spec := "swissSees", unfollowed := true, recurses := true, apart := false }
def SwissSeesSaid : Prop := swissSeesRow.holds Try.pinned (OpenSpec.ofChange swissSeesSpec)

/-- ITS FALSE NEIGHBOUR: 'it returns false'. Refute it at one input. -/
def swissSeesWrong : ChangeSpec := { name := "swissSees", fn := fun _ => fun
  | [d1, d2, d3, d4] => { results := [.lit (.bool false)], args := [d1, d2, d3, d4] }
  | _ => none }
def SwissSeesWrongFalsely : Prop := swissSeesRow.holds Try.pinned (OpenSpec.ofChange swissSeesWrong)

/-- 'cubbyholelaw07.SwissPlays': WHATEVER THE INPUT: true; the input reads as it did. -/
def swissPlaysSpec : ChangeSpec := { name := "swissPlays", fn := fun _ => fun
  | [d1, d2] => { results := [.lit (.bool true)], args := [d1, d2] }
  | _ => none }
def swissPlaysRow : OpenClaim := { program := "ytbjiebhbmpafpaa", sum := "d9391fec7bc16a6e8e6d0771da3d1a1db14964bf4c2e1ba745a9db7019429d6e", func := "cubbyhole/cubbyholelaw07.SwissPlays", spec := "swissPlays", unfollowed := true, recurses := true, apart := false }
def SwissPlaysSaid : Prop := swissPlaysRow.holds Try.pinned (OpenSpec.ofChange swissPlaysSpec)

/-- ITS FALSE NEIGHBOUR: 'it returns false'. Refute it at one input. -/
def swissPlaysWrong : ChangeSpec := { name := "swissPlays", fn := fun _ => fun
  | [d1, d2] => { results := [.lit (.bool false)], args := [d1, d2] }
  | _ => none }
def SwissPlaysWrongFalsely : Prop := swissPlaysRow.holds Try.pinned (OpenSpec.ofChange swissPlaysWrong)

/-- 'cubbyholelaw07.SwissNil': WHATEVER THE INPUT: true; the input reads as it did. -/
def swissNilSpec : ChangeSpec := { name := "swissNil", fn := fun _ => fun
  | [d1, d2, d3] => { results := [.lit (.bool true)], args := [d1, d2, d3] }
  | _ => none }
def swissNilRow : OpenClaim := { program := "ytbjiebhbmpafpaa", sum := "d9391fec7bc16a6e8e6d0771da3d1a1db14964bf4c2e1ba745a9db7019429d6e", func := "cubbyhole/cubbyholelaw07.SwissNil", spec := "swissNil", unfollowed := true, recurses := true, apart := false }
def SwissNilSaid : Prop := swissNilRow.holds Try.pinned (OpenSpec.ofChange swissNilSpec)

/-- ITS FALSE NEIGHBOUR: 'it returns false'. Refute it at one input. -/
def swissNilWrong : ChangeSpec := { name := "swissNil", fn := fun _ => fun
  | [d1, d2, d3] => { results := [.lit (.bool false)], args := [d1, d2, d3] }
  | _ => none }
def SwissNilWrongFalsely : Prop := swissNilRow.holds Try.pinned (OpenSpec.ofChange swissNilWrong)

/-- 'cubbyholelaw11.CompactNil': WHATEVER THE INPUT: true; the input reads as it did. -/
def compactNilSpec : ChangeSpec := { name := "compactNil", fn := fun _ => fun
  | [d] => { results := [.lit (.bool true)], args := [d] }
  | _ => none }
def compactNilRow : OpenClaim := { program := "ytbjiebhbmpafpaa", sum := "d9391fec7bc16a6e8e6d0771da3d1a1db14964bf4c2e1ba745a9db7019429d6e", func := "cubbyhole/cubbyholelaw11.CompactNil", spec := "compactNil", unfollowed := true, recurses := true, apart := false }
def CompactNilSaid : Prop := compactNilRow.holds Try.pinned (OpenSpec.ofChange compactNilSpec)

/-- ITS FALSE NEIGHBOUR: 'it returns false'. Refute it at one input. -/
def compactNilWrong : ChangeSpec := { name := "compactNil", fn := fun _ => fun
  | [d] => { results := [.lit (.bool false)], args := [d] }
  | _ => none }
def CompactNilWrongFalsely : Prop := compactNilRow.holds Try.pinned (OpenSpec.ofChange compactNilWrong)

/- THE SECOND FORM. 'bulk': how many values and letters a reading holds, each counted each time it is reached (what is shared counts as often as it is met; a slice's spare places count too). A statement '..UptoSaid' is the law's where the arguments, and the package variables that the reading takes, are together of bulk at most 1048576: NARROWER than '..Said'. Prove '..Said' where nothing that the law and all that it calls make is longer than what came in: it says more and counts as full. Else prove '..UptoSaid'. A law counts once. -/
mutual
def uptoBulk {H : Type} : DataW H → Nat
  | .lit (.string bytes) => bytes.length + 1
  | .lit _ => 1
  | .nil => 1
  | .ptr d => uptoBulk d + 1
  | .slice elems spare => uptoBulkAll elems + uptoBulkAll spare + 1
  | .agg parts => uptoBulkAll parts + 1
  | .iface _ d => uptoBulk d + 1
  | .map entries => uptoBulkEntries entries + 1
  | .held _ => 1
def uptoBulkAll {H : Type} : List (DataW H) → Nat
  | [] => 0
  | d :: r => uptoBulk d + uptoBulkAll r
def uptoBulkEntries {H : Type} : List (Lit × DataW H) → Nat
  | [] => 0
  | x :: r => uptoBulkEntry x + uptoBulkEntries r
def uptoBulkEntry {H : Type} : Lit × DataW H → Nat
  | (.string bytes, d) => bytes.length + uptoBulk d + 1
  | (_, d) => uptoBulk d + 1
 end
def uptoSmall : (H : Type) → List (DataW H) → Bool := fun _ ds => decide (uptoBulkAll ds ≤ 1048576)
def OpenSpec.upto (s : _root_.Go.ChangeSpec) : _root_.Go.OpenSpec := { _root_.Go.OpenSpec.ofChange s with cond := some uptoSmall }

/-- 'cubbyholelaw11.CompactDue', WHERE WHAT IT READS IS OF BULK AT MOST 1048576: true; the input reads as it did. -/
def compactDueUptoRow : OpenClaim := { program := "ytbjiebhbmpafpaa", sum := "d9391fec7bc16a6e8e6d0771da3d1a1db14964bf4c2e1ba745a9db7019429d6e", func := "cubbyhole/cubbyholelaw11.CompactDue", spec := "compactDue", unfollowed := true, recurses := true, apart := false, narrowed := true }
def CompactDueUptoSaid : Prop := compactDueUptoRow.holds Try.pinned (OpenSpec.upto compactDueSpec)

/-- 'cubbyholelaw11.CompactThen', WHERE WHAT IT READS IS OF BULK AT MOST 1048576: true; the input reads as it did. -/
def compactThenUptoRow : OpenClaim := { program := "ytbjiebhbmpafpaa", sum := "d9391fec7bc16a6e8e6d0771da3d1a1db14964bf4c2e1ba745a9db7019429d6e", func := "cubbyhole/cubbyholelaw11.CompactThen", spec := "compactThen", unfollowed := true, recurses := true, apart := false, narrowed := true }
def CompactThenUptoSaid : Prop := compactThenUptoRow.holds Try.pinned (OpenSpec.upto compactThenSpec)

/-- 'cubbyholelaw11.CompactHolds', WHERE WHAT IT READS IS OF BULK AT MOST 1048576: true; the input reads as it did. -/
def compactHoldsUptoRow : OpenClaim := { program := "ytbjiebhbmpafpaa", sum := "d9391fec7bc16a6e8e6d0771da3d1a1db14964bf4c2e1ba745a9db7019429d6e", func := "cubbyhole/cubbyholelaw11.CompactHolds", spec := "compactHolds", unfollowed := true, recurses := true, apart := false, narrowed := true }
def CompactHoldsUptoSaid : Prop := compactHoldsUptoRow.holds Try.pinned (OpenSpec.upto compactHoldsSpec)

/-- 'cubbyholelaw11.CompactLogs', WHERE WHAT IT READS IS OF BULK AT MOST 1048576: true; the input reads as it did. -/
def compactLogsUptoRow : OpenClaim := { program := "ytbjiebhbmpafpaa", sum := "d9391fec7bc16a6e8e6d0771da3d1a1db14964bf4c2e1ba745a9db7019429d6e", func := "cubbyhole/cubbyholelaw11.CompactLogs", spec := "compactLogs", unfollowed := true, recurses := true, apart := false, narrowed := true }
def CompactLogsUptoSaid : Prop := compactLogsUptoRow.holds Try.pinned (OpenSpec.upto compactLogsSpec)

/-- 'cubbyholelaw07.SwissFills', WHERE WHAT IT READS IS OF BULK AT MOST 1048576: true; the input reads as it did. -/
def swissFillsUptoRow : OpenClaim := { program := "ytbjiebhbmpafpaa", sum := "d9391fec7bc16a6e8e6d0771da3d1a1db14964bf4c2e1ba745a9db7019429d6e", func := "cubbyhole/cubbyholelaw07.SwissFills", spec := "swissFills", unfollowed := true, recurses := true, apart := false, narrowed := true }
def SwissFillsUptoSaid : Prop := swissFillsUptoRow.holds Try.pinned (OpenSpec.upto swissFillsSpec)

/-- 'cubbyholelaw07.SwissHolds', WHERE WHAT IT READS IS OF BULK AT MOST 1048576: true; the input reads as it did. -/
def swissHoldsUptoRow : OpenClaim := { program := "ytbjiebhbmpafpaa", sum := "d9391fec7bc16a6e8e6d0771da3d1a1db14964bf4c2e1ba745a9db7019429d6e", func := "cubbyhole/cubbyholelaw07.SwissHolds", spec := "swissHolds", unfollowed := true, recurses := true, apart := false, narrowed := true }
def SwissHoldsUptoSaid : Prop := swissHoldsUptoRow.holds Try.pinned (OpenSpec.upto swissHoldsSpec)

/-- 'cubbyholelaw07.SwissSees', WHERE WHAT IT READS IS OF BULK AT MOST 1048576: true; the input reads as it did. -/
def swissSeesUptoRow : OpenClaim := { program := "ytbjiebhbmpafpaa", sum := "d9391fec7bc16a6e8e6d0771da3d1a1db14964bf4c2e1ba745a9db7019429d6e", func := "cubbyhole/cubbyholelaw07.SwissSees", spec := "swissSees", unfollowed := true, recurses := true, apart := false, narrowed := true }
def SwissSeesUptoSaid : Prop := swissSeesUptoRow.holds Try.pinned (OpenSpec.upto swissSeesSpec)

/-- 'cubbyholelaw07.SwissPlays', WHERE WHAT IT READS IS OF BULK AT MOST 1048576: true; the input reads as it did. -/
def swissPlaysUptoRow : OpenClaim := { program := "ytbjiebhbmpafpaa", sum := "d9391fec7bc16a6e8e6d0771da3d1a1db14964bf4c2e1ba745a9db7019429d6e", func := "cubbyhole/cubbyholelaw07.SwissPlays", spec := "swissPlays", unfollowed := true, recurses := true, apart := false, narrowed := true }
def SwissPlaysUptoSaid : Prop := swissPlaysUptoRow.holds Try.pinned (OpenSpec.upto swissPlaysSpec)

/-- 'cubbyholelaw07.SwissNil', WHERE WHAT IT READS IS OF BULK AT MOST 1048576: true; the input reads as it did. -/
def swissNilUptoRow : OpenClaim := { program := "ytbjiebhbmpafpaa", sum := "d9391fec7bc16a6e8e6d0771da3d1a1db14964bf4c2e1ba745a9db7019429d6e", func := "cubbyhole/cubbyholelaw07.SwissNil", spec := "swissNil", unfollowed := true, recurses := true, apart := false, narrowed := true }
def SwissNilUptoSaid : Prop := swissNilUptoRow.holds Try.pinned (OpenSpec.upto swissNilSpec)

/-- 'cubbyholelaw11.CompactNil', WHERE WHAT IT READS IS OF BULK AT MOST 1048576: true; the input reads as it did. -/
def compactNilUptoRow : OpenClaim := { program := "ytbjiebhbmpafpaa", sum := "d9391fec7bc16a6e8e6d0771da3d1a1db14964bf4c2e1ba745a9db7019429d6e", func := "cubbyhole/cubbyholelaw11.CompactNil", spec := "compactNil", unfollowed := true, recurses := true, apart := false, narrowed := true }
def CompactNilUptoSaid : Prop := compactNilUptoRow.holds Try.pinned (OpenSpec.upto compactNilSpec)

end Rows
end Go.Proofs.Ytbjiebhbmpafpaa
