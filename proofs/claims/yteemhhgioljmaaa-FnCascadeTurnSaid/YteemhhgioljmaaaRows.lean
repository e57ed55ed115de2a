/-
  No cell of these rows narrows 'for every input' (looked for: loops, veiled, ifaces, maps, wideKeys, modest, calm, conditions, laid).
  DERIVED. THE GIVEN ROWS OF THIS SEAT. 12 by the template 'for every input the law returns true; each argument reads behind the call as it read before'; 0 by the template 'total and deterministic' (their statements: YteemhhgioljmaaaTotals.lean).
  GIVEN WITH THE SEED: the statements are not yours to turn. If you find one false, say at which input.
  Laid BY PROGRAM, IN A SANDBOX (cutbox-rows.mjs): the forced cells as the released guide's own fill.sh prints them over the translation 7d3cfa33a5e0bf2d… (all of the seat's roots in one cut). By AI agents, Wed Nov 11 2026. No macro, syntax, notation, axiom, sorry.
-/
import Derived.Test.YteemhhgioljmaaaChecked
import GoSem.Claim
import GoSem.ClaimJoined
import GoSem.ClaimMapViews
import Derived.JoinedTies
import Derived.KernelRfl
namespace Go.Proofs.Yteemhhgioljmaaa
/- THE CELL 'sum', in the pinned program and in every row, IS THE sha256 OF THE DUMP (.gsa) THAT YteemhhgioljmaaaProg.lean LOADS. Nothing in Lean hashes anything: it is a label: what it is worth is what the hold of that sum in a sandbox is worth. -/
noncomputable def Try.pinned : Pinned := { name := "yteemhhgioljmaaa", sum := "7d3cfa33a5e0bf2d03d3cf384140ceaebee2c8ce71110767db91f6d7df9e4e1d", checked := Try.checked }
namespace Rows
def none {H : Type} : Left H := { results := [], args := [] }

/-- 'laws.FnQuarterEngines': WHATEVER THE INPUT: true; the input reads as it did. -/
def fnQuarterEnginesSpec : ChangeSpec := { name := "fnQuarterEngines", fn := fun _ => fun
  | [d] => { results := [.lit (.bool true)], args := [d] }
  | _ => none }
def fnQuarterEnginesRow : OpenClaim := { program := "yteemhhgioljmaaa", sum := "7d3cfa33a5e0bf2d03d3cf384140ceaebee2c8ce71110767db91f6d7df9e4e1d", func := "loop.example/differenceengine/laws.FnQuarterEngines", spec := "fnQuarterEngines", apart := false }
def FnQuarterEnginesSaid : Prop := fnQuarterEnginesRow.holds Try.pinned (OpenSpec.ofChange fnQuarterEnginesSpec)

/-- ITS FALSE NEIGHBOUR: 'it returns false'. Refute it at one input. -/
def fnQuarterEnginesWrong : ChangeSpec := { name := "fnQuarterEngines", fn := fun _ => fun
  | [d] => { results := [.lit (.bool false)], args := [d] }
  | _ => none }
def FnQuarterEnginesWrongFalsely : Prop := fnQuarterEnginesRow.holds Try.pinned (OpenSpec.ofChange fnQuarterEnginesWrong)

/-- 'laws.FnRunParts': WHATEVER THE INPUT: true; the input reads as it did. -/
def fnRunPartsSpec : ChangeSpec := { name := "fnRunParts", fn := fun _ => fun
  | [d] => { results := [.lit (.bool true)], args := [d] }
  | _ => none }
def fnRunPartsRow : OpenClaim := { program := "yteemhhgioljmaaa", sum := "7d3cfa33a5e0bf2d03d3cf384140ceaebee2c8ce71110767db91f6d7df9e4e1d", func := "loop.example/differenceengine/laws.FnRunParts", spec := "fnRunParts", unfollowed := true, recurses := true, apart := false }
def FnRunPartsSaid : Prop := fnRunPartsRow.holds Try.pinned (OpenSpec.ofChange fnRunPartsSpec)

/-- ITS FALSE NEIGHBOUR: 'it returns false'. Refute it at one input. -/
def fnRunPartsWrong : ChangeSpec := { name := "fnRunParts", fn := fun _ => fun
  | [d] => { results := [.lit (.bool false)], args := [d] }
  | _ => none }
def FnRunPartsWrongFalsely : Prop := fnRunPartsRow.holds Try.pinned (OpenSpec.ofChange fnRunPartsWrong)

/-- 'laws.FnRunSteps': WHATEVER THE INPUT: true; the input reads as it did. -/
def fnRunStepsSpec : ChangeSpec := { name := "fnRunSteps", fn := fun _ => fun
  | [d] => { results := [.lit (.bool true)], args := [d] }
  | _ => none }
def fnRunStepsRow : OpenClaim := { program := "yteemhhgioljmaaa", sum := "7d3cfa33a5e0bf2d03d3cf384140ceaebee2c8ce71110767db91f6d7df9e4e1d", func := "loop.example/differenceengine/laws.FnRunSteps", spec := "fnRunSteps", apart := false }
def FnRunStepsSaid : Prop := fnRunStepsRow.holds Try.pinned (OpenSpec.ofChange fnRunStepsSpec)

/-- ITS FALSE NEIGHBOUR: 'it returns false'. Refute it at one input. -/
def fnRunStepsWrong : ChangeSpec := { name := "fnRunSteps", fn := fun _ => fun
  | [d] => { results := [.lit (.bool false)], args := [d] }
  | _ => none }
def FnRunStepsWrongFalsely : Prop := fnRunStepsRow.holds Try.pinned (OpenSpec.ofChange fnRunStepsWrong)

/-- 'laws.FnJobTime': WHATEVER THE INPUT: true; the input reads as it did. -/
def fnJobTimeSpec : ChangeSpec := { name := "fnJobTime", fn := fun _ => fun
  | [d] => { results := [.lit (.bool true)], args := [d] }
  | _ => none }
def fnJobTimeRow : OpenClaim := { program := "yteemhhgioljmaaa", sum := "7d3cfa33a5e0bf2d03d3cf384140ceaebee2c8ce71110767db91f6d7df9e4e1d", func := "loop.example/differenceengine/laws.FnJobTime", spec := "fnJobTime", apart := false }
def FnJobTimeSaid : Prop := fnJobTimeRow.holds Try.pinned (OpenSpec.ofChange fnJobTimeSpec)

/-- ITS FALSE NEIGHBOUR: 'it returns false'. Refute it at one input. -/
def fnJobTimeWrong : ChangeSpec := { name := "fnJobTime", fn := fun _ => fun
  | [d] => { results := [.lit (.bool false)], args := [d] }
  | _ => none }
def FnJobTimeWrongFalsely : Prop := fnJobTimeRow.holds Try.pinned (OpenSpec.ofChange fnJobTimeWrong)

/-- 'laws.FnJobTable': WHATEVER THE INPUT: true; the input reads as it did. -/
def fnJobTableSpec : ChangeSpec := { name := "fnJobTable", fn := fun _ => fun
  | [d] => { results := [.lit (.bool true)], args := [d] }
  | _ => none }
def fnJobTableRow : OpenClaim := { program := "yteemhhgioljmaaa", sum := "7d3cfa33a5e0bf2d03d3cf384140ceaebee2c8ce71110767db91f6d7df9e4e1d", func := "loop.example/differenceengine/laws.FnJobTable", spec := "fnJobTable", unfollowed := true, recurses := true, apart := false }
def FnJobTableSaid : Prop := fnJobTableRow.holds Try.pinned (OpenSpec.ofChange fnJobTableSpec)

/-- ITS FALSE NEIGHBOUR: 'it returns false'. Refute it at one input. -/
def fnJobTableWrong : ChangeSpec := { name := "fnJobTable", fn := fun _ => fun
  | [d] => { results := [.lit (.bool false)], args := [d] }
  | _ => none }
def FnJobTableWrongFalsely : Prop := fnJobTableRow.holds Try.pinned (OpenSpec.ofChange fnJobTableWrong)

/-- 'laws.FnPartEngines': WHATEVER THE INPUT: true; the input reads as it did. -/
def fnPartEnginesSpec : ChangeSpec := { name := "fnPartEngines", fn := fun _ => fun
  | [d] => { results := [.lit (.bool true)], args := [d] }
  | _ => none }
def fnPartEnginesRow : OpenClaim := { program := "yteemhhgioljmaaa", sum := "7d3cfa33a5e0bf2d03d3cf384140ceaebee2c8ce71110767db91f6d7df9e4e1d", func := "loop.example/differenceengine/laws.FnPartEngines", spec := "fnPartEngines", unfollowed := true, recurses := true, apart := false }
def FnPartEnginesSaid : Prop := fnPartEnginesRow.holds Try.pinned (OpenSpec.ofChange fnPartEnginesSpec)

/-- ITS FALSE NEIGHBOUR: 'it returns false'. Refute it at one input. -/
def fnPartEnginesWrong : ChangeSpec := { name := "fnPartEngines", fn := fun _ => fun
  | [d] => { results := [.lit (.bool false)], args := [d] }
  | _ => none }
def FnPartEnginesWrongFalsely : Prop := fnPartEnginesRow.holds Try.pinned (OpenSpec.ofChange fnPartEnginesWrong)

/-- 'laws.FnStepEngines': WHATEVER THE INPUT: true; the input reads as it did. -/
def fnStepEnginesSpec : ChangeSpec := { name := "fnStepEngines", fn := fun _ => fun
  | [d1, d2] => { results := [.lit (.bool true)], args := [d1, d2] }
  | _ => none }
def fnStepEnginesRow : OpenClaim := { program := "yteemhhgioljmaaa", sum := "7d3cfa33a5e0bf2d03d3cf384140ceaebee2c8ce71110767db91f6d7df9e4e1d", func := "loop.example/differenceengine/laws.FnStepEngines", spec := "fnStepEngines", apart := false }
def FnStepEnginesSaid : Prop := fnStepEnginesRow.holds Try.pinned (OpenSpec.ofChange fnStepEnginesSpec)

/-- ITS FALSE NEIGHBOUR: 'it returns false'. Refute it at one input. -/
def fnStepEnginesWrong : ChangeSpec := { name := "fnStepEngines", fn := fun _ => fun
  | [d1, d2] => { results := [.lit (.bool false)], args := [d1, d2] }
  | _ => none }
def FnStepEnginesWrongFalsely : Prop := fnStepEnginesRow.holds Try.pinned (OpenSpec.ofChange fnStepEnginesWrong)

/-- 'laws.FnWholeHouse': WHATEVER THE INPUT: true; the input reads as it did. -/
def fnWholeHouseSpec : ChangeSpec := { name := "fnWholeHouse", fn := fun _ => fun
  | [d1, d2] => { results := [.lit (.bool true)], args := [d1, d2] }
  | _ => none }
def fnWholeHouseRow : OpenClaim := { program := "yteemhhgioljmaaa", sum := "7d3cfa33a5e0bf2d03d3cf384140ceaebee2c8ce71110767db91f6d7df9e4e1d", func := "loop.example/differenceengine/laws.FnWholeHouse", spec := "fnWholeHouse", unfollowed := true, recurses := true, apart := false }
def FnWholeHouseSaid : Prop := fnWholeHouseRow.holds Try.pinned (OpenSpec.ofChange fnWholeHouseSpec)

/-- ITS FALSE NEIGHBOUR: 'it returns false'. Refute it at one input. -/
def fnWholeHouseWrong : ChangeSpec := { name := "fnWholeHouse", fn := fun _ => fun
  | [d1, d2] => { results := [.lit (.bool false)], args := [d1, d2] }
  | _ => none }
def FnWholeHouseWrongFalsely : Prop := fnWholeHouseRow.holds Try.pinned (OpenSpec.ofChange fnWholeHouseWrong)

/-- 'laws.FnExactCascadeTurn': WHATEVER THE INPUT: true; the input reads as it did. -/
def fnExactCascadeTurnSpec : ChangeSpec := { name := "fnExactCascadeTurn", fn := fun _ => fun
  | [d1, d2] => { results := [.lit (.bool true)], args := [d1, d2] }
  | _ => none }
def fnExactCascadeTurnRow : OpenClaim := { program := "yteemhhgioljmaaa", sum := "7d3cfa33a5e0bf2d03d3cf384140ceaebee2c8ce71110767db91f6d7df9e4e1d", func := "loop.example/differenceengine/laws.FnExactCascadeTurn", spec := "fnExactCascadeTurn", apart := false }
def FnExactCascadeTurnSaid : Prop := fnExactCascadeTurnRow.holds Try.pinned (OpenSpec.ofChange fnExactCascadeTurnSpec)

/-- ITS FALSE NEIGHBOUR: 'it returns false'. Refute it at one input. -/
def fnExactCascadeTurnWrong : ChangeSpec := { name := "fnExactCascadeTurn", fn := fun _ => fun
  | [d1, d2] => { results := [.lit (.bool false)], args := [d1, d2] }
  | _ => none }
def FnExactCascadeTurnWrongFalsely : Prop := fnExactCascadeTurnRow.holds Try.pinned (OpenSpec.ofChange fnExactCascadeTurnWrong)

/-- 'laws.FnJoinSplit': WHATEVER THE INPUT: true; the input reads as it did. -/
def fnJoinSplitSpec : ChangeSpec := { name := "fnJoinSplit", fn := fun _ => fun
  | [d] => { results := [.lit (.bool true)], args := [d] }
  | _ => none }
def fnJoinSplitRow : OpenClaim := { program := "yteemhhgioljmaaa", sum := "7d3cfa33a5e0bf2d03d3cf384140ceaebee2c8ce71110767db91f6d7df9e4e1d", func := "loop.example/differenceengine/laws.FnJoinSplit", spec := "fnJoinSplit", apart := false }
def FnJoinSplitSaid : Prop := fnJoinSplitRow.holds Try.pinned (OpenSpec.ofChange fnJoinSplitSpec)

/-- ITS FALSE NEIGHBOUR: 'it returns false'. Refute it at one input. -/
def fnJoinSplitWrong : ChangeSpec := { name := "fnJoinSplit", fn := fun _ => fun
  | [d] => { results := [.lit (.bool false)], args := [d] }
  | _ => none }
def FnJoinSplitWrongFalsely : Prop := fnJoinSplitRow.holds Try.pinned (OpenSpec.ofChange fnJoinSplitWrong)

/-- 'laws.FnCascadeTurn': WHATEVER THE INPUT: true; the input reads as it did. -/
def fnCascadeTurnSpec : ChangeSpec := { name := "fnCascadeTurn", fn := fun _ => fun
  | [d] => { results := [.lit (.bool true)], args := [d] }
  | _ => none }
def fnCascadeTurnRow : OpenClaim := { program := "yteemhhgioljmaaa", sum := "7d3cfa33a5e0bf2d03d3cf384140ceaebee2c8ce71110767db91f6d7df9e4e1d", func := "loop.example/differenceengine/laws.FnCascadeTurn", spec := "fnCascadeTurn", apart := false }
def FnCascadeTurnSaid : Prop := fnCascadeTurnRow.holds Try.pinned (OpenSpec.ofChange fnCascadeTurnSpec)

/-- ITS FALSE NEIGHBOUR: 'it returns false'. Refute it at one input. -/
def fnCascadeTurnWrong : ChangeSpec := { name := "fnCascadeTurn", fn := fun _ => fun
  | [d] => { results := [.lit (.bool false)], args := [d] }
  | _ => none }
def FnCascadeTurnWrongFalsely : Prop := fnCascadeTurnRow.holds Try.pinned (OpenSpec.ofChange fnCascadeTurnWrong)

/-- 'laws.FnRunCascade': WHATEVER THE INPUT: true; the input reads as it did. -/
def fnRunCascadeSpec : ChangeSpec := { name := "fnRunCascade", fn := fun _ => fun
  | [d] => { results := [.lit (.bool true)], args := [d] }
  | _ => none }
def fnRunCascadeRow : OpenClaim := { program := "yteemhhgioljmaaa", sum := "7d3cfa33a5e0bf2d03d3cf384140ceaebee2c8ce71110767db91f6d7df9e4e1d", func := "loop.example/differenceengine/laws.FnRunCascade", spec := "fnRunCascade", unfollowed := true, recurses := true, apart := false }
def FnRunCascadeSaid : Prop := fnRunCascadeRow.holds Try.pinned (OpenSpec.ofChange fnRunCascadeSpec)

/-- ITS FALSE NEIGHBOUR: 'it returns false'. Refute it at one input. -/
def fnRunCascadeWrong : ChangeSpec := { name := "fnRunCascade", fn := fun _ => fun
  | [d] => { results := [.lit (.bool false)], args := [d] }
  | _ => none }
def FnRunCascadeWrongFalsely : Prop := fnRunCascadeRow.holds Try.pinned (OpenSpec.ofChange fnRunCascadeWrong)

/- THE SECOND FORM. 'bulk': how many values and letters a reading holds, each counted each time it is reached (what is shared counts as often as it is met; a slice's spare places count too). A statement '..UptoSaid' is the law's where the arguments, and the package variables that the reading takes, are together of bulk at most 1048576: NARROWER than '..Said'. Prove '..Said' where nothing that the law and all that it calls make is longer than what came in: it says more and counts as full. Else prove '..UptoSaid'. A law counts once. -/
mutual
def uptoBulk {H : Type} : DataW H → Nat
  | .lit (.string bytes) => bytes.length + 1
  | .lit _ => 1
  | .nil => 1
  | .ptr d => uptoBulk d + 1
  | .slice elems spare => uptoBulkAll elems + uptoBulkAll spare + 1
  | .agg parts => uptoBulkAll parts + 1
  | .iface _ d => uptoBulk d + 1
  | .map entries => uptoBulkEntries entries + 1
  | .held _ => 1
def uptoBulkAll {H : Type} : List (DataW H) → Nat
  | [] => 0
  | d :: r => uptoBulk d + uptoBulkAll r
def uptoBulkEntries {H : Type} : List (Lit × DataW H) → Nat
  | [] => 0
  | x :: r => uptoBulkEntry x + uptoBulkEntries r
def uptoBulkEntry {H : Type} : Lit × DataW H → Nat
  | (.string bytes, d) => bytes.length + uptoBulk d + 1
  | (_, d) => uptoBulk d + 1
 end
def uptoSmall : (H : Type) → List (DataW H) → Bool := fun _ ds => decide (uptoBulkAll ds ≤ 1048576)
def OpenSpec.upto (s : _root_.Go.ChangeSpec) : _root_.Go.OpenSpec := { _root_.Go.OpenSpec.ofChange s with cond := some uptoSmall }

/-- 'laws.FnQuarterEngines', WHERE WHAT IT READS IS OF BULK AT MOST 1048576: true; the input reads as it did. -/
def fnQuarterEnginesUptoRow : OpenClaim := { program := "yteemhhgioljmaaa", sum := "7d3cfa33a5e0bf2d03d3cf384140ceaebee2c8ce71110767db91f6d7df9e4e1d", func := "loop.example/differenceengine/laws.FnQuarterEngines", spec := "fnQuarterEngines", apart := false, narrowed := true }
def FnQuarterEnginesUptoSaid : Prop := fnQuarterEnginesUptoRow.holds Try.pinned (OpenSpec.upto fnQuarterEnginesSpec)

/-- 'laws.FnRunParts', WHERE WHAT IT READS IS OF BULK AT MOST 1048576: true; the input reads as it did. -/
def fnRunPartsUptoRow : OpenClaim := { program := "yteemhhgioljmaaa", sum := "7d3cfa33a5e0bf2d03d3cf384140ceaebee2c8ce71110767db91f6d7df9e4e1d", func := "loop.example/differenceengine/laws.FnRunParts", spec := "fnRunParts", unfollowed := true, recurses := true, apart := false, narrowed := true }
def FnRunPartsUptoSaid : Prop := fnRunPartsUptoRow.holds Try.pinned (OpenSpec.upto fnRunPartsSpec)

/-- 'laws.FnRunSteps', WHERE WHAT IT READS IS OF BULK AT MOST 1048576: true; the input reads as it did. -/
def fnRunStepsUptoRow : OpenClaim := { program := "yteemhhgioljmaaa", sum := "7d3cfa33a5e0bf2d03d3cf384140ceaebee2c8ce71110767db91f6d7df9e4e1d", func := "loop.example/differenceengine/laws.FnRunSteps", spec := "fnRunSteps", apart := false, narrowed := true }
def FnRunStepsUptoSaid : Prop := fnRunStepsUptoRow.holds Try.pinned (OpenSpec.upto fnRunStepsSpec)

/-- 'laws.FnJobTime', WHERE WHAT IT READS IS OF BULK AT MOST 1048576: true; the input reads as it did. -/
def fnJobTimeUptoRow : OpenClaim := { program := "yteemhhgioljmaaa", sum := "7d3cfa33a5e0bf2d03d3cf384140ceaebee2c8ce71110767db91f6d7df9e4e1d", func := "loop.example/differenceengine/laws.FnJobTime", spec := "fnJobTime", apart := false, narrowed := true }
def FnJobTimeUptoSaid : Prop := fnJobTimeUptoRow.holds Try.pinned (OpenSpec.upto fnJobTimeSpec)

/-- 'laws.FnJobTable', WHERE WHAT IT READS IS OF BULK AT MOST 1048576: true; the input reads as it did. -/
def fnJobTableUptoRow : OpenClaim := { program := "yteemhhgioljmaaa", sum := "7d3cfa33a5e0bf2d03d3cf384140ceaebee2c8ce71110767db91f6d7df9e4e1d", func := "loop.example/differenceengine/laws.FnJobTable", spec := "fnJobTable", unfollowed := true, recurses := true, apart := false, narrowed := true }
def FnJobTableUptoSaid : Prop := fnJobTableUptoRow.holds Try.pinned (OpenSpec.upto fnJobTableSpec)

/-- 'laws.FnPartEngines', WHERE WHAT IT READS IS OF BULK AT MOST 1048576: true; the input reads as it did. -/
def fnPartEnginesUptoRow : OpenClaim := { program := "yteemhhgioljmaaa", sum := "7d3cfa33a5e0bf2d03d3cf384140ceaebee2c8ce71110767db91f6d7df9e4e1d", func := "loop.example/differenceengine/laws.FnPartEngines", spec := "fnPartEngines", unfollowed := true, recurses := true, apart := false, narrowed := true }
def FnPartEnginesUptoSaid : Prop := fnPartEnginesUptoRow.holds Try.pinned (OpenSpec.upto fnPartEnginesSpec)

/-- 'laws.FnStepEngines', WHERE WHAT IT READS IS OF BULK AT MOST 1048576: true; the input reads as it did. -/
def fnStepEnginesUptoRow : OpenClaim := { program := "yteemhhgioljmaaa", sum := "7d3cfa33a5e0bf2d03d3cf384140ceaebee2c8ce71110767db91f6d7df9e4e1d", func := "loop.example/differenceengine/laws.FnStepEngines", spec := "fnStepEngines", apart := false, narrowed := true }
def FnStepEnginesUptoSaid : Prop := fnStepEnginesUptoRow.holds Try.pinned (OpenSpec.upto fnStepEnginesSpec)

/-- 'laws.FnWholeHouse', WHERE WHAT IT READS IS OF BULK AT MOST 1048576: true; the input reads as it did. -/
def fnWholeHouseUptoRow : OpenClaim := { program := "yteemhhgioljmaaa", sum := "7d3cfa33a5e0bf2d03d3cf384140ceaebee2c8ce71110767db91f6d7df9e4e1d", func := "loop.example/differenceengine/laws.FnWholeHouse", spec := "fnWholeHouse", unfollowed := true, recurses := true, apart := false, narrowed := true }
def FnWholeHouseUptoSaid : Prop := fnWholeHouseUptoRow.holds Try.pinned (OpenSpec.upto fnWholeHouseSpec)

/-- 'laws.FnExactCascadeTurn', WHERE WHAT IT READS IS OF BULK AT MOST 1048576: true; the input reads as it did. -/
def fnExactCascadeTurnUptoRow : OpenClaim := { program := "yteemhhgioljmaaa", sum := "7d3cfa33a5e0bf2d03d3cf384140ceaebee2c8ce71110767db91f6d7df9e4e1d", func := "loop.example/differenceengine/laws.FnExactCascadeTurn", spec := "fnExactCascadeTurn", apart := false, narrowed := true }
def FnExactCascadeTurnUptoSaid : Prop := fnExactCascadeTurnUptoRow.holds Try.pinned (OpenSpec.upto fnExactCascadeTurnSpec)

/-- 'laws.FnJoinSplit', WHERE WHAT IT READS IS OF BULK AT MOST 1048576: true; the input reads as it did. -/
def fnJoinSplitUptoRow : OpenClaim := { program := "yteemhhgioljmaaa", sum := "7d3cfa33a5e0bf2d03d3cf384140ceaebee2c8ce71110767db91f6d7df9e4e1d", func := "loop.example/differenceengine/laws.FnJoinSplit", spec := "fnJoinSplit", apart := false, narrowed := true }
def FnJoinSplitUptoSaid : Prop := fnJoinSplitUptoRow.holds Try.pinned (OpenSpec.upto fnJoinSplitSpec)

/-- 'laws.FnCascadeTurn', WHERE WHAT IT READS IS OF BULK AT MOST 1048576: true; the input reads as it did. -/
def fnCascadeTurnUptoRow : OpenClaim := { program := "yteemhhgioljmaaa", sum := "7d3cfa33a5e0bf2d03d3cf384140ceaebee2c8ce71110767db91f6d7df9e4e1d", func := "loop.example/differenceengine/laws.FnCascadeTurn", spec := "fnCascadeTurn", apart := false, narrowed := true }
def FnCascadeTurnUptoSaid : Prop := fnCascadeTurnUptoRow.holds Try.pinned (OpenSpec.upto fnCascadeTurnSpec)

/-- 'laws.FnRunCascade', WHERE WHAT IT READS IS OF BULK AT MOST 1048576: true; the input reads as it did. -/
def fnRunCascadeUptoRow : OpenClaim := { program := "yteemhhgioljmaaa", sum := "7d3cfa33a5e0bf2d03d3cf384140ceaebee2c8ce71110767db91f6d7df9e4e1d", func := "loop.example/differenceengine/laws.FnRunCascade", spec := "fnRunCascade", unfollowed := true, recurses := true, apart := false, narrowed := true }
def FnRunCascadeUptoSaid : Prop := fnRunCascadeUptoRow.holds Try.pinned (OpenSpec.upto fnRunCascadeSpec)

end Rows
end Go.Proofs.Yteemhhgioljmaaa
