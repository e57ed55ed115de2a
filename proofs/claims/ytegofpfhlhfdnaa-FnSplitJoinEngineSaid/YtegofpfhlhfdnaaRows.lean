/-
  No cell of these rows narrows 'for every input' (looked for: loops, veiled, ifaces, maps, wideKeys, modest, calm, conditions, laid).
  DERIVED. THE GIVEN ROWS OF THIS SEAT. 12 by the template 'for every input the law returns true; each argument reads behind the call as it read before'; 0 by the template 'total and deterministic' (their statements: YtegofpfhlhfdnaaTotals.lean).
  GIVEN WITH THE SEED: the statements are not yours to turn. If you find one false, say at which input.
  Laid BY PROGRAM, IN A SANDBOX (cutbox-rows.mjs): the forced cells as the released guide's own fill.sh prints them over the translation 8f131e4da728a36d… (all of the seat's roots in one cut). By AI agents, Wed Nov 11 2026. No macro, syntax, notation, axiom, sorry.
-/
import Derived.Test.YtegofpfhlhfdnaaChecked
import GoSem.Claim
import GoSem.ClaimJoined
import GoSem.ClaimMapViews
import Derived.JoinedTies
import Derived.KernelRfl
namespace Go.Proofs.Ytegofpfhlhfdnaa
/- THE CELL 'sum', in the pinned program and in every row, IS THE sha256 OF THE DUMP (.gsa) THAT YtegofpfhlhfdnaaProg.lean LOADS. Nothing in Lean hashes anything: it is a label: what it is worth is what the hold of that sum in a sandbox is worth. -/
noncomputable def Try.pinned : Pinned := { name := "ytegofpfhlhfdnaa", sum := "8f131e4da728a36dd3f1eab55a36ea28f760c359394549c9e5f1f9c4ffd22cb4", checked := Try.checked }
namespace Rows
def none {H : Type} : Left H := { results := [], args := [] }

/-- 'laws.FnSpan': WHATEVER THE INPUT: true; the input reads as it did. -/
def fnSpanSpec : ChangeSpec := { name := "fnSpan", fn := fun _ => fun
  | [d] => { results := [.lit (.bool true)], args := [d] }
  | _ => none }
def fnSpanRow : OpenClaim := { program := "ytegofpfhlhfdnaa", sum := "8f131e4da728a36dd3f1eab55a36ea28f760c359394549c9e5f1f9c4ffd22cb4", func := "loop.example/differenceengine/laws.FnSpan", spec := "fnSpan", apart := false }
def FnSpanSaid : Prop := fnSpanRow.holds Try.pinned (OpenSpec.ofChange fnSpanSpec)

/-- ITS FALSE NEIGHBOUR: 'it returns false'. Refute it at one input. -/
def fnSpanWrong : ChangeSpec := { name := "fnSpan", fn := fun _ => fun
  | [d] => { results := [.lit (.bool false)], args := [d] }
  | _ => none }
def FnSpanWrongFalsely : Prop := fnSpanRow.holds Try.pinned (OpenSpec.ofChange fnSpanWrong)

/-- 'laws.FnLeastSpan': WHATEVER THE INPUT: true; the input reads as it did. -/
def fnLeastSpanSpec : ChangeSpec := { name := "fnLeastSpan", fn := fun _ => fun
  | [d] => { results := [.lit (.bool true)], args := [d] }
  | _ => none }
def fnLeastSpanRow : OpenClaim := { program := "ytegofpfhlhfdnaa", sum := "8f131e4da728a36dd3f1eab55a36ea28f760c359394549c9e5f1f9c4ffd22cb4", func := "loop.example/differenceengine/laws.FnLeastSpan", spec := "fnLeastSpan", apart := false }
def FnLeastSpanSaid : Prop := fnLeastSpanRow.holds Try.pinned (OpenSpec.ofChange fnLeastSpanSpec)

/-- ITS FALSE NEIGHBOUR: 'it returns false'. Refute it at one input. -/
def fnLeastSpanWrong : ChangeSpec := { name := "fnLeastSpan", fn := fun _ => fun
  | [d] => { results := [.lit (.bool false)], args := [d] }
  | _ => none }
def FnLeastSpanWrongFalsely : Prop := fnLeastSpanRow.holds Try.pinned (OpenSpec.ofChange fnLeastSpanWrong)

/-- 'laws.FnGreedySchedule': WHATEVER THE INPUT: true; the input reads as it did. -/
def fnGreedyScheduleSpec : ChangeSpec := { name := "fnGreedySchedule", fn := fun _ => fun
  | [d] => { results := [.lit (.bool true)], args := [d] }
  | _ => none }
def fnGreedyScheduleRow : OpenClaim := { program := "ytegofpfhlhfdnaa", sum := "8f131e4da728a36dd3f1eab55a36ea28f760c359394549c9e5f1f9c4ffd22cb4", func := "loop.example/differenceengine/laws.FnGreedySchedule", spec := "fnGreedySchedule", apart := false }
def FnGreedyScheduleSaid : Prop := fnGreedyScheduleRow.holds Try.pinned (OpenSpec.ofChange fnGreedyScheduleSpec)

/-- ITS FALSE NEIGHBOUR: 'it returns false'. Refute it at one input. -/
def fnGreedyScheduleWrong : ChangeSpec := { name := "fnGreedySchedule", fn := fun _ => fun
  | [d] => { results := [.lit (.bool false)], args := [d] }
  | _ => none }
def FnGreedyScheduleWrongFalsely : Prop := fnGreedyScheduleRow.holds Try.pinned (OpenSpec.ofChange fnGreedyScheduleWrong)

/-- 'laws.FnFaulty': WHATEVER THE INPUT: true; the input reads as it did. -/
def fnFaultySpec : ChangeSpec := { name := "fnFaulty", fn := fun _ => fun
  | [d] => { results := [.lit (.bool true)], args := [d] }
  | _ => none }
def fnFaultyRow : OpenClaim := { program := "ytegofpfhlhfdnaa", sum := "8f131e4da728a36dd3f1eab55a36ea28f760c359394549c9e5f1f9c4ffd22cb4", func := "loop.example/differenceengine/laws.FnFaulty", spec := "fnFaulty", apart := false }
def FnFaultySaid : Prop := fnFaultyRow.holds Try.pinned (OpenSpec.ofChange fnFaultySpec)

/-- ITS FALSE NEIGHBOUR: 'it returns false'. Refute it at one input. -/
def fnFaultyWrong : ChangeSpec := { name := "fnFaulty", fn := fun _ => fun
  | [d] => { results := [.lit (.bool false)], args := [d] }
  | _ => none }
def FnFaultyWrongFalsely : Prop := fnFaultyRow.holds Try.pinned (OpenSpec.ofChange fnFaultyWrong)

/-- 'laws.FnVote': WHATEVER THE INPUT: true; the input reads as it did. -/
def fnVoteSpec : ChangeSpec := { name := "fnVote", fn := fun _ => fun
  | [d] => { results := [.lit (.bool true)], args := [d] }
  | _ => none }
def fnVoteRow : OpenClaim := { program := "ytegofpfhlhfdnaa", sum := "8f131e4da728a36dd3f1eab55a36ea28f760c359394549c9e5f1f9c4ffd22cb4", func := "loop.example/differenceengine/laws.FnVote", spec := "fnVote", apart := false }
def FnVoteSaid : Prop := fnVoteRow.holds Try.pinned (OpenSpec.ofChange fnVoteSpec)

/-- ITS FALSE NEIGHBOUR: 'it returns false'. Refute it at one input. -/
def fnVoteWrong : ChangeSpec := { name := "fnVote", fn := fun _ => fun
  | [d] => { results := [.lit (.bool false)], args := [d] }
  | _ => none }
def FnVoteWrongFalsely : Prop := fnVoteRow.holds Try.pinned (OpenSpec.ofChange fnVoteWrong)

/-- 'laws.FnBestSchedule': WHATEVER THE INPUT: true; the input reads as it did. -/
def fnBestScheduleSpec : ChangeSpec := { name := "fnBestSchedule", fn := fun _ => fun
  | [d1, d2] => { results := [.lit (.bool true)], args := [d1, d2] }
  | _ => none }
def fnBestScheduleRow : OpenClaim := { program := "ytegofpfhlhfdnaa", sum := "8f131e4da728a36dd3f1eab55a36ea28f760c359394549c9e5f1f9c4ffd22cb4", func := "loop.example/differenceengine/laws.FnBestSchedule", spec := "fnBestSchedule", apart := false }
def FnBestScheduleSaid : Prop := fnBestScheduleRow.holds Try.pinned (OpenSpec.ofChange fnBestScheduleSpec)

/-- ITS FALSE NEIGHBOUR: 'it returns false'. Refute it at one input. -/
def fnBestScheduleWrong : ChangeSpec := { name := "fnBestSchedule", fn := fun _ => fun
  | [d1, d2] => { results := [.lit (.bool false)], args := [d1, d2] }
  | _ => none }
def FnBestScheduleWrongFalsely : Prop := fnBestScheduleRow.holds Try.pinned (OpenSpec.ofChange fnBestScheduleWrong)

/-- 'laws.FnSplitJoinEngine': WHATEVER THE INPUT: true; the input reads as it did. -/
def fnSplitJoinEngineSpec : ChangeSpec := { name := "fnSplitJoinEngine", fn := fun _ => fun
  | [d] => { results := [.lit (.bool true)], args := [d] }
  | _ => none }
def fnSplitJoinEngineRow : OpenClaim := { program := "ytegofpfhlhfdnaa", sum := "8f131e4da728a36dd3f1eab55a36ea28f760c359394549c9e5f1f9c4ffd22cb4", func := "loop.example/differenceengine/laws.FnSplitJoinEngine", spec := "fnSplitJoinEngine", apart := false }
def FnSplitJoinEngineSaid : Prop := fnSplitJoinEngineRow.holds Try.pinned (OpenSpec.ofChange fnSplitJoinEngineSpec)

/-- ITS FALSE NEIGHBOUR: 'it returns false'. Refute it at one input. -/
def fnSplitJoinEngineWrong : ChangeSpec := { name := "fnSplitJoinEngine", fn := fun _ => fun
  | [d] => { results := [.lit (.bool false)], args := [d] }
  | _ => none }
def FnSplitJoinEngineWrongFalsely : Prop := fnSplitJoinEngineRow.holds Try.pinned (OpenSpec.ofChange fnSplitJoinEngineWrong)

/-- 'laws.FnQuarterEngines': WHATEVER THE INPUT: true; the input reads as it did. -/
def fnQuarterEnginesSpec : ChangeSpec := { name := "fnQuarterEngines", fn := fun _ => fun
  | [d] => { results := [.lit (.bool true)], args := [d] }
  | _ => none }
def fnQuarterEnginesRow : OpenClaim := { program := "ytegofpfhlhfdnaa", sum := "8f131e4da728a36dd3f1eab55a36ea28f760c359394549c9e5f1f9c4ffd22cb4", func := "loop.example/differenceengine/laws.FnQuarterEngines", spec := "fnQuarterEngines", apart := false }
def FnQuarterEnginesSaid : Prop := fnQuarterEnginesRow.holds Try.pinned (OpenSpec.ofChange fnQuarterEnginesSpec)

/-- ITS FALSE NEIGHBOUR: 'it returns false'. Refute it at one input. -/
def fnQuarterEnginesWrong : ChangeSpec := { name := "fnQuarterEngines", fn := fun _ => fun
  | [d] => { results := [.lit (.bool false)], args := [d] }
  | _ => none }
def FnQuarterEnginesWrongFalsely : Prop := fnQuarterEnginesRow.holds Try.pinned (OpenSpec.ofChange fnQuarterEnginesWrong)

/-- 'laws.FnJoinSplit': WHATEVER THE INPUT: true; the input reads as it did. -/
def fnJoinSplitSpec : ChangeSpec := { name := "fnJoinSplit", fn := fun _ => fun
  | [d] => { results := [.lit (.bool true)], args := [d] }
  | _ => none }
def fnJoinSplitRow : OpenClaim := { program := "ytegofpfhlhfdnaa", sum := "8f131e4da728a36dd3f1eab55a36ea28f760c359394549c9e5f1f9c4ffd22cb4", func := "loop.example/differenceengine/laws.FnJoinSplit", spec := "fnJoinSplit", apart := false }
def FnJoinSplitSaid : Prop := fnJoinSplitRow.holds Try.pinned (OpenSpec.ofChange fnJoinSplitSpec)

/-- ITS FALSE NEIGHBOUR: 'it returns false'. Refute it at one input. -/
def fnJoinSplitWrong : ChangeSpec := { name := "fnJoinSplit", fn := fun _ => fun
  | [d] => { results := [.lit (.bool false)], args := [d] }
  | _ => none }
def FnJoinSplitWrongFalsely : Prop := fnJoinSplitRow.holds Try.pinned (OpenSpec.ofChange fnJoinSplitWrong)

/-- 'laws.FnCascadeTurn': WHATEVER THE INPUT: true; the input reads as it did. -/
def fnCascadeTurnSpec : ChangeSpec := { name := "fnCascadeTurn", fn := fun _ => fun
  | [d] => { results := [.lit (.bool true)], args := [d] }
  | _ => none }
def fnCascadeTurnRow : OpenClaim := { program := "ytegofpfhlhfdnaa", sum := "8f131e4da728a36dd3f1eab55a36ea28f760c359394549c9e5f1f9c4ffd22cb4", func := "loop.example/differenceengine/laws.FnCascadeTurn", spec := "fnCascadeTurn", apart := false }
def FnCascadeTurnSaid : Prop := fnCascadeTurnRow.holds Try.pinned (OpenSpec.ofChange fnCascadeTurnSpec)

/-- ITS FALSE NEIGHBOUR: 'it returns false'. Refute it at one input. -/
def fnCascadeTurnWrong : ChangeSpec := { name := "fnCascadeTurn", fn := fun _ => fun
  | [d] => { results := [.lit (.bool false)], args := [d] }
  | _ => none }
def FnCascadeTurnWrongFalsely : Prop := fnCascadeTurnRow.holds Try.pinned (OpenSpec.ofChange fnCascadeTurnWrong)

/-- 'laws.FnRunParts': WHATEVER THE INPUT: true; the input reads as it did. -/
def fnRunPartsSpec : ChangeSpec := { name := "fnRunParts", fn := fun _ => fun
  | [d] => { results := [.lit (.bool true)], args := [d] }
  | _ => none }
def fnRunPartsRow : OpenClaim := { program := "ytegofpfhlhfdnaa", sum := "8f131e4da728a36dd3f1eab55a36ea28f760c359394549c9e5f1f9c4ffd22cb4", func := "loop.example/differenceengine/laws.FnRunParts", spec := "fnRunParts", unfollowed := true, recurses := true, apart := false }
def FnRunPartsSaid : Prop := fnRunPartsRow.holds Try.pinned (OpenSpec.ofChange fnRunPartsSpec)

/-- ITS FALSE NEIGHBOUR: 'it returns false'. Refute it at one input. -/
def fnRunPartsWrong : ChangeSpec := { name := "fnRunParts", fn := fun _ => fun
  | [d] => { results := [.lit (.bool false)], args := [d] }
  | _ => none }
def FnRunPartsWrongFalsely : Prop := fnRunPartsRow.holds Try.pinned (OpenSpec.ofChange fnRunPartsWrong)

/-- 'laws.FnRunSteps': WHATEVER THE INPUT: true; the input reads as it did. -/
def fnRunStepsSpec : ChangeSpec := { name := "fnRunSteps", fn := fun _ => fun
  | [d] => { results := [.lit (.bool true)], args := [d] }
  | _ => none }
def fnRunStepsRow : OpenClaim := { program := "ytegofpfhlhfdnaa", sum := "8f131e4da728a36dd3f1eab55a36ea28f760c359394549c9e5f1f9c4ffd22cb4", func := "loop.example/differenceengine/laws.FnRunSteps", spec := "fnRunSteps", apart := false }
def FnRunStepsSaid : Prop := fnRunStepsRow.holds Try.pinned (OpenSpec.ofChange fnRunStepsSpec)

/-- ITS FALSE NEIGHBOUR: 'it returns false'. Refute it at one input. -/
def fnRunStepsWrong : ChangeSpec := { name := "fnRunSteps", fn := fun _ => fun
  | [d] => { results := [.lit (.bool false)], args := [d] }
  | _ => none }
def FnRunStepsWrongFalsely : Prop := fnRunStepsRow.holds Try.pinned (OpenSpec.ofChange fnRunStepsWrong)

/- THE SECOND FORM. 'bulk': how many values and letters a reading holds, each counted each time it is reached (what is shared counts as often as it is met; a slice's spare places count too). A statement '..UptoSaid' is the law's where the arguments, and the package variables that the reading takes, are together of bulk at most 1048576: NARROWER than '..Said'. Prove '..Said' where nothing that the law and all that it calls make is longer than what came in: it says more and counts as full. Else prove '..UptoSaid'. A law counts once. -/
mutual
def uptoBulk {H : Type} : DataW H → Nat
  | .lit (.string bytes) => bytes.length + 1
  | .lit _ => 1
  | .nil => 1
  | .ptr d => uptoBulk d + 1
  | .slice elems spare => uptoBulkAll elems + uptoBulkAll spare + 1
  | .agg parts => uptoBulkAll parts + 1
  | .iface _ d => uptoBulk d + 1
  | .map entries => uptoBulkEntries entries + 1
  | .held _ => 1
def uptoBulkAll {H : Type} : List (DataW H) → Nat
  | [] => 0
  | d :: r => uptoBulk d + uptoBulkAll r
def uptoBulkEntries {H : Type} : List (Lit × DataW H) → Nat
  | [] => 0
  | x :: r => uptoBulkEntry x + uptoBulkEntries r
def uptoBulkEntry {H : Type} : Lit × DataW H → Nat
  | (.string bytes, d) => bytes.length + uptoBulk d + 1
  | (_, d) => uptoBulk d + 1
 end
def uptoSmall : (H : Type) → List (DataW H) → Bool := fun _ ds => decide (uptoBulkAll ds ≤ 1048576)
def OpenSpec.upto (s : _root_.Go.ChangeSpec) : _root_.Go.OpenSpec := { _root_.Go.OpenSpec.ofChange s with cond := some uptoSmall }

/-- 'laws.FnSpan', WHERE WHAT IT READS IS OF BULK AT MOST 1048576: true; the input reads as it did. -/
def fnSpanUptoRow : OpenClaim := { program := "ytegofpfhlhfdnaa", sum := "8f131e4da728a36dd3f1eab55a36ea28f760c359394549c9e5f1f9c4ffd22cb4", func := "loop.example/differenceengine/laws.FnSpan", spec := "fnSpan", apart := false, narrowed := true }
def FnSpanUptoSaid : Prop := fnSpanUptoRow.holds Try.pinned (OpenSpec.upto fnSpanSpec)

/-- 'laws.FnLeastSpan', WHERE WHAT IT READS IS OF BULK AT MOST 1048576: true; the input reads as it did. -/
def fnLeastSpanUptoRow : OpenClaim := { program := "ytegofpfhlhfdnaa", sum := "8f131e4da728a36dd3f1eab55a36ea28f760c359394549c9e5f1f9c4ffd22cb4", func := "loop.example/differenceengine/laws.FnLeastSpan", spec := "fnLeastSpan", apart := false, narrowed := true }
def FnLeastSpanUptoSaid : Prop := fnLeastSpanUptoRow.holds Try.pinned (OpenSpec.upto fnLeastSpanSpec)

/-- 'laws.FnGreedySchedule', WHERE WHAT IT READS IS OF BULK AT MOST 1048576: true; the input reads as it did. -/
def fnGreedyScheduleUptoRow : OpenClaim := { program := "ytegofpfhlhfdnaa", sum := "8f131e4da728a36dd3f1eab55a36ea28f760c359394549c9e5f1f9c4ffd22cb4", func := "loop.example/differenceengine/laws.FnGreedySchedule", spec := "fnGreedySchedule", apart := false, narrowed := true }
def FnGreedyScheduleUptoSaid : Prop := fnGreedyScheduleUptoRow.holds Try.pinned (OpenSpec.upto fnGreedyScheduleSpec)

/-- 'laws.FnFaulty', WHERE WHAT IT READS IS OF BULK AT MOST 1048576: true; the input reads as it did. -/
def fnFaultyUptoRow : OpenClaim := { program := "ytegofpfhlhfdnaa", sum := "8f131e4da728a36dd3f1eab55a36ea28f760c359394549c9e5f1f9c4ffd22cb4", func := "loop.example/differenceengine/laws.FnFaulty", spec := "fnFaulty", apart := false, narrowed := true }
def FnFaultyUptoSaid : Prop := fnFaultyUptoRow.holds Try.pinned (OpenSpec.upto fnFaultySpec)

/-- 'laws.FnVote', WHERE WHAT IT READS IS OF BULK AT MOST 1048576: true; the input reads as it did. -/
def fnVoteUptoRow : OpenClaim := { program := "ytegofpfhlhfdnaa", sum := "8f131e4da728a36dd3f1eab55a36ea28f760c359394549c9e5f1f9c4ffd22cb4", func := "loop.example/differenceengine/laws.FnVote", spec := "fnVote", apart := false, narrowed := true }
def FnVoteUptoSaid : Prop := fnVoteUptoRow.holds Try.pinned (OpenSpec.upto fnVoteSpec)

/-- 'laws.FnBestSchedule', WHERE WHAT IT READS IS OF BULK AT MOST 1048576: true; the input reads as it did. -/
def fnBestScheduleUptoRow : OpenClaim := { program := "ytegofpfhlhfdnaa", sum := "8f131e4da728a36dd3f1eab55a36ea28f760c359394549c9e5f1f9c4ffd22cb4", func := "loop.example/differenceengine/laws.FnBestSchedule", spec := "fnBestSchedule", apart := false, narrowed := true }
def FnBestScheduleUptoSaid : Prop := fnBestScheduleUptoRow.holds Try.pinned (OpenSpec.upto fnBestScheduleSpec)

/-- 'laws.FnSplitJoinEngine', WHERE WHAT IT READS IS OF BULK AT MOST 1048576: true; the input reads as it did. -/
def fnSplitJoinEngineUptoRow : OpenClaim := { program := "ytegofpfhlhfdnaa", sum := "8f131e4da728a36dd3f1eab55a36ea28f760c359394549c9e5f1f9c4ffd22cb4", func := "loop.example/differenceengine/laws.FnSplitJoinEngine", spec := "fnSplitJoinEngine", apart := false, narrowed := true }
def FnSplitJoinEngineUptoSaid : Prop := fnSplitJoinEngineUptoRow.holds Try.pinned (OpenSpec.upto fnSplitJoinEngineSpec)

/-- 'laws.FnQuarterEngines', WHERE WHAT IT READS IS OF BULK AT MOST 1048576: true; the input reads as it did. -/
def fnQuarterEnginesUptoRow : OpenClaim := { program := "ytegofpfhlhfdnaa", sum := "8f131e4da728a36dd3f1eab55a36ea28f760c359394549c9e5f1f9c4ffd22cb4", func := "loop.example/differenceengine/laws.FnQuarterEngines", spec := "fnQuarterEngines", apart := false, narrowed := true }
def FnQuarterEnginesUptoSaid : Prop := fnQuarterEnginesUptoRow.holds Try.pinned (OpenSpec.upto fnQuarterEnginesSpec)

/-- 'laws.FnJoinSplit', WHERE WHAT IT READS IS OF BULK AT MOST 1048576: true; the input reads as it did. -/
def fnJoinSplitUptoRow : OpenClaim := { program := "ytegofpfhlhfdnaa", sum := "8f131e4da728a36dd3f1eab55a36ea28f760c359394549c9e5f1f9c4ffd22cb4", func := "loop.example/differenceengine/laws.FnJoinSplit", spec := "fnJoinSplit", apart := false, narrowed := true }
def FnJoinSplitUptoSaid : Prop := fnJoinSplitUptoRow.holds Try.pinned (OpenSpec.upto fnJoinSplitSpec)

/-- 'laws.FnCascadeTurn', WHERE WHAT IT READS IS OF BULK AT MOST 1048576: true; the input reads as it did. -/
def fnCascadeTurnUptoRow : OpenClaim := { program := "ytegofpfhlhfdnaa", sum := "8f131e4da728a36dd3f1eab55a36ea28f760c359394549c9e5f1f9c4ffd22cb4", func := "loop.example/differenceengine/laws.FnCascadeTurn", spec := "fnCascadeTurn", apart := false, narrowed := true }
def FnCascadeTurnUptoSaid : Prop := fnCascadeTurnUptoRow.holds Try.pinned (OpenSpec.upto fnCascadeTurnSpec)

/-- 'laws.FnRunParts', WHERE WHAT IT READS IS OF BULK AT MOST 1048576: true; the input reads as it did. -/
def fnRunPartsUptoRow : OpenClaim := { program := "ytegofpfhlhfdnaa", sum := "8f131e4da728a36dd3f1eab55a36ea28f760c359394549c9e5f1f9c4ffd22cb4", func := "loop.example/differenceengine/laws.FnRunParts", spec := "fnRunParts", unfollowed := true, recurses := true, apart := false, narrowed := true }
def FnRunPartsUptoSaid : Prop := fnRunPartsUptoRow.holds Try.pinned (OpenSpec.upto fnRunPartsSpec)

/-- 'laws.FnRunSteps', WHERE WHAT IT READS IS OF BULK AT MOST 1048576: true; the input reads as it did. -/
def fnRunStepsUptoRow : OpenClaim := { program := "ytegofpfhlhfdnaa", sum := "8f131e4da728a36dd3f1eab55a36ea28f760c359394549c9e5f1f9c4ffd22cb4", func := "loop.example/differenceengine/laws.FnRunSteps", spec := "fnRunSteps", apart := false, narrowed := true }
def FnRunStepsUptoSaid : Prop := fnRunStepsUptoRow.holds Try.pinned (OpenSpec.upto fnRunStepsSpec)

end Rows
end Go.Proofs.Ytegofpfhlhfdnaa
