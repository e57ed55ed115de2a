/-
  No cell of these rows narrows 'for every input' (looked for: loops, veiled, ifaces, maps, wideKeys, modest, calm, conditions, laid).
  DERIVED. THE GIVEN ROWS OF THIS SEAT. 12 by the template 'for every input the law returns true; each argument reads behind the call as it read before'; 0 by the template 'total and deterministic' (their statements: YtllnlndnmdbifaaTotals.lean).
  GIVEN WITH THE SEED: the statements are not yours to turn. If you find one false, say at which input.
  Laid BY PROGRAM, IN A SANDBOX (cutbox-rows.mjs): the forced cells as the released guide's own fill.sh prints them over the translation 4f49e68a3bb5ce38… (all of the seat's roots in one cut). By AI agents, Wed Nov 11 2026. No macro, syntax, notation, axiom, sorry.
-/
import Derived.Test.YtllnlndnmdbifaaChecked
import GoSem.Claim
import GoSem.ClaimJoined
import GoSem.ClaimMapViews
import Derived.JoinedTies
import Derived.KernelRfl
namespace Go.Proofs.Ytllnlndnmdbifaa
/- THE CELL 'sum', in the pinned program and in every row, IS THE sha256 OF THE DUMP (.gsa) THAT YtllnlndnmdbifaaProg.lean LOADS. Nothing in Lean hashes anything: it is a label: what it is worth is what the hold of that sum in a sandbox is worth. -/
noncomputable def Try.pinned : Pinned := { name := "ytllnlndnmdbifaa", sum := "4f49e68a3bb5ce38c0b858388d795ce86f3beabb6a051abeb3ef61e94898bee8", checked := Try.checked }
namespace Rows
def none {H : Type} : Left H := { results := [], args := [] }

/-- 'laws.FnExactCascadeTurn': WHATEVER THE INPUT: true; the input reads as it did. -/
def fnExactCascadeTurnSpec : ChangeSpec := { name := "fnExactCascadeTurn", fn := fun _ => fun
  | [d1, d2] => { results := [.lit (.bool true)], args := [d1, d2] }
  | _ => none }
def fnExactCascadeTurnRow : OpenClaim := { program := "ytllnlndnmdbifaa", sum := "4f49e68a3bb5ce38c0b858388d795ce86f3beabb6a051abeb3ef61e94898bee8", func := "loop.example/differenceengine/laws.FnExactCascadeTurn", spec := "fnExactCascadeTurn", apart := false }
def FnExactCascadeTurnSaid : Prop := fnExactCascadeTurnRow.holds Try.pinned (OpenSpec.ofChange fnExactCascadeTurnSpec)

/-- ITS FALSE NEIGHBOUR: 'it returns false'. Refute it at one input. -/
def fnExactCascadeTurnWrong : ChangeSpec := { name := "fnExactCascadeTurn", fn := fun _ => fun
  | [d1, d2] => { results := [.lit (.bool false)], args := [d1, d2] }
  | _ => none }
def FnExactCascadeTurnWrongFalsely : Prop := fnExactCascadeTurnRow.holds Try.pinned (OpenSpec.ofChange fnExactCascadeTurnWrong)

/-- 'laws.FnExactPartEngines': WHATEVER THE INPUT: true; the input reads as it did. -/
def fnExactPartEnginesSpec : ChangeSpec := { name := "fnExactPartEngines", fn := fun _ => fun
  | [d1, d2, d3, d4] => { results := [.lit (.bool true)], args := [d1, d2, d3, d4] }
  | _ => none }
def fnExactPartEnginesRow : OpenClaim := { program := "ytllnlndnmdbifaa", sum := "4f49e68a3bb5ce38c0b858388d795ce86f3beabb6a051abeb3ef61e94898bee8", func := "loop.example/differenceengine/laws.FnExactPartEngines", spec := "fnExactPartEngines", apart := false }
def FnExactPartEnginesSaid : Prop := fnExactPartEnginesRow.holds Try.pinned (OpenSpec.ofChange fnExactPartEnginesSpec)

/-- ITS FALSE NEIGHBOUR: 'it returns false'. Refute it at one input. -/
def fnExactPartEnginesWrong : ChangeSpec := { name := "fnExactPartEngines", fn := fun _ => fun
  | [d1, d2, d3, d4] => { results := [.lit (.bool false)], args := [d1, d2, d3, d4] }
  | _ => none }
def FnExactPartEnginesWrongFalsely : Prop := fnExactPartEnginesRow.holds Try.pinned (OpenSpec.ofChange fnExactPartEnginesWrong)

/-- 'laws.FnExactRunSteps': WHATEVER THE INPUT: true; the input reads as it did. -/
def fnExactRunStepsSpec : ChangeSpec := { name := "fnExactRunSteps", fn := fun _ => fun
  | [d1, d2] => { results := [.lit (.bool true)], args := [d1, d2] }
  | _ => none }
def fnExactRunStepsRow : OpenClaim := { program := "ytllnlndnmdbifaa", sum := "4f49e68a3bb5ce38c0b858388d795ce86f3beabb6a051abeb3ef61e94898bee8", func := "loop.example/differenceengine/laws.FnExactRunSteps", spec := "fnExactRunSteps", apart := false }
def FnExactRunStepsSaid : Prop := fnExactRunStepsRow.holds Try.pinned (OpenSpec.ofChange fnExactRunStepsSpec)

/-- ITS FALSE NEIGHBOUR: 'it returns false'. Refute it at one input. -/
def fnExactRunStepsWrong : ChangeSpec := { name := "fnExactRunSteps", fn := fun _ => fun
  | [d1, d2] => { results := [.lit (.bool false)], args := [d1, d2] }
  | _ => none }
def FnExactRunStepsWrongFalsely : Prop := fnExactRunStepsRow.holds Try.pinned (OpenSpec.ofChange fnExactRunStepsWrong)

/-- 'laws.FnExactStepEngines': WHATEVER THE INPUT: true; the input reads as it did. -/
def fnExactStepEnginesSpec : ChangeSpec := { name := "fnExactStepEngines", fn := fun _ => fun
  | [d1, d2, d3, d4] => { results := [.lit (.bool true)], args := [d1, d2, d3, d4] }
  | _ => none }
def fnExactStepEnginesRow : OpenClaim := { program := "ytllnlndnmdbifaa", sum := "4f49e68a3bb5ce38c0b858388d795ce86f3beabb6a051abeb3ef61e94898bee8", func := "loop.example/differenceengine/laws.FnExactStepEngines", spec := "fnExactStepEngines", apart := false }
def FnExactStepEnginesSaid : Prop := fnExactStepEnginesRow.holds Try.pinned (OpenSpec.ofChange fnExactStepEnginesSpec)

/-- ITS FALSE NEIGHBOUR: 'it returns false'. Refute it at one input. -/
def fnExactStepEnginesWrong : ChangeSpec := { name := "fnExactStepEngines", fn := fun _ => fun
  | [d1, d2, d3, d4] => { results := [.lit (.bool false)], args := [d1, d2, d3, d4] }
  | _ => none }
def FnExactStepEnginesWrongFalsely : Prop := fnExactStepEnginesRow.holds Try.pinned (OpenSpec.ofChange fnExactStepEnginesWrong)

/-- 'laws.FnExactRunParts': WHATEVER THE INPUT: true; the input reads as it did. -/
def fnExactRunPartsSpec : ChangeSpec := { name := "fnExactRunParts", fn := fun _ => fun
  | [d1, d2] => { results := [.lit (.bool true)], args := [d1, d2] }
  | _ => none }
def fnExactRunPartsRow : OpenClaim := { program := "ytllnlndnmdbifaa", sum := "4f49e68a3bb5ce38c0b858388d795ce86f3beabb6a051abeb3ef61e94898bee8", func := "loop.example/differenceengine/laws.FnExactRunParts", spec := "fnExactRunParts", unfollowed := true, recurses := true, apart := false }
def FnExactRunPartsSaid : Prop := fnExactRunPartsRow.holds Try.pinned (OpenSpec.ofChange fnExactRunPartsSpec)

/-- ITS FALSE NEIGHBOUR: 'it returns false'. Refute it at one input. -/
def fnExactRunPartsWrong : ChangeSpec := { name := "fnExactRunParts", fn := fun _ => fun
  | [d1, d2] => { results := [.lit (.bool false)], args := [d1, d2] }
  | _ => none }
def FnExactRunPartsWrongFalsely : Prop := fnExactRunPartsRow.holds Try.pinned (OpenSpec.ofChange fnExactRunPartsWrong)

/-- 'laws.FnExactJobValid': WHATEVER THE INPUT: true; the input reads as it did. -/
def fnExactJobValidSpec : ChangeSpec := { name := "fnExactJobValid", fn := fun _ => fun
  | [d] => { results := [.lit (.bool true)], args := [d] }
  | _ => none }
def fnExactJobValidRow : OpenClaim := { program := "ytllnlndnmdbifaa", sum := "4f49e68a3bb5ce38c0b858388d795ce86f3beabb6a051abeb3ef61e94898bee8", func := "loop.example/differenceengine/laws.FnExactJobValid", spec := "fnExactJobValid", apart := false }
def FnExactJobValidSaid : Prop := fnExactJobValidRow.holds Try.pinned (OpenSpec.ofChange fnExactJobValidSpec)

/-- ITS FALSE NEIGHBOUR: 'it returns false'. Refute it at one input. -/
def fnExactJobValidWrong : ChangeSpec := { name := "fnExactJobValid", fn := fun _ => fun
  | [d] => { results := [.lit (.bool false)], args := [d] }
  | _ => none }
def FnExactJobValidWrongFalsely : Prop := fnExactJobValidRow.holds Try.pinned (OpenSpec.ofChange fnExactJobValidWrong)

/-- 'laws.FnExactJobTime': WHATEVER THE INPUT: true; the input reads as it did. -/
def fnExactJobTimeSpec : ChangeSpec := { name := "fnExactJobTime", fn := fun _ => fun
  | [d] => { results := [.lit (.bool true)], args := [d] }
  | _ => none }
def fnExactJobTimeRow : OpenClaim := { program := "ytllnlndnmdbifaa", sum := "4f49e68a3bb5ce38c0b858388d795ce86f3beabb6a051abeb3ef61e94898bee8", func := "loop.example/differenceengine/laws.FnExactJobTime", spec := "fnExactJobTime", apart := false }
def FnExactJobTimeSaid : Prop := fnExactJobTimeRow.holds Try.pinned (OpenSpec.ofChange fnExactJobTimeSpec)

/-- ITS FALSE NEIGHBOUR: 'it returns false'. Refute it at one input. -/
def fnExactJobTimeWrong : ChangeSpec := { name := "fnExactJobTime", fn := fun _ => fun
  | [d] => { results := [.lit (.bool false)], args := [d] }
  | _ => none }
def FnExactJobTimeWrongFalsely : Prop := fnExactJobTimeRow.holds Try.pinned (OpenSpec.ofChange fnExactJobTimeWrong)

/-- 'laws.FnExactJobTable': WHATEVER THE INPUT: true; the input reads as it did. -/
def fnExactJobTableSpec : ChangeSpec := { name := "fnExactJobTable", fn := fun _ => fun
  | [d] => { results := [.lit (.bool true)], args := [d] }
  | _ => none }
def fnExactJobTableRow : OpenClaim := { program := "ytllnlndnmdbifaa", sum := "4f49e68a3bb5ce38c0b858388d795ce86f3beabb6a051abeb3ef61e94898bee8", func := "loop.example/differenceengine/laws.FnExactJobTable", spec := "fnExactJobTable", apart := false }
def FnExactJobTableSaid : Prop := fnExactJobTableRow.holds Try.pinned (OpenSpec.ofChange fnExactJobTableSpec)

/-- ITS FALSE NEIGHBOUR: 'it returns false'. Refute it at one input. -/
def fnExactJobTableWrong : ChangeSpec := { name := "fnExactJobTable", fn := fun _ => fun
  | [d] => { results := [.lit (.bool false)], args := [d] }
  | _ => none }
def FnExactJobTableWrongFalsely : Prop := fnExactJobTableRow.holds Try.pinned (OpenSpec.ofChange fnExactJobTableWrong)

/-- 'laws.FnSumEngine': WHATEVER THE INPUT: true; the input reads as it did. -/
def fnSumEngineSpec : ChangeSpec := { name := "fnSumEngine", fn := fun _ => fun
  | [d1, d2] => { results := [.lit (.bool true)], args := [d1, d2] }
  | _ => none }
def fnSumEngineRow : OpenClaim := { program := "ytllnlndnmdbifaa", sum := "4f49e68a3bb5ce38c0b858388d795ce86f3beabb6a051abeb3ef61e94898bee8", func := "loop.example/differenceengine/laws.FnSumEngine", spec := "fnSumEngine", unfollowed := true, recurses := true, apart := false }
def FnSumEngineSaid : Prop := fnSumEngineRow.holds Try.pinned (OpenSpec.ofChange fnSumEngineSpec)

/-- ITS FALSE NEIGHBOUR: 'it returns false'. Refute it at one input. -/
def fnSumEngineWrong : ChangeSpec := { name := "fnSumEngine", fn := fun _ => fun
  | [d1, d2] => { results := [.lit (.bool false)], args := [d1, d2] }
  | _ => none }
def FnSumEngineWrongFalsely : Prop := fnSumEngineRow.holds Try.pinned (OpenSpec.ofChange fnSumEngineWrong)

/-- 'laws.FnJoinSplit': WHATEVER THE INPUT: true; the input reads as it did. -/
def fnJoinSplitSpec : ChangeSpec := { name := "fnJoinSplit", fn := fun _ => fun
  | [d] => { results := [.lit (.bool true)], args := [d] }
  | _ => none }
def fnJoinSplitRow : OpenClaim := { program := "ytllnlndnmdbifaa", sum := "4f49e68a3bb5ce38c0b858388d795ce86f3beabb6a051abeb3ef61e94898bee8", func := "loop.example/differenceengine/laws.FnJoinSplit", spec := "fnJoinSplit", apart := false }
def FnJoinSplitSaid : Prop := fnJoinSplitRow.holds Try.pinned (OpenSpec.ofChange fnJoinSplitSpec)

/-- ITS FALSE NEIGHBOUR: 'it returns false'. Refute it at one input. -/
def fnJoinSplitWrong : ChangeSpec := { name := "fnJoinSplit", fn := fun _ => fun
  | [d] => { results := [.lit (.bool false)], args := [d] }
  | _ => none }
def FnJoinSplitWrongFalsely : Prop := fnJoinSplitRow.holds Try.pinned (OpenSpec.ofChange fnJoinSplitWrong)

/-- 'laws.FnCascadeTurn': WHATEVER THE INPUT: true; the input reads as it did. -/
def fnCascadeTurnSpec : ChangeSpec := { name := "fnCascadeTurn", fn := fun _ => fun
  | [d] => { results := [.lit (.bool true)], args := [d] }
  | _ => none }
def fnCascadeTurnRow : OpenClaim := { program := "ytllnlndnmdbifaa", sum := "4f49e68a3bb5ce38c0b858388d795ce86f3beabb6a051abeb3ef61e94898bee8", func := "loop.example/differenceengine/laws.FnCascadeTurn", spec := "fnCascadeTurn", apart := false }
def FnCascadeTurnSaid : Prop := fnCascadeTurnRow.holds Try.pinned (OpenSpec.ofChange fnCascadeTurnSpec)

/-- ITS FALSE NEIGHBOUR: 'it returns false'. Refute it at one input. -/
def fnCascadeTurnWrong : ChangeSpec := { name := "fnCascadeTurn", fn := fun _ => fun
  | [d] => { results := [.lit (.bool false)], args := [d] }
  | _ => none }
def FnCascadeTurnWrongFalsely : Prop := fnCascadeTurnRow.holds Try.pinned (OpenSpec.ofChange fnCascadeTurnWrong)

/-- 'laws.FnRunCascade': WHATEVER THE INPUT: true; the input reads as it did. -/
def fnRunCascadeSpec : ChangeSpec := { name := "fnRunCascade", fn := fun _ => fun
  | [d] => { results := [.lit (.bool true)], args := [d] }
  | _ => none }
def fnRunCascadeRow : OpenClaim := { program := "ytllnlndnmdbifaa", sum := "4f49e68a3bb5ce38c0b858388d795ce86f3beabb6a051abeb3ef61e94898bee8", func := "loop.example/differenceengine/laws.FnRunCascade", spec := "fnRunCascade", unfollowed := true, recurses := true, apart := false }
def FnRunCascadeSaid : Prop := fnRunCascadeRow.holds Try.pinned (OpenSpec.ofChange fnRunCascadeSpec)

/-- ITS FALSE NEIGHBOUR: 'it returns false'. Refute it at one input. -/
def fnRunCascadeWrong : ChangeSpec := { name := "fnRunCascade", fn := fun _ => fun
  | [d] => { results := [.lit (.bool false)], args := [d] }
  | _ => none }
def FnRunCascadeWrongFalsely : Prop := fnRunCascadeRow.holds Try.pinned (OpenSpec.ofChange fnRunCascadeWrong)

/- THE SECOND FORM. 'bulk': how many values and letters a reading holds, each counted each time it is reached (what is shared counts as often as it is met; a slice's spare places count too). A statement '..UptoSaid' is the law's where the arguments, and the package variables that the reading takes, are together of bulk at most 1048576: NARROWER than '..Said'. Prove '..Said' where nothing that the law and all that it calls make is longer than what came in: it says more and counts as full. Else prove '..UptoSaid'. A law counts once. -/
mutual
def uptoBulk {H : Type} : DataW H → Nat
  | .lit (.string bytes) => bytes.length + 1
  | .lit _ => 1
  | .nil => 1
  | .ptr d => uptoBulk d + 1
  | .slice elems spare => uptoBulkAll elems + uptoBulkAll spare + 1
  | .agg parts => uptoBulkAll parts + 1
  | .iface _ d => uptoBulk d + 1
  | .map entries => uptoBulkEntries entries + 1
  | .held _ => 1
def uptoBulkAll {H : Type} : List (DataW H) → Nat
  | [] => 0
  | d :: r => uptoBulk d + uptoBulkAll r
def uptoBulkEntries {H : Type} : List (Lit × DataW H) → Nat
  | [] => 0
  | x :: r => uptoBulkEntry x + uptoBulkEntries r
def uptoBulkEntry {H : Type} : Lit × DataW H → Nat
  | (.string bytes, d) => bytes.length + uptoBulk d + 1
  | (_, d) => uptoBulk d + 1
 end
def uptoSmall : (H : Type) → List (DataW H) → Bool := fun _ ds => decide (uptoBulkAll ds ≤ 1048576)
def OpenSpec.upto (s : _root_.Go.ChangeSpec) : _root_.Go.OpenSpec := { _root_.Go.OpenSpec.ofChange s with cond := some uptoSmall }

/-- 'laws.FnExactCascadeTurn', WHERE WHAT IT READS IS OF BULK AT MOST 1048576: true; the input reads as it did. -/
def fnExactCascadeTurnUptoRow : OpenClaim := { program := "ytllnlndnmdbifaa", sum := "4f49e68a3bb5ce38c0b858388d795ce86f3beabb6a051abeb3ef61e94898bee8", func := "loop.example/differenceengine/laws.FnExactCascadeTurn", spec := "fnExactCascadeTurn", apart := false, narrowed := true }
def FnExactCascadeTurnUptoSaid : Prop := fnExactCascadeTurnUptoRow.holds Try.pinned (OpenSpec.upto fnExactCascadeTurnSpec)

/-- 'laws.FnExactPartEngines', WHERE WHAT IT READS IS OF BULK AT MOST 1048576: true; the input reads as it did. -/
def fnExactPartEnginesUptoRow : OpenClaim := { program := "ytllnlndnmdbifaa", sum := "4f49e68a3bb5ce38c0b858388d795ce86f3beabb6a051abeb3ef61e94898bee8", func := "loop.example/differenceengine/laws.FnExactPartEngines", spec := "fnExactPartEngines", apart := false, narrowed := true }
def FnExactPartEnginesUptoSaid : Prop := fnExactPartEnginesUptoRow.holds Try.pinned (OpenSpec.upto fnExactPartEnginesSpec)

/-- 'laws.FnExactRunSteps', WHERE WHAT IT READS IS OF BULK AT MOST 1048576: true; the input reads as it did. -/
def fnExactRunStepsUptoRow : OpenClaim := { program := "ytllnlndnmdbifaa", sum := "4f49e68a3bb5ce38c0b858388d795ce86f3beabb6a051abeb3ef61e94898bee8", func := "loop.example/differenceengine/laws.FnExactRunSteps", spec := "fnExactRunSteps", apart := false, narrowed := true }
def FnExactRunStepsUptoSaid : Prop := fnExactRunStepsUptoRow.holds Try.pinned (OpenSpec.upto fnExactRunStepsSpec)

/-- 'laws.FnExactStepEngines', WHERE WHAT IT READS IS OF BULK AT MOST 1048576: true; the input reads as it did. -/
def fnExactStepEnginesUptoRow : OpenClaim := { program := "ytllnlndnmdbifaa", sum := "4f49e68a3bb5ce38c0b858388d795ce86f3beabb6a051abeb3ef61e94898bee8", func := "loop.example/differenceengine/laws.FnExactStepEngines", spec := "fnExactStepEngines", apart := false, narrowed := true }
def FnExactStepEnginesUptoSaid : Prop := fnExactStepEnginesUptoRow.holds Try.pinned (OpenSpec.upto fnExactStepEnginesSpec)

/-- 'laws.FnExactRunParts', WHERE WHAT IT READS IS OF BULK AT MOST 1048576: true; the input reads as it did. -/
def fnExactRunPartsUptoRow : OpenClaim := { program := "ytllnlndnmdbifaa", sum := "4f49e68a3bb5ce38c0b858388d795ce86f3beabb6a051abeb3ef61e94898bee8", func := "loop.example/differenceengine/laws.FnExactRunParts", spec := "fnExactRunParts", unfollowed := true, recurses := true, apart := false, narrowed := true }
def FnExactRunPartsUptoSaid : Prop := fnExactRunPartsUptoRow.holds Try.pinned (OpenSpec.upto fnExactRunPartsSpec)

/-- 'laws.FnExactJobValid', WHERE WHAT IT READS IS OF BULK AT MOST 1048576: true; the input reads as it did. -/
def fnExactJobValidUptoRow : OpenClaim := { program := "ytllnlndnmdbifaa", sum := "4f49e68a3bb5ce38c0b858388d795ce86f3beabb6a051abeb3ef61e94898bee8", func := "loop.example/differenceengine/laws.FnExactJobValid", spec := "fnExactJobValid", apart := false, narrowed := true }
def FnExactJobValidUptoSaid : Prop := fnExactJobValidUptoRow.holds Try.pinned (OpenSpec.upto fnExactJobValidSpec)

/-- 'laws.FnExactJobTime', WHERE WHAT IT READS IS OF BULK AT MOST 1048576: true; the input reads as it did. -/
def fnExactJobTimeUptoRow : OpenClaim := { program := "ytllnlndnmdbifaa", sum := "4f49e68a3bb5ce38c0b858388d795ce86f3beabb6a051abeb3ef61e94898bee8", func := "loop.example/differenceengine/laws.FnExactJobTime", spec := "fnExactJobTime", apart := false, narrowed := true }
def FnExactJobTimeUptoSaid : Prop := fnExactJobTimeUptoRow.holds Try.pinned (OpenSpec.upto fnExactJobTimeSpec)

/-- 'laws.FnExactJobTable', WHERE WHAT IT READS IS OF BULK AT MOST 1048576: true; the input reads as it did. -/
def fnExactJobTableUptoRow : OpenClaim := { program := "ytllnlndnmdbifaa", sum := "4f49e68a3bb5ce38c0b858388d795ce86f3beabb6a051abeb3ef61e94898bee8", func := "loop.example/differenceengine/laws.FnExactJobTable", spec := "fnExactJobTable", apart := false, narrowed := true }
def FnExactJobTableUptoSaid : Prop := fnExactJobTableUptoRow.holds Try.pinned (OpenSpec.upto fnExactJobTableSpec)

/-- 'laws.FnSumEngine', WHERE WHAT IT READS IS OF BULK AT MOST 1048576: true; the input reads as it did. -/
def fnSumEngineUptoRow : OpenClaim := { program := "ytllnlndnmdbifaa", sum := "4f49e68a3bb5ce38c0b858388d795ce86f3beabb6a051abeb3ef61e94898bee8", func := "loop.example/differenceengine/laws.FnSumEngine", spec := "fnSumEngine", unfollowed := true, recurses := true, apart := false, narrowed := true }
def FnSumEngineUptoSaid : Prop := fnSumEngineUptoRow.holds Try.pinned (OpenSpec.upto fnSumEngineSpec)

/-- 'laws.FnJoinSplit', WHERE WHAT IT READS IS OF BULK AT MOST 1048576: true; the input reads as it did. -/
def fnJoinSplitUptoRow : OpenClaim := { program := "ytllnlndnmdbifaa", sum := "4f49e68a3bb5ce38c0b858388d795ce86f3beabb6a051abeb3ef61e94898bee8", func := "loop.example/differenceengine/laws.FnJoinSplit", spec := "fnJoinSplit", apart := false, narrowed := true }
def FnJoinSplitUptoSaid : Prop := fnJoinSplitUptoRow.holds Try.pinned (OpenSpec.upto fnJoinSplitSpec)

/-- 'laws.FnCascadeTurn', WHERE WHAT IT READS IS OF BULK AT MOST 1048576: true; the input reads as it did. -/
def fnCascadeTurnUptoRow : OpenClaim := { program := "ytllnlndnmdbifaa", sum := "4f49e68a3bb5ce38c0b858388d795ce86f3beabb6a051abeb3ef61e94898bee8", func := "loop.example/differenceengine/laws.FnCascadeTurn", spec := "fnCascadeTurn", apart := false, narrowed := true }
def FnCascadeTurnUptoSaid : Prop := fnCascadeTurnUptoRow.holds Try.pinned (OpenSpec.upto fnCascadeTurnSpec)

/-- 'laws.FnRunCascade', WHERE WHAT IT READS IS OF BULK AT MOST 1048576: true; the input reads as it did. -/
def fnRunCascadeUptoRow : OpenClaim := { program := "ytllnlndnmdbifaa", sum := "4f49e68a3bb5ce38c0b858388d795ce86f3beabb6a051abeb3ef61e94898bee8", func := "loop.example/differenceengine/laws.FnRunCascade", spec := "fnRunCascade", unfollowed := true, recurses := true, apart := false, narrowed := true }
def FnRunCascadeUptoSaid : Prop := fnRunCascadeUptoRow.holds Try.pinned (OpenSpec.upto fnRunCascadeSpec)

end Rows
end Go.Proofs.Ytllnlndnmdbifaa
