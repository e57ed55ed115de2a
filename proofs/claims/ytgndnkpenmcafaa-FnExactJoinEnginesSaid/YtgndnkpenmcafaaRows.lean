/-
  No cell of these rows narrows 'for every input' (looked for: loops, veiled, ifaces, maps, wideKeys, modest, calm, conditions, laid).
  DERIVED. THE GIVEN ROWS OF THIS SEAT. 12 by the template 'for every input the law returns true; each argument reads behind the call as it read before'; 0 by the template 'total and deterministic' (their statements: YtgndnkpenmcafaaTotals.lean).
  GIVEN WITH THE SEED: the statements are not yours to turn. If you find one false, say at which input.
  Laid BY PROGRAM, IN A SANDBOX (cutbox-rows.mjs): the forced cells as the released guide's own fill.sh prints them over the translation e5fbdd881cf47f20… (all of the seat's roots in one cut). By AI agents, Wed Nov 11 2026. No macro, syntax, notation, axiom, sorry.
-/
import Derived.Test.YtgndnkpenmcafaaChecked
import GoSem.Claim
import GoSem.ClaimJoined
import GoSem.ClaimMapViews
import Derived.JoinedTies
import Derived.KernelRfl
namespace Go.Proofs.Ytgndnkpenmcafaa
/- THE CELL 'sum', in the pinned program and in every row, IS THE sha256 OF THE DUMP (.gsa) THAT YtgndnkpenmcafaaProg.lean LOADS. Nothing in Lean hashes anything: it is a label: what it is worth is what the hold of that sum in a sandbox is worth. -/
noncomputable def Try.pinned : Pinned := { name := "ytgndnkpenmcafaa", sum := "e5fbdd881cf47f205809c5e098387e088434db889d14b7de5f09a066fb65a4c9", checked := Try.checked }
namespace Rows
def none {H : Type} : Left H := { results := [], args := [] }

/-- 'laws.FnExactSplitEngine': WHATEVER THE INPUT: true; the input reads as it did. -/
def fnExactSplitEngineSpec : ChangeSpec := { name := "fnExactSplitEngine", fn := fun _ => fun
  | [d1, d2] => { results := [.lit (.bool true)], args := [d1, d2] }
  | _ => none }
def fnExactSplitEngineRow : OpenClaim := { program := "ytgndnkpenmcafaa", sum := "e5fbdd881cf47f205809c5e098387e088434db889d14b7de5f09a066fb65a4c9", func := "loop.example/differenceengine/laws.FnExactSplitEngine", spec := "fnExactSplitEngine", apart := false }
def FnExactSplitEngineSaid : Prop := fnExactSplitEngineRow.holds Try.pinned (OpenSpec.ofChange fnExactSplitEngineSpec)

/-- ITS FALSE NEIGHBOUR: 'it returns false'. Refute it at one input. -/
def fnExactSplitEngineWrong : ChangeSpec := { name := "fnExactSplitEngine", fn := fun _ => fun
  | [d1, d2] => { results := [.lit (.bool false)], args := [d1, d2] }
  | _ => none }
def FnExactSplitEngineWrongFalsely : Prop := fnExactSplitEngineRow.holds Try.pinned (OpenSpec.ofChange fnExactSplitEngineWrong)

/-- 'laws.FnExactJoinEngines': WHATEVER THE INPUT: true; the input reads as it did. -/
def fnExactJoinEnginesSpec : ChangeSpec := { name := "fnExactJoinEngines", fn := fun _ => fun
  | [d1, d2] => { results := [.lit (.bool true)], args := [d1, d2] }
  | _ => none }
def fnExactJoinEnginesRow : OpenClaim := { program := "ytgndnkpenmcafaa", sum := "e5fbdd881cf47f205809c5e098387e088434db889d14b7de5f09a066fb65a4c9", func := "loop.example/differenceengine/laws.FnExactJoinEngines", spec := "fnExactJoinEngines", apart := false }
def FnExactJoinEnginesSaid : Prop := fnExactJoinEnginesRow.holds Try.pinned (OpenSpec.ofChange fnExactJoinEnginesSpec)

/-- ITS FALSE NEIGHBOUR: 'it returns false'. Refute it at one input. -/
def fnExactJoinEnginesWrong : ChangeSpec := { name := "fnExactJoinEngines", fn := fun _ => fun
  | [d1, d2] => { results := [.lit (.bool false)], args := [d1, d2] }
  | _ => none }
def FnExactJoinEnginesWrongFalsely : Prop := fnExactJoinEnginesRow.holds Try.pinned (OpenSpec.ofChange fnExactJoinEnginesWrong)

/-- 'laws.FnExactSumEngine': WHATEVER THE INPUT: true; the input reads as it did. -/
def fnExactSumEngineSpec : ChangeSpec := { name := "fnExactSumEngine", fn := fun _ => fun
  | [d1, d2] => { results := [.lit (.bool true)], args := [d1, d2] }
  | _ => none }
def fnExactSumEngineRow : OpenClaim := { program := "ytgndnkpenmcafaa", sum := "e5fbdd881cf47f205809c5e098387e088434db889d14b7de5f09a066fb65a4c9", func := "loop.example/differenceengine/laws.FnExactSumEngine", spec := "fnExactSumEngine", apart := false }
def FnExactSumEngineSaid : Prop := fnExactSumEngineRow.holds Try.pinned (OpenSpec.ofChange fnExactSumEngineSpec)

/-- ITS FALSE NEIGHBOUR: 'it returns false'. Refute it at one input. -/
def fnExactSumEngineWrong : ChangeSpec := { name := "fnExactSumEngine", fn := fun _ => fun
  | [d1, d2] => { results := [.lit (.bool false)], args := [d1, d2] }
  | _ => none }
def FnExactSumEngineWrongFalsely : Prop := fnExactSumEngineRow.holds Try.pinned (OpenSpec.ofChange fnExactSumEngineWrong)

/-- 'laws.FnExactCascadeTurn': WHATEVER THE INPUT: true; the input reads as it did. -/
def fnExactCascadeTurnSpec : ChangeSpec := { name := "fnExactCascadeTurn", fn := fun _ => fun
  | [d1, d2] => { results := [.lit (.bool true)], args := [d1, d2] }
  | _ => none }
def fnExactCascadeTurnRow : OpenClaim := { program := "ytgndnkpenmcafaa", sum := "e5fbdd881cf47f205809c5e098387e088434db889d14b7de5f09a066fb65a4c9", func := "loop.example/differenceengine/laws.FnExactCascadeTurn", spec := "fnExactCascadeTurn", apart := false }
def FnExactCascadeTurnSaid : Prop := fnExactCascadeTurnRow.holds Try.pinned (OpenSpec.ofChange fnExactCascadeTurnSpec)

/-- ITS FALSE NEIGHBOUR: 'it returns false'. Refute it at one input. -/
def fnExactCascadeTurnWrong : ChangeSpec := { name := "fnExactCascadeTurn", fn := fun _ => fun
  | [d1, d2] => { results := [.lit (.bool false)], args := [d1, d2] }
  | _ => none }
def FnExactCascadeTurnWrongFalsely : Prop := fnExactCascadeTurnRow.holds Try.pinned (OpenSpec.ofChange fnExactCascadeTurnWrong)

/-- 'laws.FnExactRunCascade': WHATEVER THE INPUT: true; the input reads as it did. -/
def fnExactRunCascadeSpec : ChangeSpec := { name := "fnExactRunCascade", fn := fun _ => fun
  | [d1, d2, d3] => { results := [.lit (.bool true)], args := [d1, d2, d3] }
  | _ => none }
def fnExactRunCascadeRow : OpenClaim := { program := "ytgndnkpenmcafaa", sum := "e5fbdd881cf47f205809c5e098387e088434db889d14b7de5f09a066fb65a4c9", func := "loop.example/differenceengine/laws.FnExactRunCascade", spec := "fnExactRunCascade", apart := false }
def FnExactRunCascadeSaid : Prop := fnExactRunCascadeRow.holds Try.pinned (OpenSpec.ofChange fnExactRunCascadeSpec)

/-- ITS FALSE NEIGHBOUR: 'it returns false'. Refute it at one input. -/
def fnExactRunCascadeWrong : ChangeSpec := { name := "fnExactRunCascade", fn := fun _ => fun
  | [d1, d2, d3] => { results := [.lit (.bool false)], args := [d1, d2, d3] }
  | _ => none }
def FnExactRunCascadeWrongFalsely : Prop := fnExactRunCascadeRow.holds Try.pinned (OpenSpec.ofChange fnExactRunCascadeWrong)

/-- 'laws.FnExactTotalOf': WHATEVER THE INPUT: true; the input reads as it did. -/
def fnExactTotalOfSpec : ChangeSpec := { name := "fnExactTotalOf", fn := fun _ => fun
  | [d1, d2] => { results := [.lit (.bool true)], args := [d1, d2] }
  | _ => none }
def fnExactTotalOfRow : OpenClaim := { program := "ytgndnkpenmcafaa", sum := "e5fbdd881cf47f205809c5e098387e088434db889d14b7de5f09a066fb65a4c9", func := "loop.example/differenceengine/laws.FnExactTotalOf", spec := "fnExactTotalOf", apart := false }
def FnExactTotalOfSaid : Prop := fnExactTotalOfRow.holds Try.pinned (OpenSpec.ofChange fnExactTotalOfSpec)

/-- ITS FALSE NEIGHBOUR: 'it returns false'. Refute it at one input. -/
def fnExactTotalOfWrong : ChangeSpec := { name := "fnExactTotalOf", fn := fun _ => fun
  | [d1, d2] => { results := [.lit (.bool false)], args := [d1, d2] }
  | _ => none }
def FnExactTotalOfWrongFalsely : Prop := fnExactTotalOfRow.holds Try.pinned (OpenSpec.ofChange fnExactTotalOfWrong)

/-- 'laws.FnExactPartEngines': WHATEVER THE INPUT: true; the input reads as it did. -/
def fnExactPartEnginesSpec : ChangeSpec := { name := "fnExactPartEngines", fn := fun _ => fun
  | [d1, d2, d3, d4] => { results := [.lit (.bool true)], args := [d1, d2, d3, d4] }
  | _ => none }
def fnExactPartEnginesRow : OpenClaim := { program := "ytgndnkpenmcafaa", sum := "e5fbdd881cf47f205809c5e098387e088434db889d14b7de5f09a066fb65a4c9", func := "loop.example/differenceengine/laws.FnExactPartEngines", spec := "fnExactPartEngines", apart := false }
def FnExactPartEnginesSaid : Prop := fnExactPartEnginesRow.holds Try.pinned (OpenSpec.ofChange fnExactPartEnginesSpec)

/-- ITS FALSE NEIGHBOUR: 'it returns false'. Refute it at one input. -/
def fnExactPartEnginesWrong : ChangeSpec := { name := "fnExactPartEngines", fn := fun _ => fun
  | [d1, d2, d3, d4] => { results := [.lit (.bool false)], args := [d1, d2, d3, d4] }
  | _ => none }
def FnExactPartEnginesWrongFalsely : Prop := fnExactPartEnginesRow.holds Try.pinned (OpenSpec.ofChange fnExactPartEnginesWrong)

/-- 'laws.FnExactRunSteps': WHATEVER THE INPUT: true; the input reads as it did. -/
def fnExactRunStepsSpec : ChangeSpec := { name := "fnExactRunSteps", fn := fun _ => fun
  | [d1, d2] => { results := [.lit (.bool true)], args := [d1, d2] }
  | _ => none }
def fnExactRunStepsRow : OpenClaim := { program := "ytgndnkpenmcafaa", sum := "e5fbdd881cf47f205809c5e098387e088434db889d14b7de5f09a066fb65a4c9", func := "loop.example/differenceengine/laws.FnExactRunSteps", spec := "fnExactRunSteps", apart := false }
def FnExactRunStepsSaid : Prop := fnExactRunStepsRow.holds Try.pinned (OpenSpec.ofChange fnExactRunStepsSpec)

/-- ITS FALSE NEIGHBOUR: 'it returns false'. Refute it at one input. -/
def fnExactRunStepsWrong : ChangeSpec := { name := "fnExactRunSteps", fn := fun _ => fun
  | [d1, d2] => { results := [.lit (.bool false)], args := [d1, d2] }
  | _ => none }
def FnExactRunStepsWrongFalsely : Prop := fnExactRunStepsRow.holds Try.pinned (OpenSpec.ofChange fnExactRunStepsWrong)

/-- 'laws.FnExactStepEngines': WHATEVER THE INPUT: true; the input reads as it did. -/
def fnExactStepEnginesSpec : ChangeSpec := { name := "fnExactStepEngines", fn := fun _ => fun
  | [d1, d2, d3, d4] => { results := [.lit (.bool true)], args := [d1, d2, d3, d4] }
  | _ => none }
def fnExactStepEnginesRow : OpenClaim := { program := "ytgndnkpenmcafaa", sum := "e5fbdd881cf47f205809c5e098387e088434db889d14b7de5f09a066fb65a4c9", func := "loop.example/differenceengine/laws.FnExactStepEngines", spec := "fnExactStepEngines", apart := false }
def FnExactStepEnginesSaid : Prop := fnExactStepEnginesRow.holds Try.pinned (OpenSpec.ofChange fnExactStepEnginesSpec)

/-- ITS FALSE NEIGHBOUR: 'it returns false'. Refute it at one input. -/
def fnExactStepEnginesWrong : ChangeSpec := { name := "fnExactStepEngines", fn := fun _ => fun
  | [d1, d2, d3, d4] => { results := [.lit (.bool false)], args := [d1, d2, d3, d4] }
  | _ => none }
def FnExactStepEnginesWrongFalsely : Prop := fnExactStepEnginesRow.holds Try.pinned (OpenSpec.ofChange fnExactStepEnginesWrong)

/-- 'laws.FnExactRunParts': WHATEVER THE INPUT: true; the input reads as it did. -/
def fnExactRunPartsSpec : ChangeSpec := { name := "fnExactRunParts", fn := fun _ => fun
  | [d1, d2] => { results := [.lit (.bool true)], args := [d1, d2] }
  | _ => none }
def fnExactRunPartsRow : OpenClaim := { program := "ytgndnkpenmcafaa", sum := "e5fbdd881cf47f205809c5e098387e088434db889d14b7de5f09a066fb65a4c9", func := "loop.example/differenceengine/laws.FnExactRunParts", spec := "fnExactRunParts", unfollowed := true, recurses := true, apart := false }
def FnExactRunPartsSaid : Prop := fnExactRunPartsRow.holds Try.pinned (OpenSpec.ofChange fnExactRunPartsSpec)

/-- ITS FALSE NEIGHBOUR: 'it returns false'. Refute it at one input. -/
def fnExactRunPartsWrong : ChangeSpec := { name := "fnExactRunParts", fn := fun _ => fun
  | [d1, d2] => { results := [.lit (.bool false)], args := [d1, d2] }
  | _ => none }
def FnExactRunPartsWrongFalsely : Prop := fnExactRunPartsRow.holds Try.pinned (OpenSpec.ofChange fnExactRunPartsWrong)

/-- 'laws.FnExactJobValid': WHATEVER THE INPUT: true; the input reads as it did. -/
def fnExactJobValidSpec : ChangeSpec := { name := "fnExactJobValid", fn := fun _ => fun
  | [d] => { results := [.lit (.bool true)], args := [d] }
  | _ => none }
def fnExactJobValidRow : OpenClaim := { program := "ytgndnkpenmcafaa", sum := "e5fbdd881cf47f205809c5e098387e088434db889d14b7de5f09a066fb65a4c9", func := "loop.example/differenceengine/laws.FnExactJobValid", spec := "fnExactJobValid", apart := false }
def FnExactJobValidSaid : Prop := fnExactJobValidRow.holds Try.pinned (OpenSpec.ofChange fnExactJobValidSpec)

/-- ITS FALSE NEIGHBOUR: 'it returns false'. Refute it at one input. -/
def fnExactJobValidWrong : ChangeSpec := { name := "fnExactJobValid", fn := fun _ => fun
  | [d] => { results := [.lit (.bool false)], args := [d] }
  | _ => none }
def FnExactJobValidWrongFalsely : Prop := fnExactJobValidRow.holds Try.pinned (OpenSpec.ofChange fnExactJobValidWrong)

/-- 'laws.FnExactJobTime': WHATEVER THE INPUT: true; the input reads as it did. -/
def fnExactJobTimeSpec : ChangeSpec := { name := "fnExactJobTime", fn := fun _ => fun
  | [d] => { results := [.lit (.bool true)], args := [d] }
  | _ => none }
def fnExactJobTimeRow : OpenClaim := { program := "ytgndnkpenmcafaa", sum := "e5fbdd881cf47f205809c5e098387e088434db889d14b7de5f09a066fb65a4c9", func := "loop.example/differenceengine/laws.FnExactJobTime", spec := "fnExactJobTime", apart := false }
def FnExactJobTimeSaid : Prop := fnExactJobTimeRow.holds Try.pinned (OpenSpec.ofChange fnExactJobTimeSpec)

/-- ITS FALSE NEIGHBOUR: 'it returns false'. Refute it at one input. -/
def fnExactJobTimeWrong : ChangeSpec := { name := "fnExactJobTime", fn := fun _ => fun
  | [d] => { results := [.lit (.bool false)], args := [d] }
  | _ => none }
def FnExactJobTimeWrongFalsely : Prop := fnExactJobTimeRow.holds Try.pinned (OpenSpec.ofChange fnExactJobTimeWrong)

/- THE SECOND FORM. 'bulk': how many values and letters a reading holds, each counted each time it is reached (what is shared counts as often as it is met; a slice's spare places count too). A statement '..UptoSaid' is the law's where the arguments, and the package variables that the reading takes, are together of bulk at most 1048576: NARROWER than '..Said'. Prove '..Said' where nothing that the law and all that it calls make is longer than what came in: it says more and counts as full. Else prove '..UptoSaid'. A law counts once. -/
mutual
def uptoBulk {H : Type} : DataW H → Nat
  | .lit (.string bytes) => bytes.length + 1
  | .lit _ => 1
  | .nil => 1
  | .ptr d => uptoBulk d + 1
  | .slice elems spare => uptoBulkAll elems + uptoBulkAll spare + 1
  | .agg parts => uptoBulkAll parts + 1
  | .iface _ d => uptoBulk d + 1
  | .map entries => uptoBulkEntries entries + 1
  | .held _ => 1
def uptoBulkAll {H : Type} : List (DataW H) → Nat
  | [] => 0
  | d :: r => uptoBulk d + uptoBulkAll r
def uptoBulkEntries {H : Type} : List (Lit × DataW H) → Nat
  | [] => 0
  | x :: r => uptoBulkEntry x + uptoBulkEntries r
def uptoBulkEntry {H : Type} : Lit × DataW H → Nat
  | (.string bytes, d) => bytes.length + uptoBulk d + 1
  | (_, d) => uptoBulk d + 1
 end
def uptoSmall : (H : Type) → List (DataW H) → Bool := fun _ ds => decide (uptoBulkAll ds ≤ 1048576)
def OpenSpec.upto (s : _root_.Go.ChangeSpec) : _root_.Go.OpenSpec := { _root_.Go.OpenSpec.ofChange s with cond := some uptoSmall }

/-- 'laws.FnExactSplitEngine', WHERE WHAT IT READS IS OF BULK AT MOST 1048576: true; the input reads as it did. -/
def fnExactSplitEngineUptoRow : OpenClaim := { program := "ytgndnkpenmcafaa", sum := "e5fbdd881cf47f205809c5e098387e088434db889d14b7de5f09a066fb65a4c9", func := "loop.example/differenceengine/laws.FnExactSplitEngine", spec := "fnExactSplitEngine", apart := false, narrowed := true }
def FnExactSplitEngineUptoSaid : Prop := fnExactSplitEngineUptoRow.holds Try.pinned (OpenSpec.upto fnExactSplitEngineSpec)

/-- 'laws.FnExactJoinEngines', WHERE WHAT IT READS IS OF BULK AT MOST 1048576: true; the input reads as it did. -/
def fnExactJoinEnginesUptoRow : OpenClaim := { program := "ytgndnkpenmcafaa", sum := "e5fbdd881cf47f205809c5e098387e088434db889d14b7de5f09a066fb65a4c9", func := "loop.example/differenceengine/laws.FnExactJoinEngines", spec := "fnExactJoinEngines", apart := false, narrowed := true }
def FnExactJoinEnginesUptoSaid : Prop := fnExactJoinEnginesUptoRow.holds Try.pinned (OpenSpec.upto fnExactJoinEnginesSpec)

/-- 'laws.FnExactSumEngine', WHERE WHAT IT READS IS OF BULK AT MOST 1048576: true; the input reads as it did. -/
def fnExactSumEngineUptoRow : OpenClaim := { program := "ytgndnkpenmcafaa", sum := "e5fbdd881cf47f205809c5e098387e088434db889d14b7de5f09a066fb65a4c9", func := "loop.example/differenceengine/laws.FnExactSumEngine", spec := "fnExactSumEngine", apart := false, narrowed := true }
def FnExactSumEngineUptoSaid : Prop := fnExactSumEngineUptoRow.holds Try.pinned (OpenSpec.upto fnExactSumEngineSpec)

/-- 'laws.FnExactCascadeTurn', WHERE WHAT IT READS IS OF BULK AT MOST 1048576: true; the input reads as it did. -/
def fnExactCascadeTurnUptoRow : OpenClaim := { program := "ytgndnkpenmcafaa", sum := "e5fbdd881cf47f205809c5e098387e088434db889d14b7de5f09a066fb65a4c9", func := "loop.example/differenceengine/laws.FnExactCascadeTurn", spec := "fnExactCascadeTurn", apart := false, narrowed := true }
def FnExactCascadeTurnUptoSaid : Prop := fnExactCascadeTurnUptoRow.holds Try.pinned (OpenSpec.upto fnExactCascadeTurnSpec)

/-- 'laws.FnExactRunCascade', WHERE WHAT IT READS IS OF BULK AT MOST 1048576: true; the input reads as it did. -/
def fnExactRunCascadeUptoRow : OpenClaim := { program := "ytgndnkpenmcafaa", sum := "e5fbdd881cf47f205809c5e098387e088434db889d14b7de5f09a066fb65a4c9", func := "loop.example/differenceengine/laws.FnExactRunCascade", spec := "fnExactRunCascade", apart := false, narrowed := true }
def FnExactRunCascadeUptoSaid : Prop := fnExactRunCascadeUptoRow.holds Try.pinned (OpenSpec.upto fnExactRunCascadeSpec)

/-- 'laws.FnExactTotalOf', WHERE WHAT IT READS IS OF BULK AT MOST 1048576: true; the input reads as it did. -/
def fnExactTotalOfUptoRow : OpenClaim := { program := "ytgndnkpenmcafaa", sum := "e5fbdd881cf47f205809c5e098387e088434db889d14b7de5f09a066fb65a4c9", func := "loop.example/differenceengine/laws.FnExactTotalOf", spec := "fnExactTotalOf", apart := false, narrowed := true }
def FnExactTotalOfUptoSaid : Prop := fnExactTotalOfUptoRow.holds Try.pinned (OpenSpec.upto fnExactTotalOfSpec)

/-- 'laws.FnExactPartEngines', WHERE WHAT IT READS IS OF BULK AT MOST 1048576: true; the input reads as it did. -/
def fnExactPartEnginesUptoRow : OpenClaim := { program := "ytgndnkpenmcafaa", sum := "e5fbdd881cf47f205809c5e098387e088434db889d14b7de5f09a066fb65a4c9", func := "loop.example/differenceengine/laws.FnExactPartEngines", spec := "fnExactPartEngines", apart := false, narrowed := true }
def FnExactPartEnginesUptoSaid : Prop := fnExactPartEnginesUptoRow.holds Try.pinned (OpenSpec.upto fnExactPartEnginesSpec)

/-- 'laws.FnExactRunSteps', WHERE WHAT IT READS IS OF BULK AT MOST 1048576: true; the input reads as it did. -/
def fnExactRunStepsUptoRow : OpenClaim := { program := "ytgndnkpenmcafaa", sum := "e5fbdd881cf47f205809c5e098387e088434db889d14b7de5f09a066fb65a4c9", func := "loop.example/differenceengine/laws.FnExactRunSteps", spec := "fnExactRunSteps", apart := false, narrowed := true }
def FnExactRunStepsUptoSaid : Prop := fnExactRunStepsUptoRow.holds Try.pinned (OpenSpec.upto fnExactRunStepsSpec)

/-- 'laws.FnExactStepEngines', WHERE WHAT IT READS IS OF BULK AT MOST 1048576: true; the input reads as it did. -/
def fnExactStepEnginesUptoRow : OpenClaim := { program := "ytgndnkpenmcafaa", sum := "e5fbdd881cf47f205809c5e098387e088434db889d14b7de5f09a066fb65a4c9", func := "loop.example/differenceengine/laws.FnExactStepEngines", spec := "fnExactStepEngines", apart := false, narrowed := true }
def FnExactStepEnginesUptoSaid : Prop := fnExactStepEnginesUptoRow.holds Try.pinned (OpenSpec.upto fnExactStepEnginesSpec)

/-- 'laws.FnExactRunParts', WHERE WHAT IT READS IS OF BULK AT MOST 1048576: true; the input reads as it did. -/
def fnExactRunPartsUptoRow : OpenClaim := { program := "ytgndnkpenmcafaa", sum := "e5fbdd881cf47f205809c5e098387e088434db889d14b7de5f09a066fb65a4c9", func := "loop.example/differenceengine/laws.FnExactRunParts", spec := "fnExactRunParts", unfollowed := true, recurses := true, apart := false, narrowed := true }
def FnExactRunPartsUptoSaid : Prop := fnExactRunPartsUptoRow.holds Try.pinned (OpenSpec.upto fnExactRunPartsSpec)

/-- 'laws.FnExactJobValid', WHERE WHAT IT READS IS OF BULK AT MOST 1048576: true; the input reads as it did. -/
def fnExactJobValidUptoRow : OpenClaim := { program := "ytgndnkpenmcafaa", sum := "e5fbdd881cf47f205809c5e098387e088434db889d14b7de5f09a066fb65a4c9", func := "loop.example/differenceengine/laws.FnExactJobValid", spec := "fnExactJobValid", apart := false, narrowed := true }
def FnExactJobValidUptoSaid : Prop := fnExactJobValidUptoRow.holds Try.pinned (OpenSpec.upto fnExactJobValidSpec)

/-- 'laws.FnExactJobTime', WHERE WHAT IT READS IS OF BULK AT MOST 1048576: true; the input reads as it did. -/
def fnExactJobTimeUptoRow : OpenClaim := { program := "ytgndnkpenmcafaa", sum := "e5fbdd881cf47f205809c5e098387e088434db889d14b7de5f09a066fb65a4c9", func := "loop.example/differenceengine/laws.FnExactJobTime", spec := "fnExactJobTime", apart := false, narrowed := true }
def FnExactJobTimeUptoSaid : Prop := fnExactJobTimeUptoRow.holds Try.pinned (OpenSpec.upto fnExactJobTimeSpec)

end Rows
end Go.Proofs.Ytgndnkpenmcafaa
