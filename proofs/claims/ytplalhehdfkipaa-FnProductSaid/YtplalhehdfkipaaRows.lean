/-
  No cell of these rows narrows 'for every input' (looked for: loops, veiled, ifaces, maps, wideKeys, modest, calm, conditions, laid).
  DERIVED. THE GIVEN ROWS OF THIS SEAT. 12 by the template 'for every input the law returns true; each argument reads behind the call as it read before'; 0 by the template 'total and deterministic' (their statements: YtplalhehdfkipaaTotals.lean).
  GIVEN WITH THE SEED: the statements are not yours to turn. If you find one false, say at which input.
  Laid BY PROGRAM, IN A SANDBOX (cutbox-rows.mjs): the forced cells as the released guide's own fill.sh prints them over the translation e3bebc2bebb5cf8c… (all of the seat's roots in one cut). By AI agents, Wed Nov 11 2026. No macro, syntax, notation, axiom, sorry.
-/
import Derived.Test.YtplalhehdfkipaaChecked
import GoSem.Claim
import GoSem.ClaimJoined
import GoSem.ClaimMapViews
import Derived.JoinedTies
import Derived.KernelRfl
namespace Go.Proofs.Ytplalhehdfkipaa
/- THE CELL 'sum', in the pinned program and in every row, IS THE sha256 OF THE DUMP (.gsa) THAT YtplalhehdfkipaaProg.lean LOADS. Nothing in Lean hashes anything: it is a label: what it is worth is what the hold of that sum in a sandbox is worth. -/
noncomputable def Try.pinned : Pinned := { name := "ytplalhehdfkipaa", sum := "e3bebc2bebb5cf8c7d16198aff76f524085c78982b80493341b33ccbef1bd0c7", checked := Try.checked }
namespace Rows
def none {H : Type} : Left H := { results := [], args := [] }

/-- 'laws.FnExactTimesValid': WHATEVER THE INPUT: true; the input reads as it did. -/
def fnExactTimesValidSpec : ChangeSpec := { name := "fnExactTimesValid", fn := fun _ => fun
  | [d] => { results := [.lit (.bool true)], args := [d] }
  | _ => none }
def fnExactTimesValidRow : OpenClaim := { program := "ytplalhehdfkipaa", sum := "e3bebc2bebb5cf8c7d16198aff76f524085c78982b80493341b33ccbef1bd0c7", func := "loop.example/differenceengine/laws.FnExactTimesValid", spec := "fnExactTimesValid", apart := false }
def FnExactTimesValidSaid : Prop := fnExactTimesValidRow.holds Try.pinned (OpenSpec.ofChange fnExactTimesValidSpec)

/-- ITS FALSE NEIGHBOUR: 'it returns false'. Refute it at one input. -/
def fnExactTimesValidWrong : ChangeSpec := { name := "fnExactTimesValid", fn := fun _ => fun
  | [d] => { results := [.lit (.bool false)], args := [d] }
  | _ => none }
def FnExactTimesValidWrongFalsely : Prop := fnExactTimesValidRow.holds Try.pinned (OpenSpec.ofChange fnExactTimesValidWrong)

/-- 'laws.FnExactProductOf': WHATEVER THE INPUT: true; the input reads as it did. -/
def fnExactProductOfSpec : ChangeSpec := { name := "fnExactProductOf", fn := fun _ => fun
  | [d1, d2, d3] => { results := [.lit (.bool true)], args := [d1, d2, d3] }
  | _ => none }
def fnExactProductOfRow : OpenClaim := { program := "ytplalhehdfkipaa", sum := "e3bebc2bebb5cf8c7d16198aff76f524085c78982b80493341b33ccbef1bd0c7", func := "loop.example/differenceengine/laws.FnExactProductOf", spec := "fnExactProductOf", apart := false }
def FnExactProductOfSaid : Prop := fnExactProductOfRow.holds Try.pinned (OpenSpec.ofChange fnExactProductOfSpec)

/-- ITS FALSE NEIGHBOUR: 'it returns false'. Refute it at one input. -/
def fnExactProductOfWrong : ChangeSpec := { name := "fnExactProductOf", fn := fun _ => fun
  | [d1, d2, d3] => { results := [.lit (.bool false)], args := [d1, d2, d3] }
  | _ => none }
def FnExactProductOfWrongFalsely : Prop := fnExactProductOfRow.holds Try.pinned (OpenSpec.ofChange fnExactProductOfWrong)

/-- 'laws.FnInterleave': WHATEVER THE INPUT: true; the input reads as it did. -/
def fnInterleaveSpec : ChangeSpec := { name := "fnInterleave", fn := fun _ => fun
  | [d] => { results := [.lit (.bool true)], args := [d] }
  | _ => none }
def fnInterleaveRow : OpenClaim := { program := "ytplalhehdfkipaa", sum := "e3bebc2bebb5cf8c7d16198aff76f524085c78982b80493341b33ccbef1bd0c7", func := "loop.example/differenceengine/laws.FnInterleave", spec := "fnInterleave", apart := false }
def FnInterleaveSaid : Prop := fnInterleaveRow.holds Try.pinned (OpenSpec.ofChange fnInterleaveSpec)

/-- ITS FALSE NEIGHBOUR: 'it returns false'. Refute it at one input. -/
def fnInterleaveWrong : ChangeSpec := { name := "fnInterleave", fn := fun _ => fun
  | [d] => { results := [.lit (.bool false)], args := [d] }
  | _ => none }
def FnInterleaveWrongFalsely : Prop := fnInterleaveRow.holds Try.pinned (OpenSpec.ofChange fnInterleaveWrong)

/-- 'laws.FnExactSpanOf': WHATEVER THE INPUT: true; the input reads as it did. -/
def fnExactSpanOfSpec : ChangeSpec := { name := "fnExactSpanOf", fn := fun _ => fun
  | [d1, d2, d3] => { results := [.lit (.bool true)], args := [d1, d2, d3] }
  | _ => none }
def fnExactSpanOfRow : OpenClaim := { program := "ytplalhehdfkipaa", sum := "e3bebc2bebb5cf8c7d16198aff76f524085c78982b80493341b33ccbef1bd0c7", func := "loop.example/differenceengine/laws.FnExactSpanOf", spec := "fnExactSpanOf", apart := false }
def FnExactSpanOfSaid : Prop := fnExactSpanOfRow.holds Try.pinned (OpenSpec.ofChange fnExactSpanOfSpec)

/-- ITS FALSE NEIGHBOUR: 'it returns false'. Refute it at one input. -/
def fnExactSpanOfWrong : ChangeSpec := { name := "fnExactSpanOf", fn := fun _ => fun
  | [d1, d2, d3] => { results := [.lit (.bool false)], args := [d1, d2, d3] }
  | _ => none }
def FnExactSpanOfWrongFalsely : Prop := fnExactSpanOfRow.holds Try.pinned (OpenSpec.ofChange fnExactSpanOfWrong)

/-- 'laws.FnExactVote': WHATEVER THE INPUT: true; the input reads as it did. -/
def fnExactVoteSpec : ChangeSpec := { name := "fnExactVote", fn := fun _ => fun
  | [d1, d2, d3] => { results := [.lit (.bool true)], args := [d1, d2, d3] }
  | _ => none }
def fnExactVoteRow : OpenClaim := { program := "ytplalhehdfkipaa", sum := "e3bebc2bebb5cf8c7d16198aff76f524085c78982b80493341b33ccbef1bd0c7", func := "loop.example/differenceengine/laws.FnExactVote", spec := "fnExactVote", apart := false }
def FnExactVoteSaid : Prop := fnExactVoteRow.holds Try.pinned (OpenSpec.ofChange fnExactVoteSpec)

/-- ITS FALSE NEIGHBOUR: 'it returns false'. Refute it at one input. -/
def fnExactVoteWrong : ChangeSpec := { name := "fnExactVote", fn := fun _ => fun
  | [d1, d2, d3] => { results := [.lit (.bool false)], args := [d1, d2, d3] }
  | _ => none }
def FnExactVoteWrongFalsely : Prop := fnExactVoteRow.holds Try.pinned (OpenSpec.ofChange fnExactVoteWrong)

/-- 'laws.FnExactFaultyOne': WHATEVER THE INPUT: true; the input reads as it did. -/
def fnExactFaultyOneSpec : ChangeSpec := { name := "fnExactFaultyOne", fn := fun _ => fun
  | [d1, d2, d3] => { results := [.lit (.bool true)], args := [d1, d2, d3] }
  | _ => none }
def fnExactFaultyOneRow : OpenClaim := { program := "ytplalhehdfkipaa", sum := "e3bebc2bebb5cf8c7d16198aff76f524085c78982b80493341b33ccbef1bd0c7", func := "loop.example/differenceengine/laws.FnExactFaultyOne", spec := "fnExactFaultyOne", apart := false }
def FnExactFaultyOneSaid : Prop := fnExactFaultyOneRow.holds Try.pinned (OpenSpec.ofChange fnExactFaultyOneSpec)

/-- ITS FALSE NEIGHBOUR: 'it returns false'. Refute it at one input. -/
def fnExactFaultyOneWrong : ChangeSpec := { name := "fnExactFaultyOne", fn := fun _ => fun
  | [d1, d2, d3] => { results := [.lit (.bool false)], args := [d1, d2, d3] }
  | _ => none }
def FnExactFaultyOneWrongFalsely : Prop := fnExactFaultyOneRow.holds Try.pinned (OpenSpec.ofChange fnExactFaultyOneWrong)

/-- 'laws.FnExactGreedySchedule': WHATEVER THE INPUT: true; the input reads as it did. -/
def fnExactGreedyScheduleSpec : ChangeSpec := { name := "fnExactGreedySchedule", fn := fun _ => fun
  | [d1, d2] => { results := [.lit (.bool true)], args := [d1, d2] }
  | _ => none }
def fnExactGreedyScheduleRow : OpenClaim := { program := "ytplalhehdfkipaa", sum := "e3bebc2bebb5cf8c7d16198aff76f524085c78982b80493341b33ccbef1bd0c7", func := "loop.example/differenceengine/laws.FnExactGreedySchedule", spec := "fnExactGreedySchedule", apart := false }
def FnExactGreedyScheduleSaid : Prop := fnExactGreedyScheduleRow.holds Try.pinned (OpenSpec.ofChange fnExactGreedyScheduleSpec)

/-- ITS FALSE NEIGHBOUR: 'it returns false'. Refute it at one input. -/
def fnExactGreedyScheduleWrong : ChangeSpec := { name := "fnExactGreedySchedule", fn := fun _ => fun
  | [d1, d2] => { results := [.lit (.bool false)], args := [d1, d2] }
  | _ => none }
def FnExactGreedyScheduleWrongFalsely : Prop := fnExactGreedyScheduleRow.holds Try.pinned (OpenSpec.ofChange fnExactGreedyScheduleWrong)

/-- 'laws.FnProduct': WHATEVER THE INPUT: true; the input reads as it did. -/
def fnProductSpec : ChangeSpec := { name := "fnProduct", fn := fun _ => fun
  | [d] => { results := [.lit (.bool true)], args := [d] }
  | _ => none }
def fnProductRow : OpenClaim := { program := "ytplalhehdfkipaa", sum := "e3bebc2bebb5cf8c7d16198aff76f524085c78982b80493341b33ccbef1bd0c7", func := "loop.example/differenceengine/laws.FnProduct", spec := "fnProduct", apart := false }
def FnProductSaid : Prop := fnProductRow.holds Try.pinned (OpenSpec.ofChange fnProductSpec)

/-- ITS FALSE NEIGHBOUR: 'it returns false'. Refute it at one input. -/
def fnProductWrong : ChangeSpec := { name := "fnProduct", fn := fun _ => fun
  | [d] => { results := [.lit (.bool false)], args := [d] }
  | _ => none }
def FnProductWrongFalsely : Prop := fnProductRow.holds Try.pinned (OpenSpec.ofChange fnProductWrong)

/-- 'laws.FnDeal': WHATEVER THE INPUT: true; the input reads as it did. -/
def fnDealSpec : ChangeSpec := { name := "fnDeal", fn := fun _ => fun
  | [d] => { results := [.lit (.bool true)], args := [d] }
  | _ => none }
def fnDealRow : OpenClaim := { program := "ytplalhehdfkipaa", sum := "e3bebc2bebb5cf8c7d16198aff76f524085c78982b80493341b33ccbef1bd0c7", func := "loop.example/differenceengine/laws.FnDeal", spec := "fnDeal", apart := false }
def FnDealSaid : Prop := fnDealRow.holds Try.pinned (OpenSpec.ofChange fnDealSpec)

/-- ITS FALSE NEIGHBOUR: 'it returns false'. Refute it at one input. -/
def fnDealWrong : ChangeSpec := { name := "fnDeal", fn := fun _ => fun
  | [d] => { results := [.lit (.bool false)], args := [d] }
  | _ => none }
def FnDealWrongFalsely : Prop := fnDealRow.holds Try.pinned (OpenSpec.ofChange fnDealWrong)

/-- 'laws.FnExactLeastSpan': WHATEVER THE INPUT: true; the input reads as it did. -/
def fnExactLeastSpanSpec : ChangeSpec := { name := "fnExactLeastSpan", fn := fun _ => fun
  | [d1, d2] => { results := [.lit (.bool true)], args := [d1, d2] }
  | _ => none }
def fnExactLeastSpanRow : OpenClaim := { program := "ytplalhehdfkipaa", sum := "e3bebc2bebb5cf8c7d16198aff76f524085c78982b80493341b33ccbef1bd0c7", func := "loop.example/differenceengine/laws.FnExactLeastSpan", spec := "fnExactLeastSpan", apart := false }
def FnExactLeastSpanSaid : Prop := fnExactLeastSpanRow.holds Try.pinned (OpenSpec.ofChange fnExactLeastSpanSpec)

/-- ITS FALSE NEIGHBOUR: 'it returns false'. Refute it at one input. -/
def fnExactLeastSpanWrong : ChangeSpec := { name := "fnExactLeastSpan", fn := fun _ => fun
  | [d1, d2] => { results := [.lit (.bool false)], args := [d1, d2] }
  | _ => none }
def FnExactLeastSpanWrongFalsely : Prop := fnExactLeastSpanRow.holds Try.pinned (OpenSpec.ofChange fnExactLeastSpanWrong)

/-- 'laws.FnExactBestSchedule': WHATEVER THE INPUT: true; the input reads as it did. -/
def fnExactBestScheduleSpec : ChangeSpec := { name := "fnExactBestSchedule", fn := fun _ => fun
  | [d1, d2] => { results := [.lit (.bool true)], args := [d1, d2] }
  | _ => none }
def fnExactBestScheduleRow : OpenClaim := { program := "ytplalhehdfkipaa", sum := "e3bebc2bebb5cf8c7d16198aff76f524085c78982b80493341b33ccbef1bd0c7", func := "loop.example/differenceengine/laws.FnExactBestSchedule", spec := "fnExactBestSchedule", apart := false }
def FnExactBestScheduleSaid : Prop := fnExactBestScheduleRow.holds Try.pinned (OpenSpec.ofChange fnExactBestScheduleSpec)

/-- ITS FALSE NEIGHBOUR: 'it returns false'. Refute it at one input. -/
def fnExactBestScheduleWrong : ChangeSpec := { name := "fnExactBestSchedule", fn := fun _ => fun
  | [d1, d2] => { results := [.lit (.bool false)], args := [d1, d2] }
  | _ => none }
def FnExactBestScheduleWrongFalsely : Prop := fnExactBestScheduleRow.holds Try.pinned (OpenSpec.ofChange fnExactBestScheduleWrong)

/-- 'laws.FnExactSplitEngine': WHATEVER THE INPUT: true; the input reads as it did. -/
def fnExactSplitEngineSpec : ChangeSpec := { name := "fnExactSplitEngine", fn := fun _ => fun
  | [d1, d2] => { results := [.lit (.bool true)], args := [d1, d2] }
  | _ => none }
def fnExactSplitEngineRow : OpenClaim := { program := "ytplalhehdfkipaa", sum := "e3bebc2bebb5cf8c7d16198aff76f524085c78982b80493341b33ccbef1bd0c7", func := "loop.example/differenceengine/laws.FnExactSplitEngine", spec := "fnExactSplitEngine", apart := false }
def FnExactSplitEngineSaid : Prop := fnExactSplitEngineRow.holds Try.pinned (OpenSpec.ofChange fnExactSplitEngineSpec)

/-- ITS FALSE NEIGHBOUR: 'it returns false'. Refute it at one input. -/
def fnExactSplitEngineWrong : ChangeSpec := { name := "fnExactSplitEngine", fn := fun _ => fun
  | [d1, d2] => { results := [.lit (.bool false)], args := [d1, d2] }
  | _ => none }
def FnExactSplitEngineWrongFalsely : Prop := fnExactSplitEngineRow.holds Try.pinned (OpenSpec.ofChange fnExactSplitEngineWrong)

/- THE SECOND FORM. 'bulk': how many values and letters a reading holds, each counted each time it is reached (what is shared counts as often as it is met; a slice's spare places count too). A statement '..UptoSaid' is the law's where the arguments, and the package variables that the reading takes, are together of bulk at most 1048576: NARROWER than '..Said'. Prove '..Said' where nothing that the law and all that it calls make is longer than what came in: it says more and counts as full. Else prove '..UptoSaid'. A law counts once. -/
mutual
def uptoBulk {H : Type} : DataW H → Nat
  | .lit (.string bytes) => bytes.length + 1
  | .lit _ => 1
  | .nil => 1
  | .ptr d => uptoBulk d + 1
  | .slice elems spare => uptoBulkAll elems + uptoBulkAll spare + 1
  | .agg parts => uptoBulkAll parts + 1
  | .iface _ d => uptoBulk d + 1
  | .map entries => uptoBulkEntries entries + 1
  | .held _ => 1
def uptoBulkAll {H : Type} : List (DataW H) → Nat
  | [] => 0
  | d :: r => uptoBulk d + uptoBulkAll r
def uptoBulkEntries {H : Type} : List (Lit × DataW H) → Nat
  | [] => 0
  | x :: r => uptoBulkEntry x + uptoBulkEntries r
def uptoBulkEntry {H : Type} : Lit × DataW H → Nat
  | (.string bytes, d) => bytes.length + uptoBulk d + 1
  | (_, d) => uptoBulk d + 1
 end
def uptoSmall : (H : Type) → List (DataW H) → Bool := fun _ ds => decide (uptoBulkAll ds ≤ 1048576)
def OpenSpec.upto (s : _root_.Go.ChangeSpec) : _root_.Go.OpenSpec := { _root_.Go.OpenSpec.ofChange s with cond := some uptoSmall }

/-- 'laws.FnExactTimesValid', WHERE WHAT IT READS IS OF BULK AT MOST 1048576: true; the input reads as it did. -/
def fnExactTimesValidUptoRow : OpenClaim := { program := "ytplalhehdfkipaa", sum := "e3bebc2bebb5cf8c7d16198aff76f524085c78982b80493341b33ccbef1bd0c7", func := "loop.example/differenceengine/laws.FnExactTimesValid", spec := "fnExactTimesValid", apart := false, narrowed := true }
def FnExactTimesValidUptoSaid : Prop := fnExactTimesValidUptoRow.holds Try.pinned (OpenSpec.upto fnExactTimesValidSpec)

/-- 'laws.FnExactProductOf', WHERE WHAT IT READS IS OF BULK AT MOST 1048576: true; the input reads as it did. -/
def fnExactProductOfUptoRow : OpenClaim := { program := "ytplalhehdfkipaa", sum := "e3bebc2bebb5cf8c7d16198aff76f524085c78982b80493341b33ccbef1bd0c7", func := "loop.example/differenceengine/laws.FnExactProductOf", spec := "fnExactProductOf", apart := false, narrowed := true }
def FnExactProductOfUptoSaid : Prop := fnExactProductOfUptoRow.holds Try.pinned (OpenSpec.upto fnExactProductOfSpec)

/-- 'laws.FnInterleave', WHERE WHAT IT READS IS OF BULK AT MOST 1048576: true; the input reads as it did. -/
def fnInterleaveUptoRow : OpenClaim := { program := "ytplalhehdfkipaa", sum := "e3bebc2bebb5cf8c7d16198aff76f524085c78982b80493341b33ccbef1bd0c7", func := "loop.example/differenceengine/laws.FnInterleave", spec := "fnInterleave", apart := false, narrowed := true }
def FnInterleaveUptoSaid : Prop := fnInterleaveUptoRow.holds Try.pinned (OpenSpec.upto fnInterleaveSpec)

/-- 'laws.FnExactSpanOf', WHERE WHAT IT READS IS OF BULK AT MOST 1048576: true; the input reads as it did. -/
def fnExactSpanOfUptoRow : OpenClaim := { program := "ytplalhehdfkipaa", sum := "e3bebc2bebb5cf8c7d16198aff76f524085c78982b80493341b33ccbef1bd0c7", func := "loop.example/differenceengine/laws.FnExactSpanOf", spec := "fnExactSpanOf", apart := false, narrowed := true }
def FnExactSpanOfUptoSaid : Prop := fnExactSpanOfUptoRow.holds Try.pinned (OpenSpec.upto fnExactSpanOfSpec)

/-- 'laws.FnExactVote', WHERE WHAT IT READS IS OF BULK AT MOST 1048576: true; the input reads as it did. -/
def fnExactVoteUptoRow : OpenClaim := { program := "ytplalhehdfkipaa", sum := "e3bebc2bebb5cf8c7d16198aff76f524085c78982b80493341b33ccbef1bd0c7", func := "loop.example/differenceengine/laws.FnExactVote", spec := "fnExactVote", apart := false, narrowed := true }
def FnExactVoteUptoSaid : Prop := fnExactVoteUptoRow.holds Try.pinned (OpenSpec.upto fnExactVoteSpec)

/-- 'laws.FnExactFaultyOne', WHERE WHAT IT READS IS OF BULK AT MOST 1048576: true; the input reads as it did. -/
def fnExactFaultyOneUptoRow : OpenClaim := { program := "ytplalhehdfkipaa", sum := "e3bebc2bebb5cf8c7d16198aff76f524085c78982b80493341b33ccbef1bd0c7", func := "loop.example/differenceengine/laws.FnExactFaultyOne", spec := "fnExactFaultyOne", apart := false, narrowed := true }
def FnExactFaultyOneUptoSaid : Prop := fnExactFaultyOneUptoRow.holds Try.pinned (OpenSpec.upto fnExactFaultyOneSpec)

/-- 'laws.FnExactGreedySchedule', WHERE WHAT IT READS IS OF BULK AT MOST 1048576: true; the input reads as it did. -/
def fnExactGreedyScheduleUptoRow : OpenClaim := { program := "ytplalhehdfkipaa", sum := "e3bebc2bebb5cf8c7d16198aff76f524085c78982b80493341b33ccbef1bd0c7", func := "loop.example/differenceengine/laws.FnExactGreedySchedule", spec := "fnExactGreedySchedule", apart := false, narrowed := true }
def FnExactGreedyScheduleUptoSaid : Prop := fnExactGreedyScheduleUptoRow.holds Try.pinned (OpenSpec.upto fnExactGreedyScheduleSpec)

/-- 'laws.FnProduct', WHERE WHAT IT READS IS OF BULK AT MOST 1048576: true; the input reads as it did. -/
def fnProductUptoRow : OpenClaim := { program := "ytplalhehdfkipaa", sum := "e3bebc2bebb5cf8c7d16198aff76f524085c78982b80493341b33ccbef1bd0c7", func := "loop.example/differenceengine/laws.FnProduct", spec := "fnProduct", apart := false, narrowed := true }
def FnProductUptoSaid : Prop := fnProductUptoRow.holds Try.pinned (OpenSpec.upto fnProductSpec)

/-- 'laws.FnDeal', WHERE WHAT IT READS IS OF BULK AT MOST 1048576: true; the input reads as it did. -/
def fnDealUptoRow : OpenClaim := { program := "ytplalhehdfkipaa", sum := "e3bebc2bebb5cf8c7d16198aff76f524085c78982b80493341b33ccbef1bd0c7", func := "loop.example/differenceengine/laws.FnDeal", spec := "fnDeal", apart := false, narrowed := true }
def FnDealUptoSaid : Prop := fnDealUptoRow.holds Try.pinned (OpenSpec.upto fnDealSpec)

/-- 'laws.FnExactLeastSpan', WHERE WHAT IT READS IS OF BULK AT MOST 1048576: true; the input reads as it did. -/
def fnExactLeastSpanUptoRow : OpenClaim := { program := "ytplalhehdfkipaa", sum := "e3bebc2bebb5cf8c7d16198aff76f524085c78982b80493341b33ccbef1bd0c7", func := "loop.example/differenceengine/laws.FnExactLeastSpan", spec := "fnExactLeastSpan", apart := false, narrowed := true }
def FnExactLeastSpanUptoSaid : Prop := fnExactLeastSpanUptoRow.holds Try.pinned (OpenSpec.upto fnExactLeastSpanSpec)

/-- 'laws.FnExactBestSchedule', WHERE WHAT IT READS IS OF BULK AT MOST 1048576: true; the input reads as it did. -/
def fnExactBestScheduleUptoRow : OpenClaim := { program := "ytplalhehdfkipaa", sum := "e3bebc2bebb5cf8c7d16198aff76f524085c78982b80493341b33ccbef1bd0c7", func := "loop.example/differenceengine/laws.FnExactBestSchedule", spec := "fnExactBestSchedule", apart := false, narrowed := true }
def FnExactBestScheduleUptoSaid : Prop := fnExactBestScheduleUptoRow.holds Try.pinned (OpenSpec.upto fnExactBestScheduleSpec)

/-- 'laws.FnExactSplitEngine', WHERE WHAT IT READS IS OF BULK AT MOST 1048576: true; the input reads as it did. -/
def fnExactSplitEngineUptoRow : OpenClaim := { program := "ytplalhehdfkipaa", sum := "e3bebc2bebb5cf8c7d16198aff76f524085c78982b80493341b33ccbef1bd0c7", func := "loop.example/differenceengine/laws.FnExactSplitEngine", spec := "fnExactSplitEngine", apart := false, narrowed := true }
def FnExactSplitEngineUptoSaid : Prop := fnExactSplitEngineUptoRow.holds Try.pinned (OpenSpec.upto fnExactSplitEngineSpec)

end Rows
end Go.Proofs.Ytplalhehdfkipaa
