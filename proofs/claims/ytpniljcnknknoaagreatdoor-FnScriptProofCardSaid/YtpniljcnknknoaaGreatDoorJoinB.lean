/-
  Contracts of impl.JoinEngines, spec.l7Join, spec.JoinEngines.
-/
import Derived.Test.YtpniljcnknknoaaGreatDoorJoin
import Derived.Test.YtpniljcnknknoaaGreatDoorConcat
namespace Go.Proofs.YtpniljcnknknoaaGreatDoor
open Go.RowKit
set_option linter.unusedVariables false
set_option linter.unusedSimpArgs false
set_option maxRecDepth 100000
attribute [local go_sem ↓] Go.wp_at_zero Go.wp_at_succ

/-- An engine of one's own and a bool. -/
def EngB (w : World) (l : List ByteArray) (q : Bool) (e : Ending) (w' : World) : Prop :=
  ∃ r, e = .returned (.tuple #[.agg #[r], .bool q]) ∧ OwnS w' w.heap.size r l ∧ Below w.heap.size w w'




end Go.Proofs.YtpniljcnknknoaaGreatDoor
