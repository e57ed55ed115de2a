/-
  Contracts of slices.Grow and slices.Concat on slices of strings.
-/
import Derived.Test.YtpniljcnknknoaaGreatDoorEngLaw
import Derived.Lib.AppendZeros
import Derived.LoopN
namespace Go.Proofs.YtpniljcnknknoaaGreatDoor
open Go.RowKit
set_option linter.unusedVariables false
set_option maxRecDepth 100000
attribute [local go_sem ↓] Go.wp_at_zero Go.wp_at_succ



end Go.Proofs.YtpniljcnknknoaaGreatDoor
