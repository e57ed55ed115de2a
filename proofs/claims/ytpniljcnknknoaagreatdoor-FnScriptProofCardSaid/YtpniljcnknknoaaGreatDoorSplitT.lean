/-
  The contract of the reference's SplitEngine.
-/
import Derived.Test.YtpniljcnknknoaaGreatDoorSplitS
namespace Go.Proofs.YtpniljcnknknoaaGreatDoor
open Go.RowKit
set_option linter.unusedVariables false
set_option maxRecDepth 100000
attribute [local go_sem ↓] Go.wp_at_zero Go.wp_at_succ


end Go.Proofs.YtpniljcnknknoaaGreatDoor
