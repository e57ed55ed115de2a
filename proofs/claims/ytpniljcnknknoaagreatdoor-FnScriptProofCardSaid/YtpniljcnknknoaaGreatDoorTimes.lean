/-
  Contracts of TimesValid and what it calls.
-/
import Derived.Test.YtpniljcnknknoaaGreatDoorChecked
import Derived.Test.YtpniljcnknknoaaGreatDoorBase
namespace Go.Proofs.YtpniljcnknknoaaGreatDoor
open Go.RowKit
set_option linter.unusedVariables false

set_option maxHeartbeats 400000 in
theorem l1In_any (n a b : Int) (w : World) :
    Calls Tryz.prog 138 #[.int .i64 n, .int .i64 a, .int .i64 b] w fun e w' => e = .returned (.bool (inB n a b)) ∧ w = w' := by
  go_enter Tryz.func138, Tryz.ntmps138
  go_wp2
  all_goals (go_ret; refine ⟨?_, rfl⟩; simp_all [inB])
  omega

set_option maxHeartbeats 400000 in
theorem costValid_any (n : Int) (w : World) :
    Calls Tryz.prog 95 #[.int .i64 n] w fun e w' => e = .returned (.bool (inB n 0 1000)) ∧ w = w' := by
  go_enter Tryz.func95, Tryz.ntmps95
  go_wp2
  all_goals (go_ret; refine ⟨?_, rfl⟩; simp_all [inB])
  omega

def timesOk (l : List Int) : Bool := decide (l.length ≤ 8) && l.all (fun t => inB t 0 1000)

end Go.Proofs.YtpniljcnknknoaaGreatDoor
