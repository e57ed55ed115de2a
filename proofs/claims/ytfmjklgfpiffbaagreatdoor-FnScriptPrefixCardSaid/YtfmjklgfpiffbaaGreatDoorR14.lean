/-
  Parts of the proof of one statement, merged: JoinB.
-/
import Derived.Deep.RegionHeld3
import Derived.Lib.AppendZeros
import Derived.Test.YtfmjklgfpiffbaaGreatDoorR10
namespace Go.Proofs.YtfmjklgfpiffbaaGreatDoor
open Go.RowKit
set_option linter.unusedVariables false
set_option linter.unusedSimpArgs false
set_option maxRecDepth 100000
set_option maxHeartbeats 8000000
attribute [local go_sem ↓] Go.wp_at_zero Go.wp_at_succ
def cj (w:World) (l:List ByteArray) (q:Bool) (e:Ending) (w':World):Prop:=
 ∃r,e=.returned (.tuple #[.agg #[r],.bool q])∧aj w' w.heap.size r l∧Below w.heap.size w w'
end Go.Proofs.YtfmjklgfpiffbaaGreatDoor
