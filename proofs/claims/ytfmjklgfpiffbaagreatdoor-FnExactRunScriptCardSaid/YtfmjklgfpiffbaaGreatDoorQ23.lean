/-
  Parts of the proof of one statement, merged: JdA.
-/
import Derived.Test.YtfmjklgfpiffbaaGreatDoorQ11
import Derived.Test.YtfmjklgfpiffbaaGreatDoorQ19
namespace Go.Proofs.YtfmjklgfpiffbaaGreatDoor
open Go.RowKit
set_option linter.unusedVariables false
set_option linter.unusedSimpArgs false
set_option maxRecDepth 100000
set_option maxHeartbeats 8000000
attribute [local go_sem ↓] Go.wp_at_zero Go.wp_at_succ
def ub (g:Nat) (v:Value) (W:World) (v':Value) (W':World):Prop:=
 W.heap.size≤W'.heap.size∧∀b t cs,Blk W b t cs→b≠g→v.ownBlock≠some b→Blk W' b t cs∧v'.ownBlock≠some b
theorem ub.trans {g:Nat} {v v' v'':Value} {a b c:World} (h:ub g v a v' b) (k:ub g v' b v'' c):ub g v a v'' c:=
 ⟨Ih h.1 k.1,fun q t cs h1 h2 h3=>k.2 q t cs (h.2 q t cs h1 h2 h3).1 h2 (h.2 q t cs h1 h2 h3).2⟩
end Go.Proofs.YtfmjklgfpiffbaaGreatDoor
