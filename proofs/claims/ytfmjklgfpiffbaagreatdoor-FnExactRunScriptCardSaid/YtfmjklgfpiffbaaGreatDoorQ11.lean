/-
  Parts of the proof of one statement, merged: DrawB.
-/
import Derived.Deep.DrawnRows
import Derived.Deep.RegionLaw
import Derived.Test.YtfmjklgfpiffbaaGreatDoorQ7
namespace Go.Proofs.YtfmjklgfpiffbaaGreatDoor
open Go.RowKit
set_option linter.unusedVariables false
set_option linter.unusedSimpArgs false
set_option maxRecDepth 100000
set_option maxHeartbeats 8000000
def ug (g:Nat) (v:Value) (W W':World):Prop:=W.heap.size≤W'.heap.size∧(∀B u m,Own W B u m→g<B→Hw u v→Own W' B u m)∧∀B,B≤g→(∀k,v.ownBlock=some k→B≤k)→B≤W.heap.size→Below B W W'
theorem ug.trans {g:Nat} {v:Value} {a b c:World} (h:ug g v a b) (k:ug g v b c):ug g v a c:=
 ⟨Ih h.1 k.1,fun B u m ho hB hd=>k.2.1 B u m (h.2.1 B u m ho hB hd) hB hd,fun B h1 h2 h3=>(h.2.2 B h1 h2 h3).trans (k.2.2 B h1 h2 (Ih h3 h.1))⟩
end Go.Proofs.YtfmjklgfpiffbaaGreatDoor
