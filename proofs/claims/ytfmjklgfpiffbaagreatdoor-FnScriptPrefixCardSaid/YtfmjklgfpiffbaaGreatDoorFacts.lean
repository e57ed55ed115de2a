/-
  Facts on the whole program, for all frames of this seat.
-/
import Derived.Test.YtfmjklgfpiffbaaGreatDoorRows
import Derived.ProofKit
import Derived.OpenShut
import Derived.ChangeOld
namespace Go.Proofs.YtfmjklgfpiffbaaGreatDoor.Facts
open Go.ChangeShapes Go.WideShapes Go.ChangeAt Go.RowKit

theorem g1 : (laidOutB Tryz.pinned.checked.prog) = true := by kernel_rfl
theorem g2 : (mapsRowed Tryz.pinned.checked.prog) = true := by kernel_rfl
theorem g6 : ((Tryz.pinned.checked.prog.stops == [])) = true := by kernel_rfl
theorem g8 : ((Tryz.pinned.checked.prog.stopKnobs == [])) = true := by kernel_rfl
theorem g22 : ((Rows.fnExactRunScriptRow.plainKeys == Tryz.pinned.checked.prog.plainKeys)) = true := by kernel_rfl
theorem g24 : (Tryz.pinned.checked.prog.stopsHeard) = true := by kernel_rfl
theorem g25 : (Tryz.pinned.checked.prog.mayEnter) = true := by kernel_rfl
theorem g26 : ((Rows.fnExactRunScriptRow.lifted == Tryz.pinned.checked.prog.liftsFinal)) = true := by kernel_rfl
theorem g27 : ((Tryz.pinned.checked.prog.make == some Rows.fnExactRunScriptRow.make)) = true := by kernel_rfl

end Go.Proofs.YtfmjklgfpiffbaaGreatDoor.Facts
