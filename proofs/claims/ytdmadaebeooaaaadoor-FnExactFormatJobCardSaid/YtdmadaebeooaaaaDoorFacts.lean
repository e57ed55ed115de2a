/-
  Facts on the whole program, for all frames of this seat.
-/
import Derived.Test.YtdmadaebeooaaaaDoorRows
import Derived.ProofKit
import Derived.OpenShut
import Derived.ChangeOld
namespace Go.Proofs.YtdmadaebeooaaaaDoor.Facts
open Go.ChangeShapes Go.WideShapes Go.ChangeAt Go.RowKit

theorem g1 : (laidOutB Tryd.pinned.checked.prog) = true := by kernel_rfl
theorem g2 : (mapsRowed Tryd.pinned.checked.prog) = true := by kernel_rfl
theorem g6 : ((Tryd.pinned.checked.prog.stops == [])) = true := by kernel_rfl
theorem g8 : ((Tryd.pinned.checked.prog.stopKnobs == [])) = true := by kernel_rfl
theorem g22 : ((Rows.fnExactFormatJobRow.plainKeys == Tryd.pinned.checked.prog.plainKeys)) = true := by kernel_rfl
theorem g24 : (Tryd.pinned.checked.prog.stopsHeard) = true := by kernel_rfl
theorem g25 : (Tryd.pinned.checked.prog.mayEnter) = true := by kernel_rfl
theorem g26 : ((Rows.fnExactFormatJobRow.lifted == Tryd.pinned.checked.prog.liftsFinal)) = true := by kernel_rfl
theorem g27 : ((Tryd.pinned.checked.prog.make == some Rows.fnExactFormatJobRow.make)) = true := by kernel_rfl

end Go.Proofs.YtdmadaebeooaaaaDoor.Facts
