/-
  Facts on the whole program, for all frames of this seat.
-/
import Derived.Test.YthkpgcociklddaaRows
import Derived.ProofKit
import Derived.OpenShut
import Derived.ChangeOld
namespace Go.Proofs.Ythkpgcociklddaa.Facts
open Go.ChangeShapes Go.WideShapes Go.ChangeAt Go.RowKit

theorem g1 : (laidOutB Try.pinned.checked.prog) = true := by kernel_rfl
theorem g2 : (mapsRowed Try.pinned.checked.prog) = true := by kernel_rfl
theorem g6 : ((Try.pinned.checked.prog.stops == [])) = true := by kernel_rfl
theorem g8 : ((Try.pinned.checked.prog.stopKnobs == [])) = true := by kernel_rfl
theorem g22 : ((Rows.fnWholeHouseRow.plainKeys == Try.pinned.checked.prog.plainKeys)) = true := by kernel_rfl
theorem g24 : (Try.pinned.checked.prog.stopsHeard) = true := by kernel_rfl
theorem g25 : (Try.pinned.checked.prog.mayEnter) = true := by kernel_rfl
theorem g26 : ((Rows.fnWholeHouseRow.lifted == Try.pinned.checked.prog.liftsFinal)) = true := by kernel_rfl
theorem g27 : ((Try.pinned.checked.prog.make == some Rows.fnWholeHouseRow.make)) = true := by kernel_rfl

end Go.Proofs.Ythkpgcociklddaa.Facts
