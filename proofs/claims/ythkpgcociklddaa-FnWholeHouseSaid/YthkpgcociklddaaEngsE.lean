/-
  Marks of lists of engines, from any number on.
-/
import Derived.Test.YthkpgcociklddaaEngsD
namespace Go.Proofs.Ythkpgcociklddaa
open Go.RowKit
set_option linter.unusedVariables false
set_option linter.unusedSimpArgs false
set_option maxRecDepth 100000


end Go.Proofs.Ythkpgcociklddaa
