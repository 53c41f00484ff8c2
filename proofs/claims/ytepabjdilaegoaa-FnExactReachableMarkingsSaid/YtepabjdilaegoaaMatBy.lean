/-
  The walks of the functions that make matrices.
-/
import Derived.Test.YtepabjdilaegoaaMat
import Derived.Test.YtepabjdilaegoaaDraw
namespace Go.Proofs.Ytepabjdilaegoaa
open Go.RowKit
set_option linter.unusedVariables false
set_option linter.unusedSimpArgs false

end Go.Proofs.Ytepabjdilaegoaa
