/-
  The walks of IsMarking, the program's and the reference's.
-/
import Derived.Test.YtcoomogabicfnaaInts
namespace Go.Proofs.Ytcoomogabicfnaa
open Go.RowKit
set_option linter.unusedVariables false
set_option linter.unusedSimpArgs false

def okMarking (gp : List Place) (m : List Int) : Bool := decide (m.length = gp.length) && allB m 0 100

end Go.Proofs.Ytcoomogabicfnaa
