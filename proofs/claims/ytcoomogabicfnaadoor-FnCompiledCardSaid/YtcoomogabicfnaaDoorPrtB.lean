/-
  A strings.Builder of one's own: what it holds, what a write leaves; small searches.
-/
import Derived.Test.YtcoomogabicfnaaDoorPrtP
import Derived.Test.YtcoomogabicfnaaDoorInts
import Derived.Test.YtcoomogabicfnaaDoorMore
import Derived.Shelf.Strings.BuilderK
namespace Go.Proofs.YtcoomogabicfnaaDoor
open Go.RowKit
set_option linter.unusedVariables false
set_option linter.unusedSimpArgs false
set_option maxHeartbeats 400000 in
set_option maxRecDepth 100000 in
theorem slices_Contains_str (v : Value) (l : List ByteArray) (x : ByteArray) (w : World) (h0 : Lst strCell 1 w w.heap.size v l) :
    Calls Tryd.prog 46 #[v, .string x] w fun e w' => e = .returned (.bool (decide (0 ≤ findStr l x))) ∧ w = w' := by
  go_enter Tryd.func46, Tryd.ntmps46
  go_wp2_with (go_at_call 36; refine (slices_IndexStr _ _ _ _ h0).mono ?_; rintro e w' ⟨rfl, rfl⟩)
  go_ret
  exact ⟨rfl, rfl⟩

end Go.Proofs.YtcoomogabicfnaaDoor
