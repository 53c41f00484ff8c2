/-
  The walk of the program's isLive.
-/
import Derived.Test.YtcoomogabicfnaaOrdI
namespace Go.Proofs.Ytcoomogabicfnaa
open Go.RowKit
set_option linter.unusedVariables false
set_option linter.unusedSimpArgs false
set_option maxHeartbeats 2000000 in
set_option maxRecDepth 100000 in
theorem impl_isLive (v : Value) (n : Nat) (gp : List Place) (w : World) (h0 : Lst Place.cells 4 w w.heap.size v gp) (hok : Hid (okGraph n gp = true)) :
    Calls Try.prog 22 #[.agg #[.int .i64 n, v]] w fun r w' => r = .returned (.bool (orderF n gp).isSome) ∧ Below w.heap.size w w' := by
  obtain ⟨A, c, rfl⟩ := h0.shape
  go_enter Try.func22, Try.ntmps22
  go_wp2_with fail
  have hW : Below w.heap.size w (w.alloc (.cells #[.int .i64 (n:Int), .slice A gp.length c] 26)) := (Below.refl _ _).alloc (Nat.le_refl _) _; have hb0 : Blk (w.alloc (.cells #[.int .i64 (n:Int), .slice A gp.length c] 26)) w.heap.size 26 #[.int .i64 (n:Int), .slice A gp.length c] := Blk.new _ _ _; replace h0 := h0.now hW; generalize (w.alloc (.cells #[.int .i64 (n:Int), .slice A gp.length c] 26)) = W at *
  refine (impl_firingOrder _ n gp W h0 hok).mono ?_
  rintro e w2 ⟨x, rfl, hO, hB⟩
  go_wp2
  go_ret
  exact ⟨rfl, hW.trans (hB.mono hW.size)⟩
end Go.Proofs.Ytcoomogabicfnaa
