/-
  The walks of the laws' own functions on graphs: size, copy, comparison, marks.
-/
import Derived.Test.YtcoomogabicfnaaDoorEqs
namespace Go.Proofs.YtcoomogabicfnaaDoor
open Go.RowKit
set_option linter.unusedVariables false
set_option linter.unusedSimpArgs false

set_option maxHeartbeats 400000 in
set_option maxRecDepth 100000 in
theorem laws_eqEventGraph (v : Value) (ge : Int) (gp : List Place) (u : Value) (he : Int) (hp : List Place) (w : World) (h0 : Lst Place.cells 4 w w.heap.size v gp) (h1 : Lst Place.cells 4 w w.heap.size u hp) :
    Calls Tryd.prog 7 #[.agg #[.int .i64 ge, v], .agg #[.int .i64 he, u]] w fun e w' => e = .returned (.bool (decide (ge = he) && decide (gp = hp))) ∧ Below w.heap.size w w' := by
  by_cases h : ge = he
  · subst h
    cases hq : decide (gp = hp)
    all_goals
      go_enter Tryd.func7, Tryd.ntmps7
      go_wp2_with (go_at_call 27; refine (laws_eqPlaceS _ _ _ _ _ ((h0.alloc _).alloc _) ((h1.alloc _).alloc _)).mono ?_; rintro e w1 ⟨rfl, hB⟩)
      go_ret
      exact ⟨ret_bool (by simp), (by repeat (first | exact Below.refl _ _ | refine Below.drew ?_ | refine Below.alloc ?_ (by first | omega | (simp; done) | (simp; omega) | (have q0 := hB.size; simp at q0; omega) | (have q0 := hB.size; simp at q0 ⊢; omega)) _ | refine Below.setCell ?_ (by first | omega | (simp; done) | (simp; omega) | (have q0 := hB.size; simp at q0; omega) | (have q0 := hB.size; simp at q0 ⊢; omega)) _ | refine Below.trans ?_ (Below.mono hB (by first | omega | (simp; done) | (simp; omega) | (have q0 := hB.size; simp at q0; omega) | (have q0 := hB.size; simp at q0 ⊢; omega)))))⟩
  · have hq : (ge != he) = true := by simpa using h
    go_enter Tryd.func7, Tryd.ntmps7
    go_wp2
    go_ret
    exact ⟨ret_bool (by simp [h]), (by repeat (first | exact Below.refl _ _ | assumption | refine Below.drew ?_ | refine Below.alloc ?_ (by simp <;> omega) _ | refine Below.setCell ?_ (by simp <;> omega) _))⟩
set_option maxHeartbeats 400000 in
set_option maxRecDepth 100000 in
theorem laws_markEventGraph (v : Value) (ge : Int) (gp : List Place) (k : Int) (base : Nat) (w : World) (h0 : Own Place.cells 4 60 w base v gp) (h1 : gp.length ≤ 1048576) (h2 : 0 ≤ k) (h3 : k ≤ 16777216) :
    Calls Tryd.prog 9 #[.agg #[.int .i64 ge, v], .int .i64 k] w fun e w' => e = .returned (.int .i64 (k + gp.length * 4)) ∧ Own Place.cells 4 60 w' base v (marksPlace k gp.length) ∧ w.grownBy w' v.ownBlock := by
  obtain ⟨A, c, rfl⟩ := h0.shape
  go_enter Tryd.func9, Tryd.ntmps9
  go_wp2_with (go_at_call 28; refine (laws_markPlaceS _ _ _ _ _ (h0.alloc _) h1 h2 h3).mono ?_; rintro e w1 ⟨rfl, hO, hG⟩)
  go_ret
  exact ⟨rfl, hO, grown_trans' (World.grownBy_alloc _ _ _) hG⟩
set_option maxHeartbeats 400000 in
set_option maxRecDepth 100000 in
theorem laws_heldEventGraph (v : Value) (ge : Int) (n : Nat) (k : Int) (w : World) (h0 : Lst Place.cells 4 w w.heap.size v (marksPlace k n)) (h1 : n ≤ 1048576) (h2 : 0 ≤ k) (h3 : k ≤ 16777216) :
    Calls Tryd.prog 11 #[.agg #[.int .i64 ge, v], .int .i64 k] w fun e w' => e = .returned (.int .i64 (k + n * 4)) ∧ Below w.heap.size w w' := by
  obtain ⟨A, c, rfl⟩ := h0.shape
  go_enter Tryd.func11, Tryd.ntmps11
  go_wp2_with (go_at_call 30; refine (laws_heldPlaceS _ n _ _ _ (h0.alloc _) h1 h2 h3).mono ?_; rintro e w' ⟨rfl, rfl⟩)
  go_ret
  exact ⟨rfl, (by repeat (first | exact Below.refl _ _ | assumption | refine Below.drew ?_ | refine Below.alloc ?_ (by simp <;> omega) _ | refine Below.setCell ?_ (by simp <;> omega) _))⟩
end Go.Proofs.YtcoomogabicfnaaDoor
