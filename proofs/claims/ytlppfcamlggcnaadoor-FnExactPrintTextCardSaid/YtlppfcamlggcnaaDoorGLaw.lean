/-
  The walks of the laws' own functions on graphs: size, copy, comparison, marks.
-/
import Derived.Test.YtlppfcamlggcnaaDoorEqs
namespace Go.Proofs.YtlppfcamlggcnaaDoor
open Go.RowKit
set_option linter.unusedVariables false
set_option linter.unusedSimpArgs false

set_option maxHeartbeats 400000 in
set_option maxRecDepth 100000 in
theorem laws_szEventGraph (v : Value) (ge : Int) (gp : List Place) (left : Int) (w : World) (h0 : Lst Place.cells 4 w w.heap.size v gp) (h1 : 0 ≤ left) (h2 : left ≤ 1048576) :
    Calls Tryd.prog 33 #[.agg #[.int .i64 ge, v], .int .i64 left] w fun e w' => e = .returned (.int .i64 (if left < gp.length then -1 else left - gp.length)) ∧ Below w.heap.size w w' := by
  obtain ⟨A, c, rfl⟩ := h0.shape
  have hl := h0.len_le
  by_cases h : left < gp.length
  · have hz : (if left < gp.length then (-1 : Int) else left - gp.length) = -1 := if_pos h
    go_enter Tryd.func33, Tryd.ntmps33
    go_wp2_with (go_at_call 74; refine (laws_szPlaceS _ _ _ _ _ (h0.alloc _) h1 h2).mono ?_; rintro e w' ⟨rfl, rfl⟩)
    go_ret
    exact ⟨by first | rfl | rw [if_pos h], (by repeat (first | exact Below.refl _ _ | assumption | refine Below.drew ?_ | refine Below.alloc ?_ (by simp <;> omega) _ | refine Below.setCell ?_ (by simp <;> omega) _))⟩
  · have hz : (if left < gp.length then (-1 : Int) else left - gp.length) = left - gp.length := if_neg h
    go_enter Tryd.func33, Tryd.ntmps33
    go_wp2_with (go_at_call 74; refine (laws_szPlaceS _ _ _ _ _ (h0.alloc _) h1 h2).mono ?_; rintro e w' ⟨rfl, rfl⟩)
    go_ret
    exact ⟨by first | rfl | rw [if_neg h], (by repeat (first | exact Below.refl _ _ | assumption | refine Below.drew ?_ | refine Below.alloc ?_ (by simp <;> omega) _ | refine Below.setCell ?_ (by simp <;> omega) _))⟩
set_option maxHeartbeats 400000 in
set_option maxRecDepth 100000 in
theorem laws_toEventGraph (v : Value) (ge : Int) (gp : List Place) (w : World) (h0 : Lst Place.cells 4 w w.heap.size v gp) (h1 : gp.length ≤ 1048576) :
    Calls Tryd.prog 36 #[.agg #[.int .i64 ge, v]] w (RetG 80 w ge gp) := by
  obtain ⟨A, c, rfl⟩ := h0.shape
  go_enter Tryd.func36, Tryd.ntmps36
  go_wp2_with fail
  refine (laws_toPlaceS _ _ _ (h0.now (by repeat (first | exact Below.refl _ _ | assumption | refine Below.drew ?_ | refine Below.alloc ?_ (by simp <;> omega) _ | refine Below.setCell ?_ (by simp <;> omega) _))) h1).mono ?_
  rintro e w1 ⟨pv, rfl, hO, hB⟩
  obtain ⟨A1, c1, rfl⟩ := hO.shape
  obtain ⟨hc1, hf1⟩ := bcell hB
  go_wp2
  refine bodyPost_ret (v := .agg #[.int .i64 ge, .slice A1 gp.length c1]) (by simp [results, Tryd.results36, go_sem, hc1]) rfl ⟨_, rfl, ?_, (by repeat (first | exact Below.refl _ _ | refine Below.drew ?_ | refine Below.alloc ?_ (by first | omega | (simp; done) | (simp; omega) | (have q0 := hB.size; simp at q0; omega) | (have q0 := hB.size; simp at q0 ⊢; omega)) _ | refine Below.setCell ?_ (by first | omega | (simp; done) | (simp; omega) | (have q0 := hB.size; simp at q0; omega) | (have q0 := hB.size; simp at q0 ⊢; omega)) _ | refine Below.trans ?_ (Below.mono hB (by first | omega | (simp; done) | (simp; omega) | (have q0 := hB.size; simp at q0; omega) | (have q0 := hB.size; simp at q0 ⊢; omega)))))⟩
  exact (((hO.far (p := ⟨w.heap.size + 1 + 1, 1, none⟩) (by simp) _).far (p := ⟨w.heap.size + 1, 0, none⟩) (by simp) _).far (p := ⟨w.heap.size + 1, 1, none⟩) (by simp) _).rebase (by simp; omega)
set_option maxHeartbeats 400000 in
set_option maxRecDepth 100000 in
theorem laws_eqEventGraph (v : Value) (ge : Int) (gp : List Place) (u : Value) (he : Int) (hp : List Place) (w : World) (h0 : Lst Place.cells 4 w w.heap.size v gp) (h1 : Lst Place.cells 4 w w.heap.size u hp) :
    Calls Tryd.prog 39 #[.agg #[.int .i64 ge, v], .agg #[.int .i64 he, u]] w fun e w' => e = .returned (.bool (decide (ge = he) && decide (gp = hp))) ∧ Below w.heap.size w w' := by
  by_cases h : ge = he
  · subst h
    cases hq : decide (gp = hp)
    all_goals
      go_enter Tryd.func39, Tryd.ntmps39
      go_wp2_with (go_at_call 82; refine (laws_eqPlaceS _ _ _ _ _ ((h0.alloc _).alloc _) ((h1.alloc _).alloc _)).mono ?_; rintro e w1 ⟨rfl, hB⟩)
      go_ret
      exact ⟨ret_bool (by simp), (by repeat (first | exact Below.refl _ _ | refine Below.drew ?_ | refine Below.alloc ?_ (by first | omega | (simp; done) | (simp; omega) | (have q0 := hB.size; simp at q0; omega) | (have q0 := hB.size; simp at q0 ⊢; omega)) _ | refine Below.setCell ?_ (by first | omega | (simp; done) | (simp; omega) | (have q0 := hB.size; simp at q0; omega) | (have q0 := hB.size; simp at q0 ⊢; omega)) _ | refine Below.trans ?_ (Below.mono hB (by first | omega | (simp; done) | (simp; omega) | (have q0 := hB.size; simp at q0; omega) | (have q0 := hB.size; simp at q0 ⊢; omega)))))⟩
  · have hq : (ge != he) = true := by simpa using h
    go_enter Tryd.func39, Tryd.ntmps39
    go_wp2
    go_ret
    exact ⟨ret_bool (by simp [h]), (by repeat (first | exact Below.refl _ _ | assumption | refine Below.drew ?_ | refine Below.alloc ?_ (by simp <;> omega) _ | refine Below.setCell ?_ (by simp <;> omega) _))⟩
set_option maxHeartbeats 400000 in
set_option maxRecDepth 100000 in
theorem laws_markEventGraph (v : Value) (ge : Int) (gp : List Place) (k : Int) (base : Nat) (w : World) (h0 : Own Place.cells 4 80 w base v gp) (h1 : gp.length ≤ 1048576) (h2 : 0 ≤ k) (h3 : k ≤ 16777216) :
    Calls Tryd.prog 43 #[.agg #[.int .i64 ge, v], .int .i64 k] w fun e w' => e = .returned (.int .i64 (k + gp.length * 4)) ∧ Own Place.cells 4 80 w' base v (marksPlace k gp.length) ∧ w.grownBy w' v.ownBlock := by
  obtain ⟨A, c, rfl⟩ := h0.shape
  go_enter Tryd.func43, Tryd.ntmps43
  go_wp2_with (go_at_call 83; refine (laws_markPlaceS _ _ _ _ _ (h0.alloc _) h1 h2 h3).mono ?_; rintro e w1 ⟨rfl, hO, hG⟩)
  go_ret
  exact ⟨rfl, hO, grown_trans' (World.grownBy_alloc _ _ _) hG⟩
set_option maxHeartbeats 400000 in
set_option maxRecDepth 100000 in
theorem laws_heldEventGraph (v : Value) (ge : Int) (n : Nat) (k : Int) (w : World) (h0 : Lst Place.cells 4 w w.heap.size v (marksPlace k n)) (h1 : n ≤ 1048576) (h2 : 0 ≤ k) (h3 : k ≤ 16777216) :
    Calls Tryd.prog 45 #[.agg #[.int .i64 ge, v], .int .i64 k] w fun e w' => e = .returned (.int .i64 (k + n * 4)) ∧ Below w.heap.size w w' := by
  obtain ⟨A, c, rfl⟩ := h0.shape
  go_enter Tryd.func45, Tryd.ntmps45
  go_wp2_with (go_at_call 85; refine (laws_heldPlaceS _ n _ _ _ (h0.alloc _) h1 h2 h3).mono ?_; rintro e w' ⟨rfl, rfl⟩)
  go_ret
  exact ⟨rfl, (by repeat (first | exact Below.refl _ _ | assumption | refine Below.drew ?_ | refine Below.alloc ?_ (by simp <;> omega) _ | refine Below.setCell ?_ (by simp <;> omega) _))⟩
end Go.Proofs.YtlppfcamlggcnaaDoor
