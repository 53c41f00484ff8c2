/-
  The walks of the copies of lists of numbers.
-/
import Derived.Test.YtpkkkigiiaegfaaKit
namespace Go.Proofs.Ytpkkkigiiaegfaa
open Go.RowKit
set_option linter.unusedVariables false
set_option linter.unusedSimpArgs false

set_option maxHeartbeats 1000000 in
set_option maxRecDepth 100000 in
theorem slices_Clone_i64 (v : Value) (l : List Int) (w : World) (h0 : Lst intCell 1 w w.heap.size v l) (h1 : l.length ≤ 1048576) :
    Calls Try.prog 206 #[v] w (RetOwn intCell 1 2 w l) := by
  obtain ⟨A, c, rfl⟩ := h0.shape
  have hn := fun w => Lib.run_eql_slice_nil (P := Try.prog) w 37 2 A l.length c 0 0 Try.underlying37
  cases A with
  | none =>
    obtain rfl := lst_none h0
    simp only [List.length_nil] at hn
    go_enter Try.func206, Try.ntmps206
    go_wp2
    go_ret
    exact ⟨_, rfl, Own.nil, Below.refl _ _⟩
  | some a =>
    go_enter Try.func206, Try.ntmps206
    have hlen : ([] : List Int).length + l.length ≤ 1099511627776 := by simp; omega
    go_wp2_with (at_builtin; refine wpList_append_lst rfl _ _ 37 rfl intCell 1 intCell_one (by omega) w.heap.size 2 _ 8 Try.underlying37 info_i64 rfl _ [] rfl (own_new0 _ _ _ _ _ (Nat.le_refl _)) _ _ _ _ l rfl (h0.alloc _) hlen (by omega) (by simp) ?_; intro v' w1 hO1 hG1 hD1)
    go_ret
    exact ⟨_, rfl, hO1, below_app ((Below.refl _ _).alloc (Nat.le_refl _) _) (by simp) hG1 (own_new0 intCell 1 w 2 w.heap.size (Nat.le_refl _)) (Nat.le_refl _)⟩
set_option maxHeartbeats 1000000 in
set_option maxRecDepth 100000 in
theorem spec_l01Own (v : Value) (l : List Int) (w : World) (h0 : Lst intCell 1 w w.heap.size v l) (h1 : l.length ≤ 1048576) :
    Calls Try.prog 205 #[v] w (RetOwn intCell 1 2 w l) := by
  obtain ⟨A, c, rfl⟩ := h0.shape
  go_enter Try.func205, Try.ntmps205
  have hlen : ([] : List Int).length + l.length ≤ 1099511627776 := by simp; omega
  go_wp2_with (at_builtin; refine wpList_append_lst rfl _ _ 37 rfl intCell 1 intCell_one (by omega) w.heap.size 2 _ 8 Try.underlying37 info_i64 rfl _ [] rfl (own_new0 _ _ _ _ _ (Nat.le_refl _)) _ _ _ _ l rfl (h0.alloc _) hlen (by omega) (by simp) ?_; intro v' w1 hO1 hG1 hD1)
  go_ret
  exact ⟨_, rfl, hO1, below_app ((Below.refl _ _).alloc (Nat.le_refl _) _) (by simp) hG1 (own_new0 intCell 1 w 2 w.heap.size (Nat.le_refl _)) (Nat.le_refl _)⟩
end Go.Proofs.Ytpkkkigiiaegfaa
