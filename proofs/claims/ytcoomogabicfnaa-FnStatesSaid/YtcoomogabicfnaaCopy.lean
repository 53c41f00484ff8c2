/-
  The walks of the copies of lists of numbers.
-/
import Derived.Test.YtcoomogabicfnaaRows
import Derived.Test.YtcoomogabicfnaaRun
import Derived.StillTailTactics
import Derived.Deep.RegionHeld3
import Derived.BigQuiet
import Derived.Deep.QuietTactic
import Derived.Deep.DeepMust
namespace Go.Proofs.Ytcoomogabicfnaa
open Go.RowKit
set_option linter.unusedVariables false
set_option linter.unusedSimpArgs false

theorem info_i64 : (Try.prog.info? 2).map (fun i => (i.zero, i.size, i.bytes)) = some (some (.int .i64 0), 1, 8) := by kernel_rfl
set_option maxHeartbeats 400000 in
set_option maxRecDepth 100000 in
theorem impl_within (n lo hi : Int) (w : World) :
    Calls Try.prog 31 #[.int .i64 n, .int .i64 lo, .int .i64 hi] w fun e w' => e = .returned (.bool (inB n lo hi)) ∧ w = w' := by
  by_cases h : lo ≤ n
  · have e : Hid (inB n lo hi = decide (n ≤ hi)) := by show _ = _; simp [inB, h]
    go_enter Try.func31, Try.ntmps31
    go_wp2
    go_ret
    exact ⟨ret_bool e.out.symm, rfl⟩
  · have e : Hid (inB n lo hi = false) := by show _ = _; simp [inB, h]
    go_enter Try.func31, Try.ntmps31
    go_wp2
    go_ret
    exact ⟨ret_bool e.out.symm, rfl⟩
set_option maxHeartbeats 400000 in
set_option maxRecDepth 100000 in
theorem spec_l01In (n lo hi : Int) (w : World) :
    Calls Try.prog 33 #[.int .i64 n, .int .i64 lo, .int .i64 hi] w fun e w' => e = .returned (.bool (inB n lo hi)) ∧ w = w' := by
  by_cases h : lo ≤ n
  · have e : Hid (inB n lo hi = decide (n ≤ hi)) := by show _ = _; simp [inB, h]
    go_enter Try.func33, Try.ntmps33
    go_wp2
    go_ret
    exact ⟨ret_bool e.out.symm, rfl⟩
  · have e : Hid (inB n lo hi = false) := by show _ = _; simp [inB, h]
    go_enter Try.func33, Try.ntmps33
    go_wp2
    go_ret
    exact ⟨ret_bool e.out.symm, rfl⟩

end Go.Proofs.Ytcoomogabicfnaa
namespace Go.Proofs.Ytcoomogabicfnaa
open Go.RowKit
set_option linter.unusedVariables false
set_option linter.unusedSimpArgs false

set_option maxHeartbeats 1000000 in
set_option maxRecDepth 100000 in
theorem spec_l01Own (v : Value) (l : List Int) (w : World) (h0 : Lst intCell 1 w w.heap.size v l) (h1 : l.length ≤ 1048576) :
    Calls Try.prog 103 #[v] w (RetOwn intCell 1 2 w l) := by
  obtain ⟨A, c, rfl⟩ := h0.shape
  go_enter Try.func103, Try.ntmps103
  have hlen : ([] : List Int).length + l.length ≤ 1099511627776 := by simp; omega
  go_wp2_with (at_builtin; refine wpList_append_lst rfl _ _ 50 rfl intCell 1 intCell_one (by omega) w.heap.size 2 _ 8 Try.underlying50 info_i64 rfl _ [] rfl (own_new0 _ _ _ _ _ (Nat.le_refl _)) _ _ _ _ l rfl (h0.alloc _) hlen (by omega) (by simp) ?_; intro v' w1 hO1 hG1 hD1)
  go_ret
  exact ⟨_, rfl, hO1, below_app ((Below.refl _ _).alloc (Nat.le_refl _) _) (by simp) hG1 (own_new0 intCell 1 w 2 w.heap.size (Nat.le_refl _)) (Nat.le_refl _)⟩
end Go.Proofs.Ytcoomogabicfnaa
