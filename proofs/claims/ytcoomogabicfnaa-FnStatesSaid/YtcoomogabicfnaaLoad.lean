/-
  The walks of StationLoad, the program's and the reference's, and of the comparison of ratios.
-/
import Derived.Test.YtcoomogabicfnaaRatio
import Derived.Test.YtcoomogabicfnaaMore
import Derived.Test.YtcoomogabicfnaaInts
namespace Go.Proofs.Ytcoomogabicfnaa
open Go.RowKit
set_option linter.unusedVariables false
set_option linter.unusedSimpArgs false

def cmpI (x y : Int) : Int := if x < y then -1 else if y < x then 1 else 0
theorem cmpI_pos (x y : Int) : decide (0 < cmpI x y) = decide (y < x) := by unfold cmpI; split <;> (try split) <;> simp <;> omega
set_option maxHeartbeats 400000 in
set_option maxRecDepth 100000 in
theorem cmp_isNaN (a : Int) (w : World) : Calls Try.prog 101 #[.int .i64 a] w fun e w' => e = .returned (.bool false) ∧ w = w' := by
  have h : (a != a) = false := by simp
  go_enter Try.func101, Try.ntmps101
  go_wp2
  go_ret
  exact ⟨rfl, rfl⟩
set_option maxHeartbeats 400000 in
set_option maxRecDepth 100000 in
theorem cmp_Compare (a b : Int) (w : World) : Calls Try.prog 89 #[.int .i64 a, .int .i64 b] w fun e w' => e = .returned (.int .i64 (cmpI a b)) ∧ w = w' := by
  by_cases h : a < b
  · have hE : Hid (cmpI a b = -1) := if_pos h
    go_enter Try.func89, Try.ntmps89
    go_wp2_with (go_at_call 101; refine (cmp_isNaN _ _).mono ?_; rintro e w' ⟨rfl, rfl⟩)
    go_ret
    exact ⟨ret_int hE.out.symm, rfl⟩
  · by_cases h2 : b < a
    · have hE : Hid (cmpI a b = 1) := by show _ = _; rw [cmpI, if_neg h, if_pos h2]
      go_enter Try.func89, Try.ntmps89
      go_wp2_with (go_at_call 101; refine (cmp_isNaN _ _).mono ?_; rintro e w' ⟨rfl, rfl⟩)
      go_ret
      exact ⟨ret_int hE.out.symm, rfl⟩
    · have hE : Hid (cmpI a b = 0) := by show _ = _; rw [cmpI, if_neg h, if_neg h2]
      go_enter Try.func89, Try.ntmps89
      go_wp2_with (go_at_call 101; refine (cmp_isNaN _ _).mono ?_; rintro e w' ⟨rfl, rfl⟩)
      go_ret
      exact ⟨ret_int hE.out.symm, rfl⟩
theorem mul_bd {a b : Int} {m n : Int} (ha : 0 ≤ a) (hb : 0 ≤ b) (h1 : a ≤ m) (h2 : b ≤ n) (hm : 0 ≤ m) : 0 ≤ a * b ∧ a * b ≤ m * n := ⟨Int.mul_nonneg ha hb, Int.mul_le_mul h1 h2 hb hm⟩
set_option maxHeartbeats 400000 in
set_option maxRecDepth 100000 in
theorem impl_compareRatios (a b c d : Int) (w : World) (ha : 0 ≤ a ∧ a ≤ 2000000000) (hb : 0 ≤ b ∧ b ≤ 2000000000) (hc : 0 ≤ c ∧ c ≤ 2000000000) (hd : 0 ≤ d ∧ d ≤ 2000000000) :
    Calls Try.prog 66 #[.agg #[.int .i64 a, .int .i64 b], .agg #[.int .i64 c, .int .i64 d]] w fun e w' => e = .returned (.int .i64 (cmpI (a * d) (c * b))) ∧ Below w.heap.size w w' := by
  obtain ⟨p1, p2⟩ := mul_bd ha.1 hd.1 ha.2 hd.2 (by omega)
  obtain ⟨q1, q2⟩ := mul_bd hc.1 hb.1 hc.2 hb.2 (by omega)
  go_enter Try.func66, Try.ntmps66
  go_wp2_with (go_at_call 89; refine (cmp_Compare _ _ _).mono ?_; rintro e w' ⟨rfl, rfl⟩)
  go_ret
  exact ⟨rfl, (by repeat (first | exact Below.refl _ _ | assumption | refine Below.drew ?_ | refine Below.alloc ?_ (by simp <;> omega) _ | refine Below.setCell ?_ (by simp <;> omega) _))⟩
/-- The code of a graph and an event. -/
def evCode (ge : Int) (gp : List Place) (ev : Int) : Int := if okGraph ge gp = false then 1 else if inB ev 0 (ge - 1) = false then 2 else 0
theorem evCode_zero {ge : Int} {gp : List Place} {ev : Int} (h : evCode ge gp ev = 0) : okGraph ge gp = true ∧ 0 ≤ ev ∧ ev < ge := by
  unfold evCode at h
  split at h
  · omega
  · split at h
    · omega
    · rename_i h1 h2
      have := (inB_iff _ _ _).1 (by simpa using h2)
      exact ⟨by simpa using h1, by omega, by omega⟩
end Go.Proofs.Ytcoomogabicfnaa
