/-
  The walks of StationLoad, the program's and the reference's, and of the comparison of ratios.
-/
import Derived.Test.YtcoomogabicfnaaGreatDoorRatio
import Derived.Test.YtcoomogabicfnaaGreatDoorMore
import Derived.Test.YtcoomogabicfnaaGreatDoorInts
namespace Go.Proofs.YtcoomogabicfnaaGreatDoor
open Go.RowKit
set_option linter.unusedVariables false
set_option linter.unusedSimpArgs false

def cmpI (x y : Int) : Int := if x < y then -1 else if y < x then 1 else 0
theorem cmpI_pos (x y : Int) : decide (0 < cmpI x y) = decide (y < x) := by unfold cmpI; split <;> (try split) <;> simp <;> omega
set_option maxHeartbeats 400000 in
set_option maxRecDepth 100000 in
theorem cmp_isNaN (a : Int) (w : World) : Calls Tryz.prog 74 #[.int .i64 a] w fun e w' => e = .returned (.bool false) ∧ w = w' := by
  have h : (a != a) = false := by simp
  go_enter Tryz.func74, Tryz.ntmps74
  go_wp2
  go_ret
  exact ⟨rfl, rfl⟩
set_option maxHeartbeats 400000 in
set_option maxRecDepth 100000 in
theorem cmp_Compare (a b : Int) (w : World) : Calls Tryz.prog 60 #[.int .i64 a, .int .i64 b] w fun e w' => e = .returned (.int .i64 (cmpI a b)) ∧ w = w' := by
  by_cases h : a < b
  · have hE : Hid (cmpI a b = -1) := if_pos h
    go_enter Tryz.func60, Tryz.ntmps60
    go_wp2_with (go_at_call 74; refine (cmp_isNaN _ _).mono ?_; rintro e w' ⟨rfl, rfl⟩)
    go_ret
    exact ⟨ret_int hE.out.symm, rfl⟩
  · by_cases h2 : b < a
    · have hE : Hid (cmpI a b = 1) := by show _ = _; rw [cmpI, if_neg h, if_pos h2]
      go_enter Tryz.func60, Tryz.ntmps60
      go_wp2_with (go_at_call 74; refine (cmp_isNaN _ _).mono ?_; rintro e w' ⟨rfl, rfl⟩)
      go_ret
      exact ⟨ret_int hE.out.symm, rfl⟩
    · have hE : Hid (cmpI a b = 0) := by show _ = _; rw [cmpI, if_neg h, if_neg h2]
      go_enter Tryz.func60, Tryz.ntmps60
      go_wp2_with (go_at_call 74; refine (cmp_isNaN _ _).mono ?_; rintro e w' ⟨rfl, rfl⟩)
      go_ret
      exact ⟨ret_int hE.out.symm, rfl⟩
theorem mul_bd {a b : Int} {m n : Int} (ha : 0 ≤ a) (hb : 0 ≤ b) (h1 : a ≤ m) (h2 : b ≤ n) (hm : 0 ≤ m) : 0 ≤ a * b ∧ a * b ≤ m * n := ⟨Int.mul_nonneg ha hb, Int.mul_le_mul h1 h2 hb hm⟩
set_option maxHeartbeats 400000 in
set_option maxRecDepth 100000 in
theorem impl_compareRatios (a b c d : Int) (w : World) (ha : 0 ≤ a ∧ a ≤ 2000000000) (hb : 0 ≤ b ∧ b ≤ 2000000000) (hc : 0 ≤ c ∧ c ≤ 2000000000) (hd : 0 ≤ d ∧ d ≤ 2000000000) :
    Calls Tryz.prog 32 #[.agg #[.int .i64 a, .int .i64 b], .agg #[.int .i64 c, .int .i64 d]] w fun e w' => e = .returned (.int .i64 (cmpI (a * d) (c * b))) ∧ Below w.heap.size w w' := by
  obtain ⟨p1, p2⟩ := mul_bd ha.1 hd.1 ha.2 hd.2 (by omega)
  obtain ⟨q1, q2⟩ := mul_bd hc.1 hb.1 hc.2 hb.2 (by omega)
  go_enter Tryz.func32, Tryz.ntmps32
  go_wp2_with (go_at_call 60; refine (cmp_Compare _ _ _).mono ?_; rintro e w' ⟨rfl, rfl⟩)
  go_ret
  exact ⟨rfl, (by repeat (first | exact Below.refl _ _ | assumption | refine Below.drew ?_ | refine Below.alloc ?_ (by simp <;> omega) _ | refine Below.setCell ?_ (by simp <;> omega) _))⟩
set_option maxHeartbeats 400000 in
set_option maxRecDepth 100000 in
theorem spec_l01Compare (a b c d : Int) (w : World) (ha : 0 ≤ a ∧ a ≤ 2000000000) (hb : 0 ≤ b ∧ b ≤ 2000000000) (hc : 0 ≤ c ∧ c ≤ 2000000000) (hd : 0 ≤ d ∧ d ≤ 2000000000) :
    Calls Tryz.prog 35 #[.agg #[.int .i64 a, .int .i64 b], .agg #[.int .i64 c, .int .i64 d]] w fun e w' => e = .returned (.int .i64 (cmpI (a * d) (c * b))) ∧ Below w.heap.size w w' := by
  obtain ⟨p1, p2⟩ := mul_bd ha.1 hd.1 ha.2 hd.2 (by omega)
  obtain ⟨q1, q2⟩ := mul_bd hc.1 hb.1 hc.2 hb.2 (by omega)
  have w1 : IntKind.i64.wrap (a * d) = a * d := IntWalk.i64_in _ (by omega)
  have w2 : IntKind.i64.wrap (c * b) = c * b := IntWalk.i64_in _ (by omega)
  have hX : Below w.heap.size w ((w.alloc (.cells #[.int .i64 a, .int .i64 b] 35)).alloc (.cells #[.int .i64 c, .int .i64 d] 35)) := (by repeat (first | exact Below.refl _ _ | assumption | refine Below.drew ?_ | refine Below.alloc ?_ (by simp <;> omega) _ | refine Below.setCell ?_ (by simp <;> omega) _))
  by_cases h : a * d < c * b
  · have hE : Hid (cmpI (a * d) (c * b) = -1) := if_pos h
    go_enter Tryz.func35, Tryz.ntmps35
    go_wp2_with fail
    go_quiet (fail)
    go_wp2
    go_ret
    exact ⟨ret_int hE.out.symm, below_drewN hX _⟩
  · by_cases h2 : c * b < a * d
    · have hE : Hid (cmpI (a * d) (c * b) = 1) := by show _ = _; rw [cmpI, if_neg h, if_pos h2]
      go_enter Tryz.func35, Tryz.ntmps35
      go_wp2_with fail
      go_quiet (fail)
      go_wp2
      go_ret
      exact ⟨ret_int hE.out.symm, below_drewN hX _⟩
    · have hE : Hid (cmpI (a * d) (c * b) = 0) := by show _ = _; rw [cmpI, if_neg h, if_neg h2]
      go_enter Tryz.func35, Tryz.ntmps35
      go_wp2_with fail
      go_quiet (fail)
      go_wp2
      go_ret
      exact ⟨ret_int hE.out.symm, below_drewN hX _⟩
/-- The code of a graph and an event. -/
def evCode (ge : Int) (gp : List Place) (ev : Int) : Int := if okGraph ge gp = false then 1 else if inB ev 0 (ge - 1) = false then 2 else 0
theorem evCode_zero {ge : Int} {gp : List Place} {ev : Int} (h : evCode ge gp ev = 0) : okGraph ge gp = true ∧ 0 ≤ ev ∧ ev < ge := by
  unfold evCode at h
  split at h
  · omega
  · split at h
    · omega
    · rename_i h1 h2
      have := (inB_iff _ _ _).1 (by simpa using h2)
      exact ⟨by simpa using h1, by omega, by omega⟩
set_option maxHeartbeats 400000 in
set_option maxRecDepth 100000 in
theorem impl_checkEvent (v : Value) (ge : Int) (gp : List Place) (ev : Int) (w : World) (h0 : Lst Place.cells 4 w w.heap.size v gp) :
    Calls Tryz.prog 30 #[.agg #[.int .i64 ge, v], .int .i64 ev] w fun e w' => e = .returned (.int .i64 (evCode ge gp ev)) ∧ Below w.heap.size w w' := by
  obtain ⟨A, c, rfl⟩ := h0.shape
  go_enter Tryz.func30, Tryz.ntmps30
  go_wp2_with fail
  have hW : Below w.heap.size w (w.alloc (.cells #[.int .i64 ge, .slice A gp.length c] 26)) := (Below.refl _ _).alloc (Nat.le_refl _) _; have hb0 : Blk (w.alloc (.cells #[.int .i64 ge, .slice A gp.length c] 26)) w.heap.size 26 #[.int .i64 ge, .slice A gp.length c] := Blk.new _ _ _; replace h0 := h0.now hW; generalize (w.alloc (.cells #[.int .i64 ge, .slice A gp.length c] 26)) = W at *
  refine (impl_IsEventGraph _ _ _ _ h0).mono ?_
  rintro e w1 ⟨rfl, hB⟩
  replace hW := hW.trans (hB.mono hW.size); replace hb0 := hb0.now hB
  clear hB
  obtain ⟨k0, k1⟩ := hb0.c2
  cases hg : okGraph ge gp
  · have hE : Hid (evCode ge gp ev = 1) := by show _ = _; simp [evCode, hg]
    clear hg
    go_wp2
    go_ret
    exact ⟨ret_int hE.out.symm, hW⟩
  · obtain ⟨hge1, hge2⟩ := okGraph_ev hg
    have hw : Hid (wrap64 (ge - 1) = ge - 1) := IntWalk.wrap64_in _ (by omega)
    cases hi : inB ev 0 (ge - 1)
    · have hE : Hid (evCode ge gp ev = 2) := by show _ = _; simp [evCode, hg, hi]
      clear hg
      go_wp2_with fail
      refine (impl_isEvent _ _ _ _).mono ?_
      rintro e w2 ⟨rfl, hB⟩
      rw [hw.out, hi]
      replace hW := hW.trans (hB.mono hW.size)
      go_wp2
      go_ret
      exact ⟨ret_int hE.out.symm, hW⟩
    · have hE : Hid (evCode ge gp ev = 0) := by show _ = _; simp [evCode, hg, hi]
      clear hg
      go_wp2_with fail
      refine (impl_isEvent _ _ _ _).mono ?_
      rintro e w2 ⟨rfl, hB⟩
      rw [hw.out, hi]
      replace hW := hW.trans (hB.mono hW.size)
      go_wp2
      go_ret
      exact ⟨ret_int hE.out.symm, hW⟩
set_option maxHeartbeats 400000 in
set_option maxRecDepth 100000 in
theorem spec_l11Event (v : Value) (ge : Int) (gp : List Place) (ev : Int) (w : World) (h0 : Lst Place.cells 4 w w.heap.size v gp) :
    Calls Tryz.prog 33 #[.agg #[.int .i64 ge, v], .int .i64 ev] w fun e w' => e = .returned (.int .i64 (evCode ge gp ev)) ∧ Below w.heap.size w w' := by
  obtain ⟨A, c, rfl⟩ := h0.shape
  go_enter Tryz.func33, Tryz.ntmps33
  go_wp2_with fail
  have hW : Below w.heap.size w (w.alloc (.cells #[.int .i64 ge, .slice A gp.length c] 26)) := (Below.refl _ _).alloc (Nat.le_refl _) _; have hb0 : Blk (w.alloc (.cells #[.int .i64 ge, .slice A gp.length c] 26)) w.heap.size 26 #[.int .i64 ge, .slice A gp.length c] := Blk.new _ _ _; replace h0 := h0.now hW; generalize (w.alloc (.cells #[.int .i64 ge, .slice A gp.length c] 26)) = W at *
  refine (spec_IsEventGraph _ _ _ _ h0).mono ?_
  rintro e w1 ⟨rfl, hB⟩
  replace hW := hW.trans (hB.mono hW.size); replace hb0 := hb0.now hB
  clear hB
  obtain ⟨k0, k1⟩ := hb0.c2
  cases hg : okGraph ge gp
  · have hE : Hid (evCode ge gp ev = 1) := by show _ = _; simp [evCode, hg]
    clear hg
    go_wp2
    go_ret
    exact ⟨ret_int hE.out.symm, hW⟩
  · obtain ⟨hge1, hge2⟩ := okGraph_ev hg
    have hw : Hid (wrap64 (ge - 1) = ge - 1) := IntWalk.wrap64_in _ (by omega)
    cases hi : inB ev 0 (ge - 1)
    · have hE : Hid (evCode ge gp ev = 2) := by show _ = _; simp [evCode, hg, hi]
      clear hg
      go_wp2_with (go_at_call 54; refine (spec_l01In _ _ _ _).mono ?_; rintro e w2 ⟨rfl, rfl⟩)
      skip
      go_ret
      exact ⟨ret_int hE.out.symm, hW⟩
    · have hE : Hid (evCode ge gp ev = 0) := by show _ = _; simp [evCode, hg, hi]
      clear hg
      go_wp2_with (go_at_call 54; refine (spec_l01In _ _ _ _).mono ?_; rintro e w2 ⟨rfl, rfl⟩)
      skip
      go_ret
      exact ⟨ret_int hE.out.symm, hW⟩
end Go.Proofs.YtcoomogabicfnaaGreatDoor
