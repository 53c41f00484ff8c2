/-
  DelayMatrix, the program's and the reference's.
-/
import Derived.Test.YtcoomogabicfnaaDelay
namespace Go.Proofs.Ytcoomogabicfnaa
open Go.RowKit
set_option linter.unusedVariables false
set_option linter.unusedSimpArgs false

set_option maxHeartbeats 4000000 in
set_option maxRecDepth 100000 in
theorem impl_DelayMatrix (v : Value) (ge : Int) (gp : List Place) (m : Int) (w : World) (h0 : Lst Place.cells 4 w w.heap.size v gp) :
    Calls Try.prog 12 #[.agg #[.int .i64 ge, v], .int .i64 m] w (RetMI w (delayF ge gp m).1 (delayF ge gp m).2) := by
  obtain ⟨A, c, rfl⟩ := h0.shape
  go_enter Try.func12, Try.ntmps12
  go_wp2_with fail
  have hW : Below w.heap.size w (w.alloc (.cells #[.int .i64 ge, .slice A gp.length c] 26)) := (Below.refl _ _).alloc (Nat.le_refl _) _; have hb0 : Blk (w.alloc (.cells #[.int .i64 ge, .slice A gp.length c] 26)) w.heap.size 26 #[.int .i64 ge, .slice A gp.length c] := Blk.new _ _ _; replace h0 := h0.now hW; generalize (w.alloc (.cells #[.int .i64 ge, .slice A gp.length c] 26)) = W at *
  refine (impl_IsEventGraph _ _ _ _ h0).mono ?_
  rintro e w1 ⟨rfl, hB⟩
  replace hW := hW.trans (hB.mono hW.size); replace h0 := h0.now hB; replace hb0 := hb0.now hB
  clear hB
  obtain ⟨k0, k1⟩ := hb0.c2
  have l0 := hb0.lt
  cases hg : okGraph ge gp
  · have hE : Hid (delayF ge gp m = ([], 2 - 1)) := by show _ = _; simp [delayF, hg]
    clear hg
    go_wp2
    go_ret2
    exact RetMI.of hE.out ⟨_, rfl, OwnM.nil, hW⟩
  · obtain ⟨hge1, hge2⟩ := okGraph_ev hg
    obtain ⟨n, rfl⟩ := Int.eq_ofNat_of_zero_le (show 0 ≤ ge by omega)
    have hg' := Lib.hid hg
    clear hg
    cases hi : inB m 0 5
    · have hE : Hid (delayF n gp m = ([], 2)) := by show _ = _; simp [delayF, hg'.out, hi]
      go_wp2_with (go_at_call 31; refine (impl_within _ _ _ _).mono ?_; rintro e w' ⟨rfl, rfl⟩)
      go_ret2
      exact RetMI.of hE.out ⟨_, rfl, OwnM.nil, hW⟩
    · have hE : Hid (delayF n gp m = (delayM n gp m, 0)) := by show _ = _; simp [delayF, hg'.out, hi]
      go_wp2_with (first | (go_at_call 31; refine (impl_within _ _ _ _).mono ?_; rintro e w' ⟨rfl, rfl⟩) | (go_at_call 34; refine (impl_delayMatrix _ n gp m _ h0 hg'.out).mono ?_; rintro e w2 ⟨u, rfl, hM, hB⟩))
      go_ret2
      exact RetMI.of hE.out ⟨_, rfl, hM.rebase hW.size, hW.trans (hB.mono hW.size)⟩

set_option maxHeartbeats 4000000 in
set_option maxRecDepth 100000 in
theorem spec_DelayMatrix (v : Value) (ge : Int) (gp : List Place) (m : Int) (w : World) (h0 : Lst Place.cells 4 w w.heap.size v gp) :
    Calls Try.prog 13 #[.agg #[.int .i64 ge, v], .int .i64 m] w (RetMI w (delayF ge gp m).1 (delayF ge gp m).2) := by
  obtain ⟨A, c, rfl⟩ := h0.shape
  go_enter Try.func13, Try.ntmps13
  go_wp2_with fail
  have hW : Below w.heap.size w (w.alloc (.cells #[.int .i64 ge, .slice A gp.length c] 26)) := (Below.refl _ _).alloc (Nat.le_refl _) _; have hb0 : Blk (w.alloc (.cells #[.int .i64 ge, .slice A gp.length c] 26)) w.heap.size 26 #[.int .i64 ge, .slice A gp.length c] := Blk.new _ _ _; replace h0 := h0.now hW; generalize (w.alloc (.cells #[.int .i64 ge, .slice A gp.length c] 26)) = W at *
  refine (spec_IsEventGraph _ _ _ _ h0).mono ?_
  rintro e w1 ⟨rfl, hB⟩
  replace hW := hW.trans (hB.mono hW.size); replace h0 := h0.now hB; replace hb0 := hb0.now hB
  clear hB
  obtain ⟨k0, k1⟩ := hb0.c2
  have l0 := hb0.lt
  cases hg : okGraph ge gp
  · have hE : Hid (delayF ge gp m = ([], 2 - 1)) := by show _ = _; simp [delayF, hg]
    clear hg
    go_wp2
    go_ret2
    exact RetMI.of hE.out ⟨_, rfl, OwnM.nil, hW⟩
  · obtain ⟨hge1, hge2⟩ := okGraph_ev hg
    obtain ⟨n, rfl⟩ := Int.eq_ofNat_of_zero_le (show 0 ≤ ge by omega)
    have hg' := Lib.hid hg
    clear hg
    cases hi : inB m 0 5
    · have hE : Hid (delayF n gp m = ([], 2)) := by show _ = _; simp [delayF, hg'.out, hi]
      go_wp2_with (go_at_call 33; refine (spec_l01In _ _ _ _).mono ?_; rintro e w' ⟨rfl, rfl⟩)
      go_ret2
      exact RetMI.of hE.out ⟨_, rfl, OwnM.nil, hW⟩
    · have hE : Hid (delayF n gp m = (delayM n gp m, 0)) := by show _ = _; simp [delayF, hg'.out, hi]
      go_wp2_with (first | (go_at_call 33; refine (spec_l01In _ _ _ _).mono ?_; rintro e w' ⟨rfl, rfl⟩) | (go_at_call 36; refine (l13Delays _ n gp m _ h0 hg'.out).mono ?_; rintro e w2 ⟨u, rfl, hM, hB⟩))
      go_ret2
      exact RetMI.of hE.out ⟨_, rfl, hM.rebase hW.size, hW.trans (hB.mono hW.size)⟩
end Go.Proofs.Ytcoomogabicfnaa
