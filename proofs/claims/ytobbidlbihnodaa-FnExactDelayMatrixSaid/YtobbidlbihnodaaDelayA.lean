/-
  DelayMatrix, the program's and the reference's.
-/
import Derived.Test.YtobbidlbihnodaaDelay
import Derived.Test.YtobbidlbihnodaaMatLaw
namespace Go.Proofs.Ytobbidlbihnodaa
open Go.RowKit
set_option linter.unusedVariables false
set_option linter.unusedSimpArgs false
theorem matF_offs (n m : Nat) (F : Nat → Nat → Int) : offs (matF n F m) (matF n F m).length ≤ m * n := by
  refine Nat.le_trans (offs_rows _ n (fun r hr => ?_) _ (Nat.le_refl _)) (by rw [matF_len]; exact Nat.le_refl _)
  obtain ⟨i, _, rfl⟩ := List.mem_map.1 hr
  simp
theorem delayF_offs (ge : Int) (gp : List Place) (m : Int) : offs (delayF ge gp m).1 (delayF ge gp m).1.length ≤ 1048576 := by
  unfold delayF
  cases hg : okGraph ge gp
  · simp [offs]
  · obtain ⟨h1, h2⟩ := okGraph_ev hg
    cases hi : inB m 0 5
    · simp [offs]
    · simp only [Bool.true_eq_false, if_false, delayM]
      refine Nat.le_trans (matF_offs _ _ _) (Nat.le_trans (Nat.mul_le_mul (show ge.toNat ≤ 10 by omega) (show ge.toNat ≤ 10 by omega)) (by decide))

set_option maxHeartbeats 4000000 in
set_option maxRecDepth 100000 in
theorem impl_DelayMatrix (v : Value) (ge : Int) (gp : List Place) (m : Int) (w : World) (h0 : Lst Place.cells 4 w w.heap.size v gp) :
    Calls Try.prog 39 #[.agg #[.int .i64 ge, v], .int .i64 m] w (RetMI w (delayF ge gp m).1 (delayF ge gp m).2) := by
  obtain ⟨A, c, rfl⟩ := h0.shape
  go_enter Try.func39, Try.ntmps39
  go_wp2_with fail
  have hW : Below w.heap.size w (w.alloc (.cells #[.int .i64 ge, .slice A gp.length c] 28)) := (Below.refl _ _).alloc (Nat.le_refl _) _; have hb0 : Blk (w.alloc (.cells #[.int .i64 ge, .slice A gp.length c] 28)) w.heap.size 28 #[.int .i64 ge, .slice A gp.length c] := Blk.new _ _ _; replace h0 := h0.now hW; generalize (w.alloc (.cells #[.int .i64 ge, .slice A gp.length c] 28)) = W at *
  refine (impl_IsEventGraph _ _ _ _ h0).mono ?_
  rintro e w1 ⟨rfl, hB⟩
  replace hW := hW.trans (hB.mono hW.size); replace h0 := h0.now hB; replace hb0 := hb0.now hB
  clear hB
  obtain ⟨k0, k1⟩ := hb0.c2
  have l0 := hb0.lt
  cases hg : okGraph ge gp
  · have hE : Hid (delayF ge gp m = ([], 2 - 1)) := by show _ = _; simp [delayF, hg]
    clear hg
    go_wp2
    go_ret2
    exact RetMI.of hE.out ⟨_, rfl, OwnM.nil, hW⟩
  · obtain ⟨hge1, hge2⟩ := okGraph_ev hg
    obtain ⟨n, rfl⟩ := Int.eq_ofNat_of_zero_le (show 0 ≤ ge by omega)
    have hg' := Lib.hid hg
    clear hg
    cases hi : inB m 0 5
    · have hE : Hid (delayF n gp m = ([], 2)) := by show _ = _; simp [delayF, hg'.out, hi]
      go_wp2_with (go_at_call 62; refine (impl_within _ _ _ _).mono ?_; rintro e w' ⟨rfl, rfl⟩)
      go_ret2
      exact RetMI.of hE.out ⟨_, rfl, OwnM.nil, hW⟩
    · have hE : Hid (delayF n gp m = (delayM n gp m, 0)) := by show _ = _; simp [delayF, hg'.out, hi]
      go_wp2_with (first | (go_at_call 62; refine (impl_within _ _ _ _).mono ?_; rintro e w' ⟨rfl, rfl⟩) | (go_at_call 86; refine (impl_delayMatrix _ n gp m _ h0 hg'.out).mono ?_; rintro e w2 ⟨u, rfl, hM, hB⟩))
      go_ret2
      exact RetMI.of hE.out ⟨_, rfl, hM.rebase hW.size, hW.trans (hB.mono hW.size)⟩

set_option maxHeartbeats 4000000 in
set_option maxRecDepth 100000 in
theorem spec_DelayMatrix (v : Value) (ge : Int) (gp : List Place) (m : Int) (w : World) (h0 : Lst Place.cells 4 w w.heap.size v gp) :
    Calls Try.prog 38 #[.agg #[.int .i64 ge, v], .int .i64 m] w (RetMI w (delayF ge gp m).1 (delayF ge gp m).2) := by
  obtain ⟨A, c, rfl⟩ := h0.shape
  go_enter Try.func38, Try.ntmps38
  go_wp2_with fail
  have hW : Below w.heap.size w (w.alloc (.cells #[.int .i64 ge, .slice A gp.length c] 28)) := (Below.refl _ _).alloc (Nat.le_refl _) _; have hb0 : Blk (w.alloc (.cells #[.int .i64 ge, .slice A gp.length c] 28)) w.heap.size 28 #[.int .i64 ge, .slice A gp.length c] := Blk.new _ _ _; replace h0 := h0.now hW; generalize (w.alloc (.cells #[.int .i64 ge, .slice A gp.length c] 28)) = W at *
  refine (spec_IsEventGraph _ _ _ _ h0).mono ?_
  rintro e w1 ⟨rfl, hB⟩
  replace hW := hW.trans (hB.mono hW.size); replace h0 := h0.now hB; replace hb0 := hb0.now hB
  clear hB
  obtain ⟨k0, k1⟩ := hb0.c2
  have l0 := hb0.lt
  cases hg : okGraph ge gp
  · have hE : Hid (delayF ge gp m = ([], 2 - 1)) := by show _ = _; simp [delayF, hg]
    clear hg
    go_wp2
    go_ret2
    exact RetMI.of hE.out ⟨_, rfl, OwnM.nil, hW⟩
  · obtain ⟨hge1, hge2⟩ := okGraph_ev hg
    obtain ⟨n, rfl⟩ := Int.eq_ofNat_of_zero_le (show 0 ≤ ge by omega)
    have hg' := Lib.hid hg
    clear hg
    cases hi : inB m 0 5
    · have hE : Hid (delayF n gp m = ([], 2)) := by show _ = _; simp [delayF, hg'.out, hi]
      go_wp2_with (go_at_call 58; refine (spec_l01In _ _ _ _).mono ?_; rintro e w' ⟨rfl, rfl⟩)
      go_ret2
      exact RetMI.of hE.out ⟨_, rfl, OwnM.nil, hW⟩
    · have hE : Hid (delayF n gp m = (delayM n gp m, 0)) := by show _ = _; simp [delayF, hg'.out, hi]
      go_wp2_with (first | (go_at_call 58; refine (spec_l01In _ _ _ _).mono ?_; rintro e w' ⟨rfl, rfl⟩) | (go_at_call 85; refine (l13Delays _ n gp m _ h0 hg'.out).mono ?_; rintro e w2 ⟨u, rfl, hM, hB⟩))
      go_ret2
      exact RetMI.of hE.out ⟨_, rfl, hM.rebase hW.size, hW.trans (hB.mono hW.size)⟩
end Go.Proofs.Ytobbidlbihnodaa
