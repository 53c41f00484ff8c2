/-
  IsRun and the codes of runs.
-/
import Derived.Test.YtpkkkigiiaegfaaRunIA
import Derived.Test.YtpkkkigiiaegfaaRunSA
namespace Go.Proofs.Ytpkkkigiiaegfaa
open Go.RowKit
set_option linter.unusedVariables false
set_option linter.unusedSimpArgs false

theorem isRunF_of {ge : Int} {gp : List Place} {l : List Firing} (h : okGraph ge gp = true) : isRunF ge gp l = (decide (l.length ≤ 500) && runK ge gp l l.length) := by
  unfold isRunF
  rw [h, Bool.true_and]
theorem isRunF_not {ge : Int} {gp : List Place} {l : List Firing} (h : okGraph ge gp = false) : isRunF ge gp l = false := by
  unfold isRunF
  rw [h, Bool.false_and, Bool.false_and]
set_option maxHeartbeats 400000 in
set_option maxRecDepth 100000 in
theorem impl_IsRun (v : Value) (ge : Int) (gp : List Place) (u : Value) (l : List Firing) (w : World) (h0 : Lst Place.cells 4 w w.heap.size v gp) (h1 : Lst Firing.cells 3 w w.heap.size u l) :
    Calls Try.prog 47 #[.agg #[.int .i64 ge, v], u] w fun r w' => r = .returned (.bool (isRunF ge gp l)) ∧ Below w.heap.size w w' := by
  cases hq : okGraph ge gp
  · have hE := Lib.hid (isRunF_not (l := l) hq)
    go_enter Try.func47, Try.ntmps47
    go_wp2_with (go_at_call 103; refine (impl_IsEventGraph _ _ _ _ (h0.alloc _)).mono ?_; rintro e w1 ⟨rfl, hB⟩)
    go_ret
    exact ⟨ret_bool hE.out.symm, (by repeat (first | exact Below.refl _ _ | refine Below.drew ?_ | refine Below.alloc ?_ (by first | omega | (simp; done) | (simp; omega) | (have q0 := hB.size; simp at q0; omega) | (have q0 := hB.size; simp at q0 ⊢; omega)) _ | refine Below.setCell ?_ (by first | omega | (simp; done) | (simp; omega) | (have q0 := hB.size; simp at q0; omega) | (have q0 := hB.size; simp at q0 ⊢; omega)) _ | refine Below.trans ?_ (Below.mono hB (by first | omega | (simp; done) | (simp; omega) | (have q0 := hB.size; simp at q0; omega) | (have q0 := hB.size; simp at q0 ⊢; omega)))))⟩
  · obtain ⟨hge1, hge2⟩ := okGraph_ev hq
    obtain ⟨n, rfl⟩ := Int.eq_ofNat_of_zero_le (show 0 ≤ ge by omega)
    have hE := Lib.hid (isRunF_of (l := l) hq)
    have hq' := Lib.hid hq
    go_enter Try.func47, Try.ntmps47
    go_wp2_with fail
    refine (impl_IsEventGraph _ _ _ _ (h0.alloc _)).mono ?_
    rintro e w1 ⟨rfl, hB⟩
    obtain ⟨hc1, hf1⟩ := bcell hB
    have hs1 := hB.size
    go_wp2_with (go_at_call 143; refine (impl_isRun _ n _ _ _ _ ((h0.alloc _).now hB) ((h1.alloc _).now hB) hq'.out).mono ?_; rintro e w2 ⟨rfl, hB2⟩)
    go_ret
    exact ⟨ret_bool hE.out.symm, (by repeat (first | exact Below.refl _ _ | refine Below.drew ?_ | refine Below.alloc ?_ (by first | omega | (simp; done) | (simp; omega) | (have q0 := hB2.size; have q1 := hB.size; simp at q0 q1; omega) | (have q0 := hB2.size; have q1 := hB.size; simp at q0 q1 ⊢; omega)) _ | refine Below.setCell ?_ (by first | omega | (simp; done) | (simp; omega) | (have q0 := hB2.size; have q1 := hB.size; simp at q0 q1; omega) | (have q0 := hB2.size; have q1 := hB.size; simp at q0 q1 ⊢; omega)) _ | refine Below.trans ?_ (Below.mono hB2 (by first | omega | (simp; done) | (simp; omega) | (have q0 := hB2.size; have q1 := hB.size; simp at q0 q1; omega) | (have q0 := hB2.size; have q1 := hB.size; simp at q0 q1 ⊢; omega))) | refine Below.trans ?_ (Below.mono hB (by first | omega | (simp; done) | (simp; omega) | (have q0 := hB2.size; have q1 := hB.size; simp at q0 q1; omega) | (have q0 := hB2.size; have q1 := hB.size; simp at q0 q1 ⊢; omega)))))⟩
set_option maxHeartbeats 400000 in
set_option maxRecDepth 100000 in
theorem impl_checkRun (v : Value) (ge : Int) (gp : List Place) (u : Value) (l : List Firing) (w : World) (h0 : Lst Place.cells 4 w w.heap.size v gp) (h1 : Lst Firing.cells 3 w w.heap.size u l) :
    Calls Try.prog 136 #[.agg #[.int .i64 ge, v], u] w fun r w' => r = .returned (.int .i64 (if okGraph ge gp = false then 1 else if isRunF ge gp l = false then 2 else 0)) ∧ Below w.heap.size w w' := by
  obtain ⟨A, c, rfl⟩ := h0.shape
  cases hq : okGraph ge gp
  · go_enter Try.func136, Try.ntmps136
    go_wp2_with (go_at_call 103; refine (impl_IsEventGraph _ _ _ _ (h0.alloc _)).mono ?_; rintro e w1 ⟨rfl, hB⟩)
    go_ret
    exact ⟨ret_int (by simp), (by repeat (first | exact Below.refl _ _ | refine Below.drew ?_ | refine Below.alloc ?_ (by first | omega | (simp; done) | (simp; omega) | (have q0 := hB.size; simp at q0; omega) | (have q0 := hB.size; simp at q0 ⊢; omega)) _ | refine Below.setCell ?_ (by first | omega | (simp; done) | (simp; omega) | (have q0 := hB.size; simp at q0; omega) | (have q0 := hB.size; simp at q0 ⊢; omega)) _ | refine Below.trans ?_ (Below.mono hB (by first | omega | (simp; done) | (simp; omega) | (have q0 := hB.size; simp at q0; omega) | (have q0 := hB.size; simp at q0 ⊢; omega)))))⟩
  · obtain ⟨hge1, hge2⟩ := okGraph_ev hq
    obtain ⟨n, rfl⟩ := Int.eq_ofNat_of_zero_le (show 0 ≤ ge by omega)
    have hE := Lib.hid (isRunF_of (l := l) hq)
    have hq' := Lib.hid hq
    cases hr : isRunF n gp l
    all_goals
      rw [hE.out] at hr
      go_enter Try.func136, Try.ntmps136
      go_wp2_with fail
      refine (impl_IsEventGraph _ _ _ _ (h0.alloc _)).mono ?_
      rintro e w1 ⟨rfl, hB⟩
      have k0 : w1.cell? ⟨w.heap.size, 0, none⟩ = some (.int .i64 n) := cell_keep (by simp) hB
      have k1 : w1.cell? ⟨w.heap.size, 1, none⟩ = some (.slice A gp.length c) := cell_keep (by simp) hB
      have hBt : Below w.heap.size w w1 := (by repeat (first | exact Below.refl _ _ | refine Below.drew ?_ | refine Below.alloc ?_ (by first | omega | (simp; done) | (simp; omega) | (have q0 := hB.size; simp at q0; omega) | (have q0 := hB.size; simp at q0 ⊢; omega)) _ | refine Below.setCell ?_ (by first | omega | (simp; done) | (simp; omega) | (have q0 := hB.size; simp at q0; omega) | (have q0 := hB.size; simp at q0 ⊢; omega)) _ | refine Below.trans ?_ (Below.mono hB (by first | omega | (simp; done) | (simp; omega) | (have q0 := hB.size; simp at q0; omega) | (have q0 := hB.size; simp at q0 ⊢; omega)))))
      clear hB
      go_wp2_with (go_at_call 143; refine (impl_isRun _ n _ _ _ _ (h0.now hBt) (h1.now hBt) hq'.out).mono ?_; rintro e w2 ⟨rfl, hB2⟩; rw [hr])
      go_ret
      exact ⟨ret_int (by simp), hBt.trans (hB2.mono hBt.size)⟩
set_option maxHeartbeats 400000 in
set_option maxRecDepth 100000 in
theorem spec_l14Code (v : Value) (ge : Int) (gp : List Place) (u : Value) (l : List Firing) (w : World) (h0 : Lst Place.cells 4 w w.heap.size v gp) (h1 : Lst Firing.cells 3 w w.heap.size u l) :
    Calls Try.prog 137 #[.agg #[.int .i64 ge, v], u] w fun r w' => r = .returned (.int .i64 (if okGraph ge gp = false then 1 else if isRunF ge gp l = false then 2 else 0)) ∧ Below w.heap.size w w' := by
  obtain ⟨A, c, rfl⟩ := h0.shape
  cases hg : okGraph ge gp
  · go_enter Try.func137, Try.ntmps137
    go_wp2_with (go_at_call 144; refine (spec_IsEventGraph _ _ _ _ (h0.alloc _)).mono ?_; rintro e w1 ⟨rfl, hB⟩)
    go_ret
    exact ⟨ret_int (by simp), (by repeat (first | exact Below.refl _ _ | refine Below.drew ?_ | refine Below.alloc ?_ (by first | omega | (simp; done) | (simp; omega) | (have q0 := hB.size; simp at q0; omega) | (have q0 := hB.size; simp at q0 ⊢; omega)) _ | refine Below.setCell ?_ (by first | omega | (simp; done) | (simp; omega) | (have q0 := hB.size; simp at q0; omega) | (have q0 := hB.size; simp at q0 ⊢; omega)) _ | refine Below.trans ?_ (Below.mono hB (by first | omega | (simp; done) | (simp; omega) | (have q0 := hB.size; simp at q0; omega) | (have q0 := hB.size; simp at q0 ⊢; omega)))))⟩
  · cases hm : isRunF ge gp l
    all_goals
      go_enter Try.func137, Try.ntmps137
      go_wp2_with fail
      refine (spec_IsEventGraph _ _ _ _ (h0.alloc _)).mono ?_
      rintro e w1 ⟨rfl, hB⟩
      have k0 : w1.cell? ⟨w.heap.size, 0, none⟩ = some (.int .i64 ge) := cell_keep (by simp) hB
      have k1 : w1.cell? ⟨w.heap.size, 1, none⟩ = some (.slice A gp.length c) := cell_keep (by simp) hB
      have hBt : Below w.heap.size w w1 := (by repeat (first | exact Below.refl _ _ | refine Below.drew ?_ | refine Below.alloc ?_ (by first | omega | (simp; done) | (simp; omega) | (have q0 := hB.size; simp at q0; omega) | (have q0 := hB.size; simp at q0 ⊢; omega)) _ | refine Below.setCell ?_ (by first | omega | (simp; done) | (simp; omega) | (have q0 := hB.size; simp at q0; omega) | (have q0 := hB.size; simp at q0 ⊢; omega)) _ | refine Below.trans ?_ (Below.mono hB (by first | omega | (simp; done) | (simp; omega) | (have q0 := hB.size; simp at q0; omega) | (have q0 := hB.size; simp at q0 ⊢; omega)))))
      clear hB
      go_wp2_with (go_at_call 48; refine (spec_IsRun _ _ _ _ _ _ (h0.now hBt) (h1.now hBt)).mono ?_; rintro e w2 ⟨rfl, hB2⟩)
      go_ret
      exact ⟨ret_int (by simp), hBt.trans (hB2.mono hBt.size)⟩
end Go.Proofs.Ytpkkkigiiaegfaa
