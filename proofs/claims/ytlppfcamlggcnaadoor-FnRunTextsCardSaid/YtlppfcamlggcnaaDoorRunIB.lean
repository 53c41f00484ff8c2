/-
  IsRun and the codes of runs.
-/
import Derived.Test.YtlppfcamlggcnaaDoorRunIA
import Derived.Test.YtlppfcamlggcnaaDoorRunSA
namespace Go.Proofs.YtlppfcamlggcnaaDoor
open Go.RowKit
set_option linter.unusedVariables false
set_option linter.unusedSimpArgs false

theorem isRunF_of {ge : Int} {gp : List Place} {l : List Firing} (h : okGraph ge gp = true) : isRunF ge gp l = (decide (l.length ≤ 500) && runK ge gp l l.length) := by
  unfold isRunF
  rw [h, Bool.true_and]
theorem isRunF_not {ge : Int} {gp : List Place} {l : List Firing} (h : okGraph ge gp = false) : isRunF ge gp l = false := by
  unfold isRunF
  rw [h, Bool.false_and, Bool.false_and]
set_option maxHeartbeats 400000 in
set_option maxRecDepth 100000 in
theorem impl_IsRun (v : Value) (ge : Int) (gp : List Place) (u : Value) (l : List Firing) (w : World) (h0 : Lst Place.cells 4 w w.heap.size v gp) (h1 : Lst Firing.cells 3 w w.heap.size u l) :
    Calls Tryd.prog 29 #[.agg #[.int .i64 ge, v], u] w fun r w' => r = .returned (.bool (isRunF ge gp l)) ∧ Below w.heap.size w w' := by
  cases hq : okGraph ge gp
  · have hE := Lib.hid (isRunF_not (l := l) hq)
    go_enter Tryd.func29, Tryd.ntmps29
    go_wp2_with (go_at_call 20; refine (impl_IsEventGraph _ _ _ _ (h0.alloc _)).mono ?_; rintro e w1 ⟨rfl, hB⟩)
    go_ret
    exact ⟨ret_bool hE.out.symm, (by repeat (first | exact Below.refl _ _ | refine Below.drew ?_ | refine Below.alloc ?_ (by first | omega | (simp; done) | (simp; omega) | (have q0 := hB.size; simp at q0; omega) | (have q0 := hB.size; simp at q0 ⊢; omega)) _ | refine Below.setCell ?_ (by first | omega | (simp; done) | (simp; omega) | (have q0 := hB.size; simp at q0; omega) | (have q0 := hB.size; simp at q0 ⊢; omega)) _ | refine Below.trans ?_ (Below.mono hB (by first | omega | (simp; done) | (simp; omega) | (have q0 := hB.size; simp at q0; omega) | (have q0 := hB.size; simp at q0 ⊢; omega)))))⟩
  · obtain ⟨hge1, hge2⟩ := okGraph_ev hq
    obtain ⟨n, rfl⟩ := Int.eq_ofNat_of_zero_le (show 0 ≤ ge by omega)
    have hE := Lib.hid (isRunF_of (l := l) hq)
    have hq' := Lib.hid hq
    go_enter Tryd.func29, Tryd.ntmps29
    go_wp2_with fail
    refine (impl_IsEventGraph _ _ _ _ (h0.alloc _)).mono ?_
    rintro e w1 ⟨rfl, hB⟩
    obtain ⟨hc1, hf1⟩ := bcell hB
    have hs1 := hB.size
    go_wp2_with (go_at_call 71; refine (impl_isRun _ n _ _ _ _ ((h0.alloc _).now hB) ((h1.alloc _).now hB) hq'.out).mono ?_; rintro e w2 ⟨rfl, hB2⟩)
    go_ret
    exact ⟨ret_bool hE.out.symm, (by repeat (first | exact Below.refl _ _ | refine Below.drew ?_ | refine Below.alloc ?_ (by first | omega | (simp; done) | (simp; omega) | (have q0 := hB2.size; have q1 := hB.size; simp at q0 q1; omega) | (have q0 := hB2.size; have q1 := hB.size; simp at q0 q1 ⊢; omega)) _ | refine Below.setCell ?_ (by first | omega | (simp; done) | (simp; omega) | (have q0 := hB2.size; have q1 := hB.size; simp at q0 q1; omega) | (have q0 := hB2.size; have q1 := hB.size; simp at q0 q1 ⊢; omega)) _ | refine Below.trans ?_ (Below.mono hB2 (by first | omega | (simp; done) | (simp; omega) | (have q0 := hB2.size; have q1 := hB.size; simp at q0 q1; omega) | (have q0 := hB2.size; have q1 := hB.size; simp at q0 q1 ⊢; omega))) | refine Below.trans ?_ (Below.mono hB (by first | omega | (simp; done) | (simp; omega) | (have q0 := hB2.size; have q1 := hB.size; simp at q0 q1; omega) | (have q0 := hB2.size; have q1 := hB.size; simp at q0 q1 ⊢; omega)))))⟩
end Go.Proofs.YtlppfcamlggcnaaDoor
