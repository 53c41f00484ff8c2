/-
  The walks of IsMarking, the program's and the reference's.
-/
import Derived.Test.YtkbhbmoogkjafaaInts
namespace Go.Proofs.Ytkbhbmoogkjafaa
open Go.RowKit
set_option linter.unusedVariables false
set_option linter.unusedSimpArgs false

def okMarking (gp : List Place) (m : List Int) : Bool := decide (m.length = gp.length) && allB m 0 100

set_option maxHeartbeats 400000 in
set_option maxRecDepth 100000 in
theorem impl_isMarking (v : Value) (ge : Int) (gp : List Place) (u : Value) (m : List Int) (w : World) (h0 : Lst Place.cells 4 w w.heap.size v gp) (h1 : Lst intCell 1 w w.heap.size u m) :
    Calls Try.prog 126 #[.agg #[.int .i64 ge, v], u] w fun r w' => r = .returned (.bool (okMarking gp m)) ∧ Below w.heap.size w w' := by
  obtain ⟨A, c, rfl⟩ := h0.shape
  obtain ⟨C, d, rfl⟩ := h1.shape
  have hl := h0.len_le
  have hm := h1.len_le
  have hE : Hid (okMarking gp m = (decide (m.length = gp.length) && allB m 0 100)) := rfl
  by_cases h : m.length = gp.length
  · have hq : ((m.length : Int) == (gp.length : Int)) = true := by simp [h]
    have h' := Lib.hid h
    clear h
    go_enter Try.func126, Try.ntmps126
    go_wp2_with (go_at_call 135; refine (impl_allWithin _ _ _ _ _ (h1.alloc _)).mono ?_; rintro e w' ⟨rfl, rfl⟩)
    go_ret
    exact ⟨ret_bool (by rw [hE.out, decide_eq_true h'.out]; rfl), (by repeat (first | exact Below.refl _ _ | assumption | refine Below.drew ?_ | refine Below.alloc ?_ (by simp <;> omega) _ | refine Below.setCell ?_ (by simp <;> omega) _))⟩
  · have hq : ((m.length : Int) == (gp.length : Int)) = false := by simp; omega
    go_enter Try.func126, Try.ntmps126
    go_wp2
    go_ret
    exact ⟨ret_bool (by rw [hE.out, decide_eq_false h]; rfl), (by repeat (first | exact Below.refl _ _ | assumption | refine Below.drew ?_ | refine Below.alloc ?_ (by simp <;> omega) _ | refine Below.setCell ?_ (by simp <;> omega) _))⟩
set_option maxHeartbeats 400000 in
set_option maxRecDepth 100000 in
theorem impl_IsMarking (v : Value) (ge : Int) (gp : List Place) (u : Value) (m : List Int) (w : World) (h0 : Lst Place.cells 4 w w.heap.size v gp) (h1 : Lst intCell 1 w w.heap.size u m) :
    Calls Try.prog 35 #[.agg #[.int .i64 ge, v], u] w fun r w' => r = .returned (.bool (okGraph ge gp && okMarking gp m)) ∧ Below w.heap.size w w' := by
  cases hq : okGraph ge gp
  · go_enter Try.func35, Try.ntmps35
    go_wp2_with (go_at_call 113; refine (impl_IsEventGraph _ _ _ _ (h0.alloc _)).mono ?_; rintro e w1 ⟨rfl, hB⟩)
    go_ret
    exact ⟨rfl, (by repeat (first | exact Below.refl _ _ | refine Below.drew ?_ | refine Below.alloc ?_ (by first | omega | (simp; done) | (simp; omega) | (have q0 := hB.size; simp at q0; omega) | (have q0 := hB.size; simp at q0 ⊢; omega)) _ | refine Below.setCell ?_ (by first | omega | (simp; done) | (simp; omega) | (have q0 := hB.size; simp at q0; omega) | (have q0 := hB.size; simp at q0 ⊢; omega)) _ | refine Below.trans ?_ (Below.mono hB (by first | omega | (simp; done) | (simp; omega) | (have q0 := hB.size; simp at q0; omega) | (have q0 := hB.size; simp at q0 ⊢; omega)))))⟩
  · go_enter Try.func35, Try.ntmps35
    go_wp2_with fail
    refine (impl_IsEventGraph _ _ _ _ (h0.alloc _)).mono ?_
    rintro e w1 ⟨rfl, hB⟩
    obtain ⟨hc1, hf1⟩ := bcell hB
    have hs1 := hB.size
    go_wp2_with (go_at_call 126; refine (impl_isMarking _ _ _ _ _ _ ((h0.alloc _).now hB) ((h1.alloc _).now hB)).mono ?_; rintro e w2 ⟨rfl, hB2⟩)
    go_ret
    exact ⟨rfl, (by repeat (first | exact Below.refl _ _ | refine Below.drew ?_ | refine Below.alloc ?_ (by first | omega | (simp; done) | (simp; omega) | (have q0 := hB2.size; have q1 := hB.size; simp at q0 q1; omega) | (have q0 := hB2.size; have q1 := hB.size; simp at q0 q1 ⊢; omega)) _ | refine Below.setCell ?_ (by first | omega | (simp; done) | (simp; omega) | (have q0 := hB2.size; have q1 := hB.size; simp at q0 q1; omega) | (have q0 := hB2.size; have q1 := hB.size; simp at q0 q1 ⊢; omega)) _ | refine Below.trans ?_ (Below.mono hB2 (by first | omega | (simp; done) | (simp; omega) | (have q0 := hB2.size; have q1 := hB.size; simp at q0 q1; omega) | (have q0 := hB2.size; have q1 := hB.size; simp at q0 q1 ⊢; omega))) | refine Below.trans ?_ (Below.mono hB (by first | omega | (simp; done) | (simp; omega) | (have q0 := hB2.size; have q1 := hB.size; simp at q0 q1; omega) | (have q0 := hB2.size; have q1 := hB.size; simp at q0 q1 ⊢; omega)))))⟩
set_option maxHeartbeats 400000 in
set_option maxRecDepth 100000 in
theorem spec_IsMarking (v : Value) (ge : Int) (gp : List Place) (u : Value) (m : List Int) (w : World) (h0 : Lst Place.cells 4 w w.heap.size v gp) (h1 : Lst intCell 1 w w.heap.size u m) :
    Calls Try.prog 36 #[.agg #[.int .i64 ge, v], u] w fun r w' => r = .returned (.bool (okGraph ge gp && okMarking gp m)) ∧ Below w.heap.size w w' := by
  obtain ⟨A, c, rfl⟩ := h0.shape
  obtain ⟨C, d, rfl⟩ := h1.shape
  have hl := h0.len_le
  have hm := h1.len_le
  have hE : Hid (okMarking gp m = (decide (m.length = gp.length) && allB m 0 100)) := rfl
  cases hq : okGraph ge gp
  · go_enter Try.func36, Try.ntmps36
    go_wp2_with (go_at_call 123; refine (spec_IsEventGraph _ _ _ _ (h0.alloc _)).mono ?_; rintro e w1 ⟨rfl, hB⟩)
    go_ret
    exact ⟨rfl, (by repeat (first | exact Below.refl _ _ | refine Below.drew ?_ | refine Below.alloc ?_ (by first | omega | (simp; done) | (simp; omega) | (have q0 := hB.size; simp at q0; omega) | (have q0 := hB.size; simp at q0 ⊢; omega)) _ | refine Below.setCell ?_ (by first | omega | (simp; done) | (simp; omega) | (have q0 := hB.size; simp at q0; omega) | (have q0 := hB.size; simp at q0 ⊢; omega)) _ | refine Below.trans ?_ (Below.mono hB (by first | omega | (simp; done) | (simp; omega) | (have q0 := hB.size; simp at q0; omega) | (have q0 := hB.size; simp at q0 ⊢; omega)))))⟩
  · have h30 : gp.length ≤ 30 := by
      unfold okGraph at hq
      simp only [Bool.and_eq_true, decide_eq_true_eq] at hq
      exact hq.1.2
    by_cases h : m.length = gp.length
    · have hq : ((m.length : Int) == (gp.length : Int)) = true := by simp [h]
      have h' := Lib.hid h
      have hm30 : (m.length : Int) ≤ 30 := by omega
      clear h
      go_enter Try.func36, Try.ntmps36
      go_wp2_with fail
      refine (spec_IsEventGraph _ _ _ _ (h0.alloc _)).mono ?_
      rintro e w1 ⟨rfl, hB⟩
      obtain ⟨hc1, hf1⟩ := bcell hB
      have hs1 := hB.size
      go_wp2_with (go_at_call 133; refine (spec_l01Within _ _ _ _ _ _ ((h1.alloc _).now hB)).mono ?_; rintro e w2 ⟨rfl, rfl⟩)
      go_ret
      exact ⟨ret_bool (by rw [hE.out, decide_eq_true h'.out]; simp [hm30]), (by repeat (first | exact Below.refl _ _ | refine Below.drew ?_ | refine Below.alloc ?_ (by first | omega | (simp; done) | (simp; omega) | (have q0 := hB.size; simp at q0; omega) | (have q0 := hB.size; simp at q0 ⊢; omega)) _ | refine Below.setCell ?_ (by first | omega | (simp; done) | (simp; omega) | (have q0 := hB.size; simp at q0; omega) | (have q0 := hB.size; simp at q0 ⊢; omega)) _ | refine Below.trans ?_ (Below.mono hB (by first | omega | (simp; done) | (simp; omega) | (have q0 := hB.size; simp at q0; omega) | (have q0 := hB.size; simp at q0 ⊢; omega)))))⟩
    · have hq : ((m.length : Int) == (gp.length : Int)) = false := by simp; omega
      go_enter Try.func36, Try.ntmps36
      go_wp2_with fail
      refine (spec_IsEventGraph _ _ _ _ (h0.alloc _)).mono ?_
      rintro e w1 ⟨rfl, hB⟩
      obtain ⟨hc1, hf1⟩ := bcell hB
      have hs1 := hB.size
      go_wp2
      go_ret
      exact ⟨ret_bool (by rw [hE.out, decide_eq_false h]; simp), (by repeat (first | exact Below.refl _ _ | refine Below.drew ?_ | refine Below.alloc ?_ (by first | omega | (simp; done) | (simp; omega) | (have q0 := hB.size; simp at q0; omega) | (have q0 := hB.size; simp at q0 ⊢; omega)) _ | refine Below.setCell ?_ (by first | omega | (simp; done) | (simp; omega) | (have q0 := hB.size; simp at q0; omega) | (have q0 := hB.size; simp at q0 ⊢; omega)) _ | refine Below.trans ?_ (Below.mono hB (by first | omega | (simp; done) | (simp; omega) | (have q0 := hB.size; simp at q0; omega) | (have q0 := hB.size; simp at q0 ⊢; omega)))))⟩
set_option maxHeartbeats 400000 in
set_option maxRecDepth 100000 in
theorem spec_l17Code (v : Value) (ge : Int) (gp : List Place) (u : Value) (m : List Int) (w : World) (h0 : Lst Place.cells 4 w w.heap.size v gp) (h1 : Lst intCell 1 w w.heap.size u m) :
    Calls Try.prog 128 #[.agg #[.int .i64 ge, v], u] w fun r w' => r = .returned (.int .i64 (if okGraph ge gp = false then 1 else if okMarking gp m = false then 2 else 0)) ∧ Below w.heap.size w w' := by
  obtain ⟨A, c, rfl⟩ := h0.shape
  cases hg : okGraph ge gp
  · go_enter Try.func128, Try.ntmps128
    go_wp2_with (go_at_call 123; refine (spec_IsEventGraph _ _ _ _ (h0.alloc _)).mono ?_; rintro e w1 ⟨rfl, hB⟩)
    go_ret
    exact ⟨ret_int (by simp), (by repeat (first | exact Below.refl _ _ | refine Below.drew ?_ | refine Below.alloc ?_ (by first | omega | (simp; done) | (simp; omega) | (have q0 := hB.size; simp at q0; omega) | (have q0 := hB.size; simp at q0 ⊢; omega)) _ | refine Below.setCell ?_ (by first | omega | (simp; done) | (simp; omega) | (have q0 := hB.size; simp at q0; omega) | (have q0 := hB.size; simp at q0 ⊢; omega)) _ | refine Below.trans ?_ (Below.mono hB (by first | omega | (simp; done) | (simp; omega) | (have q0 := hB.size; simp at q0; omega) | (have q0 := hB.size; simp at q0 ⊢; omega)))))⟩
  · cases hm : okMarking gp m
    all_goals
      go_enter Try.func128, Try.ntmps128
      go_wp2_with fail
      refine (spec_IsEventGraph _ _ _ _ (h0.alloc _)).mono ?_
      rintro e w1 ⟨rfl, hB⟩
      have k0 : w1.cell? ⟨w.heap.size, 0, none⟩ = some (.int .i64 ge) := cell_keep (by simp) hB
      have k1 : w1.cell? ⟨w.heap.size, 1, none⟩ = some (.slice A gp.length c) := cell_keep (by simp) hB
      have hBt : Below w.heap.size w w1 := (by repeat (first | exact Below.refl _ _ | refine Below.drew ?_ | refine Below.alloc ?_ (by first | omega | (simp; done) | (simp; omega) | (have q0 := hB.size; simp at q0; omega) | (have q0 := hB.size; simp at q0 ⊢; omega)) _ | refine Below.setCell ?_ (by first | omega | (simp; done) | (simp; omega) | (have q0 := hB.size; simp at q0; omega) | (have q0 := hB.size; simp at q0 ⊢; omega)) _ | refine Below.trans ?_ (Below.mono hB (by first | omega | (simp; done) | (simp; omega) | (have q0 := hB.size; simp at q0; omega) | (have q0 := hB.size; simp at q0 ⊢; omega)))))
      clear hB
      go_wp2_with (go_at_call 36; refine (spec_IsMarking _ _ _ _ _ _ (h0.now hBt) (h1.now hBt)).mono ?_; rintro e w2 ⟨rfl, hB2⟩)
      go_ret
      exact ⟨ret_int (by simp), hBt.trans (hB2.mono hBt.size)⟩
end Go.Proofs.Ytkbhbmoogkjafaa
