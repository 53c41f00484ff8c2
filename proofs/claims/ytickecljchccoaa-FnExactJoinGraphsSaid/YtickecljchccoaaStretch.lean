/-
  StretchGraph: what it gives; the last check of a made graph (checkedGraph, l19Result).
-/
import Derived.Test.YtickecljchccoaaReverse
namespace Go.Proofs.Ytickecljchccoaa
open Go.RowKit
set_option linter.unusedVariables false
set_option linter.unusedSimpArgs false

/-- A made graph, if it is one; else nothing and the code 3. -/
def checkedF (ge : Int) (gp : List Place) : Int × List Place × Int := if okGraph ge gp = true then (ge, gp, 0) else (0, [], 3)
theorem checkedF_len (ge : Int) (gp : List Place) : (checkedF ge gp).2.1.length ≤ gp.length := by unfold checkedF; split <;> simp
def Place.long (n : Int) (p : Place) : Place := ⟨p.src, p.dst, n * p.delay, p.tokens⟩
def stretchF (ge : Int) (gp : List Place) (n : Int) : Int × List Place × Int :=
  if okGraph ge gp = false then (0, [], 1) else if inB n 1 1000 = false then (0, [], 2) else checkedF ge (gp.map (Place.long n))
theorem stretchF_len (ge : Int) (gp : List Place) (n : Int) : (stretchF ge gp n).2.1.length ≤ gp.length := by
  unfold stretchF
  split
  · simp
  · split
    · simp
    · exact Nat.le_trans (checkedF_len _ _) (by simp)
theorem Own.setP2 {w : World} {e : TypeId} {base : Nat} {l : List Place} {g n c : Nat} (h : Own Place.cells 4 e w base (.slice (some ⟨g, 0, none⟩) n c) l) (k : Nat) (hk : k < l.length) (x : Int) :
    Own Place.cells 4 e (w.setCell ⟨g, k * 4 + 2, none⟩ (.int .i64 x)) base (.slice (some ⟨g, 0, none⟩) n c) (l.set k ⟨l[k].src, l[k].dst, x, l[k].tokens⟩) :=
  h.put Place.cells_len k 2 hk (by omega) _ _ (by simp [Place.cells]) (k * 4 + 2) (by omega)

set_option maxHeartbeats 400000 in
set_option maxRecDepth 100000 in
theorem impl_checkedGraph (v : Value) (ge : Int) (gp : List Place) (B : Nat) (w : World) (h0 : Own Place.cells 4 98 w B v gp) :
    Calls Try.prog 85 #[.agg #[.int .i64 ge, v]] w fun r w' => ∃ u, r = .returned (.tuple #[.agg #[.int .i64 (checkedF ge gp).1, u], .int .i64 (checkedF ge gp).2.2]) ∧ Own Place.cells 4 98 w' B u (checkedF ge gp).2.1 ∧ Below w.heap.size w w' := by
  obtain ⟨A, c, rfl⟩ := h0.shape
  cases hg : okGraph ge gp
  · have hE : checkedF ge gp = (0, [], 3) := by simp [checkedF, hg]
    rw [hE]
    go_enter Try.func85, Try.ntmps85
    go_wp2_with (go_at_call 76; refine (impl_IsEventGraph _ _ _ _ ((h0.lst.alloc _).alloc _)).mono ?_; rintro e w1 ⟨rfl, hB⟩; obtain ⟨hc1, hf1⟩ := bcell hB)
    refine bodyPost_ret (v := .tuple #[.agg #[.int .i64 0, .slice none 0 0], .int .i64 3]) (by simp [results, Try.results85, go_sem, hc1]) rfl ⟨_, rfl, Own.nil, (by repeat (first | exact Below.refl _ _ | refine Below.drew ?_ | refine Below.alloc ?_ (by first | omega | (simp; done) | (simp; omega) | (have q0 := hB.size; simp at q0; omega) | (have q0 := hB.size; simp at q0 ⊢; omega)) _ | refine Below.setCell ?_ (by first | omega | (simp; done) | (simp; omega) | (have q0 := hB.size; simp at q0; omega) | (have q0 := hB.size; simp at q0 ⊢; omega)) _ | refine Below.trans ?_ (Below.mono hB (by first | omega | (simp; done) | (simp; omega) | (have q0 := hB.size; simp at q0; omega) | (have q0 := hB.size; simp at q0 ⊢; omega)))))⟩
  · have hE : checkedF ge gp = (ge, gp, 0) := by simp [checkedF, hg]
    rw [hE]
    go_enter Try.func85, Try.ntmps85
    go_wp2_with fail
    refine (impl_IsEventGraph _ _ _ _ ((h0.lst.alloc _).alloc _)).mono ?_
    rintro e w1 ⟨rfl, hB⟩
    have k0 : w1.cell? ⟨w.heap.size, 0, none⟩ = some (.int .i64 ge) := cell_keep (by simp) hB
    have k1 : w1.cell? ⟨w.heap.size, 1, none⟩ = some (.slice A gp.length c) := cell_keep (by simp) hB
    have r0 : w1.cell? ⟨w.heap.size + 1, 0, none⟩ = some (.int .i64 0) := cell_keep (by simp) hB
    have r1 : w1.cell? ⟨w.heap.size + 1, 1, none⟩ = some (.slice none 0 0) := cell_keep (by simp) hB
    have z0 : w1.frozen? ⟨w.heap.size + 1, 0, none⟩ = false := (hB.frozen (p := ⟨w.heap.size + 1, 0, none⟩) (by simp)).trans (by simp)
    have z1 : w1.frozen? ⟨w.heap.size + 1, 1, none⟩ = false := (hB.frozen (p := ⟨w.heap.size + 1, 1, none⟩) (by simp)).trans (by simp)
    have hBt : Below w.heap.size w w1 := (by repeat (first | exact Below.refl _ _ | refine Below.drew ?_ | refine Below.alloc ?_ (by first | omega | (simp; done) | (simp; omega) | (have q0 := hB.size; simp at q0; omega) | (have q0 := hB.size; simp at q0 ⊢; omega)) _ | refine Below.setCell ?_ (by first | omega | (simp; done) | (simp; omega) | (have q0 := hB.size; simp at q0; omega) | (have q0 := hB.size; simp at q0 ⊢; omega)) _ | refine Below.trans ?_ (Below.mono hB (by first | omega | (simp; done) | (simp; omega) | (have q0 := hB.size; simp at q0; omega) | (have q0 := hB.size; simp at q0 ⊢; omega)))))
    go_wp2
    have hF : Below w.heap.size w ((w1.setCell ⟨w.heap.size + 1, 0, none⟩ (.int .i64 ge)).setCell ⟨w.heap.size + 1, 1, none⟩ (.slice A gp.length c)) := (hBt.setCell (by simp) _).setCell (by simp) _
    refine bodyPost_ret (v := .tuple #[.agg #[.int .i64 ge, .slice A gp.length c], .int .i64 0]) (by simp [results, Try.results85, go_sem, r0, r1]) rfl ⟨_, rfl, h0.now hF, hF⟩
set_option maxHeartbeats 400000 in
set_option maxRecDepth 100000 in
theorem spec_l19Result (v : Value) (ge : Int) (gp : List Place) (B : Nat) (w : World) (h0 : Own Place.cells 4 98 w B v gp) :
    Calls Try.prog 83 #[.agg #[.int .i64 ge, v]] w fun r w' => ∃ u, r = .returned (.tuple #[.agg #[.int .i64 (checkedF ge gp).1, u], .int .i64 (checkedF ge gp).2.2]) ∧ Own Place.cells 4 98 w' B u (checkedF ge gp).2.1 ∧ Below w.heap.size w w' := by
  obtain ⟨A, c, rfl⟩ := h0.shape
  cases hg : okGraph ge gp
  · have hE : checkedF ge gp = (0, [], 3) := by simp [checkedF, hg]
    rw [hE]
    go_enter Try.func83, Try.ntmps83
    go_wp2_with (go_at_call 81; refine (spec_IsEventGraph _ _ _ _ ((h0.lst.alloc _).alloc _)).mono ?_; rintro e w1 ⟨rfl, hB⟩; obtain ⟨hc1, hf1⟩ := bcell hB)
    refine bodyPost_ret (v := .tuple #[.agg #[.int .i64 0, .slice none 0 0], .int .i64 3]) (by simp [results, Try.results83, go_sem, hc1]) rfl ⟨_, rfl, Own.nil, (by repeat (first | exact Below.refl _ _ | refine Below.drew ?_ | refine Below.alloc ?_ (by first | omega | (simp; done) | (simp; omega) | (have q0 := hB.size; simp at q0; omega) | (have q0 := hB.size; simp at q0 ⊢; omega)) _ | refine Below.setCell ?_ (by first | omega | (simp; done) | (simp; omega) | (have q0 := hB.size; simp at q0; omega) | (have q0 := hB.size; simp at q0 ⊢; omega)) _ | refine Below.trans ?_ (Below.mono hB (by first | omega | (simp; done) | (simp; omega) | (have q0 := hB.size; simp at q0; omega) | (have q0 := hB.size; simp at q0 ⊢; omega)))))⟩
  · have hE : checkedF ge gp = (ge, gp, 0) := by simp [checkedF, hg]
    rw [hE]
    go_enter Try.func83, Try.ntmps83
    go_wp2_with fail
    refine (spec_IsEventGraph _ _ _ _ ((h0.lst.alloc _).alloc _)).mono ?_
    rintro e w1 ⟨rfl, hB⟩
    have k0 : w1.cell? ⟨w.heap.size, 0, none⟩ = some (.int .i64 ge) := cell_keep (by simp) hB
    have k1 : w1.cell? ⟨w.heap.size, 1, none⟩ = some (.slice A gp.length c) := cell_keep (by simp) hB
    have r0 : w1.cell? ⟨w.heap.size + 1, 0, none⟩ = some (.int .i64 0) := cell_keep (by simp) hB
    have r1 : w1.cell? ⟨w.heap.size + 1, 1, none⟩ = some (.slice none 0 0) := cell_keep (by simp) hB
    have z0 : w1.frozen? ⟨w.heap.size + 1, 0, none⟩ = false := (hB.frozen (p := ⟨w.heap.size + 1, 0, none⟩) (by simp)).trans (by simp)
    have z1 : w1.frozen? ⟨w.heap.size + 1, 1, none⟩ = false := (hB.frozen (p := ⟨w.heap.size + 1, 1, none⟩) (by simp)).trans (by simp)
    have hBt : Below w.heap.size w w1 := (by repeat (first | exact Below.refl _ _ | refine Below.drew ?_ | refine Below.alloc ?_ (by first | omega | (simp; done) | (simp; omega) | (have q0 := hB.size; simp at q0; omega) | (have q0 := hB.size; simp at q0 ⊢; omega)) _ | refine Below.setCell ?_ (by first | omega | (simp; done) | (simp; omega) | (have q0 := hB.size; simp at q0; omega) | (have q0 := hB.size; simp at q0 ⊢; omega)) _ | refine Below.trans ?_ (Below.mono hB (by first | omega | (simp; done) | (simp; omega) | (have q0 := hB.size; simp at q0; omega) | (have q0 := hB.size; simp at q0 ⊢; omega)))))
    go_wp2
    have hF : Below w.heap.size w ((w1.setCell ⟨w.heap.size + 1, 0, none⟩ (.int .i64 ge)).setCell ⟨w.heap.size + 1, 1, none⟩ (.slice A gp.length c)) := (hBt.setCell (by simp) _).setCell (by simp) _
    refine bodyPost_ret (v := .tuple #[.agg #[.int .i64 ge, .slice A gp.length c], .int .i64 0]) (by simp [results, Try.results83, go_sem, r0, r1]) rfl ⟨_, rfl, h0.now hF, hF⟩
end Go.Proofs.Ytickecljchccoaa
