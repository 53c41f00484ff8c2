/-
  The walk of ReverseGraph, the program's.
-/
import Derived.Test.YtdhlhabkonfhfaaReverse
namespace Go.Proofs.Ytdhlhabkonfhfaa
open Go.RowKit
set_option linter.unusedVariables false
set_option linter.unusedSimpArgs false

set_option maxHeartbeats 4000000 in
set_option maxRecDepth 100000 in
theorem impl_ReverseGraph (v : Value) (ge : Int) (gp : List Place) (w : World) (h0 : Lst Place.cells 4 w w.heap.size v gp) :
    Calls Try.prog 35 #[.agg #[.int .i64 ge, v]] w (RetGI 77 w (reverseF ge gp).1 (reverseF ge gp).2.1 (reverseF ge gp).2.2) := by
  obtain ⟨A, c, rfl⟩ := h0.shape
  have hl := h0.len_le
  cases hg : okGraph ge gp
  · have hE : reverseF ge gp = (0, [], 1) := by simp [reverseF, hg]
    rw [hE]
    go_enter Try.func35, Try.ntmps35
    go_wp2_with (go_at_call 49; refine (impl_IsEventGraph _ _ _ _ ((h0.alloc _).alloc _)).mono ?_; rintro e w1 ⟨rfl, hB⟩; obtain ⟨hc1, hf1⟩ := bcell hB)
    refine bodyPost_ret (v := .tuple #[.agg #[.int .i64 0, .slice none 0 0], .int .i64 1]) (by simp [results, Try.results35, go_sem, hc1]) rfl ⟨_, rfl, Own.nil, (by repeat (first | exact Below.refl _ _ | refine Below.drew ?_ | refine Below.alloc ?_ (by first | omega | (simp; done) | (simp; omega) | (have q0 := hB.size; simp at q0; omega) | (have q0 := hB.size; simp at q0 ⊢; omega)) _ | refine Below.setCell ?_ (by first | omega | (simp; done) | (simp; omega) | (have q0 := hB.size; simp at q0; omega) | (have q0 := hB.size; simp at q0 ⊢; omega)) _ | refine Below.trans ?_ (Below.mono hB (by first | omega | (simp; done) | (simp; omega) | (have q0 := hB.size; simp at q0; omega) | (have q0 := hB.size; simp at q0 ⊢; omega)))))⟩
  · have hE : reverseF ge gp = (ge, gp.map Place.rev, 0) := by simp [reverseF, hg]
    have h30 := okGraph_len hg
    rw [hE]
    go_enter Try.func35, Try.ntmps35
    go_wp2_with fail
    refine (impl_IsEventGraph _ _ _ _ ((h0.alloc _).alloc _)).mono ?_
    rintro e w1 ⟨rfl, hB⟩
    have k0 : w1.cell? ⟨w.heap.size, 0, none⟩ = some (.int .i64 ge) := cell_keep (by simp) hB
    have k1 : w1.cell? ⟨w.heap.size, 1, none⟩ = some (.slice A gp.length c) := cell_keep (by simp) hB
    have r0 : w1.cell? ⟨w.heap.size + 1, 0, none⟩ = some (.int .i64 0) := cell_keep (by simp) hB
    have r1 : w1.cell? ⟨w.heap.size + 1, 1, none⟩ = some (.slice none 0 0) := cell_keep (by simp) hB
    have z0 : w1.frozen? ⟨w.heap.size + 1, 0, none⟩ = false := (hB.frozen (p := ⟨w.heap.size + 1, 0, none⟩) (by simp)).trans (by simp)
    have z1 : w1.frozen? ⟨w.heap.size + 1, 1, none⟩ = false := (hB.frozen (p := ⟨w.heap.size + 1, 1, none⟩) (by simp)).trans (by simp)
    have hBt : Below w.heap.size w w1 := (by repeat (first | exact Below.refl _ _ | refine Below.drew ?_ | refine Below.alloc ?_ (by first | omega | (simp; done) | (simp; omega) | (have q0 := hB.size; simp at q0; omega) | (have q0 := hB.size; simp at q0 ⊢; omega)) _ | refine Below.setCell ?_ (by first | omega | (simp; done) | (simp; omega) | (have q0 := hB.size; simp at q0; omega) | (have q0 := hB.size; simp at q0 ⊢; omega)) _ | refine Below.trans ?_ (Below.mono hB (by first | omega | (simp; done) | (simp; omega) | (have q0 := hB.size; simp at q0; omega) | (have q0 := hB.size; simp at q0 ⊢; omega)))))
    have hs1 : w.heap.size + 1 < w1.heap.size := by have := hB.size; simp at this; omega
    clear hB
    go_wp2_with fail
    refine (impl_cloneGraph _ _ _ _ (h0.now hBt) (by omega)).mono ?_
    rintro e w2 ⟨v2, rfl, hO, hB2⟩
    obtain ⟨A2, c2, rfl⟩ := hO.shape
    have hlt2 := Lib.hid hO.lt
    have k0a := cell_keep k0 hB2
    have k1a := cell_keep k1 hB2
    have hs2 := hB2.size
    have k1b : (w2.alloc (.cells #[.int .i64 ge, .slice A2 gp.length c2] 49)).cell? ⟨w.heap.size, 1, none⟩ = some (.slice A gp.length c) := by rw [World.cell?_alloc_lt _ _ _ (by simp; omega)]; exact k1a
    go_wp2
    clear k0a k1a k1b
    go_loopw [5, 6, 16] (fun _ _ i wr => ∃ k : Nat, k ≤ gp.length ∧ i = .int .i64 k ∧ Own Place.cells 4 77 wr w1.heap.size (.slice A2 gp.length c2) ((gp.take k).map Place.rev ++ gp.drop k) ∧ Below w1.heap.size w1 wr ∧ wr.cell? ⟨w2.heap.size, 0, none⟩ = some (.int .i64 ge) ∧ wr.cell? ⟨w2.heap.size, 1, none⟩ = some (.slice A2 gp.length c2)) (fun _ _ i _ => gp.length - (intOf i).toNat)
    case atStart => exact ⟨0, Nat.zero_le _, rfl, by simpa using hO.alloc _, hB2.alloc hs2 _, by simp, by simp⟩
    case round =>
      obtain ⟨k, hk, rfl, hO3, hB3, e0, e1⟩ := hrel
      have hs3 := hB3.size
      by_cases hlt : k < gp.length
      · obtain ⟨b, off, rfl, hb, d0, d1, d2, d3⟩ := places_at h0 k hlt
        have hBu : Below w.heap.size w wr := hBt.trans (hB3.mono (by omega))
        replace d0 := cell_keep d0 hBu
        replace d1 := cell_keep d1 hBu
        replace d2 := cell_keep d2 hBu
        replace d3 := cell_keep d3 hBu
        have hlen : k < ((gp.take k).map Place.rev ++ gp.drop k).length := by rw [part_len _ _ _ hk]; exact hlt
        obtain ⟨g, c', hA, hgb, hgl, hfz, _⟩ := hO3.at_ Place.cells_len k hlen
        obtain rfl : A2 = some ⟨g, 0, none⟩ := by injection hA
        clear hA
        have hg2 := hlt2.out g rfl
        obtain ⟨_, _, _, q0, q1, q2, q3⟩ := own_places_at hO3 k hlen
        have hw2 := World.block_lt_of_cell? wr _ e1
        simp at hw2
        go_wp2_with fail
        have p0 : (wr.alloc (.cells #[.int .i64 gp[k].src, .int .i64 gp[k].dst, .int .i64 gp[k].delay, .int .i64 gp[k].tokens] 77)).cell? ⟨wr.heap.size, 0, none⟩ = some (.int .i64 gp[k].src) := by simp
        have p1 : (wr.alloc (.cells #[.int .i64 gp[k].src, .int .i64 gp[k].dst, .int .i64 gp[k].delay, .int .i64 gp[k].tokens] 77)).cell? ⟨wr.heap.size, 1, none⟩ = some (.int .i64 gp[k].dst) := by simp
        have y0 : (wr.alloc (.cells #[.int .i64 gp[k].src, .int .i64 gp[k].dst, .int .i64 gp[k].delay, .int .i64 gp[k].tokens] 77)).cell? ⟨w2.heap.size, 0, none⟩ = some (.int .i64 ge) := by rw [World.cell?_alloc_lt _ _ _ hw2]; exact e0
        have y1 : (wr.alloc (.cells #[.int .i64 gp[k].src, .int .i64 gp[k].dst, .int .i64 gp[k].delay, .int .i64 gp[k].tokens] 77)).cell? ⟨w2.heap.size, 1, none⟩ = some (.slice (some ⟨g, 0, none⟩) gp.length c2) := by rw [World.cell?_alloc_lt _ _ _ hw2]; exact e1
        have hO4 := hO3.alloc (.cells #[.int .i64 gp[k].src, .int .i64 gp[k].dst, .int .i64 gp[k].delay, .int .i64 gp[k].tokens] 77)
        have hB4 := hB3.alloc hs3 (.cells #[.int .i64 gp[k].src, .int .i64 gp[k].dst, .int .i64 gp[k].delay, .int .i64 gp[k].tokens] 77)
        clear q0 q1 q2 q3 hfz e0 e1 d0 d1 d2 d3 hO3 hB3
        generalize (wr.alloc (.cells #[.int .i64 gp[k].src, .int .i64 gp[k].dst, .int .i64 gp[k].delay, .int .i64 gp[k].tokens] 77)) = V at *
        obtain ⟨_, hg5, hfz, q0, q1, q2, q3⟩ := own_places_at hO4 k hlen
        have hq0 := Lib.hid (part_get Place.rev gp k hlt hlen)
        have hn1 : g ≠ w2.heap.size := by omega
        have hn2 : w2.heap.size ≠ g := by omega
        have hn3 : g ≠ wr.heap.size := by omega
        have hn4 : wr.heap.size ≠ g := by omega
        go_region
        go_wp2
        go_roundw
        case rel =>
          refine ⟨k + 1, hlt, by go_num, ?_, ?_, ?_, ?_⟩
          · have h1 := hO4.setP01 k hlen gp[k].dst gp[k].src
            rw [hq0.out] at h1
            have h2 := part_set Place.rev gp k hlt
            rw [show (⟨gp[k].dst, gp[k].src, gp[k].delay, gp[k].tokens⟩ : Place) = Place.rev gp[k] from rfl, h2] at h1
            exact h1
          · exact (hB4.drew.setCell hgb _).setCell hgb _
          · exact (World.cell?_setCell_other _ _ _ _ (by simp <;> omega)).trans ((World.cell?_setCell_other _ _ _ _ (by simp <;> omega)).trans y0)
          · exact (World.cell?_setCell_other _ _ _ _ (by simp <;> omega)).trans ((World.cell?_setCell_other _ _ _ _ (by simp <;> omega)).trans y1)
        case measure => simp [intOf]; omega
      · obtain rfl : k = gp.length := by omega
        have r0' : wr.cell? ⟨w.heap.size + 1, 0, none⟩ = some (.int .i64 0) := (hB3.cell (p := ⟨w.heap.size + 1, 0, none⟩) hs1).trans r0
        have r1' : wr.cell? ⟨w.heap.size + 1, 1, none⟩ = some (.slice none 0 0) := (hB3.cell (p := ⟨w.heap.size + 1, 1, none⟩) hs1).trans r1
        have z0' : wr.frozen? ⟨w.heap.size + 1, 0, none⟩ = false := (hB3.frozen (p := ⟨w.heap.size + 1, 0, none⟩) hs1).trans z0
        have z1' : wr.frozen? ⟨w.heap.size + 1, 1, none⟩ = false := (hB3.frozen (p := ⟨w.heap.size + 1, 1, none⟩) hs1).trans z1
        go_wp2
        refine bodyPost_ret (v := .tuple #[.agg #[.int .i64 ge, .slice A2 gp.length c2], .int .i64 0]) (by simp [results, Try.results35, go_sem, r0', r1']) rfl ⟨_, rfl, ?_, ?_⟩
        · rw [List.take_length, List.drop_length, List.append_nil] at hO3
          exact ((hO3.far (p := ⟨w.heap.size + 1, 0, none⟩) hs1 _).far (p := ⟨w.heap.size + 1, 1, none⟩) hs1 _).rebase (by omega)
        · exact ((hBt.trans (hB3.mono (by omega))).setCell (by simp) _).setCell (by simp) _
end Go.Proofs.Ytdhlhabkonfhfaa
