/-
  The walk of ReverseGraph, the reference's.
-/
import Derived.Test.YtdhlhabkonfhfaaReverse
namespace Go.Proofs.Ytdhlhabkonfhfaa
open Go.RowKit
set_option linter.unusedVariables false
set_option linter.unusedSimpArgs false

theorem cell_far1 {w : World} {p a : Addr} {u v : Value} (hne : p.block ≠ a.block) (h : w.cell? a = some v) : (w.setCell p u).cell? a = some v := by
  rw [World.cell?_setCell_other _ _ _ _ (fun e => hne (by rw [e]))]
  exact h
theorem cell_far4 {w : World} {g b o i0 i1 i2 i3 : Nat} {u0 u1 u2 u3 v : Value} (hne : ∀ j, (⟨g, j, none⟩ : Addr).block ≠ b) (h : w.cell? ⟨b, o, none⟩ = some v) :
    ((((w.setCell ⟨g, i0, none⟩ u0).setCell ⟨g, i1, none⟩ u1).setCell ⟨g, i2, none⟩ u2).setCell ⟨g, i3, none⟩ u3).cell? ⟨b, o, none⟩ = some v :=
  cell_far1 (hne _) (cell_far1 (hne _) (cell_far1 (hne _) (cell_far1 (hne _) h)))
set_option maxHeartbeats 4000000 in
set_option maxRecDepth 100000 in
theorem spec_ReverseGraph (v : Value) (ge : Int) (gp : List Place) (w : World) (h0 : Lst Place.cells 4 w w.heap.size v gp) :
    Calls Try.prog 34 #[.agg #[.int .i64 ge, v]] w (RetGI 77 w (reverseF ge gp).1 (reverseF ge gp).2.1 (reverseF ge gp).2.2) := by
  obtain ⟨A, c, rfl⟩ := h0.shape
  have hl := h0.len_le
  cases hg : okGraph ge gp
  · have hE : reverseF ge gp = (0, [], 1) := by simp [reverseF, hg]
    rw [hE]
    go_enter Try.func34, Try.ntmps34
    go_wp2_with (go_at_call 46; refine (spec_IsEventGraph _ _ _ _ ((h0.alloc _).alloc _)).mono ?_; rintro e w1 ⟨rfl, hB⟩; obtain ⟨hc1, hf1⟩ := bcell hB)
    refine bodyPost_ret (v := .tuple #[.agg #[.int .i64 0, .slice none 0 0], .int .i64 1]) (by simp [results, Try.results34, go_sem, hc1]) rfl ⟨_, rfl, Own.nil, (by repeat (first | exact Below.refl _ _ | refine Below.drew ?_ | refine Below.alloc ?_ (by first | omega | (simp; done) | (simp; omega) | (have q0 := hB.size; simp at q0; omega) | (have q0 := hB.size; simp at q0 ⊢; omega)) _ | refine Below.setCell ?_ (by first | omega | (simp; done) | (simp; omega) | (have q0 := hB.size; simp at q0; omega) | (have q0 := hB.size; simp at q0 ⊢; omega)) _ | refine Below.trans ?_ (Below.mono hB (by first | omega | (simp; done) | (simp; omega) | (have q0 := hB.size; simp at q0; omega) | (have q0 := hB.size; simp at q0 ⊢; omega)))))⟩
  · have hE : reverseF ge gp = (ge, gp.map Place.rev, 0) := by simp [reverseF, hg]
    have h30 := okGraph_len hg
    rw [hE]
    go_enter Try.func34, Try.ntmps34
    go_wp2_with fail
    refine (spec_IsEventGraph _ _ _ _ ((h0.alloc _).alloc _)).mono ?_
    rintro e w1 ⟨rfl, hB⟩
    have k0 : w1.cell? ⟨w.heap.size, 0, none⟩ = some (.int .i64 ge) := cell_keep (by simp) hB
    have k1 : w1.cell? ⟨w.heap.size, 1, none⟩ = some (.slice A gp.length c) := cell_keep (by simp) hB
    have r0 : w1.cell? ⟨w.heap.size + 1, 0, none⟩ = some (.int .i64 0) := cell_keep (by simp) hB
    have r1 : w1.cell? ⟨w.heap.size + 1, 1, none⟩ = some (.slice none 0 0) := cell_keep (by simp) hB
    have z0 : w1.frozen? ⟨w.heap.size + 1, 0, none⟩ = false := (hB.frozen (p := ⟨w.heap.size + 1, 0, none⟩) (by simp)).trans (by simp)
    have z1 : w1.frozen? ⟨w.heap.size + 1, 1, none⟩ = false := (hB.frozen (p := ⟨w.heap.size + 1, 1, none⟩) (by simp)).trans (by simp)
    have hBt : Below w.heap.size w w1 := (by repeat (first | exact Below.refl _ _ | refine Below.drew ?_ | refine Below.alloc ?_ (by first | omega | (simp; done) | (simp; omega) | (have q0 := hB.size; simp at q0; omega) | (have q0 := hB.size; simp at q0 ⊢; omega)) _ | refine Below.setCell ?_ (by first | omega | (simp; done) | (simp; omega) | (have q0 := hB.size; simp at q0; omega) | (have q0 := hB.size; simp at q0 ⊢; omega)) _ | refine Below.trans ?_ (Below.mono hB (by first | omega | (simp; done) | (simp; omega) | (have q0 := hB.size; simp at q0; omega) | (have q0 := hB.size; simp at q0 ⊢; omega)))))
    have hs1 : w.heap.size + 1 < w1.heap.size := by have := hB.size; simp at this; omega
    clear hB
    go_wp2_with fail
    refine (spec_l11Own _ _ _ _ (h0.now hBt) (by omega)).mono ?_
    rintro e w2 ⟨v2, rfl, hO, hB2⟩
    obtain ⟨A2, c2, rfl⟩ := hO.shape
    have hlt2 := Lib.hid hO.lt
    have hs2 := hB2.size
    go_wp2
    go_loopw [5, 6] (fun i _ wr => ∃ k : Nat, k ≤ gp.length ∧ i = .int .i64 k ∧ Own Place.cells 4 77 wr w1.heap.size (.slice A2 gp.length c2) ((gp.take k).map Place.rev ++ gp.drop k) ∧ Below w1.heap.size w1 wr ∧ wr.cell? ⟨w2.heap.size, 0, none⟩ = some (.int .i64 ge) ∧ wr.cell? ⟨w2.heap.size, 1, none⟩ = some (.slice A2 gp.length c2)) (fun i _ _ => gp.length - (intOf i).toNat)
    case atStart => exact ⟨0, Nat.zero_le _, rfl, by simpa using hO.alloc _, hB2.alloc hs2 _, by simp, by simp⟩
    case round =>
      obtain ⟨k, hk, rfl, hO3, hB3, e0, e1⟩ := hrel
      have hs3 := hB3.size
      by_cases hlt : k < gp.length
      · have hlen : k < ((gp.take k).map Place.rev ++ gp.drop k).length := by rw [part_len _ _ _ hk]; exact hlt
        obtain ⟨g, c', hA, hgb, hgl, hfz, _⟩ := hO3.at_ Place.cells_len k hlen
        obtain rfl : A2 = some ⟨g, 0, none⟩ := by injection hA
        clear hA
        have hg2 := hlt2.out g rfl
        have hq0 := part_get Place.rev gp k hlt hlen
        obtain ⟨_, _, _, q0, q1, q2, q3⟩ := own_places_at hO3 k hlen
        rw [hq0] at q0 q1 q2 q3
        have hq0 := Lib.hid hq0
        have hw2 := World.block_lt_of_cell? wr _ e1
        simp at hw2
        have y1 : (wr.alloc (.cells #[.int .i64 gp[k].src, .int .i64 gp[k].dst, .int .i64 gp[k].delay, .int .i64 gp[k].tokens] 77)).cell? ⟨w2.heap.size, 1, none⟩ = some (.slice (some ⟨g, 0, none⟩) gp.length c2) := by rw [World.cell?_alloc_lt _ _ _ hw2]; exact e1
        have y0 : (wr.alloc (.cells #[.int .i64 gp[k].src, .int .i64 gp[k].dst, .int .i64 gp[k].delay, .int .i64 gp[k].tokens] 77)).cell? ⟨w2.heap.size, 0, none⟩ = some (.int .i64 ge) := by rw [World.cell?_alloc_lt _ _ _ hw2]; exact e0
        have hO4 := hO3.alloc (.cells #[.int .i64 gp[k].src, .int .i64 gp[k].dst, .int .i64 gp[k].delay, .int .i64 gp[k].tokens] 77)
        obtain ⟨_, _, hfz4, x0, x1, x2, x3⟩ := own_places_at hO4 k hlen
        clear hO4
        go_wp2
        go_roundw
        case rel =>
          have hs4 : ((((wr.setCell ⟨g, k * 4, none⟩ (.int .i64 gp[k].dst)).setCell ⟨g, k * 4 + 1, none⟩ (.int .i64 gp[k].src)).setCell ⟨g, k * 4 + 2, none⟩ (.int .i64 gp[k].delay)).setCell ⟨g, k * 4 + 3, none⟩ (.int .i64 gp[k].tokens)).heap.size = wr.heap.size := by simp [World.setCell]
          have h1 := (hO3.setP k hlen (Place.rev gp[k])).alloc (.cells #[.int .i64 gp[k].src, .int .i64 gp[k].dst, .int .i64 gp[k].delay, .int .i64 gp[k].tokens] 77)
          rw [part_set Place.rev gp k hlt] at h1
          have h2 := ((((hB3.setCell (p := ⟨g, k * 4, none⟩) hgb (.int .i64 gp[k].dst)).setCell (p := ⟨g, k * 4 + 1, none⟩) hgb (.int .i64 gp[k].src)).setCell (p := ⟨g, k * 4 + 2, none⟩) hgb (.int .i64 gp[k].delay)).setCell (p := ⟨g, k * 4 + 3, none⟩) hgb (.int .i64 gp[k].tokens)).alloc (by rw [hs4]; exact hs3) (.cells #[.int .i64 gp[k].src, .int .i64 gp[k].dst, .int .i64 gp[k].delay, .int .i64 gp[k].tokens] 77)
          have hne : ∀ j, (⟨g, j, none⟩ : Addr).block ≠ w2.heap.size := fun j => by show g ≠ _; omega
          refine ⟨k + 1, hlt, by go_num, h1, h2, ?_, ?_⟩
          · rw [World.cell?_alloc_lt _ _ _ (by rw [hs4]; exact hw2)]
            exact cell_far4 hne e0
          · rw [World.cell?_alloc_lt _ _ _ (by rw [hs4]; exact hw2)]
            exact cell_far4 hne e1
        case measure => simp [intOf]; omega
      · obtain rfl : k = gp.length := by omega
        have r0' : wr.cell? ⟨w.heap.size + 1, 0, none⟩ = some (.int .i64 0) := (hB3.cell (p := ⟨w.heap.size + 1, 0, none⟩) hs1).trans r0
        have r1' : wr.cell? ⟨w.heap.size + 1, 1, none⟩ = some (.slice none 0 0) := (hB3.cell (p := ⟨w.heap.size + 1, 1, none⟩) hs1).trans r1
        have z0' : wr.frozen? ⟨w.heap.size + 1, 0, none⟩ = false := (hB3.frozen (p := ⟨w.heap.size + 1, 0, none⟩) hs1).trans z0
        have z1' : wr.frozen? ⟨w.heap.size + 1, 1, none⟩ = false := (hB3.frozen (p := ⟨w.heap.size + 1, 1, none⟩) hs1).trans z1
        go_wp2
        refine bodyPost_ret (v := .tuple #[.agg #[.int .i64 ge, .slice A2 gp.length c2], .int .i64 0]) (by simp [results, Try.results34, go_sem, r0', r1']) rfl ⟨_, rfl, ?_, ?_⟩
        · rw [List.take_length, List.drop_length, List.append_nil] at hO3
          exact ((hO3.far (p := ⟨w.heap.size + 1, 0, none⟩) hs1 _).far (p := ⟨w.heap.size + 1, 1, none⟩) hs1 _).rebase (by omega)
        · exact ((hBt.trans (hB3.mono (by omega))).setCell (by simp) _).setCell (by simp) _
end Go.Proofs.Ytdhlhabkonfhfaa
