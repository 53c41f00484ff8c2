/-
  The walk of the laws' likeGraphs9, for two graphs of the same contents.
-/
import Derived.Test.YtcoomogabicfnaaGreatDoorGraph
import Derived.Test.YtcoomogabicfnaaGreatDoorMore
namespace Go.Proofs.YtcoomogabicfnaaGreatDoor
open Go.RowKit
set_option linter.unusedVariables false
set_option linter.unusedSimpArgs false
set_option maxHeartbeats 4000000 in
set_option maxRecDepth 100000 in
theorem laws_likeGraphs9 (v u : Value) (ge : Int) (gp : List Place) (w : World) (h0 : Lst Place.cells 4 w w.heap.size v gp) (h1 : Lst Place.cells 4 w w.heap.size u gp) :
    Calls Tryz.prog 13 #[.agg #[.int .i64 ge, v], .agg #[.int .i64 ge, u]] w fun r w' => r = .returned (.bool true) ∧ Below w.heap.size w w' := by
  obtain ⟨A, c, rfl⟩ := h0.shape
  obtain ⟨C, d, rfl⟩ := h1.shape
  have hl := h0.len_le
  have hne : ((gp.length : Int) != (gp.length : Int)) = false := by simp
  have hne2 : (ge != ge) = false := by simp
  go_enter Tryz.func13, Tryz.ntmps13
  go_wp2
  have hW : Below w.heap.size w ((w.alloc (.cells #[.int .i64 ge, .slice A gp.length c] 26)).alloc (.cells #[.int .i64 ge, .slice C gp.length d] 26)) := (((Below.refl _ _).alloc (Nat.le_refl _) _).alloc (by first | (simp; done) | (simp; omega)) _); have hb0 : Blk ((w.alloc (.cells #[.int .i64 ge, .slice A gp.length c] 26)).alloc (.cells #[.int .i64 ge, .slice C gp.length d] 26)) (w.heap.size) 26 #[.int .i64 ge, .slice A gp.length c] := ((Blk.newAt w _ (by first | rfl | (simp; done) | (simp; omega))).alloc _); have hb1 : Blk ((w.alloc (.cells #[.int .i64 ge, .slice A gp.length c] 26)).alloc (.cells #[.int .i64 ge, .slice C gp.length d] 26)) (w.heap.size + 1) 26 #[.int .i64 ge, .slice C gp.length d] := (Blk.newAt (w.alloc (.cells #[.int .i64 ge, .slice A gp.length c] 26)) _ (by first | rfl | (simp; done) | (simp; omega))); replace h0 := h0.now hW; replace h1 := h1.now hW; have hsW : w.heap.size + 2 = ((w.alloc (.cells #[.int .i64 ge, .slice A gp.length c] 26)).alloc (.cells #[.int .i64 ge, .slice C gp.length d] 26)).heap.size := (by first | rfl | (simp; done) | (simp; omega)); generalize ((w.alloc (.cells #[.int .i64 ge, .slice A gp.length c] 26)).alloc (.cells #[.int .i64 ge, .slice C gp.length d] 26)) = W at *; replace hsW := Lib.hid hsW
  go_loopw [5] (fun i wr => ∃ k : Nat, k ≤ gp.length ∧ i = .int .i64 k ∧ Below W.heap.size W wr) (fun i _ => gp.length - (intOf i).toNat)
  case atStart => exact ⟨0, Nat.zero_le _, rfl, Below.refl _ _⟩
  case round =>
    obtain ⟨k, hk, rfl, hB⟩ := hrel
    obtain ⟨k0, k1⟩ := (hb0.now hB).c2
    obtain ⟨m0, m1⟩ := (hb1.now hB).c2
    have l0 := (hb0.now hB).lt
    have l1 := (hb1.now hB).lt
    by_cases hlt : k < gp.length
    · obtain ⟨b1, o1, hA, -, d0, d1, d2, d3⟩ := places_at (h0.now hB) k hlt
      cases hA
      obtain ⟨b2, o2, hA2, -, d4, d5, d6, d7⟩ := places_at (h1.now hB) k hlt
      cases hA2
      have i1 : (0 : Int) ≤ (k : Int) := by omega
      have i2 : (k : Int) < (gp.length : Int) := by omega
      generalize gp[k].src = x0 at *
      generalize gp[k].dst = x1 at *
      generalize gp[k].delay = x2 at *
      generalize gp[k].tokens = x3 at *
      have hDw : Below wr.heap.size wr wr.drew := Below.drew (Below.refl _ wr)
      replace d0 := cell_keep d0 hDw
      replace d1 := cell_keep d1 hDw
      replace d2 := cell_keep d2 hDw
      replace d3 := cell_keep d3 hDw
      replace d4 := cell_keep d4 hDw
      replace d5 := cell_keep d5 hDw
      replace d6 := cell_keep d6 hDw
      replace d7 := cell_keep d7 hDw
      have k1' := cell_keep k1 hDw
      have m1' := cell_keep m1 hDw
      have l0' : w.heap.size < wr.drew.heap.size := (hb0.now (hB.trans (hDw.mono hB.size))).lt
      go_wp2
      refine wp_region_held_drew (S := fun w' => w'.cell? ⟨w.heap.size, 1, none⟩ = some (.slice (some ⟨b1, o1, none⟩) gp.length c) ∧ w'.cell? ⟨w.heap.size + 1, 1, none⟩ = some (.slice (some ⟨b2, o2, none⟩) gp.length d) ∧ w'.cell? ⟨b1, o1 + k * 4, none⟩ = some (.int .i64 x0) ∧ w'.cell? ⟨b1, o1 + k * 4 + 1, none⟩ = some (.int .i64 x1) ∧ w'.cell? ⟨b1, o1 + k * 4 + 2, none⟩ = some (.int .i64 x2) ∧ w'.cell? ⟨b1, o1 + k * 4 + 3, none⟩ = some (.int .i64 x3) ∧ w'.cell? ⟨b2, o2 + k * 4, none⟩ = some (.int .i64 x0) ∧ w'.cell? ⟨b2, o2 + k * 4 + 1, none⟩ = some (.int .i64 x1) ∧ w'.cell? ⟨b2, o2 + k * 4 + 2, none⟩ = some (.int .i64 x2) ∧ w'.cell? ⟨b2, o2 + k * 4 + 3, none⟩ = some (.int .i64 x3)) (by kernel_rfl) ⟨k1', m1', d0, d1, d2, d3, d4, d5, d6, d7⟩ (fun hH => ?_)
      refine tkH 0 (v := ?_) rfl (fun _ _ _ h => h) (Or.inl ⟨by rfl, ?_⟩) hH ?_
      rotate_left
      · intro w9 hSw
        try dsimp only at hSw
        obtain ⟨s0, s1, s2, s3, s4, s5, s6, s7, s8, s9⟩ := hSw
        go_simp
        try with_reducible rfl
      try simp only [Act.put, List.setIfInBounds_toArray, List.set_cons_zero, List.set_cons_succ]
      refine tkH 1 (v := ?_) rfl (fun _ _ _ h => h) (Or.inl ⟨by rfl, ?_⟩) hH ?_
      rotate_left
      · intro w9 hSw
        try dsimp only at hSw
        obtain ⟨s0, s1, s2, s3, s4, s5, s6, s7, s8, s9⟩ := hSw
        go_simp
        try with_reducible rfl
      try simp only [Act.put, List.setIfInBounds_toArray, List.set_cons_zero, List.set_cons_succ]
      refine tkH 2 (v := ?_) rfl (fun _ _ _ h => h) (Or.inl ⟨by rfl, ?_⟩) hH ?_
      rotate_left
      · intro w9 hSw
        try dsimp only at hSw
        obtain ⟨s0, s1, s2, s3, s4, s5, s6, s7, s8, s9⟩ := hSw
        go_simp
        try with_reducible rfl
      try simp only [Act.put, List.setIfInBounds_toArray, List.set_cons_zero, List.set_cons_succ]
      refine tkH 3 (v := ?_) rfl (fun _ _ _ h => h) (Or.inl ⟨by rfl, ?_⟩) hH ?_
      rotate_left
      · intro w9 hSw
        try dsimp only at hSw
        obtain ⟨s0, s1, s2, s3, s4, s5, s6, s7, s8, s9⟩ := hSw
        go_simp
        try with_reducible rfl
      try simp only [Act.put, List.setIfInBounds_toArray, List.set_cons_zero, List.set_cons_succ]
      refine tkH 4 (v := ?_) rfl (fun _ _ _ h => h) (Or.inl ⟨by rfl, ?_⟩) hH ?_
      rotate_left
      · intro w9 hSw
        try dsimp only at hSw
        obtain ⟨s0, s1, s2, s3, s4, s5, s6, s7, s8, s9⟩ := hSw
        go_simp
        try with_reducible rfl
      try simp only [Act.put, List.setIfInBounds_toArray, List.set_cons_zero, List.set_cons_succ]
      refine tkH 5 (v := ?_) rfl (fun _ _ _ h => h) (Or.inl ⟨by rfl, ?_⟩) hH ?_
      rotate_left
      · intro w9 hSw
        try dsimp only at hSw
        obtain ⟨s0, s1, s2, s3, s4, s5, s6, s7, s8, s9⟩ := hSw
        go_simp
        try with_reducible rfl
      try simp only [Act.put, List.setIfInBounds_toArray, List.set_cons_zero, List.set_cons_succ]
      refine tkH 6 (v := ?_) rfl (fun _ _ _ h => h) (Or.inl ⟨by rfl, ?_⟩) hH ?_
      rotate_left
      · intro w9 hSw
        try dsimp only at hSw
        obtain ⟨s0, s1, s2, s3, s4, s5, s6, s7, s8, s9⟩ := hSw
        go_simp
        try with_reducible rfl
      try simp only [Act.put, List.setIfInBounds_toArray, List.set_cons_zero, List.set_cons_succ]
      refine tkH 7 (v := ?_) rfl (fun _ _ _ h => h) (Or.inl ⟨by rfl, ?_⟩) hH ?_
      rotate_left
      · intro w9 hSw
        try dsimp only at hSw
        obtain ⟨s0, s1, s2, s3, s4, s5, s6, s7, s8, s9⟩ := hSw
        go_simp
        try with_reducible rfl
      try simp only [Act.put, List.setIfInBounds_toArray, List.set_cons_zero, List.set_cons_succ]
      refine tkH 8 (v := ?_) rfl (fun _ _ _ h => h) (Or.inl ⟨by rfl, ?_⟩) hH ?_
      rotate_left
      · intro w9 hSw
        try dsimp only at hSw
        obtain ⟨s0, s1, s2, s3, s4, s5, s6, s7, s8, s9⟩ := hSw
        go_simp
        try with_reducible rfl
      try simp only [Act.put, List.setIfInBounds_toArray, List.set_cons_zero, List.set_cons_succ]
      refine tkH 9 (v := ?_) rfl (fun _ _ _ h => h) (Or.inl ⟨by rfl, ?_⟩) hH ?_
      rotate_left
      · intro w9 hSw
        try dsimp only at hSw
        obtain ⟨s0, s1, s2, s3, s4, s5, s6, s7, s8, s9⟩ := hSw
        go_simp
        try with_reducible rfl
      try simp only [Act.put, List.setIfInBounds_toArray, List.set_cons_zero, List.set_cons_succ]
      refine tkH 10 (v := ?_) rfl (fun _ _ _ h => h) (Or.inl ⟨by rfl, ?_⟩) hH ?_
      rotate_left
      · intro w9 hSw
        try dsimp only at hSw
        obtain ⟨s0, s1, s2, s3, s4, s5, s6, s7, s8, s9⟩ := hSw
        go_simp
        try with_reducible rfl
      try simp only [Act.put, List.setIfInBounds_toArray, List.set_cons_zero, List.set_cons_succ]
      refine wpAnyH_done (by kernel_rfl) ?_ _
      have hB' := hB.trans (hDw.mono hB.size)
      go_wp2
      go_roundw
      case rel => exact ⟨k + 1, hlt, by go_num, hB'⟩
      case measure => simp [intOf]; omega
    · obtain rfl : k = gp.length := by omega
      go_wp2
      go_ret
      exact ⟨rfl, hW.trans (hB.mono hW.size)⟩
end Go.Proofs.YtcoomogabicfnaaGreatDoor
