/-
  LeastRoom, both: the least rooms of a list of one place.
-/
import Derived.Test.YtbdklhahbeiffaaLstI
namespace Go.Proofs.Ytbdklhahbeiffaa
open Go.RowKit
set_option linter.unusedVariables false
set_option linter.unusedSimpArgs false
/-- What LeastRoom gives. -/
noncomputable def leastOF (ge : Int) (gp : List Place) (i a b : Int) : Int × Int := if (leastRF ge gp [i] a b).2 = 0 then ((leastRF ge gp [i] a b).1.getD 0 0, 0) else (0, (leastRF ge gp [i] a b).2)
theorem leastRF_ne {ge : Int} {gp : List Place} {l : List Int} {a b : Int} (h : (leastRF ge gp l a b).2 = 0) : (leastRF ge gp l a b).1 ≠ [] := by
  unfold leastRF at h ⊢
  split at h
  · cases h
  · split at h
    · cases h
    · split at h
      · cases h
      · split at h
        · cases h
        · rename_i h1 h2 h3 h4
          rw [if_neg h1, if_neg h2, if_neg h3, if_neg h4]
          exact h4
theorem leastRF_len (ge : Int) (gp : List Place) (l : List Int) (a b : Int) : (leastRF ge gp l a b).1.length ≤ 1048576 := by
  unfold leastRF
  split
  · simp
  · split
    · simp
    · split
      · simp
      · split
        · simp
        · rename_i h1 h2 h3 h4
          have hb : bufOk gp.length l = true := by simpa using h2
          have hl := (bufOk_at hb).1
          have := ((leastF_best (suf := sufO ge.toNat gp l a b) (gp := gp) (l := l) (by rintro rfl; simp at hl)).2 h4).1
          have := roomsOk_len this
          show (leastF (sufO ge.toNat gp l a b) gp l).length ≤ 1048576
          omega
set_option maxHeartbeats 2000000 in
set_option maxRecDepth 100000 in
theorem impl_LeastRoom (v : Value) (ge : Int) (gp : List Place) (i a b : Int) (w : World) (h0 : Lst Place.cells 4 w w.heap.size v gp) :
    Calls Try.prog 12 #[.agg #[.int .i64 ge, v], .int .i64 i, .agg #[.int .i64 a, .int .i64 b]] w fun e w' => e = .returned (.tuple #[.int .i64 (leastOF ge gp i a b).1, .int .i64 (leastOF ge gp i a b).2]) ∧ Below w.heap.size w w' := by
  obtain ⟨A, c, rfl⟩ := h0.shape
  go_enter Try.func12, Try.ntmps12
  go_wp2_with fail
  have hW : Below w.heap.size w ((w.alloc (.cells #[.int .i64 ge, .slice A gp.length c] 32)).alloc (.cells #[.int .i64 a, .int .i64 b] 34)) := (((Below.refl _ _).alloc (Nat.le_refl _) _).alloc (by first | (simp; done) | (simp; omega)) _); have hb0 : Blk ((w.alloc (.cells #[.int .i64 ge, .slice A gp.length c] 32)).alloc (.cells #[.int .i64 a, .int .i64 b] 34)) (w.heap.size) 32 #[.int .i64 ge, .slice A gp.length c] := ((Blk.newAt w _ (by first | rfl | (simp; done) | (simp; omega))).alloc _); have hb1 : Blk ((w.alloc (.cells #[.int .i64 ge, .slice A gp.length c] 32)).alloc (.cells #[.int .i64 a, .int .i64 b] 34)) (w.heap.size + 1) 34 #[.int .i64 a, .int .i64 b] := (Blk.newAt (w.alloc (.cells #[.int .i64 ge, .slice A gp.length c] 32)) _ (by first | rfl | (simp; done) | (simp; omega))); replace h0 := h0.now hW; have hsW : w.heap.size + 2 = ((w.alloc (.cells #[.int .i64 ge, .slice A gp.length c] 32)).alloc (.cells #[.int .i64 a, .int .i64 b] 34)).heap.size := (by first | rfl | (simp; done) | (simp; omega)); generalize ((w.alloc (.cells #[.int .i64 ge, .slice A gp.length c] 32)).alloc (.cells #[.int .i64 a, .int .i64 b] 34)) = W at *; replace hsW := Lib.hid hsW
  have hN1 : Below W.heap.size W (W.alloc (.cells #[.int .i64 i] 2)) := (Below.refl _ _).alloc (Nat.le_refl _) _
  have a1 := (lst_new1 intCell 1 intCell_len W 2 i #[.int .i64 i] rfl (w.heap.size + 1 + 1) (by have := hsW.out; omega)).more (show w.heap.size + 1 + 1 + 1 ≤ (W.alloc (.cells #[.int .i64 i] 2)).heap.size by have := hsW.out; simp; omega)
  replace hW := hW.trans (hN1.mono hW.size); replace h0 := h0.now hN1; replace hb0 := hb0.now hN1; replace hb1 := hb1.now hN1
  with_reducible refine (impl_LeastRooms _ _ _ _ [i] a b _ h0 a1).mono ?_
  rintro e w4 ⟨x, rfl, hO, hB⟩
  obtain ⟨X, cx, rfl⟩ := hO.shape
  have hBt := hW.trans (hB.mono hW.size)
  by_cases hc : (leastRF ge gp [i] a b).2 = 0
  · have hn := leastRF_ne hc
    have hE : Hid (leastOF ge gp i a b = ((leastRF ge gp [i] a b).1.getD 0 0, 0)) := if_pos hc
    rw [hc]
    generalize (leastRF ge gp [i] a b).1 = L at *
    clear hc
    obtain ⟨bg, off, hX, _, c0⟩ := ints_at hO.lst 0 (List.length_pos_iff.2 hn)
    cases hX
    have hg : Hid (L.getD 0 0 = L[0]'(List.length_pos_iff.2 hn)) := by show _ = _; simp [List.getD, List.getElem?_eq_getElem (List.length_pos_iff.2 hn)]
    obtain ⟨z, hz⟩ : ∃ z, L[0]'(List.length_pos_iff.2 hn) = z := ⟨_, rfl⟩
    rw [hz] at c0 hg
    simp only [Nat.add_zero] at c0
    have hp : (0 : Int) < (L.length : Int) := by have := List.length_pos_iff.2 hn; omega
    clear hz hn
    go_wp2
    go_ret2
    exact ⟨ret_ii (by rw [hE.out]; exact hg.out.symm) (by rw [hE.out]), hBt⟩
  · have hE : Hid (leastOF ge gp i a b = (0, (leastRF ge gp [i] a b).2)) := if_neg hc
    generalize (leastRF ge gp [i] a b).1 = L at *
    generalize (leastRF ge gp [i] a b).2 = C at *
    have q1 : (C != 0) = true := by simpa using hc
    clear hc
    go_wp2
    go_ret2
    exact ⟨ret_ii (by rw [hE.out]) (by rw [hE.out]), hBt⟩
set_option maxHeartbeats 2000000 in
set_option maxRecDepth 100000 in
theorem spec_LeastRoom (v : Value) (ge : Int) (gp : List Place) (i a b : Int) (w : World) (h0 : Lst Place.cells 4 w w.heap.size v gp) :
    Calls Try.prog 9 #[.agg #[.int .i64 ge, v], .int .i64 i, .agg #[.int .i64 a, .int .i64 b]] w fun e w' => e = .returned (.tuple #[.int .i64 (leastOF ge gp i a b).1, .int .i64 (leastOF ge gp i a b).2]) ∧ Below w.heap.size w w' := by
  obtain ⟨A, c, rfl⟩ := h0.shape
  go_enter Try.func9, Try.ntmps9
  go_wp2_with fail
  have hW : Below w.heap.size w ((w.alloc (.cells #[.int .i64 ge, .slice A gp.length c] 32)).alloc (.cells #[.int .i64 a, .int .i64 b] 34)) := (((Below.refl _ _).alloc (Nat.le_refl _) _).alloc (by first | (simp; done) | (simp; omega)) _); have hb0 : Blk ((w.alloc (.cells #[.int .i64 ge, .slice A gp.length c] 32)).alloc (.cells #[.int .i64 a, .int .i64 b] 34)) (w.heap.size) 32 #[.int .i64 ge, .slice A gp.length c] := ((Blk.newAt w _ (by first | rfl | (simp; done) | (simp; omega))).alloc _); have hb1 : Blk ((w.alloc (.cells #[.int .i64 ge, .slice A gp.length c] 32)).alloc (.cells #[.int .i64 a, .int .i64 b] 34)) (w.heap.size + 1) 34 #[.int .i64 a, .int .i64 b] := (Blk.newAt (w.alloc (.cells #[.int .i64 ge, .slice A gp.length c] 32)) _ (by first | rfl | (simp; done) | (simp; omega))); replace h0 := h0.now hW; have hsW : w.heap.size + 2 = ((w.alloc (.cells #[.int .i64 ge, .slice A gp.length c] 32)).alloc (.cells #[.int .i64 a, .int .i64 b] 34)).heap.size := (by first | rfl | (simp; done) | (simp; omega)); generalize ((w.alloc (.cells #[.int .i64 ge, .slice A gp.length c] 32)).alloc (.cells #[.int .i64 a, .int .i64 b] 34)) = W at *; replace hsW := Lib.hid hsW
  have hN1 : Below W.heap.size W (W.alloc (.cells #[.int .i64 i] 2)) := (Below.refl _ _).alloc (Nat.le_refl _) _
  have a1 := (lst_new1 intCell 1 intCell_len W 2 i #[.int .i64 i] rfl (w.heap.size + 1 + 1) (by have := hsW.out; omega)).more (show w.heap.size + 1 + 1 + 1 ≤ (W.alloc (.cells #[.int .i64 i] 2)).heap.size by have := hsW.out; simp; omega)
  replace hW := hW.trans (hN1.mono hW.size); replace h0 := h0.now hN1; replace hb0 := hb0.now hN1; replace hb1 := hb1.now hN1
  with_reducible refine (spec_LeastRooms _ _ _ _ [i] a b _ h0 a1).mono ?_
  rintro e w4 ⟨x, rfl, hO, hB⟩
  obtain ⟨X, cx, rfl⟩ := hO.shape
  have hBt := hW.trans (hB.mono hW.size)
  by_cases hc : (leastRF ge gp [i] a b).2 = 0
  · have hn := leastRF_ne hc
    have hE : Hid (leastOF ge gp i a b = ((leastRF ge gp [i] a b).1.getD 0 0, 0)) := if_pos hc
    rw [hc]
    generalize (leastRF ge gp [i] a b).1 = L at *
    clear hc
    obtain ⟨bg, off, hX, _, c0⟩ := ints_at hO.lst 0 (List.length_pos_iff.2 hn)
    cases hX
    have hg : Hid (L.getD 0 0 = L[0]'(List.length_pos_iff.2 hn)) := by show _ = _; simp [List.getD, List.getElem?_eq_getElem (List.length_pos_iff.2 hn)]
    obtain ⟨z, hz⟩ : ∃ z, L[0]'(List.length_pos_iff.2 hn) = z := ⟨_, rfl⟩
    rw [hz] at c0 hg
    simp only [Nat.add_zero] at c0
    have hp : (0 : Int) < (L.length : Int) := by have := List.length_pos_iff.2 hn; omega
    clear hz hn
    go_wp2
    go_ret2
    exact ⟨ret_ii (by rw [hE.out]; exact hg.out.symm) (by rw [hE.out]), hBt⟩
  · have hE : Hid (leastOF ge gp i a b = (0, (leastRF ge gp [i] a b).2)) := if_neg hc
    generalize (leastRF ge gp [i] a b).1 = L at *
    generalize (leastRF ge gp [i] a b).2 = C at *
    have q1 : (C != 0) = true := by simpa using hc
    clear hc
    go_wp2
    go_ret2
    exact ⟨ret_ii (by rw [hE.out]) (by rw [hE.out]), hBt⟩
end Go.Proofs.Ytbdklhahbeiffaa
