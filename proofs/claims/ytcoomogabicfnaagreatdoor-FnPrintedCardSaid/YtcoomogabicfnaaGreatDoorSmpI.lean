/-
  The program's SimplifyGraph.
-/
import Derived.Test.YtcoomogabicfnaaGreatDoorSort
import Derived.Test.YtcoomogabicfnaaGreatDoorReverse
import Derived.Test.YtcoomogabicfnaaGreatDoorMore
namespace Go.Proofs.YtcoomogabicfnaaGreatDoor
open Go.RowKit
set_option linter.unusedVariables false
set_option linter.unusedSimpArgs false
theorem sortP_len (l : List Place) : (sortP l).length = l.length := List.length_mergeSort l
set_option maxHeartbeats 4000000 in
set_option maxRecDepth 100000 in
theorem impl_simplified (v : Value) (ge : Int) (gp : List Place) (w : World) (h0 : Lst Place.cells 4 w w.heap.size v gp) (h1 : gp.length ≤ 1048576) :
    Calls Tryz.prog 38 #[.agg #[.int .i64 ge, v]] w (RetG 57 w ge (simpF gp)) := by
  obtain ⟨A, c, rfl⟩ := h0.shape
  go_enter Tryz.func38, Tryz.ntmps38
  go_wp2_with fail
  have hW : Below w.heap.size w ((w.alloc (.cells #[.int .i64 ge, .slice A gp.length c] 26)).alloc (.cells #[.int .i64 0, .slice none 0 0] 26)) := (((Below.refl _ _).alloc (Nat.le_refl _) _).alloc (by first | (simp; done) | (simp; omega)) _); have hb0 : Blk ((w.alloc (.cells #[.int .i64 ge, .slice A gp.length c] 26)).alloc (.cells #[.int .i64 0, .slice none 0 0] 26)) (w.heap.size) 26 #[.int .i64 ge, .slice A gp.length c] := ((Blk.newAt w _ (by first | rfl | (simp; done) | (simp; omega))).alloc _); have hb1 : Blk ((w.alloc (.cells #[.int .i64 ge, .slice A gp.length c] 26)).alloc (.cells #[.int .i64 0, .slice none 0 0] 26)) (w.heap.size + 1) 26 #[.int .i64 0, .slice none 0 0] := (Blk.newAt (w.alloc (.cells #[.int .i64 ge, .slice A gp.length c] 26)) _ (by first | rfl | (simp; done) | (simp; omega))); replace h0 := h0.now hW; have hsW : w.heap.size + 2 = ((w.alloc (.cells #[.int .i64 ge, .slice A gp.length c] 26)).alloc (.cells #[.int .i64 0, .slice none 0 0] 26)).heap.size := (by first | rfl | (simp; done) | (simp; omega)); generalize ((w.alloc (.cells #[.int .i64 ge, .slice A gp.length c] 26)).alloc (.cells #[.int .i64 0, .slice none 0 0] 26)) = W at *; replace hsW := Lib.hid hsW
  refine (impl_cloneGraph _ _ _ _ h0 h1).mono ?_
  rintro e w1 ⟨x, rfl, hO, hB⟩
  obtain ⟨X, cx, rfl⟩ := hO.shape
  have hOb : W.heap.size ≤ w1.heap.size := hB.size
  replace hW := hW.trans (hB.mono hW.size); replace hb0 := hb0.now hB; replace hb1 := hb1.now hB
  have hxo : Blk (w1.alloc (.cells #[.int .i64 ge, .slice X gp.length cx] 26)) w1.heap.size 26 #[.int .i64 ge, .slice X gp.length cx] := Blk.newAt w1 _ rfl
  have hO2 := hO.alloc (.cells #[.int .i64 ge, .slice X gp.length cx] 26)
  have hb2 := hb1.alloc (.cells #[.int .i64 ge, .slice X gp.length cx] 26)
  have hW2 := hW.alloc hW.size (.cells #[.int .i64 ge, .slice X gp.length cx] 26)
  obtain ⟨k0, k1⟩ := hxo.c2
  obtain ⟨k2, k3⟩ := hxo.f2
  clear h0
  go_wp2_with fail
  have hl1 : W.heap.size ≤ (w1.alloc (.cells #[.int .i64 ge, .slice X gp.length cx] 26)).heap.size := by simp; omega
  clear k0 k1 k2 k3 hO hb1 hW hB hb0
  generalize (w1.alloc (.cells #[.int .i64 ge, .slice X gp.length cx] 26)) = w2 at *
  generalize w1.heap.size = bo at *
  refine (slices_SortFunc_places _ _ _ _ hO2 h1).mono ?_
  rintro e w3 ⟨rfl, hO3, hG3⟩
  replace hxo := hxo.grown hG3 (Ne.symm (hO2.ne_blk hxo (by decide)))
  replace hb2 := hb2.grown hG3 (Ne.symm (hO2.ne_blk hb2 (by decide)))
  replace hW2 := hW2.grown hG3 hW2.size (fun k hk => by have := (hO2.lt k hk).1; have := hsW.out; omega)
  have hl3 : W.heap.size ≤ w3.heap.size := by obtain ⟨-, -, -, h4, -⟩ := hG3; omega
  clear hG3 hO2
  obtain ⟨k0, k1⟩ := hxo.c2
  obtain ⟨k2, k3⟩ := hxo.f2
  go_wp2_with fail
  clear k0 k1 k2 k3
  refine (slices_CompactFunc_places _ _ _ _ hO3 (by rw [sortP_len]; exact h1) hl3).mono ?_
  rintro e w4 ⟨v', rfl, hO4, hG4⟩
  rw [cmpaF_sortP] at hO4
  replace hxo := hxo.grown hG4 (Ne.symm (hO3.ne_blk hxo (by decide)))
  replace hb2 := hb2.grown hG4 (Ne.symm (hO3.ne_blk hb2 (by decide)))
  replace hW2 := hW2.grown hG4 hW2.size (fun k hk => by have := (hO3.lt k hk).1; have := hsW.out; omega)
  clear hG4 hO3
  obtain ⟨Y, cy, rfl⟩ := hO4.shape
  obtain ⟨k0, k1⟩ := hxo.c2
  obtain ⟨k2, k3⟩ := hxo.f2
  obtain ⟨r0, r1⟩ := hb2.c2
  obtain ⟨z0, z1⟩ := hb2.f2
  have hne1 : bo ≠ w.heap.size + 1 := by have := hsW.out; omega
  have hne2 : w.heap.size + 1 ≠ bo := hne1.symm
  have hnb := hO4.ne_blk hxo (by decide)
  have hw1 : w.heap.size + 1 < W.heap.size := by have := hsW.out; omega
  have lb := hxo.lt
  have hnbH := Lib.hid hnb
  clear hnb
  go_wp2
  refine bodyPost_ret (v := .agg #[.int .i64 ge, .slice Y (simpF gp).length cy]) (by simp [results, Tryz.results38, go_sem, r0, r1, k0, k1, hne1, hne2]) rfl ⟨_, rfl, ?_, ?_⟩
  · have hO5 : Own Place.cells 4 57 (w4.setCell ⟨bo, 1, none⟩ (.slice Y (simpF gp).length cy)) W.heap.size (.slice Y (simpF gp).length cy) (simpF gp) := own_far hO4 (p := ⟨bo, 1, none⟩) hnbH.out _
    exact ((hO5.far (p := ⟨w.heap.size + 1, 0, none⟩) hw1 _).far (p := ⟨w.heap.size + 1, 1, none⟩) hw1 _).rebase (by omega)
  · exact ((hW2.setCell (p := ⟨bo, 1, none⟩) (by show w.heap.size ≤ bo; omega) _).setCell (p := ⟨w.heap.size + 1, 0, none⟩) (by simp) _).setCell (p := ⟨w.heap.size + 1, 1, none⟩) (by simp) _
/-- What SimplifyGraph answers. -/
def simplF (ge : Int) (gp : List Place) : Int × List Place × Int := if okGraph ge gp = true then (ge, simpF gp, 0) else (0, [], 1)
set_option maxHeartbeats 4000000 in
set_option maxRecDepth 100000 in
theorem impl_SimplifyGraph (v : Value) (ge : Int) (gp : List Place) (w : World) (h0 : Lst Place.cells 4 w w.heap.size v gp) :
    Calls Tryz.prog 12 #[.agg #[.int .i64 ge, v]] w (RetGI 57 w (simplF ge gp).1 (simplF ge gp).2.1 (simplF ge gp).2.2) := by
  obtain ⟨A, c, rfl⟩ := h0.shape
  go_enter Tryz.func12, Tryz.ntmps12
  go_wp2_with fail
  have hW : Below w.heap.size w ((w.alloc (.cells #[.int .i64 ge, .slice A gp.length c] 26)).alloc (.cells #[.int .i64 0, .slice none 0 0] 26)) := (((Below.refl _ _).alloc (Nat.le_refl _) _).alloc (by first | (simp; done) | (simp; omega)) _); have hb0 : Blk ((w.alloc (.cells #[.int .i64 ge, .slice A gp.length c] 26)).alloc (.cells #[.int .i64 0, .slice none 0 0] 26)) (w.heap.size) 26 #[.int .i64 ge, .slice A gp.length c] := ((Blk.newAt w _ (by first | rfl | (simp; done) | (simp; omega))).alloc _); have hb1 : Blk ((w.alloc (.cells #[.int .i64 ge, .slice A gp.length c] 26)).alloc (.cells #[.int .i64 0, .slice none 0 0] 26)) (w.heap.size + 1) 26 #[.int .i64 0, .slice none 0 0] := (Blk.newAt (w.alloc (.cells #[.int .i64 ge, .slice A gp.length c] 26)) _ (by first | rfl | (simp; done) | (simp; omega))); replace h0 := h0.now hW; have hsW : w.heap.size + 2 = ((w.alloc (.cells #[.int .i64 ge, .slice A gp.length c] 26)).alloc (.cells #[.int .i64 0, .slice none 0 0] 26)).heap.size := (by first | rfl | (simp; done) | (simp; omega)); generalize ((w.alloc (.cells #[.int .i64 ge, .slice A gp.length c] 26)).alloc (.cells #[.int .i64 0, .slice none 0 0] 26)) = W at *; replace hsW := Lib.hid hsW
  refine (impl_IsEventGraph _ _ _ _ h0).mono ?_
  rintro e w1 ⟨rfl, hB⟩
  replace hW := hW.trans (hB.mono hW.size); replace h0 := h0.now hB; replace hb0 := hb0.now hB; replace hb1 := hb1.now hB
  clear hB
  obtain ⟨k0, k1⟩ := hb0.c2
  obtain ⟨r0, r1⟩ := hb1.c2
  obtain ⟨z0, z1⟩ := hb1.f2
  cases hg : okGraph ge gp
  · have hE : Hid (simplF ge gp = (0, [], 1)) := by show _ = _; simp [simplF, hg]
    clear hg
    go_wp2
    refine bodyPost_ret (v := .tuple #[.agg #[.int .i64 0, .slice none 0 0], .int .i64 1]) (by simp [results, Tryz.results12, go_sem, r0, r1]) rfl (RetGI.of hE.out ⟨_, rfl, Own.nil, ?_⟩)
    first | exact hW | exact ((hW.setCell (by simp) _).setCell (by simp) _)
  · have hE : Hid (simplF ge gp = (ge, simpF gp, 0)) := by show _ = _; simp [simplF, hg]
    have hl := okGraph_len hg
    clear hg
    go_wp2_with fail
    refine (impl_simplified _ ge gp _ h0 (by omega)).mono ?_
    rintro e w2 ⟨x, rfl, hO, hB⟩
    obtain ⟨X, cx, rfl⟩ := hO.shape
    have hw1 : w.heap.size + 1 < w1.heap.size := hb1.lt
    replace hW := hW.trans (hB.mono hW.size); replace hb1 := hb1.now hB
    clear k0 k1 r0 r1 z0 z1
    obtain ⟨r0, r1⟩ := hb1.c2
    obtain ⟨z0, z1⟩ := hb1.f2
    go_wp2
    refine bodyPost_ret (v := .tuple #[.agg #[.int .i64 ge, .slice X (simpF gp).length cx], .int .i64 0]) (by simp [results, Tryz.results12, go_sem, r0, r1]) rfl (RetGI.of hE.out ⟨_, rfl, ?_, ?_⟩)
    · exact ((hO.far (p := ⟨w.heap.size + 1, 0, none⟩) hw1 _).far (p := ⟨w.heap.size + 1, 1, none⟩) hw1 _).rebase (by omega)
    · exact (hW.setCell (by simp) _).setCell (by simp) _
end Go.Proofs.YtcoomogabicfnaaGreatDoor
