/-
  The draws of a graph, alone or with a number of tokens.
-/
import Derived.Test.YtcoomogabicfnaaDrC
namespace Go.Proofs.Ytcoomogabicfnaa
open Go.RowKit
set_option linter.unusedVariables false
set_option linter.unusedSimpArgs false
theorem own_far2J {α : Type} {f : α → List Value} {sz : Nat} {e t : TypeId} {w : World} {base r : Nat} {v : Value} {l : List α} {cs : Array Value} (h : Own f sz e w base v l) (hb : Blk w r t cs) (hne : e ≠ t) (x y : Value) :
    Own f sz e ((w.setCell ⟨r, 0, none⟩ x).setCell ⟨r, 1, none⟩ y) base v l := own_far (own_far h (h.ne_blk hb hne) x) (h.ne_blk hb hne) y
set_option maxHeartbeats 4000000 in
set_option maxRecDepth 100000 in
theorem spec_DrawStateMatrix (cv : Value) (bs : List Int) (w : World) (h0 : Lst byteCell 1 w w.heap.size cv bs) (hbv : Hid (∀ b ∈ bs, 0 ≤ b ∧ b ≤ 255)) :
    Calls Try.prog 5 #[cv] w fun e w' => ∃ ge gp v, e = .returned (.agg #[.int .i64 ge, v]) ∧ gp.length ≤ 40 ∧ Own Place.cells 4 46 w' w.heap.size v gp ∧ Below w.heap.size w w' := by
  go_enter Try.func5, Try.ntmps5
  go_wp2_with fail
  have hA : Below w.heap.size w (w.alloc (.cells #[.int .i64 0, .slice none 0 0] 26)) := (Below.refl _ _).alloc (Nat.le_refl _) _
  have hres := Blk.newAt w (t := 26) (cs := #[.int .i64 0, .slice none 0 0]) _ rfl
  have hszA : (w.alloc (.cells #[.int .i64 0, .slice none 0 0] 26)).heap.size = w.heap.size + 1 := by simp
  refine (spec_l01From _ bs _ (h0.now hA) hbv).mono ?_
  rintro e w1 ⟨rfl, hS, hB1⟩
  rw [hszA] at hS hB1 ⊢
  have hB : Below w.heap.size w w1 := hA.trans (hB1.mono (by omega))
  replace hres := hres.below hB1 (by omega)
  obtain ⟨b2, hb2⟩ : ∃ b2, w.heap.size = b2 := ⟨_, rfl⟩
  obtain ⟨g, hg⟩ : ∃ g, w.heap.size + 1 = g := ⟨_, rfl⟩
  have hgb : w.heap.size ≤ g := by omega
  rw [hg] at hS ⊢
  rw [hb2] at hres
  rw [show (Value.pointer (some ⟨w.heap.size, 0, none⟩)) = .pointer (some ⟨b2, 0, none⟩) by rw [hb2]]
  have hb2w : w.heap.size ≤ b2 := by omega
  have hs1 := hB.size
  clear hA hszA hB1 hb2 hg
  go_wp2_with fail
  refine (spec_l11Draw g _ hS).mono ?_
  rintro e w2 ⟨ge, gp, v, rfl, -, -, hlen, hO, hN⟩
  obtain ⟨A, c, rfl⟩ := hO.shape
  replace hO := hO.rebase hs1
  replace hres := blk_draw hres (by decide) hS hN
  replace hB := below_draw hB hs1 hgb hN
  clear hN hs1 hS
  obtain ⟨r0, r1⟩ := hres.f2
  obtain ⟨s0, s1⟩ := hres.c2
  have lr := hres.lt
  have rr := ((hres.set2a (u := .int .i64 ge)).set2b (u := .slice A gp.length c)).c2
  have hOf := own_far2J hO hres (by decide) (.int .i64 ge) (.slice A gp.length c)
  have hBf := (hB.setCell (p := ⟨b2, 0, none⟩) hb2w (.int .i64 ge)).setCell (p := ⟨b2, 1, none⟩) hb2w (.slice A gp.length c)
  go_wp2
  refine bodyPost_ret (v := .agg #[.int .i64 ge, .slice A gp.length c]) (by simp [results, Try.results5, go_sem, rr.1, rr.2]) rfl ?_
  exact ⟨ge, gp, _, rfl, hlen, hOf, hBf⟩
set_option maxHeartbeats 4000000 in
set_option maxRecDepth 100000 in
theorem spec_DrawClosedMatrix (cv : Value) (bs : List Int) (w : World) (h0 : Lst byteCell 1 w w.heap.size cv bs) (hbv : Hid (∀ b ∈ bs, 0 ≤ b ∧ b ≤ 255)) :
    Calls Try.prog 8 #[cv] w fun e w' => ∃ ge gp v n, e = .returned (.tuple #[.agg #[.int .i64 ge, v], .int .i64 n]) ∧ gp.length ≤ 40 ∧ Own Place.cells 4 46 w' w.heap.size v gp ∧ Below w.heap.size w w' := by
  go_enter Try.func8, Try.ntmps8
  go_wp2_with fail
  have hA : Below w.heap.size w (w.alloc (.cells #[.int .i64 0, .slice none 0 0] 26)) := (Below.refl _ _).alloc (Nat.le_refl _) _
  have hres := Blk.newAt w (t := 26) (cs := #[.int .i64 0, .slice none 0 0]) _ rfl
  have hszA : (w.alloc (.cells #[.int .i64 0, .slice none 0 0] 26)).heap.size = w.heap.size + 1 := by simp
  refine (spec_l01From _ bs _ (h0.now hA) hbv).mono ?_
  rintro e w1 ⟨rfl, hS, hB1⟩
  rw [hszA] at hS hB1 ⊢
  have hB : Below w.heap.size w w1 := hA.trans (hB1.mono (by omega))
  replace hres := hres.below hB1 (by omega)
  obtain ⟨b2, hb2⟩ : ∃ b2, w.heap.size = b2 := ⟨_, rfl⟩
  obtain ⟨g, hg⟩ : ∃ g, w.heap.size + 1 = g := ⟨_, rfl⟩
  have hgb : w.heap.size ≤ g := by omega
  rw [hg] at hS ⊢
  rw [hb2] at hres
  rw [show (Value.pointer (some ⟨w.heap.size, 0, none⟩)) = .pointer (some ⟨b2, 0, none⟩) by rw [hb2]]
  have hb2w : w.heap.size ≤ b2 := by omega
  have hs1 := hB.size
  clear hA hszA hB1 hb2 hg
  
  go_wp2_with fail
  refine (spec_l12Draw g _ hS).mono ?_
  rintro e w2 ⟨ge, gp, v, rfl, -, -, hlen, hO, hN⟩
  obtain ⟨A, c, rfl⟩ := hO.shape
  replace hO := hO.rebase hs1
  replace hres := blk_draw hres (by decide) hS hN
  replace hB := below_draw hB hs1 hgb hN
  replace hS := hN.1
  have hs2 := hB.size
  clear hN hs1
  go_wp2_with fail
  refine (spec_l01Next g 7 _ hS (by omega)).mono ?_
  rintro e w3 ⟨x, rfl, hx, hN⟩
  have hx2 := hx.2.1 (by omega)
  have hx1 := hx.1
  replace hO := own_draw hO (by decide) hS hN
  replace hres := blk_draw hres (by decide) hS hN
  replace hB := below_draw hB hs2 hgb hN
  clear hN hs2 hS hx
  skip
  obtain ⟨r0, r1⟩ := hres.f2
  obtain ⟨s0, s1⟩ := hres.c2
  have lr := hres.lt
  have rr := ((hres.set2a (u := .int .i64 ge)).set2b (u := .slice A gp.length c)).c2
  have hOf := own_far2J hO hres (by decide) (.int .i64 ge) (.slice A gp.length c)
  have hBf := (hB.setCell (p := ⟨b2, 0, none⟩) hb2w (.int .i64 ge)).setCell (p := ⟨b2, 1, none⟩) hb2w (.slice A gp.length c)
  go_wp2
  refine bodyPost_ret (v := .tuple #[.agg #[.int .i64 ge, .slice A gp.length c], .int .i64 x]) (by simp [results, Try.results8, go_sem, rr.1, rr.2]) rfl ?_
  exact ⟨ge, gp, _, x, rfl, hlen, hOf, hBf⟩
set_option maxHeartbeats 4000000 in
set_option maxRecDepth 100000 in
theorem spec_DrawDelayMatrix (cv : Value) (bs : List Int) (w : World) (h0 : Lst byteCell 1 w w.heap.size cv bs) (hbv : Hid (∀ b ∈ bs, 0 ≤ b ∧ b ≤ 255)) :
    Calls Try.prog 11 #[cv] w fun e w' => ∃ ge gp v n, e = .returned (.tuple #[.agg #[.int .i64 ge, v], .int .i64 n]) ∧ gp.length ≤ 40 ∧ Own Place.cells 4 46 w' w.heap.size v gp ∧ Below w.heap.size w w' := by
  go_enter Try.func11, Try.ntmps11
  go_wp2_with fail
  have hA : Below w.heap.size w (w.alloc (.cells #[.int .i64 0, .slice none 0 0] 26)) := (Below.refl _ _).alloc (Nat.le_refl _) _
  have hres := Blk.newAt w (t := 26) (cs := #[.int .i64 0, .slice none 0 0]) _ rfl
  have hszA : (w.alloc (.cells #[.int .i64 0, .slice none 0 0] 26)).heap.size = w.heap.size + 1 := by simp
  refine (spec_l01From _ bs _ (h0.now hA) hbv).mono ?_
  rintro e w1 ⟨rfl, hS, hB1⟩
  rw [hszA] at hS hB1 ⊢
  have hB : Below w.heap.size w w1 := hA.trans (hB1.mono (by omega))
  replace hres := hres.below hB1 (by omega)
  obtain ⟨b2, hb2⟩ : ∃ b2, w.heap.size = b2 := ⟨_, rfl⟩
  obtain ⟨g, hg⟩ : ∃ g, w.heap.size + 1 = g := ⟨_, rfl⟩
  have hgb : w.heap.size ≤ g := by omega
  rw [hg] at hS ⊢
  rw [hb2] at hres
  rw [show (Value.pointer (some ⟨w.heap.size, 0, none⟩)) = .pointer (some ⟨b2, 0, none⟩) by rw [hb2]]
  have hb2w : w.heap.size ≤ b2 := by omega
  have hs1 := hB.size
  clear hA hszA hB1 hb2 hg
  
  go_wp2_with fail
  refine (spec_l11Draw g _ hS).mono ?_
  rintro e w2 ⟨ge, gp, v, rfl, -, -, hlen, hO, hN⟩
  obtain ⟨A, c, rfl⟩ := hO.shape
  replace hO := hO.rebase hs1
  replace hres := blk_draw hres (by decide) hS hN
  replace hB := below_draw hB hs1 hgb hN
  replace hS := hN.1
  have hs2 := hB.size
  clear hN hs1
  go_wp2_with fail
  refine (spec_l01Next g 8 _ hS (by omega)).mono ?_
  rintro e w3 ⟨x, rfl, hx, hN⟩
  have hx2 := hx.2.1 (by omega)
  have hx1 := hx.1
  replace hO := own_draw hO (by decide) hS hN
  replace hres := blk_draw hres (by decide) hS hN
  replace hB := below_draw hB hs2 hgb hN
  clear hN hs2 hS hx
  have wx : IntKind.i64.wrap (x - 1) = x - 1 := IntWalk.i64_in _ (by omega)
  obtain ⟨r0, r1⟩ := hres.f2
  obtain ⟨s0, s1⟩ := hres.c2
  have lr := hres.lt
  have rr := ((hres.set2a (u := .int .i64 ge)).set2b (u := .slice A gp.length c)).c2
  have hOf := own_far2J hO hres (by decide) (.int .i64 ge) (.slice A gp.length c)
  have hBf := (hB.setCell (p := ⟨b2, 0, none⟩) hb2w (.int .i64 ge)).setCell (p := ⟨b2, 1, none⟩) hb2w (.slice A gp.length c)
  go_wp2
  refine bodyPost_ret (v := .tuple #[.agg #[.int .i64 ge, .slice A gp.length c], .int .i64 (x - 1)]) (by simp [results, Try.results11, go_sem, rr.1, rr.2]) rfl ?_
  exact ⟨ge, gp, _, (x - 1), rfl, hlen, hOf, hBf⟩
end Go.Proofs.Ytcoomogabicfnaa
