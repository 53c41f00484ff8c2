/-
  The walks of the draws of a graph and a run; the laws' search for a number.
-/
import Derived.Test.YtlppfcamlggcnaaDoorDrE
import Derived.Test.YtlppfcamlggcnaaDoorInts
import Derived.Test.YtlppfcamlggcnaaDoorHas
namespace Go.Proofs.YtlppfcamlggcnaaDoor
open Go.RowKit
set_option linter.unusedVariables false
set_option linter.unusedSimpArgs false


set_option maxHeartbeats 4000000 in
set_option maxRecDepth 100000 in
theorem spec_DrawIsRun (cv : Value) (bs : List Int) (w : World) (h0 : Lst byteCell 1 w w.heap.size cv bs) (hbv : Hid (∀ b ∈ bs, 0 ≤ b ∧ b ≤ 255)) :
    Calls Tryd.prog 26 #[cv] w fun e w' => ∃ ge gp v u l, e = .returned (.tuple #[.agg #[.int .i64 ge, v], u]) ∧ 0 ≤ ge ∧ ge ≤ 11 ∧ gp.length ≤ 40 ∧ l.length ≤ 501 ∧ Own Place.cells 4 80 w' w.heap.size v gp ∧ Own Firing.cells 3 87 w' w.heap.size u l ∧ Below w.heap.size w w' := by
  go_enter Tryd.func26, Tryd.ntmps26
  go_wp2_with fail
  have hA : Below w.heap.size w (w.alloc (.cells #[.int .i64 0, .slice none 0 0] 27)) := (Below.refl _ _).alloc (Nat.le_refl _) _
  have hres := Blk.newAt w (t := 27) (cs := #[.int .i64 0, .slice none 0 0]) _ rfl
  have hszA : (w.alloc (.cells #[.int .i64 0, .slice none 0 0] 27)).heap.size = w.heap.size + 1 := by simp
  refine (spec_l01From _ bs _ (h0.now hA) hbv).mono ?_
  rintro e w1 ⟨rfl, hS, hB1⟩
  rw [hszA] at hS hB1 ⊢
  have hB : Below w.heap.size w w1 := hA.trans (hB1.mono (by omega))
  replace hres := hres.below hB1 (by omega)
  obtain ⟨b2, hb2⟩ : ∃ b2, w.heap.size = b2 := ⟨_, rfl⟩
  obtain ⟨g, hg⟩ : ∃ g, w.heap.size + 1 = g := ⟨_, rfl⟩
  have hgb : w.heap.size ≤ g := by omega
  rw [hg] at hS ⊢
  rw [hb2] at hres
  rw [show (Value.pointer (some ⟨w.heap.size, 0, none⟩)) = .pointer (some ⟨b2, 0, none⟩) by rw [hb2]]
  have hb2w : w.heap.size ≤ b2 := by omega
  have hs1 := hB.size
  clear hA hszA hB1 hb2 hg
  go_wp2_with fail
  refine (spec_l14Draw g _ hS).mono ?_
  rintro e w2 ⟨ge, gp, v, u, l, rfl, hg0, hg1, hlen, hll, hO, hU, hN⟩
  obtain ⟨A, c, rfl⟩ := hO.shape
  obtain ⟨UA, uc, rfl⟩ := hU.shape
  replace hO := hO.rebase hs1
  replace hU := hU.rebase hs1
  replace hres := blk_draw hres (by decide) hS hN
  replace hB := below_draw hB hs1 hgb hN
  clear hN hS hs1
  have f0 := hres.frozen 0
  have f1 := hres.frozen 1
  have lb2 := hres.lt
  obtain ⟨r0, r1⟩ := hres.c2
  have hq1 := Lib.hid (own_far (own_far hO (p := ⟨b2, 0, none⟩) (hO.ne_blk hres (by decide)) (.int .i64 ge)) (p := ⟨b2, 1, none⟩) (hO.ne_blk hres (by decide)) (.slice A gp.length c))
  have hq2 := Lib.hid (own_far (own_far hU (p := ⟨b2, 0, none⟩) (hU.ne_blk hres (by decide)) (.int .i64 ge)) (p := ⟨b2, 1, none⟩) (hU.ne_blk hres (by decide)) (.slice A gp.length c))
  have hq3 := Lib.hid ((hB.setCell (p := ⟨b2, 0, none⟩) hb2w (.int .i64 ge)).setCell (p := ⟨b2, 1, none⟩) hb2w (.slice A gp.length c))
  clear hO hU hres hB
  go_wp2
  refine bodyPost_ret (v := .tuple #[.agg #[.int .i64 ge, .slice A gp.length c], _]) (by simp [results, Tryd.results26, go_sem, r0, r1]) rfl ⟨ge, gp, _, _, l, rfl, by omega, by omega, by omega, by omega, hq1.out, hq2.out, hq3.out⟩
end Go.Proofs.YtlppfcamlggcnaaDoor
