/-
  The walks of the draws of a graph to simulate, and of a run and an event.
-/
import Derived.Test.YtpkkkigiiaegfaaDrE
import Derived.Test.YtpkkkigiiaegfaaDrG
namespace Go.Proofs.Ytpkkkigiiaegfaa
open Go.RowKit
set_option linter.unusedVariables false
set_option linter.unusedSimpArgs false
set_option maxHeartbeats 8000000 in
set_option maxRecDepth 100000 in
theorem spec_DrawSimulateGraph (cv : Value) (bs : List Int) (w : World) (h0 : Lst byteCell 1 w w.heap.size cv bs) (hbv : Hid (∀ b ∈ bs, 0 ≤ b ∧ b ≤ 255)) :
    Calls Try.prog 73 #[cv] w fun e w' => ∃ ge gp v n, e = .returned (.tuple #[.agg #[.int .i64 ge, v], .int .i64 n]) ∧ 0 ≤ ge ∧ ge ≤ 11 ∧ gp.length ≤ 40 ∧ -1 ≤ n ∧ n ≤ 51 ∧ Own Place.cells 4 65 w' w.heap.size v gp ∧ Below w.heap.size w w' := by
  go_enter Try.func73, Try.ntmps73
  go_wp2_with fail
  have hA : Below w.heap.size w (w.alloc (.cells #[.int .i64 0, .slice none 0 0] 32)) := (Below.refl _ _).alloc (Nat.le_refl _) _
  have hres := Blk.newAt w (t := 32) (cs := #[.int .i64 0, .slice none 0 0]) _ rfl
  have hszA : (w.alloc (.cells #[.int .i64 0, .slice none 0 0] 32)).heap.size = w.heap.size + 1 := by simp
  refine (spec_l01From _ bs _ (h0.now hA) hbv).mono ?_
  rintro e w1 ⟨rfl, hS, hB1⟩
  rw [hszA] at hS hB1 ⊢
  have hB : Below w.heap.size w w1 := hA.trans (hB1.mono (by omega))
  replace hres := hres.below hB1 (by omega)
  obtain ⟨b2, hb2⟩ : ∃ b2, w.heap.size = b2 := ⟨_, rfl⟩
  obtain ⟨g, hg⟩ : ∃ g, w.heap.size + 1 = g := ⟨_, rfl⟩
  have hgb : w.heap.size ≤ g := by omega
  rw [hg] at hS ⊢
  rw [hb2] at hres
  rw [show (Value.pointer (some ⟨w.heap.size, 0, none⟩)) = .pointer (some ⟨b2, 0, none⟩) by rw [hb2]]
  have hb2w : w.heap.size ≤ b2 := by omega
  have hs1 := hB.size
  clear hA hszA hB1 hb2 hg
  go_wp2_with fail
  refine (spec_l13Draw g _ hS).mono ?_
  rintro e w2 ⟨ge, gp, v, n, rfl, hg0, hg1, hlen, hn1, hn2, hO, hN⟩
  obtain ⟨A, c, rfl⟩ := hO.shape
  replace hO := hO.rebase hs1
  replace hres := blk_draw hres (by decide) hS hN
  replace hB := below_draw hB hs1 hgb hN
  replace hS := hN.1
  have hs2 := hB.size
  clear hN hs1
  have hA2 : Below w2.heap.size w2 (w2.alloc (.cells #[.int .i64 ge, .slice A gp.length c] 32)) := (Below.refl _ _).alloc (Nat.le_refl _) _
  have hbox := Blk.newAt w2 (t := 32) (cs := #[.int .i64 ge, .slice A gp.length c]) _ rfl
  have hne : b2 ≠ w2.heap.size := by have := hres.lt; omega
  go_wp2_with fail
  replace hO := hO.now hA2
  replace hres := hres.now hA2
  replace hB := hB.trans (hA2.mono hs2)
  replace hS := hS.now hA2
  generalize w2.alloc (.cells #[.int .i64 ge, .slice A gp.length c] 32) = wa at *
  obtain ⟨bg, hbg⟩ : ∃ bg, w2.heap.size = bg := ⟨_, rfl⟩
  rw [hbg] at hbox hne ⊢
  clear hA2 hs2 hbg
  have hBd : Below wa.heap.size wa wa.drew := Below.drew (Below.refl _ wa)
  replace hO := hO.now hBd
  replace hres := hres.now hBd
  replace hbox := hbox.now hBd
  replace hB := hB.trans (hBd.mono hB.size)
  replace hS := hS.now hBd
  obtain ⟨e0, e1⟩ := hbox.c2
  have lbg := hbox.lt
  clear hBd
  go_wp2_with fail
  refine wp_region_held_drew (S := fun w' => w'.cell? ⟨bg, 0, none⟩ = some (.int .i64 ge) ∧ w'.cell? ⟨bg, 1, none⟩ = some (.slice A gp.length c)) (by kernel_rfl) ⟨e0, e1⟩ (fun hH => ?_)
  generalize wa.drew = Va at *
  refine wpAnyH_take (i := 0) (oi := { dst := _, op := _, type := _, pos := _, after := _, guard := _ }) (v := ?_) rfl (by kernel_rfl) (by kernel_rfl) (by kernel_rfl) (fun _ _ _ h => h) (Or.inl ⟨by rfl, ?_⟩) hH ?_
  rotate_left
  · intro w9 hSw
    try dsimp only at hSw
    obtain ⟨s0, s1⟩ := hSw
    go_simp
    try with_reducible rfl
  try simp only [Act.put, List.setIfInBounds_toArray, List.set_cons_zero, List.set_cons_succ]
  refine wpAnyH_take (i := 1) (oi := { dst := _, op := _, type := _, pos := _, after := _, guard := _ }) (v := ?_) rfl (by kernel_rfl) (by kernel_rfl) (by kernel_rfl) (fun _ _ _ h => h) (Or.inl ⟨by rfl, ?_⟩) hH ?_
  rotate_left
  · intro w9 hSw
    try dsimp only at hSw
    obtain ⟨s0, s1⟩ := hSw
    go_simp
    try with_reducible rfl
  try simp only [Act.put, List.setIfInBounds_toArray, List.set_cons_zero, List.set_cons_succ]
  refine wpAnyH_take (i := 2) (oi := { dst := _, op := _, type := _, pos := _, after := _, guard := _ }) (v := ?_) rfl (by kernel_rfl) (by kernel_rfl) (by kernel_rfl) (fun _ _ _ h => h) (Or.inl ⟨by rfl, ?_⟩) hH ?_
  rotate_left
  · intro w9 hSw
    try dsimp only at hSw
    obtain ⟨s0, s1⟩ := hSw
    go_simp
    try with_reducible rfl
  try simp only [Act.put, List.setIfInBounds_toArray, List.set_cons_zero, List.set_cons_succ]
  refine wpAnyH_ready (rs := [3]) (by kernel_rfl) (by simp) ?_
  refine AllReadyH.cons rfl (fun K hK => ?_) AllReadyH.nil
  have hZ : Below Va.heap.size Va (Va.alloc (.cells #[.int .i64 6, .int .i64 51, .int .i64 6] 2)) := (Below.refl _ _).alloc (Nat.le_refl _) _
  replace hO := hO.now hZ
  replace hres := hres.now hZ
  replace hbox := hbox.now hZ
  replace hB := hB.trans (hZ.mono hB.size)
  replace hS := hS.now hZ
  clear e0 e1 hZ
  obtain ⟨e0, e1⟩ := hbox.c2
  go_simp
  refine hK.out _ _ ⟨e0, e1⟩ (fun hH => ?_)
  clear hK K
  try simp only [Act.put, List.setIfInBounds_toArray, List.set_cons_zero, List.set_cons_succ]
  refine wpAnyH_ready (rs := [4]) (by kernel_rfl) (by simp) ?_
  refine AllReadyH.cons rfl (fun K hK => ?_) AllReadyH.nil
  go_simp
  go_at_call 146
  refine (spec_l01Pick g Va.heap.size [6, 51, 6] _ hS (Blk.newAt _ _ rfl) (by simp) (by simp)).mono ?_
  rintro e vb ⟨pk, hpk, rfl, hN⟩
  have hpk6 : 6 ≤ pk ∧ pk ≤ 51 := by simp at hpk; omega
  replace hO := own_draw hO (by decide) hS hN
  replace hres := blk_draw hres (by decide) hS hN
  replace hbox := blk_draw hbox (by decide) hS hN
  replace hB := below_draw hB hB.size hgb hN
  replace hS := hN.1
  clear hpk hN e0 e1 lbg
  obtain ⟨e0, e1⟩ := hbox.c2
  refine hK.out _ _ ⟨e0, e1⟩ (fun hH => ?_)
  clear hK K
  try simp only [Act.put, List.setIfInBounds_toArray, List.set_cons_zero, List.set_cons_succ]
  refine wpAnyH_take (i := 5) (oi := { dst := _, op := _, type := _, pos := _, after := _, guard := _ }) (v := ?_) rfl (by kernel_rfl) (by kernel_rfl) (by kernel_rfl) (fun _ _ _ h => h) (Or.inl ⟨by rfl, ?_⟩) hH ?_
  rotate_left
  · intro w9 hSw
    try dsimp only at hSw
    obtain ⟨s0, s1⟩ := hSw
    go_simp
    try with_reducible rfl
  try simp only [Act.put, List.setIfInBounds_toArray, List.set_cons_zero, List.set_cons_succ]
  have f0 := hres.frozen 0
  have f1 := hres.frozen 1
  have lb2 := hres.lt
  obtain ⟨r0, r1⟩ := hres.c2
  have hq1 := Lib.hid (own_far (own_far hO (p := ⟨b2, 0, none⟩) (hO.ne_blk hres (by decide)) (.int .i64 ge)) (p := ⟨b2, 1, none⟩) (hO.ne_blk hres (by decide)) (.slice A gp.length c))
  have hq3 := Lib.hid ((hB.setCell (p := ⟨b2, 0, none⟩) hb2w (.int .i64 ge)).setCell (p := ⟨b2, 1, none⟩) hb2w (.slice A gp.length c))
  have hbx := (hbox.far (p := ⟨b2, 0, none⟩) (Ne.symm hne) (.int .i64 ge)).far (p := ⟨b2, 1, none⟩) (Ne.symm hne) (.slice A gp.length c)
  obtain ⟨x0, x1⟩ := hbx.c2
  refine wpAnyH_ready (rs := [6]) (by kernel_rfl) (by simp) ?_
  refine AllReadyH.cons rfl (fun K hK => ?_) AllReadyH.nil
  go_simp
  refine hK.out _ _ ⟨x0, x1⟩ (fun hH => ?_)
  clear hK K
  try simp only [Act.put, List.setIfInBounds_toArray, List.set_cons_zero, List.set_cons_succ]
  refine wpAnyH_take (i := 7) (oi := { dst := _, op := _, type := _, pos := _, after := _, guard := _ }) (v := ?_) rfl (by kernel_rfl) (by kernel_rfl) (by kernel_rfl) (fun _ _ _ h => h) (Or.inl ⟨by rfl, ?_⟩) hH ?_
  rotate_left
  · intro w9 hSw
    try dsimp only at hSw
    obtain ⟨s0, s1⟩ := hSw
    go_simp
    try with_reducible rfl
  try simp only [Act.put, List.setIfInBounds_toArray, List.set_cons_zero, List.set_cons_succ]
  refine wpAnyH_done (by kernel_rfl) ?_ _
  clear hH hbx x0 x1 e0 e1 hO hres hbox hB hS
  go_wp2
  · refine bodyPost_ret (v := .tuple #[.agg #[.int .i64 ge, .slice A gp.length c], .int .i64 pk]) (by simp [results, Try.results73, go_sem, r0, r1]) rfl ⟨ge, gp, _, pk, rfl, by omega, by omega, by omega, by omega, by omega, hq1.out, hq3.out⟩
  · refine bodyPost_ret (v := .tuple #[.agg #[.int .i64 ge, .slice A gp.length c], .int .i64 n]) (by simp [results, Try.results73, go_sem, r0, r1]) rfl ⟨ge, gp, _, n, rfl, by omega, by omega, by omega, by omega, by omega, hq1.out, hq3.out⟩
set_option maxHeartbeats 4000000 in
set_option maxRecDepth 100000 in
theorem spec_DrawTimesIn (cv : Value) (bs : List Int) (w : World) (h0 : Lst byteCell 1 w w.heap.size cv bs) (hbv : Hid (∀ b ∈ bs, 0 ≤ b ∧ b ≤ 255)) :
    Calls Try.prog 76 #[cv] w fun e w' => ∃ u l x, e = .returned (.tuple #[u, .int .i64 x]) ∧ l.length ≤ 501 ∧ Own Firing.cells 3 94 w' w.heap.size u l ∧ Below w.heap.size w w' := by
  go_enter Try.func76, Try.ntmps76
  go_wp2_with fail
  refine (spec_l01From _ bs _ h0 hbv).mono ?_
  rintro e w1 ⟨rfl, hS, hB⟩
  obtain ⟨g, hg⟩ : ∃ g, w.heap.size = g := ⟨_, rfl⟩
  have hgb : w.heap.size ≤ g := by omega
  have hs1 := hB.size
  rw [hg] at hS ⊢
  clear hg
  go_wp2_with fail
  refine (spec_l14Draw g _ hS).mono ?_
  rintro e w2 ⟨ge, gp, v, u, l, rfl, hg0, hg1, hlen, hll, hO, hU, hN⟩
  obtain ⟨A, c, rfl⟩ := hO.shape
  obtain ⟨UA, uc, rfl⟩ := hU.shape
  replace hU := hU.rebase hs1
  replace hB := below_draw hB hs1 hgb hN
  replace hS := hN.1
  clear hN hO hs1
  have hA2 : Below w2.heap.size w2 (w2.alloc (.cells #[.int .i64 ge, .slice A gp.length c] 32)) := (Below.refl _ _).alloc (Nat.le_refl _) _
  go_wp2_with fail
  replace hU := hU.now hA2
  replace hB := hB.trans (hA2.mono hB.size)
  replace hS := hS.now hA2
  clear hA2
  refine (spec_l01Next g 5 _ hS (by omega)).mono ?_
  rintro e w3 ⟨x, rfl, hx, hN⟩
  replace hU := own_draw hU (by decide) hS hN
  replace hB := below_draw hB hB.size hgb hN
  clear hN hS hx
  go_wp2
  go_ret2
  exact ⟨_, l, _, rfl, hll, hU, hB⟩
end Go.Proofs.Ytpkkkigiiaegfaa
