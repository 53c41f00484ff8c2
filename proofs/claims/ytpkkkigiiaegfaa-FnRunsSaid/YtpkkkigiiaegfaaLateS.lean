/-
  LatenessOf, the reference's.
-/
import Derived.Test.YtpkkkigiiaegfaaLateP
import Derived.Test.YtpkkkigiiaegfaaRunIB
import Derived.Test.YtpkkkigiiaegfaaEqs
namespace Go.Proofs.Ytpkkkigiiaegfaa
open Go.RowKit
set_option linter.unusedVariables false
set_option linter.unusedSimpArgs false

theorem info_firingL : (Try.prog.info? 94).map (fun i => (i.zero, i.size, i.bytes)) = some (some (.agg #[.int .i64 0, .int .i64 0, .int .i64 0]), 3, 24) := by kernel_rfl
set_option maxHeartbeats 4000000 in
set_option maxRecDepth 100000 in
theorem spec_l14Earliest (v : Value) (ge : Int) (gp : List Place) (u : Value) (l : List Firing) (w : World) (h0 : Lst Place.cells 4 w w.heap.size v gp) (h1 : Lst Firing.cells 3 w w.heap.size u l)
    (hok : Hid (okGraph ge gp = true)) (hr : Hid (RunOk ge l)) (hl5 : l.length ≤ 500) :
    Calls Try.prog 138 #[.agg #[.int .i64 ge, v], u] w (RetOwn Firing.cells 3 94 w (early gp l)) := by
  obtain ⟨A, c, rfl⟩ := h0.shape
  obtain ⟨C, d, rfl⟩ := h1.shape
  have hEk := Lib.hid (fun k hk => earl_ok hok.out hr.out k hk)
  have hEl := Lib.hid (fun k => early_len gp (l.take k))
  have hEs := Lib.hid (fun k h => early_take gp l k h)
  go_enter Try.func138, Try.ntmps138
  go_wp2
  have hW : Below w.heap.size w (w.alloc (.cells #[.int .i64 ge, .slice A gp.length c] 32)) := (Below.refl _ _).alloc (Nat.le_refl _) _
  have hb0 : Blk (w.alloc (.cells #[.int .i64 ge, .slice A gp.length c] 32)) w.heap.size 32 #[.int .i64 ge, .slice A gp.length c] := Blk.new _ _ _
  have hs0 : Hid ((w.alloc (.cells #[.int .i64 ge, .slice A gp.length c] 32)).heap.size = w.heap.size + 1) := by show _ = _; simp
  have hO0 := own_new0 Firing.cells 3 (w.alloc (.cells #[.int .i64 ge, .slice A gp.length c] 32)) 94 (w.heap.size + 1) (by rw [hs0.out]; exact Nat.le_refl _)
  rw [hs0.out] at hO0
  replace h0 := h0.now hW
  replace h1 := h1.now hW
  generalize w.alloc (.cells #[.int .i64 ge, .slice A gp.length c] 32) = W at *
  have hWs := hW.size
  go_loopw [5, 6, 7, 8] (fun o i _ _ wr => ∃ k : Nat, k ≤ l.length ∧ i = .int .i64 k ∧ Own Firing.cells 3 94 wr W.heap.size o (early gp (l.take k)) ∧ Below W.heap.size W wr) (fun _ i _ _ _ => l.length - (intOf i).toNat)
  case atStart => exact ⟨0, Nat.zero_le _, rfl, by rw [hs0.out]; exact hO0, (Below.refl _ _).alloc (Nat.le_refl _) _⟩
  case round =>
    clear hO0
    obtain ⟨k, hk, rfl, hO, hB⟩ := hrel
    have hs := hB.size
    have hbr := hb0.now hB
    obtain ⟨k0, k1⟩ := hbr.c2
    have l0 := hbr.lt
    by_cases hlt : k < l.length
    · obtain ⟨b, off, hC0, hbW, c0, c1, c2⟩ := firings_at h1 k hlt
      cases hC0
      replace c0 := cell_keep c0 hB
      replace c1 := cell_keep c1 hB
      replace c2 := cell_keep c2 hB
      have hEo := Lib.hid ((hEk.out k hk).run (by omega))
      have hS := hEs.out k hlt
      obtain ⟨f, hf⟩ : ∃ f, l[k] = f := ⟨_, rfl⟩
      rw [hf] at c0 c1 c2 hS
      clear hf
      obtain ⟨ev, nu, ti⟩ := f
      unfold earlS at hS
      simp only at c0 c1 c2 hS
      have hSH := Lib.hid hS
      clear hS
      have hln : Hid ((early gp (l.take k)).length = k) := by show _ = _; rw [hEl.out, List.length_take, Nat.min_eq_left hk]
      obtain ⟨OA, oc, rfl⟩ := own_shape_n hO hln.out
      have hBd : Below wr.heap.size wr wr.drew := Below.drew (Below.refl _ wr)
      have z0 : wr.drew.cell? ⟨w.heap.size, 0, none⟩ = some (.int .i64 ge) := k0
      have z1 : wr.drew.cell? ⟨w.heap.size, 1, none⟩ = some (.slice A gp.length c) := k1
      have z2 : wr.drew.cell? ⟨b, off + k * 3, none⟩ = some (.int .i64 ev) := c0
      have j1 : (0 : Int) ≤ (k : Int) := by omega
      have j2 : (k : Int) < (l.length : Int) := by omega
      have hRd := Lib.hid (fun (X : World) (hX : Lst Place.cells 4 X X.heap.size (.slice A gp.length c) gp) (hY : Lst Firing.cells 3 X X.heap.size (.slice OA k oc) (early gp (l.take k))) => l14Ready (.slice A gp.length c) ge gp (.slice OA k oc) (early gp (l.take k)) ev X hX hY hok.out (by rw [hln.out]; omega) hEo.out)
      generalize (readyS gp (timesIn (early gp (l.take k))) ev).getD 0 = tv at *
      generalize (readyS gp (timesIn (early gp (l.take k))) ev).isSome = tb at *
      go_wp2
      refine wp_region_held_drew (S := fun w' => w'.cell? ⟨w.heap.size, 0, none⟩ = some (.int .i64 ge) ∧ w'.cell? ⟨w.heap.size, 1, none⟩ = some (.slice A gp.length c) ∧ w'.cell? ⟨b, off + k * 3, none⟩ = some (.int .i64 ev)) (by kernel_rfl) ⟨z0, z1, z2⟩ (fun hH => ?_)
      refine wpAnyH_take (i := 0) (oi := { dst := _, op := _, type := _, pos := _, after := _, guard := _ }) (v := ?_) rfl (by kernel_rfl) (by kernel_rfl) (by kernel_rfl) (fun _ _ _ h => h) (Or.inl ⟨by rfl, ?_⟩) hH ?_
      rotate_left
      · intro w9 hSw
        try dsimp only at hSw
        obtain ⟨s0, s1, s2⟩ := hSw
        go_simp
        try with_reducible rfl
      try simp only [Act.put, List.setIfInBounds_toArray, List.set_cons_zero, List.set_cons_succ]
      refine wpAnyH_take (i := 1) (oi := { dst := _, op := _, type := _, pos := _, after := _, guard := _ }) (v := ?_) rfl (by kernel_rfl) (by kernel_rfl) (by kernel_rfl) (fun _ _ _ h => h) (Or.inl ⟨by rfl, ?_⟩) hH ?_
      rotate_left
      · intro w9 hSw
        try dsimp only at hSw
        obtain ⟨s0, s1, s2⟩ := hSw
        go_simp
        try with_reducible rfl
      try simp only [Act.put, List.setIfInBounds_toArray, List.set_cons_zero, List.set_cons_succ]
      refine wpAnyH_take (i := 2) (oi := { dst := _, op := _, type := _, pos := _, after := _, guard := _ }) (v := ?_) rfl (by kernel_rfl) (by kernel_rfl) (by kernel_rfl) (fun _ _ _ h => h) (Or.inl ⟨by rfl, ?_⟩) hH ?_
      rotate_left
      · intro w9 hSw
        try dsimp only at hSw
        obtain ⟨s0, s1, s2⟩ := hSw
        go_simp
        try with_reducible rfl
      try simp only [Act.put, List.setIfInBounds_toArray, List.set_cons_zero, List.set_cons_succ]
      refine wpAnyH_take (i := 3) (oi := { dst := _, op := _, type := _, pos := _, after := _, guard := _ }) (v := ?_) rfl (by kernel_rfl) (by kernel_rfl) (by kernel_rfl) (fun _ _ _ h => h) (Or.inl ⟨by rfl, ?_⟩) hH ?_
      rotate_left
      · intro w9 hSw
        try dsimp only at hSw
        obtain ⟨s0, s1, s2⟩ := hSw
        go_simp
        try with_reducible rfl
      try simp only [Act.put, List.setIfInBounds_toArray, List.set_cons_zero, List.set_cons_succ]
      refine wpAnyH_take (i := 4) (oi := { dst := _, op := _, type := _, pos := _, after := _, guard := _ }) (v := ?_) rfl (by kernel_rfl) (by kernel_rfl) (by kernel_rfl) (fun _ _ _ h => h) (Or.inl ⟨by rfl, ?_⟩) hH ?_
      rotate_left
      · intro w9 hSw
        try dsimp only at hSw
        obtain ⟨s0, s1, s2⟩ := hSw
        go_simp
        try with_reducible rfl
      try simp only [Act.put, List.setIfInBounds_toArray, List.set_cons_zero, List.set_cons_succ]
      refine wpAnyH_take (i := 5) (oi := { dst := _, op := _, type := _, pos := _, after := _, guard := _ }) (v := ?_) rfl (by kernel_rfl) (by kernel_rfl) (by kernel_rfl) (fun _ _ _ h => h) (Or.inl ⟨by rfl, ?_⟩) hH ?_
      rotate_left
      · intro w9 hSw
        try dsimp only at hSw
        obtain ⟨s0, s1, s2⟩ := hSw
        go_simp
        try with_reducible rfl
      try simp only [Act.put, List.setIfInBounds_toArray, List.set_cons_zero, List.set_cons_succ]
      refine wpAnyH_take (i := 6) (oi := { dst := _, op := _, type := _, pos := _, after := _, guard := _ }) (v := ?_) rfl (by kernel_rfl) (by kernel_rfl) (by kernel_rfl) (fun _ _ _ h => h) (Or.inl ⟨by rfl, ?_⟩) hH ?_
      rotate_left
      · intro w9 hSw
        try dsimp only at hSw
        obtain ⟨s0, s1, s2⟩ := hSw
        go_simp
        try with_reducible rfl
      try simp only [Act.put, List.setIfInBounds_toArray, List.set_cons_zero, List.set_cons_succ]
      refine wpAnyH_ready (rs := [7]) (by kernel_rfl) (by simp) ?_
      refine AllReadyH.cons rfl (fun K hK => ?_) AllReadyH.nil
      go_simp
      go_at_call 142
      refine (hRd.out wr.drew ((h0.now hB).now hBd) (hO.now hBd).lst).mono ?_
      rintro e5 w5 ⟨rfl, hB5⟩
      have z0a := cell_keep (w := wr.drew) z0 hB5
      have z1a := cell_keep (w := wr.drew) z1 hB5
      have z2a := cell_keep (w := wr.drew) z2 hB5
      refine hK.out _ _ ⟨z0a, z1a, z2a⟩ (fun hH => ?_)
      clear hK K
      try simp only [Act.put, List.setIfInBounds_toArray, List.set_cons_zero, List.set_cons_succ]
      refine wpAnyH_take (i := 8) (oi := { dst := _, op := _, type := _, pos := _, after := _, guard := _ }) (v := ?_) rfl (by kernel_rfl) (by kernel_rfl) (by kernel_rfl) (fun _ _ _ h => h) (Or.inl ⟨by rfl, ?_⟩) hH ?_
      rotate_left
      · intro w9 hSw
        try dsimp only at hSw
        obtain ⟨s0, s1, s2⟩ := hSw
        go_simp
        try with_reducible rfl
      try simp only [Act.put, List.setIfInBounds_toArray, List.set_cons_zero, List.set_cons_succ]
      refine wpAnyH_take (i := 9) (oi := { dst := _, op := _, type := _, pos := _, after := _, guard := _ }) (v := ?_) rfl (by kernel_rfl) (by kernel_rfl) (by kernel_rfl) (fun _ _ _ h => h) (Or.inl ⟨by rfl, ?_⟩) hH ?_
      rotate_left
      · intro w9 hSw
        try dsimp only at hSw
        obtain ⟨s0, s1, s2⟩ := hSw
        go_simp
        try with_reducible rfl
      try simp only [Act.put, List.setIfInBounds_toArray, List.set_cons_zero, List.set_cons_succ]
      refine wpAnyH_take (i := 10) (oi := { dst := _, op := _, type := _, pos := _, after := _, guard := _ }) (v := ?_) rfl (by kernel_rfl) (by kernel_rfl) (by kernel_rfl) (fun _ _ _ h => h) (Or.inl ⟨by rfl, ?_⟩) hH ?_
      rotate_left
      · intro w9 hSw
        try dsimp only at hSw
        obtain ⟨s0, s1, s2⟩ := hSw
        go_simp
        try with_reducible rfl
      try simp only [Act.put, List.setIfInBounds_toArray, List.set_cons_zero, List.set_cons_succ]
      refine wpAnyH_take (i := 11) (oi := { dst := _, op := _, type := _, pos := _, after := _, guard := _ }) (v := ?_) rfl (by kernel_rfl) (by kernel_rfl) (by kernel_rfl) (fun _ _ _ h => h) (Or.inl ⟨by rfl, ?_⟩) hH ?_
      rotate_left
      · intro w9 hSw
        try dsimp only at hSw
        obtain ⟨s0, s1, s2⟩ := hSw
        go_simp
        try with_reducible rfl
      try simp only [Act.put, List.setIfInBounds_toArray, List.set_cons_zero, List.set_cons_succ]
      refine wpAnyH_take (i := 12) (oi := { dst := _, op := _, type := _, pos := _, after := _, guard := _ }) (v := ?_) rfl (by kernel_rfl) (by kernel_rfl) (by kernel_rfl) (fun _ _ _ h => h) (Or.inl ⟨by rfl, ?_⟩) hH ?_
      rotate_left
      · intro w9 hSw
        try dsimp only at hSw
        obtain ⟨s0, s1, s2⟩ := hSw
        go_simp
        try with_reducible rfl
      try simp only [Act.put, List.setIfInBounds_toArray, List.set_cons_zero, List.set_cons_succ]
      refine wpAnyH_done (by kernel_rfl) ?_ _
      have hB6 := hBd.trans hB5
      have hs6 := hB6.size
      have hO6 := hO.now hB6
      have hBt := hB.trans (hB6.mono hs)
      have hst := hBt.size
      have c0' := cell_keep c0 hB6
      have c1' := cell_keep c1 hB6
      have hBd2 : Below w5.heap.size w5 w5.drew := Below.drew (Below.refl _ w5)
      have y0 : w5.drew.cell? ⟨b, off + k * 3, none⟩ = some (.int .i64 ev) := c0'
      have y1 : w5.drew.cell? ⟨b, off + k * 3 + 1, none⟩ = some (.int .i64 nu) := c1'
      have hZ : Below w5.heap.size w5 (w5.drew.alloc (.cells #[.int .i64 ev, .int .i64 nu, .int .i64 tv] 94)) := (Below.refl _ _).drew.alloc (Nat.le_refl _) _
      have qO := hO6.now hZ
      have x0 := cell_keep c0' hZ
      have x1 := cell_keep c1' hZ
      have hLst : Lst Firing.cells 3 (w5.drew.alloc (.cells #[.int .i64 ev, .int .i64 nu, .int .i64 tv] 94)) (w5.heap.size + 1) (.slice (some ⟨w5.heap.size, 0, none⟩) 1 1) [⟨ev, nu, tv⟩] := lst_new1 Firing.cells 3 Firing.cells_len w5.drew 94 ⟨ev, nu, tv⟩ _ rfl _ rfl
      have hlen : (early gp (l.take k)).length + [(⟨ev, nu, tv⟩ : Firing)].length ≤ 1099511627776 := by rw [hln.out]; simp; omega
      have hbs : W.heap.size ≤ (w5.drew.alloc (.cells #[.int .i64 ev, .int .i64 nu, .int .i64 tv] 94)).heap.size := Nat.le_trans hst hZ.size
      clear z0 z1 z2 z0a z1a z2a hH c0 c1 c2 k0 k1 l0
      go_wp2
      refine wp_region_held_drew (S := fun w' => w'.cell? ⟨b, off + k * 3, none⟩ = some (.int .i64 ev) ∧ w'.cell? ⟨b, off + k * 3 + 1, none⟩ = some (.int .i64 nu)) (by kernel_rfl) ⟨y0, y1⟩ (fun hH => ?_)
      refine wpAnyH_take (i := 0) (oi := { dst := _, op := _, type := _, pos := _, after := _, guard := _ }) (v := ?_) rfl (by kernel_rfl) (by kernel_rfl) (by kernel_rfl) (fun _ _ _ h => h) (Or.inl ⟨by rfl, ?_⟩) hH ?_
      rotate_left
      · intro w9 hSw
        try dsimp only at hSw
        obtain ⟨s0, s1⟩ := hSw
        go_simp
        try with_reducible rfl
      try simp only [Act.put, List.setIfInBounds_toArray, List.set_cons_zero, List.set_cons_succ]
      refine wpAnyH_take (i := 1) (oi := { dst := _, op := _, type := _, pos := _, after := _, guard := _ }) (v := ?_) rfl (by kernel_rfl) (by kernel_rfl) (by kernel_rfl) (fun _ _ _ h => h) (Or.inl ⟨by rfl, ?_⟩) hH ?_
      rotate_left
      · intro w9 hSw
        try dsimp only at hSw
        obtain ⟨s0, s1⟩ := hSw
        go_simp
        try with_reducible rfl
      try simp only [Act.put, List.setIfInBounds_toArray, List.set_cons_zero, List.set_cons_succ]
      refine wpAnyH_take (i := 2) (oi := { dst := _, op := _, type := _, pos := _, after := _, guard := _ }) (v := ?_) rfl (by kernel_rfl) (by kernel_rfl) (by kernel_rfl) (fun _ _ _ h => h) (Or.inl ⟨by rfl, ?_⟩) hH ?_
      rotate_left
      · intro w9 hSw
        try dsimp only at hSw
        obtain ⟨s0, s1⟩ := hSw
        go_simp
        try with_reducible rfl
      try simp only [Act.put, List.setIfInBounds_toArray, List.set_cons_zero, List.set_cons_succ]
      refine wpAnyH_take (i := 3) (oi := { dst := _, op := _, type := _, pos := _, after := _, guard := _ }) (v := ?_) rfl (by kernel_rfl) (by kernel_rfl) (by kernel_rfl) (fun _ _ _ h => h) (Or.inl ⟨by rfl, ?_⟩) hH ?_
      rotate_left
      · intro w9 hSw
        try dsimp only at hSw
        obtain ⟨s0, s1⟩ := hSw
        go_simp
        try with_reducible rfl
      try simp only [Act.put, List.setIfInBounds_toArray, List.set_cons_zero, List.set_cons_succ]
      refine wpAnyH_take (i := 4) (oi := { dst := _, op := _, type := _, pos := _, after := _, guard := _ }) (v := ?_) rfl (by kernel_rfl) (by kernel_rfl) (by kernel_rfl) (fun _ _ _ h => h) (Or.inl ⟨by rfl, ?_⟩) hH ?_
      rotate_left
      · intro w9 hSw
        try dsimp only at hSw
        obtain ⟨s0, s1⟩ := hSw
        go_simp
        try with_reducible rfl
      try simp only [Act.put, List.setIfInBounds_toArray, List.set_cons_zero, List.set_cons_succ]
      refine wpAnyH_take (i := 5) (oi := { dst := _, op := _, type := _, pos := _, after := _, guard := _ }) (v := ?_) rfl (by kernel_rfl) (by kernel_rfl) (by kernel_rfl) (fun _ _ _ h => h) (Or.inl ⟨by rfl, ?_⟩) hH ?_
      rotate_left
      · intro w9 hSw
        try dsimp only at hSw
        obtain ⟨s0, s1⟩ := hSw
        go_simp
        try with_reducible rfl
      try simp only [Act.put, List.setIfInBounds_toArray, List.set_cons_zero, List.set_cons_succ]
      refine wpAnyH_take (i := 6) (oi := { dst := _, op := _, type := _, pos := _, after := _, guard := _ }) (v := ?_) rfl (by kernel_rfl) (by kernel_rfl) (by kernel_rfl) (fun _ _ _ h => h) (Or.inl ⟨by rfl, ?_⟩) hH ?_
      rotate_left
      · intro w9 hSw
        try dsimp only at hSw
        obtain ⟨s0, s1⟩ := hSw
        go_simp
        try with_reducible rfl
      try simp only [Act.put, List.setIfInBounds_toArray, List.set_cons_zero, List.set_cons_succ]
      refine wpAnyH_take (i := 7) (oi := { dst := _, op := _, type := _, pos := _, after := _, guard := _ }) (v := ?_) rfl (by kernel_rfl) (by kernel_rfl) (by kernel_rfl) (fun _ _ _ h => h) (Or.inl ⟨by rfl, ?_⟩) hH ?_
      rotate_left
      · intro w9 hSw
        try dsimp only at hSw
        obtain ⟨s0, s1⟩ := hSw
        go_simp
        try with_reducible rfl
      try simp only [Act.put, List.setIfInBounds_toArray, List.set_cons_zero, List.set_cons_succ]
      refine wpAnyH_take (i := 8) (oi := { dst := _, op := _, type := _, pos := _, after := _, guard := _ }) (v := ?_) rfl (by kernel_rfl) (by kernel_rfl) (by kernel_rfl) (fun _ _ _ h => h) (Or.inl ⟨by rfl, ?_⟩) hH ?_
      rotate_left
      · intro w9 hSw
        try dsimp only at hSw
        obtain ⟨s0, s1⟩ := hSw
        go_simp
        try with_reducible rfl
      try simp only [Act.put, List.setIfInBounds_toArray, List.set_cons_zero, List.set_cons_succ]
      refine wpAnyH_take (i := 9) (oi := { dst := _, op := _, type := _, pos := _, after := _, guard := _ }) (v := ?_) rfl (by kernel_rfl) (by kernel_rfl) (by kernel_rfl) (fun _ _ _ h => h) (Or.inl ⟨by rfl, ?_⟩) hH ?_
      rotate_left
      · intro w9 hSw
        try dsimp only at hSw
        obtain ⟨s0, s1⟩ := hSw
        go_simp
        try with_reducible rfl
      try simp only [Act.put, List.setIfInBounds_toArray, List.set_cons_zero, List.set_cons_succ]
      refine wpAnyH_take (i := 10) (oi := { dst := _, op := _, type := _, pos := _, after := _, guard := _ }) (v := ?_) rfl (by kernel_rfl) (by kernel_rfl) (by kernel_rfl) (fun _ _ _ h => h) (Or.inl ⟨by rfl, ?_⟩) hH ?_
      rotate_left
      · intro w9 hSw
        try dsimp only at hSw
        obtain ⟨s0, s1⟩ := hSw
        go_simp
        try with_reducible rfl
      try simp only [Act.put, List.setIfInBounds_toArray, List.set_cons_zero, List.set_cons_succ]
      refine wpAnyH_take (i := 11) (oi := { dst := _, op := _, type := _, pos := _, after := _, guard := _ }) (v := ?_) rfl (by kernel_rfl) (by kernel_rfl) (by kernel_rfl) (fun _ _ _ h => h) (Or.inl ⟨by rfl, ?_⟩) hH ?_
      rotate_left
      · intro w9 hSw
        try dsimp only at hSw
        obtain ⟨s0, s1⟩ := hSw
        go_simp
        try with_reducible rfl
      try simp only [Act.put, List.setIfInBounds_toArray, List.set_cons_zero, List.set_cons_succ]
      refine wpAnyH_take (i := 12) (oi := { dst := _, op := _, type := _, pos := _, after := _, guard := _ }) (v := ?_) rfl (by kernel_rfl) (by kernel_rfl) (by kernel_rfl) (fun _ _ _ h => h) (Or.inl ⟨by rfl, ?_⟩) hH ?_
      rotate_left
      · intro w9 hSw
        try dsimp only at hSw
        obtain ⟨s0, s1⟩ := hSw
        go_simp
        try with_reducible rfl
      try simp only [Act.put, List.setIfInBounds_toArray, List.set_cons_zero, List.set_cons_succ]
      refine wpAnyH_ready (rs := [13]) (by kernel_rfl) (by simp) ?_
      refine AllReadyH.cons rfl (fun K hK => ?_) AllReadyH.nil
      go_simp
      refine hK.out _ _ ⟨x0, x1⟩ (fun hH => ?_)
      clear hK K
      try simp only [Act.put, List.setIfInBounds_toArray, List.set_cons_zero, List.set_cons_succ]
      refine wpAnyH_ready (rs := [14]) (by kernel_rfl) (by simp) ?_
      refine AllReadyH.cons rfl (fun K hK => ?_) AllReadyH.nil
      refine step_append_lst rfl _ _ 58 rfl Firing.cells 3 Firing.cells_one (by omega) W.heap.size 94 _ 24 Try.underlying58 info_firingL rfl (.slice OA k oc) (early gp (l.take k)) rfl qO _ _ _ _ [⟨ev, nu, tv⟩] rfl hLst hlen (by omega) hbs ?_
      intro v1 wz hO1 hG hD1
      have hfar : (Value.slice OA k oc).ownBlock = some b → False := fun hk => by have := (qO.lt b hk).1; omega
      have u0 := cell_kept x0 hG hfar
      have u1 := cell_kept x1 hG hfar
      refine hK.out _ _ ⟨u0, u1⟩ (fun hH => ?_)
      clear hK K
      try simp only [Act.put, List.setIfInBounds_toArray, List.set_cons_zero, List.set_cons_succ]
      refine wpAnyH_take (i := 15) (oi := { dst := _, op := _, type := _, pos := _, after := _, guard := _ }) (v := ?_) rfl (by kernel_rfl) (by kernel_rfl) (by kernel_rfl) (fun _ _ _ h => h) (Or.inl ⟨by rfl, ?_⟩) hH ?_
      rotate_left
      · intro w9 hSw
        try dsimp only at hSw
        obtain ⟨s0, s1⟩ := hSw
        go_simp
        try with_reducible rfl
      try simp only [Act.put, List.setIfInBounds_toArray, List.set_cons_zero, List.set_cons_succ]
      refine wpAnyH_done (by kernel_rfl) ?_ _
      have hBn := below_app (hBt.trans (hZ.mono hst)) hbs hG qO (Nat.le_refl _)
      go_wp2
      go_roundw
      case rel => exact ⟨k + 1, hlt, by go_num, by rw [hSH.out]; exact hO1, hBn⟩
      case measure => simp [intOf]; omega
    · obtain rfl : k = l.length := by omega
      rw [List.take_length] at hO
      go_wp2
      go_ret
      exact ⟨_, rfl, hO.rebase hWs, hW.trans (hB.mono hWs)⟩
/-- The greatest number of a run. -/
def mostF (l : List Firing) : Int := l.foldl (fun a f => max a f.number) 0
theorem mostF_take (l : List Firing) (k : Nat) (h : k < l.length) : mostF (l.take (k + 1)) = max (mostF (l.take k)) l[k].number := by
  unfold mostF
  rw [take_succ_get _ _ h, List.foldl_append]
  rfl
theorem mostF_late (r : List Firing) : decide (50 < mostF r.reverse) = lateB r.reverse := by
  induction r with
  | nil => rfl
  | cons f r ih =>
    rw [List.reverse_cons]
    have h1 : mostF (r.reverse ++ [f]) = max (mostF r.reverse) f.number := by unfold mostF; rw [List.foldl_append]; rfl
    have h2 : lateB (r.reverse ++ [f]) = (lateB r.reverse || decide (50 < f.number)) := by unfold lateB; simp
    rw [h1, h2, ← ih, ← Bool.decide_or]
    congr 1
    rw [eq_iff_iff]
    omega
theorem most_late (l : List Firing) : decide (50 < mostF l) = lateB l := by
  have := mostF_late l.reverse
  simpa using this
theorem late_take (gp : List Place) (l : List Firing) (k : Nat) (h : k < l.length) (h2 : k < (early gp l).length) : (lateL gp l).take (k + 1) = (lateL gp l).take k ++ [l[k].time - (early gp l)[k].time] := by
  rw [take_succ_get _ _ (by rw [lateL_len]; exact h)]
  congr 2
  unfold lateL
  rw [List.getElem_zipWith]
theorem max_if6 (a b : Int) : max a b = if a < b then b else a := by by_cases h : a < b <;> simp [h] <;> omega
set_option maxHeartbeats 4000000 in
set_option maxRecDepth 100000 in
theorem spec_LatenessOf (v : Value) (ge : Int) (gp : List Place) (u : Value) (l : List Firing) (w : World) (h0 : Lst Place.cells 4 w w.heap.size v gp) (h1 : Lst Firing.cells 3 w w.heap.size u l) :
    Calls Try.prog 41 #[.agg #[.int .i64 ge, v], u] w (RetOwnI intCell 1 2 w (lateF ge gp l).1 (lateF ge gp l).2) := by
  obtain ⟨A, c, rfl⟩ := h0.shape
  obtain ⟨C, d, rfl⟩ := h1.shape
  have hmax := h1.len_le
  have hMT := Lib.hid (fun k h => mostF_take l k h)
  have hML := Lib.hid (most_late l)
  go_enter Try.func41, Try.ntmps41
  go_wp2_with fail
  have hW : Below w.heap.size w (w.alloc (.cells #[.int .i64 ge, .slice A gp.length c] 32)) := (Below.refl _ _).alloc (Nat.le_refl _) _; have hb0 : Blk (w.alloc (.cells #[.int .i64 ge, .slice A gp.length c] 32)) w.heap.size 32 #[.int .i64 ge, .slice A gp.length c] := Blk.new _ _ _; replace h0 := h0.now hW; replace h1 := h1.now hW; generalize (w.alloc (.cells #[.int .i64 ge, .slice A gp.length c] 32)) = W at *
  refine (spec_l14Code _ _ _ _ _ _ h0 h1).mono ?_
  rintro e w1 ⟨rfl, hB⟩
  replace hW := hW.trans (hB.mono hW.size); replace h0 := h0.now hB; replace h1 := h1.now hB; replace hb0 := hb0.now hB
  obtain ⟨k0, k1⟩ := hb0.c2
  clear hB
  have hcode : Hid ((if okGraph ge gp = false then (1 : Int) else if isRunF ge gp l = false then 2 else 0) = (if okGraph ge gp = false then (1 : Int) else if isRunF ge gp l = false then 2 else 0)) := rfl
  obtain ⟨code, hcd⟩ : ∃ code, (if okGraph ge gp = false then (1 : Int) else if isRunF ge gp l = false then 2 else 0) = code := ⟨_, rfl⟩
  rw [hcd]
  have hcdH := Lib.hid hcd
  clear hcd hcode
  have l0 := hb0.lt
  go_wp2
  clear k0 k1 l0
  go_loop [7, 8] (fun s i => ∃ k : Nat, k ≤ l.length ∧ i = .int .i64 k ∧ s = .int .i64 (mostF (l.take k))) (fun _ i => l.length - (intOf i).toNat)
  case atStart => exact ⟨0, Nat.zero_le _, rfl, rfl⟩
  case round =>
    obtain ⟨k, hk, rfl, rfl⟩ := hrel
    by_cases hlt : k < l.length
    · obtain ⟨b, off, hC0, -, c0, c1, c2⟩ := firings_at h1 k hlt
      cases hC0
      have hT := hMT.out k hlt
      rw [max_if6] at hT
      have hTH := Lib.hid hT
      clear hT
      generalize mostF (l.take k) = mk at *
      go_wp2
      go_round
      case rel => exact ⟨k + 1, hlt, by go_num, by rw [hTH.out]⟩
      case measure => simp [intOf]; omega
    · obtain rfl : k = l.length := by omega
      rw [List.take_length]
      generalize mostF l = mo at *
      clear hMT
      cases hg : okGraph ge gp
      · have hcc := hcdH.out
        rw [hg] at hcc
        simp only [if_true] at hcc
        subst hcc
        have hE : Hid (lateF ge gp l = ([], 1)) := by show _ = _; simp [lateF, hg]
        clear hg hcdH hML
        go_wp2
        go_ret2
        exact RetOwnI.of hE.out ⟨_, rfl, Own.nil, hW⟩
      · cases hm : isRunF ge gp l
        · have hcc := hcdH.out
          rw [hg, hm] at hcc
          simp only [if_true, Bool.true_eq_false, if_false] at hcc
          subst hcc
          have hE : Hid (lateF ge gp l = ([], 2)) := by show _ = _; simp [lateF, hg, hm]
          clear hg hm hcdH hML
          go_wp2
          go_ret2
          exact RetOwnI.of hE.out ⟨_, rfl, Own.nil, hW⟩
        · have hcc := hcdH.out
          rw [hg, hm] at hcc
          simp only [if_true, Bool.true_eq_false, if_false] at hcc
          subst hcc
          cases hb : lateB l
          · have hE : Hid (lateF ge gp l = (lateL gp l, 0)) := by show _ = _; simp [lateF, hg, hm, hb]
            have hmo : decide ((50 : Int) < mo) = false := by rw [hML.out, hb]
            have hmo2 : ¬ (50 : Int) < mo := by simpa using hmo
            have hok := Lib.hid (isRunF_ok hm)
            have hg' := Lib.hid hg
            have hl5 := hok.out.2
            have hEr := Lib.hid (earl_ok hg hok.out.1 l.length (Nat.le_refl _))
            rw [List.take_length] at hEr
            clear hg hm hb hcdH hML
            obtain ⟨k0, k1⟩ := hb0.c2
            have l0 := hb0.lt
            have hLe := Lib.hid (lateL_len gp l)
            have hEe := Lib.hid (early_len gp l)
            have hLs := Lib.hid (fun k h1 h2 => late_take gp l k h1 h2)
            go_wp2_with fail
            refine (spec_l14Earliest _ _ _ _ _ _ h0 h1 hg' (Lib.hid hok.out.1) hl5).mono ?_
            rintro e w2 ⟨x, rfl, hO2, hB2⟩
            obtain ⟨EA, ec, rfl⟩ := own_shape_n hO2 hEe.out
            replace h0 := h0.now hB2
            replace h1 := h1.now hB2
            have h2 := hO2.lst
            have hT2 := hW.trans (hB2.mono hW.size)
            have hw2 := hT2.size
            clear hO2 hB2 hb0 k0 k1 l0 hW
            go_wp2
            go_loopw [10, 11] (fun o i wr => ∃ k : Nat, k ≤ l.length ∧ i = .int .i64 k ∧ Own intCell 1 2 wr w2.heap.size o ((lateL gp l).take k) ∧ Below w2.heap.size w2 wr) (fun _ i _ => l.length - (intOf i).toNat)
            case atStart => exact ⟨0, Nat.zero_le _, rfl, own_new0 _ _ _ _ _ (Nat.le_refl _), (Below.refl _ _).alloc (Nat.le_refl _) _⟩
            case round =>
              obtain ⟨k, hk, rfl, hO, hB⟩ := hrel
              have hs := hB.size
              by_cases hlt : k < l.length
              · obtain ⟨b, off, hC0, hbW, c0, c1, c2⟩ := firings_at h1 k hlt
                cases hC0
                replace c2 := cell_keep c2 hB
                have hlt2 : k < (early gp l).length := by rw [hEe.out]; exact hlt
                obtain ⟨b2, off2, hE0, hbW2, e0, e1, e2⟩ := firings_at h2 k hlt2
                cases hE0
                replace e2 := cell_keep e2 hB
                have hS := hLs.out k hlt hlt2
                have hr1 := (hok.out.1.2 _ (List.getElem_mem hlt)).2
                have hr2 := (hEr.out.rng _ (List.getElem_mem hlt2)).2
                have hln : Hid (((lateL gp l).take k).length = k) := by show _ = _; rw [List.length_take, hLe.out, Nat.min_eq_left hk]
                obtain ⟨ti, hti⟩ : ∃ t, l[k].time = t := ⟨_, rfl⟩
                obtain ⟨tj, htj⟩ : ∃ t, (early gp l)[k].time = t := ⟨_, rfl⟩
                rw [hti] at c2 hS hr1
                rw [htj] at e2 hS hr2
                clear hti htj
                have hSH := Lib.hid hS
                clear hS
                obtain ⟨OA, oc, rfl⟩ := own_shape_n hO hln.out
                have z0 : wr.drew.cell? ⟨b, off + k * 3 + 2, none⟩ = some (.int .i64 ti) := c2
                have z1 : wr.drew.cell? ⟨b2, off2 + k * 3 + 2, none⟩ = some (.int .i64 tj) := e2
                have j1 : (0 : Int) ≤ (k : Int) := by omega
                have j2 : (k : Int) < (l.length : Int) := by omega
                have hZ : Below wr.heap.size wr (wr.drew.alloc (.cells #[.int .i64 (ti - tj)] 2)) := (Below.refl _ _).drew.alloc (Nat.le_refl _) _
                have qO := hO.now hZ
                have x0 := cell_keep c2 hZ
                have x1 := cell_keep e2 hZ
                have hLst : Lst intCell 1 (wr.drew.alloc (.cells #[.int .i64 (ti - tj)] 2)) (wr.heap.size + 1) (.slice (some ⟨wr.heap.size, 0, none⟩) 1 1) [ti - tj] := lst_new1 intCell 1 intCell_len wr.drew 2 _ _ rfl _ rfl
                have hlen : ((lateL gp l).take k).length + [ti - tj].length ≤ 1099511627776 := by rw [hln.out]; simp; omega
                have hbs : w2.heap.size ≤ (wr.drew.alloc (.cells #[.int .i64 (ti - tj)] 2)).heap.size := Nat.le_trans hs hZ.size
                have wr1 : IntKind.i64.wrap (ti - tj) = ti - tj := IntWalk.i64_in _ (by omega)
                clear c0 c1 e0 e1
                go_wp2
                refine wp_region_held_drew (S := fun w' => w'.cell? ⟨b, off + k * 3 + 2, none⟩ = some (.int .i64 ti) ∧ w'.cell? ⟨b2, off2 + k * 3 + 2, none⟩ = some (.int .i64 tj)) (by kernel_rfl) ⟨z0, z1⟩ (fun hH => ?_)
                refine wpAnyH_take (i := 0) (oi := { dst := _, op := _, type := _, pos := _, after := _, guard := _ }) (v := ?_) rfl (by kernel_rfl) (by kernel_rfl) (by kernel_rfl) (fun _ _ _ h => h) (Or.inl ⟨by rfl, ?_⟩) hH ?_
                rotate_left
                · intro w9 hSw
                  try dsimp only at hSw
                  obtain ⟨s0, s1⟩ := hSw
                  go_simp
                  try with_reducible rfl
                try simp only [Act.put, List.setIfInBounds_toArray, List.set_cons_zero, List.set_cons_succ]
                refine wpAnyH_take (i := 1) (oi := { dst := _, op := _, type := _, pos := _, after := _, guard := _ }) (v := ?_) rfl (by kernel_rfl) (by kernel_rfl) (by kernel_rfl) (fun _ _ _ h => h) (Or.inl ⟨by rfl, ?_⟩) hH ?_
                rotate_left
                · intro w9 hSw
                  try dsimp only at hSw
                  obtain ⟨s0, s1⟩ := hSw
                  go_simp
                  try with_reducible rfl
                try simp only [Act.put, List.setIfInBounds_toArray, List.set_cons_zero, List.set_cons_succ]
                refine wpAnyH_take (i := 2) (oi := { dst := _, op := _, type := _, pos := _, after := _, guard := _ }) (v := ?_) rfl (by kernel_rfl) (by kernel_rfl) (by kernel_rfl) (fun _ _ _ h => h) (Or.inl ⟨by rfl, ?_⟩) hH ?_
                rotate_left
                · intro w9 hSw
                  try dsimp only at hSw
                  obtain ⟨s0, s1⟩ := hSw
                  go_simp
                  try with_reducible rfl
                try simp only [Act.put, List.setIfInBounds_toArray, List.set_cons_zero, List.set_cons_succ]
                refine wpAnyH_take (i := 3) (oi := { dst := _, op := _, type := _, pos := _, after := _, guard := _ }) (v := ?_) rfl (by kernel_rfl) (by kernel_rfl) (by kernel_rfl) (fun _ _ _ h => h) (Or.inl ⟨by rfl, ?_⟩) hH ?_
                rotate_left
                · intro w9 hSw
                  try dsimp only at hSw
                  obtain ⟨s0, s1⟩ := hSw
                  go_simp
                  try with_reducible rfl
                try simp only [Act.put, List.setIfInBounds_toArray, List.set_cons_zero, List.set_cons_succ]
                refine wpAnyH_take (i := 4) (oi := { dst := _, op := _, type := _, pos := _, after := _, guard := _ }) (v := ?_) rfl (by kernel_rfl) (by kernel_rfl) (by kernel_rfl) (fun _ _ _ h => h) (Or.inl ⟨by rfl, ?_⟩) hH ?_
                rotate_left
                · intro w9 hSw
                  try dsimp only at hSw
                  obtain ⟨s0, s1⟩ := hSw
                  go_simp
                  try with_reducible rfl
                try simp only [Act.put, List.setIfInBounds_toArray, List.set_cons_zero, List.set_cons_succ]
                refine wpAnyH_take (i := 5) (oi := { dst := _, op := _, type := _, pos := _, after := _, guard := _ }) (v := ?_) rfl (by kernel_rfl) (by kernel_rfl) (by kernel_rfl) (fun _ _ _ h => h) (Or.inl ⟨by rfl, ?_⟩) hH ?_
                rotate_left
                · intro w9 hSw
                  try dsimp only at hSw
                  obtain ⟨s0, s1⟩ := hSw
                  go_simp
                  try with_reducible rfl
                try simp only [Act.put, List.setIfInBounds_toArray, List.set_cons_zero, List.set_cons_succ]
                refine wpAnyH_take (i := 6) (oi := { dst := _, op := _, type := _, pos := _, after := _, guard := _ }) (v := ?_) rfl (by kernel_rfl) (by kernel_rfl) (by kernel_rfl) (fun _ _ _ h => h) (Or.inl ⟨by rfl, ?_⟩) hH ?_
                rotate_left
                · intro w9 hSw
                  try dsimp only at hSw
                  obtain ⟨s0, s1⟩ := hSw
                  go_simp
                  try with_reducible rfl
                try simp only [Act.put, List.setIfInBounds_toArray, List.set_cons_zero, List.set_cons_succ]
                refine wpAnyH_take (i := 7) (oi := { dst := _, op := _, type := _, pos := _, after := _, guard := _ }) (v := ?_) rfl (by kernel_rfl) (by kernel_rfl) (by kernel_rfl) (fun _ _ _ h => h) (Or.inl ⟨by rfl, ?_⟩) hH ?_
                rotate_left
                · intro w9 hSw
                  try dsimp only at hSw
                  obtain ⟨s0, s1⟩ := hSw
                  go_simp
                  try with_reducible rfl
                try simp only [Act.put, List.setIfInBounds_toArray, List.set_cons_zero, List.set_cons_succ]
                refine wpAnyH_take (i := 8) (oi := { dst := _, op := _, type := _, pos := _, after := _, guard := _ }) (v := ?_) rfl (by kernel_rfl) (by kernel_rfl) (by kernel_rfl) (fun _ _ _ h => h) (Or.inl ⟨by rfl, ?_⟩) hH ?_
                rotate_left
                · intro w9 hSw
                  try dsimp only at hSw
                  obtain ⟨s0, s1⟩ := hSw
                  go_simp
                  try with_reducible rfl
                try simp only [Act.put, List.setIfInBounds_toArray, List.set_cons_zero, List.set_cons_succ]
                refine wpAnyH_take (i := 9) (oi := { dst := _, op := _, type := _, pos := _, after := _, guard := _ }) (v := ?_) rfl (by kernel_rfl) (by kernel_rfl) (by kernel_rfl) (fun _ _ _ h => h) (Or.inl ⟨by rfl, ?_⟩) hH ?_
                rotate_left
                · intro w9 hSw
                  try dsimp only at hSw
                  obtain ⟨s0, s1⟩ := hSw
                  go_simp
                  try with_reducible rfl
                try simp only [Act.put, List.setIfInBounds_toArray, List.set_cons_zero, List.set_cons_succ]
                refine wpAnyH_take (i := 10) (oi := { dst := _, op := _, type := _, pos := _, after := _, guard := _ }) (v := ?_) rfl (by kernel_rfl) (by kernel_rfl) (by kernel_rfl) (fun _ _ _ h => h) (Or.inl ⟨by rfl, ?_⟩) hH ?_
                rotate_left
                · intro w9 hSw
                  try dsimp only at hSw
                  obtain ⟨s0, s1⟩ := hSw
                  go_simp
                  try with_reducible rfl
                try simp only [Act.put, List.setIfInBounds_toArray, List.set_cons_zero, List.set_cons_succ]
                refine wpAnyH_take (i := 11) (oi := { dst := _, op := _, type := _, pos := _, after := _, guard := _ }) (v := ?_) rfl (by kernel_rfl) (by kernel_rfl) (by kernel_rfl) (fun _ _ _ h => h) (Or.inl ⟨by rfl, ?_⟩) hH ?_
                rotate_left
                · intro w9 hSw
                  try dsimp only at hSw
                  obtain ⟨s0, s1⟩ := hSw
                  go_simp
                  try with_reducible rfl
                try simp only [Act.put, List.setIfInBounds_toArray, List.set_cons_zero, List.set_cons_succ]
                refine wpAnyH_ready (rs := [12]) (by kernel_rfl) (by simp) ?_
                refine AllReadyH.cons rfl (fun K hK => ?_) AllReadyH.nil
                go_simp
                refine hK.out _ _ ⟨x0, x1⟩ (fun hH => ?_)
                clear hK K
                try simp only [Act.put, List.setIfInBounds_toArray, List.set_cons_zero, List.set_cons_succ]
                refine wpAnyH_ready (rs := [13]) (by kernel_rfl) (by simp) ?_
                refine AllReadyH.cons rfl (fun K hK => ?_) AllReadyH.nil
                refine step_append_lst rfl _ _ 37 rfl intCell 1 intCell_one (by omega) w2.heap.size 2 _ 8 Try.underlying37 info_i64 rfl (.slice OA k oc) ((lateL gp l).take k) rfl qO _ _ _ _ [ti - tj] rfl hLst hlen (by omega) hbs ?_
                intro v1 wz hO1 hG hD1
                have hfar : ∀ b', b' < w2.heap.size → (Value.slice OA k oc).ownBlock = some b' → False := fun b' hb' hk => by have := (qO.lt b' hk).1; omega
                have u0 := cell_kept x0 hG (hfar _ (by omega))
                have u1 := cell_kept x1 hG (hfar _ (by omega))
                refine hK.out _ _ ⟨u0, u1⟩ (fun hH => ?_)
                clear hK K
                try simp only [Act.put, List.setIfInBounds_toArray, List.set_cons_zero, List.set_cons_succ]
                refine wpAnyH_take (i := 14) (oi := { dst := _, op := _, type := _, pos := _, after := _, guard := _ }) (v := ?_) rfl (by kernel_rfl) (by kernel_rfl) (by kernel_rfl) (fun _ _ _ h => h) (Or.inl ⟨by rfl, ?_⟩) hH ?_
                rotate_left
                · intro w9 hSw
                  try dsimp only at hSw
                  obtain ⟨s0, s1⟩ := hSw
                  go_simp
                  try with_reducible rfl
                try simp only [Act.put, List.setIfInBounds_toArray, List.set_cons_zero, List.set_cons_succ]
                refine wpAnyH_done (by kernel_rfl) ?_ _
                have hBn := below_app (hB.trans (hZ.mono hs)) hbs hG qO (Nat.le_refl _)
                go_wp2
                go_roundw
                case rel => exact ⟨k + 1, hlt, by go_num, by rw [hSH.out]; exact hO1, hBn⟩
                case measure => simp [intOf]; omega
              · obtain rfl : k = l.length := by omega
                have hF : Hid ((lateL gp l).take l.length = lateL gp l) := by
                  show _ = _
                  rw [← hLe.out, List.take_length]
                rw [hF.out] at hO
                go_wp2
                go_ret2
                exact RetOwnI.of hE.out ⟨_, rfl, hO.rebase hw2, hT2.trans (hB.mono hw2)⟩
          · have hE : Hid (lateF ge gp l = ([], 2)) := by show _ = _; simp [lateF, hg, hm, hb]
            have hmo : decide ((50 : Int) < mo) = true := by rw [hML.out, hb]
            have hmo2 : (50 : Int) < mo := by simpa using hmo
            clear hg hm hb hcdH hML
            go_wp2
            go_ret2
            exact RetOwnI.of hE.out ⟨_, rfl, Own.nil, hW⟩
end Go.Proofs.Ytpkkkigiiaegfaa
