/-
  The walks of the draws of a graph and a number of firings, and of starts.
-/
import Derived.Test.YtpkkkigiiaegfaaDrC
namespace Go.Proofs.Ytpkkkigiiaegfaa
open Go.RowKit
set_option linter.unusedVariables false
set_option linter.unusedSimpArgs false
/-- Another graph is drawn and laid into the box. -/
theorem Dr.regraph {w0 W W' : World} {g b2 bg : Nat} {ge ge' : Int} {v v' : Value} {gp gp' : List Place} (h : Dr w0 g b2 bg W ge v gp) (hN : Drawn W g W') (hO : Own Place.cells 4 65 W' W.heap.size v' gp') :
    Dr w0 g b2 bg ((W'.setCell ⟨bg, 0, none⟩ (.int .i64 ge')).setCell ⟨bg, 1, none⟩ v') ge' v' gp' := by
  have hD := h.draw hN
  have hg := h.hg
  have h2 := h.hbg
  have hO' := hO.rebase h.grown.size
  have hneB := hO'.ne_blk hD.box (by decide)
  refine ⟨(hD.src.kept (grown_setC W' ⟨bg, 0, none⟩ _) (fun k e => by injection e with e; simp only at e; omega)).kept (grown_setC _ ⟨bg, 1, none⟩ _) (fun k e => by injection e with e; simp only at e; omega), ?_, (hD.res.far (p := ⟨bg, 0, none⟩) h.hne _).far (p := ⟨bg, 1, none⟩) h.hne _, hD.box.set2a.set2b, own_far (own_far hO' (p := ⟨bg, 0, none⟩) hneB _) (p := ⟨bg, 1, none⟩) hneB _, h.hb2, h.hbg, h.hne, hg⟩
  have hG := hD.grown
  exact ⟨hG.os, hG.tape, hG.output, by simpa [World.setCell] using hG.size, fun i hi hne => (Below.heap_setCell _ ⟨bg, 1, none⟩ _ i (by simp only; omega)).trans ((Below.heap_setCell W' ⟨bg, 0, none⟩ _ i (by simp only; omega)).trans (hG.block i hi hne))⟩
set_option maxHeartbeats 8000000 in
set_option maxRecDepth 100000 in
theorem spec_l13Draw (g : Nat) (w : World) (h : Src w g) :
    Calls Try.prog 145 #[.pointer (some ⟨g, 0, none⟩)] w fun e w' => ∃ ge gp v n, e = .returned (.tuple #[.agg #[.int .i64 ge, v], .int .i64 n]) ∧ 0 ≤ ge ∧ ge ≤ 11 ∧ gp.length ≤ 40 ∧ -1 ≤ n ∧ n ≤ 51 ∧ Own Place.cells 4 65 w' w.heap.size v gp ∧ Drawn w g w' := by
  have hgw := h.lt
  go_enter Try.func145, Try.ntmps145
  go_wp2_with fail
  have hA : Below w.heap.size w (w.alloc (.cells #[.int .i64 0, .slice none 0 0] 32)) := (Below.refl _ _).alloc (Nat.le_refl _) _
  refine (spec_l11Draw g _ (h.now hA)).mono ?_
  rintro e w1 ⟨ge, gp, v, rfl, hg0, hg1, hlen, hO, hN⟩
  obtain ⟨A, c, rfl⟩ := hO.shape
  have hres := (Blk.new w 32 #[.int .i64 0, .slice none 0 0]).grown hN.2 (fun e => by injection e with e; omega)
  have hG1 := grown_trans (grown_of_below (r := some g) hA) hN.2
  have hs1 := hG1.size
  have hlt1 := hres.lt
  have hA2 : Below w1.heap.size w1 (w1.alloc (.cells #[.int .i64 ge, .slice A gp.length c] 32)) := (Below.refl _ _).alloc (Nat.le_refl _) _
  have hD : Dr w g w.heap.size w1.heap.size (w1.alloc (.cells #[.int .i64 ge, .slice A gp.length c] 32)) ge (.slice A gp.length c) gp :=
    ⟨hN.1.now hA2, grown_trans hG1 (grown_of_below hA2), hres.now hA2, Blk.newAt _ _ rfl, (hO.rebase hA.size).now hA2, Nat.le_refl _, hs1, by omega, hgw⟩
  go_wp2_with fail
  obtain ⟨bg, hbg⟩ : ∃ bg, w1.heap.size = bg := ⟨_, rfl⟩
  obtain ⟨b2, hb2⟩ : ∃ b2, w.heap.size = b2 := ⟨_, rfl⟩
  have hD' : Dr w g b2 bg (w1.alloc (.cells #[.int .i64 ge, .slice A gp.length c] 32)) ge (.slice A gp.length c) gp := by rw [← hb2, ← hbg]; exact hD
  rw [hbg]
  rw [show (Value.pointer (some ⟨w.heap.size, 0, none⟩)) = .pointer (some ⟨b2, 0, none⟩) by rw [hb2]]
  clear hN hO hres hG1 hs1 hlt1 hD hA hA2 hbg hb2
  generalize w1.alloc (.cells #[.int .i64 ge, .slice A gp.length c] 32) = W2 at *
  refine (spec_l01Next g 20 _ hD'.src (by omega)).mono ?_
  rintro e w2 ⟨y20, rfl, hy, hN⟩
  have hD := hD'.draw hN
  clear hy hN hD'
  by_cases hy0 : y20 = 0
  · have q20 : (y20 == 0) = true := by simp [hy0]
    clear hy0
    go_wp2_with fail
    refine (spec_l12Draw g _ hD.src).mono ?_
    rintro e w3 ⟨ge', gp', v', rfl, hg0', hg1', hlen', hO', hN'⟩
    obtain ⟨A', c', rfl⟩ := hO'.shape
    have hDn := hD.regraph (ge' := ge') hN' hO'
    have hDd := hD.draw hN'
    have f0 := hDd.box.frozen 0
    have f1 := hDd.box.frozen 1
    have lb := hDd.box.lt
    obtain ⟨e0, e1⟩ := hDd.box.c2
    clear hD hDd hN' hO' hg0 hg1 hlen
    have hDnH := Lib.hid hDn
    clear hDn
    go_wp2_with fail
    have hD := hDnH.out
    clear f0 f1 lb e0 e1 hDnH
    generalize ((w3.setCell ⟨bg, 0, none⟩ (.int .i64 ge')).setCell ⟨bg, 1, none⟩ (.slice A' gp'.length c')) = W4 at *
    refine (spec_l01Next g 24 _ hD.src (by omega)).mono ?_
    rintro e wa ⟨y24, rfl, hy24, hN⟩
    replace hD := hD.draw hN
    clear hy24 hN
    by_cases hz : y24 = 0
    · have q24 : (y24 == 0) = true := by simp [hz]
      clear hz
      have hBd : Below wa.heap.size wa wa.drew := Below.drew (Below.refl _ wa)
      replace hD := hD.below hBd
      obtain ⟨e0, e1⟩ := hD.box.c2
      have lbg := hD.box.lt
      clear hBd
      go_wp2_with fail
      refine wp_region_held_drew (S := fun w' => w'.cell? ⟨bg, 0, none⟩ = some (.int .i64 ge') ∧ w'.cell? ⟨bg, 1, none⟩ = some (.slice A' gp'.length c')) (by kernel_rfl) ⟨e0, e1⟩ (fun hH => ?_)
      generalize wa.drew = Va at *
      refine wpAnyH_take (i := 0) (oi := { dst := _, op := _, type := _, pos := _, after := _, guard := _ }) (v := ?_) rfl (by kernel_rfl) (by kernel_rfl) (by kernel_rfl) (fun _ _ _ h => h) (Or.inl ⟨by rfl, ?_⟩) hH ?_
      rotate_left
      · intro w9 hSw
        try dsimp only at hSw
        obtain ⟨s0, s1⟩ := hSw
        go_simp
        try with_reducible rfl
      try simp only [Act.put, List.setIfInBounds_toArray, List.set_cons_zero, List.set_cons_succ]
      refine wpAnyH_take (i := 1) (oi := { dst := _, op := _, type := _, pos := _, after := _, guard := _ }) (v := ?_) rfl (by kernel_rfl) (by kernel_rfl) (by kernel_rfl) (fun _ _ _ h => h) (Or.inl ⟨by rfl, ?_⟩) hH ?_
      rotate_left
      · intro w9 hSw
        try dsimp only at hSw
        obtain ⟨s0, s1⟩ := hSw
        go_simp
        try with_reducible rfl
      try simp only [Act.put, List.setIfInBounds_toArray, List.set_cons_zero, List.set_cons_succ]
      refine wpAnyH_ready (rs := [2]) (by kernel_rfl) (by simp) ?_
      refine AllReadyH.cons rfl (fun K hK => ?_) AllReadyH.nil
      have hZ : Below Va.heap.size Va (Va.alloc (.cells #[.int .i64 (-1), .int .i64 0, .int .i64 50, .int .i64 51] 2)) := (Below.refl _ _).alloc (Nat.le_refl _) _
      replace hD := hD.below hZ
      clear e0 e1 hZ
      obtain ⟨e0, e1⟩ := hD.box.c2
      go_simp
      refine hK.out _ _ ⟨e0, e1⟩ (fun hH => ?_)
      clear hK K
      try simp only [Act.put, List.setIfInBounds_toArray, List.set_cons_zero, List.set_cons_succ]
      refine wpAnyH_ready (rs := [3]) (by kernel_rfl) (by simp) ?_
      refine AllReadyH.cons rfl (fun K hK => ?_) AllReadyH.nil
      go_simp
      go_at_call 146
      refine (spec_l01Pick g Va.heap.size [-1, 0, 50, 51] _ hD.src (Blk.newAt _ _ rfl) (by simp) (by simp)).mono ?_
      rintro e vb ⟨nn, hnn, rfl, hN⟩
      have hn9 : -1 ≤ nn ∧ nn ≤ 51 := by simp at hnn; omega
      replace hD := hD.draw hN
      clear hnn hN e0 e1 lbg
      obtain ⟨e0, e1⟩ := hD.box.c2
      refine hK.out _ _ ⟨e0, e1⟩ (fun hH => ?_)
      clear hK K
      try simp only [Act.put, List.setIfInBounds_toArray, List.set_cons_zero, List.set_cons_succ]
      have f0 := hD.res.frozen 0
      have f1 := hD.res.frozen 1
      have lb2 := hD.res.lt
      obtain ⟨r0, r1⟩ := hD.res.c2
      have hF := Lib.hid hD.fin
      have hbx := (hD.box.far (p := ⟨b2, 0, none⟩) (Ne.symm hD.hne) (.int .i64 ge')).far (p := ⟨b2, 1, none⟩) (Ne.symm hD.hne) (.slice A' gp'.length c')
      obtain ⟨x0, x1⟩ := hbx.c2
      refine wpAnyH_ready (rs := [4]) (by kernel_rfl) (by simp) ?_
      refine AllReadyH.cons rfl (fun K hK => ?_) AllReadyH.nil
      go_simp
      refine hK.out _ _ ⟨x0, x1⟩ (fun hH => ?_)
      clear hK K
      try simp only [Act.put, List.setIfInBounds_toArray, List.set_cons_zero, List.set_cons_succ]
      refine wpAnyH_take (i := 5) (oi := { dst := _, op := _, type := _, pos := _, after := _, guard := _ }) (v := ?_) rfl (by kernel_rfl) (by kernel_rfl) (by kernel_rfl) (fun _ _ _ h => h) (Or.inl ⟨by rfl, ?_⟩) hH ?_
      rotate_left
      · intro w9 hSw
        try dsimp only at hSw
        obtain ⟨s0, s1⟩ := hSw
        go_simp
        try with_reducible rfl
      try simp only [Act.put, List.setIfInBounds_toArray, List.set_cons_zero, List.set_cons_succ]
      refine wpAnyH_done (by kernel_rfl) ?_ _
      clear hH hD hbx x0 x1 e0 e1
      go_wp2
      refine bodyPost_ret (v := .tuple #[.agg #[.int .i64 ge', .slice A' gp'.length c'], .int .i64 nn]) (by simp [results, Try.results145, go_sem, r0, r1]) rfl ⟨ge', gp', _, nn, rfl, by omega, by omega, by omega, by omega, by omega, hF.out.1, hF.out.2⟩
    · have q24 : (y24 == 0) = false := by simpa using hz
      clear hz
      have hBd : Below wa.heap.size wa wa.drew := Below.drew (Below.refl _ wa)
      replace hD := hD.below hBd
      obtain ⟨e0, e1⟩ := hD.box.c2
      have lbg := hD.box.lt
      clear hBd
      go_wp2_with fail
      refine wp_region_held_drew (S := fun w' => w'.cell? ⟨bg, 0, none⟩ = some (.int .i64 ge') ∧ w'.cell? ⟨bg, 1, none⟩ = some (.slice A' gp'.length c')) (by kernel_rfl) ⟨e0, e1⟩ (fun hH => ?_)
      generalize wa.drew = Va at *
      refine wpAnyH_take (i := 0) (oi := { dst := _, op := _, type := _, pos := _, after := _, guard := _ }) (v := ?_) rfl (by kernel_rfl) (by kernel_rfl) (by kernel_rfl) (fun _ _ _ h => h) (Or.inl ⟨by rfl, ?_⟩) hH ?_
      rotate_left
      · intro w9 hSw
        try dsimp only at hSw
        obtain ⟨s0, s1⟩ := hSw
        go_simp
        try with_reducible rfl
      try simp only [Act.put, List.setIfInBounds_toArray, List.set_cons_zero, List.set_cons_succ]
      refine wpAnyH_take (i := 1) (oi := { dst := _, op := _, type := _, pos := _, after := _, guard := _ }) (v := ?_) rfl (by kernel_rfl) (by kernel_rfl) (by kernel_rfl) (fun _ _ _ h => h) (Or.inl ⟨by rfl, ?_⟩) hH ?_
      rotate_left
      · intro w9 hSw
        try dsimp only at hSw
        obtain ⟨s0, s1⟩ := hSw
        go_simp
        try with_reducible rfl
      try simp only [Act.put, List.setIfInBounds_toArray, List.set_cons_zero, List.set_cons_succ]
      refine wpAnyH_ready (rs := [2]) (by kernel_rfl) (by simp) ?_
      refine AllReadyH.cons rfl (fun K hK => ?_) AllReadyH.nil
      go_simp
      go_at_call 147
      refine (spec_l01Next g 9 _ hD.src (by omega)).mono ?_
      rintro e vb ⟨nn, rfl, hnn, hN⟩
      replace hD := hD.draw hN
      have hn9 : 0 ≤ nn ∧ nn < 9 := ⟨hnn.1, hnn.2.1 (by omega)⟩
      clear hnn hN e0 e1 lbg
      obtain ⟨e0, e1⟩ := hD.box.c2
      refine hK.out _ _ ⟨e0, e1⟩ (fun hH => ?_)
      clear hK K
      try simp only [Act.put, List.setIfInBounds_toArray, List.set_cons_zero, List.set_cons_succ]
      have f0 := hD.res.frozen 0
      have f1 := hD.res.frozen 1
      have lb2 := hD.res.lt
      obtain ⟨r0, r1⟩ := hD.res.c2
      have hF := Lib.hid hD.fin
      have hbx := (hD.box.far (p := ⟨b2, 0, none⟩) (Ne.symm hD.hne) (.int .i64 ge')).far (p := ⟨b2, 1, none⟩) (Ne.symm hD.hne) (.slice A' gp'.length c')
      obtain ⟨x0, x1⟩ := hbx.c2
      refine wpAnyH_ready (rs := [3]) (by kernel_rfl) (by simp) ?_
      refine AllReadyH.cons rfl (fun K hK => ?_) AllReadyH.nil
      go_simp
      refine hK.out _ _ ⟨x0, x1⟩ (fun hH => ?_)
      clear hK K
      try simp only [Act.put, List.setIfInBounds_toArray, List.set_cons_zero, List.set_cons_succ]
      refine wpAnyH_take (i := 4) (oi := { dst := _, op := _, type := _, pos := _, after := _, guard := _ }) (v := ?_) rfl (by kernel_rfl) (by kernel_rfl) (by kernel_rfl) (fun _ _ _ h => h) (Or.inl ⟨by rfl, ?_⟩) hH ?_
      rotate_left
      · intro w9 hSw
        try dsimp only at hSw
        obtain ⟨s0, s1⟩ := hSw
        go_simp
        try with_reducible rfl
      try simp only [Act.put, List.setIfInBounds_toArray, List.set_cons_zero, List.set_cons_succ]
      refine wpAnyH_done (by kernel_rfl) ?_ _
      clear hH hD hbx x0 x1 e0 e1
      go_wp2
      refine bodyPost_ret (v := .tuple #[.agg #[.int .i64 ge', .slice A' gp'.length c'], .int .i64 nn]) (by simp [results, Try.results145, go_sem, r0, r1]) rfl ⟨ge', gp', _, nn, rfl, by omega, by omega, by omega, by omega, by omega, hF.out.1, hF.out.2⟩
  · have q20 : (y20 == 0) = false := by simpa using hy0
    clear hy0
    go_wp2_with fail
    refine (spec_l01Next g 24 _ hD.src (by omega)).mono ?_
    rintro e wa ⟨y24, rfl, hy24, hN⟩
    replace hD := hD.draw hN
    clear hy24 hN
    by_cases hz : y24 = 0
    · have q24 : (y24 == 0) = true := by simp [hz]
      clear hz
      have hBd : Below wa.heap.size wa wa.drew := Below.drew (Below.refl _ wa)
      replace hD := hD.below hBd
      obtain ⟨e0, e1⟩ := hD.box.c2
      have lbg := hD.box.lt
      clear hBd
      go_wp2_with fail
      refine wp_region_held_drew (S := fun w' => w'.cell? ⟨bg, 0, none⟩ = some (.int .i64 ge) ∧ w'.cell? ⟨bg, 1, none⟩ = some (.slice A gp.length c)) (by kernel_rfl) ⟨e0, e1⟩ (fun hH => ?_)
      generalize wa.drew = Va at *
      refine wpAnyH_take (i := 0) (oi := { dst := _, op := _, type := _, pos := _, after := _, guard := _ }) (v := ?_) rfl (by kernel_rfl) (by kernel_rfl) (by kernel_rfl) (fun _ _ _ h => h) (Or.inl ⟨by rfl, ?_⟩) hH ?_
      rotate_left
      · intro w9 hSw
        try dsimp only at hSw
        obtain ⟨s0, s1⟩ := hSw
        go_simp
        try with_reducible rfl
      try simp only [Act.put, List.setIfInBounds_toArray, List.set_cons_zero, List.set_cons_succ]
      refine wpAnyH_take (i := 1) (oi := { dst := _, op := _, type := _, pos := _, after := _, guard := _ }) (v := ?_) rfl (by kernel_rfl) (by kernel_rfl) (by kernel_rfl) (fun _ _ _ h => h) (Or.inl ⟨by rfl, ?_⟩) hH ?_
      rotate_left
      · intro w9 hSw
        try dsimp only at hSw
        obtain ⟨s0, s1⟩ := hSw
        go_simp
        try with_reducible rfl
      try simp only [Act.put, List.setIfInBounds_toArray, List.set_cons_zero, List.set_cons_succ]
      refine wpAnyH_ready (rs := [2]) (by kernel_rfl) (by simp) ?_
      refine AllReadyH.cons rfl (fun K hK => ?_) AllReadyH.nil
      have hZ : Below Va.heap.size Va (Va.alloc (.cells #[.int .i64 (-1), .int .i64 0, .int .i64 50, .int .i64 51] 2)) := (Below.refl _ _).alloc (Nat.le_refl _) _
      replace hD := hD.below hZ
      clear e0 e1 hZ
      obtain ⟨e0, e1⟩ := hD.box.c2
      go_simp
      refine hK.out _ _ ⟨e0, e1⟩ (fun hH => ?_)
      clear hK K
      try simp only [Act.put, List.setIfInBounds_toArray, List.set_cons_zero, List.set_cons_succ]
      refine wpAnyH_ready (rs := [3]) (by kernel_rfl) (by simp) ?_
      refine AllReadyH.cons rfl (fun K hK => ?_) AllReadyH.nil
      go_simp
      go_at_call 146
      refine (spec_l01Pick g Va.heap.size [-1, 0, 50, 51] _ hD.src (Blk.newAt _ _ rfl) (by simp) (by simp)).mono ?_
      rintro e vb ⟨nn, hnn, rfl, hN⟩
      have hn9 : -1 ≤ nn ∧ nn ≤ 51 := by simp at hnn; omega
      replace hD := hD.draw hN
      clear hnn hN e0 e1 lbg
      obtain ⟨e0, e1⟩ := hD.box.c2
      refine hK.out _ _ ⟨e0, e1⟩ (fun hH => ?_)
      clear hK K
      try simp only [Act.put, List.setIfInBounds_toArray, List.set_cons_zero, List.set_cons_succ]
      have f0 := hD.res.frozen 0
      have f1 := hD.res.frozen 1
      have lb2 := hD.res.lt
      obtain ⟨r0, r1⟩ := hD.res.c2
      have hF := Lib.hid hD.fin
      have hbx := (hD.box.far (p := ⟨b2, 0, none⟩) (Ne.symm hD.hne) (.int .i64 ge)).far (p := ⟨b2, 1, none⟩) (Ne.symm hD.hne) (.slice A gp.length c)
      obtain ⟨x0, x1⟩ := hbx.c2
      refine wpAnyH_ready (rs := [4]) (by kernel_rfl) (by simp) ?_
      refine AllReadyH.cons rfl (fun K hK => ?_) AllReadyH.nil
      go_simp
      refine hK.out _ _ ⟨x0, x1⟩ (fun hH => ?_)
      clear hK K
      try simp only [Act.put, List.setIfInBounds_toArray, List.set_cons_zero, List.set_cons_succ]
      refine wpAnyH_take (i := 5) (oi := { dst := _, op := _, type := _, pos := _, after := _, guard := _ }) (v := ?_) rfl (by kernel_rfl) (by kernel_rfl) (by kernel_rfl) (fun _ _ _ h => h) (Or.inl ⟨by rfl, ?_⟩) hH ?_
      rotate_left
      · intro w9 hSw
        try dsimp only at hSw
        obtain ⟨s0, s1⟩ := hSw
        go_simp
        try with_reducible rfl
      try simp only [Act.put, List.setIfInBounds_toArray, List.set_cons_zero, List.set_cons_succ]
      refine wpAnyH_done (by kernel_rfl) ?_ _
      clear hH hD hbx x0 x1 e0 e1
      go_wp2
      refine bodyPost_ret (v := .tuple #[.agg #[.int .i64 ge, .slice A gp.length c], .int .i64 nn]) (by simp [results, Try.results145, go_sem, r0, r1]) rfl ⟨ge, gp, _, nn, rfl, by omega, by omega, by omega, by omega, by omega, hF.out.1, hF.out.2⟩
    · have q24 : (y24 == 0) = false := by simpa using hz
      clear hz
      have hBd : Below wa.heap.size wa wa.drew := Below.drew (Below.refl _ wa)
      replace hD := hD.below hBd
      obtain ⟨e0, e1⟩ := hD.box.c2
      have lbg := hD.box.lt
      clear hBd
      go_wp2_with fail
      refine wp_region_held_drew (S := fun w' => w'.cell? ⟨bg, 0, none⟩ = some (.int .i64 ge) ∧ w'.cell? ⟨bg, 1, none⟩ = some (.slice A gp.length c)) (by kernel_rfl) ⟨e0, e1⟩ (fun hH => ?_)
      generalize wa.drew = Va at *
      refine wpAnyH_take (i := 0) (oi := { dst := _, op := _, type := _, pos := _, after := _, guard := _ }) (v := ?_) rfl (by kernel_rfl) (by kernel_rfl) (by kernel_rfl) (fun _ _ _ h => h) (Or.inl ⟨by rfl, ?_⟩) hH ?_
      rotate_left
      · intro w9 hSw
        try dsimp only at hSw
        obtain ⟨s0, s1⟩ := hSw
        go_simp
        try with_reducible rfl
      try simp only [Act.put, List.setIfInBounds_toArray, List.set_cons_zero, List.set_cons_succ]
      refine wpAnyH_take (i := 1) (oi := { dst := _, op := _, type := _, pos := _, after := _, guard := _ }) (v := ?_) rfl (by kernel_rfl) (by kernel_rfl) (by kernel_rfl) (fun _ _ _ h => h) (Or.inl ⟨by rfl, ?_⟩) hH ?_
      rotate_left
      · intro w9 hSw
        try dsimp only at hSw
        obtain ⟨s0, s1⟩ := hSw
        go_simp
        try with_reducible rfl
      try simp only [Act.put, List.setIfInBounds_toArray, List.set_cons_zero, List.set_cons_succ]
      refine wpAnyH_ready (rs := [2]) (by kernel_rfl) (by simp) ?_
      refine AllReadyH.cons rfl (fun K hK => ?_) AllReadyH.nil
      go_simp
      go_at_call 147
      refine (spec_l01Next g 9 _ hD.src (by omega)).mono ?_
      rintro e vb ⟨nn, rfl, hnn, hN⟩
      replace hD := hD.draw hN
      have hn9 : 0 ≤ nn ∧ nn < 9 := ⟨hnn.1, hnn.2.1 (by omega)⟩
      clear hnn hN e0 e1 lbg
      obtain ⟨e0, e1⟩ := hD.box.c2
      refine hK.out _ _ ⟨e0, e1⟩ (fun hH => ?_)
      clear hK K
      try simp only [Act.put, List.setIfInBounds_toArray, List.set_cons_zero, List.set_cons_succ]
      have f0 := hD.res.frozen 0
      have f1 := hD.res.frozen 1
      have lb2 := hD.res.lt
      obtain ⟨r0, r1⟩ := hD.res.c2
      have hF := Lib.hid hD.fin
      have hbx := (hD.box.far (p := ⟨b2, 0, none⟩) (Ne.symm hD.hne) (.int .i64 ge)).far (p := ⟨b2, 1, none⟩) (Ne.symm hD.hne) (.slice A gp.length c)
      obtain ⟨x0, x1⟩ := hbx.c2
      refine wpAnyH_ready (rs := [3]) (by kernel_rfl) (by simp) ?_
      refine AllReadyH.cons rfl (fun K hK => ?_) AllReadyH.nil
      go_simp
      refine hK.out _ _ ⟨x0, x1⟩ (fun hH => ?_)
      clear hK K
      try simp only [Act.put, List.setIfInBounds_toArray, List.set_cons_zero, List.set_cons_succ]
      refine wpAnyH_take (i := 4) (oi := { dst := _, op := _, type := _, pos := _, after := _, guard := _ }) (v := ?_) rfl (by kernel_rfl) (by kernel_rfl) (by kernel_rfl) (fun _ _ _ h => h) (Or.inl ⟨by rfl, ?_⟩) hH ?_
      rotate_left
      · intro w9 hSw
        try dsimp only at hSw
        obtain ⟨s0, s1⟩ := hSw
        go_simp
        try with_reducible rfl
      try simp only [Act.put, List.setIfInBounds_toArray, List.set_cons_zero, List.set_cons_succ]
      refine wpAnyH_done (by kernel_rfl) ?_ _
      clear hH hD hbx x0 x1 e0 e1
      go_wp2
      refine bodyPost_ret (v := .tuple #[.agg #[.int .i64 ge, .slice A gp.length c], .int .i64 nn]) (by simp [results, Try.results145, go_sem, r0, r1]) rfl ⟨ge, gp, _, nn, rfl, by omega, by omega, by omega, by omega, by omega, hF.out.1, hF.out.2⟩
set_option maxHeartbeats 8000000 in
set_option maxRecDepth 100000 in
theorem spec_DrawStartedTimes (cv : Value) (bs : List Int) (w : World) (h0 : Lst byteCell 1 w w.heap.size cv bs) (hbv : Hid (∀ b ∈ bs, 0 ≤ b ∧ b ≤ 255)) :
    Calls Try.prog 50 #[cv] w fun e w' => ∃ ge gp v n u l, e = .returned (.tuple #[.agg #[.int .i64 ge, v], .int .i64 n, u]) ∧ 0 ≤ ge ∧ ge ≤ 11 ∧ gp.length ≤ 40 ∧ -1 ≤ n ∧ n ≤ 51 ∧ l.length ≤ 20 ∧ Own Place.cells 4 65 w' w.heap.size v gp ∧ Own intCell 1 2 w' w.heap.size u l ∧ Below w.heap.size w w' := by
  go_enter Try.func50, Try.ntmps50
  go_wp2_with fail
  have hA : Below w.heap.size w (w.alloc (.cells #[.int .i64 0, .slice none 0 0] 32)) := (Below.refl _ _).alloc (Nat.le_refl _) _
  have hres := Blk.newAt w (t := 32) (cs := #[.int .i64 0, .slice none 0 0]) _ rfl
  have hszA : (w.alloc (.cells #[.int .i64 0, .slice none 0 0] 32)).heap.size = w.heap.size + 1 := by simp
  refine (spec_l01From _ bs _ (h0.now hA) hbv).mono ?_
  rintro e w1 ⟨rfl, hS, hB1⟩
  rw [hszA] at hS hB1 ⊢
  have hB : Below w.heap.size w w1 := hA.trans (hB1.mono (by omega))
  replace hres := hres.below hB1 (by omega)
  obtain ⟨b2, hb2⟩ : ∃ b2, w.heap.size = b2 := ⟨_, rfl⟩
  obtain ⟨g, hg⟩ : ∃ g, w.heap.size + 1 = g := ⟨_, rfl⟩
  have hgb : w.heap.size ≤ g := by omega
  rw [hg] at hS ⊢
  rw [hb2] at hres
  rw [show (Value.pointer (some ⟨w.heap.size, 0, none⟩)) = .pointer (some ⟨b2, 0, none⟩) by rw [hb2]]
  have hb2w : w.heap.size ≤ b2 := by omega
  have hs1 := hB.size
  clear hA hszA hB1 hb2 hg
  go_wp2_with fail
  refine (spec_l13Draw g _ hS).mono ?_
  rintro e w2 ⟨ge, gp, v, n, rfl, hg0, hg1, hlen, hn1, hn2, hO, hN⟩
  obtain ⟨A, c, rfl⟩ := hO.shape
  replace hO := hO.rebase hs1
  replace hres := blk_draw hres (by decide) hS hN
  replace hB := below_draw hB hs1 hgb hN
  replace hS := hN.1
  have hs2 := hB.size
  clear hN hs1
  have hA2 : Below w2.heap.size w2 ((w2.alloc (.cells #[.int .i64 ge, .slice A gp.length c] 32)).alloc (.cells #[] 2)) := ((Below.refl _ _).alloc (Nat.le_refl _) _).alloc (by simp) _
  have hbox := (Blk.newAt w2 (t := 32) (cs := #[.int .i64 ge, .slice A gp.length c]) _ rfl).alloc (.cells #[] 2)
  have hU : Own intCell 1 2 ((w2.alloc (.cells #[.int .i64 ge, .slice A gp.length c] 32)).alloc (.cells #[] 2)) (g + 1) (.slice (some ⟨w2.heap.size + 1, 0, none⟩) 0 0) ([] : List Int) := by
    have hSl := hS.lt
    have := own_new0 intCell 1 (w2.alloc (.cells #[.int .i64 ge, .slice A gp.length c] 32)) 2 (g + 1) (by simp; omega)
    simpa using this
  go_wp2_with fail
  replace hO := hO.now hA2
  replace hres := hres.now hA2
  replace hB := hB.trans (hA2.mono hs2)
  replace hS := hS.now hA2
  generalize ((w2.alloc (.cells #[.int .i64 ge, .slice A gp.length c] 32)).alloc (.cells #[] 2)) = w3 at *
  generalize w2.heap.size + 1 = ub at *
  obtain ⟨bg, hbg⟩ : ∃ bg, w2.heap.size = bg := ⟨_, rfl⟩
  rw [hbg] at hbox ⊢
  clear hA2 hs2 hbg
  go_loopw [8, 9] (fun uv ev wr => ∃ (k : Nat) (l : List Int), ev = .int .i64 k ∧ (k : Int) ≤ ge ∧ l.length = k ∧ Own Place.cells 4 65 wr w.heap.size (.slice A gp.length c) gp ∧ Own intCell 1 2 wr (g + 1) uv l ∧ Blk wr b2 32 #[.int .i64 0, .slice none 0 0] ∧ Blk wr bg 32 #[.int .i64 ge, .slice A gp.length c] ∧ Below w.heap.size w wr ∧ Src wr g) (fun _ ev _ => 20 - (intOf ev).toNat)
  case atStart => exact ⟨0, [], rfl, by omega, rfl, hO, hU, hres, hbox, hB, hS⟩
  case round =>
    clear hO hU hres hbox hB hS
    obtain ⟨k, l, rfl, hk, hl, hO, hU, hres, hbox, hB, hS⟩ := hrel
    obtain ⟨Y, cy, rfl⟩ := own_shape_n hU hl
    have l0 := hbox.lt
    obtain ⟨e0, e1⟩ := hbox.c2
    by_cases hlt : (k : Int) < ge
    · go_wp2_with fail
      refine (spec_l01Next g 30 _ hS (by omega)).mono ?_
      rintro e wa ⟨x3, rfl, hx3, hN⟩
      replace hO := own_draw hO (by decide) hS hN
      replace hU := own_draw hU (by decide) hS hN
      replace hres := blk_draw hres (by decide) hS hN
      replace hbox := blk_draw hbox (by decide) hS hN
      replace hB := below_draw hB hB.size hgb hN
      replace hS := hN.1
      clear hN hx3 e0 e1 l0
      have l0 := hbox.lt
      obtain ⟨e0, e1⟩ := hbox.c2
      go_wp2_with fail
      clear l0 e0 e1
      have hZ : Below wa.heap.size wa (wa.alloc (.cells #[.int .i64 0, .int .i64 x3] 2)) := (Below.refl _ _).alloc (Nat.le_refl _) _
      replace hO := hO.now hZ
      replace hU := hU.now hZ
      replace hres := hres.now hZ
      replace hbox := hbox.now hZ
      replace hB := hB.trans (hZ.mono hB.size)
      replace hS := hS.now hZ
      clear hZ
      refine (spec_l01Pick g wa.heap.size [0, x3] _ hS (Blk.newAt _ _ rfl) (by simp) (by simp)).mono ?_
      rintro e wk ⟨pk, hpk, rfl, hN⟩
      replace hO := own_draw hO (by decide) hS hN
      replace hU := own_draw hU (by decide) hS hN
      replace hres := blk_draw hres (by decide) hS hN
      replace hbox := blk_draw hbox (by decide) hS hN
      replace hB := below_draw hB hB.size hgb hN
      replace hS := hN.1
      clear hN hpk
      obtain ⟨wa, rfl⟩ : ∃ wa : World, wa = wk := ⟨_, rfl⟩
      have hs3 := hB.size
      have hSl := hS.lt
      have hlenA : ∀ y : Int, l.length + [y].length ≤ 1099511627776 := by intro y; simp; omega
      have l0 := hbox.lt
      obtain ⟨e0, e1⟩ := hbox.c2
      have hZ : Below wa.heap.size wa (wa.alloc (.cells #[.int .i64 (pk)] 2)) := (Below.refl _ _).alloc (Nat.le_refl _) _
      have hO9' := Lib.hid (hO.now hZ)
      have hU9' := Lib.hid (hU.now hZ)
      have hr9' := Lib.hid (hres.now hZ)
      have hx9' := Lib.hid (hbox.now hZ)
      have hS9' := Lib.hid (hS.now hZ)
      have hB9' := Lib.hid (hB.trans (hZ.mono hB.size))
      have hLL : Hid ((l ++ [(pk : Int)]).length = k + 1) := by show _ = _; simp [hl]
      clear hO hU hres hbox hB hS
      go_wp2_with (at_builtin; refine wpList_append_lst rfl _ _ 37 rfl intCell 1 intCell_one (by omega) (g + 1) 2 _ 8 Try.underlying37 info_i64 rfl _ _ rfl hU9'.out _ _ _ _ [pk] rfl (lst_new1 _ _ intCell_len _ _ _ _ rfl _ (by simp)) (hlenA _) (by omega) (Nat.le_of_lt (by simp; omega)) ?_; intro v' w9 hO1 hG1 hD1; obtain ⟨V1, cv1, rfl⟩ := own_shape_n hO1 hLL.out; have hO9 := own_kept hO9'.out hG1 (own_ne_own hO9'.out hU9'.out (by decide)); have hr9 := hr9'.out.grown hG1 (fun e => hU9'.out.ne_blk hr9'.out (by decide) e.symm); have hx9 := hx9'.out.grown hG1 (fun e => hU9'.out.ne_blk hx9'.out (by decide) e.symm); have hS9 := hS9'.out.kept hG1 (fun k e => by have := (hU9'.out.lt k e).1; omega); have hB9 := hB9'.out.grown hG1 hB9'.out.size (fun k e => by have := (hU9'.out.lt k e).1; omega))
      go_roundw
      case rel => exact ⟨k + 1, l ++ [pk], by go_num, by omega, hLL.out, hO9, hO1, hr9, hx9, hB9, hS9⟩
      case measure => simp [intOf]; omega
    · go_wp2_with fail
      refine (spec_l01Next g 24 _ hS (by omega)).mono ?_
      rintro e wa ⟨y, rfl, hy, hN⟩
      replace hO := own_draw hO (by decide) hS hN
      replace hU := own_draw hU (by decide) hS hN
      replace hres := blk_draw hres (by decide) hS hN
      replace hbox := blk_draw hbox (by decide) hS hN
      replace hB := below_draw hB hB.size hgb hN
      replace hS := hN.1
      clear hN hy e0 e1 l0
      have hs3 := hB.size
      have hSl := hS.lt
      have hlenA : ∀ y : Int, l.length + [y].length ≤ 1099511627776 := by intro y; simp; omega
      by_cases hy0 : y = 0
      · subst hy0
        have l0 := hbox.lt
        obtain ⟨e0, e1⟩ := hbox.c2
        have hZ : Below wa.heap.size wa (wa.alloc (.cells #[.int .i64 (0)] 2)) := (Below.refl _ _).alloc (Nat.le_refl _) _
        have hO9' := Lib.hid (hO.now hZ)
        have hU9' := Lib.hid (hU.now hZ)
        have hr9' := Lib.hid (hres.now hZ)
        have hx9' := Lib.hid (hbox.now hZ)
        have hS9' := Lib.hid (hS.now hZ)
        have hB9' := Lib.hid (hB.trans (hZ.mono hB.size))
        have hLL : Hid ((l ++ [(0 : Int)]).length = k + 1) := by show _ = _; simp [hl]
        clear hO hU hres hbox hB hS
        go_wp2_with (at_builtin; refine wpList_append_lst rfl _ _ 37 rfl intCell 1 intCell_one (by omega) (g + 1) 2 _ 8 Try.underlying37 info_i64 rfl _ _ rfl hU9'.out _ _ _ _ [0] rfl (lst_new1 _ _ intCell_len _ _ _ _ rfl _ (by simp)) (hlenA _) (by omega) (Nat.le_of_lt (by simp; omega)) ?_; intro v' w9 hO1 hG1 hD1; obtain ⟨V1, cv1, rfl⟩ := own_shape_n hO1 hLL.out; have hO9 := own_kept hO9'.out hG1 (own_ne_own hO9'.out hU9'.out (by decide)); have hr9 := hr9'.out.grown hG1 (fun e => hU9'.out.ne_blk hr9'.out (by decide) e.symm); have hx9 := hx9'.out.grown hG1 (fun e => hU9'.out.ne_blk hx9'.out (by decide) e.symm); have hS9 := hS9'.out.kept hG1 (fun k e => by have := (hU9'.out.lt k e).1; omega); have hB9 := hB9'.out.grown hG1 hB9'.out.size (fun k e => by have := (hU9'.out.lt k e).1; omega); clear e0 e1 l0; obtain ⟨e0, e1⟩ := hx9.c2; have l0 := hx9.lt; have f0 := hr9.frozen 0; have f1 := hr9.frozen 1; have lb2 := hr9.lt; obtain ⟨r0, r1⟩ := hr9.c2)
        have l0 := hx9.lt
        obtain ⟨e0, e1⟩ := hx9.c2
        have f0 := hr9.frozen 0
        have f1 := hr9.frozen 1
        have lb2 := hr9.lt
        obtain ⟨r0, r1⟩ := hr9.c2
        have hq1 := Lib.hid (own_far (own_far hO9 (p := ⟨b2, 0, none⟩) (hO9.ne_blk hr9 (by decide)) (.int .i64 ge)) (p := ⟨b2, 1, none⟩) (hO9.ne_blk hr9 (by decide)) (.slice A gp.length c))
        have hq2 := Lib.hid (Own.rebase (base' := w.heap.size) (own_far (own_far hO1 (p := ⟨b2, 0, none⟩) (hO1.ne_blk hr9 (by decide)) (.int .i64 ge)) (p := ⟨b2, 1, none⟩) (hO1.ne_blk hr9 (by decide)) (.slice A gp.length c)) (by omega))
        have hq3 := Lib.hid ((hB9.setCell (p := ⟨b2, 0, none⟩) hb2w (.int .i64 ge)).setCell (p := ⟨b2, 1, none⟩) hb2w (.slice A gp.length c))
        refine bodyPost_ret (v := .tuple #[.agg #[.int .i64 ge, .slice A gp.length c], .int .i64 n, _]) (by simp [results, Try.results50, go_sem, r0, r1]) rfl ⟨ge, gp, _, n, _, _, rfl, by omega, by omega, by omega, by omega, by omega, by first | omega | (simp; omega), hq1.out, hq2.out, hq3.out⟩
      · have q0 : (y == 0) = false := by simpa using hy0
        by_cases hy1 : y = 1
        · subst hy1
          by_cases hk0 : 0 < k
          · have l0 := hbox.lt
            obtain ⟨e0, e1⟩ := hbox.c2
            go_wp2_with fail
            clear l0 e0 e1
            have hZ : Below wa.heap.size wa (wa.alloc (.cells #[.int .i64 (-1), .int .i64 1000000, .int .i64 1000001] 2)) := (Below.refl _ _).alloc (Nat.le_refl _) _
            replace hO := hO.now hZ
            replace hU := hU.now hZ
            replace hres := hres.now hZ
            replace hbox := hbox.now hZ
            replace hB := hB.trans (hZ.mono hB.size)
            replace hS := hS.now hZ
            clear hZ
            refine (spec_l01Pick g wa.heap.size [-1, 1000000, 1000001] _ hS (Blk.newAt _ _ rfl) (by simp) (by simp)).mono ?_
            rintro e wk ⟨pk, hpk, rfl, hN⟩
            replace hO := own_draw hO (by decide) hS hN
            replace hU := own_draw hU (by decide) hS hN
            replace hres := blk_draw hres (by decide) hS hN
            replace hbox := blk_draw hbox (by decide) hS hN
            replace hB := below_draw hB hB.size hgb hN
            replace hS := hN.1
            clear hN hpk
            obtain ⟨bu, cu, hu, hub, hul, huf, _⟩ := hU.at_ intCell_len 0 (by omega)
            obtain rfl : Y = some ⟨bu, 0, none⟩ := by injection hu
            have hfu := huf 0
            have hU9 := hU.set1 0 (by omega) pk
            have hO9 : Own Place.cells 4 65 (wk.setCell ⟨bu, 0, none⟩ (.int .i64 pk)) w.heap.size (.slice A gp.length c) gp := own_far hO (p := ⟨bu, 0, none⟩) (fun e => own_ne_own hO hU (by decide) bu e rfl) (.int .i64 pk)
            have hr9 := hres.far (p := ⟨bu, 0, none⟩) (fun e => hU.ne_blk hres (by decide) (by rw [e]; rfl)) (.int .i64 pk)
            have hx9 := hbox.far (p := ⟨bu, 0, none⟩) (fun e => hU.ne_blk hbox (by decide) (by rw [e]; rfl)) (.int .i64 pk)
            have hB9 := hB.setCell (p := ⟨bu, 0, none⟩) (by show w.heap.size ≤ bu; omega) (.int .i64 pk)
            obtain ⟨_, _, _, hcu⟩ := own_ints_at hU 0 (by omega)
            clear hO hU hres hbox hB hS hu
            have l0 := hx9.lt
            obtain ⟨e0, e1⟩ := hx9.c2
            have f0 := hr9.frozen 0
            have f1 := hr9.frozen 1
            have lb2 := hr9.lt
            obtain ⟨r0, r1⟩ := hr9.c2
            have hq1 := Lib.hid (own_far (own_far hO9 (p := ⟨b2, 0, none⟩) (hO9.ne_blk hr9 (by decide)) (.int .i64 ge)) (p := ⟨b2, 1, none⟩) (hO9.ne_blk hr9 (by decide)) (.slice A gp.length c))
            have hq2 := Lib.hid (Own.rebase (base' := w.heap.size) (own_far (own_far hU9 (p := ⟨b2, 0, none⟩) (hU9.ne_blk hr9 (by decide)) (.int .i64 ge)) (p := ⟨b2, 1, none⟩) (hU9.ne_blk hr9 (by decide)) (.slice A gp.length c)) (by omega))
            have hq3 := Lib.hid ((hB9.setCell (p := ⟨b2, 0, none⟩) hb2w (.int .i64 ge)).setCell (p := ⟨b2, 1, none⟩) hb2w (.slice A gp.length c))
            go_wp2
            refine bodyPost_ret (v := .tuple #[.agg #[.int .i64 ge, .slice A gp.length c], .int .i64 n, _]) (by simp [results, Try.results50, go_sem, r0, r1]) rfl ⟨ge, gp, _, n, _, _, rfl, by omega, by omega, by omega, by omega, by omega, by first | omega | (simp; omega), hq1.out, hq2.out, hq3.out⟩
          · obtain rfl : k = 0 := by omega
            have hl0 : l.length = 0 := hl
            have l0 := hbox.lt
            obtain ⟨e0, e1⟩ := hbox.c2
            have f0 := hres.frozen 0
            have f1 := hres.frozen 1
            have lb2 := hres.lt
            obtain ⟨r0, r1⟩ := hres.c2
            have hq1 := Lib.hid (own_far (own_far hO (p := ⟨b2, 0, none⟩) (hO.ne_blk hres (by decide)) (.int .i64 ge)) (p := ⟨b2, 1, none⟩) (hO.ne_blk hres (by decide)) (.slice A gp.length c))
            have hq2 := Lib.hid (Own.rebase (base' := w.heap.size) (own_far (own_far hU (p := ⟨b2, 0, none⟩) (hU.ne_blk hres (by decide)) (.int .i64 ge)) (p := ⟨b2, 1, none⟩) (hU.ne_blk hres (by decide)) (.slice A gp.length c)) (by omega))
            have hq3 := Lib.hid ((hB.setCell (p := ⟨b2, 0, none⟩) hb2w (.int .i64 ge)).setCell (p := ⟨b2, 1, none⟩) hb2w (.slice A gp.length c))
            go_wp2
            refine bodyPost_ret (v := .tuple #[.agg #[.int .i64 ge, .slice A gp.length c], .int .i64 n, _]) (by simp [results, Try.results50, go_sem, r0, r1]) rfl ⟨ge, gp, _, n, _, _, rfl, by omega, by omega, by omega, by omega, by omega, by first | omega | (simp; omega), hq1.out, hq2.out, hq3.out⟩
        · have q1 : (y == 1) = false := by simpa using hy1
          clear hy0 hy1
          have l0 := hbox.lt
          obtain ⟨e0, e1⟩ := hbox.c2
          have f0 := hres.frozen 0
          have f1 := hres.frozen 1
          have lb2 := hres.lt
          obtain ⟨r0, r1⟩ := hres.c2
          have hq1 := Lib.hid (own_far (own_far hO (p := ⟨b2, 0, none⟩) (hO.ne_blk hres (by decide)) (.int .i64 ge)) (p := ⟨b2, 1, none⟩) (hO.ne_blk hres (by decide)) (.slice A gp.length c))
          have hq2 := Lib.hid (Own.rebase (base' := w.heap.size) (own_far (own_far hU (p := ⟨b2, 0, none⟩) (hU.ne_blk hres (by decide)) (.int .i64 ge)) (p := ⟨b2, 1, none⟩) (hU.ne_blk hres (by decide)) (.slice A gp.length c)) (by omega))
          have hq3 := Lib.hid ((hB.setCell (p := ⟨b2, 0, none⟩) hb2w (.int .i64 ge)).setCell (p := ⟨b2, 1, none⟩) hb2w (.slice A gp.length c))
          go_wp2
          refine bodyPost_ret (v := .tuple #[.agg #[.int .i64 ge, .slice A gp.length c], .int .i64 n, _]) (by simp [results, Try.results50, go_sem, r0, r1]) rfl ⟨ge, gp, _, n, _, _, rfl, by omega, by omega, by omega, by omega, by omega, by first | omega | (simp; omega), hq1.out, hq2.out, hq3.out⟩
end Go.Proofs.Ytpkkkigiiaegfaa
