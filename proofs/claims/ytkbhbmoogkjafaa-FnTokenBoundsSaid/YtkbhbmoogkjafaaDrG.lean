/-
  The walks of the draws of a graph and a number of firings, and of starts.
-/
import Derived.Test.YtkbhbmoogkjafaaDrC
namespace Go.Proofs.Ytkbhbmoogkjafaa
open Go.RowKit
set_option linter.unusedVariables false
set_option linter.unusedSimpArgs false
/-- Another graph is drawn and laid into the box. -/
theorem Dr.regraph {w0 W W' : World} {g b2 bg : Nat} {ge ge' : Int} {v v' : Value} {gp gp' : List Place} (h : Dr w0 g b2 bg W ge v gp) (hN : Drawn W g W') (hO : Own Place.cells 4 45 W' W.heap.size v' gp') :
    Dr w0 g b2 bg ((W'.setCell ⟨bg, 0, none⟩ (.int .i64 ge')).setCell ⟨bg, 1, none⟩ v') ge' v' gp' := by
  have hD := h.draw hN
  have hg := h.hg
  have h2 := h.hbg
  have hO' := hO.rebase h.grown.size
  have hneB := hO'.ne_blk hD.box (by decide)
  refine ⟨(hD.src.kept (grown_setC W' ⟨bg, 0, none⟩ _) (fun k e => by injection e with e; simp only at e; omega)).kept (grown_setC _ ⟨bg, 1, none⟩ _) (fun k e => by injection e with e; simp only at e; omega), ?_, (hD.res.far (p := ⟨bg, 0, none⟩) h.hne _).far (p := ⟨bg, 1, none⟩) h.hne _, hD.box.set2a.set2b, own_far (own_far hO' (p := ⟨bg, 0, none⟩) hneB _) (p := ⟨bg, 1, none⟩) hneB _, h.hb2, h.hbg, h.hne, hg⟩
  have hG := hD.grown
  exact ⟨hG.os, hG.tape, hG.output, by simpa [World.setCell] using hG.size, fun i hi hne => (Below.heap_setCell _ ⟨bg, 1, none⟩ _ i (by simp only; omega)).trans ((Below.heap_setCell W' ⟨bg, 0, none⟩ _ i (by simp only; omega)).trans (hG.block i hi hne))⟩
set_option maxHeartbeats 8000000 in
set_option maxRecDepth 100000 in
theorem spec_l13Draw (g : Nat) (w : World) (h : Src w g) :
    Calls Try.prog 103 #[.pointer (some ⟨g, 0, none⟩)] w fun e w' => ∃ ge gp v n, e = .returned (.tuple #[.agg #[.int .i64 ge, v], .int .i64 n]) ∧ 0 ≤ ge ∧ ge ≤ 11 ∧ gp.length ≤ 40 ∧ -1 ≤ n ∧ n ≤ 51 ∧ Own Place.cells 4 45 w' w.heap.size v gp ∧ Drawn w g w' := by
  have hgw := h.lt
  go_enter Try.func103, Try.ntmps103
  go_wp2_with fail
  have hA : Below w.heap.size w (w.alloc (.cells #[.int .i64 0, .slice none 0 0] 26)) := (Below.refl _ _).alloc (Nat.le_refl _) _
  refine (spec_l11Draw g _ (h.now hA)).mono ?_
  rintro e w1 ⟨ge, gp, v, rfl, hg0, hg1, hlen, hO, hN⟩
  obtain ⟨A, c, rfl⟩ := hO.shape
  have hres := (Blk.new w 26 #[.int .i64 0, .slice none 0 0]).grown hN.2 (fun e => by injection e with e; omega)
  have hG1 := grown_trans (grown_of_below (r := some g) hA) hN.2
  have hs1 := hG1.size
  have hlt1 := hres.lt
  have hA2 : Below w1.heap.size w1 (w1.alloc (.cells #[.int .i64 ge, .slice A gp.length c] 26)) := (Below.refl _ _).alloc (Nat.le_refl _) _
  have hD : Dr w g w.heap.size w1.heap.size (w1.alloc (.cells #[.int .i64 ge, .slice A gp.length c] 26)) ge (.slice A gp.length c) gp :=
    ⟨hN.1.now hA2, grown_trans hG1 (grown_of_below hA2), hres.now hA2, Blk.newAt _ _ rfl, (hO.rebase hA.size).now hA2, Nat.le_refl _, hs1, by omega, hgw⟩
  go_wp2_with fail
  obtain ⟨bg, hbg⟩ : ∃ bg, w1.heap.size = bg := ⟨_, rfl⟩
  obtain ⟨b2, hb2⟩ : ∃ b2, w.heap.size = b2 := ⟨_, rfl⟩
  have hD' : Dr w g b2 bg (w1.alloc (.cells #[.int .i64 ge, .slice A gp.length c] 26)) ge (.slice A gp.length c) gp := by rw [← hb2, ← hbg]; exact hD
  rw [hbg]
  rw [show (Value.pointer (some ⟨w.heap.size, 0, none⟩)) = .pointer (some ⟨b2, 0, none⟩) by rw [hb2]]
  clear hN hO hres hG1 hs1 hlt1 hD hA hA2 hbg hb2
  generalize w1.alloc (.cells #[.int .i64 ge, .slice A gp.length c] 26) = W2 at *
  refine (spec_l01Next g 20 _ hD'.src (by omega)).mono ?_
  rintro e w2 ⟨y20, rfl, hy, hN⟩
  have hD := hD'.draw hN
  clear hy hN hD'
  by_cases hy0 : y20 = 0
  · have q20 : (y20 == 0) = true := by simp [hy0]
    clear hy0
    go_wp2_with fail
    refine (spec_l12Draw g _ hD.src).mono ?_
    rintro e w3 ⟨ge', gp', v', rfl, hg0', hg1', hlen', hO', hN'⟩
    obtain ⟨A', c', rfl⟩ := hO'.shape
    have hDn := hD.regraph (ge' := ge') hN' hO'
    have hDd := hD.draw hN'
    have f0 := hDd.box.frozen 0
    have f1 := hDd.box.frozen 1
    have lb := hDd.box.lt
    obtain ⟨e0, e1⟩ := hDd.box.c2
    clear hD hDd hN' hO' hg0 hg1 hlen
    have hDnH := Lib.hid hDn
    clear hDn
    go_wp2_with fail
    have hD := hDnH.out
    clear f0 f1 lb e0 e1 hDnH
    generalize ((w3.setCell ⟨bg, 0, none⟩ (.int .i64 ge')).setCell ⟨bg, 1, none⟩ (.slice A' gp'.length c')) = W4 at *
    refine (spec_l01Next g 24 _ hD.src (by omega)).mono ?_
    rintro e wa ⟨y24, rfl, hy24, hN⟩
    replace hD := hD.draw hN
    clear hy24 hN
    by_cases hz : y24 = 0
    · have q24 : (y24 == 0) = true := by simp [hz]
      clear hz
      have hBd : Below wa.heap.size wa wa.drew := Below.drew (Below.refl _ wa)
      replace hD := hD.below hBd
      obtain ⟨e0, e1⟩ := hD.box.c2
      have lbg := hD.box.lt
      clear hBd
      go_wp2_with fail
      refine wp_region_held_drew (S := fun w' => w'.cell? ⟨bg, 0, none⟩ = some (.int .i64 ge') ∧ w'.cell? ⟨bg, 1, none⟩ = some (.slice A' gp'.length c')) (by kernel_rfl) ⟨e0, e1⟩ (fun hH => ?_)
      generalize wa.drew = Va at *
      refine wpAnyH_take (i := 0) (oi := { dst := _, op := _, type := _, pos := _, after := _, guard := _ }) (v := ?_) rfl (by kernel_rfl) (by kernel_rfl) (by kernel_rfl) (fun _ _ _ h => h) (Or.inl ⟨by rfl, ?_⟩) hH ?_
      rotate_left
      · intro w9 hSw
        try dsimp only at hSw
        obtain ⟨s0, s1⟩ := hSw
        go_simp
        try with_reducible rfl
      try simp only [Act.put, List.setIfInBounds_toArray, List.set_cons_zero, List.set_cons_succ]
      refine wpAnyH_take (i := 1) (oi := { dst := _, op := _, type := _, pos := _, after := _, guard := _ }) (v := ?_) rfl (by kernel_rfl) (by kernel_rfl) (by kernel_rfl) (fun _ _ _ h => h) (Or.inl ⟨by rfl, ?_⟩) hH ?_
      rotate_left
      · intro w9 hSw
        try dsimp only at hSw
        obtain ⟨s0, s1⟩ := hSw
        go_simp
        try with_reducible rfl
      try simp only [Act.put, List.setIfInBounds_toArray, List.set_cons_zero, List.set_cons_succ]
      refine wpAnyH_ready (rs := [2]) (by kernel_rfl) (by simp) ?_
      refine AllReadyH.cons rfl (fun K hK => ?_) AllReadyH.nil
      have hZ : Below Va.heap.size Va (Va.alloc (.cells #[.int .i64 (-1), .int .i64 0, .int .i64 50, .int .i64 51] 2)) := (Below.refl _ _).alloc (Nat.le_refl _) _
      replace hD := hD.below hZ
      clear e0 e1 hZ
      obtain ⟨e0, e1⟩ := hD.box.c2
      go_simp
      refine hK.out _ _ ⟨e0, e1⟩ (fun hH => ?_)
      clear hK K
      try simp only [Act.put, List.setIfInBounds_toArray, List.set_cons_zero, List.set_cons_succ]
      refine wpAnyH_ready (rs := [3]) (by kernel_rfl) (by simp) ?_
      refine AllReadyH.cons rfl (fun K hK => ?_) AllReadyH.nil
      go_simp
      go_at_call 111
      refine (spec_l01Pick g Va.heap.size [-1, 0, 50, 51] _ hD.src (Blk.newAt _ _ rfl) (by simp) (by simp)).mono ?_
      rintro e vb ⟨nn, hnn, rfl, hN⟩
      have hn9 : -1 ≤ nn ∧ nn ≤ 51 := by simp at hnn; omega
      replace hD := hD.draw hN
      clear hnn hN e0 e1 lbg
      obtain ⟨e0, e1⟩ := hD.box.c2
      refine hK.out _ _ ⟨e0, e1⟩ (fun hH => ?_)
      clear hK K
      try simp only [Act.put, List.setIfInBounds_toArray, List.set_cons_zero, List.set_cons_succ]
      have f0 := hD.res.frozen 0
      have f1 := hD.res.frozen 1
      have lb2 := hD.res.lt
      obtain ⟨r0, r1⟩ := hD.res.c2
      have hF := Lib.hid hD.fin
      have hbx := (hD.box.far (p := ⟨b2, 0, none⟩) (Ne.symm hD.hne) (.int .i64 ge')).far (p := ⟨b2, 1, none⟩) (Ne.symm hD.hne) (.slice A' gp'.length c')
      obtain ⟨x0, x1⟩ := hbx.c2
      refine wpAnyH_ready (rs := [4]) (by kernel_rfl) (by simp) ?_
      refine AllReadyH.cons rfl (fun K hK => ?_) AllReadyH.nil
      go_simp
      refine hK.out _ _ ⟨x0, x1⟩ (fun hH => ?_)
      clear hK K
      try simp only [Act.put, List.setIfInBounds_toArray, List.set_cons_zero, List.set_cons_succ]
      refine wpAnyH_take (i := 5) (oi := { dst := _, op := _, type := _, pos := _, after := _, guard := _ }) (v := ?_) rfl (by kernel_rfl) (by kernel_rfl) (by kernel_rfl) (fun _ _ _ h => h) (Or.inl ⟨by rfl, ?_⟩) hH ?_
      rotate_left
      · intro w9 hSw
        try dsimp only at hSw
        obtain ⟨s0, s1⟩ := hSw
        go_simp
        try with_reducible rfl
      try simp only [Act.put, List.setIfInBounds_toArray, List.set_cons_zero, List.set_cons_succ]
      refine wpAnyH_done (by kernel_rfl) ?_ _
      clear hH hD hbx x0 x1 e0 e1
      go_wp2
      refine bodyPost_ret (v := .tuple #[.agg #[.int .i64 ge', .slice A' gp'.length c'], .int .i64 nn]) (by simp [results, Try.results103, go_sem, r0, r1]) rfl ⟨ge', gp', _, nn, rfl, by omega, by omega, by omega, by omega, by omega, hF.out.1, hF.out.2⟩
    · have q24 : (y24 == 0) = false := by simpa using hz
      clear hz
      have hBd : Below wa.heap.size wa wa.drew := Below.drew (Below.refl _ wa)
      replace hD := hD.below hBd
      obtain ⟨e0, e1⟩ := hD.box.c2
      have lbg := hD.box.lt
      clear hBd
      go_wp2_with fail
      refine wp_region_held_drew (S := fun w' => w'.cell? ⟨bg, 0, none⟩ = some (.int .i64 ge') ∧ w'.cell? ⟨bg, 1, none⟩ = some (.slice A' gp'.length c')) (by kernel_rfl) ⟨e0, e1⟩ (fun hH => ?_)
      generalize wa.drew = Va at *
      refine wpAnyH_take (i := 0) (oi := { dst := _, op := _, type := _, pos := _, after := _, guard := _ }) (v := ?_) rfl (by kernel_rfl) (by kernel_rfl) (by kernel_rfl) (fun _ _ _ h => h) (Or.inl ⟨by rfl, ?_⟩) hH ?_
      rotate_left
      · intro w9 hSw
        try dsimp only at hSw
        obtain ⟨s0, s1⟩ := hSw
        go_simp
        try with_reducible rfl
      try simp only [Act.put, List.setIfInBounds_toArray, List.set_cons_zero, List.set_cons_succ]
      refine wpAnyH_take (i := 1) (oi := { dst := _, op := _, type := _, pos := _, after := _, guard := _ }) (v := ?_) rfl (by kernel_rfl) (by kernel_rfl) (by kernel_rfl) (fun _ _ _ h => h) (Or.inl ⟨by rfl, ?_⟩) hH ?_
      rotate_left
      · intro w9 hSw
        try dsimp only at hSw
        obtain ⟨s0, s1⟩ := hSw
        go_simp
        try with_reducible rfl
      try simp only [Act.put, List.setIfInBounds_toArray, List.set_cons_zero, List.set_cons_succ]
      refine wpAnyH_ready (rs := [2]) (by kernel_rfl) (by simp) ?_
      refine AllReadyH.cons rfl (fun K hK => ?_) AllReadyH.nil
      go_simp
      go_at_call 112
      refine (spec_l01Next g 9 _ hD.src (by omega)).mono ?_
      rintro e vb ⟨nn, rfl, hnn, hN⟩
      replace hD := hD.draw hN
      have hn9 : 0 ≤ nn ∧ nn < 9 := ⟨hnn.1, hnn.2.1 (by omega)⟩
      clear hnn hN e0 e1 lbg
      obtain ⟨e0, e1⟩ := hD.box.c2
      refine hK.out _ _ ⟨e0, e1⟩ (fun hH => ?_)
      clear hK K
      try simp only [Act.put, List.setIfInBounds_toArray, List.set_cons_zero, List.set_cons_succ]
      have f0 := hD.res.frozen 0
      have f1 := hD.res.frozen 1
      have lb2 := hD.res.lt
      obtain ⟨r0, r1⟩ := hD.res.c2
      have hF := Lib.hid hD.fin
      have hbx := (hD.box.far (p := ⟨b2, 0, none⟩) (Ne.symm hD.hne) (.int .i64 ge')).far (p := ⟨b2, 1, none⟩) (Ne.symm hD.hne) (.slice A' gp'.length c')
      obtain ⟨x0, x1⟩ := hbx.c2
      refine wpAnyH_ready (rs := [3]) (by kernel_rfl) (by simp) ?_
      refine AllReadyH.cons rfl (fun K hK => ?_) AllReadyH.nil
      go_simp
      refine hK.out _ _ ⟨x0, x1⟩ (fun hH => ?_)
      clear hK K
      try simp only [Act.put, List.setIfInBounds_toArray, List.set_cons_zero, List.set_cons_succ]
      refine wpAnyH_take (i := 4) (oi := { dst := _, op := _, type := _, pos := _, after := _, guard := _ }) (v := ?_) rfl (by kernel_rfl) (by kernel_rfl) (by kernel_rfl) (fun _ _ _ h => h) (Or.inl ⟨by rfl, ?_⟩) hH ?_
      rotate_left
      · intro w9 hSw
        try dsimp only at hSw
        obtain ⟨s0, s1⟩ := hSw
        go_simp
        try with_reducible rfl
      try simp only [Act.put, List.setIfInBounds_toArray, List.set_cons_zero, List.set_cons_succ]
      refine wpAnyH_done (by kernel_rfl) ?_ _
      clear hH hD hbx x0 x1 e0 e1
      go_wp2
      refine bodyPost_ret (v := .tuple #[.agg #[.int .i64 ge', .slice A' gp'.length c'], .int .i64 nn]) (by simp [results, Try.results103, go_sem, r0, r1]) rfl ⟨ge', gp', _, nn, rfl, by omega, by omega, by omega, by omega, by omega, hF.out.1, hF.out.2⟩
  · have q20 : (y20 == 0) = false := by simpa using hy0
    clear hy0
    go_wp2_with fail
    refine (spec_l01Next g 24 _ hD.src (by omega)).mono ?_
    rintro e wa ⟨y24, rfl, hy24, hN⟩
    replace hD := hD.draw hN
    clear hy24 hN
    by_cases hz : y24 = 0
    · have q24 : (y24 == 0) = true := by simp [hz]
      clear hz
      have hBd : Below wa.heap.size wa wa.drew := Below.drew (Below.refl _ wa)
      replace hD := hD.below hBd
      obtain ⟨e0, e1⟩ := hD.box.c2
      have lbg := hD.box.lt
      clear hBd
      go_wp2_with fail
      refine wp_region_held_drew (S := fun w' => w'.cell? ⟨bg, 0, none⟩ = some (.int .i64 ge) ∧ w'.cell? ⟨bg, 1, none⟩ = some (.slice A gp.length c)) (by kernel_rfl) ⟨e0, e1⟩ (fun hH => ?_)
      generalize wa.drew = Va at *
      refine wpAnyH_take (i := 0) (oi := { dst := _, op := _, type := _, pos := _, after := _, guard := _ }) (v := ?_) rfl (by kernel_rfl) (by kernel_rfl) (by kernel_rfl) (fun _ _ _ h => h) (Or.inl ⟨by rfl, ?_⟩) hH ?_
      rotate_left
      · intro w9 hSw
        try dsimp only at hSw
        obtain ⟨s0, s1⟩ := hSw
        go_simp
        try with_reducible rfl
      try simp only [Act.put, List.setIfInBounds_toArray, List.set_cons_zero, List.set_cons_succ]
      refine wpAnyH_take (i := 1) (oi := { dst := _, op := _, type := _, pos := _, after := _, guard := _ }) (v := ?_) rfl (by kernel_rfl) (by kernel_rfl) (by kernel_rfl) (fun _ _ _ h => h) (Or.inl ⟨by rfl, ?_⟩) hH ?_
      rotate_left
      · intro w9 hSw
        try dsimp only at hSw
        obtain ⟨s0, s1⟩ := hSw
        go_simp
        try with_reducible rfl
      try simp only [Act.put, List.setIfInBounds_toArray, List.set_cons_zero, List.set_cons_succ]
      refine wpAnyH_ready (rs := [2]) (by kernel_rfl) (by simp) ?_
      refine AllReadyH.cons rfl (fun K hK => ?_) AllReadyH.nil
      have hZ : Below Va.heap.size Va (Va.alloc (.cells #[.int .i64 (-1), .int .i64 0, .int .i64 50, .int .i64 51] 2)) := (Below.refl _ _).alloc (Nat.le_refl _) _
      replace hD := hD.below hZ
      clear e0 e1 hZ
      obtain ⟨e0, e1⟩ := hD.box.c2
      go_simp
      refine hK.out _ _ ⟨e0, e1⟩ (fun hH => ?_)
      clear hK K
      try simp only [Act.put, List.setIfInBounds_toArray, List.set_cons_zero, List.set_cons_succ]
      refine wpAnyH_ready (rs := [3]) (by kernel_rfl) (by simp) ?_
      refine AllReadyH.cons rfl (fun K hK => ?_) AllReadyH.nil
      go_simp
      go_at_call 111
      refine (spec_l01Pick g Va.heap.size [-1, 0, 50, 51] _ hD.src (Blk.newAt _ _ rfl) (by simp) (by simp)).mono ?_
      rintro e vb ⟨nn, hnn, rfl, hN⟩
      have hn9 : -1 ≤ nn ∧ nn ≤ 51 := by simp at hnn; omega
      replace hD := hD.draw hN
      clear hnn hN e0 e1 lbg
      obtain ⟨e0, e1⟩ := hD.box.c2
      refine hK.out _ _ ⟨e0, e1⟩ (fun hH => ?_)
      clear hK K
      try simp only [Act.put, List.setIfInBounds_toArray, List.set_cons_zero, List.set_cons_succ]
      have f0 := hD.res.frozen 0
      have f1 := hD.res.frozen 1
      have lb2 := hD.res.lt
      obtain ⟨r0, r1⟩ := hD.res.c2
      have hF := Lib.hid hD.fin
      have hbx := (hD.box.far (p := ⟨b2, 0, none⟩) (Ne.symm hD.hne) (.int .i64 ge)).far (p := ⟨b2, 1, none⟩) (Ne.symm hD.hne) (.slice A gp.length c)
      obtain ⟨x0, x1⟩ := hbx.c2
      refine wpAnyH_ready (rs := [4]) (by kernel_rfl) (by simp) ?_
      refine AllReadyH.cons rfl (fun K hK => ?_) AllReadyH.nil
      go_simp
      refine hK.out _ _ ⟨x0, x1⟩ (fun hH => ?_)
      clear hK K
      try simp only [Act.put, List.setIfInBounds_toArray, List.set_cons_zero, List.set_cons_succ]
      refine wpAnyH_take (i := 5) (oi := { dst := _, op := _, type := _, pos := _, after := _, guard := _ }) (v := ?_) rfl (by kernel_rfl) (by kernel_rfl) (by kernel_rfl) (fun _ _ _ h => h) (Or.inl ⟨by rfl, ?_⟩) hH ?_
      rotate_left
      · intro w9 hSw
        try dsimp only at hSw
        obtain ⟨s0, s1⟩ := hSw
        go_simp
        try with_reducible rfl
      try simp only [Act.put, List.setIfInBounds_toArray, List.set_cons_zero, List.set_cons_succ]
      refine wpAnyH_done (by kernel_rfl) ?_ _
      clear hH hD hbx x0 x1 e0 e1
      go_wp2
      refine bodyPost_ret (v := .tuple #[.agg #[.int .i64 ge, .slice A gp.length c], .int .i64 nn]) (by simp [results, Try.results103, go_sem, r0, r1]) rfl ⟨ge, gp, _, nn, rfl, by omega, by omega, by omega, by omega, by omega, hF.out.1, hF.out.2⟩
    · have q24 : (y24 == 0) = false := by simpa using hz
      clear hz
      have hBd : Below wa.heap.size wa wa.drew := Below.drew (Below.refl _ wa)
      replace hD := hD.below hBd
      obtain ⟨e0, e1⟩ := hD.box.c2
      have lbg := hD.box.lt
      clear hBd
      go_wp2_with fail
      refine wp_region_held_drew (S := fun w' => w'.cell? ⟨bg, 0, none⟩ = some (.int .i64 ge) ∧ w'.cell? ⟨bg, 1, none⟩ = some (.slice A gp.length c)) (by kernel_rfl) ⟨e0, e1⟩ (fun hH => ?_)
      generalize wa.drew = Va at *
      refine wpAnyH_take (i := 0) (oi := { dst := _, op := _, type := _, pos := _, after := _, guard := _ }) (v := ?_) rfl (by kernel_rfl) (by kernel_rfl) (by kernel_rfl) (fun _ _ _ h => h) (Or.inl ⟨by rfl, ?_⟩) hH ?_
      rotate_left
      · intro w9 hSw
        try dsimp only at hSw
        obtain ⟨s0, s1⟩ := hSw
        go_simp
        try with_reducible rfl
      try simp only [Act.put, List.setIfInBounds_toArray, List.set_cons_zero, List.set_cons_succ]
      refine wpAnyH_take (i := 1) (oi := { dst := _, op := _, type := _, pos := _, after := _, guard := _ }) (v := ?_) rfl (by kernel_rfl) (by kernel_rfl) (by kernel_rfl) (fun _ _ _ h => h) (Or.inl ⟨by rfl, ?_⟩) hH ?_
      rotate_left
      · intro w9 hSw
        try dsimp only at hSw
        obtain ⟨s0, s1⟩ := hSw
        go_simp
        try with_reducible rfl
      try simp only [Act.put, List.setIfInBounds_toArray, List.set_cons_zero, List.set_cons_succ]
      refine wpAnyH_ready (rs := [2]) (by kernel_rfl) (by simp) ?_
      refine AllReadyH.cons rfl (fun K hK => ?_) AllReadyH.nil
      go_simp
      go_at_call 112
      refine (spec_l01Next g 9 _ hD.src (by omega)).mono ?_
      rintro e vb ⟨nn, rfl, hnn, hN⟩
      replace hD := hD.draw hN
      have hn9 : 0 ≤ nn ∧ nn < 9 := ⟨hnn.1, hnn.2.1 (by omega)⟩
      clear hnn hN e0 e1 lbg
      obtain ⟨e0, e1⟩ := hD.box.c2
      refine hK.out _ _ ⟨e0, e1⟩ (fun hH => ?_)
      clear hK K
      try simp only [Act.put, List.setIfInBounds_toArray, List.set_cons_zero, List.set_cons_succ]
      have f0 := hD.res.frozen 0
      have f1 := hD.res.frozen 1
      have lb2 := hD.res.lt
      obtain ⟨r0, r1⟩ := hD.res.c2
      have hF := Lib.hid hD.fin
      have hbx := (hD.box.far (p := ⟨b2, 0, none⟩) (Ne.symm hD.hne) (.int .i64 ge)).far (p := ⟨b2, 1, none⟩) (Ne.symm hD.hne) (.slice A gp.length c)
      obtain ⟨x0, x1⟩ := hbx.c2
      refine wpAnyH_ready (rs := [3]) (by kernel_rfl) (by simp) ?_
      refine AllReadyH.cons rfl (fun K hK => ?_) AllReadyH.nil
      go_simp
      refine hK.out _ _ ⟨x0, x1⟩ (fun hH => ?_)
      clear hK K
      try simp only [Act.put, List.setIfInBounds_toArray, List.set_cons_zero, List.set_cons_succ]
      refine wpAnyH_take (i := 4) (oi := { dst := _, op := _, type := _, pos := _, after := _, guard := _ }) (v := ?_) rfl (by kernel_rfl) (by kernel_rfl) (by kernel_rfl) (fun _ _ _ h => h) (Or.inl ⟨by rfl, ?_⟩) hH ?_
      rotate_left
      · intro w9 hSw
        try dsimp only at hSw
        obtain ⟨s0, s1⟩ := hSw
        go_simp
        try with_reducible rfl
      try simp only [Act.put, List.setIfInBounds_toArray, List.set_cons_zero, List.set_cons_succ]
      refine wpAnyH_done (by kernel_rfl) ?_ _
      clear hH hD hbx x0 x1 e0 e1
      go_wp2
      refine bodyPost_ret (v := .tuple #[.agg #[.int .i64 ge, .slice A gp.length c], .int .i64 nn]) (by simp [results, Try.results103, go_sem, r0, r1]) rfl ⟨ge, gp, _, nn, rfl, by omega, by omega, by omega, by omega, by omega, hF.out.1, hF.out.2⟩
end Go.Proofs.Ytkbhbmoogkjafaa
