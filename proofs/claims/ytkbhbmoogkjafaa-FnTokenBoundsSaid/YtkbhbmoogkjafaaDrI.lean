/-
  The walks of the draws of firing times, and of a table of them.
-/
import Derived.Test.YtkbhbmoogkjafaaDrG
import Derived.Test.YtkbhbmoogkjafaaFnFirP
import Derived.Test.YtkbhbmoogkjafaaMatLaw
namespace Go.Proofs.Ytkbhbmoogkjafaa
open Go.RowKit
set_option linter.unusedVariables false
set_option linter.unusedSimpArgs false
set_option maxHeartbeats 4000000 in
set_option maxRecDepth 100000 in
theorem spec_DrawFiringTimes (cv : Value) (bs : List Int) (w : World) (h0 : Lst byteCell 1 w w.heap.size cv bs) (hbv : Hid (∀ b ∈ bs, 0 ≤ b ∧ b ≤ 255)) :
    Calls Try.prog 14 #[cv] w fun e w' => ∃ ge gp v n, e = .returned (.tuple #[.agg #[.int .i64 ge, v], .int .i64 n]) ∧ 0 ≤ ge ∧ ge ≤ 11 ∧ gp.length ≤ 40 ∧ -1 ≤ n ∧ n ≤ 51 ∧ Own Place.cells 4 45 w' w.heap.size v gp ∧ Below w.heap.size w w' := by
  go_enter Try.func14, Try.ntmps14
  go_wp2_with fail
  have hA : Below w.heap.size w (w.alloc (.cells #[.int .i64 0, .slice none 0 0] 26)) := (Below.refl _ _).alloc (Nat.le_refl _) _
  have hres := Blk.newAt w (t := 26) (cs := #[.int .i64 0, .slice none 0 0]) _ rfl
  have hszA : (w.alloc (.cells #[.int .i64 0, .slice none 0 0] 26)).heap.size = w.heap.size + 1 := by simp
  refine (spec_l01From _ bs _ (h0.now hA) hbv).mono ?_
  rintro e w1 ⟨rfl, hS, hB1⟩
  rw [hszA] at hS hB1 ⊢
  have hB : Below w.heap.size w w1 := hA.trans (hB1.mono (by omega))
  replace hres := hres.below hB1 (by omega)
  obtain ⟨b2, hb2⟩ : ∃ b2, w.heap.size = b2 := ⟨_, rfl⟩
  obtain ⟨g, hg⟩ : ∃ g, w.heap.size + 1 = g := ⟨_, rfl⟩
  have hgb : w.heap.size ≤ g := by omega
  rw [hg] at hS ⊢
  rw [hb2] at hres
  rw [show (Value.pointer (some ⟨w.heap.size, 0, none⟩)) = .pointer (some ⟨b2, 0, none⟩) by rw [hb2]]
  have hb2w : w.heap.size ≤ b2 := by omega
  have hs1 := hB.size
  clear hA hszA hB1 hb2 hg
  go_wp2_with fail
  refine (spec_l13Draw g _ hS).mono ?_
  rintro e w2 ⟨ge, gp, v, n, rfl, hg0, hg1, hlen, hn1, hn2, hO, hN⟩
  obtain ⟨A, c, rfl⟩ := hO.shape
  replace hO := hO.rebase hs1
  replace hres := blk_draw hres (by decide) hS hN
  replace hB := below_draw hB hs1 hgb hN
  clear hN hs1 hS
  have f0 := hres.frozen 0
  have f1 := hres.frozen 1
  have lb2 := hres.lt
  obtain ⟨r0, r1⟩ := hres.c2
  have hq1 := Lib.hid (own_far (own_far hO (p := ⟨b2, 0, none⟩) (hO.ne_blk hres (by decide)) (.int .i64 ge)) (p := ⟨b2, 1, none⟩) (hO.ne_blk hres (by decide)) (.slice A gp.length c))
  have hq3 := Lib.hid ((hB.setCell (p := ⟨b2, 0, none⟩) hb2w (.int .i64 ge)).setCell (p := ⟨b2, 1, none⟩) hb2w (.slice A gp.length c))
  clear hO hres hB
  go_wp2
  refine bodyPost_ret (v := .tuple #[.agg #[.int .i64 ge, .slice A gp.length c], .int .i64 n]) (by simp [results, Try.results14, go_sem, r0, r1]) rfl ⟨ge, gp, _, n, rfl, by omega, by omega, by omega, by omega, by omega, hq1.out, hq3.out⟩
set_option maxHeartbeats 8000000 in
set_option maxRecDepth 100000 in
theorem spec_l11DrawEvent (g : Nat) (w : World) (h : Src w g) :
    Calls Try.prog 110 #[.pointer (some ⟨g, 0, none⟩)] w fun e w' => ∃ ge gp v n, e = .returned (.tuple #[.agg #[.int .i64 ge, v], .int .i64 n]) ∧ 0 ≤ ge ∧ ge ≤ 11 ∧ gp.length ≤ 40 ∧ -1 ≤ n ∧ n ≤ 11 ∧ Own Place.cells 4 45 w' w.heap.size v gp ∧ Drawn w g w' := by
  have hgw := h.lt
  go_enter Try.func110, Try.ntmps110
  go_wp2_with fail
  have hA : Below w.heap.size w (w.alloc (.cells #[.int .i64 0, .slice none 0 0] 26)) := (Below.refl _ _).alloc (Nat.le_refl _) _
  refine (spec_l11Draw g _ (h.now hA)).mono ?_
  rintro e w1 ⟨ge, gp, v, rfl, hg0, hg1, hlen, hO, hN⟩
  obtain ⟨A, c, rfl⟩ := hO.shape
  have hres := (Blk.new w 26 #[.int .i64 0, .slice none 0 0]).grown hN.2 (fun e => by injection e with e; omega)
  have hG1 := grown_trans (grown_of_below (r := some g) hA) hN.2
  have hs1 := hG1.size
  have hlt1 := hres.lt
  have hA2 : Below w1.heap.size w1 (w1.alloc (.cells #[.int .i64 ge, .slice A gp.length c] 26)) := (Below.refl _ _).alloc (Nat.le_refl _) _
  have hD : Dr w g w.heap.size w1.heap.size (w1.alloc (.cells #[.int .i64 ge, .slice A gp.length c] 26)) ge (.slice A gp.length c) gp :=
    ⟨hN.1.now hA2, grown_trans hG1 (grown_of_below hA2), hres.now hA2, Blk.newAt _ _ rfl, (hO.rebase hA.size).now hA2, Nat.le_refl _, hs1, by omega, hgw⟩
  go_wp2_with fail
  obtain ⟨bg, hbg⟩ : ∃ bg, w1.heap.size = bg := ⟨_, rfl⟩
  obtain ⟨b2, hb2⟩ : ∃ b2, w.heap.size = b2 := ⟨_, rfl⟩
  have hD' : Dr w g b2 bg (w1.alloc (.cells #[.int .i64 ge, .slice A gp.length c] 26)) ge (.slice A gp.length c) gp := by rw [← hb2, ← hbg]; exact hD
  rw [hbg]
  rw [show (Value.pointer (some ⟨w.heap.size, 0, none⟩)) = .pointer (some ⟨b2, 0, none⟩) by rw [hb2]]
  clear hN hO hres hG1 hs1 hlt1 hD hA hA2 hbg hb2
  generalize w1.alloc (.cells #[.int .i64 ge, .slice A gp.length c] 26) = W2 at *
  refine (spec_l01Next g 20 _ hD'.src (by omega)).mono ?_
  rintro e wa ⟨y20, rfl, hy, hN⟩
  have hD := hD'.draw hN
  clear hy hN hD'
  by_cases hz : y20 = 0
  · have q20 : (y20 == 0) = true := by simp [hz]
    clear hz
    have hBd : Below wa.heap.size wa wa.drew := Below.drew (Below.refl _ wa)
    replace hD := hD.below hBd
    obtain ⟨e0, e1⟩ := hD.box.c2
    have lbg := hD.box.lt
    clear hBd
    go_wp2_with fail
    refine wp_region_held_drew (S := fun w' => w'.cell? ⟨bg, 0, none⟩ = some (.int .i64 ge) ∧ w'.cell? ⟨bg, 1, none⟩ = some (.slice A gp.length c)) (by kernel_rfl) ⟨e0, e1⟩ (fun hH => ?_)
    generalize wa.drew = Va at *
    refine wpAnyH_take (i := 0) (oi := { dst := _, op := _, type := _, pos := _, after := _, guard := _ }) (v := ?_) rfl (by kernel_rfl) (by kernel_rfl) (by kernel_rfl) (fun _ _ _ h => h) (Or.inl ⟨by rfl, ?_⟩) hH ?_
    rotate_left
    · intro w9 hSw
      try dsimp only at hSw
      obtain ⟨s0, s1⟩ := hSw
      go_simp
      try with_reducible rfl
    try simp only [Act.put, List.setIfInBounds_toArray, List.set_cons_zero, List.set_cons_succ]
    refine wpAnyH_take (i := 1) (oi := { dst := _, op := _, type := _, pos := _, after := _, guard := _ }) (v := ?_) rfl (by kernel_rfl) (by kernel_rfl) (by kernel_rfl) (fun _ _ _ h => h) (Or.inl ⟨by rfl, ?_⟩) hH ?_
    rotate_left
    · intro w9 hSw
      try dsimp only at hSw
      obtain ⟨s0, s1⟩ := hSw
      go_simp
      try with_reducible rfl
    try simp only [Act.put, List.setIfInBounds_toArray, List.set_cons_zero, List.set_cons_succ]
    refine wpAnyH_take (i := 2) (oi := { dst := _, op := _, type := _, pos := _, after := _, guard := _ }) (v := ?_) rfl (by kernel_rfl) (by kernel_rfl) (by kernel_rfl) (fun _ _ _ h => h) (Or.inl ⟨by rfl, ?_⟩) hH ?_
    rotate_left
    · intro w9 hSw
      try dsimp only at hSw
      obtain ⟨s0, s1⟩ := hSw
      go_simp
      try with_reducible rfl
    try simp only [Act.put, List.setIfInBounds_toArray, List.set_cons_zero, List.set_cons_succ]
    refine wpAnyH_take (i := 3) (oi := { dst := _, op := _, type := _, pos := _, after := _, guard := _ }) (v := ?_) rfl (by kernel_rfl) (by kernel_rfl) (by kernel_rfl) (fun _ _ _ h => h) (Or.inl ⟨by rfl, ?_⟩) hH ?_
    rotate_left
    · intro w9 hSw
      try dsimp only at hSw
      obtain ⟨s0, s1⟩ := hSw
      go_simp
      try with_reducible rfl
    try simp only [Act.put, List.setIfInBounds_toArray, List.set_cons_zero, List.set_cons_succ]
    refine wpAnyH_ready (rs := [4]) (by kernel_rfl) (by simp) ?_
    refine AllReadyH.cons rfl (fun K hK => ?_) AllReadyH.nil
    have hZ : Below Va.heap.size Va (Va.alloc (.cells #[.int .i64 (-1), .int .i64 ge] 2)) := (Below.refl _ _).alloc (Nat.le_refl _) _
    replace hD := hD.below hZ
    clear e0 e1 hZ
    obtain ⟨e0, e1⟩ := hD.box.c2
    go_simp
    refine hK.out _ _ ⟨e0, e1⟩ (fun hH => ?_)
    clear hK K
    try simp only [Act.put, List.setIfInBounds_toArray, List.set_cons_zero, List.set_cons_succ]
    refine wpAnyH_ready (rs := [5]) (by kernel_rfl) (by simp) ?_
    refine AllReadyH.cons rfl (fun K hK => ?_) AllReadyH.nil
    go_simp
    go_at_call 111
    refine (spec_l01Pick g Va.heap.size [-1, ge] _ hD.src (Blk.newAt _ _ rfl) (by simp) (by simp)).mono ?_
    rintro e vb ⟨nn, hnn, rfl, hN⟩
    have hn9 : -1 ≤ nn ∧ nn ≤ 11 := by simp at hnn; omega
    replace hD := hD.draw hN
    clear hnn hN e0 e1 lbg
    obtain ⟨e0, e1⟩ := hD.box.c2
    refine hK.out _ _ ⟨e0, e1⟩ (fun hH => ?_)
    clear hK K
    try simp only [Act.put, List.setIfInBounds_toArray, List.set_cons_zero, List.set_cons_succ]
    have f0 := hD.res.frozen 0
    have f1 := hD.res.frozen 1
    have lb2 := hD.res.lt
    obtain ⟨r0, r1⟩ := hD.res.c2
    have hF := Lib.hid hD.fin
    have hbx := (hD.box.far (p := ⟨b2, 0, none⟩) (Ne.symm hD.hne) (.int .i64 ge)).far (p := ⟨b2, 1, none⟩) (Ne.symm hD.hne) (.slice A gp.length c)
    obtain ⟨x0, x1⟩ := hbx.c2
    refine wpAnyH_ready (rs := [6]) (by kernel_rfl) (by simp) ?_
    refine AllReadyH.cons rfl (fun K hK => ?_) AllReadyH.nil
    go_simp
    refine hK.out _ _ ⟨x0, x1⟩ (fun hH => ?_)
    clear hK K
    try simp only [Act.put, List.setIfInBounds_toArray, List.set_cons_zero, List.set_cons_succ]
    refine wpAnyH_take (i := 7) (oi := { dst := _, op := _, type := _, pos := _, after := _, guard := _ }) (v := ?_) rfl (by kernel_rfl) (by kernel_rfl) (by kernel_rfl) (fun _ _ _ h => h) (Or.inl ⟨by rfl, ?_⟩) hH ?_
    rotate_left
    · intro w9 hSw
      try dsimp only at hSw
      obtain ⟨s0, s1⟩ := hSw
      go_simp
      try with_reducible rfl
    try simp only [Act.put, List.setIfInBounds_toArray, List.set_cons_zero, List.set_cons_succ]
    refine wpAnyH_done (by kernel_rfl) ?_ _
    clear hH hD hbx x0 x1 e0 e1
    go_wp2
    refine bodyPost_ret (v := .tuple #[.agg #[.int .i64 ge, .slice A gp.length c], .int .i64 nn]) (by simp [results, Try.results110, go_sem, r0, r1]) rfl ⟨ge, gp, _, nn, rfl, by omega, by omega, by omega, by omega, by omega, hF.out.1, hF.out.2⟩
  · have q20 : (y20 == 0) = false := by simpa using hz
    clear hz
    have hBd : Below wa.heap.size wa wa.drew := Below.drew (Below.refl _ wa)
    replace hD := hD.below hBd
    obtain ⟨e0, e1⟩ := hD.box.c2
    have lbg := hD.box.lt
    clear hBd
    go_wp2_with fail
    refine wp_region_held_drew (S := fun w' => w'.cell? ⟨bg, 0, none⟩ = some (.int .i64 ge) ∧ w'.cell? ⟨bg, 1, none⟩ = some (.slice A gp.length c)) (by kernel_rfl) ⟨e0, e1⟩ (fun hH => ?_)
    generalize wa.drew = Va at *
    refine wpAnyH_take (i := 0) (oi := { dst := _, op := _, type := _, pos := _, after := _, guard := _ }) (v := ?_) rfl (by kernel_rfl) (by kernel_rfl) (by kernel_rfl) (fun _ _ _ h => h) (Or.inl ⟨by rfl, ?_⟩) hH ?_
    rotate_left
    · intro w9 hSw
      try dsimp only at hSw
      obtain ⟨s0, s1⟩ := hSw
      go_simp
      try with_reducible rfl
    try simp only [Act.put, List.setIfInBounds_toArray, List.set_cons_zero, List.set_cons_succ]
    refine wpAnyH_take (i := 1) (oi := { dst := _, op := _, type := _, pos := _, after := _, guard := _ }) (v := ?_) rfl (by kernel_rfl) (by kernel_rfl) (by kernel_rfl) (fun _ _ _ h => h) (Or.inl ⟨by rfl, ?_⟩) hH ?_
    rotate_left
    · intro w9 hSw
      try dsimp only at hSw
      obtain ⟨s0, s1⟩ := hSw
      go_simp
      try with_reducible rfl
    try simp only [Act.put, List.setIfInBounds_toArray, List.set_cons_zero, List.set_cons_succ]
    refine wpAnyH_take (i := 2) (oi := { dst := _, op := _, type := _, pos := _, after := _, guard := _ }) (v := ?_) rfl (by kernel_rfl) (by kernel_rfl) (by kernel_rfl) (fun _ _ _ h => h) (Or.inl ⟨by rfl, ?_⟩) hH ?_
    rotate_left
    · intro w9 hSw
      try dsimp only at hSw
      obtain ⟨s0, s1⟩ := hSw
      go_simp
      try with_reducible rfl
    try simp only [Act.put, List.setIfInBounds_toArray, List.set_cons_zero, List.set_cons_succ]
    refine wpAnyH_take (i := 3) (oi := { dst := _, op := _, type := _, pos := _, after := _, guard := _ }) (v := ?_) rfl (by kernel_rfl) (by kernel_rfl) (by kernel_rfl) (fun _ _ _ h => h) (Or.inl ⟨by rfl, ?_⟩) hH ?_
    rotate_left
    · intro w9 hSw
      try dsimp only at hSw
      obtain ⟨s0, s1⟩ := hSw
      go_simp
      try with_reducible rfl
    try simp only [Act.put, List.setIfInBounds_toArray, List.set_cons_zero, List.set_cons_succ]
    refine wpAnyH_ready (rs := [4]) (by kernel_rfl) (by simp) ?_
    refine AllReadyH.cons rfl (fun K hK => ?_) AllReadyH.nil
    go_simp
    go_at_call 112
    refine (spec_l01Next g ge _ hD.src (by omega)).mono ?_
    rintro e vb ⟨nn, rfl, hnn, hN⟩
    replace hD := hD.draw hN
    have hn9 : 0 ≤ nn ∧ nn ≤ 11 := by obtain ⟨n1, n2, n3⟩ := hnn; omega
    clear hnn hN e0 e1 lbg
    obtain ⟨e0, e1⟩ := hD.box.c2
    refine hK.out _ _ ⟨e0, e1⟩ (fun hH => ?_)
    clear hK K
    try simp only [Act.put, List.setIfInBounds_toArray, List.set_cons_zero, List.set_cons_succ]
    have f0 := hD.res.frozen 0
    have f1 := hD.res.frozen 1
    have lb2 := hD.res.lt
    obtain ⟨r0, r1⟩ := hD.res.c2
    have hF := Lib.hid hD.fin
    have hbx := (hD.box.far (p := ⟨b2, 0, none⟩) (Ne.symm hD.hne) (.int .i64 ge)).far (p := ⟨b2, 1, none⟩) (Ne.symm hD.hne) (.slice A gp.length c)
    obtain ⟨x0, x1⟩ := hbx.c2
    refine wpAnyH_ready (rs := [5]) (by kernel_rfl) (by simp) ?_
    refine AllReadyH.cons rfl (fun K hK => ?_) AllReadyH.nil
    go_simp
    refine hK.out _ _ ⟨x0, x1⟩ (fun hH => ?_)
    clear hK K
    try simp only [Act.put, List.setIfInBounds_toArray, List.set_cons_zero, List.set_cons_succ]
    refine wpAnyH_take (i := 6) (oi := { dst := _, op := _, type := _, pos := _, after := _, guard := _ }) (v := ?_) rfl (by kernel_rfl) (by kernel_rfl) (by kernel_rfl) (fun _ _ _ h => h) (Or.inl ⟨by rfl, ?_⟩) hH ?_
    rotate_left
    · intro w9 hSw
      try dsimp only at hSw
      obtain ⟨s0, s1⟩ := hSw
      go_simp
      try with_reducible rfl
    try simp only [Act.put, List.setIfInBounds_toArray, List.set_cons_zero, List.set_cons_succ]
    refine wpAnyH_done (by kernel_rfl) ?_ _
    clear hH hD hbx x0 x1 e0 e1
    go_wp2
    refine bodyPost_ret (v := .tuple #[.agg #[.int .i64 ge, .slice A gp.length c], .int .i64 nn]) (by simp [results, Try.results110, go_sem, r0, r1]) rfl ⟨ge, gp, _, nn, rfl, by omega, by omega, by omega, by omega, by omega, hF.out.1, hF.out.2⟩
set_option maxHeartbeats 16000000 in
set_option maxRecDepth 100000 in
theorem spec_DrawFiringTime (cv : Value) (bs : List Int) (w : World) (h0 : Lst byteCell 1 w w.heap.size cv bs) (hbv : Hid (∀ b ∈ bs, 0 ≤ b ∧ b ≤ 255)) :
    Calls Try.prog 17 #[cv] w fun e w' => ∃ ge gp v n k, e = .returned (.tuple #[.agg #[.int .i64 ge, v], .int .i64 n, .int .i64 k]) ∧ 0 ≤ ge ∧ ge ≤ 11 ∧ gp.length ≤ 40 ∧ Own Place.cells 4 45 w' w.heap.size v gp ∧ Below w.heap.size w w' := by
  go_enter Try.func17, Try.ntmps17
  go_wp2_with fail
  have hA : Below w.heap.size w (w.alloc (.cells #[.int .i64 0, .slice none 0 0] 26)) := (Below.refl _ _).alloc (Nat.le_refl _) _
  have hres := Blk.newAt w (t := 26) (cs := #[.int .i64 0, .slice none 0 0]) _ rfl
  have hszA : (w.alloc (.cells #[.int .i64 0, .slice none 0 0] 26)).heap.size = w.heap.size + 1 := by simp
  refine (spec_l01From _ bs _ (h0.now hA) hbv).mono ?_
  rintro e w1 ⟨rfl, hS, hB1⟩
  rw [hszA] at hS hB1 ⊢
  have hB : Below w.heap.size w w1 := hA.trans (hB1.mono (by omega))
  replace hres := hres.below hB1 (by omega)
  obtain ⟨b2, hb2⟩ : ∃ b2, w.heap.size = b2 := ⟨_, rfl⟩
  obtain ⟨g, hg⟩ : ∃ g, w.heap.size + 1 = g := ⟨_, rfl⟩
  have hgb : w.heap.size ≤ g := by omega
  rw [hg] at hS ⊢
  rw [hb2] at hres
  rw [show (Value.pointer (some ⟨w.heap.size, 0, none⟩)) = .pointer (some ⟨b2, 0, none⟩) by rw [hb2]]
  have hb2w : w.heap.size ≤ b2 := by omega
  have hs1 := hB.size
  clear hA hszA hB1 hb2 hg
  go_wp2_with fail
  refine (spec_l11DrawEvent g _ hS).mono ?_
  rintro e w2 ⟨ge, gp, v, n, rfl, hg0, hg1, hlen, hn1, hn2, hO, hN⟩
  obtain ⟨A, c, rfl⟩ := hO.shape
  replace hO := hO.rebase hs1
  replace hres := blk_draw hres (by decide) hS hN
  replace hB := below_draw hB hs1 hgb hN
  replace hS := hN.1
  have hs2 := hB.size
  clear hN hs1
  have hA2 : Below w2.heap.size w2 (w2.alloc (.cells #[.int .i64 ge, .slice A gp.length c] 26)) := (Below.refl _ _).alloc (Nat.le_refl _) _
  have hbox := Blk.newAt w2 (t := 26) (cs := #[.int .i64 ge, .slice A gp.length c]) _ rfl
  have hne : b2 ≠ w2.heap.size := by have := hres.lt; omega
  go_wp2_with fail
  replace hO := hO.now hA2
  replace hres := hres.now hA2
  replace hB := hB.trans (hA2.mono hs2)
  replace hS := hS.now hA2
  generalize w2.alloc (.cells #[.int .i64 ge, .slice A gp.length c] 26) = wa at *
  obtain ⟨bg, hbg⟩ : ∃ bg, w2.heap.size = bg := ⟨_, rfl⟩
  rw [hbg] at hbox hne ⊢
  clear hA2 hs2 hbg
  have hBd : Below wa.heap.size wa wa.drew := Below.drew (Below.refl _ wa)
  replace hO := hO.now hBd
  replace hres := hres.now hBd
  replace hbox := hbox.now hBd
  replace hB := hB.trans (hBd.mono hB.size)
  replace hS := hS.now hBd
  obtain ⟨e0, e1⟩ := hbox.c2
  have lbg := hbox.lt
  clear hBd
  go_wp2_with fail
  refine wp_region_held_drew (S := fun w' => w'.cell? ⟨bg, 0, none⟩ = some (.int .i64 ge) ∧ w'.cell? ⟨bg, 1, none⟩ = some (.slice A gp.length c)) (by kernel_rfl) ⟨e0, e1⟩ (fun hH => ?_)
  generalize wa.drew = Va at *
  clear lbg
  refine wpAnyH_take (i := 0) (oi := { dst := _, op := _, type := _, pos := _, after := _, guard := _ }) (v := ?_) rfl (by kernel_rfl) (by kernel_rfl) (by kernel_rfl) (fun _ _ _ h => h) (Or.inl ⟨by rfl, ?_⟩) hH ?_
  rotate_left
  · intro w9 hSw
    try dsimp only at hSw
    obtain ⟨s0, s1⟩ := hSw
    go_simp
    try with_reducible rfl
  try simp only [Act.put, List.setIfInBounds_toArray, List.set_cons_zero, List.set_cons_succ]
  refine wpAnyH_take (i := 1) (oi := { dst := _, op := _, type := _, pos := _, after := _, guard := _ }) (v := ?_) rfl (by kernel_rfl) (by kernel_rfl) (by kernel_rfl) (fun _ _ _ h => h) (Or.inl ⟨by rfl, ?_⟩) hH ?_
  rotate_left
  · intro w9 hSw
    try dsimp only at hSw
    obtain ⟨s0, s1⟩ := hSw
    go_simp
    try with_reducible rfl
  try simp only [Act.put, List.setIfInBounds_toArray, List.set_cons_zero, List.set_cons_succ]
  refine wpAnyH_take (i := 2) (oi := { dst := _, op := _, type := _, pos := _, after := _, guard := _ }) (v := ?_) rfl (by kernel_rfl) (by kernel_rfl) (by kernel_rfl) (fun _ _ _ h => h) (Or.inl ⟨by rfl, ?_⟩) hH ?_
  rotate_left
  · intro w9 hSw
    try dsimp only at hSw
    obtain ⟨s0, s1⟩ := hSw
    go_simp
    try with_reducible rfl
  try simp only [Act.put, List.setIfInBounds_toArray, List.set_cons_zero, List.set_cons_succ]
  refine wpAnyH_take (i := 3) (oi := { dst := _, op := _, type := _, pos := _, after := _, guard := _ }) (v := ?_) rfl (by kernel_rfl) (by kernel_rfl) (by kernel_rfl) (fun _ _ _ h => h) (Or.inl ⟨by rfl, ?_⟩) hH ?_
  rotate_left
  · intro w9 hSw
    try dsimp only at hSw
    obtain ⟨s0, s1⟩ := hSw
    go_simp
    try with_reducible rfl
  try simp only [Act.put, List.setIfInBounds_toArray, List.set_cons_zero, List.set_cons_succ]
  refine wpAnyH_take (i := 6) (oi := { dst := _, op := _, type := _, pos := _, after := _, guard := _ }) (v := ?_) rfl (by kernel_rfl) (by kernel_rfl) (by kernel_rfl) (fun _ _ _ h => h) (Or.inl ⟨by rfl, ?_⟩) hH ?_
  rotate_left
  · intro w9 hSw
    try dsimp only at hSw
    obtain ⟨s0, s1⟩ := hSw
    go_simp
    try with_reducible rfl
  try simp only [Act.put, List.setIfInBounds_toArray, List.set_cons_zero, List.set_cons_succ]
  refine wpAnyH_take (i := 9) (oi := { dst := _, op := _, type := _, pos := _, after := _, guard := _ }) (v := ?_) rfl (by kernel_rfl) (by kernel_rfl) (by kernel_rfl) (fun _ _ _ h => h) (Or.inl ⟨by rfl, ?_⟩) hH ?_
  rotate_left
  · intro w9 hSw
    try dsimp only at hSw
    obtain ⟨s0, s1⟩ := hSw
    go_simp
    try with_reducible rfl
  try simp only [Act.put, List.setIfInBounds_toArray, List.set_cons_zero, List.set_cons_succ]
  refine wpAnyH_take (i := 12) (oi := { dst := _, op := _, type := _, pos := _, after := _, guard := _ }) (v := ?_) rfl (by kernel_rfl) (by kernel_rfl) (by kernel_rfl) (fun _ _ _ h => h) (Or.inl ⟨by rfl, ?_⟩) hH ?_
  rotate_left
  · intro w9 hSw
    try dsimp only at hSw
    obtain ⟨s0, s1⟩ := hSw
    go_simp
    try with_reducible rfl
  try simp only [Act.put, List.setIfInBounds_toArray, List.set_cons_zero, List.set_cons_succ]
  refine wpAnyH_ready (rs := [4, 13]) (by kernel_rfl) (by simp) ?_
  refine AllReadyH.cons rfl (fun K hK => ?_) (AllReadyH.cons rfl (fun K hK => ?_) AllReadyH.nil)
  · go_simp
    go_at_call 112
    refine (spec_l01Next g 9 _ hS (by omega)).mono ?_
    rintro e v4 ⟨y4, rfl, hy, hN⟩
    have w4 : IntKind.i64.wrap (1 + y4) = 1 + y4 := IntWalk.i64_in _ (by have h1 := hy.1; have h2 := hy.2.1 (by omega); omega)
    replace hO := own_draw hO (by decide) hS hN
    replace hres := blk_draw hres (by decide) hS hN
    replace hbox := blk_draw hbox (by decide) hS hN
    replace hB := below_draw hB hB.size hgb hN
    replace hS := hN.1
    clear hy hN e0 e1
    obtain ⟨e0, e1⟩ := hbox.c2
    refine hK.out _ _ ⟨e0, e1⟩ (fun hH => ?_)
    clear hK K
    try simp only [Act.put, List.setIfInBounds_toArray, List.set_cons_zero, List.set_cons_succ]
    refine wpAnyH_take (i := 5) (oi := { dst := _, op := _, type := _, pos := _, after := _, guard := _ }) (v := ?_) rfl (by kernel_rfl) (by kernel_rfl) (by kernel_rfl) (fun _ _ _ h => h) (Or.inl ⟨by rfl, ?_⟩) hH ?_
    rotate_left
    · intro w9 hSw
      try dsimp only at hSw
      obtain ⟨s0, s1⟩ := hSw
      go_simp
      try with_reducible rfl
    try simp only [Act.put, List.setIfInBounds_toArray, List.set_cons_zero, List.set_cons_succ]
    refine wpAnyH_ready (rs := [7, 13]) (by kernel_rfl) (by simp) ?_
    refine AllReadyH.cons rfl (fun K hK => ?_) (AllReadyH.cons rfl (fun K hK => ?_) AllReadyH.nil)
    · go_simp
      go_at_call 112
      refine (spec_l01Next g 9 _ hS (by omega)).mono ?_
      rintro e v7 ⟨y7, rfl, hy, hN⟩
      have w7 : IntKind.i64.wrap (1 + y7) = 1 + y7 := IntWalk.i64_in _ (by have h1 := hy.1; have h2 := hy.2.1 (by omega); omega)
      replace hO := own_draw hO (by decide) hS hN
      replace hres := blk_draw hres (by decide) hS hN
      replace hbox := blk_draw hbox (by decide) hS hN
      replace hB := below_draw hB hB.size hgb hN
      replace hS := hN.1
      clear hy hN e0 e1
      obtain ⟨e0, e1⟩ := hbox.c2
      refine hK.out _ _ ⟨e0, e1⟩ (fun hH => ?_)
      clear hK K
      try simp only [Act.put, List.setIfInBounds_toArray, List.set_cons_zero, List.set_cons_succ]
      refine wpAnyH_take (i := 8) (oi := { dst := _, op := _, type := _, pos := _, after := _, guard := _ }) (v := ?_) rfl (by kernel_rfl) (by kernel_rfl) (by kernel_rfl) (fun _ _ _ h => h) (Or.inl ⟨by rfl, ?_⟩) hH ?_
      rotate_left
      · intro w9 hSw
        try dsimp only at hSw
        obtain ⟨s0, s1⟩ := hSw
        go_simp
        try with_reducible rfl
      try simp only [Act.put, List.setIfInBounds_toArray, List.set_cons_zero, List.set_cons_succ]
      refine wpAnyH_ready (rs := [10, 13]) (by kernel_rfl) (by simp) ?_
      refine AllReadyH.cons rfl (fun K hK => ?_) (AllReadyH.cons rfl (fun K hK => ?_) AllReadyH.nil)
      · go_simp
        go_at_call 112
        refine (spec_l01Next g 9 _ hS (by omega)).mono ?_
        rintro e v10 ⟨y10, rfl, hy, hN⟩
        have w10 : IntKind.i64.wrap (1 + y10) = 1 + y10 := IntWalk.i64_in _ (by have h1 := hy.1; have h2 := hy.2.1 (by omega); omega)
        replace hO := own_draw hO (by decide) hS hN
        replace hres := blk_draw hres (by decide) hS hN
        replace hbox := blk_draw hbox (by decide) hS hN
        replace hB := below_draw hB hB.size hgb hN
        replace hS := hN.1
        clear hy hN e0 e1
        obtain ⟨e0, e1⟩ := hbox.c2
        refine hK.out _ _ ⟨e0, e1⟩ (fun hH => ?_)
        clear hK K
        try simp only [Act.put, List.setIfInBounds_toArray, List.set_cons_zero, List.set_cons_succ]
        refine wpAnyH_take (i := 11) (oi := { dst := _, op := _, type := _, pos := _, after := _, guard := _ }) (v := ?_) rfl (by kernel_rfl) (by kernel_rfl) (by kernel_rfl) (fun _ _ _ h => h) (Or.inl ⟨by rfl, ?_⟩) hH ?_
        rotate_left
        · intro w9 hSw
          try dsimp only at hSw
          obtain ⟨s0, s1⟩ := hSw
          go_simp
          try with_reducible rfl
        try simp only [Act.put, List.setIfInBounds_toArray, List.set_cons_zero, List.set_cons_succ]
        refine wpAnyH_ready (rs := [13]) (by kernel_rfl) (by simp) ?_
        refine AllReadyH.cons rfl (fun K hK => ?_) AllReadyH.nil
        have hZ : Below v10.heap.size v10 (v10.alloc (.cells #[.int .i64 0, .int .i64 50, .int .i64 51] 2)) := (Below.refl _ _).alloc (Nat.le_refl _) _
        replace hO := hO.now hZ
        replace hres := hres.now hZ
        replace hbox := hbox.now hZ
        replace hB := hB.trans (hZ.mono hB.size)
        replace hS := hS.now hZ
        have hpk := Blk.newAt v10 (t := 2) (cs := #[.int .i64 0, .int .i64 50, .int .i64 51]) _ rfl
        clear hZ e0 e1
        obtain ⟨e0, e1⟩ := hbox.c2
        go_simp
        refine hK.out _ _ ⟨e0, e1⟩ (fun hH => ?_)
        clear hK K
        try simp only [Act.put, List.setIfInBounds_toArray, List.set_cons_zero, List.set_cons_succ]
        obtain ⟨nb, hnb⟩ : ∃ nb, v10.heap.size = nb := ⟨_, rfl⟩
        rw [hnb] at hpk ⊢
        generalize v10.alloc (.cells #[.int .i64 0, .int .i64 50, .int .i64 51] 2) = Vnb at *
        clear hnb
        refine wpAnyH_ready (rs := [14]) (by kernel_rfl) (by simp) ?_
        refine AllReadyH.cons rfl (fun K hK => ?_) AllReadyH.nil
        go_simp
        go_at_call 111
        refine (spec_l01Pick g nb [0, 50, 51] _ hS hpk (by simp) (by simp)).mono ?_
        rintro e v14 ⟨pk, hpk2, rfl, hN⟩
        replace hO := own_draw hO (by decide) hS hN
        replace hres := blk_draw hres (by decide) hS hN
        replace hbox := blk_draw hbox (by decide) hS hN
        replace hB := below_draw hB hB.size hgb hN
        replace hS := hN.1
        clear hpk hpk2 hN e0 e1
        obtain ⟨e0, e1⟩ := hbox.c2
        refine hK.out _ _ ⟨e0, e1⟩ (fun hH => ?_)
        clear hK K
        try simp only [Act.put, List.setIfInBounds_toArray, List.set_cons_zero, List.set_cons_succ]
        refine wpAnyH_ready (rs := [15]) (by kernel_rfl) (by simp) ?_
        refine AllReadyH.cons rfl (fun K hK => ?_) AllReadyH.nil
        have hZ : Below v14.heap.size v14 (v14.alloc (.cells #[.int .i64 (1 + y4), .int .i64 (1 + y7), .int .i64 (1 + y10), .int .i64 pk] 2)) := (Below.refl _ _).alloc (Nat.le_refl _) _
        replace hO := hO.now hZ
        replace hres := hres.now hZ
        replace hbox := hbox.now hZ
        replace hB := hB.trans (hZ.mono hB.size)
        replace hS := hS.now hZ
        have hpk := Blk.newAt v14 (t := 2) (cs := #[.int .i64 (1 + y4), .int .i64 (1 + y7), .int .i64 (1 + y10), .int .i64 pk]) _ rfl
        clear hZ e0 e1
        obtain ⟨e0, e1⟩ := hbox.c2
        go_simp
        refine hK.out _ _ ⟨e0, e1⟩ (fun hH => ?_)
        clear hK K
        try simp only [Act.put, List.setIfInBounds_toArray, List.set_cons_zero, List.set_cons_succ]
        obtain ⟨nc, hnc⟩ : ∃ nc, v14.heap.size = nc := ⟨_, rfl⟩
        rw [hnc] at hpk ⊢
        generalize v14.alloc (.cells #[.int .i64 (1 + y4), .int .i64 (1 + y7), .int .i64 (1 + y10), .int .i64 pk] 2) = Vnc at *
        clear hnc
        refine wpAnyH_ready (rs := [16]) (by kernel_rfl) (by simp) ?_
        refine AllReadyH.cons rfl (fun K hK => ?_) AllReadyH.nil
        go_simp
        go_at_call 111
        refine (spec_l01Pick g nc [1 + y4, 1 + y7, 1 + y10, pk] _ hS hpk (by simp) (by simp)).mono ?_
        rintro e v16 ⟨kk, hkk, rfl, hN⟩
        replace hO := own_draw hO (by decide) hS hN
        replace hres := blk_draw hres (by decide) hS hN
        replace hbox := blk_draw hbox (by decide) hS hN
        replace hB := below_draw hB hB.size hgb hN
        replace hS := hN.1
        clear hpk hkk hN e0 e1
        obtain ⟨e0, e1⟩ := hbox.c2
        refine hK.out _ _ ⟨e0, e1⟩ (fun hH => ?_)
        clear hK K
        try simp only [Act.put, List.setIfInBounds_toArray, List.set_cons_zero, List.set_cons_succ]
        have f0 := hres.frozen 0
        have f1 := hres.frozen 1
        have lb2 := hres.lt
        obtain ⟨r0, r1⟩ := hres.c2
        have hq1 := Lib.hid (own_far (own_far hO (p := ⟨b2, 0, none⟩) (hO.ne_blk hres (by decide)) (.int .i64 ge)) (p := ⟨b2, 1, none⟩) (hO.ne_blk hres (by decide)) (.slice A gp.length c))
        have hq3 := Lib.hid ((hB.setCell (p := ⟨b2, 0, none⟩) hb2w (.int .i64 ge)).setCell (p := ⟨b2, 1, none⟩) hb2w (.slice A gp.length c))
        have hbx := (hbox.far (p := ⟨b2, 0, none⟩) (Ne.symm hne) (.int .i64 ge)).far (p := ⟨b2, 1, none⟩) (Ne.symm hne) (.slice A gp.length c)
        obtain ⟨x0, x1⟩ := hbx.c2
        refine wpAnyH_ready (rs := [17]) (by kernel_rfl) (by simp) ?_
        refine AllReadyH.cons rfl (fun K hK => ?_) AllReadyH.nil
        go_simp
        refine hK.out _ _ ⟨x0, x1⟩ (fun hH => ?_)
        clear hK K
        try simp only [Act.put, List.setIfInBounds_toArray, List.set_cons_zero, List.set_cons_succ]
        refine wpAnyH_take (i := 18) (oi := { dst := _, op := _, type := _, pos := _, after := _, guard := _ }) (v := ?_) rfl (by kernel_rfl) (by kernel_rfl) (by kernel_rfl) (fun _ _ _ h => h) (Or.inl ⟨by rfl, ?_⟩) hH ?_
        rotate_left
        · intro w9 hSw
          try dsimp only at hSw
          obtain ⟨s0, s1⟩ := hSw
          go_simp
          try with_reducible rfl
        try simp only [Act.put, List.setIfInBounds_toArray, List.set_cons_zero, List.set_cons_succ]
        refine wpAnyH_take (i := 19) (oi := { dst := _, op := _, type := _, pos := _, after := _, guard := _ }) (v := ?_) rfl (by kernel_rfl) (by kernel_rfl) (by kernel_rfl) (fun _ _ _ h => h) (Or.inl ⟨by rfl, ?_⟩) hH ?_
        rotate_left
        · intro w9 hSw
          try dsimp only at hSw
          obtain ⟨s0, s1⟩ := hSw
          go_simp
          try with_reducible rfl
        try simp only [Act.put, List.setIfInBounds_toArray, List.set_cons_zero, List.set_cons_succ]
        refine wpAnyH_done (by kernel_rfl) ?_ _
        clear hH hbx x0 x1 e0 e1 hO hres hbox hB hS
        go_wp2
        refine bodyPost_ret (v := .tuple #[.agg #[.int .i64 ge, .slice A gp.length c], .int .i64 n, .int .i64 kk]) (by simp [results, Try.results17, go_sem, r0, r1]) rfl ⟨ge, gp, _, n, kk, rfl, by omega, by omega, by omega, hq1.out, hq3.out⟩
      · have hZ : Below v7.heap.size v7 (v7.alloc (.cells #[.int .i64 0, .int .i64 50, .int .i64 51] 2)) := (Below.refl _ _).alloc (Nat.le_refl _) _
        replace hO := hO.now hZ
        replace hres := hres.now hZ
        replace hbox := hbox.now hZ
        replace hB := hB.trans (hZ.mono hB.size)
        replace hS := hS.now hZ
        have hpk := Blk.newAt v7 (t := 2) (cs := #[.int .i64 0, .int .i64 50, .int .i64 51]) _ rfl
        clear hZ e0 e1
        obtain ⟨e0, e1⟩ := hbox.c2
        go_simp
        refine hK.out _ _ ⟨e0, e1⟩ (fun hH => ?_)
        clear hK K
        try simp only [Act.put, List.setIfInBounds_toArray, List.set_cons_zero, List.set_cons_succ]
        obtain ⟨nb, hnb⟩ : ∃ nb, v7.heap.size = nb := ⟨_, rfl⟩
        rw [hnb] at hpk ⊢
        generalize v7.alloc (.cells #[.int .i64 0, .int .i64 50, .int .i64 51] 2) = Vnb at *
        clear hnb
        refine wpAnyH_ready (rs := [10]) (by kernel_rfl) (by simp) ?_
        refine AllReadyH.cons rfl (fun K hK => ?_) AllReadyH.nil
        go_simp
        go_at_call 112
        refine (spec_l01Next g 9 _ hS (by omega)).mono ?_
        rintro e v10 ⟨y10, rfl, hy, hN⟩
        have w10 : IntKind.i64.wrap (1 + y10) = 1 + y10 := IntWalk.i64_in _ (by have h1 := hy.1; have h2 := hy.2.1 (by omega); omega)
        replace hO := own_draw hO (by decide) hS hN
        replace hres := blk_draw hres (by decide) hS hN
        replace hbox := blk_draw hbox (by decide) hS hN
        replace hpk := blk_draw hpk (by decide) hS hN
        replace hB := below_draw hB hB.size hgb hN
        replace hS := hN.1
        clear hy hN e0 e1
        obtain ⟨e0, e1⟩ := hbox.c2
        refine hK.out _ _ ⟨e0, e1⟩ (fun hH => ?_)
        clear hK K
        try simp only [Act.put, List.setIfInBounds_toArray, List.set_cons_zero, List.set_cons_succ]
        refine wpAnyH_take (i := 11) (oi := { dst := _, op := _, type := _, pos := _, after := _, guard := _ }) (v := ?_) rfl (by kernel_rfl) (by kernel_rfl) (by kernel_rfl) (fun _ _ _ h => h) (Or.inl ⟨by rfl, ?_⟩) hH ?_
        rotate_left
        · intro w9 hSw
          try dsimp only at hSw
          obtain ⟨s0, s1⟩ := hSw
          go_simp
          try with_reducible rfl
        try simp only [Act.put, List.setIfInBounds_toArray, List.set_cons_zero, List.set_cons_succ]
        refine wpAnyH_ready (rs := [14]) (by kernel_rfl) (by simp) ?_
        refine AllReadyH.cons rfl (fun K hK => ?_) AllReadyH.nil
        go_simp
        go_at_call 111
        refine (spec_l01Pick g nb [0, 50, 51] _ hS hpk (by simp) (by simp)).mono ?_
        rintro e v14 ⟨pk, hpk2, rfl, hN⟩
        replace hO := own_draw hO (by decide) hS hN
        replace hres := blk_draw hres (by decide) hS hN
        replace hbox := blk_draw hbox (by decide) hS hN
        replace hB := below_draw hB hB.size hgb hN
        replace hS := hN.1
        clear hpk hpk2 hN e0 e1
        obtain ⟨e0, e1⟩ := hbox.c2
        refine hK.out _ _ ⟨e0, e1⟩ (fun hH => ?_)
        clear hK K
        try simp only [Act.put, List.setIfInBounds_toArray, List.set_cons_zero, List.set_cons_succ]
        refine wpAnyH_ready (rs := [15]) (by kernel_rfl) (by simp) ?_
        refine AllReadyH.cons rfl (fun K hK => ?_) AllReadyH.nil
        have hZ : Below v14.heap.size v14 (v14.alloc (.cells #[.int .i64 (1 + y4), .int .i64 (1 + y7), .int .i64 (1 + y10), .int .i64 pk] 2)) := (Below.refl _ _).alloc (Nat.le_refl _) _
        replace hO := hO.now hZ
        replace hres := hres.now hZ
        replace hbox := hbox.now hZ
        replace hB := hB.trans (hZ.mono hB.size)
        replace hS := hS.now hZ
        have hpk := Blk.newAt v14 (t := 2) (cs := #[.int .i64 (1 + y4), .int .i64 (1 + y7), .int .i64 (1 + y10), .int .i64 pk]) _ rfl
        clear hZ e0 e1
        obtain ⟨e0, e1⟩ := hbox.c2
        go_simp
        refine hK.out _ _ ⟨e0, e1⟩ (fun hH => ?_)
        clear hK K
        try simp only [Act.put, List.setIfInBounds_toArray, List.set_cons_zero, List.set_cons_succ]
        obtain ⟨nc, hnc⟩ : ∃ nc, v14.heap.size = nc := ⟨_, rfl⟩
        rw [hnc] at hpk ⊢
        generalize v14.alloc (.cells #[.int .i64 (1 + y4), .int .i64 (1 + y7), .int .i64 (1 + y10), .int .i64 pk] 2) = Vnc at *
        clear hnc
        refine wpAnyH_ready (rs := [16]) (by kernel_rfl) (by simp) ?_
        refine AllReadyH.cons rfl (fun K hK => ?_) AllReadyH.nil
        go_simp
        go_at_call 111
        refine (spec_l01Pick g nc [1 + y4, 1 + y7, 1 + y10, pk] _ hS hpk (by simp) (by simp)).mono ?_
        rintro e v16 ⟨kk, hkk, rfl, hN⟩
        replace hO := own_draw hO (by decide) hS hN
        replace hres := blk_draw hres (by decide) hS hN
        replace hbox := blk_draw hbox (by decide) hS hN
        replace hB := below_draw hB hB.size hgb hN
        replace hS := hN.1
        clear hpk hkk hN e0 e1
        obtain ⟨e0, e1⟩ := hbox.c2
        refine hK.out _ _ ⟨e0, e1⟩ (fun hH => ?_)
        clear hK K
        try simp only [Act.put, List.setIfInBounds_toArray, List.set_cons_zero, List.set_cons_succ]
        have f0 := hres.frozen 0
        have f1 := hres.frozen 1
        have lb2 := hres.lt
        obtain ⟨r0, r1⟩ := hres.c2
        have hq1 := Lib.hid (own_far (own_far hO (p := ⟨b2, 0, none⟩) (hO.ne_blk hres (by decide)) (.int .i64 ge)) (p := ⟨b2, 1, none⟩) (hO.ne_blk hres (by decide)) (.slice A gp.length c))
        have hq3 := Lib.hid ((hB.setCell (p := ⟨b2, 0, none⟩) hb2w (.int .i64 ge)).setCell (p := ⟨b2, 1, none⟩) hb2w (.slice A gp.length c))
        have hbx := (hbox.far (p := ⟨b2, 0, none⟩) (Ne.symm hne) (.int .i64 ge)).far (p := ⟨b2, 1, none⟩) (Ne.symm hne) (.slice A gp.length c)
        obtain ⟨x0, x1⟩ := hbx.c2
        refine wpAnyH_ready (rs := [17]) (by kernel_rfl) (by simp) ?_
        refine AllReadyH.cons rfl (fun K hK => ?_) AllReadyH.nil
        go_simp
        refine hK.out _ _ ⟨x0, x1⟩ (fun hH => ?_)
        clear hK K
        try simp only [Act.put, List.setIfInBounds_toArray, List.set_cons_zero, List.set_cons_succ]
        refine wpAnyH_take (i := 18) (oi := { dst := _, op := _, type := _, pos := _, after := _, guard := _ }) (v := ?_) rfl (by kernel_rfl) (by kernel_rfl) (by kernel_rfl) (fun _ _ _ h => h) (Or.inl ⟨by rfl, ?_⟩) hH ?_
        rotate_left
        · intro w9 hSw
          try dsimp only at hSw
          obtain ⟨s0, s1⟩ := hSw
          go_simp
          try with_reducible rfl
        try simp only [Act.put, List.setIfInBounds_toArray, List.set_cons_zero, List.set_cons_succ]
        refine wpAnyH_take (i := 19) (oi := { dst := _, op := _, type := _, pos := _, after := _, guard := _ }) (v := ?_) rfl (by kernel_rfl) (by kernel_rfl) (by kernel_rfl) (fun _ _ _ h => h) (Or.inl ⟨by rfl, ?_⟩) hH ?_
        rotate_left
        · intro w9 hSw
          try dsimp only at hSw
          obtain ⟨s0, s1⟩ := hSw
          go_simp
          try with_reducible rfl
        try simp only [Act.put, List.setIfInBounds_toArray, List.set_cons_zero, List.set_cons_succ]
        refine wpAnyH_done (by kernel_rfl) ?_ _
        clear hH hbx x0 x1 e0 e1 hO hres hbox hB hS
        go_wp2
        refine bodyPost_ret (v := .tuple #[.agg #[.int .i64 ge, .slice A gp.length c], .int .i64 n, .int .i64 kk]) (by simp [results, Try.results17, go_sem, r0, r1]) rfl ⟨ge, gp, _, n, kk, rfl, by omega, by omega, by omega, hq1.out, hq3.out⟩
    · have hZ : Below v4.heap.size v4 (v4.alloc (.cells #[.int .i64 0, .int .i64 50, .int .i64 51] 2)) := (Below.refl _ _).alloc (Nat.le_refl _) _
      replace hO := hO.now hZ
      replace hres := hres.now hZ
      replace hbox := hbox.now hZ
      replace hB := hB.trans (hZ.mono hB.size)
      replace hS := hS.now hZ
      have hpk := Blk.newAt v4 (t := 2) (cs := #[.int .i64 0, .int .i64 50, .int .i64 51]) _ rfl
      clear hZ e0 e1
      obtain ⟨e0, e1⟩ := hbox.c2
      go_simp
      refine hK.out _ _ ⟨e0, e1⟩ (fun hH => ?_)
      clear hK K
      try simp only [Act.put, List.setIfInBounds_toArray, List.set_cons_zero, List.set_cons_succ]
      obtain ⟨nb, hnb⟩ : ∃ nb, v4.heap.size = nb := ⟨_, rfl⟩
      rw [hnb] at hpk ⊢
      generalize v4.alloc (.cells #[.int .i64 0, .int .i64 50, .int .i64 51] 2) = Vnb at *
      clear hnb
      refine wpAnyH_ready (rs := [7]) (by kernel_rfl) (by simp) ?_
      refine AllReadyH.cons rfl (fun K hK => ?_) AllReadyH.nil
      go_simp
      go_at_call 112
      refine (spec_l01Next g 9 _ hS (by omega)).mono ?_
      rintro e v7 ⟨y7, rfl, hy, hN⟩
      have w7 : IntKind.i64.wrap (1 + y7) = 1 + y7 := IntWalk.i64_in _ (by have h1 := hy.1; have h2 := hy.2.1 (by omega); omega)
      replace hO := own_draw hO (by decide) hS hN
      replace hres := blk_draw hres (by decide) hS hN
      replace hbox := blk_draw hbox (by decide) hS hN
      replace hpk := blk_draw hpk (by decide) hS hN
      replace hB := below_draw hB hB.size hgb hN
      replace hS := hN.1
      clear hy hN e0 e1
      obtain ⟨e0, e1⟩ := hbox.c2
      refine hK.out _ _ ⟨e0, e1⟩ (fun hH => ?_)
      clear hK K
      try simp only [Act.put, List.setIfInBounds_toArray, List.set_cons_zero, List.set_cons_succ]
      refine wpAnyH_take (i := 8) (oi := { dst := _, op := _, type := _, pos := _, after := _, guard := _ }) (v := ?_) rfl (by kernel_rfl) (by kernel_rfl) (by kernel_rfl) (fun _ _ _ h => h) (Or.inl ⟨by rfl, ?_⟩) hH ?_
      rotate_left
      · intro w9 hSw
        try dsimp only at hSw
        obtain ⟨s0, s1⟩ := hSw
        go_simp
        try with_reducible rfl
      try simp only [Act.put, List.setIfInBounds_toArray, List.set_cons_zero, List.set_cons_succ]
      refine wpAnyH_ready (rs := [10]) (by kernel_rfl) (by simp) ?_
      refine AllReadyH.cons rfl (fun K hK => ?_) AllReadyH.nil
      go_simp
      go_at_call 112
      refine (spec_l01Next g 9 _ hS (by omega)).mono ?_
      rintro e v10 ⟨y10, rfl, hy, hN⟩
      have w10 : IntKind.i64.wrap (1 + y10) = 1 + y10 := IntWalk.i64_in _ (by have h1 := hy.1; have h2 := hy.2.1 (by omega); omega)
      replace hO := own_draw hO (by decide) hS hN
      replace hres := blk_draw hres (by decide) hS hN
      replace hbox := blk_draw hbox (by decide) hS hN
      replace hpk := blk_draw hpk (by decide) hS hN
      replace hB := below_draw hB hB.size hgb hN
      replace hS := hN.1
      clear hy hN e0 e1
      obtain ⟨e0, e1⟩ := hbox.c2
      refine hK.out _ _ ⟨e0, e1⟩ (fun hH => ?_)
      clear hK K
      try simp only [Act.put, List.setIfInBounds_toArray, List.set_cons_zero, List.set_cons_succ]
      refine wpAnyH_take (i := 11) (oi := { dst := _, op := _, type := _, pos := _, after := _, guard := _ }) (v := ?_) rfl (by kernel_rfl) (by kernel_rfl) (by kernel_rfl) (fun _ _ _ h => h) (Or.inl ⟨by rfl, ?_⟩) hH ?_
      rotate_left
      · intro w9 hSw
        try dsimp only at hSw
        obtain ⟨s0, s1⟩ := hSw
        go_simp
        try with_reducible rfl
      try simp only [Act.put, List.setIfInBounds_toArray, List.set_cons_zero, List.set_cons_succ]
      refine wpAnyH_ready (rs := [14]) (by kernel_rfl) (by simp) ?_
      refine AllReadyH.cons rfl (fun K hK => ?_) AllReadyH.nil
      go_simp
      go_at_call 111
      refine (spec_l01Pick g nb [0, 50, 51] _ hS hpk (by simp) (by simp)).mono ?_
      rintro e v14 ⟨pk, hpk2, rfl, hN⟩
      replace hO := own_draw hO (by decide) hS hN
      replace hres := blk_draw hres (by decide) hS hN
      replace hbox := blk_draw hbox (by decide) hS hN
      replace hB := below_draw hB hB.size hgb hN
      replace hS := hN.1
      clear hpk hpk2 hN e0 e1
      obtain ⟨e0, e1⟩ := hbox.c2
      refine hK.out _ _ ⟨e0, e1⟩ (fun hH => ?_)
      clear hK K
      try simp only [Act.put, List.setIfInBounds_toArray, List.set_cons_zero, List.set_cons_succ]
      refine wpAnyH_ready (rs := [15]) (by kernel_rfl) (by simp) ?_
      refine AllReadyH.cons rfl (fun K hK => ?_) AllReadyH.nil
      have hZ : Below v14.heap.size v14 (v14.alloc (.cells #[.int .i64 (1 + y4), .int .i64 (1 + y7), .int .i64 (1 + y10), .int .i64 pk] 2)) := (Below.refl _ _).alloc (Nat.le_refl _) _
      replace hO := hO.now hZ
      replace hres := hres.now hZ
      replace hbox := hbox.now hZ
      replace hB := hB.trans (hZ.mono hB.size)
      replace hS := hS.now hZ
      have hpk := Blk.newAt v14 (t := 2) (cs := #[.int .i64 (1 + y4), .int .i64 (1 + y7), .int .i64 (1 + y10), .int .i64 pk]) _ rfl
      clear hZ e0 e1
      obtain ⟨e0, e1⟩ := hbox.c2
      go_simp
      refine hK.out _ _ ⟨e0, e1⟩ (fun hH => ?_)
      clear hK K
      try simp only [Act.put, List.setIfInBounds_toArray, List.set_cons_zero, List.set_cons_succ]
      obtain ⟨nc, hnc⟩ : ∃ nc, v14.heap.size = nc := ⟨_, rfl⟩
      rw [hnc] at hpk ⊢
      generalize v14.alloc (.cells #[.int .i64 (1 + y4), .int .i64 (1 + y7), .int .i64 (1 + y10), .int .i64 pk] 2) = Vnc at *
      clear hnc
      refine wpAnyH_ready (rs := [16]) (by kernel_rfl) (by simp) ?_
      refine AllReadyH.cons rfl (fun K hK => ?_) AllReadyH.nil
      go_simp
      go_at_call 111
      refine (spec_l01Pick g nc [1 + y4, 1 + y7, 1 + y10, pk] _ hS hpk (by simp) (by simp)).mono ?_
      rintro e v16 ⟨kk, hkk, rfl, hN⟩
      replace hO := own_draw hO (by decide) hS hN
      replace hres := blk_draw hres (by decide) hS hN
      replace hbox := blk_draw hbox (by decide) hS hN
      replace hB := below_draw hB hB.size hgb hN
      replace hS := hN.1
      clear hpk hkk hN e0 e1
      obtain ⟨e0, e1⟩ := hbox.c2
      refine hK.out _ _ ⟨e0, e1⟩ (fun hH => ?_)
      clear hK K
      try simp only [Act.put, List.setIfInBounds_toArray, List.set_cons_zero, List.set_cons_succ]
      have f0 := hres.frozen 0
      have f1 := hres.frozen 1
      have lb2 := hres.lt
      obtain ⟨r0, r1⟩ := hres.c2
      have hq1 := Lib.hid (own_far (own_far hO (p := ⟨b2, 0, none⟩) (hO.ne_blk hres (by decide)) (.int .i64 ge)) (p := ⟨b2, 1, none⟩) (hO.ne_blk hres (by decide)) (.slice A gp.length c))
      have hq3 := Lib.hid ((hB.setCell (p := ⟨b2, 0, none⟩) hb2w (.int .i64 ge)).setCell (p := ⟨b2, 1, none⟩) hb2w (.slice A gp.length c))
      have hbx := (hbox.far (p := ⟨b2, 0, none⟩) (Ne.symm hne) (.int .i64 ge)).far (p := ⟨b2, 1, none⟩) (Ne.symm hne) (.slice A gp.length c)
      obtain ⟨x0, x1⟩ := hbx.c2
      refine wpAnyH_ready (rs := [17]) (by kernel_rfl) (by simp) ?_
      refine AllReadyH.cons rfl (fun K hK => ?_) AllReadyH.nil
      go_simp
      refine hK.out _ _ ⟨x0, x1⟩ (fun hH => ?_)
      clear hK K
      try simp only [Act.put, List.setIfInBounds_toArray, List.set_cons_zero, List.set_cons_succ]
      refine wpAnyH_take (i := 18) (oi := { dst := _, op := _, type := _, pos := _, after := _, guard := _ }) (v := ?_) rfl (by kernel_rfl) (by kernel_rfl) (by kernel_rfl) (fun _ _ _ h => h) (Or.inl ⟨by rfl, ?_⟩) hH ?_
      rotate_left
      · intro w9 hSw
        try dsimp only at hSw
        obtain ⟨s0, s1⟩ := hSw
        go_simp
        try with_reducible rfl
      try simp only [Act.put, List.setIfInBounds_toArray, List.set_cons_zero, List.set_cons_succ]
      refine wpAnyH_take (i := 19) (oi := { dst := _, op := _, type := _, pos := _, after := _, guard := _ }) (v := ?_) rfl (by kernel_rfl) (by kernel_rfl) (by kernel_rfl) (fun _ _ _ h => h) (Or.inl ⟨by rfl, ?_⟩) hH ?_
      rotate_left
      · intro w9 hSw
        try dsimp only at hSw
        obtain ⟨s0, s1⟩ := hSw
        go_simp
        try with_reducible rfl
      try simp only [Act.put, List.setIfInBounds_toArray, List.set_cons_zero, List.set_cons_succ]
      refine wpAnyH_done (by kernel_rfl) ?_ _
      clear hH hbx x0 x1 e0 e1 hO hres hbox hB hS
      go_wp2
      refine bodyPost_ret (v := .tuple #[.agg #[.int .i64 ge, .slice A gp.length c], .int .i64 n, .int .i64 kk]) (by simp [results, Try.results17, go_sem, r0, r1]) rfl ⟨ge, gp, _, n, kk, rfl, by omega, by omega, by omega, hq1.out, hq3.out⟩
  · have hZ : Below Va.heap.size Va (Va.alloc (.cells #[.int .i64 0, .int .i64 50, .int .i64 51] 2)) := (Below.refl _ _).alloc (Nat.le_refl _) _
    replace hO := hO.now hZ
    replace hres := hres.now hZ
    replace hbox := hbox.now hZ
    replace hB := hB.trans (hZ.mono hB.size)
    replace hS := hS.now hZ
    have hpk := Blk.newAt Va (t := 2) (cs := #[.int .i64 0, .int .i64 50, .int .i64 51]) _ rfl
    clear hZ e0 e1
    obtain ⟨e0, e1⟩ := hbox.c2
    go_simp
    refine hK.out _ _ ⟨e0, e1⟩ (fun hH => ?_)
    clear hK K
    try simp only [Act.put, List.setIfInBounds_toArray, List.set_cons_zero, List.set_cons_succ]
    obtain ⟨nb, hnb⟩ : ∃ nb, Va.heap.size = nb := ⟨_, rfl⟩
    rw [hnb] at hpk ⊢
    generalize Va.alloc (.cells #[.int .i64 0, .int .i64 50, .int .i64 51] 2) = Vnb at *
    clear hnb
    refine wpAnyH_ready (rs := [4]) (by kernel_rfl) (by simp) ?_
    refine AllReadyH.cons rfl (fun K hK => ?_) AllReadyH.nil
    go_simp
    go_at_call 112
    refine (spec_l01Next g 9 _ hS (by omega)).mono ?_
    rintro e v4 ⟨y4, rfl, hy, hN⟩
    have w4 : IntKind.i64.wrap (1 + y4) = 1 + y4 := IntWalk.i64_in _ (by have h1 := hy.1; have h2 := hy.2.1 (by omega); omega)
    replace hO := own_draw hO (by decide) hS hN
    replace hres := blk_draw hres (by decide) hS hN
    replace hbox := blk_draw hbox (by decide) hS hN
    replace hpk := blk_draw hpk (by decide) hS hN
    replace hB := below_draw hB hB.size hgb hN
    replace hS := hN.1
    clear hy hN e0 e1
    obtain ⟨e0, e1⟩ := hbox.c2
    refine hK.out _ _ ⟨e0, e1⟩ (fun hH => ?_)
    clear hK K
    try simp only [Act.put, List.setIfInBounds_toArray, List.set_cons_zero, List.set_cons_succ]
    refine wpAnyH_take (i := 5) (oi := { dst := _, op := _, type := _, pos := _, after := _, guard := _ }) (v := ?_) rfl (by kernel_rfl) (by kernel_rfl) (by kernel_rfl) (fun _ _ _ h => h) (Or.inl ⟨by rfl, ?_⟩) hH ?_
    rotate_left
    · intro w9 hSw
      try dsimp only at hSw
      obtain ⟨s0, s1⟩ := hSw
      go_simp
      try with_reducible rfl
    try simp only [Act.put, List.setIfInBounds_toArray, List.set_cons_zero, List.set_cons_succ]
    refine wpAnyH_ready (rs := [7]) (by kernel_rfl) (by simp) ?_
    refine AllReadyH.cons rfl (fun K hK => ?_) AllReadyH.nil
    go_simp
    go_at_call 112
    refine (spec_l01Next g 9 _ hS (by omega)).mono ?_
    rintro e v7 ⟨y7, rfl, hy, hN⟩
    have w7 : IntKind.i64.wrap (1 + y7) = 1 + y7 := IntWalk.i64_in _ (by have h1 := hy.1; have h2 := hy.2.1 (by omega); omega)
    replace hO := own_draw hO (by decide) hS hN
    replace hres := blk_draw hres (by decide) hS hN
    replace hbox := blk_draw hbox (by decide) hS hN
    replace hpk := blk_draw hpk (by decide) hS hN
    replace hB := below_draw hB hB.size hgb hN
    replace hS := hN.1
    clear hy hN e0 e1
    obtain ⟨e0, e1⟩ := hbox.c2
    refine hK.out _ _ ⟨e0, e1⟩ (fun hH => ?_)
    clear hK K
    try simp only [Act.put, List.setIfInBounds_toArray, List.set_cons_zero, List.set_cons_succ]
    refine wpAnyH_take (i := 8) (oi := { dst := _, op := _, type := _, pos := _, after := _, guard := _ }) (v := ?_) rfl (by kernel_rfl) (by kernel_rfl) (by kernel_rfl) (fun _ _ _ h => h) (Or.inl ⟨by rfl, ?_⟩) hH ?_
    rotate_left
    · intro w9 hSw
      try dsimp only at hSw
      obtain ⟨s0, s1⟩ := hSw
      go_simp
      try with_reducible rfl
    try simp only [Act.put, List.setIfInBounds_toArray, List.set_cons_zero, List.set_cons_succ]
    refine wpAnyH_ready (rs := [10]) (by kernel_rfl) (by simp) ?_
    refine AllReadyH.cons rfl (fun K hK => ?_) AllReadyH.nil
    go_simp
    go_at_call 112
    refine (spec_l01Next g 9 _ hS (by omega)).mono ?_
    rintro e v10 ⟨y10, rfl, hy, hN⟩
    have w10 : IntKind.i64.wrap (1 + y10) = 1 + y10 := IntWalk.i64_in _ (by have h1 := hy.1; have h2 := hy.2.1 (by omega); omega)
    replace hO := own_draw hO (by decide) hS hN
    replace hres := blk_draw hres (by decide) hS hN
    replace hbox := blk_draw hbox (by decide) hS hN
    replace hpk := blk_draw hpk (by decide) hS hN
    replace hB := below_draw hB hB.size hgb hN
    replace hS := hN.1
    clear hy hN e0 e1
    obtain ⟨e0, e1⟩ := hbox.c2
    refine hK.out _ _ ⟨e0, e1⟩ (fun hH => ?_)
    clear hK K
    try simp only [Act.put, List.setIfInBounds_toArray, List.set_cons_zero, List.set_cons_succ]
    refine wpAnyH_take (i := 11) (oi := { dst := _, op := _, type := _, pos := _, after := _, guard := _ }) (v := ?_) rfl (by kernel_rfl) (by kernel_rfl) (by kernel_rfl) (fun _ _ _ h => h) (Or.inl ⟨by rfl, ?_⟩) hH ?_
    rotate_left
    · intro w9 hSw
      try dsimp only at hSw
      obtain ⟨s0, s1⟩ := hSw
      go_simp
      try with_reducible rfl
    try simp only [Act.put, List.setIfInBounds_toArray, List.set_cons_zero, List.set_cons_succ]
    refine wpAnyH_ready (rs := [14]) (by kernel_rfl) (by simp) ?_
    refine AllReadyH.cons rfl (fun K hK => ?_) AllReadyH.nil
    go_simp
    go_at_call 111
    refine (spec_l01Pick g nb [0, 50, 51] _ hS hpk (by simp) (by simp)).mono ?_
    rintro e v14 ⟨pk, hpk2, rfl, hN⟩
    replace hO := own_draw hO (by decide) hS hN
    replace hres := blk_draw hres (by decide) hS hN
    replace hbox := blk_draw hbox (by decide) hS hN
    replace hB := below_draw hB hB.size hgb hN
    replace hS := hN.1
    clear hpk hpk2 hN e0 e1
    obtain ⟨e0, e1⟩ := hbox.c2
    refine hK.out _ _ ⟨e0, e1⟩ (fun hH => ?_)
    clear hK K
    try simp only [Act.put, List.setIfInBounds_toArray, List.set_cons_zero, List.set_cons_succ]
    refine wpAnyH_ready (rs := [15]) (by kernel_rfl) (by simp) ?_
    refine AllReadyH.cons rfl (fun K hK => ?_) AllReadyH.nil
    have hZ : Below v14.heap.size v14 (v14.alloc (.cells #[.int .i64 (1 + y4), .int .i64 (1 + y7), .int .i64 (1 + y10), .int .i64 pk] 2)) := (Below.refl _ _).alloc (Nat.le_refl _) _
    replace hO := hO.now hZ
    replace hres := hres.now hZ
    replace hbox := hbox.now hZ
    replace hB := hB.trans (hZ.mono hB.size)
    replace hS := hS.now hZ
    have hpk := Blk.newAt v14 (t := 2) (cs := #[.int .i64 (1 + y4), .int .i64 (1 + y7), .int .i64 (1 + y10), .int .i64 pk]) _ rfl
    clear hZ e0 e1
    obtain ⟨e0, e1⟩ := hbox.c2
    go_simp
    refine hK.out _ _ ⟨e0, e1⟩ (fun hH => ?_)
    clear hK K
    try simp only [Act.put, List.setIfInBounds_toArray, List.set_cons_zero, List.set_cons_succ]
    obtain ⟨nc, hnc⟩ : ∃ nc, v14.heap.size = nc := ⟨_, rfl⟩
    rw [hnc] at hpk ⊢
    generalize v14.alloc (.cells #[.int .i64 (1 + y4), .int .i64 (1 + y7), .int .i64 (1 + y10), .int .i64 pk] 2) = Vnc at *
    clear hnc
    refine wpAnyH_ready (rs := [16]) (by kernel_rfl) (by simp) ?_
    refine AllReadyH.cons rfl (fun K hK => ?_) AllReadyH.nil
    go_simp
    go_at_call 111
    refine (spec_l01Pick g nc [1 + y4, 1 + y7, 1 + y10, pk] _ hS hpk (by simp) (by simp)).mono ?_
    rintro e v16 ⟨kk, hkk, rfl, hN⟩
    replace hO := own_draw hO (by decide) hS hN
    replace hres := blk_draw hres (by decide) hS hN
    replace hbox := blk_draw hbox (by decide) hS hN
    replace hB := below_draw hB hB.size hgb hN
    replace hS := hN.1
    clear hpk hkk hN e0 e1
    obtain ⟨e0, e1⟩ := hbox.c2
    refine hK.out _ _ ⟨e0, e1⟩ (fun hH => ?_)
    clear hK K
    try simp only [Act.put, List.setIfInBounds_toArray, List.set_cons_zero, List.set_cons_succ]
    have f0 := hres.frozen 0
    have f1 := hres.frozen 1
    have lb2 := hres.lt
    obtain ⟨r0, r1⟩ := hres.c2
    have hq1 := Lib.hid (own_far (own_far hO (p := ⟨b2, 0, none⟩) (hO.ne_blk hres (by decide)) (.int .i64 ge)) (p := ⟨b2, 1, none⟩) (hO.ne_blk hres (by decide)) (.slice A gp.length c))
    have hq3 := Lib.hid ((hB.setCell (p := ⟨b2, 0, none⟩) hb2w (.int .i64 ge)).setCell (p := ⟨b2, 1, none⟩) hb2w (.slice A gp.length c))
    have hbx := (hbox.far (p := ⟨b2, 0, none⟩) (Ne.symm hne) (.int .i64 ge)).far (p := ⟨b2, 1, none⟩) (Ne.symm hne) (.slice A gp.length c)
    obtain ⟨x0, x1⟩ := hbx.c2
    refine wpAnyH_ready (rs := [17]) (by kernel_rfl) (by simp) ?_
    refine AllReadyH.cons rfl (fun K hK => ?_) AllReadyH.nil
    go_simp
    refine hK.out _ _ ⟨x0, x1⟩ (fun hH => ?_)
    clear hK K
    try simp only [Act.put, List.setIfInBounds_toArray, List.set_cons_zero, List.set_cons_succ]
    refine wpAnyH_take (i := 18) (oi := { dst := _, op := _, type := _, pos := _, after := _, guard := _ }) (v := ?_) rfl (by kernel_rfl) (by kernel_rfl) (by kernel_rfl) (fun _ _ _ h => h) (Or.inl ⟨by rfl, ?_⟩) hH ?_
    rotate_left
    · intro w9 hSw
      try dsimp only at hSw
      obtain ⟨s0, s1⟩ := hSw
      go_simp
      try with_reducible rfl
    try simp only [Act.put, List.setIfInBounds_toArray, List.set_cons_zero, List.set_cons_succ]
    refine wpAnyH_take (i := 19) (oi := { dst := _, op := _, type := _, pos := _, after := _, guard := _ }) (v := ?_) rfl (by kernel_rfl) (by kernel_rfl) (by kernel_rfl) (fun _ _ _ h => h) (Or.inl ⟨by rfl, ?_⟩) hH ?_
    rotate_left
    · intro w9 hSw
      try dsimp only at hSw
      obtain ⟨s0, s1⟩ := hSw
      go_simp
      try with_reducible rfl
    try simp only [Act.put, List.setIfInBounds_toArray, List.set_cons_zero, List.set_cons_succ]
    refine wpAnyH_done (by kernel_rfl) ?_ _
    clear hH hbx x0 x1 e0 e1 hO hres hbox hB hS
    go_wp2
    refine bodyPost_ret (v := .tuple #[.agg #[.int .i64 ge, .slice A gp.length c], .int .i64 n, .int .i64 kk]) (by simp [results, Try.results17, go_sem, r0, r1]) rfl ⟨ge, gp, _, n, kk, rfl, by omega, by omega, by omega, hq1.out, hq3.out⟩
theorem own_new1T {α : Type} (f : α → List Value) (size : Nat) (hf : ∀ x, (f x).length = size) (w : World) (e : TypeId) (base : Nat) (hb : base ≤ w.heap.size) (x : α) (hs : size ≤ 64) : Own f size e (w.alloc (.cells (f x).toArray e)) base (.slice (some ⟨w.heap.size, 0, none⟩) 1 1) ([x] : List α) :=
  ⟨by simp [hf], .inr ⟨w.heap.size, 1, (f x).toArray, rfl, hb, heap_alloc_new w _, Nat.le_refl _, by simp [maxLen], by simp [hf], by simp; exact List.take_of_length_le (Nat.le_of_eq (hf x))⟩⟩
/-- A table of one row of one number, made anew. -/
theorem OwnM.one (w : World) (base : Nat) (hb : base ≤ w.heap.size) (x : Int) : OwnM ((w.alloc (.cells #[.int .i64 x] 2)).alloc (.cells #[.slice (some ⟨w.heap.size, 0, none⟩) 1 1] 38)) base (.slice (some ⟨w.heap.size + 1, 0, none⟩) 1 1) [[x]] := by
  have h1 := own_new1T intCell 1 intCell_len w 2 base hb x (by decide)
  have h2 := own_new1T Ref.cells 1 Ref.cells_len (w.alloc (.cells #[.int .i64 x] 2)) 38 base (by simp; omega) ⟨some ⟨w.heap.size, 0, none⟩, 1, 1⟩ (by decide)
  rw [show (w.alloc (.cells #[.int .i64 x] 2)).heap.size = w.heap.size + 1 by simp] at h2
  refine ⟨[⟨some ⟨w.heap.size, 0, none⟩, 1, 1⟩], rfl, h2, fun i hi hi2 => ?_, fun i j hi hj hne => ?_⟩
  · obtain rfl : i = 0 := by simp at hi; omega
    exact h1.now ((Below.refl _ _).alloc (Nat.le_refl _) _)
  · simp at hi hj
    omega
theorem timesF_ok {ge N : Int} {gp : List Place} {T : List (List Int)} (h : timesF ge gp N = (T, 0)) : okGraph ge gp = true := by
  unfold timesF at h
  split at h
  · rename_i hc
    exact (timC_zero hc).1
  · rename_i hc
    exact absurd (congrArg Prod.snd h) hc
set_option maxHeartbeats 16000000 in
set_option maxRecDepth 100000 in
theorem spec_DrawIsFiringTable (cv : Value) (bs : List Int) (w : World) (h0 : Lst byteCell 1 w w.heap.size cv bs) (hbv : Hid (∀ b ∈ bs, 0 ≤ b ∧ b ≤ 255)) :
    Calls Try.prog 20 #[cv] w fun e w' => ∃ ge gp v u T, e = .returned (.tuple #[.agg #[.int .i64 ge, v], u]) ∧ 0 ≤ ge ∧ ge ≤ 11 ∧ gp.length ≤ 40 ∧ Own Place.cells 4 45 w' w.heap.size v gp ∧ OwnM w' w.heap.size u T ∧ Below w.heap.size w w' := by
  go_enter Try.func20, Try.ntmps20
  go_wp2_with fail
  have hA : Below w.heap.size w (w.alloc (.cells #[.int .i64 0, .slice none 0 0] 26)) := (Below.refl _ _).alloc (Nat.le_refl _) _
  have hres := Blk.newAt w (t := 26) (cs := #[.int .i64 0, .slice none 0 0]) _ rfl
  have hszA : (w.alloc (.cells #[.int .i64 0, .slice none 0 0] 26)).heap.size = w.heap.size + 1 := by simp
  refine (spec_l01From _ bs _ (h0.now hA) hbv).mono ?_
  rintro e w1 ⟨rfl, hS, hB1⟩
  rw [hszA] at hS hB1 ⊢
  have hB : Below w.heap.size w w1 := hA.trans (hB1.mono (by omega))
  replace hres := hres.below hB1 (by omega)
  obtain ⟨b2, hb2⟩ : ∃ b2, w.heap.size = b2 := ⟨_, rfl⟩
  obtain ⟨g, hg⟩ : ∃ g, w.heap.size + 1 = g := ⟨_, rfl⟩
  have hgb : w.heap.size ≤ g := by omega
  rw [hg] at hS ⊢
  rw [hb2] at hres
  rw [show (Value.pointer (some ⟨w.heap.size, 0, none⟩)) = .pointer (some ⟨b2, 0, none⟩) by rw [hb2]]
  have hb2w : w.heap.size ≤ b2 := by omega
  have hs1 := hB.size
  clear hA hszA hB1 hb2 hg
  go_wp2_with fail
  refine (spec_l13Draw g _ hS).mono ?_
  rintro e w2 ⟨ge, gp, v, N, rfl, hg0, hg1, hlen, hn1, hn2, hO, hN⟩
  obtain ⟨A, c, rfl⟩ := hO.shape
  replace hO := hO.rebase hs1
  replace hres := blk_draw hres (by decide) hS hN
  replace hB := below_draw hB hs1 hgb hN
  replace hS := hN.1
  have hs2 := hB.size
  clear hN hs1
  have hA2 : Below w2.heap.size w2 (w2.alloc (.cells #[.int .i64 ge, .slice A gp.length c] 26)) := (Below.refl _ _).alloc (Nat.le_refl _) _
  have hbox := Blk.newAt w2 (t := 26) (cs := #[.int .i64 ge, .slice A gp.length c]) _ rfl
  go_wp2_with fail
  replace hO := hO.now hA2
  replace hres := hres.now hA2
  replace hB := hB.trans (hA2.mono hs2)
  replace hS := hS.now hA2
  generalize w2.alloc (.cells #[.int .i64 ge, .slice A gp.length c] 26) = wa at *
  obtain ⟨bg, hbg⟩ : ∃ bg, w2.heap.size = bg := ⟨_, rfl⟩
  rw [hbg] at hbox ⊢
  clear hA2 hs2 hbg
  obtain ⟨T, cd, hT⟩ : ∃ T cd, timesF ge gp N = (T, cd) := ⟨_, _, rfl⟩
  refine (spec_FiringTimes _ ge gp N _ hO.lst).mono ?_
  rintro e wb ⟨x, rfl, hM, hB2⟩
  rw [hT] at hM ⊢
  obtain ⟨TA, tc, rfl⟩ := hM.shape
  obtain ⟨mb, hmb⟩ : ∃ mb, wa.heap.size = mb := ⟨_, rfl⟩
  have hgm : g < mb := by rw [← hmb]; exact hS.lt
  have hbm : b2 < mb := by rw [← hmb]; exact hres.lt
  have hmw : w.heap.size ≤ mb := by rw [← hmb]; exact hB.size
  rw [hmb] at hM
  have hmb2 : mb ≤ wb.heap.size := by rw [← hmb]; exact hB2.size
  clear hmb
  replace hO := hO.now hB2
  replace hres := hres.now hB2
  replace hbox := hbox.now hB2
  replace hS := hS.now hB2
  replace hB := hB.trans (hB2.mono hB.size)
  clear hB2
  have hTH := Lib.hid hT
  clear hT
  by_cases hc0 : cd = 0
  · subst hc0
    have hok := timesF_ok hTH.out
    have hev := okGraph_ev hok
    obtain ⟨n, m, rfl, rfl, hn10, hm50, -, -, hTl, hTr, hTb, -⟩ := fir_law hTH.out
    have hTlH := Lib.hid hTl
    have hTrH := Lib.hid hTr
    have hTbH := Lib.hid hTb
    have hT50 : T.length ≤ 50 := by omega
    clear hok hTl hTr hTb hmb2
    by_cases hlen0 : 0 < T.length
    · have hlenI : (0 : Int) < (T.length : Int) := by omega
      have l0 := hbox.lt
      obtain ⟨k0, k1⟩ := hbox.c2
      go_wp2_with fail
      clear l0 k0 k1
      refine (spec_l01Next g 2 _ hS (by omega)).mono ?_
      rintro e wc ⟨y2, rfl, hy2, hN⟩
      replace hO := own_draw hO (by decide) hS hN
      replace hres := blk_draw hres (by decide) hS hN
      replace hbox := blk_draw hbox (by decide) hS hN
      replace hM := hM.grown hN.2 hgm
      replace hB := below_draw hB hB.size hgb hN
      replace hS := hN.1
      clear hN
      clear hy2
      by_cases hy : y2 = 0
      · have q2 : (y2 == 0) = true := by simp [hy]
        clear hy
        have l0 := hbox.lt
        obtain ⟨k0, k1⟩ := hbox.c2
        go_wp2_with fail
        clear l0 k0 k1
        refine (spec_l01Next g (T.length : Int) _ hS (by omega)).mono ?_
        rintro e wd ⟨kk, rfl, hkk, hN⟩
        replace hO := own_draw hO (by decide) hS hN
        replace hres := blk_draw hres (by decide) hS hN
        replace hbox := blk_draw hbox (by decide) hS hN
        replace hM := hM.grown hN.2 hgm
        replace hB := below_draw hB hB.size hgb hN
        replace hS := hN.1
        clear hN
        have hk1 : 0 ≤ kk ∧ kk < (T.length : Int) := by obtain ⟨n1, n2, n3⟩ := hkk; omega
        clear hkk
        have l0 := hbox.lt
        obtain ⟨k0, k1⟩ := hbox.c2
        go_wp2_with fail
        clear l0 k0 k1
        refine (spec_l01Next g (n : Int) _ hS (by omega)).mono ?_
        rintro e we ⟨ee, rfl, hee, hN⟩
        replace hO := own_draw hO (by decide) hS hN
        replace hres := blk_draw hres (by decide) hS hN
        replace hbox := blk_draw hbox (by decide) hS hN
        replace hM := hM.grown hN.2 hgm
        replace hB := below_draw hB hB.size hgb hN
        replace hS := hN.1
        clear hN
        have he1 : 0 ≤ ee ∧ ee < (n : Int) := by obtain ⟨n1, n2, n3⟩ := hee; omega
        clear hee
        obtain ⟨k, rfl⟩ := Int.eq_ofNat_of_zero_le hk1.1
        obtain ⟨q, rfl⟩ := Int.eq_ofNat_of_zero_le he1.1
        have hkT : k < T.length := by omega
        have hRl := hTrH.out _ (List.getElem_mem hkT)
        have hql : q < T[k].length := by omega
        have hBd : Below we.heap.size we we.drew := Below.drew (Below.refl _ we)
        replace hO := hO.now hBd
        replace hres := hres.now hBd
        replace hbox := hbox.now hBd
        replace hM := hM.now hBd
        replace hB := hB.trans (hBd.mono hB.size)
        replace hS := hS.now hBd
        clear hBd
        obtain ⟨g1, cu, r1, hu, hgb1, hgl1, _, z0, hr1, hne1, -, -⟩ := hM.row k hkT
        cases hu
        obtain ⟨bk, ck, hv1, hbB, hbl0, -⟩ := hr1.at_ intCell_len q hql
        rw [hRl] at hv1
        rw [hv1] at z0 hr1 hne1
        obtain ⟨hbk, hbk2, _, z1⟩ := own_ints_at hr1 q hql
        have hxb := hTbH.out k q
        rw [getT_eq hkT hql] at hxb
        obtain ⟨xv, hxv⟩ : ∃ xv, T[k][q] = xv := ⟨_, rfl⟩
        rw [hxv] at z1 hxb
        clear hxv hr1 hne1 hbB hbl0 hv1
        have i1 : (0 : Int) ≤ (k : Int) := by omega
        have i2 : (k : Int) < (T.length : Int) := by omega
        have i3 : (0 : Int) ≤ (q : Int) := by omega
        have i4 : (q : Int) < (n : Int) := by omega
        have hRlH := Lib.hid hRl
        have hqlH := Lib.hid hql
        have hkTH := Lib.hid hkT
        clear hRl
        go_wp2_with fail
        refine wp_region_E (fun w' => w'.cell? ⟨g1, k, none⟩ = some (.slice (some ⟨bk, 0, none⟩) n ck) ∧ w'.cell? ⟨bk, q, none⟩ = some (.int .i64 xv)) 17 (by kernel_rfl) ?_
        have hS0 : (fun w' : World => w'.cell? ⟨g1, k, none⟩ = some (.slice (some ⟨bk, 0, none⟩) n ck) ∧ w'.cell? ⟨bk, q, none⟩ = some (.int .i64 xv)) we.drew := ⟨z0, z1⟩
        generalize we.drew = Va at *
        refine wpAnyE_take (i := 0) (v := ?_) rfl (by kernel_rfl) (by kernel_rfl) (by kernel_rfl) (by kernel_rfl) (by kernel_rfl) (fun _ _ _ h => h) hS0 (by rfl) ?_ ?_
        rotate_left
        · intro w9 hSw
          try dsimp only at hSw
          obtain ⟨s0, s1⟩ := hSw
          go_simp
          try with_reducible rfl
        try simp only [Act.put, List.setIfInBounds_toArray, List.set_cons_zero, List.set_cons_succ]
        refine wpAnyE_take (i := 1) (v := ?_) rfl (by kernel_rfl) (by kernel_rfl) (by kernel_rfl) (by kernel_rfl) (by kernel_rfl) (fun _ _ _ h => h) hS0 (by rfl) ?_ ?_
        rotate_left
        · intro w9 hSw
          try dsimp only at hSw
          obtain ⟨s0, s1⟩ := hSw
          go_simp
          try with_reducible rfl
        try simp only [Act.put, List.setIfInBounds_toArray, List.set_cons_zero, List.set_cons_succ]
        refine wpAnyE_take (i := 2) (v := ?_) rfl (by kernel_rfl) (by kernel_rfl) (by kernel_rfl) (by kernel_rfl) (by kernel_rfl) (fun _ _ _ h => h) hS0 (by rfl) ?_ ?_
        rotate_left
        · intro w9 hSw
          try dsimp only at hSw
          obtain ⟨s0, s1⟩ := hSw
          go_simp
          try with_reducible rfl
        try simp only [Act.put, List.setIfInBounds_toArray, List.set_cons_zero, List.set_cons_succ]
        refine wpAnyE_take (i := 3) (v := ?_) rfl (by kernel_rfl) (by kernel_rfl) (by kernel_rfl) (by kernel_rfl) (by kernel_rfl) (fun _ _ _ h => h) hS0 (by rfl) ?_ ?_
        rotate_left
        · intro w9 hSw
          try dsimp only at hSw
          obtain ⟨s0, s1⟩ := hSw
          go_simp
          try with_reducible rfl
        try simp only [Act.put, List.setIfInBounds_toArray, List.set_cons_zero, List.set_cons_succ]
        refine wpAnyE_take (i := 4) (v := ?_) rfl (by kernel_rfl) (by kernel_rfl) (by kernel_rfl) (by kernel_rfl) (by kernel_rfl) (fun _ _ _ h => h) hS0 (by rfl) ?_ ?_
        rotate_left
        · intro w9 hSw
          try dsimp only at hSw
          obtain ⟨s0, s1⟩ := hSw
          go_simp
          try with_reducible rfl
        try simp only [Act.put, List.setIfInBounds_toArray, List.set_cons_zero, List.set_cons_succ]
        refine wpAnyE_take (i := 5) (v := ?_) rfl (by kernel_rfl) (by kernel_rfl) (by kernel_rfl) (by kernel_rfl) (by kernel_rfl) (fun _ _ _ h => h) hS0 (by rfl) ?_ ?_
        rotate_left
        · intro w9 hSw
          try dsimp only at hSw
          obtain ⟨s0, s1⟩ := hSw
          go_simp
          try with_reducible rfl
        try simp only [Act.put, List.setIfInBounds_toArray, List.set_cons_zero, List.set_cons_succ]
        refine wpAnyE_take (i := 6) (v := ?_) rfl (by kernel_rfl) (by kernel_rfl) (by kernel_rfl) (by kernel_rfl) (by kernel_rfl) (fun _ _ _ h => h) hS0 (by rfl) ?_ ?_
        rotate_left
        · intro w9 hSw
          try dsimp only at hSw
          obtain ⟨s0, s1⟩ := hSw
          go_simp
          try with_reducible rfl
        try simp only [Act.put, List.setIfInBounds_toArray, List.set_cons_zero, List.set_cons_succ]
        refine wpAnyE_take (i := 7) (v := ?_) rfl (by kernel_rfl) (by kernel_rfl) (by kernel_rfl) (by kernel_rfl) (by kernel_rfl) (fun _ _ _ h => h) hS0 (by rfl) ?_ ?_
        rotate_left
        · intro w9 hSw
          try dsimp only at hSw
          obtain ⟨s0, s1⟩ := hSw
          go_simp
          try with_reducible rfl
        try simp only [Act.put, List.setIfInBounds_toArray, List.set_cons_zero, List.set_cons_succ]
        refine wpAnyE_take (i := 8) (v := ?_) rfl (by kernel_rfl) (by kernel_rfl) (by kernel_rfl) (by kernel_rfl) (by kernel_rfl) (fun _ _ _ h => h) hS0 (by rfl) ?_ ?_
        rotate_left
        · intro w9 hSw
          try dsimp only at hSw
          obtain ⟨s0, s1⟩ := hSw
          go_simp
          try with_reducible rfl
        try simp only [Act.put, List.setIfInBounds_toArray, List.set_cons_zero, List.set_cons_succ]
        refine wpAnyE_take (i := 9) (v := ?_) rfl (by kernel_rfl) (by kernel_rfl) (by kernel_rfl) (by kernel_rfl) (by kernel_rfl) (fun _ _ _ h => h) hS0 (by rfl) ?_ ?_
        rotate_left
        · intro w9 hSw
          try dsimp only at hSw
          obtain ⟨s0, s1⟩ := hSw
          go_simp
          try with_reducible rfl
        try simp only [Act.put, List.setIfInBounds_toArray, List.set_cons_zero, List.set_cons_succ]
        refine wpAnyE_take (i := 10) (v := ?_) rfl (by kernel_rfl) (by kernel_rfl) (by kernel_rfl) (by kernel_rfl) (by kernel_rfl) (fun _ _ _ h => h) hS0 (by rfl) ?_ ?_
        rotate_left
        · intro w9 hSw
          try dsimp only at hSw
          obtain ⟨s0, s1⟩ := hSw
          go_simp
          try with_reducible rfl
        try simp only [Act.put, List.setIfInBounds_toArray, List.set_cons_zero, List.set_cons_succ]
        refine wpAnyE_take (i := 11) (v := ?_) rfl (by kernel_rfl) (by kernel_rfl) (by kernel_rfl) (by kernel_rfl) (by kernel_rfl) (fun _ _ _ h => h) hS0 (by rfl) ?_ ?_
        rotate_left
        · intro w9 hSw
          try dsimp only at hSw
          obtain ⟨s0, s1⟩ := hSw
          go_simp
          try with_reducible rfl
        try simp only [Act.put, List.setIfInBounds_toArray, List.set_cons_zero, List.set_cons_succ]
        refine wpAnyE_take (i := 12) (v := ?_) rfl (by kernel_rfl) (by kernel_rfl) (by kernel_rfl) (by kernel_rfl) (by kernel_rfl) (fun _ _ _ h => h) hS0 (by rfl) ?_ ?_
        rotate_left
        · intro w9 hSw
          try dsimp only at hSw
          obtain ⟨s0, s1⟩ := hSw
          go_simp
          try with_reducible rfl
        try simp only [Act.put, List.setIfInBounds_toArray, List.set_cons_zero, List.set_cons_succ]
        refine wpAnyE_one (i := 13) rfl (by kernel_rfl) (fun K hK => ?_)
        go_simp
        go_at_call 112
        refine (spec_l01Next g 3 _ hS (by omega)).mono ?_
        rintro e vb ⟨d3, rfl, hd, hN⟩
        have hd3 : 0 ≤ d3 ∧ d3 < 3 := ⟨hd.1, hd.2.1 (by omega)⟩
        have wa1 : IntKind.i64.wrap (xv + d3) = xv + d3 := IntWalk.i64_in _ (by omega)
        have wa2 : IntKind.i64.wrap (xv + d3 - 1) = xv + d3 - 1 := IntWalk.i64_in _ (by omega)
        have z0b := hN.2.cell z0 (fun e => by injection e with e; simp only at e; omega)
        have z1b := hN.2.cell z1 (fun e => by injection e with e; simp only at e; omega)
        replace hO := own_draw hO (by decide) hS hN
        replace hres := blk_draw hres (by decide) hS hN
        replace hbox := blk_draw hbox (by decide) hS hN
        replace hM := hM.grown hN.2 hgm
        replace hB := below_draw hB hB.size hgb hN
        clear hS hN hd z0 z1 hS0
        obtain ⟨g2, cu2, r2, hu2, -, -, -, hc2, hr2, -, hset, -⟩ := hM.row k hkT
        cases hu2
        rw [z0b] at hc2
        injection hc2 with hc2
        rw [← hc2] at hr2 hset
        obtain ⟨-, -, hfr, -⟩ := own_ints_at hr2 q hql
        have fr := hfr q
        have hlt2 : bk < vb.heap.size := (own_ints_at hr2 q hql).2.1
        have hM9 := Lib.hid (hset _ _ (hr2.set1 q hql (xv + d3 - 1)) (grown_setC vb ⟨bk, q, none⟩ (.int .i64 (xv + d3 - 1))))
        have hO9 : Hid (Own Place.cells 4 45 (vb.setCell ⟨bk, q, none⟩ (.int .i64 (xv + d3 - 1))) w.heap.size (.slice A gp.length c) gp) := Lib.hid (own_far hO (p := ⟨bk, q, none⟩) (fun e => own_ne_own hO hr2 (by decide) bk e rfl) (.int .i64 (xv + d3 - 1)))
        have hr9 := Lib.hid (hres.far (p := ⟨bk, q, none⟩) (fun e => hr2.ne_blk hres (by decide) (by rw [e]; rfl)) (.int .i64 (xv + d3 - 1)))
        have hx9 := Lib.hid (hbox.far (p := ⟨bk, q, none⟩) (fun e => hr2.ne_blk hbox (by decide) (by rw [e]; rfl)) (.int .i64 (xv + d3 - 1)))
        have hB9 := Lib.hid (hB.setCell (p := ⟨bk, q, none⟩) (by show w.heap.size ≤ bk; omega) (.int .i64 (xv + d3 - 1)))
        clear hO hres hbox hM hB hc2 hr2 hset
        refine hK.out _ _ (fun _ => ⟨z0b, z1b⟩) ?_
        clear hK K
        try simp only [Act.put, List.setIfInBounds_toArray, List.set_cons_zero, List.set_cons_succ]
        refine wpAnyE_one (i := 14) rfl (by kernel_rfl) (fun K hK => ?_)
        go_simp
        refine hK.out _ _ (fun _ => ⟨z0b, z1b⟩) ?_
        clear hK K
        try simp only [Act.put, List.setIfInBounds_toArray, List.set_cons_zero, List.set_cons_succ]
        refine wpAnyE_one (i := 15) rfl (by kernel_rfl) (fun K hK => ?_)
        go_simp
        refine hK.out _ _ (fun _ => ⟨z0b, z1b⟩) ?_
        clear hK K
        try simp only [Act.put, List.setIfInBounds_toArray, List.set_cons_zero, List.set_cons_succ]
        refine wpAnyE_one (i := 16) rfl (by kernel_rfl) (fun K hK => ?_)
        go_simp
        refine hK.out _ _ (fun _ => ⟨z0b, z1b⟩) ?_
        clear hK K
        try simp only [Act.put, List.setIfInBounds_toArray, List.set_cons_zero, List.set_cons_succ]
        refine wpAnyE_one (i := 17) rfl (by kernel_rfl) (fun K hK => ?_)
        go_simp
        refine hK.out _ _ (fun h => absurd rfl h) ?_
        clear hK K
        try simp only [Act.put, List.setIfInBounds_toArray, List.set_cons_zero, List.set_cons_succ]
        refine wpAnyE_done (by kernel_rfl) ?_
        have hO : Own Place.cells 4 45 (vb.setCell ⟨bk, q, none⟩ (.int .i64 (xv + d3 - 1))) w.heap.size (.slice A gp.length c) gp := hO9.out
        have hM := hM9.out
        have hres := hr9.out
        have hbox := hx9.out
        have hB := hB9.out
        clear hO9 hM9 hr9 hx9 hB9 z0b z1b fr hfr
        generalize vb.setCell ⟨bk, q, none⟩ (.int .i64 (xv + d3 - 1)) = vc at *
        have l0 := hbox.lt
        obtain ⟨k0, k1⟩ := hbox.c2
        have f0 := hres.frozen 0
        have f1 := hres.frozen 1
        have lb2 := hres.lt
        obtain ⟨r0, r1⟩ := hres.c2
        have hq1 := Lib.hid (own_far (own_far hO (p := ⟨b2, 0, none⟩) (hO.ne_blk hres (by decide)) (.int .i64 (n : Nat))) (p := ⟨b2, 1, none⟩) (hO.ne_blk hres (by decide)) (.slice A gp.length c))
        have hq2 := Lib.hid (((hM.far (grown_setC _ ⟨b2, 0, none⟩ (.int .i64 (n : Nat))) (fun k e => by injection e with e; simp only at e; omega)).far (grown_setC _ ⟨b2, 1, none⟩ (.slice A gp.length c)) (fun k e => by injection e with e; simp only at e; omega)).rebase hmw)
        have hq3 := Lib.hid ((hB.setCell (p := ⟨b2, 0, none⟩) hb2w (.int .i64 (n : Nat))).setCell (p := ⟨b2, 1, none⟩) hb2w (.slice A gp.length c))
        go_wp2
        refine bodyPost_ret (v := .tuple #[.agg #[.int .i64 (n : Nat), .slice A gp.length c], _]) (by simp [results, Try.results20, go_sem, r0, r1]) rfl ⟨(n : Int), gp, _, _, _, rfl, by omega, by omega, by omega, hq1.out, hq2.out, hq3.out⟩
      · have q2 : (y2 == 0) = false := by simpa using hy
        clear hy
        have l0 := hbox.lt
        obtain ⟨k0, k1⟩ := hbox.c2
        have f0 := hres.frozen 0
        have f1 := hres.frozen 1
        have lb2 := hres.lt
        obtain ⟨r0, r1⟩ := hres.c2
        have hq1 := Lib.hid (own_far (own_far hO (p := ⟨b2, 0, none⟩) (hO.ne_blk hres (by decide)) (.int .i64 (n : Nat))) (p := ⟨b2, 1, none⟩) (hO.ne_blk hres (by decide)) (.slice A gp.length c))
        have hq2 := Lib.hid (((hM.far (grown_setC _ ⟨b2, 0, none⟩ (.int .i64 (n : Nat))) (fun k e => by injection e with e; simp only at e; omega)).far (grown_setC _ ⟨b2, 1, none⟩ (.slice A gp.length c)) (fun k e => by injection e with e; simp only at e; omega)).rebase hmw)
        have hq3 := Lib.hid ((hB.setCell (p := ⟨b2, 0, none⟩) hb2w (.int .i64 (n : Nat))).setCell (p := ⟨b2, 1, none⟩) hb2w (.slice A gp.length c))
        go_wp2
        refine bodyPost_ret (v := .tuple #[.agg #[.int .i64 (n : Nat), .slice A gp.length c], _]) (by simp [results, Try.results20, go_sem, r0, r1]) rfl ⟨(n : Int), gp, _, _, T, rfl, by omega, by omega, by omega, hq1.out, hq2.out, hq3.out⟩
    · have hlenI : ¬ (0 : Int) < (T.length : Int) := by omega
      have l0 := hbox.lt
      obtain ⟨k0, k1⟩ := hbox.c2
      have f0 := hres.frozen 0
      have f1 := hres.frozen 1
      have lb2 := hres.lt
      obtain ⟨r0, r1⟩ := hres.c2
      have hq1 := Lib.hid (own_far (own_far hO (p := ⟨b2, 0, none⟩) (hO.ne_blk hres (by decide)) (.int .i64 (n : Nat))) (p := ⟨b2, 1, none⟩) (hO.ne_blk hres (by decide)) (.slice A gp.length c))
      have hq2 := Lib.hid (((hM.far (grown_setC _ ⟨b2, 0, none⟩ (.int .i64 (n : Nat))) (fun k e => by injection e with e; simp only at e; omega)).far (grown_setC _ ⟨b2, 1, none⟩ (.slice A gp.length c)) (fun k e => by injection e with e; simp only at e; omega)).rebase hmw)
      have hq3 := Lib.hid ((hB.setCell (p := ⟨b2, 0, none⟩) hb2w (.int .i64 (n : Nat))).setCell (p := ⟨b2, 1, none⟩) hb2w (.slice A gp.length c))
      go_wp2
      refine bodyPost_ret (v := .tuple #[.agg #[.int .i64 (n : Nat), .slice A gp.length c], _]) (by simp [results, Try.results20, go_sem, r0, r1]) rfl ⟨(n : Int), gp, _, _, T, rfl, by omega, by omega, by omega, hq1.out, hq2.out, hq3.out⟩
  · have hq2 : (cd != 0) = true := by simpa using hc0
    clear hc0
    have l0 := hbox.lt
    obtain ⟨k0, k1⟩ := hbox.c2
    have hZ : Below wb.heap.size wb ((wb.alloc (.cells #[.int .i64 0] 2)).alloc (.cells #[.slice (some ⟨wb.heap.size, 0, none⟩) 1 1] 38)) := ((Below.refl _ _).alloc (Nat.le_refl _) _).alloc (by simp) _
    have hM9 := OwnM.one wb mb hmb2 0
    replace hO := hO.now hZ
    replace hres := hres.now hZ
    have hB9 := hB.trans (hZ.mono hB.size)
    clear hM hZ hS hbox hB
    have f0 := hres.frozen 0
    have f1 := hres.frozen 1
    have lb2 := hres.lt
    obtain ⟨r0, r1⟩ := hres.c2
    have hq1 := Lib.hid (own_far (own_far hO (p := ⟨b2, 0, none⟩) (hO.ne_blk hres (by decide)) (.int .i64 ge)) (p := ⟨b2, 1, none⟩) (hO.ne_blk hres (by decide)) (.slice A gp.length c))
    have hq2 := Lib.hid (((hM9.far (grown_setC _ ⟨b2, 0, none⟩ (.int .i64 ge)) (fun k e => by injection e with e; simp only at e; omega)).far (grown_setC _ ⟨b2, 1, none⟩ (.slice A gp.length c)) (fun k e => by injection e with e; simp only at e; omega)).rebase hmw)
    have hq3 := Lib.hid ((hB9.setCell (p := ⟨b2, 0, none⟩) hb2w (.int .i64 ge)).setCell (p := ⟨b2, 1, none⟩) hb2w (.slice A gp.length c))
    go_wp2
    refine bodyPost_ret (v := .tuple #[.agg #[.int .i64 ge, .slice A gp.length c], _]) (by simp [results, Try.results20, go_sem, r0, r1]) rfl ⟨ge, gp, _, _, [[0]], rfl, by omega, by omega, by omega, hq1.out, hq2.out, hq3.out⟩
end Go.Proofs.Ytkbhbmoogkjafaa
