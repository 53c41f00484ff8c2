/-
  FnFiring returns true for every input: firing never changes the tokens of a circuit.
  Conditions: none beyond the statement's own.
-/
import Derived.Test.YtkbhbmoogkjafaaDrM
import Derived.Test.YtkbhbmoogkjafaaFnFigP
import Derived.Test.YtkbhbmoogkjafaaHas
import Derived.Test.YtkbhbmoogkjafaaBytes
namespace Go.Proofs.Ytkbhbmoogkjafaa
open Go.RowKit Go.ChangeShapes Go.WideShapes Go.ChangeAt Go.Deep
set_option linter.unusedVariables false
set_option linter.unusedSimpArgs false
set_option maxHeartbeats 32000000 in
set_option maxRecDepth 100000 in
theorem law_FnFiring (cv : Value) (bs : List Int) (w : World) (a0 : Lst byteCell 1 w w.heap.size cv bs) (o0 : Hid (∀ b ∈ bs, 0 ≤ b ∧ b ≤ 255)) :
    Calls Try.prog 4 #[cv] w fun e w' => e = .returned (.bool true) ∧ Below w.heap.size w w' := by
  obtain ⟨CA, cc, rfl⟩ := a0.shape
  by_cases hbig : (4096 : Int) < (bs.length : Int)
  · have hq : Hid (decide ((4096 : Int) < (bs.length : Int)) = true) := decide_eq_true hbig
    clear hbig
    go_enter Try.func4, Try.ntmps4
    go_wp2_with (go_at_call 13; refine (laws_big _ _ _ a0).mono ?_; rintro e w1 ⟨rfl, rfl⟩; rw [hq.out])
    go_ret
    exact ⟨rfl, Below.refl _ _⟩
  · have hq : Hid (decide ((4096 : Int) < (bs.length : Int)) = false) := decide_eq_false hbig
    clear hbig
    go_enter Try.func4, Try.ntmps4
    go_wp2_with fail
    refine (laws_big _ _ _ a0).mono ?_
    rintro e w1 ⟨rfl, rfl⟩
    rw [hq.out]
    go_wp2_with fail
    refine (spec_DrawCircuitTokens _ bs w a0 o0).mono ?_
    rintro e w0 ⟨ge, gp, v, u1, u2, rfl, hg0, hg1, hglen, hO1, ⟨m, hml, hU1⟩, ⟨l, hll, hU2⟩, hB⟩
    obtain ⟨A1, c1, rfl⟩ := hO1.shape
    obtain ⟨UA, uc, rfl⟩ := hU1.shape
    obtain ⟨VA, vc, rfl⟩ := hU2.shape
    have hA2 : Below w0.heap.size w0 (w0.alloc (.cells #[.int .i64 ge, .slice A1 gp.length c1] 26)) := (Below.refl _ _).alloc (Nat.le_refl _) _
    have hx1 := Blk.newAt w0 (t := 26) (cs := #[.int .i64 ge, .slice A1 gp.length c1]) _ rfl
    go_wp2_with fail
    replace hO1 := hO1.now hA2
    replace hU1 := hU1.now hA2
    replace hU2 := hU2.now hA2
    replace hB := hB.trans (hA2.mono hB.size)
    clear hA2
    generalize w0.alloc (.cells #[.int .i64 ge, .slice A1 gp.length c1] 26) = w0b at *
    generalize w0.heap.size = bg1 at *
    obtain ⟨n, cd, hF⟩ : ∃ n cd, circTok ge gp m l = (n, cd) := ⟨_, _, rfl⟩
    have hFH := Lib.hid hF
    refine (impl_CircuitTokens _ ge gp _ m _ l _ hO1.lst hU1.lst hU2.lst (by omega)).mono ?_
    rintro e w2 ⟨rfl, hB2⟩
    rw [hF]
    replace hO1 := hO1.now hB2
    replace hU1 := hU1.now hB2
    replace hU2 := hU2.now hB2
    replace hx1 := hx1.now hB2
    replace hB := hB.trans (hB2.mono hB.size)
    clear hB2
    obtain ⟨khx10, khx11⟩ := hx1.c2
    have lhx1 := hx1.lt
    go_wp2_with fail
    clear khx10 khx11 lhx1
    refine (spec_CircuitTokens _ ge gp _ m _ l _ hO1.lst hU1.lst hU2.lst (by omega)).mono ?_
    rintro e w3 ⟨rfl, hB2⟩
    rw [hF]
    clear hF
    replace hO1 := hO1.now hB2
    replace hU1 := hU1.now hB2
    replace hU2 := hU2.now hB2
    replace hx1 := hx1.now hB2
    replace hB := hB.trans (hB2.mono hB.size)
    clear hB2
    go_wp2_with fail
    refine (spec_DrawFireEvent _ bs _ (a0.now hB) o0).mono ?_
    rintro e w4 ⟨he, hp, v2, u3, ev, rfl, hh0, hh1, hplen, hO2, ⟨m2, hml2, hU3⟩, hB4⟩
    obtain ⟨A2, c2, rfl⟩ := hO2.shape
    obtain ⟨WA, wc, rfl⟩ := hU3.shape
    replace hO1 := hO1.now hB4
    replace hU1 := hU1.now hB4
    replace hU2 := hU2.now hB4
    replace hx1 := hx1.now hB4
    replace hB := hB.trans (hB4.mono hB.size)
    clear hB4
    have hA2 : Below w4.heap.size w4 (w4.alloc (.cells #[.int .i64 he, .slice A2 hp.length c2] 26)) := (Below.refl _ _).alloc (Nat.le_refl _) _
    have hx2 := Blk.newAt w4 (t := 26) (cs := #[.int .i64 he, .slice A2 hp.length c2]) _ rfl
    go_wp2_with fail
    replace hO1 := hO1.now hA2
    replace hU1 := hU1.now hA2
    replace hU2 := hU2.now hA2
    replace hx1 := hx1.now hA2
    replace hO2 := hO2.now hA2
    replace hU3 := hU3.now hA2
    replace hB := hB.trans (hA2.mono hB.size)
    clear hA2
    generalize w4.alloc (.cells #[.int .i64 he, .slice A2 hp.length c2] 26) = w4b at *
    generalize w4.heap.size = bg2 at *
    obtain ⟨X, fd, hF2⟩ : ∃ X fd, fireF he hp m2 ev = (X, fd) := ⟨_, _, rfl⟩
    have hF2H := Lib.hid hF2
    refine (impl_FireEvent _ he hp _ m2 ev _ hO2.lst hU3.lst).mono ?_
    rintro e w5 ⟨x, rfl, hX, hB2⟩
    rw [hF2] at hX ⊢
    obtain ⟨XA, xc, rfl⟩ := hX.shape
    replace hO1 := hO1.now hB2
    replace hU1 := hU1.now hB2
    replace hU2 := hU2.now hB2
    replace hx1 := hx1.now hB2
    replace hO2 := hO2.now hB2
    replace hU3 := hU3.now hB2
    replace hx2 := hx2.now hB2
    replace hB := hB.trans (hB2.mono hB.size)
    clear hB2
    obtain ⟨khx20, khx21⟩ := hx2.c2
    have lhx2 := hx2.lt
    go_wp2_with fail
    clear khx20 khx21 lhx2
    refine (spec_FireEvent _ he hp _ m2 ev _ hO2.lst hU3.lst).mono ?_
    rintro e w6 ⟨y, rfl, hY, hB2⟩
    rw [hF2] at hY ⊢
    clear hF2
    obtain ⟨YA, yc, rfl⟩ := hY.shape
    replace hO1 := hO1.now hB2
    replace hU1 := hU1.now hB2
    replace hU2 := hU2.now hB2
    replace hx1 := hx1.now hB2
    replace hO2 := hO2.now hB2
    replace hU3 := hU3.now hB2
    replace hx2 := hx2.now hB2
    replace hX := hX.now hB2
    replace hB := hB.trans (hB2.mono hB.size)
    clear hB2
    obtain ⟨khx20, khx21⟩ := hx2.c2
    have lhx2 := hx2.lt
    go_wp2_with fail
    clear khx20 khx21 lhx2
    obtain ⟨E, ed, hF3⟩ : ∃ E ed, enF he hp m2 = (E, ed) := ⟨_, _, rfl⟩
    have hF3H := Lib.hid hF3
    refine (impl_EnabledIn _ he hp _ m2 _ hO2.lst hU3.lst).mono ?_
    rintro e w7 ⟨en, rfl, hE, hB2⟩
    rw [hF3] at hE ⊢
    obtain ⟨EA, ec, rfl⟩ := hE.shape
    replace hO1 := hO1.now hB2
    replace hU1 := hU1.now hB2
    replace hU2 := hU2.now hB2
    replace hx1 := hx1.now hB2
    replace hO2 := hO2.now hB2
    replace hU3 := hU3.now hB2
    replace hx2 := hx2.now hB2
    replace hX := hX.now hB2
    replace hY := hY.now hB2
    replace hB := hB.trans (hB2.mono hB.size)
    clear hB2
    obtain ⟨khx20, khx21⟩ := hx2.c2
    have lhx2 := hx2.lt
    go_wp2_with fail
    clear khx20 khx21 lhx2
    refine (spec_EnabledIn _ he hp _ m2 _ hO2.lst hU3.lst).mono ?_
    rintro e w8 ⟨en2, rfl, hE2, hB2⟩
    rw [hF3] at hE2 ⊢
    clear hF3
    obtain ⟨EB, ec2, rfl⟩ := hE2.shape
    replace hO1 := hO1.now hB2
    replace hU1 := hU1.now hB2
    replace hU2 := hU2.now hB2
    replace hx1 := hx1.now hB2
    replace hO2 := hO2.now hB2
    replace hU3 := hU3.now hB2
    replace hx2 := hx2.now hB2
    replace hX := hX.now hB2
    replace hY := hY.now hB2
    replace hE := hE.now hB2
    replace hB := hB.trans (hB2.mono hB.size)
    clear hB2
    obtain ⟨R, hR⟩ : ∃ R, (okGraph he hp && okMarking hp m2) = R := ⟨_, rfl⟩
    have hRH := Lib.hid hR
    clear hR
    have hqR : (R != R) = false := by cases R <;> rfl
    have hqd : (cd != cd) = false := by simp
    have hqn : (n != n) = false := by simp
    have hqf : (fd != fd) = false := by simp
    have hqe : (ed != ed) = false := by simp
    have hDw : Below w8.heap.size w8 w8.drew := Below.drew (Below.refl _ w8)
    obtain ⟨q0, q1⟩ := hx2.c2
    replace q0 := cell_keep q0 hDw
    replace q1 := cell_keep q1 hDw
    have lm : bg2 < w8.drew.heap.size := hx2.lt
    have hsw : w8.heap.size ≤ w8.drew.heap.size := hDw.size
    go_wp2_with fail
    refine wp_region_held_drew (S := fun w' => w'.cell? ⟨bg2, 0, none⟩ = some (.int .i64 he) ∧ w'.cell? ⟨bg2, 1, none⟩ = some (.slice A2 hp.length c2)) (by kernel_rfl) ⟨q0, q1⟩ (fun hH => ?_)
    refine wpAnyH_take (i := 0) (oi := { dst := _, op := _, type := _, pos := _, after := _, guard := _ }) (v := ?_) rfl (by kernel_rfl) (by kernel_rfl) (by kernel_rfl) (fun _ _ _ h => h) (Or.inl ⟨by rfl, ?_⟩) hH ?_
    rotate_left
    · intro w9 hSw
      try dsimp only at hSw
      obtain ⟨s0, s1⟩ := hSw
      go_simp
      try with_reducible rfl
    try simp only [Act.put, List.setIfInBounds_toArray, List.set_cons_zero, List.set_cons_succ]
    refine wpAnyH_take (i := 1) (oi := { dst := _, op := _, type := _, pos := _, after := _, guard := _ }) (v := ?_) rfl (by kernel_rfl) (by kernel_rfl) (by kernel_rfl) (fun _ _ _ h => h) (Or.inl ⟨by rfl, ?_⟩) hH ?_
    rotate_left
    · intro w9 hSw
      try dsimp only at hSw
      obtain ⟨s0, s1⟩ := hSw
      go_simp
      try with_reducible rfl
    try simp only [Act.put, List.setIfInBounds_toArray, List.set_cons_zero, List.set_cons_succ]
    refine wpAnyH_take (i := 2) (oi := { dst := _, op := _, type := _, pos := _, after := _, guard := _ }) (v := ?_) rfl (by kernel_rfl) (by kernel_rfl) (by kernel_rfl) (fun _ _ _ h => h) (Or.inl ⟨by rfl, ?_⟩) hH ?_
    rotate_left
    · intro w9 hSw
      try dsimp only at hSw
      obtain ⟨s0, s1⟩ := hSw
      go_simp
      try with_reducible rfl
    try simp only [Act.put, List.setIfInBounds_toArray, List.set_cons_zero, List.set_cons_succ]
    refine wpAnyH_take (i := 3) (oi := { dst := _, op := _, type := _, pos := _, after := _, guard := _ }) (v := ?_) rfl (by kernel_rfl) (by kernel_rfl) (by kernel_rfl) (fun _ _ _ h => h) (Or.inl ⟨by rfl, ?_⟩) hH ?_
    rotate_left
    · intro w9 hSw
      try dsimp only at hSw
      obtain ⟨s0, s1⟩ := hSw
      go_simp
      try with_reducible rfl
    try simp only [Act.put, List.setIfInBounds_toArray, List.set_cons_zero, List.set_cons_succ]
    refine wpAnyH_take (i := 4) (oi := { dst := _, op := _, type := _, pos := _, after := _, guard := _ }) (v := ?_) rfl (by kernel_rfl) (by kernel_rfl) (by kernel_rfl) (fun _ _ _ h => h) (Or.inl ⟨by rfl, ?_⟩) hH ?_
    rotate_left
    · intro w9 hSw
      try dsimp only at hSw
      obtain ⟨s0, s1⟩ := hSw
      go_simp
      try with_reducible rfl
    try simp only [Act.put, List.setIfInBounds_toArray, List.set_cons_zero, List.set_cons_succ]
    refine wpAnyH_take (i := 5) (oi := { dst := _, op := _, type := _, pos := _, after := _, guard := _ }) (v := ?_) rfl (by kernel_rfl) (by kernel_rfl) (by kernel_rfl) (fun _ _ _ h => h) (Or.inl ⟨by rfl, ?_⟩) hH ?_
    rotate_left
    · intro w9 hSw
      try dsimp only at hSw
      obtain ⟨s0, s1⟩ := hSw
      go_simp
      try with_reducible rfl
    try simp only [Act.put, List.setIfInBounds_toArray, List.set_cons_zero, List.set_cons_succ]
    refine wpAnyH_take (i := 6) (oi := { dst := _, op := _, type := _, pos := _, after := _, guard := _ }) (v := ?_) rfl (by kernel_rfl) (by kernel_rfl) (by kernel_rfl) (fun _ _ _ h => h) (Or.inl ⟨by rfl, ?_⟩) hH ?_
    rotate_left
    · intro w9 hSw
      try dsimp only at hSw
      obtain ⟨s0, s1⟩ := hSw
      go_simp
      try with_reducible rfl
    try simp only [Act.put, List.setIfInBounds_toArray, List.set_cons_zero, List.set_cons_succ]
    refine wpAnyH_take (i := 7) (oi := { dst := _, op := _, type := _, pos := _, after := _, guard := _ }) (v := ?_) rfl (by kernel_rfl) (by kernel_rfl) (by kernel_rfl) (fun _ _ _ h => h) (Or.inl ⟨by rfl, ?_⟩) hH ?_
    rotate_left
    · intro w9 hSw
      try dsimp only at hSw
      obtain ⟨s0, s1⟩ := hSw
      go_simp
      try with_reducible rfl
    try simp only [Act.put, List.setIfInBounds_toArray, List.set_cons_zero, List.set_cons_succ]
    refine wpAnyH_take (i := 8) (oi := { dst := _, op := _, type := _, pos := _, after := _, guard := _ }) (v := ?_) rfl (by kernel_rfl) (by kernel_rfl) (by kernel_rfl) (fun _ _ _ h => h) (Or.inl ⟨by rfl, ?_⟩) hH ?_
    rotate_left
    · intro w9 hSw
      try dsimp only at hSw
      obtain ⟨s0, s1⟩ := hSw
      go_simp
      try with_reducible rfl
    try simp only [Act.put, List.setIfInBounds_toArray, List.set_cons_zero, List.set_cons_succ]
    refine wpAnyH_take (i := 9) (oi := { dst := _, op := _, type := _, pos := _, after := _, guard := _ }) (v := ?_) rfl (by kernel_rfl) (by kernel_rfl) (by kernel_rfl) (fun _ _ _ h => h) (Or.inl ⟨by rfl, ?_⟩) hH ?_
    rotate_left
    · intro w9 hSw
      try dsimp only at hSw
      obtain ⟨s0, s1⟩ := hSw
      go_simp
      try with_reducible rfl
    try simp only [Act.put, List.setIfInBounds_toArray, List.set_cons_zero, List.set_cons_succ]
    refine wpAnyH_take (i := 10) (oi := { dst := _, op := _, type := _, pos := _, after := _, guard := _ }) (v := ?_) rfl (by kernel_rfl) (by kernel_rfl) (by kernel_rfl) (fun _ _ _ h => h) (Or.inl ⟨by rfl, ?_⟩) hH ?_
    rotate_left
    · intro w9 hSw
      try dsimp only at hSw
      obtain ⟨s0, s1⟩ := hSw
      go_simp
      try with_reducible rfl
    try simp only [Act.put, List.setIfInBounds_toArray, List.set_cons_zero, List.set_cons_succ]
    refine wpAnyH_take (i := 11) (oi := { dst := _, op := _, type := _, pos := _, after := _, guard := _ }) (v := ?_) rfl (by kernel_rfl) (by kernel_rfl) (by kernel_rfl) (fun _ _ _ h => h) (Or.inl ⟨by rfl, ?_⟩) hH ?_
    rotate_left
    · intro w9 hSw
      try dsimp only at hSw
      obtain ⟨s0, s1⟩ := hSw
      go_simp
      try with_reducible rfl
    try simp only [Act.put, List.setIfInBounds_toArray, List.set_cons_zero, List.set_cons_succ]
    refine wpAnyH_take (i := 12) (oi := { dst := _, op := _, type := _, pos := _, after := _, guard := _ }) (v := ?_) rfl (by kernel_rfl) (by kernel_rfl) (by kernel_rfl) (fun _ _ _ h => h) (Or.inl ⟨by rfl, ?_⟩) hH ?_
    rotate_left
    · intro w9 hSw
      try dsimp only at hSw
      obtain ⟨s0, s1⟩ := hSw
      go_simp
      try with_reducible rfl
    try simp only [Act.put, List.setIfInBounds_toArray, List.set_cons_zero, List.set_cons_succ]
    refine wpAnyH_take (i := 13) (oi := { dst := _, op := _, type := _, pos := _, after := _, guard := _ }) (v := ?_) rfl (by kernel_rfl) (by kernel_rfl) (by kernel_rfl) (fun _ _ _ h => h) (Or.inl ⟨by rfl, ?_⟩) hH ?_
    rotate_left
    · intro w9 hSw
      try dsimp only at hSw
      obtain ⟨s0, s1⟩ := hSw
      go_simp
      try with_reducible rfl
    try simp only [Act.put, List.setIfInBounds_toArray, List.set_cons_zero, List.set_cons_succ]
    refine wpAnyH_take (i := 14) (oi := { dst := _, op := _, type := _, pos := _, after := _, guard := _ }) (v := ?_) rfl (by kernel_rfl) (by kernel_rfl) (by kernel_rfl) (fun _ _ _ h => h) (Or.inl ⟨by rfl, ?_⟩) hH ?_
    rotate_left
    · intro w9 hSw
      try dsimp only at hSw
      obtain ⟨s0, s1⟩ := hSw
      go_simp
      try with_reducible rfl
    try simp only [Act.put, List.setIfInBounds_toArray, List.set_cons_zero, List.set_cons_succ]
    refine wpAnyH_take (i := 15) (oi := { dst := _, op := _, type := _, pos := _, after := _, guard := _ }) (v := ?_) rfl (by kernel_rfl) (by kernel_rfl) (by kernel_rfl) (fun _ _ _ h => h) (Or.inl ⟨by rfl, ?_⟩) hH ?_
    rotate_left
    · intro w9 hSw
      try dsimp only at hSw
      obtain ⟨s0, s1⟩ := hSw
      go_simp
      try with_reducible rfl
    try simp only [Act.put, List.setIfInBounds_toArray, List.set_cons_zero, List.set_cons_succ]
    refine wpAnyH_ready (rs := [16]) (by kernel_rfl) (by simp) ?_
    refine AllReadyH.cons rfl (fun K hK => ?_) AllReadyH.nil
    go_simp
    go_at_call 26
    refine (laws_likeInts _ _ X X _ (hX.now hDw).lst (hY.now hDw).lst).mono ?_
    rintro e7 v1 ⟨rfl, hb1⟩
    rw [decide_eq_true rfl]
    have q0_1 := cell_keep (w := w8.drew) q0 hb1
    have q1_1 := cell_keep (w := w8.drew) q1 hb1
    replace hDw := hDw.trans (Below.mono (w := w8.drew) hb1 hDw.size)
    refine hK.out _ _ ⟨q0_1, q1_1⟩ (fun hH => ?_)
    clear hK K
    try simp only [Act.put, List.setIfInBounds_toArray, List.set_cons_zero, List.set_cons_succ]
    refine wpAnyH_take (i := 17) (oi := { dst := _, op := _, type := _, pos := _, after := _, guard := _ }) (v := ?_) rfl (by kernel_rfl) (by kernel_rfl) (by kernel_rfl) (fun _ _ _ h => h) (Or.inl ⟨by rfl, ?_⟩) hH ?_
    rotate_left
    · intro w9 hSw
      try dsimp only at hSw
      obtain ⟨s0, s1⟩ := hSw
      go_simp
      try with_reducible rfl
    try simp only [Act.put, List.setIfInBounds_toArray, List.set_cons_zero, List.set_cons_succ]
    refine wpAnyH_take (i := 18) (oi := { dst := _, op := _, type := _, pos := _, after := _, guard := _ }) (v := ?_) rfl (by kernel_rfl) (by kernel_rfl) (by kernel_rfl) (fun _ _ _ h => h) (Or.inl ⟨by rfl, ?_⟩) hH ?_
    rotate_left
    · intro w9 hSw
      try dsimp only at hSw
      obtain ⟨s0, s1⟩ := hSw
      go_simp
      try with_reducible rfl
    try simp only [Act.put, List.setIfInBounds_toArray, List.set_cons_zero, List.set_cons_succ]
    refine wpAnyH_take (i := 19) (oi := { dst := _, op := _, type := _, pos := _, after := _, guard := _ }) (v := ?_) rfl (by kernel_rfl) (by kernel_rfl) (by kernel_rfl) (fun _ _ _ h => h) (Or.inl ⟨by rfl, ?_⟩) hH ?_
    rotate_left
    · intro w9 hSw
      try dsimp only at hSw
      obtain ⟨s0, s1⟩ := hSw
      go_simp
      try with_reducible rfl
    try simp only [Act.put, List.setIfInBounds_toArray, List.set_cons_zero, List.set_cons_succ]
    refine wpAnyH_take (i := 20) (oi := { dst := _, op := _, type := _, pos := _, after := _, guard := _ }) (v := ?_) rfl (by kernel_rfl) (by kernel_rfl) (by kernel_rfl) (fun _ _ _ h => h) (Or.inl ⟨by rfl, ?_⟩) hH ?_
    rotate_left
    · intro w9 hSw
      try dsimp only at hSw
      obtain ⟨s0, s1⟩ := hSw
      go_simp
      try with_reducible rfl
    try simp only [Act.put, List.setIfInBounds_toArray, List.set_cons_zero, List.set_cons_succ]
    refine wpAnyH_take (i := 21) (oi := { dst := _, op := _, type := _, pos := _, after := _, guard := _ }) (v := ?_) rfl (by kernel_rfl) (by kernel_rfl) (by kernel_rfl) (fun _ _ _ h => h) (Or.inl ⟨by rfl, ?_⟩) hH ?_
    rotate_left
    · intro w9 hSw
      try dsimp only at hSw
      obtain ⟨s0, s1⟩ := hSw
      go_simp
      try with_reducible rfl
    try simp only [Act.put, List.setIfInBounds_toArray, List.set_cons_zero, List.set_cons_succ]
    refine wpAnyH_take (i := 22) (oi := { dst := _, op := _, type := _, pos := _, after := _, guard := _ }) (v := ?_) rfl (by kernel_rfl) (by kernel_rfl) (by kernel_rfl) (fun _ _ _ h => h) (Or.inl ⟨by rfl, ?_⟩) hH ?_
    rotate_left
    · intro w9 hSw
      try dsimp only at hSw
      obtain ⟨s0, s1⟩ := hSw
      go_simp
      try with_reducible rfl
    try simp only [Act.put, List.setIfInBounds_toArray, List.set_cons_zero, List.set_cons_succ]
    refine wpAnyH_take (i := 23) (oi := { dst := _, op := _, type := _, pos := _, after := _, guard := _ }) (v := ?_) rfl (by kernel_rfl) (by kernel_rfl) (by kernel_rfl) (fun _ _ _ h => h) (Or.inl ⟨by rfl, ?_⟩) hH ?_
    rotate_left
    · intro w9 hSw
      try dsimp only at hSw
      obtain ⟨s0, s1⟩ := hSw
      go_simp
      try with_reducible rfl
    try simp only [Act.put, List.setIfInBounds_toArray, List.set_cons_zero, List.set_cons_succ]
    refine wpAnyH_take (i := 24) (oi := { dst := _, op := _, type := _, pos := _, after := _, guard := _ }) (v := ?_) rfl (by kernel_rfl) (by kernel_rfl) (by kernel_rfl) (fun _ _ _ h => h) (Or.inl ⟨by rfl, ?_⟩) hH ?_
    rotate_left
    · intro w9 hSw
      try dsimp only at hSw
      obtain ⟨s0, s1⟩ := hSw
      go_simp
      try with_reducible rfl
    try simp only [Act.put, List.setIfInBounds_toArray, List.set_cons_zero, List.set_cons_succ]
    refine wpAnyH_take (i := 25) (oi := { dst := _, op := _, type := _, pos := _, after := _, guard := _ }) (v := ?_) rfl (by kernel_rfl) (by kernel_rfl) (by kernel_rfl) (fun _ _ _ h => h) (Or.inl ⟨by rfl, ?_⟩) hH ?_
    rotate_left
    · intro w9 hSw
      try dsimp only at hSw
      obtain ⟨s0, s1⟩ := hSw
      go_simp
      try with_reducible rfl
    try simp only [Act.put, List.setIfInBounds_toArray, List.set_cons_zero, List.set_cons_succ]
    refine wpAnyH_take (i := 26) (oi := { dst := _, op := _, type := _, pos := _, after := _, guard := _ }) (v := ?_) rfl (by kernel_rfl) (by kernel_rfl) (by kernel_rfl) (fun _ _ _ h => h) (Or.inl ⟨by rfl, ?_⟩) hH ?_
    rotate_left
    · intro w9 hSw
      try dsimp only at hSw
      obtain ⟨s0, s1⟩ := hSw
      go_simp
      try with_reducible rfl
    try simp only [Act.put, List.setIfInBounds_toArray, List.set_cons_zero, List.set_cons_succ]
    refine wpAnyH_ready (rs := [27]) (by kernel_rfl) (by simp) ?_
    refine AllReadyH.cons rfl (fun K hK => ?_) AllReadyH.nil
    go_simp
    go_at_call 26
    refine (laws_likeInts _ _ E E _ (hE.now hDw).lst (hE2.now hDw).lst).mono ?_
    rintro e7 v2 ⟨rfl, hb2⟩
    rw [decide_eq_true rfl]
    have q0_2 := cell_keep (w := v1) q0_1 hb2
    have q1_2 := cell_keep (w := v1) q1_1 hb2
    replace hDw := hDw.trans (Below.mono (w := v1) hb2 hDw.size)
    refine hK.out _ _ ⟨q0_2, q1_2⟩ (fun hH => ?_)
    clear hK K
    try simp only [Act.put, List.setIfInBounds_toArray, List.set_cons_zero, List.set_cons_succ]
    refine wpAnyH_take (i := 28) (oi := { dst := _, op := _, type := _, pos := _, after := _, guard := _ }) (v := ?_) rfl (by kernel_rfl) (by kernel_rfl) (by kernel_rfl) (fun _ _ _ h => h) (Or.inl ⟨by rfl, ?_⟩) hH ?_
    rotate_left
    · intro w9 hSw
      try dsimp only at hSw
      obtain ⟨s0, s1⟩ := hSw
      go_simp
      try with_reducible rfl
    try simp only [Act.put, List.setIfInBounds_toArray, List.set_cons_zero, List.set_cons_succ]
    refine wpAnyH_take (i := 29) (oi := { dst := _, op := _, type := _, pos := _, after := _, guard := _ }) (v := ?_) rfl (by kernel_rfl) (by kernel_rfl) (by kernel_rfl) (fun _ _ _ h => h) (Or.inl ⟨by rfl, ?_⟩) hH ?_
    rotate_left
    · intro w9 hSw
      try dsimp only at hSw
      obtain ⟨s0, s1⟩ := hSw
      go_simp
      try with_reducible rfl
    try simp only [Act.put, List.setIfInBounds_toArray, List.set_cons_zero, List.set_cons_succ]
    refine wpAnyH_take (i := 30) (oi := { dst := _, op := _, type := _, pos := _, after := _, guard := _ }) (v := ?_) rfl (by kernel_rfl) (by kernel_rfl) (by kernel_rfl) (fun _ _ _ h => h) (Or.inl ⟨by rfl, ?_⟩) hH ?_
    rotate_left
    · intro w9 hSw
      try dsimp only at hSw
      obtain ⟨s0, s1⟩ := hSw
      go_simp
      try with_reducible rfl
    try simp only [Act.put, List.setIfInBounds_toArray, List.set_cons_zero, List.set_cons_succ]
    refine wpAnyH_take (i := 31) (oi := { dst := _, op := _, type := _, pos := _, after := _, guard := _ }) (v := ?_) rfl (by kernel_rfl) (by kernel_rfl) (by kernel_rfl) (fun _ _ _ h => h) (Or.inl ⟨by rfl, ?_⟩) hH ?_
    rotate_left
    · intro w9 hSw
      try dsimp only at hSw
      obtain ⟨s0, s1⟩ := hSw
      go_simp
      try with_reducible rfl
    try simp only [Act.put, List.setIfInBounds_toArray, List.set_cons_zero, List.set_cons_succ]
    refine wpAnyH_take (i := 32) (oi := { dst := _, op := _, type := _, pos := _, after := _, guard := _ }) (v := ?_) rfl (by kernel_rfl) (by kernel_rfl) (by kernel_rfl) (fun _ _ _ h => h) (Or.inl ⟨by rfl, ?_⟩) hH ?_
    rotate_left
    · intro w9 hSw
      try dsimp only at hSw
      obtain ⟨s0, s1⟩ := hSw
      go_simp
      try with_reducible rfl
    try simp only [Act.put, List.setIfInBounds_toArray, List.set_cons_zero, List.set_cons_succ]
    refine wpAnyH_take (i := 34) (oi := { dst := _, op := _, type := _, pos := _, after := _, guard := _ }) (v := ?_) rfl (by kernel_rfl) (by kernel_rfl) (by kernel_rfl) (fun _ _ _ h => h) (Or.inl ⟨by rfl, ?_⟩) hH ?_
    rotate_left
    · intro w9 hSw
      try dsimp only at hSw
      obtain ⟨s0, s1⟩ := hSw
      go_simp
      try with_reducible rfl
    try simp only [Act.put, List.setIfInBounds_toArray, List.set_cons_zero, List.set_cons_succ]
    refine wpAnyH_take (i := 35) (oi := { dst := _, op := _, type := _, pos := _, after := _, guard := _ }) (v := ?_) rfl (by kernel_rfl) (by kernel_rfl) (by kernel_rfl) (fun _ _ _ h => h) (Or.inl ⟨by rfl, ?_⟩) hH ?_
    rotate_left
    · intro w9 hSw
      try dsimp only at hSw
      obtain ⟨s0, s1⟩ := hSw
      go_simp
      try with_reducible rfl
    try simp only [Act.put, List.setIfInBounds_toArray, List.set_cons_zero, List.set_cons_succ]
    refine wpAnyH_ready (rs := [33]) (by kernel_rfl) (by simp) ?_
    refine AllReadyH.cons rfl (fun K hK => ?_) AllReadyH.nil
    go_simp
    go_at_call 35
    refine (impl_IsMarking _ he hp _ m2 _ (hO2.now hDw).lst (hU3.now hDw).lst).mono ?_
    rintro e7 v3 ⟨rfl, hb3⟩
    rw [hRH.out]
    have q0_3 := cell_keep (w := v2) q0_2 hb3
    have q1_3 := cell_keep (w := v2) q1_2 hb3
    replace hDw := hDw.trans (Below.mono (w := v2) hb3 hDw.size)
    refine hK.out _ _ ⟨q0_3, q1_3⟩ (fun hH => ?_)
    clear hK K
    try simp only [Act.put, List.setIfInBounds_toArray, List.set_cons_zero, List.set_cons_succ]
    refine wpAnyH_ready (rs := [36]) (by kernel_rfl) (by simp) ?_
    refine AllReadyH.cons rfl (fun K hK => ?_) AllReadyH.nil
    go_simp
    go_at_call 36
    refine (spec_IsMarking _ he hp _ m2 _ (hO2.now hDw).lst (hU3.now hDw).lst).mono ?_
    rintro e7 v4 ⟨rfl, hb4⟩
    rw [hRH.out]
    have q0_4 := cell_keep (w := v3) q0_3 hb4
    have q1_4 := cell_keep (w := v3) q1_3 hb4
    replace hDw := hDw.trans (Below.mono (w := v3) hb4 hDw.size)
    refine hK.out _ _ ⟨q0_4, q1_4⟩ (fun hH => ?_)
    clear hK K
    try simp only [Act.put, List.setIfInBounds_toArray, List.set_cons_zero, List.set_cons_succ]
    refine wpAnyH_take (i := 37) (oi := { dst := _, op := _, type := _, pos := _, after := _, guard := _ }) (v := ?_) rfl (by kernel_rfl) (by kernel_rfl) (by kernel_rfl) (fun _ _ _ h => h) (Or.inl ⟨by rfl, ?_⟩) hH ?_
    rotate_left
    · intro w9 hSw
      try dsimp only at hSw
      obtain ⟨s0, s1⟩ := hSw
      go_simp
      try with_reducible rfl
    try simp only [Act.put, List.setIfInBounds_toArray, List.set_cons_zero, List.set_cons_succ]
    refine wpAnyH_take (i := 38) (oi := { dst := _, op := _, type := _, pos := _, after := _, guard := _ }) (v := ?_) rfl (by kernel_rfl) (by kernel_rfl) (by kernel_rfl) (fun _ _ _ h => h) (Or.inl ⟨by rfl, ?_⟩) hH ?_
    rotate_left
    · intro w9 hSw
      try dsimp only at hSw
      obtain ⟨s0, s1⟩ := hSw
      go_simp
      try with_reducible rfl
    try simp only [Act.put, List.setIfInBounds_toArray, List.set_cons_zero, List.set_cons_succ]
    refine wpAnyH_done (by kernel_rfl) ?_ _
    clear hH q0 q1 lm hsw hqR hqd hqn hqf hqe hRH
    replace hO1 := hO1.now hDw
    replace hU1 := hU1.now hDw
    replace hU2 := hU2.now hDw
    replace hx1 := hx1.now hDw
    replace hE := hE.now hDw
    replace hB := hB.trans (hDw.mono hB.size)
    clear hDw
    clear hO2 hU3 hx2 hX hY hE2 hh0 hh1 hplen hml2
    obtain ⟨wq, rfl⟩ : ∃ wq : World, wq = v4 := ⟨_, rfl⟩
    have hen := figt_has hF2H.out hF3H.out
    obtain ⟨Q, hQ⟩ : ∃ Q, hasI E ev = Q := ⟨_, rfl⟩
    rw [hQ] at hen
    have hQH := Lib.hid hQ
    clear hQ hF2H hF3H
    by_cases hc0 : cd = 0
    · subst hc0
      obtain ⟨hg, hmo, hci⟩ := figt_circ (ge := ge) (gp := gp) (m := m) (ci := l) (by rw [hFH.out])
      obtain ⟨hge1, hge2⟩ := okGraph_ev hg
      obtain ⟨N, rfl⟩ := Int.eq_ofNat_of_zero_le (show 0 ≤ ge by omega)
      clear hg hmo hci
      by_cases hf0 : fd = 0
      · have qf : (fd == 0) = true := by simp [hf0]
        have qf5 : (fd == 5) = false := by simp [hf0]
        have hQt : Q = true := hen.1 hf0
        subst hQt
        clear hen hf0
        go_wp2_with (go_at_call 37; refine (laws_hasInt _ E ev _ hE.lst).mono ?_; rintro e9 w9 ⟨rfl, rfl⟩; rw [hQH.out])
        go_loopw [21, 22, 23, 24, 25] (fun kv _ _ _ _ wr => ∃ k : Nat, k ≤ N ∧ kv = .int .i64 k ∧ Below wq.heap.size wq wr) (fun kv _ _ _ _ _ => N - (intOf kv).toNat)
        case atStart => exact ⟨0, Nat.zero_le _, rfl, Below.refl _ _⟩
        case round =>
          obtain ⟨k, hk, rfl, hBr⟩ := hrel
          obtain ⟨k0, k1⟩ := (hx1.now hBr).c2
          have l0 := (hx1.now hBr).lt
          by_cases hlt : k < N
          · have hltI : (k : Int) < (N : Int) := by omega
            go_wp2_with fail
            clear k0 k1 l0
            obtain ⟨X9, f9, hF9⟩ : ∃ X9 f9, fireF (N : Int) gp m (k : Int) = (X9, f9) := ⟨_, _, rfl⟩
            refine (impl_FireEvent _ (N : Int) gp _ m (k : Int) _ (hO1.now hBr).lst (hU1.now hBr).lst).mono ?_
            rintro e wa ⟨x9, rfl, hX9, hB9⟩
            rw [hF9] at hX9 ⊢
            obtain ⟨XA9, xc9, rfl⟩ := hX9.shape
            have hBa := hBr.trans (hB9.mono hBr.size)
            by_cases h9 : f9 = 0
            · subst h9
              have hlaw := Lib.hid (figt_law (by rw [hFH.out]) hF9)
              clear hF9 hB9
              obtain ⟨k0, k1⟩ := (hx1.now hBa).c2
              have l0 := (hx1.now hBa).lt
              go_wp2_with fail
              clear k0 k1 l0
              refine (impl_CircuitTokens _ (N : Int) gp _ X9 _ l _ (hO1.now hBa).lst hX9.lst (hU2.now hBa).lst (by omega)).mono ?_
              rintro e wb ⟨rfl, hB9⟩
              rw [hlaw.out, hFH.out]
              have hBb := hBa.trans (hB9.mono hBa.size)
              have hqn : (n != n) = false := by simp
              clear hlaw hB9
              go_wp2
              go_roundw
              case rel => exact ⟨k + 1, hlt, by go_num, hBb⟩
              case measure => simp [intOf]; omega
            · have q9 : (f9 == 0) = false := by simpa using h9
              clear h9 hF9 hB9
              go_wp2
              go_roundw
              case rel => exact ⟨k + 1, hlt, by go_num, hBa⟩
              case measure => simp [intOf]; omega
          · obtain rfl : k = N := by omega
            go_wp2
            go_ret
            exact ⟨rfl, hB.trans (hBr.mono hB.size)⟩
      · have qf : (fd == 0) = false := by simpa using hf0
        by_cases hf5 : fd = 5
        · have qf5 : (fd == 5) = true := by simp [hf5]
          have hQf : Q = false := hen.2 hf5
          subst hQf
          clear hen hf0 hf5
          go_wp2_with (go_at_call 37; refine (laws_hasInt _ E ev _ hE.lst).mono ?_; rintro e9 w9 ⟨rfl, rfl⟩; rw [hQH.out])
          go_loopw [21, 22, 23, 24, 25] (fun kv _ _ _ _ wr => ∃ k : Nat, k ≤ N ∧ kv = .int .i64 k ∧ Below wq.heap.size wq wr) (fun kv _ _ _ _ _ => N - (intOf kv).toNat)
          case atStart => exact ⟨0, Nat.zero_le _, rfl, Below.refl _ _⟩
          case round =>
            obtain ⟨k, hk, rfl, hBr⟩ := hrel
            obtain ⟨k0, k1⟩ := (hx1.now hBr).c2
            have l0 := (hx1.now hBr).lt
            by_cases hlt : k < N
            · have hltI : (k : Int) < (N : Int) := by omega
              go_wp2_with fail
              clear k0 k1 l0
              obtain ⟨X9, f9, hF9⟩ : ∃ X9 f9, fireF (N : Int) gp m (k : Int) = (X9, f9) := ⟨_, _, rfl⟩
              refine (impl_FireEvent _ (N : Int) gp _ m (k : Int) _ (hO1.now hBr).lst (hU1.now hBr).lst).mono ?_
              rintro e wa ⟨x9, rfl, hX9, hB9⟩
              rw [hF9] at hX9 ⊢
              obtain ⟨XA9, xc9, rfl⟩ := hX9.shape
              have hBa := hBr.trans (hB9.mono hBr.size)
              by_cases h9 : f9 = 0
              · subst h9
                have hlaw := Lib.hid (figt_law (by rw [hFH.out]) hF9)
                clear hF9 hB9
                obtain ⟨k0, k1⟩ := (hx1.now hBa).c2
                have l0 := (hx1.now hBa).lt
                go_wp2_with fail
                clear k0 k1 l0
                refine (impl_CircuitTokens _ (N : Int) gp _ X9 _ l _ (hO1.now hBa).lst hX9.lst (hU2.now hBa).lst (by omega)).mono ?_
                rintro e wb ⟨rfl, hB9⟩
                rw [hlaw.out, hFH.out]
                have hBb := hBa.trans (hB9.mono hBa.size)
                have hqn : (n != n) = false := by simp
                clear hlaw hB9
                go_wp2
                go_roundw
                case rel => exact ⟨k + 1, hlt, by go_num, hBb⟩
                case measure => simp [intOf]; omega
              · have q9 : (f9 == 0) = false := by simpa using h9
                clear h9 hF9 hB9
                go_wp2
                go_roundw
                case rel => exact ⟨k + 1, hlt, by go_num, hBa⟩
                case measure => simp [intOf]; omega
            · obtain rfl : k = N := by omega
              go_wp2
              go_ret
              exact ⟨rfl, hB.trans (hBr.mono hB.size)⟩
        · have qf5 : (fd == 5) = false := by simpa using hf5
          clear hen hf0 hf5
          go_wp2
          go_loopw [21, 22, 23, 24, 25] (fun kv _ _ _ _ wr => ∃ k : Nat, k ≤ N ∧ kv = .int .i64 k ∧ Below wq.heap.size wq wr) (fun kv _ _ _ _ _ => N - (intOf kv).toNat)
          case atStart => exact ⟨0, Nat.zero_le _, rfl, Below.refl _ _⟩
          case round =>
            obtain ⟨k, hk, rfl, hBr⟩ := hrel
            obtain ⟨k0, k1⟩ := (hx1.now hBr).c2
            have l0 := (hx1.now hBr).lt
            by_cases hlt : k < N
            · have hltI : (k : Int) < (N : Int) := by omega
              go_wp2_with fail
              clear k0 k1 l0
              obtain ⟨X9, f9, hF9⟩ : ∃ X9 f9, fireF (N : Int) gp m (k : Int) = (X9, f9) := ⟨_, _, rfl⟩
              refine (impl_FireEvent _ (N : Int) gp _ m (k : Int) _ (hO1.now hBr).lst (hU1.now hBr).lst).mono ?_
              rintro e wa ⟨x9, rfl, hX9, hB9⟩
              rw [hF9] at hX9 ⊢
              obtain ⟨XA9, xc9, rfl⟩ := hX9.shape
              have hBa := hBr.trans (hB9.mono hBr.size)
              by_cases h9 : f9 = 0
              · subst h9
                have hlaw := Lib.hid (figt_law (by rw [hFH.out]) hF9)
                clear hF9 hB9
                obtain ⟨k0, k1⟩ := (hx1.now hBa).c2
                have l0 := (hx1.now hBa).lt
                go_wp2_with fail
                clear k0 k1 l0
                refine (impl_CircuitTokens _ (N : Int) gp _ X9 _ l _ (hO1.now hBa).lst hX9.lst (hU2.now hBa).lst (by omega)).mono ?_
                rintro e wb ⟨rfl, hB9⟩
                rw [hlaw.out, hFH.out]
                have hBb := hBa.trans (hB9.mono hBa.size)
                have hqn : (n != n) = false := by simp
                clear hlaw hB9
                go_wp2
                go_roundw
                case rel => exact ⟨k + 1, hlt, by go_num, hBb⟩
                case measure => simp [intOf]; omega
              · have q9 : (f9 == 0) = false := by simpa using h9
                clear h9 hF9 hB9
                go_wp2
                go_roundw
                case rel => exact ⟨k + 1, hlt, by go_num, hBa⟩
                case measure => simp [intOf]; omega
            · obtain rfl : k = N := by omega
              go_wp2
              go_ret
              exact ⟨rfl, hB.trans (hBr.mono hB.size)⟩
    · have hq2 : (cd != 0) = true := by simpa using hc0
      clear hc0
      by_cases hf0 : fd = 0
      · have qf : (fd == 0) = true := by simp [hf0]
        have qf5 : (fd == 5) = false := by simp [hf0]
        have hQt : Q = true := hen.1 hf0
        subst hQt
        clear hen hf0
        go_wp2_with (go_at_call 37; refine (laws_hasInt _ E ev _ hE.lst).mono ?_; rintro e9 w9 ⟨rfl, rfl⟩; rw [hQH.out])
        go_ret
        exact ⟨rfl, hB⟩
      · have qf : (fd == 0) = false := by simpa using hf0
        by_cases hf5 : fd = 5
        · have qf5 : (fd == 5) = true := by simp [hf5]
          have hQf : Q = false := hen.2 hf5
          subst hQf
          clear hen hf0 hf5
          go_wp2_with (go_at_call 37; refine (laws_hasInt _ E ev _ hE.lst).mono ?_; rintro e9 w9 ⟨rfl, rfl⟩; rw [hQH.out])
          go_ret
          exact ⟨rfl, hB⟩
        · have qf5 : (fd == 5) = false := by simpa using hf5
          clear hen hf0 hf5
          go_wp2
          go_ret
          exact ⟨rfl, hB⟩

theorem FnFiring_own : ownKnob Try.prog.godebug = none := by kernel_rfl
theorem FnFiring_laidOut : laidOutB Try.prog = true := by kernel_rfl
set_option maxRecDepth 100000 in
theorem FnFiring_lifted (os : Os) (started : os.Started) (H : Type) (enc : TypeId × Value → H) :
    ReturnsInHanded {} Try.checked os 4 .any (Rows.fnFiringSpec.pre6 enc Try.prog Try.f4 Rows.fnFiringRow.domain false) (Rows.fnFiringSpec.post enc Try.prog Try.f4 false true false false) := by
  refine returnsInHanded_of_change (C := Try.checked) FnFiring_own started (by kernel_rfl) Try.func4
    (ChangeSpec.witness6 (enc := enc) (C := Try.checked) false ⟨#[], #[.slice none 0 0], []⟩ 8 (by kernel_rfl) (by kernel_rfl) (by kernel_rfl) (by kernel_rfl)) ?_
  intro W base args ds gs before hval0 hW hcnd _
  have hval : ∀ (j : Nat) t v, Try.f4.params[j]? = some t → args[j]? = some v → Value.okWide Try.prog W .any base t v := hval0
  have hW' := hW
  obtain ⟨p, q, hA0, hV, rfl, hfz, hnd⟩ := hW
  have hA : DataW.TrodAll enc Try.prog W 0 (fun _ => true) true Try.f4.params.toList args.toList ds p := hA0
  rw [Try.params4] at hA hval
  obtain ⟨v0, vs0, d0, ds0, p0, q0, hargs, rfl, rfl, h0, r0⟩ := trodAll_cons hA
  obtain ⟨rfl, rfl, rfl⟩ := trodAll_nil r0
  obtain rfl : args = #[v0] := by cases args; simp_all
  obtain ⟨rfl, rfl⟩ := trodVars_none hV
  have k0 := h0
  have lt0 : ∀ x ∈ p0, x.block < W.heap.size := by obtain ⟨m, hm⟩ := k0; exact DataW.trod_lt m _ _ _ hm
  obtain ⟨A0, n0, c0, rfl⟩ := okWide_slice Try.underlying22 (hval 0 22 v0 rfl rfl)
  obtain ⟨fuel0, hf0⟩ := h0
  obtain ⟨l0, a0, o0⟩ := open_bytes Try.underlying22 Try.underlying5 (by kernel_rfl) (show DataW.trod enc Try.prog W 0 (fun _ => true) true fuel0 22 [_] = _ by simpa [Value.cells] using hf0)
  clear hA0 hval0
  refine (law_FnFiring _ _ W a0 o0).mono fun e W' ⟨he, bel⟩ => ?_
  subst he
  exact ⟨_, rfl, _, _, _, [], _, [], hW', trodAll_mk1 (shut_bool Try.underlying4 _), (trodAll_cons_mk (Below.trod FnFiring_laidOut (by kernel_rfl) (of_decide_eq_true (by kernel_rfl)) k0 bel lt0) trodAll_mk0), rfl, bel.frame _, fun h => by cases h⟩
theorem FnFiring_over : Rows.fnFiringRow.holds Try.pinned (OpenSpec.ofChange Rows.fnFiringSpec) :=
  OpenClaim.holds_of_wide 4 Try.f4 rfl rfl rfl rfl rfl rfl rfl ⟨rfl, rfl, rfl, rfl, rfl⟩ rfl rfl rfl rfl rfl (by kernel_rfl) Try.func4 (by kernel_rfl)
    (of_decide_eq_true (by kernel_rfl)) (by unfold Func.isWrapper; first | (rw [if_pos (by decide +kernel)]; kernel_rfl) | (rw [if_neg (by decide +kernel)]; exact ⟨rfl, rfl⟩))
    (fun os started H enc _ => FnFiring_lifted os started H enc)
/-- The given statement. -/
theorem FnFiring_proved : Rows.FnFiringSaid := FnFiring_over
end Go.Proofs.Ytkbhbmoogkjafaa
