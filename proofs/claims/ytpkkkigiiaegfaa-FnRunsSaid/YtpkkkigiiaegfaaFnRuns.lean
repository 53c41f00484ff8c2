/-
  FnRuns returns true for every input: no firing of a possible run is early, and only an event with tokens in all its places can go on.
  Conditions: none beyond the statement's own.
-/
import Derived.Test.YtpkkkigiiaegfaaFnRunsP
import Derived.Test.YtpkkkigiiaegfaaLike
import Derived.Test.YtpkkkigiiaegfaaDice
import Derived.Test.YtpkkkigiiaegfaaDrF
import Derived.Test.YtpkkkigiiaegfaaLateS
import Derived.Test.YtpkkkigiiaegfaaLateI
import Derived.Test.YtpkkkigiiaegfaaAfter
import Derived.Test.YtpkkkigiiaegfaaRunIB
namespace Go.Proofs.Ytpkkkigiiaegfaa
open Go.RowKit Go.ChangeShapes Go.WideShapes Go.ChangeAt Go.Deep
set_option linter.unusedVariables false
set_option linter.unusedSimpArgs false
set_option maxHeartbeats 16000000 in
set_option maxRecDepth 100000 in
theorem law_FnRuns (cv : Value) (bs : List Int) (w : World) (a0 : Lst byteCell 1 w w.heap.size cv bs) (o0 : Hid (∀ b ∈ bs, 0 ≤ b ∧ b ≤ 255)) :
    Calls Try.prog 8 #[cv] w fun e w' => e = .returned (.bool true) ∧ Below w.heap.size w w' := by
  obtain ⟨CA, cc, rfl⟩ := a0.shape
  by_cases hbig : (4096 : Int) < (bs.length : Int)
  · have hq : Hid (decide ((4096 : Int) < (bs.length : Int)) = true) := decide_eq_true hbig
    clear hbig
    go_enter Try.func8, Try.ntmps8
    go_wp2_with (go_at_call 38; refine (laws_big _ _ _ a0).mono ?_; rintro e w1 ⟨rfl, rfl⟩; rw [hq.out])
    go_ret
    exact ⟨rfl, Below.refl _ _⟩
  · have hq : Hid (decide ((4096 : Int) < (bs.length : Int)) = false) := decide_eq_false hbig
    clear hbig
    go_enter Try.func8, Try.ntmps8
    go_wp2_with fail
    refine (laws_big _ _ _ a0).mono ?_
    rintro e w1 ⟨rfl, rfl⟩
    rw [hq.out]
    go_wp2_with fail
    refine (spec_DrawLatenessOf _ bs w a0 o0).mono ?_
    rintro e w0 ⟨ge, gp, v, u, l, rfl, hg0, hg1, hglen, hll, hO, hU, hB⟩
    obtain ⟨A, c, rfl⟩ := hO.shape
    obtain ⟨UA, uc, rfl⟩ := hU.shape
    have hA2 : Below w0.heap.size w0 (w0.alloc (.cells #[.int .i64 ge, .slice A gp.length c] 32)) := (Below.refl _ _).alloc (Nat.le_refl _) _
    have hbox := Blk.newAt w0 (t := 32) (cs := #[.int .i64 ge, .slice A gp.length c]) _ rfl
    go_wp2_with fail
    replace hO := hO.now hA2
    replace hU := hU.now hA2
    replace hB := hB.trans (hA2.mono hB.size)
    generalize w0.alloc (.cells #[.int .i64 ge, .slice A gp.length c] 32) = W2 at *
    generalize w0.heap.size = bg at *
    clear hA2
    obtain ⟨L, c1, hF1⟩ : ∃ L cd, lateF ge gp l = (L, cd) := ⟨_, _, rfl⟩
    obtain ⟨M, c2, hF2⟩ : ∃ M cd, afterF ge gp l = (M, cd) := ⟨_, _, rfl⟩
    obtain ⟨E, c3, hF3⟩ : ∃ E cd, nextsF ge gp l = (E, cd) := ⟨_, _, rfl⟩
    obtain ⟨R, hR⟩ : ∃ R, isRunF ge gp l = R := ⟨_, rfl⟩
    replace hF1 := Lib.hid hF1
    replace hF2 := Lib.hid hF2
    replace hF3 := Lib.hid hF3
    replace hR := Lib.hid hR
    refine (impl_LatenessOf _ ge gp _ l _ hO.lst hU.lst).mono ?_
    rintro e w1 ⟨x1, rfl, hx1, hB2⟩
    rw [hF1.out] at hx1 ⊢
    obtain ⟨X1, cx1, rfl⟩ := hx1.shape
    skip
    replace hO := hO.now hB2
    replace hU := hU.now hB2
    replace hbox := hbox.now hB2
    replace hB := hB.trans (hB2.mono hB.size)
    clear hB2
    have l0 := hbox.lt
    obtain ⟨k0, k1⟩ := hbox.c2
    go_wp2_with fail
    clear k0 k1 l0
    refine (spec_LatenessOf _ ge gp _ l _ hO.lst hU.lst).mono ?_
    rintro e w2 ⟨x2, rfl, hx2, hB2⟩
    rw [hF1.out] at hx2 ⊢
    obtain ⟨X2, cx2, rfl⟩ := hx2.shape
    skip
    replace hO := hO.now hB2
    replace hU := hU.now hB2
    replace hbox := hbox.now hB2
    replace hB := hB.trans (hB2.mono hB.size)
    replace hx1 := hx1.now hB2
    clear hB2
    have l0 := hbox.lt
    obtain ⟨k0, k1⟩ := hbox.c2
    go_wp2_with fail
    clear k0 k1 l0
    refine (impl_MarkingAfter _ ge gp _ l _ hO.lst hU.lst).mono ?_
    rintro e w3 ⟨x3, rfl, hx3, hB2⟩
    rw [hF2.out] at hx3 ⊢
    obtain ⟨X3, cx3, rfl⟩ := hx3.shape
    skip
    replace hO := hO.now hB2
    replace hU := hU.now hB2
    replace hbox := hbox.now hB2
    replace hB := hB.trans (hB2.mono hB.size)
    replace hx1 := hx1.now hB2
    replace hx2 := hx2.now hB2
    clear hB2
    have l0 := hbox.lt
    obtain ⟨k0, k1⟩ := hbox.c2
    go_wp2_with fail
    clear k0 k1 l0
    refine (spec_MarkingAfter _ ge gp _ l _ hO.lst hU.lst).mono ?_
    rintro e w4 ⟨x4, rfl, hx4, hB2⟩
    rw [hF2.out] at hx4 ⊢
    obtain ⟨X4, cx4, rfl⟩ := hx4.shape
    skip
    replace hO := hO.now hB2
    replace hU := hU.now hB2
    replace hbox := hbox.now hB2
    replace hB := hB.trans (hB2.mono hB.size)
    replace hx1 := hx1.now hB2
    replace hx2 := hx2.now hB2
    replace hx3 := hx3.now hB2
    clear hB2
    have l0 := hbox.lt
    obtain ⟨k0, k1⟩ := hbox.c2
    go_wp2_with fail
    clear k0 k1 l0
    refine (impl_NextEvents _ ge gp _ l _ hO.lst hU.lst).mono ?_
    rintro e w5 ⟨x5, rfl, hx5, hB2⟩
    rw [hF3.out] at hx5 ⊢
    obtain ⟨X5, cx5, rfl⟩ := hx5.shape
    skip
    replace hO := hO.now hB2
    replace hU := hU.now hB2
    replace hbox := hbox.now hB2
    replace hB := hB.trans (hB2.mono hB.size)
    replace hx1 := hx1.now hB2
    replace hx2 := hx2.now hB2
    replace hx3 := hx3.now hB2
    replace hx4 := hx4.now hB2
    clear hB2
    have l0 := hbox.lt
    obtain ⟨k0, k1⟩ := hbox.c2
    go_wp2_with fail
    clear k0 k1 l0
    refine (spec_NextEvents _ ge gp _ l _ hO.lst hU.lst).mono ?_
    rintro e w6 ⟨x6, rfl, hx6, hB2⟩
    rw [hF3.out] at hx6 ⊢
    obtain ⟨X6, cx6, rfl⟩ := hx6.shape
    skip
    replace hO := hO.now hB2
    replace hU := hU.now hB2
    replace hbox := hbox.now hB2
    replace hB := hB.trans (hB2.mono hB.size)
    replace hx1 := hx1.now hB2
    replace hx2 := hx2.now hB2
    replace hx3 := hx3.now hB2
    replace hx4 := hx4.now hB2
    replace hx5 := hx5.now hB2
    clear hB2
    have hqR : (R != R) = false := by cases R <;> rfl
    have hq1 : (c1 != c1) = false := by simp
    have hq2 : (c2 != c2) = false := by simp
    have hq3 : (c3 != c3) = false := by simp
    have hD6 : Below w6.heap.size w6 w6.drew := Below.drew (Below.refl _ w6)
    obtain ⟨k0, k1⟩ := hbox.c2
    replace k0 := cell_keep k0 hD6
    replace k1 := cell_keep k1 hD6
    have l0 : bg < w6.drew.heap.size := hbox.lt
    go_wp2_with fail
    refine wp_region_held_drew (S := fun w' => w'.cell? ⟨bg, 0, none⟩ = some (.int .i64 ge) ∧ w'.cell? ⟨bg, 1, none⟩ = some (.slice A gp.length c)) (by kernel_rfl) ⟨k0, k1⟩ (fun hH => ?_)
    refine wpAnyH_take (i := 0) (oi := { dst := _, op := _, type := _, pos := _, after := _, guard := _ }) (v := ?_) rfl (by kernel_rfl) (by kernel_rfl) (by kernel_rfl) (fun _ _ _ h => h) (Or.inl ⟨by rfl, ?_⟩) hH ?_
    rotate_left
    · intro w9 hSw
      try dsimp only at hSw
      obtain ⟨s0, s1⟩ := hSw
      go_simp
      try with_reducible rfl
    try simp only [Act.put, List.setIfInBounds_toArray, List.set_cons_zero, List.set_cons_succ]
    refine wpAnyH_take (i := 1) (oi := { dst := _, op := _, type := _, pos := _, after := _, guard := _ }) (v := ?_) rfl (by kernel_rfl) (by kernel_rfl) (by kernel_rfl) (fun _ _ _ h => h) (Or.inl ⟨by rfl, ?_⟩) hH ?_
    rotate_left
    · intro w9 hSw
      try dsimp only at hSw
      obtain ⟨s0, s1⟩ := hSw
      go_simp
      try with_reducible rfl
    try simp only [Act.put, List.setIfInBounds_toArray, List.set_cons_zero, List.set_cons_succ]
    refine wpAnyH_take (i := 2) (oi := { dst := _, op := _, type := _, pos := _, after := _, guard := _ }) (v := ?_) rfl (by kernel_rfl) (by kernel_rfl) (by kernel_rfl) (fun _ _ _ h => h) (Or.inl ⟨by rfl, ?_⟩) hH ?_
    rotate_left
    · intro w9 hSw
      try dsimp only at hSw
      obtain ⟨s0, s1⟩ := hSw
      go_simp
      try with_reducible rfl
    try simp only [Act.put, List.setIfInBounds_toArray, List.set_cons_zero, List.set_cons_succ]
    refine wpAnyH_take (i := 3) (oi := { dst := _, op := _, type := _, pos := _, after := _, guard := _ }) (v := ?_) rfl (by kernel_rfl) (by kernel_rfl) (by kernel_rfl) (fun _ _ _ h => h) (Or.inl ⟨by rfl, ?_⟩) hH ?_
    rotate_left
    · intro w9 hSw
      try dsimp only at hSw
      obtain ⟨s0, s1⟩ := hSw
      go_simp
      try with_reducible rfl
    try simp only [Act.put, List.setIfInBounds_toArray, List.set_cons_zero, List.set_cons_succ]
    refine wpAnyH_take (i := 4) (oi := { dst := _, op := _, type := _, pos := _, after := _, guard := _ }) (v := ?_) rfl (by kernel_rfl) (by kernel_rfl) (by kernel_rfl) (fun _ _ _ h => h) (Or.inl ⟨by rfl, ?_⟩) hH ?_
    rotate_left
    · intro w9 hSw
      try dsimp only at hSw
      obtain ⟨s0, s1⟩ := hSw
      go_simp
      try with_reducible rfl
    try simp only [Act.put, List.setIfInBounds_toArray, List.set_cons_zero, List.set_cons_succ]
    refine wpAnyH_take (i := 5) (oi := { dst := _, op := _, type := _, pos := _, after := _, guard := _ }) (v := ?_) rfl (by kernel_rfl) (by kernel_rfl) (by kernel_rfl) (fun _ _ _ h => h) (Or.inl ⟨by rfl, ?_⟩) hH ?_
    rotate_left
    · intro w9 hSw
      try dsimp only at hSw
      obtain ⟨s0, s1⟩ := hSw
      go_simp
      try with_reducible rfl
    try simp only [Act.put, List.setIfInBounds_toArray, List.set_cons_zero, List.set_cons_succ]
    refine wpAnyH_ready (rs := [6]) (by kernel_rfl) (by simp) ?_
    refine AllReadyH.cons rfl (fun K hK => ?_) AllReadyH.nil
    go_simp
    go_at_call 46
    refine (laws_likeInts _ _ L L _ (hx1.now hD6).lst (hx2.now hD6).lst).mono ?_
    rintro e7 v1 ⟨rfl, hb1⟩
    rw [decide_eq_true rfl]
    have k0_1 := cell_keep (w := w6.drew) k0 hb1
    have k1_1 := cell_keep (w := w6.drew) k1 hb1
    replace hD6 := hD6.trans (Below.mono (w := w6.drew) hb1 hD6.size)
    refine hK.out _ _ ⟨k0_1, k1_1⟩ (fun hH => ?_)
    clear hK K
    try simp only [Act.put, List.setIfInBounds_toArray, List.set_cons_zero, List.set_cons_succ]
    refine wpAnyH_take (i := 7) (oi := { dst := _, op := _, type := _, pos := _, after := _, guard := _ }) (v := ?_) rfl (by kernel_rfl) (by kernel_rfl) (by kernel_rfl) (fun _ _ _ h => h) (Or.inl ⟨by rfl, ?_⟩) hH ?_
    rotate_left
    · intro w9 hSw
      try dsimp only at hSw
      obtain ⟨s0, s1⟩ := hSw
      go_simp
      try with_reducible rfl
    try simp only [Act.put, List.setIfInBounds_toArray, List.set_cons_zero, List.set_cons_succ]
    refine wpAnyH_take (i := 8) (oi := { dst := _, op := _, type := _, pos := _, after := _, guard := _ }) (v := ?_) rfl (by kernel_rfl) (by kernel_rfl) (by kernel_rfl) (fun _ _ _ h => h) (Or.inl ⟨by rfl, ?_⟩) hH ?_
    rotate_left
    · intro w9 hSw
      try dsimp only at hSw
      obtain ⟨s0, s1⟩ := hSw
      go_simp
      try with_reducible rfl
    try simp only [Act.put, List.setIfInBounds_toArray, List.set_cons_zero, List.set_cons_succ]
    refine wpAnyH_take (i := 9) (oi := { dst := _, op := _, type := _, pos := _, after := _, guard := _ }) (v := ?_) rfl (by kernel_rfl) (by kernel_rfl) (by kernel_rfl) (fun _ _ _ h => h) (Or.inl ⟨by rfl, ?_⟩) hH ?_
    rotate_left
    · intro w9 hSw
      try dsimp only at hSw
      obtain ⟨s0, s1⟩ := hSw
      go_simp
      try with_reducible rfl
    try simp only [Act.put, List.setIfInBounds_toArray, List.set_cons_zero, List.set_cons_succ]
    refine wpAnyH_take (i := 10) (oi := { dst := _, op := _, type := _, pos := _, after := _, guard := _ }) (v := ?_) rfl (by kernel_rfl) (by kernel_rfl) (by kernel_rfl) (fun _ _ _ h => h) (Or.inl ⟨by rfl, ?_⟩) hH ?_
    rotate_left
    · intro w9 hSw
      try dsimp only at hSw
      obtain ⟨s0, s1⟩ := hSw
      go_simp
      try with_reducible rfl
    try simp only [Act.put, List.setIfInBounds_toArray, List.set_cons_zero, List.set_cons_succ]
    refine wpAnyH_take (i := 11) (oi := { dst := _, op := _, type := _, pos := _, after := _, guard := _ }) (v := ?_) rfl (by kernel_rfl) (by kernel_rfl) (by kernel_rfl) (fun _ _ _ h => h) (Or.inl ⟨by rfl, ?_⟩) hH ?_
    rotate_left
    · intro w9 hSw
      try dsimp only at hSw
      obtain ⟨s0, s1⟩ := hSw
      go_simp
      try with_reducible rfl
    try simp only [Act.put, List.setIfInBounds_toArray, List.set_cons_zero, List.set_cons_succ]
    refine wpAnyH_take (i := 12) (oi := { dst := _, op := _, type := _, pos := _, after := _, guard := _ }) (v := ?_) rfl (by kernel_rfl) (by kernel_rfl) (by kernel_rfl) (fun _ _ _ h => h) (Or.inl ⟨by rfl, ?_⟩) hH ?_
    rotate_left
    · intro w9 hSw
      try dsimp only at hSw
      obtain ⟨s0, s1⟩ := hSw
      go_simp
      try with_reducible rfl
    try simp only [Act.put, List.setIfInBounds_toArray, List.set_cons_zero, List.set_cons_succ]
    refine wpAnyH_take (i := 13) (oi := { dst := _, op := _, type := _, pos := _, after := _, guard := _ }) (v := ?_) rfl (by kernel_rfl) (by kernel_rfl) (by kernel_rfl) (fun _ _ _ h => h) (Or.inl ⟨by rfl, ?_⟩) hH ?_
    rotate_left
    · intro w9 hSw
      try dsimp only at hSw
      obtain ⟨s0, s1⟩ := hSw
      go_simp
      try with_reducible rfl
    try simp only [Act.put, List.setIfInBounds_toArray, List.set_cons_zero, List.set_cons_succ]
    refine wpAnyH_take (i := 14) (oi := { dst := _, op := _, type := _, pos := _, after := _, guard := _ }) (v := ?_) rfl (by kernel_rfl) (by kernel_rfl) (by kernel_rfl) (fun _ _ _ h => h) (Or.inl ⟨by rfl, ?_⟩) hH ?_
    rotate_left
    · intro w9 hSw
      try dsimp only at hSw
      obtain ⟨s0, s1⟩ := hSw
      go_simp
      try with_reducible rfl
    try simp only [Act.put, List.setIfInBounds_toArray, List.set_cons_zero, List.set_cons_succ]
    refine wpAnyH_take (i := 15) (oi := { dst := _, op := _, type := _, pos := _, after := _, guard := _ }) (v := ?_) rfl (by kernel_rfl) (by kernel_rfl) (by kernel_rfl) (fun _ _ _ h => h) (Or.inl ⟨by rfl, ?_⟩) hH ?_
    rotate_left
    · intro w9 hSw
      try dsimp only at hSw
      obtain ⟨s0, s1⟩ := hSw
      go_simp
      try with_reducible rfl
    try simp only [Act.put, List.setIfInBounds_toArray, List.set_cons_zero, List.set_cons_succ]
    refine wpAnyH_take (i := 16) (oi := { dst := _, op := _, type := _, pos := _, after := _, guard := _ }) (v := ?_) rfl (by kernel_rfl) (by kernel_rfl) (by kernel_rfl) (fun _ _ _ h => h) (Or.inl ⟨by rfl, ?_⟩) hH ?_
    rotate_left
    · intro w9 hSw
      try dsimp only at hSw
      obtain ⟨s0, s1⟩ := hSw
      go_simp
      try with_reducible rfl
    try simp only [Act.put, List.setIfInBounds_toArray, List.set_cons_zero, List.set_cons_succ]
    refine wpAnyH_ready (rs := [17]) (by kernel_rfl) (by simp) ?_
    refine AllReadyH.cons rfl (fun K hK => ?_) AllReadyH.nil
    go_simp
    go_at_call 46
    refine (laws_likeInts _ _ M M _ (hx3.now hD6).lst (hx4.now hD6).lst).mono ?_
    rintro e7 v2 ⟨rfl, hb2⟩
    rw [decide_eq_true rfl]
    have k0_2 := cell_keep (w := v1) k0_1 hb2
    have k1_2 := cell_keep (w := v1) k1_1 hb2
    replace hD6 := hD6.trans (Below.mono (w := v1) hb2 hD6.size)
    refine hK.out _ _ ⟨k0_2, k1_2⟩ (fun hH => ?_)
    clear hK K
    try simp only [Act.put, List.setIfInBounds_toArray, List.set_cons_zero, List.set_cons_succ]
    refine wpAnyH_take (i := 18) (oi := { dst := _, op := _, type := _, pos := _, after := _, guard := _ }) (v := ?_) rfl (by kernel_rfl) (by kernel_rfl) (by kernel_rfl) (fun _ _ _ h => h) (Or.inl ⟨by rfl, ?_⟩) hH ?_
    rotate_left
    · intro w9 hSw
      try dsimp only at hSw
      obtain ⟨s0, s1⟩ := hSw
      go_simp
      try with_reducible rfl
    try simp only [Act.put, List.setIfInBounds_toArray, List.set_cons_zero, List.set_cons_succ]
    refine wpAnyH_take (i := 19) (oi := { dst := _, op := _, type := _, pos := _, after := _, guard := _ }) (v := ?_) rfl (by kernel_rfl) (by kernel_rfl) (by kernel_rfl) (fun _ _ _ h => h) (Or.inl ⟨by rfl, ?_⟩) hH ?_
    rotate_left
    · intro w9 hSw
      try dsimp only at hSw
      obtain ⟨s0, s1⟩ := hSw
      go_simp
      try with_reducible rfl
    try simp only [Act.put, List.setIfInBounds_toArray, List.set_cons_zero, List.set_cons_succ]
    refine wpAnyH_take (i := 20) (oi := { dst := _, op := _, type := _, pos := _, after := _, guard := _ }) (v := ?_) rfl (by kernel_rfl) (by kernel_rfl) (by kernel_rfl) (fun _ _ _ h => h) (Or.inl ⟨by rfl, ?_⟩) hH ?_
    rotate_left
    · intro w9 hSw
      try dsimp only at hSw
      obtain ⟨s0, s1⟩ := hSw
      go_simp
      try with_reducible rfl
    try simp only [Act.put, List.setIfInBounds_toArray, List.set_cons_zero, List.set_cons_succ]
    refine wpAnyH_take (i := 21) (oi := { dst := _, op := _, type := _, pos := _, after := _, guard := _ }) (v := ?_) rfl (by kernel_rfl) (by kernel_rfl) (by kernel_rfl) (fun _ _ _ h => h) (Or.inl ⟨by rfl, ?_⟩) hH ?_
    rotate_left
    · intro w9 hSw
      try dsimp only at hSw
      obtain ⟨s0, s1⟩ := hSw
      go_simp
      try with_reducible rfl
    try simp only [Act.put, List.setIfInBounds_toArray, List.set_cons_zero, List.set_cons_succ]
    refine wpAnyH_take (i := 22) (oi := { dst := _, op := _, type := _, pos := _, after := _, guard := _ }) (v := ?_) rfl (by kernel_rfl) (by kernel_rfl) (by kernel_rfl) (fun _ _ _ h => h) (Or.inl ⟨by rfl, ?_⟩) hH ?_
    rotate_left
    · intro w9 hSw
      try dsimp only at hSw
      obtain ⟨s0, s1⟩ := hSw
      go_simp
      try with_reducible rfl
    try simp only [Act.put, List.setIfInBounds_toArray, List.set_cons_zero, List.set_cons_succ]
    refine wpAnyH_take (i := 23) (oi := { dst := _, op := _, type := _, pos := _, after := _, guard := _ }) (v := ?_) rfl (by kernel_rfl) (by kernel_rfl) (by kernel_rfl) (fun _ _ _ h => h) (Or.inl ⟨by rfl, ?_⟩) hH ?_
    rotate_left
    · intro w9 hSw
      try dsimp only at hSw
      obtain ⟨s0, s1⟩ := hSw
      go_simp
      try with_reducible rfl
    try simp only [Act.put, List.setIfInBounds_toArray, List.set_cons_zero, List.set_cons_succ]
    refine wpAnyH_take (i := 24) (oi := { dst := _, op := _, type := _, pos := _, after := _, guard := _ }) (v := ?_) rfl (by kernel_rfl) (by kernel_rfl) (by kernel_rfl) (fun _ _ _ h => h) (Or.inl ⟨by rfl, ?_⟩) hH ?_
    rotate_left
    · intro w9 hSw
      try dsimp only at hSw
      obtain ⟨s0, s1⟩ := hSw
      go_simp
      try with_reducible rfl
    try simp only [Act.put, List.setIfInBounds_toArray, List.set_cons_zero, List.set_cons_succ]
    refine wpAnyH_take (i := 25) (oi := { dst := _, op := _, type := _, pos := _, after := _, guard := _ }) (v := ?_) rfl (by kernel_rfl) (by kernel_rfl) (by kernel_rfl) (fun _ _ _ h => h) (Or.inl ⟨by rfl, ?_⟩) hH ?_
    rotate_left
    · intro w9 hSw
      try dsimp only at hSw
      obtain ⟨s0, s1⟩ := hSw
      go_simp
      try with_reducible rfl
    try simp only [Act.put, List.setIfInBounds_toArray, List.set_cons_zero, List.set_cons_succ]
    refine wpAnyH_take (i := 26) (oi := { dst := _, op := _, type := _, pos := _, after := _, guard := _ }) (v := ?_) rfl (by kernel_rfl) (by kernel_rfl) (by kernel_rfl) (fun _ _ _ h => h) (Or.inl ⟨by rfl, ?_⟩) hH ?_
    rotate_left
    · intro w9 hSw
      try dsimp only at hSw
      obtain ⟨s0, s1⟩ := hSw
      go_simp
      try with_reducible rfl
    try simp only [Act.put, List.setIfInBounds_toArray, List.set_cons_zero, List.set_cons_succ]
    refine wpAnyH_take (i := 27) (oi := { dst := _, op := _, type := _, pos := _, after := _, guard := _ }) (v := ?_) rfl (by kernel_rfl) (by kernel_rfl) (by kernel_rfl) (fun _ _ _ h => h) (Or.inl ⟨by rfl, ?_⟩) hH ?_
    rotate_left
    · intro w9 hSw
      try dsimp only at hSw
      obtain ⟨s0, s1⟩ := hSw
      go_simp
      try with_reducible rfl
    try simp only [Act.put, List.setIfInBounds_toArray, List.set_cons_zero, List.set_cons_succ]
    refine wpAnyH_ready (rs := [28]) (by kernel_rfl) (by simp) ?_
    refine AllReadyH.cons rfl (fun K hK => ?_) AllReadyH.nil
    go_simp
    go_at_call 46
    refine (laws_likeInts _ _ E E _ (hx5.now hD6).lst (hx6.now hD6).lst).mono ?_
    rintro e7 v3 ⟨rfl, hb3⟩
    rw [decide_eq_true rfl]
    have k0_3 := cell_keep (w := v2) k0_2 hb3
    have k1_3 := cell_keep (w := v2) k1_2 hb3
    replace hD6 := hD6.trans (Below.mono (w := v2) hb3 hD6.size)
    refine hK.out _ _ ⟨k0_3, k1_3⟩ (fun hH => ?_)
    clear hK K
    try simp only [Act.put, List.setIfInBounds_toArray, List.set_cons_zero, List.set_cons_succ]
    refine wpAnyH_take (i := 29) (oi := { dst := _, op := _, type := _, pos := _, after := _, guard := _ }) (v := ?_) rfl (by kernel_rfl) (by kernel_rfl) (by kernel_rfl) (fun _ _ _ h => h) (Or.inl ⟨by rfl, ?_⟩) hH ?_
    rotate_left
    · intro w9 hSw
      try dsimp only at hSw
      obtain ⟨s0, s1⟩ := hSw
      go_simp
      try with_reducible rfl
    try simp only [Act.put, List.setIfInBounds_toArray, List.set_cons_zero, List.set_cons_succ]
    refine wpAnyH_take (i := 30) (oi := { dst := _, op := _, type := _, pos := _, after := _, guard := _ }) (v := ?_) rfl (by kernel_rfl) (by kernel_rfl) (by kernel_rfl) (fun _ _ _ h => h) (Or.inl ⟨by rfl, ?_⟩) hH ?_
    rotate_left
    · intro w9 hSw
      try dsimp only at hSw
      obtain ⟨s0, s1⟩ := hSw
      go_simp
      try with_reducible rfl
    try simp only [Act.put, List.setIfInBounds_toArray, List.set_cons_zero, List.set_cons_succ]
    refine wpAnyH_take (i := 31) (oi := { dst := _, op := _, type := _, pos := _, after := _, guard := _ }) (v := ?_) rfl (by kernel_rfl) (by kernel_rfl) (by kernel_rfl) (fun _ _ _ h => h) (Or.inl ⟨by rfl, ?_⟩) hH ?_
    rotate_left
    · intro w9 hSw
      try dsimp only at hSw
      obtain ⟨s0, s1⟩ := hSw
      go_simp
      try with_reducible rfl
    try simp only [Act.put, List.setIfInBounds_toArray, List.set_cons_zero, List.set_cons_succ]
    refine wpAnyH_take (i := 32) (oi := { dst := _, op := _, type := _, pos := _, after := _, guard := _ }) (v := ?_) rfl (by kernel_rfl) (by kernel_rfl) (by kernel_rfl) (fun _ _ _ h => h) (Or.inl ⟨by rfl, ?_⟩) hH ?_
    rotate_left
    · intro w9 hSw
      try dsimp only at hSw
      obtain ⟨s0, s1⟩ := hSw
      go_simp
      try with_reducible rfl
    try simp only [Act.put, List.setIfInBounds_toArray, List.set_cons_zero, List.set_cons_succ]
    refine wpAnyH_take (i := 33) (oi := { dst := _, op := _, type := _, pos := _, after := _, guard := _ }) (v := ?_) rfl (by kernel_rfl) (by kernel_rfl) (by kernel_rfl) (fun _ _ _ h => h) (Or.inl ⟨by rfl, ?_⟩) hH ?_
    rotate_left
    · intro w9 hSw
      try dsimp only at hSw
      obtain ⟨s0, s1⟩ := hSw
      go_simp
      try with_reducible rfl
    try simp only [Act.put, List.setIfInBounds_toArray, List.set_cons_zero, List.set_cons_succ]
    refine wpAnyH_take (i := 35) (oi := { dst := _, op := _, type := _, pos := _, after := _, guard := _ }) (v := ?_) rfl (by kernel_rfl) (by kernel_rfl) (by kernel_rfl) (fun _ _ _ h => h) (Or.inl ⟨by rfl, ?_⟩) hH ?_
    rotate_left
    · intro w9 hSw
      try dsimp only at hSw
      obtain ⟨s0, s1⟩ := hSw
      go_simp
      try with_reducible rfl
    try simp only [Act.put, List.setIfInBounds_toArray, List.set_cons_zero, List.set_cons_succ]
    refine wpAnyH_take (i := 36) (oi := { dst := _, op := _, type := _, pos := _, after := _, guard := _ }) (v := ?_) rfl (by kernel_rfl) (by kernel_rfl) (by kernel_rfl) (fun _ _ _ h => h) (Or.inl ⟨by rfl, ?_⟩) hH ?_
    rotate_left
    · intro w9 hSw
      try dsimp only at hSw
      obtain ⟨s0, s1⟩ := hSw
      go_simp
      try with_reducible rfl
    try simp only [Act.put, List.setIfInBounds_toArray, List.set_cons_zero, List.set_cons_succ]
    refine wpAnyH_ready (rs := [34]) (by kernel_rfl) (by simp) ?_
    refine AllReadyH.cons rfl (fun K hK => ?_) AllReadyH.nil
    go_simp
    go_at_call 47
    refine (impl_IsRun _ ge gp _ l _ (hO.now hD6).lst (hU.now hD6).lst).mono ?_
    rintro e7 v4 ⟨rfl, hb4⟩
    rw [hR.out]
    have k0_4 := cell_keep (w := v3) k0_3 hb4
    have k1_4 := cell_keep (w := v3) k1_3 hb4
    replace hD6 := hD6.trans (Below.mono (w := v3) hb4 hD6.size)
    refine hK.out _ _ ⟨k0_4, k1_4⟩ (fun hH => ?_)
    clear hK K
    try simp only [Act.put, List.setIfInBounds_toArray, List.set_cons_zero, List.set_cons_succ]
    refine wpAnyH_ready (rs := [37]) (by kernel_rfl) (by simp) ?_
    refine AllReadyH.cons rfl (fun K hK => ?_) AllReadyH.nil
    go_simp
    go_at_call 48
    refine (spec_IsRun _ ge gp _ l _ (hO.now hD6).lst (hU.now hD6).lst).mono ?_
    rintro e7 v5 ⟨rfl, hb5⟩
    rw [hR.out]
    have k0_5 := cell_keep (w := v4) k0_4 hb5
    have k1_5 := cell_keep (w := v4) k1_4 hb5
    replace hD6 := hD6.trans (Below.mono (w := v4) hb5 hD6.size)
    refine hK.out _ _ ⟨k0_5, k1_5⟩ (fun hH => ?_)
    clear hK K
    try simp only [Act.put, List.setIfInBounds_toArray, List.set_cons_zero, List.set_cons_succ]
    refine wpAnyH_take (i := 38) (oi := { dst := _, op := _, type := _, pos := _, after := _, guard := _ }) (v := ?_) rfl (by kernel_rfl) (by kernel_rfl) (by kernel_rfl) (fun _ _ _ h => h) (Or.inl ⟨by rfl, ?_⟩) hH ?_
    rotate_left
    · intro w9 hSw
      try dsimp only at hSw
      obtain ⟨s0, s1⟩ := hSw
      go_simp
      try with_reducible rfl
    try simp only [Act.put, List.setIfInBounds_toArray, List.set_cons_zero, List.set_cons_succ]
    refine wpAnyH_take (i := 39) (oi := { dst := _, op := _, type := _, pos := _, after := _, guard := _ }) (v := ?_) rfl (by kernel_rfl) (by kernel_rfl) (by kernel_rfl) (fun _ _ _ h => h) (Or.inl ⟨by rfl, ?_⟩) hH ?_
    rotate_left
    · intro w9 hSw
      try dsimp only at hSw
      obtain ⟨s0, s1⟩ := hSw
      go_simp
      try with_reducible rfl
    try simp only [Act.put, List.setIfInBounds_toArray, List.set_cons_zero, List.set_cons_succ]
    refine wpAnyH_done (by kernel_rfl) ?_ _
    clear hH k0 k1 k0_1 k1_1 k0_2 k1_2 k0_3 k1_3 k0_4 k1_4 k0_5 k1_5 hqR hq1 hq2 hq3 l0 hx2 hx4 hx6
    replace hO := hO.now hD6
    replace hU := hU.now hD6
    replace hx1 := hx1.now hD6
    replace hx3 := hx3.now hD6
    replace hx5 := hx5.now hD6
    replace hbox := hbox.now hD6
    replace hB := hB.trans (hD6.mono hB.size)
    obtain ⟨wb, rfl⟩ : ∃ wb : World, wb = v5 := ⟨_, rfl⟩
    clear hD6
    have hLn := hx1.lst.len_le
    have hnn : Hid (c1 = 0 → ∀ x ∈ L, 0 ≤ x) := fun h => late_nn (by rw [hF1.out, h])
    have hc1 : Hid (c1 = 0 ∨ c1 ≠ 0) := by by_cases h : c1 = 0; exact .inl h; exact .inr h
    go_wp2
    go_loopw [17] (fun i wr => ∃ k : Nat, k ≤ L.length ∧ i = .int .i64 k ∧ Below wb.heap.size wb wr) (fun i _ => L.length - (intOf i).toNat)
    case atStart => exact ⟨0, Nat.zero_le _, rfl, Below.refl _ _⟩
    case round =>
      obtain ⟨k, hk, rfl, hBr⟩ := hrel
      obtain ⟨wd, rfl⟩ : ∃ wd : World, wd = wr := ⟨_, rfl⟩
      have hgo : (c1 = 0 ∧ k < L.length) ∨ ¬ (c1 = 0 ∧ k < L.length) := by by_cases h : c1 = 0 ∧ k < L.length; exact .inl h; exact .inr h
      rcases hgo with ⟨hc0, hlt⟩ | hno
      · have hz0 := hnn.out hc0 _ (List.getElem_mem hlt)
        obtain ⟨lb, lo, hLA, _, z0⟩ := ints_at (hx1.now hBr).lst k hlt
        subst hLA
        obtain ⟨lv, hlv⟩ : ∃ lv, L[k] = lv := ⟨_, rfl⟩
        rw [hlv] at z0 hz0
        have hnl : ¬ lv < 0 := by omega
        have qc : (c1 == 0) = true := by simp [hc0]
        clear hlv hc0 hz0
        go_wp2
        go_roundw
        case rel => exact ⟨k + 1, hlt, by go_num, hBr⟩
        case measure => simp [intOf]; omega
      · replace hB := hB.trans (hBr.mono hB.size)
        have hx3' := hx3.now hBr
        have hx5' := hx5.now hBr
        have hO' := hO.now hBr
        have hbox' := hbox.now hBr
        have hstop : (c1 == 0) = false ∨ ((c1 == 0) = true ∧ ¬ (k : Int) < (L.length : Int)) := by
          by_cases h : c1 = 0
          · exact .inr ⟨by simp [h], fun h2 => hno ⟨h, by omega⟩⟩
          · exact .inl (by simpa using h)
        clear hno hx1 hx3 hx5 hO hU hbox hBr hnn hc1
        rcases hstop with hs | ⟨hs, hs2⟩
        · skip
          by_cases h2 : c2 ≠ 0
          · have q2 : (c2 != 0) = true := by simpa using h2
            go_wp2
            go_ret
            exact ⟨rfl, hB⟩
          · have h2 : c2 = 0 := by omega
            subst h2
            obtain ⟨hg, hMl, E', hE', hall⟩ := next_law hF2.out
            rw [hF3.out] at hE'
            obtain ⟨rfl, rfl⟩ : E = E' ∧ c3 = 0 := ⟨congrArg Prod.fst hE', congrArg Prod.snd hE'⟩
            have hallH := Lib.hid hall
            have hMlH := Lib.hid hMl
            clear hE' hall hg hMl
            obtain ⟨n, rfl⟩ := Int.eq_ofNat_of_zero_le hg0
            go_wp2
            go_loopw [18, 19, 20] (fun i _ _ wr => ∃ k : Nat, k ≤ n ∧ i = .int .i64 k ∧ Below wd.heap.size wd wr) (fun i _ _ _ => n - (intOf i).toNat)
            case atStart => exact ⟨0, Nat.zero_le _, rfl, Below.refl _ _⟩
            case round =>
              obtain ⟨e, he, rfl, hBe⟩ := hrel
              obtain ⟨we, rfl⟩ : ∃ we : World, we = wr := ⟨_, rfl⟩
              obtain ⟨k0, k1⟩ := (hbox'.now hBe).c2
              have l0 := (hbox'.now hBe).lt
              by_cases hlt : e < n
              · have hltI : (e : Int) < (n : Int) := by omega
                go_wp2
                clear k0 k1 l0
                go_loopw [19, 20] (fun rv jv wr => ∃ j : Nat, j ≤ gp.length ∧ jv = .int .i64 j ∧ rv = .bool (enK gp M (e : Int) j) ∧ Below wd.heap.size wd wr) (fun _ jv _ => gp.length - (intOf jv).toNat)
                case atStart => exact ⟨0, Nat.zero_le _, rfl, rfl, hBe⟩
                case round =>
                  clear hBe
                  obtain ⟨j, hj, rfl, rfl, hBe⟩ := hrel
                  obtain ⟨k0, k1⟩ := (hbox'.now hBe).c2
                  have l0 := (hbox'.now hBe).lt
                  by_cases hlt2 : j < gp.length
                  · have hjM : j < M.length := by rw [hMlH.out]; exact hlt2
                    have hs := enK_succ gp M (e : Int) j hlt2 hjM
                    obtain ⟨pb, po, hPA, _, _, d1, _, _⟩ := places_at (hO'.now hBe).lst j hlt2
                    subst hPA
                    obtain ⟨mb, mo, hMA, _, m0⟩ := ints_at (hx3'.now hBe).lst j hjM
                    subst hMA
                    have hjMI : (j : Int) < (M.length : Int) := by omega
                    obtain ⟨dv, hdv⟩ : ∃ dv, gp[j].dst = dv := ⟨_, rfl⟩
                    obtain ⟨mv, hmv⟩ : ∃ mv, M[j] = mv := ⟨_, rfl⟩
                    rw [hdv] at d1 hs
                    rw [hmv] at m0 hs
                    clear hdv hmv
                    cases hen : enK gp M (e : Int) j
                    · rw [hen] at hs
                      have hsH : Hid (enK gp M (e : Int) (j + 1) = false) := by show _ = _; rw [hs]; rfl
                      clear hs hen
                      go_wp2
                      go_roundw
                      case rel => exact ⟨j + 1, hlt2, by go_num, by rw [hsH.out], hBe⟩
                      case measure => simp [intOf]; omega
                    · rw [hen] at hs
                      by_cases hde : dv = (e : Int)
                      · have qd : (dv != (e : Int)) = false := by simp [hde]
                        by_cases hm0 : 0 < mv
                        · have hsH : Hid (enK gp M (e : Int) (j + 1) = true) := by show _ = _; rw [hs]; simp [hm0]
                          clear hs hen hde
                          go_wp2
                          go_roundw
                          case rel => exact ⟨j + 1, hlt2, by go_num, by rw [hsH.out], hBe⟩
                          case measure => simp [intOf]; omega
                        · have hsH : Hid (enK gp M (e : Int) (j + 1) = false) := by show _ = _; rw [hs]; simp [hm0, hde]
                          clear hs hen hde
                          go_wp2
                          go_roundw
                          case rel => exact ⟨j + 1, hlt2, by go_num, by rw [hsH.out], hBe⟩
                          case measure => simp [intOf]; omega
                      · have qd : (dv != (e : Int)) = true := by simpa using hde
                        have hsH : Hid (enK gp M (e : Int) (j + 1) = true) := by show _ = _; rw [hs]; simp [hde]
                        clear hs hen hde
                        go_wp2
                        go_roundw
                        case rel => exact ⟨j + 1, hlt2, by go_num, by rw [hsH.out], hBe⟩
                        case measure => simp [intOf]; omega
                  · obtain rfl : j = gp.length := by omega
                    rw [hallH.out e hltI]
                    obtain ⟨Q, hQ⟩ : ∃ Q, hasI E (e : Int) = Q := ⟨_, rfl⟩
                    rw [hQ]
                    have hQH := Lib.hid hQ
                    have hqq : (Q != Q) = false := by cases Q <;> rfl
                    clear hQ
                    go_wp2_with (go_at_call 49; refine (laws_hasInt _ E (e : Int) _ (hx5'.now hBe).lst).mono ?_; rintro e9 w9 ⟨rfl, rfl⟩; rw [hQH.out])
                    go_roundw
                    case rel => exact ⟨e + 1, hlt, by go_num, hBe⟩
                    case measure => simp [intOf]; omega
              · obtain rfl : e = n := by omega
                have hnl : ¬ (e : Int) < (e : Int) := by omega
                clear hlt
                go_wp2
                go_ret
                exact ⟨rfl, hB.trans (hBe.mono hB.size)⟩
        · skip
          by_cases h2 : c2 ≠ 0
          · have q2 : (c2 != 0) = true := by simpa using h2
            go_wp2
            go_ret
            exact ⟨rfl, hB⟩
          · have h2 : c2 = 0 := by omega
            subst h2
            obtain ⟨hg, hMl, E', hE', hall⟩ := next_law hF2.out
            rw [hF3.out] at hE'
            obtain ⟨rfl, rfl⟩ : E = E' ∧ c3 = 0 := ⟨congrArg Prod.fst hE', congrArg Prod.snd hE'⟩
            have hallH := Lib.hid hall
            have hMlH := Lib.hid hMl
            clear hE' hall hg hMl
            obtain ⟨n, rfl⟩ := Int.eq_ofNat_of_zero_le hg0
            go_wp2
            go_loopw [18, 19, 20] (fun i _ _ wr => ∃ k : Nat, k ≤ n ∧ i = .int .i64 k ∧ Below wd.heap.size wd wr) (fun i _ _ _ => n - (intOf i).toNat)
            case atStart => exact ⟨0, Nat.zero_le _, rfl, Below.refl _ _⟩
            case round =>
              obtain ⟨e, he, rfl, hBe⟩ := hrel
              obtain ⟨we, rfl⟩ : ∃ we : World, we = wr := ⟨_, rfl⟩
              obtain ⟨k0, k1⟩ := (hbox'.now hBe).c2
              have l0 := (hbox'.now hBe).lt
              by_cases hlt : e < n
              · have hltI : (e : Int) < (n : Int) := by omega
                go_wp2
                clear k0 k1 l0
                go_loopw [19, 20] (fun rv jv wr => ∃ j : Nat, j ≤ gp.length ∧ jv = .int .i64 j ∧ rv = .bool (enK gp M (e : Int) j) ∧ Below wd.heap.size wd wr) (fun _ jv _ => gp.length - (intOf jv).toNat)
                case atStart => exact ⟨0, Nat.zero_le _, rfl, rfl, hBe⟩
                case round =>
                  clear hBe
                  obtain ⟨j, hj, rfl, rfl, hBe⟩ := hrel
                  obtain ⟨k0, k1⟩ := (hbox'.now hBe).c2
                  have l0 := (hbox'.now hBe).lt
                  by_cases hlt2 : j < gp.length
                  · have hjM : j < M.length := by rw [hMlH.out]; exact hlt2
                    have hs := enK_succ gp M (e : Int) j hlt2 hjM
                    obtain ⟨pb, po, hPA, _, _, d1, _, _⟩ := places_at (hO'.now hBe).lst j hlt2
                    subst hPA
                    obtain ⟨mb, mo, hMA, _, m0⟩ := ints_at (hx3'.now hBe).lst j hjM
                    subst hMA
                    have hjMI : (j : Int) < (M.length : Int) := by omega
                    obtain ⟨dv, hdv⟩ : ∃ dv, gp[j].dst = dv := ⟨_, rfl⟩
                    obtain ⟨mv, hmv⟩ : ∃ mv, M[j] = mv := ⟨_, rfl⟩
                    rw [hdv] at d1 hs
                    rw [hmv] at m0 hs
                    clear hdv hmv
                    cases hen : enK gp M (e : Int) j
                    · rw [hen] at hs
                      have hsH : Hid (enK gp M (e : Int) (j + 1) = false) := by show _ = _; rw [hs]; rfl
                      clear hs hen
                      go_wp2
                      go_roundw
                      case rel => exact ⟨j + 1, hlt2, by go_num, by rw [hsH.out], hBe⟩
                      case measure => simp [intOf]; omega
                    · rw [hen] at hs
                      by_cases hde : dv = (e : Int)
                      · have qd : (dv != (e : Int)) = false := by simp [hde]
                        by_cases hm0 : 0 < mv
                        · have hsH : Hid (enK gp M (e : Int) (j + 1) = true) := by show _ = _; rw [hs]; simp [hm0]
                          clear hs hen hde
                          go_wp2
                          go_roundw
                          case rel => exact ⟨j + 1, hlt2, by go_num, by rw [hsH.out], hBe⟩
                          case measure => simp [intOf]; omega
                        · have hsH : Hid (enK gp M (e : Int) (j + 1) = false) := by show _ = _; rw [hs]; simp [hm0, hde]
                          clear hs hen hde
                          go_wp2
                          go_roundw
                          case rel => exact ⟨j + 1, hlt2, by go_num, by rw [hsH.out], hBe⟩
                          case measure => simp [intOf]; omega
                      · have qd : (dv != (e : Int)) = true := by simpa using hde
                        have hsH : Hid (enK gp M (e : Int) (j + 1) = true) := by show _ = _; rw [hs]; simp [hde]
                        clear hs hen hde
                        go_wp2
                        go_roundw
                        case rel => exact ⟨j + 1, hlt2, by go_num, by rw [hsH.out], hBe⟩
                        case measure => simp [intOf]; omega
                  · obtain rfl : j = gp.length := by omega
                    rw [hallH.out e hltI]
                    obtain ⟨Q, hQ⟩ : ∃ Q, hasI E (e : Int) = Q := ⟨_, rfl⟩
                    rw [hQ]
                    have hQH := Lib.hid hQ
                    have hqq : (Q != Q) = false := by cases Q <;> rfl
                    clear hQ
                    go_wp2_with (go_at_call 49; refine (laws_hasInt _ E (e : Int) _ (hx5'.now hBe).lst).mono ?_; rintro e9 w9 ⟨rfl, rfl⟩; rw [hQH.out])
                    go_roundw
                    case rel => exact ⟨e + 1, hlt, by go_num, hBe⟩
                    case measure => simp [intOf]; omega
              · obtain rfl : e = n := by omega
                have hnl : ¬ (e : Int) < (e : Int) := by omega
                clear hlt
                go_wp2
                go_ret
                exact ⟨rfl, hB.trans (hBe.mono hB.size)⟩
theorem FnRuns_own : ownKnob Try.prog.godebug = none := by kernel_rfl
theorem FnRuns_laidOut : laidOutB Try.prog = true := by kernel_rfl
set_option maxRecDepth 100000 in
theorem FnRuns_lifted (os : Os) (started : os.Started) (H : Type) (enc : TypeId × Value → H) :
    ReturnsInHanded {} Try.checked os 8 .any (Rows.fnRunsSpec.pre6 enc Try.prog Try.f8 Rows.fnRunsRow.domain false) (Rows.fnRunsSpec.post enc Try.prog Try.f8 false true false false) := by
  refine returnsInHanded_of_change (C := Try.checked) FnRuns_own started (by kernel_rfl) Try.func8
    (ChangeSpec.witness6 (enc := enc) (C := Try.checked) false ⟨#[], #[.slice none 0 0], []⟩ 8 (by kernel_rfl) (by kernel_rfl) (by kernel_rfl) (by kernel_rfl)) ?_
  intro W base args ds gs before hval0 hW hcnd _
  have hval : ∀ (j : Nat) t v, Try.f8.params[j]? = some t → args[j]? = some v → Value.okWide Try.prog W .any base t v := hval0
  have hW' := hW
  obtain ⟨p, q, hA0, hV, rfl, hfz, hnd⟩ := hW
  have hA : DataW.TrodAll enc Try.prog W 0 (fun _ => true) true Try.f8.params.toList args.toList ds p := hA0
  rw [Try.params8] at hA hval
  obtain ⟨v0, vs0, d0, ds0, p0, q0, hargs, rfl, rfl, h0, r0⟩ := trodAll_cons hA
  obtain ⟨rfl, rfl, rfl⟩ := trodAll_nil r0
  obtain rfl : args = #[v0] := by cases args; simp_all
  obtain ⟨rfl, rfl⟩ := trodVars_none hV
  have k0 := h0
  have lt0 : ∀ x ∈ p0, x.block < W.heap.size := by obtain ⟨m, hm⟩ := k0; exact DataW.trod_lt m _ _ _ hm
  obtain ⟨A0, n0, c0, rfl⟩ := okWide_slice Try.underlying56 (hval 0 56 v0 rfl rfl)
  obtain ⟨fuel0, hf0⟩ := h0
  obtain ⟨l0, a0, o0⟩ := open_bytes Try.underlying56 Try.underlying5 (by kernel_rfl) (show DataW.trod enc Try.prog W 0 (fun _ => true) true fuel0 56 [_] = _ by simpa [Value.cells] using hf0)
  clear hA0 hval0
  refine (law_FnRuns _ _ W a0 o0).mono fun e W' ⟨he, bel⟩ => ?_
  subst he
  exact ⟨_, rfl, _, _, _, [], _, [], hW', trodAll_mk1 (shut_bool Try.underlying4 _), (trodAll_cons_mk (Below.trod FnRuns_laidOut (by kernel_rfl) (of_decide_eq_true (by kernel_rfl)) k0 bel lt0) trodAll_mk0), rfl, bel.frame _, fun h => by cases h⟩
theorem FnRuns_over : Rows.fnRunsRow.holds Try.pinned (OpenSpec.ofChange Rows.fnRunsSpec) :=
  OpenClaim.holds_of_wide 8 Try.f8 rfl rfl rfl rfl rfl rfl rfl ⟨rfl, rfl, rfl, rfl, rfl⟩ rfl rfl rfl rfl rfl (by kernel_rfl) Try.func8 (by kernel_rfl)
    (of_decide_eq_true (by kernel_rfl)) (by unfold Func.isWrapper; first | (rw [if_pos (by decide +kernel)]; kernel_rfl) | (rw [if_neg (by decide +kernel)]; exact ⟨rfl, rfl⟩))
    (fun os started H enc _ => FnRuns_lifted os started H enc)
/-- The given statement. -/
theorem FnRuns_proved : Rows.FnRunsSaid := FnRuns_over
end Go.Proofs.Ytpkkkigiiaegfaa
