/-
  FnFirings returns true for every input: the table of firing times is least, goes up, and is a table.
  Conditions: none beyond the statement's own.
-/
import Derived.Test.YtkbhbmoogkjafaaFnFirP
import Derived.Test.YtkbhbmoogkjafaaLike
import Derived.Test.YtkbhbmoogkjafaaDrI
import Derived.Test.YtkbhbmoogkjafaaTimU
namespace Go.Proofs.Ytkbhbmoogkjafaa
open Go.RowKit Go.ChangeShapes Go.WideShapes Go.ChangeAt Go.Deep
set_option linter.unusedVariables false
set_option linter.unusedSimpArgs false
theorem max_ifG (a b : Int) : max a b = if a < b then b else a := by by_cases h : a < b <;> simp [h] <;> omega
set_option maxHeartbeats 32000000 in
set_option maxRecDepth 100000 in
theorem law_FnFirings (cv : Value) (bs : List Int) (w : World) (a0 : Lst byteCell 1 w w.heap.size cv bs) (o0 : Hid (∀ b ∈ bs, 0 ≤ b ∧ b ≤ 255)) :
    Calls Try.prog 3 #[cv] w fun e w' => e = .returned (.bool true) ∧ Below w.heap.size w w' := by
  obtain ⟨CA, cc, rfl⟩ := a0.shape
  by_cases hbig : (4096 : Int) < (bs.length : Int)
  · have hq : Hid (decide ((4096 : Int) < (bs.length : Int)) = true) := decide_eq_true hbig
    clear hbig
    go_enter Try.func3, Try.ntmps3
    go_wp2_with (go_at_call 13; refine (laws_big _ _ _ a0).mono ?_; rintro e w1 ⟨rfl, rfl⟩; rw [hq.out])
    go_ret
    exact ⟨rfl, Below.refl _ _⟩
  · have hq : Hid (decide ((4096 : Int) < (bs.length : Int)) = false) := decide_eq_false hbig
    clear hbig
    go_enter Try.func3, Try.ntmps3
    go_wp2_with fail
    refine (laws_big _ _ _ a0).mono ?_
    rintro e w1 ⟨rfl, rfl⟩
    rw [hq.out]
    go_wp2_with fail
    refine (spec_DrawFiringTimes _ bs w a0 o0).mono ?_
    rintro e w0 ⟨ge, gp, v, N, rfl, hg0, hg1, hglen, hn1, hn2, hO1, hB⟩
    obtain ⟨A1, c1, rfl⟩ := hO1.shape
    have hA2 : Below w0.heap.size w0 (w0.alloc (.cells #[.int .i64 ge, .slice A1 gp.length c1] 26)) := (Below.refl _ _).alloc (Nat.le_refl _) _
    have hbox1 := Blk.newAt w0 (t := 26) (cs := #[.int .i64 ge, .slice A1 gp.length c1]) _ rfl
    go_wp2_with fail
    replace hO1 := hO1.now hA2
    replace hB := hB.trans (hA2.mono hB.size)
    generalize w0.alloc (.cells #[.int .i64 ge, .slice A1 gp.length c1] 26) = w0b at *
    generalize w0.heap.size = bg1 at *
    clear hA2
    obtain ⟨X, cd, hF⟩ : ∃ X cd, timesF ge gp N = (X, cd) := ⟨_, _, rfl⟩
    refine (impl_FiringTimes _ ge gp N _ hO1.lst).mono ?_
    rintro e w2 ⟨x, rfl, hx, hB2⟩
    rw [hF] at hx ⊢
    obtain ⟨XA, cx, rfl⟩ := hx.shape
    replace hO1 := hO1.now hB2
    replace hbox1 := hbox1.now hB2
    replace hB := hB.trans (hB2.mono hB.size)
    clear hB2
    have l0 := hbox1.lt
    obtain ⟨k0, k1⟩ := hbox1.c2
    go_wp2_with fail
    clear k0 k1 l0
    refine (spec_FiringTimes _ ge gp N _ hO1.lst).mono ?_
    rintro e w3 ⟨y, rfl, hy, hB3⟩
    rw [hF] at hy ⊢
    obtain ⟨YA, cy, rfl⟩ := hy.shape
    replace hO1 := hO1.now hB3
    replace hbox1 := hbox1.now hB3
    replace hx := hx.now hB3
    replace hB := hB.trans (hB3.mono hB.size)
    clear hB3
    have hFH := Lib.hid hF
    clear hF
    go_wp2_with fail
    refine (spec_DrawFiringTime _ bs _ (a0.now hB) o0).mono ?_
    rintro e w4 ⟨he, hp, v2, ev, kk, rfl, hh0, hh1, hplen, hO2, hB4⟩
    obtain ⟨A2, c2, rfl⟩ := hO2.shape
    replace hO1 := hO1.now hB4
    replace hbox1 := hbox1.now hB4
    replace hx := hx.now hB4
    replace hy := hy.now hB4
    replace hB := hB.trans (hB4.mono hB.size)
    clear hB4
    have hA2 : Below w4.heap.size w4 (w4.alloc (.cells #[.int .i64 he, .slice A2 hp.length c2] 26)) := (Below.refl _ _).alloc (Nat.le_refl _) _
    have hbox2 := Blk.newAt w4 (t := 26) (cs := #[.int .i64 he, .slice A2 hp.length c2]) _ rfl
    go_wp2_with fail
    replace hO1 := hO1.now hA2
    replace hbox1 := hbox1.now hA2
    replace hx := hx.now hA2
    replace hy := hy.now hA2
    replace hO2 := hO2.now hA2
    replace hB := hB.trans (hA2.mono hB.size)
    generalize w4.alloc (.cells #[.int .i64 he, .slice A2 hp.length c2] 26) = w4b at *
    generalize w4.heap.size = bg2 at *
    clear hA2
    obtain ⟨t1, t2, hF2⟩ : ∃ t1 t2, timeF he hp ev kk = (t1, t2) := ⟨_, _, rfl⟩
    refine (impl_FiringTime _ he hp ev kk _ hO2.lst).mono ?_
    rintro e w5 ⟨rfl, hB5⟩
    rw [hF2]
    replace hO1 := hO1.now hB5
    replace hbox1 := hbox1.now hB5
    replace hx := hx.now hB5
    replace hy := hy.now hB5
    replace hO2 := hO2.now hB5
    replace hbox2 := hbox2.now hB5
    replace hB := hB.trans (hB5.mono hB.size)
    clear hB5
    have l0 := hbox2.lt
    obtain ⟨k0, k1⟩ := hbox2.c2
    go_wp2_with fail
    clear k0 k1 l0
    refine (spec_FiringTime _ he hp ev kk _ hO2.lst).mono ?_
    rintro e w6 ⟨rfl, hB6⟩
    rw [hF2]
    replace hO1 := hO1.now hB6
    replace hbox1 := hbox1.now hB6
    replace hx := hx.now hB6
    replace hy := hy.now hB6
    replace hB := hB.trans (hB6.mono hB.size)
    clear hB6
    clear hO2 hbox2 hF2 hh0 hh1 hplen
    go_wp2_with fail
    refine (spec_DrawIsFiringTable _ bs _ (a0.now hB) o0).mono ?_
    rintro e w7 ⟨ke, kp, v3, u, T, rfl, hk0, hk1, hkplen, hO3, hT, hB7⟩
    obtain ⟨A3, c3, rfl⟩ := hO3.shape
    obtain ⟨TA, ct, rfl⟩ := hT.shape
    replace hO1 := hO1.now hB7
    replace hbox1 := hbox1.now hB7
    replace hx := hx.now hB7
    replace hy := hy.now hB7
    replace hB := hB.trans (hB7.mono hB.size)
    clear hB7
    have hA2 : Below w7.heap.size w7 (w7.alloc (.cells #[.int .i64 ke, .slice A3 kp.length c3] 26)) := (Below.refl _ _).alloc (Nat.le_refl _) _
    have hbox3 := Blk.newAt w7 (t := 26) (cs := #[.int .i64 ke, .slice A3 kp.length c3]) _ rfl
    have l0 := hbox1.lt
    obtain ⟨k0, k1⟩ := hbox1.c2
    go_wp2_with fail
    clear k0 k1 l0
    replace hO1 := hO1.now hA2
    replace hbox1 := hbox1.now hA2
    replace hx := hx.now hA2
    replace hy := hy.now hA2
    replace hO3 := hO3.now hA2
    replace hT := hT.now hA2
    replace hB := hB.trans (hA2.mono hB.size)
    generalize w7.alloc (.cells #[.int .i64 ke, .slice A3 kp.length c3] 26) = w7b at *
    generalize w7.heap.size = bg3 at *
    clear hA2
    obtain ⟨W, wd, hH1⟩ : ∃ W wd, holdF ge gp N = (W, wd) := ⟨_, _, rfl⟩
    refine (impl_HoldingOf _ ge gp N _ hO1.lst).mono ?_
    rintro e w8 ⟨z, rfl, hz, hB8⟩
    rw [hH1] at hz ⊢
    obtain ⟨ZA, cz, rfl⟩ := hz.shape
    replace hO1 := hO1.now hB8
    replace hbox1 := hbox1.now hB8
    replace hx := hx.now hB8
    replace hy := hy.now hB8
    replace hO3 := hO3.now hB8
    replace hT := hT.now hB8
    replace hbox3 := hbox3.now hB8
    replace hB := hB.trans (hB8.mono hB.size)
    clear hB8
    have l0 := hbox1.lt
    obtain ⟨k0, k1⟩ := hbox1.c2
    go_wp2_with fail
    clear k0 k1 l0
    refine (spec_HoldingOf _ ge gp N _ hO1.lst).mono ?_
    rintro e w9 ⟨q, rfl, hq9, hB9⟩
    rw [hH1] at hq9 ⊢
    obtain ⟨QA, cq, rfl⟩ := hq9.shape
    replace hO1 := hO1.now hB9
    replace hbox1 := hbox1.now hB9
    replace hx := hx.now hB9
    replace hy := hy.now hB9
    replace hO3 := hO3.now hB9
    replace hT := hT.now hB9
    replace hbox3 := hbox3.now hB9
    replace hz := hz.now hB9
    replace hB := hB.trans (hB9.mono hB.size)
    clear hB9
    have hH1H := Lib.hid hH1
    clear hH1
    obtain ⟨R, hR⟩ : ∃ R, isTab ke kp T = R := ⟨_, rfl⟩
    have hRH := Lib.hid hR
    clear hR
    have hqd : (cd != cd) = false := by simp
    have hq1 : (t1 != t1) = false := by simp
    have hq2 : (t2 != t2) = false := by simp
    have hq3 : (wd != wd) = false := by simp
    have hqR : (R != R) = false := by cases R <;> rfl
    have hD9 : Below w9.heap.size w9 w9.drew := Below.drew (Below.refl _ w9)
    obtain ⟨k0, k1⟩ := hbox3.c2
    replace k0 := cell_keep k0 hD9
    replace k1 := cell_keep k1 hD9
    have l0 : bg3 < w9.drew.heap.size := hbox3.lt
    go_wp2_with fail
    refine wp_region_held_drew (S := fun w' => w'.cell? ⟨bg3, 0, none⟩ = some (.int .i64 ke) ∧ w'.cell? ⟨bg3, 1, none⟩ = some (.slice A3 kp.length c3)) (by kernel_rfl) ⟨k0, k1⟩ (fun hH => ?_)
    refine wpAnyH_take (i := 0) (oi := { dst := _, op := _, type := _, pos := _, after := _, guard := _ }) (v := ?_) rfl (by kernel_rfl) (by kernel_rfl) (by kernel_rfl) (fun _ _ _ h => h) (Or.inl ⟨by rfl, ?_⟩) hH ?_
    rotate_left
    · intro w9 hSw
      try dsimp only at hSw
      obtain ⟨s0, s1⟩ := hSw
      go_simp
      try with_reducible rfl
    try simp only [Act.put, List.setIfInBounds_toArray, List.set_cons_zero, List.set_cons_succ]
    refine wpAnyH_take (i := 1) (oi := { dst := _, op := _, type := _, pos := _, after := _, guard := _ }) (v := ?_) rfl (by kernel_rfl) (by kernel_rfl) (by kernel_rfl) (fun _ _ _ h => h) (Or.inl ⟨by rfl, ?_⟩) hH ?_
    rotate_left
    · intro w9 hSw
      try dsimp only at hSw
      obtain ⟨s0, s1⟩ := hSw
      go_simp
      try with_reducible rfl
    try simp only [Act.put, List.setIfInBounds_toArray, List.set_cons_zero, List.set_cons_succ]
    refine wpAnyH_take (i := 2) (oi := { dst := _, op := _, type := _, pos := _, after := _, guard := _ }) (v := ?_) rfl (by kernel_rfl) (by kernel_rfl) (by kernel_rfl) (fun _ _ _ h => h) (Or.inl ⟨by rfl, ?_⟩) hH ?_
    rotate_left
    · intro w9 hSw
      try dsimp only at hSw
      obtain ⟨s0, s1⟩ := hSw
      go_simp
      try with_reducible rfl
    try simp only [Act.put, List.setIfInBounds_toArray, List.set_cons_zero, List.set_cons_succ]
    refine wpAnyH_take (i := 3) (oi := { dst := _, op := _, type := _, pos := _, after := _, guard := _ }) (v := ?_) rfl (by kernel_rfl) (by kernel_rfl) (by kernel_rfl) (fun _ _ _ h => h) (Or.inl ⟨by rfl, ?_⟩) hH ?_
    rotate_left
    · intro w9 hSw
      try dsimp only at hSw
      obtain ⟨s0, s1⟩ := hSw
      go_simp
      try with_reducible rfl
    try simp only [Act.put, List.setIfInBounds_toArray, List.set_cons_zero, List.set_cons_succ]
    refine wpAnyH_take (i := 4) (oi := { dst := _, op := _, type := _, pos := _, after := _, guard := _ }) (v := ?_) rfl (by kernel_rfl) (by kernel_rfl) (by kernel_rfl) (fun _ _ _ h => h) (Or.inl ⟨by rfl, ?_⟩) hH ?_
    rotate_left
    · intro w9 hSw
      try dsimp only at hSw
      obtain ⟨s0, s1⟩ := hSw
      go_simp
      try with_reducible rfl
    try simp only [Act.put, List.setIfInBounds_toArray, List.set_cons_zero, List.set_cons_succ]
    refine wpAnyH_take (i := 5) (oi := { dst := _, op := _, type := _, pos := _, after := _, guard := _ }) (v := ?_) rfl (by kernel_rfl) (by kernel_rfl) (by kernel_rfl) (fun _ _ _ h => h) (Or.inl ⟨by rfl, ?_⟩) hH ?_
    rotate_left
    · intro w9 hSw
      try dsimp only at hSw
      obtain ⟨s0, s1⟩ := hSw
      go_simp
      try with_reducible rfl
    try simp only [Act.put, List.setIfInBounds_toArray, List.set_cons_zero, List.set_cons_succ]
    refine wpAnyH_ready (rs := [6]) (by kernel_rfl) (by simp) ?_
    refine AllReadyH.cons rfl (fun K hK => ?_) AllReadyH.nil
    go_simp
    go_at_call 23
    refine (laws_likeTables9 _ _ X X _ (hx.now hD9).lst (hy.now hD9).lst).mono ?_
    rintro e7 v1 ⟨rfl, hb1⟩
    rw [decide_eq_true rfl]
    have k0_1 := cell_keep (w := w9.drew) k0 hb1
    have k1_1 := cell_keep (w := w9.drew) k1 hb1
    replace hD9 := hD9.trans (Below.mono (w := w9.drew) hb1 hD9.size)
    refine hK.out _ _ ⟨k0_1, k1_1⟩ (fun hH => ?_)
    clear hK K
    try simp only [Act.put, List.setIfInBounds_toArray, List.set_cons_zero, List.set_cons_succ]
    refine wpAnyH_take (i := 7) (oi := { dst := _, op := _, type := _, pos := _, after := _, guard := _ }) (v := ?_) rfl (by kernel_rfl) (by kernel_rfl) (by kernel_rfl) (fun _ _ _ h => h) (Or.inl ⟨by rfl, ?_⟩) hH ?_
    rotate_left
    · intro w9 hSw
      try dsimp only at hSw
      obtain ⟨s0, s1⟩ := hSw
      go_simp
      try with_reducible rfl
    try simp only [Act.put, List.setIfInBounds_toArray, List.set_cons_zero, List.set_cons_succ]
    refine wpAnyH_take (i := 8) (oi := { dst := _, op := _, type := _, pos := _, after := _, guard := _ }) (v := ?_) rfl (by kernel_rfl) (by kernel_rfl) (by kernel_rfl) (fun _ _ _ h => h) (Or.inl ⟨by rfl, ?_⟩) hH ?_
    rotate_left
    · intro w9 hSw
      try dsimp only at hSw
      obtain ⟨s0, s1⟩ := hSw
      go_simp
      try with_reducible rfl
    try simp only [Act.put, List.setIfInBounds_toArray, List.set_cons_zero, List.set_cons_succ]
    refine wpAnyH_take (i := 9) (oi := { dst := _, op := _, type := _, pos := _, after := _, guard := _ }) (v := ?_) rfl (by kernel_rfl) (by kernel_rfl) (by kernel_rfl) (fun _ _ _ h => h) (Or.inl ⟨by rfl, ?_⟩) hH ?_
    rotate_left
    · intro w9 hSw
      try dsimp only at hSw
      obtain ⟨s0, s1⟩ := hSw
      go_simp
      try with_reducible rfl
    try simp only [Act.put, List.setIfInBounds_toArray, List.set_cons_zero, List.set_cons_succ]
    refine wpAnyH_take (i := 10) (oi := { dst := _, op := _, type := _, pos := _, after := _, guard := _ }) (v := ?_) rfl (by kernel_rfl) (by kernel_rfl) (by kernel_rfl) (fun _ _ _ h => h) (Or.inl ⟨by rfl, ?_⟩) hH ?_
    rotate_left
    · intro w9 hSw
      try dsimp only at hSw
      obtain ⟨s0, s1⟩ := hSw
      go_simp
      try with_reducible rfl
    try simp only [Act.put, List.setIfInBounds_toArray, List.set_cons_zero, List.set_cons_succ]
    refine wpAnyH_take (i := 11) (oi := { dst := _, op := _, type := _, pos := _, after := _, guard := _ }) (v := ?_) rfl (by kernel_rfl) (by kernel_rfl) (by kernel_rfl) (fun _ _ _ h => h) (Or.inl ⟨by rfl, ?_⟩) hH ?_
    rotate_left
    · intro w9 hSw
      try dsimp only at hSw
      obtain ⟨s0, s1⟩ := hSw
      go_simp
      try with_reducible rfl
    try simp only [Act.put, List.setIfInBounds_toArray, List.set_cons_zero, List.set_cons_succ]
    refine wpAnyH_take (i := 12) (oi := { dst := _, op := _, type := _, pos := _, after := _, guard := _ }) (v := ?_) rfl (by kernel_rfl) (by kernel_rfl) (by kernel_rfl) (fun _ _ _ h => h) (Or.inl ⟨by rfl, ?_⟩) hH ?_
    rotate_left
    · intro w9 hSw
      try dsimp only at hSw
      obtain ⟨s0, s1⟩ := hSw
      go_simp
      try with_reducible rfl
    try simp only [Act.put, List.setIfInBounds_toArray, List.set_cons_zero, List.set_cons_succ]
    refine wpAnyH_take (i := 13) (oi := { dst := _, op := _, type := _, pos := _, after := _, guard := _ }) (v := ?_) rfl (by kernel_rfl) (by kernel_rfl) (by kernel_rfl) (fun _ _ _ h => h) (Or.inl ⟨by rfl, ?_⟩) hH ?_
    rotate_left
    · intro w9 hSw
      try dsimp only at hSw
      obtain ⟨s0, s1⟩ := hSw
      go_simp
      try with_reducible rfl
    try simp only [Act.put, List.setIfInBounds_toArray, List.set_cons_zero, List.set_cons_succ]
    refine wpAnyH_take (i := 14) (oi := { dst := _, op := _, type := _, pos := _, after := _, guard := _ }) (v := ?_) rfl (by kernel_rfl) (by kernel_rfl) (by kernel_rfl) (fun _ _ _ h => h) (Or.inl ⟨by rfl, ?_⟩) hH ?_
    rotate_left
    · intro w9 hSw
      try dsimp only at hSw
      obtain ⟨s0, s1⟩ := hSw
      go_simp
      try with_reducible rfl
    try simp only [Act.put, List.setIfInBounds_toArray, List.set_cons_zero, List.set_cons_succ]
    refine wpAnyH_take (i := 15) (oi := { dst := _, op := _, type := _, pos := _, after := _, guard := _ }) (v := ?_) rfl (by kernel_rfl) (by kernel_rfl) (by kernel_rfl) (fun _ _ _ h => h) (Or.inl ⟨by rfl, ?_⟩) hH ?_
    rotate_left
    · intro w9 hSw
      try dsimp only at hSw
      obtain ⟨s0, s1⟩ := hSw
      go_simp
      try with_reducible rfl
    try simp only [Act.put, List.setIfInBounds_toArray, List.set_cons_zero, List.set_cons_succ]
    refine wpAnyH_take (i := 16) (oi := { dst := _, op := _, type := _, pos := _, after := _, guard := _ }) (v := ?_) rfl (by kernel_rfl) (by kernel_rfl) (by kernel_rfl) (fun _ _ _ h => h) (Or.inl ⟨by rfl, ?_⟩) hH ?_
    rotate_left
    · intro w9 hSw
      try dsimp only at hSw
      obtain ⟨s0, s1⟩ := hSw
      go_simp
      try with_reducible rfl
    try simp only [Act.put, List.setIfInBounds_toArray, List.set_cons_zero, List.set_cons_succ]
    refine wpAnyH_take (i := 17) (oi := { dst := _, op := _, type := _, pos := _, after := _, guard := _ }) (v := ?_) rfl (by kernel_rfl) (by kernel_rfl) (by kernel_rfl) (fun _ _ _ h => h) (Or.inl ⟨by rfl, ?_⟩) hH ?_
    rotate_left
    · intro w9 hSw
      try dsimp only at hSw
      obtain ⟨s0, s1⟩ := hSw
      go_simp
      try with_reducible rfl
    try simp only [Act.put, List.setIfInBounds_toArray, List.set_cons_zero, List.set_cons_succ]
    refine wpAnyH_take (i := 18) (oi := { dst := _, op := _, type := _, pos := _, after := _, guard := _ }) (v := ?_) rfl (by kernel_rfl) (by kernel_rfl) (by kernel_rfl) (fun _ _ _ h => h) (Or.inl ⟨by rfl, ?_⟩) hH ?_
    rotate_left
    · intro w9 hSw
      try dsimp only at hSw
      obtain ⟨s0, s1⟩ := hSw
      go_simp
      try with_reducible rfl
    try simp only [Act.put, List.setIfInBounds_toArray, List.set_cons_zero, List.set_cons_succ]
    refine wpAnyH_take (i := 19) (oi := { dst := _, op := _, type := _, pos := _, after := _, guard := _ }) (v := ?_) rfl (by kernel_rfl) (by kernel_rfl) (by kernel_rfl) (fun _ _ _ h => h) (Or.inl ⟨by rfl, ?_⟩) hH ?_
    rotate_left
    · intro w9 hSw
      try dsimp only at hSw
      obtain ⟨s0, s1⟩ := hSw
      go_simp
      try with_reducible rfl
    try simp only [Act.put, List.setIfInBounds_toArray, List.set_cons_zero, List.set_cons_succ]
    refine wpAnyH_take (i := 20) (oi := { dst := _, op := _, type := _, pos := _, after := _, guard := _ }) (v := ?_) rfl (by kernel_rfl) (by kernel_rfl) (by kernel_rfl) (fun _ _ _ h => h) (Or.inl ⟨by rfl, ?_⟩) hH ?_
    rotate_left
    · intro w9 hSw
      try dsimp only at hSw
      obtain ⟨s0, s1⟩ := hSw
      go_simp
      try with_reducible rfl
    try simp only [Act.put, List.setIfInBounds_toArray, List.set_cons_zero, List.set_cons_succ]
    refine wpAnyH_take (i := 21) (oi := { dst := _, op := _, type := _, pos := _, after := _, guard := _ }) (v := ?_) rfl (by kernel_rfl) (by kernel_rfl) (by kernel_rfl) (fun _ _ _ h => h) (Or.inl ⟨by rfl, ?_⟩) hH ?_
    rotate_left
    · intro w9 hSw
      try dsimp only at hSw
      obtain ⟨s0, s1⟩ := hSw
      go_simp
      try with_reducible rfl
    try simp only [Act.put, List.setIfInBounds_toArray, List.set_cons_zero, List.set_cons_succ]
    refine wpAnyH_take (i := 23) (oi := { dst := _, op := _, type := _, pos := _, after := _, guard := _ }) (v := ?_) rfl (by kernel_rfl) (by kernel_rfl) (by kernel_rfl) (fun _ _ _ h => h) (Or.inl ⟨by rfl, ?_⟩) hH ?_
    rotate_left
    · intro w9 hSw
      try dsimp only at hSw
      obtain ⟨s0, s1⟩ := hSw
      go_simp
      try with_reducible rfl
    try simp only [Act.put, List.setIfInBounds_toArray, List.set_cons_zero, List.set_cons_succ]
    refine wpAnyH_take (i := 24) (oi := { dst := _, op := _, type := _, pos := _, after := _, guard := _ }) (v := ?_) rfl (by kernel_rfl) (by kernel_rfl) (by kernel_rfl) (fun _ _ _ h => h) (Or.inl ⟨by rfl, ?_⟩) hH ?_
    rotate_left
    · intro w9 hSw
      try dsimp only at hSw
      obtain ⟨s0, s1⟩ := hSw
      go_simp
      try with_reducible rfl
    try simp only [Act.put, List.setIfInBounds_toArray, List.set_cons_zero, List.set_cons_succ]
    refine wpAnyH_ready (rs := [22]) (by kernel_rfl) (by simp) ?_
    refine AllReadyH.cons rfl (fun K hK => ?_) AllReadyH.nil
    go_simp
    go_at_call 24
    refine (impl_IsFiringTable _ ke kp _ T _ (hO3.now hD9).lst (hT.now hD9).lst).mono ?_
    rintro e7 v2 ⟨rfl, hb2⟩
    rw [hRH.out]
    have k0_2 := cell_keep (w := v1) k0_1 hb2
    have k1_2 := cell_keep (w := v1) k1_1 hb2
    replace hD9 := hD9.trans (Below.mono (w := v1) hb2 hD9.size)
    refine hK.out _ _ ⟨k0_2, k1_2⟩ (fun hH => ?_)
    clear hK K
    try simp only [Act.put, List.setIfInBounds_toArray, List.set_cons_zero, List.set_cons_succ]
    refine wpAnyH_ready (rs := [25]) (by kernel_rfl) (by simp) ?_
    refine AllReadyH.cons rfl (fun K hK => ?_) AllReadyH.nil
    go_simp
    go_at_call 25
    refine (spec_IsFiringTable _ ke kp _ T _ (hO3.now hD9).lst (hT.now hD9).lst).mono ?_
    rintro e7 v3 ⟨rfl, hb3⟩
    rw [hRH.out]
    have k0_3 := cell_keep (w := v2) k0_2 hb3
    have k1_3 := cell_keep (w := v2) k1_2 hb3
    replace hD9 := hD9.trans (Below.mono (w := v2) hb3 hD9.size)
    refine hK.out _ _ ⟨k0_3, k1_3⟩ (fun hH => ?_)
    clear hK K
    try simp only [Act.put, List.setIfInBounds_toArray, List.set_cons_zero, List.set_cons_succ]
    refine wpAnyH_take (i := 26) (oi := { dst := _, op := _, type := _, pos := _, after := _, guard := _ }) (v := ?_) rfl (by kernel_rfl) (by kernel_rfl) (by kernel_rfl) (fun _ _ _ h => h) (Or.inl ⟨by rfl, ?_⟩) hH ?_
    rotate_left
    · intro w9 hSw
      try dsimp only at hSw
      obtain ⟨s0, s1⟩ := hSw
      go_simp
      try with_reducible rfl
    try simp only [Act.put, List.setIfInBounds_toArray, List.set_cons_zero, List.set_cons_succ]
    refine wpAnyH_take (i := 27) (oi := { dst := _, op := _, type := _, pos := _, after := _, guard := _ }) (v := ?_) rfl (by kernel_rfl) (by kernel_rfl) (by kernel_rfl) (fun _ _ _ h => h) (Or.inl ⟨by rfl, ?_⟩) hH ?_
    rotate_left
    · intro w9 hSw
      try dsimp only at hSw
      obtain ⟨s0, s1⟩ := hSw
      go_simp
      try with_reducible rfl
    try simp only [Act.put, List.setIfInBounds_toArray, List.set_cons_zero, List.set_cons_succ]
    refine wpAnyH_take (i := 28) (oi := { dst := _, op := _, type := _, pos := _, after := _, guard := _ }) (v := ?_) rfl (by kernel_rfl) (by kernel_rfl) (by kernel_rfl) (fun _ _ _ h => h) (Or.inl ⟨by rfl, ?_⟩) hH ?_
    rotate_left
    · intro w9 hSw
      try dsimp only at hSw
      obtain ⟨s0, s1⟩ := hSw
      go_simp
      try with_reducible rfl
    try simp only [Act.put, List.setIfInBounds_toArray, List.set_cons_zero, List.set_cons_succ]
    refine wpAnyH_take (i := 29) (oi := { dst := _, op := _, type := _, pos := _, after := _, guard := _ }) (v := ?_) rfl (by kernel_rfl) (by kernel_rfl) (by kernel_rfl) (fun _ _ _ h => h) (Or.inl ⟨by rfl, ?_⟩) hH ?_
    rotate_left
    · intro w9 hSw
      try dsimp only at hSw
      obtain ⟨s0, s1⟩ := hSw
      go_simp
      try with_reducible rfl
    try simp only [Act.put, List.setIfInBounds_toArray, List.set_cons_zero, List.set_cons_succ]
    refine wpAnyH_take (i := 30) (oi := { dst := _, op := _, type := _, pos := _, after := _, guard := _ }) (v := ?_) rfl (by kernel_rfl) (by kernel_rfl) (by kernel_rfl) (fun _ _ _ h => h) (Or.inl ⟨by rfl, ?_⟩) hH ?_
    rotate_left
    · intro w9 hSw
      try dsimp only at hSw
      obtain ⟨s0, s1⟩ := hSw
      go_simp
      try with_reducible rfl
    try simp only [Act.put, List.setIfInBounds_toArray, List.set_cons_zero, List.set_cons_succ]
    refine wpAnyH_take (i := 31) (oi := { dst := _, op := _, type := _, pos := _, after := _, guard := _ }) (v := ?_) rfl (by kernel_rfl) (by kernel_rfl) (by kernel_rfl) (fun _ _ _ h => h) (Or.inl ⟨by rfl, ?_⟩) hH ?_
    rotate_left
    · intro w9 hSw
      try dsimp only at hSw
      obtain ⟨s0, s1⟩ := hSw
      go_simp
      try with_reducible rfl
    try simp only [Act.put, List.setIfInBounds_toArray, List.set_cons_zero, List.set_cons_succ]
    refine wpAnyH_take (i := 32) (oi := { dst := _, op := _, type := _, pos := _, after := _, guard := _ }) (v := ?_) rfl (by kernel_rfl) (by kernel_rfl) (by kernel_rfl) (fun _ _ _ h => h) (Or.inl ⟨by rfl, ?_⟩) hH ?_
    rotate_left
    · intro w9 hSw
      try dsimp only at hSw
      obtain ⟨s0, s1⟩ := hSw
      go_simp
      try with_reducible rfl
    try simp only [Act.put, List.setIfInBounds_toArray, List.set_cons_zero, List.set_cons_succ]
    refine wpAnyH_take (i := 33) (oi := { dst := _, op := _, type := _, pos := _, after := _, guard := _ }) (v := ?_) rfl (by kernel_rfl) (by kernel_rfl) (by kernel_rfl) (fun _ _ _ h => h) (Or.inl ⟨by rfl, ?_⟩) hH ?_
    rotate_left
    · intro w9 hSw
      try dsimp only at hSw
      obtain ⟨s0, s1⟩ := hSw
      go_simp
      try with_reducible rfl
    try simp only [Act.put, List.setIfInBounds_toArray, List.set_cons_zero, List.set_cons_succ]
    refine wpAnyH_take (i := 34) (oi := { dst := _, op := _, type := _, pos := _, after := _, guard := _ }) (v := ?_) rfl (by kernel_rfl) (by kernel_rfl) (by kernel_rfl) (fun _ _ _ h => h) (Or.inl ⟨by rfl, ?_⟩) hH ?_
    rotate_left
    · intro w9 hSw
      try dsimp only at hSw
      obtain ⟨s0, s1⟩ := hSw
      go_simp
      try with_reducible rfl
    try simp only [Act.put, List.setIfInBounds_toArray, List.set_cons_zero, List.set_cons_succ]
    refine wpAnyH_take (i := 35) (oi := { dst := _, op := _, type := _, pos := _, after := _, guard := _ }) (v := ?_) rfl (by kernel_rfl) (by kernel_rfl) (by kernel_rfl) (fun _ _ _ h => h) (Or.inl ⟨by rfl, ?_⟩) hH ?_
    rotate_left
    · intro w9 hSw
      try dsimp only at hSw
      obtain ⟨s0, s1⟩ := hSw
      go_simp
      try with_reducible rfl
    try simp only [Act.put, List.setIfInBounds_toArray, List.set_cons_zero, List.set_cons_succ]
    refine wpAnyH_ready (rs := [36]) (by kernel_rfl) (by simp) ?_
    refine AllReadyH.cons rfl (fun K hK => ?_) AllReadyH.nil
    go_simp
    go_at_call 26
    refine (laws_likeInts _ _ W W _ (hz.now hD9).lst (hq9.now hD9).lst).mono ?_
    rintro e7 v4 ⟨rfl, hb4⟩
    rw [decide_eq_true rfl]
    have k0_4 := cell_keep (w := v3) k0_3 hb4
    have k1_4 := cell_keep (w := v3) k1_3 hb4
    replace hD9 := hD9.trans (Below.mono (w := v3) hb4 hD9.size)
    refine hK.out _ _ ⟨k0_4, k1_4⟩ (fun hH => ?_)
    clear hK K
    try simp only [Act.put, List.setIfInBounds_toArray, List.set_cons_zero, List.set_cons_succ]
    refine wpAnyH_take (i := 37) (oi := { dst := _, op := _, type := _, pos := _, after := _, guard := _ }) (v := ?_) rfl (by kernel_rfl) (by kernel_rfl) (by kernel_rfl) (fun _ _ _ h => h) (Or.inl ⟨by rfl, ?_⟩) hH ?_
    rotate_left
    · intro w9 hSw
      try dsimp only at hSw
      obtain ⟨s0, s1⟩ := hSw
      go_simp
      try with_reducible rfl
    try simp only [Act.put, List.setIfInBounds_toArray, List.set_cons_zero, List.set_cons_succ]
    refine wpAnyH_take (i := 38) (oi := { dst := _, op := _, type := _, pos := _, after := _, guard := _ }) (v := ?_) rfl (by kernel_rfl) (by kernel_rfl) (by kernel_rfl) (fun _ _ _ h => h) (Or.inl ⟨by rfl, ?_⟩) hH ?_
    rotate_left
    · intro w9 hSw
      try dsimp only at hSw
      obtain ⟨s0, s1⟩ := hSw
      go_simp
      try with_reducible rfl
    try simp only [Act.put, List.setIfInBounds_toArray, List.set_cons_zero, List.set_cons_succ]
    refine wpAnyH_done (by kernel_rfl) ?_ _
    clear hH k0 k1 k0_1 k1_1 k0_2 k1_2 k0_3 k1_3 k0_4 k1_4 hqd hq1 hq2 hq3 hqR l0 hO3 hT hbox3 hy hq9
    replace hO1 := hO1.now hD9
    replace hx := hx.now hD9
    replace hz := hz.now hD9
    replace hbox1 := hbox1.now hD9
    replace hB := hB.trans (hD9.mono hB.size)
    obtain ⟨wb, rfl⟩ : ∃ wb : World, wb = v4 := ⟨_, rfl⟩
    clear hD9 hRH
    by_cases hc0 : cd = 0
    · subst hc0
      obtain ⟨n, m, rfl, rfl, hn10, hm50, hgl, hpl, hXl, hXr, hXb, hfix, hup, ⟨W1, hW1, hWn⟩, htab⟩ := fir_law hFH.out
      have hWW : (W, wd) = (W1, 0) := by rw [← hH1H.out, ← hW1]
      obtain ⟨rfl, rfl⟩ : W = W1 ∧ wd = 0 := ⟨congrArg Prod.fst hWW, congrArg Prod.snd hWW⟩
      have hplH := Lib.hid hpl
      have hXlH := Lib.hid hXl
      have hXrH := Lib.hid hXr
      have hXbH := Lib.hid hXb
      have hfixH := Lib.hid hfix
      have hupH := Lib.hid hup
      have hWnH := Lib.hid hWn
      have htabH := Lib.hid htab
      have hX50 : X.length ≤ 50 := by omega
      have hzl := hz.lst.len_le
      clear hpl hXl hXr hXb hfix hup hWn htab hWW hW1 hH1H hFH
      go_wp2
      go_loopw [22, 23, 24, 25, 26] (fun r _ _ _ _ wr => ∃ j : Nat, j ≤ m ∧ r = .int .i64 ((j : Int) + 1) ∧ Below wb.heap.size wb wr) (fun r _ _ _ _ _ => m + 1 - (intOf r).toNat)
      case atStart => exact ⟨0, Nat.zero_le _, rfl, Below.refl _ _⟩
      case round =>
        obtain ⟨j, hj, rfl, hBr⟩ := hrel
        obtain ⟨wd, rfl⟩ : ∃ wd : World, wd = wr := ⟨_, rfl⟩
        by_cases hlt : j < m
        · have hltI : (j : Int) + 1 ≤ (m : Int) := by omega
          go_wp2
          go_loopw [23, 24, 25, 26] (fun ev _ _ _ wr => ∃ e : Nat, e ≤ n ∧ ev = .int .i64 e ∧ Below wb.heap.size wb wr) (fun ev _ _ _ _ => n - (intOf ev).toNat)
          case atStart => exact ⟨0, Nat.zero_le _, rfl, hBr⟩
          case round =>
            clear hBr
            obtain ⟨e, he, rfl, hBr⟩ := hrel
            obtain ⟨we, rfl⟩ : ∃ we : World, we = wr := ⟨_, rfl⟩
            obtain ⟨k0, k1⟩ := (hbox1.now hBr).c2
            have l0 := (hbox1.now hBr).lt
            by_cases hlt2 : e < n
            · have hlt2I : (e : Int) < (n : Int) := by omega
              go_wp2
              clear k0 k1 l0
              go_loopw [24, 25, 26] (fun lv iv _ wr => ∃ i : Nat, i ≤ gp.length ∧ iv = .int .i64 i ∧ lv = .int .i64 (fixK (gp.take i) (getT X) j e 0) ∧ Below wb.heap.size wb wr) (fun _ iv _ _ => gp.length - (intOf iv).toNat)
              case atStart => exact ⟨0, Nat.zero_le _, rfl, by simp [fixK], hBr⟩
              case round =>
                clear hBr
                obtain ⟨i, hi, rfl, rfl, hBr⟩ := hrel
                obtain ⟨k0, k1⟩ := (hbox1.now hBr).c2
                have l0 := (hbox1.now hBr).lt
                by_cases hlt3 : i < gp.length
                · obtain ⟨pb, po, hPA, _, d0, d1, d2, d3⟩ := places_at (hO1.now hBr).lst i hlt3
                  cases hPA
                  have hp := hplH.out _ (List.getElem_mem hlt3)
                  have hs := fixK_succ gp (getT X) j e 0 i hlt3
                  obtain ⟨⟨sr, dr, dl, tk⟩, hpe⟩ : ∃ p, gp[i] = p := ⟨_, rfl⟩
                  rw [hpe] at d0 d1 d2 d3 hp hs
                  simp only at d0 d1 d2 d3 hp
                  unfold stepK at hs
                  simp only at hs
                  obtain ⟨L0, hL0⟩ : ∃ L0, fixK (gp.take i) (getT X) j e 0 = L0 := ⟨_, rfl⟩
                  rw [hL0] at hs ⊢
                  clear hL0 hpe
                  have i1 : (i : Int) < (gp.length : Int) := by omega
                  have wt : IntKind.i64.wrap ((j : Int) + 1 - tk) = (j : Int) + 1 - tk := IntWalk.i64_in _ (by omega)
                  have hZ : Below wr.heap.size wr (wr.alloc (.cells #[.int .i64 sr, .int .i64 dr, .int .i64 dl, .int .i64 tk] 45)) := (Below.refl _ _).alloc (Nat.le_refl _) _
                  have hBZ := Lib.hid (hBr.trans (hZ.mono hBr.size))
                  by_cases hm : dr = (e : Int) ∧ tk ≤ (j : Int)
                  · obtain ⟨rfl, htk⟩ := hm
                    rw [if_pos ⟨rfl, htk⟩] at hs
                    obtain ⟨s, rfl⟩ := Int.eq_ofNat_of_zero_le hp.1.1
                    obtain ⟨t, rfl⟩ := Int.eq_ofNat_of_zero_le hp.2.2.2.1
                    rw [Int.toNat_natCast, Int.toNat_natCast, max_ifG] at hs
                    have hsn : s < n := by have := hp.1.2; omega
                    have htj : t ≤ j := by omega
                    obtain ⟨d, hd⟩ : ∃ d, j - t = d := ⟨_, rfl⟩
                    rw [hd] at hs
                    have hdX : d < X.length := by rw [hXlH.out]; omega
                    have hRl := hXrH.out _ (List.getElem_mem hdX)
                    have hsX : s < X[d].length := by rw [hRl]; exact hsn
                    have hxb := hXbH.out d s
                    rw [getT_eq hdX hsX] at hs hxb
                    obtain ⟨xb, xo, cx', r, hxv, _, z0, hr⟩ := (hx.now hBr).lst.row d hdX
                    obtain ⟨R, rn, rc⟩ := r
                    simp only [Ref.val] at z0 hr
                    obtain ⟨A4, c4, hv1⟩ := hr.shape
                    obtain ⟨rfl, rfl, rfl⟩ : R = A4 ∧ rn = X[d].length ∧ rc = c4 := by injection hv1 with a1 a2 a3; exact ⟨a1, a2, a3⟩
                    obtain ⟨rb, ro, hRA, _, z1⟩ := ints_at hr s hsX
                    subst hRA
                    cases hxv
                    rw [hRl] at z0
                    obtain ⟨xv, hxe⟩ : ∃ xv, X[d][s] = xv := ⟨_, rfl⟩
                    rw [hxe] at z1 hs hxb
                    replace z0 := cell_keep z0 hZ
                    replace z1 := cell_keep z1 hZ
                    have hsH := Lib.hid hs
                    clear hs hxe hr hv1 hRl
                    have j1 : (0 : Int) ≤ (d : Int) := by omega
                    have j2 : (d : Int) < (X.length : Int) := by omega
                    have j3 : (0 : Int) ≤ (s : Int) := by omega
                    have j4 : (s : Int) < (n : Int) := by omega
                    have j5 : (1 : Int) ≤ (j : Int) + 1 - (t : Int) := by omega
                    have we1 : IntKind.i64.wrap ((j : Int) + 1 - (t : Int) - 1) = (d : Int) := (IntWalk.i64_in _ (by omega)).trans (by omega)
                    have we2 : IntKind.i64.wrap (d : Int) = (d : Int) := IntWalk.i64_in _ (by omega)
                    have we3 : IntKind.i64.wrap (xv + dl) = xv + dl := IntWalk.i64_in _ (by have := hp.2.2.1; omega)
                    have hbp := Blk.newAt wr (t := 45) (cs := #[.int .i64 (s : Nat), .int .i64 (e : Nat), .int .i64 dl, .int .i64 (t : Nat)]) _ rfl
                    clear hp hxb hd hdX hsX hsn htj htk hBr
                    by_cases hmx : L0 < xv + dl
                    · go_wp2_with fail
                      obtain ⟨b0, b1, b2', b3⟩ := hbp.c4
                      have hBd : Below (wr.alloc (.cells #[.int .i64 (s : Nat), .int .i64 (e : Nat), .int .i64 dl, .int .i64 (t : Nat)] 45)).heap.size (wr.alloc (.cells #[.int .i64 (s : Nat), .int .i64 (e : Nat), .int .i64 dl, .int .i64 (t : Nat)] 45)) (wr.alloc (.cells #[.int .i64 (s : Nat), .int .i64 (e : Nat), .int .i64 dl, .int .i64 (t : Nat)] 45)).drew := Below.drew (Below.refl _ _)
                      have y0 := cell_keep z0 hBd
                      have y1 := cell_keep z1 hBd
                      have y2 := cell_keep b0 hBd
                      have y3 := cell_keep b2' hBd
                      have y4 := cell_keep b3 hBd
                      have hBf := hBZ.out.trans (hBd.mono hBZ.out.size)
                      clear b0 b1 b2' b3 z0 z1 hBd
                      refine wp_region_held_drew (S := fun w' => w'.cell? ⟨xb, xo + d, none⟩ = some (.slice (some ⟨rb, ro, none⟩) n rc) ∧ w'.cell? ⟨rb, ro + s, none⟩ = some (.int .i64 xv) ∧ w'.cell? ⟨wr.heap.size, 0, none⟩ = some (.int .i64 (s : Nat)) ∧ w'.cell? ⟨wr.heap.size, 2, none⟩ = some (.int .i64 dl) ∧ w'.cell? ⟨wr.heap.size, 3, none⟩ = some (.int .i64 (t : Nat))) (by kernel_rfl) ⟨y0, y1, y2, y3, y4⟩ (fun hH => ?_)
                      refine wpAnyH_take (i := 0) (oi := { dst := _, op := _, type := _, pos := _, after := _, guard := _ }) (v := ?_) rfl (by kernel_rfl) (by kernel_rfl) (by kernel_rfl) (fun _ _ _ h => h) (Or.inl ⟨by rfl, ?_⟩) hH ?_
                      rotate_left
                      · intro w9 hSw
                        try dsimp only at hSw
                        obtain ⟨s0, s1, s2, s3, s4⟩ := hSw
                        go_simp
                        try with_reducible rfl
                      try simp only [Act.put, List.setIfInBounds_toArray, List.set_cons_zero, List.set_cons_succ]
                      refine wpAnyH_take (i := 1) (oi := { dst := _, op := _, type := _, pos := _, after := _, guard := _ }) (v := ?_) rfl (by kernel_rfl) (by kernel_rfl) (by kernel_rfl) (fun _ _ _ h => h) (Or.inl ⟨by rfl, ?_⟩) hH ?_
                      rotate_left
                      · intro w9 hSw
                        try dsimp only at hSw
                        obtain ⟨s0, s1, s2, s3, s4⟩ := hSw
                        go_simp
                        try with_reducible rfl
                      try simp only [Act.put, List.setIfInBounds_toArray, List.set_cons_zero, List.set_cons_succ]
                      refine wpAnyH_take (i := 2) (oi := { dst := _, op := _, type := _, pos := _, after := _, guard := _ }) (v := ?_) rfl (by kernel_rfl) (by kernel_rfl) (by kernel_rfl) (fun _ _ _ h => h) (Or.inl ⟨by rfl, ?_⟩) hH ?_
                      rotate_left
                      · intro w9 hSw
                        try dsimp only at hSw
                        obtain ⟨s0, s1, s2, s3, s4⟩ := hSw
                        go_simp
                        try with_reducible rfl
                      try simp only [Act.put, List.setIfInBounds_toArray, List.set_cons_zero, List.set_cons_succ]
                      refine wpAnyH_take (i := 3) (oi := { dst := _, op := _, type := _, pos := _, after := _, guard := _ }) (v := ?_) rfl (by kernel_rfl) (by kernel_rfl) (by kernel_rfl) (fun _ _ _ h => h) (Or.inl ⟨by rfl, ?_⟩) hH ?_
                      rotate_left
                      · intro w9 hSw
                        try dsimp only at hSw
                        obtain ⟨s0, s1, s2, s3, s4⟩ := hSw
                        go_simp
                        try with_reducible rfl
                      try simp only [Act.put, List.setIfInBounds_toArray, List.set_cons_zero, List.set_cons_succ]
                      refine wpAnyH_take (i := 4) (oi := { dst := _, op := _, type := _, pos := _, after := _, guard := _ }) (v := ?_) rfl (by kernel_rfl) (by kernel_rfl) (by kernel_rfl) (fun _ _ _ h => h) (Or.inl ⟨by rfl, ?_⟩) hH ?_
                      rotate_left
                      · intro w9 hSw
                        try dsimp only at hSw
                        obtain ⟨s0, s1, s2, s3, s4⟩ := hSw
                        go_simp
                        try with_reducible rfl
                      try simp only [Act.put, List.setIfInBounds_toArray, List.set_cons_zero, List.set_cons_succ]
                      refine wpAnyH_take (i := 5) (oi := { dst := _, op := _, type := _, pos := _, after := _, guard := _ }) (v := ?_) rfl (by kernel_rfl) (by kernel_rfl) (by kernel_rfl) (fun _ _ _ h => h) (Or.inl ⟨by rfl, ?_⟩) hH ?_
                      rotate_left
                      · intro w9 hSw
                        try dsimp only at hSw
                        obtain ⟨s0, s1, s2, s3, s4⟩ := hSw
                        go_simp
                        try with_reducible rfl
                      try simp only [Act.put, List.setIfInBounds_toArray, List.set_cons_zero, List.set_cons_succ]
                      refine wpAnyH_take (i := 6) (oi := { dst := _, op := _, type := _, pos := _, after := _, guard := _ }) (v := ?_) rfl (by kernel_rfl) (by kernel_rfl) (by kernel_rfl) (fun _ _ _ h => h) (Or.inl ⟨by rfl, ?_⟩) hH ?_
                      rotate_left
                      · intro w9 hSw
                        try dsimp only at hSw
                        obtain ⟨s0, s1, s2, s3, s4⟩ := hSw
                        go_simp
                        try with_reducible rfl
                      try simp only [Act.put, List.setIfInBounds_toArray, List.set_cons_zero, List.set_cons_succ]
                      refine wpAnyH_take (i := 7) (oi := { dst := _, op := _, type := _, pos := _, after := _, guard := _ }) (v := ?_) rfl (by kernel_rfl) (by kernel_rfl) (by kernel_rfl) (fun _ _ _ h => h) (Or.inl ⟨by rfl, ?_⟩) hH ?_
                      rotate_left
                      · intro w9 hSw
                        try dsimp only at hSw
                        obtain ⟨s0, s1, s2, s3, s4⟩ := hSw
                        go_simp
                        try with_reducible rfl
                      try simp only [Act.put, List.setIfInBounds_toArray, List.set_cons_zero, List.set_cons_succ]
                      refine wpAnyH_take (i := 8) (oi := { dst := _, op := _, type := _, pos := _, after := _, guard := _ }) (v := ?_) rfl (by kernel_rfl) (by kernel_rfl) (by kernel_rfl) (fun _ _ _ h => h) (Or.inl ⟨by rfl, ?_⟩) hH ?_
                      rotate_left
                      · intro w9 hSw
                        try dsimp only at hSw
                        obtain ⟨s0, s1, s2, s3, s4⟩ := hSw
                        go_simp
                        try with_reducible rfl
                      try simp only [Act.put, List.setIfInBounds_toArray, List.set_cons_zero, List.set_cons_succ]
                      refine wpAnyH_take (i := 9) (oi := { dst := _, op := _, type := _, pos := _, after := _, guard := _ }) (v := ?_) rfl (by kernel_rfl) (by kernel_rfl) (by kernel_rfl) (fun _ _ _ h => h) (Or.inl ⟨by rfl, ?_⟩) hH ?_
                      rotate_left
                      · intro w9 hSw
                        try dsimp only at hSw
                        obtain ⟨s0, s1, s2, s3, s4⟩ := hSw
                        go_simp
                        try with_reducible rfl
                      try simp only [Act.put, List.setIfInBounds_toArray, List.set_cons_zero, List.set_cons_succ]
                      refine wpAnyH_take (i := 10) (oi := { dst := _, op := _, type := _, pos := _, after := _, guard := _ }) (v := ?_) rfl (by kernel_rfl) (by kernel_rfl) (by kernel_rfl) (fun _ _ _ h => h) (Or.inl ⟨by rfl, ?_⟩) hH ?_
                      rotate_left
                      · intro w9 hSw
                        try dsimp only at hSw
                        obtain ⟨s0, s1, s2, s3, s4⟩ := hSw
                        go_simp
                        try with_reducible rfl
                      try simp only [Act.put, List.setIfInBounds_toArray, List.set_cons_zero, List.set_cons_succ]
                      refine wpAnyH_take (i := 11) (oi := { dst := _, op := _, type := _, pos := _, after := _, guard := _ }) (v := ?_) rfl (by kernel_rfl) (by kernel_rfl) (by kernel_rfl) (fun _ _ _ h => h) (Or.inl ⟨by rfl, ?_⟩) hH ?_
                      rotate_left
                      · intro w9 hSw
                        try dsimp only at hSw
                        obtain ⟨s0, s1, s2, s3, s4⟩ := hSw
                        go_simp
                        try with_reducible rfl
                      try simp only [Act.put, List.setIfInBounds_toArray, List.set_cons_zero, List.set_cons_succ]
                      refine wpAnyH_take (i := 12) (oi := { dst := _, op := _, type := _, pos := _, after := _, guard := _ }) (v := ?_) rfl (by kernel_rfl) (by kernel_rfl) (by kernel_rfl) (fun _ _ _ h => h) (Or.inl ⟨by rfl, ?_⟩) hH ?_
                      rotate_left
                      · intro w9 hSw
                        try dsimp only at hSw
                        obtain ⟨s0, s1, s2, s3, s4⟩ := hSw
                        go_simp
                        try with_reducible rfl
                      try simp only [Act.put, List.setIfInBounds_toArray, List.set_cons_zero, List.set_cons_succ]
                      refine wpAnyH_take (i := 13) (oi := { dst := _, op := _, type := _, pos := _, after := _, guard := _ }) (v := ?_) rfl (by kernel_rfl) (by kernel_rfl) (by kernel_rfl) (fun _ _ _ h => h) (Or.inl ⟨by rfl, ?_⟩) hH ?_
                      rotate_left
                      · intro w9 hSw
                        try dsimp only at hSw
                        obtain ⟨s0, s1, s2, s3, s4⟩ := hSw
                        go_simp
                        try with_reducible rfl
                      try simp only [Act.put, List.setIfInBounds_toArray, List.set_cons_zero, List.set_cons_succ]
                      refine wpAnyH_take (i := 14) (oi := { dst := _, op := _, type := _, pos := _, after := _, guard := _ }) (v := ?_) rfl (by kernel_rfl) (by kernel_rfl) (by kernel_rfl) (fun _ _ _ h => h) (Or.inl ⟨by rfl, ?_⟩) hH ?_
                      rotate_left
                      · intro w9 hSw
                        try dsimp only at hSw
                        obtain ⟨s0, s1, s2, s3, s4⟩ := hSw
                        go_simp
                        try with_reducible rfl
                      try simp only [Act.put, List.setIfInBounds_toArray, List.set_cons_zero, List.set_cons_succ]
                      refine wpAnyH_take (i := 15) (oi := { dst := _, op := _, type := _, pos := _, after := _, guard := _ }) (v := ?_) rfl (by kernel_rfl) (by kernel_rfl) (by kernel_rfl) (fun _ _ _ h => h) (Or.inl ⟨by rfl, ?_⟩) hH ?_
                      rotate_left
                      · intro w9 hSw
                        try dsimp only at hSw
                        obtain ⟨s0, s1, s2, s3, s4⟩ := hSw
                        go_simp
                        try with_reducible rfl
                      try simp only [Act.put, List.setIfInBounds_toArray, List.set_cons_zero, List.set_cons_succ]
                      refine wpAnyH_take (i := 16) (oi := { dst := _, op := _, type := _, pos := _, after := _, guard := _ }) (v := ?_) rfl (by kernel_rfl) (by kernel_rfl) (by kernel_rfl) (fun _ _ _ h => h) (Or.inl ⟨by rfl, ?_⟩) hH ?_
                      rotate_left
                      · intro w9 hSw
                        try dsimp only at hSw
                        obtain ⟨s0, s1, s2, s3, s4⟩ := hSw
                        go_simp
                        try with_reducible rfl
                      try simp only [Act.put, List.setIfInBounds_toArray, List.set_cons_zero, List.set_cons_succ]
                      refine wpAnyH_take (i := 17) (oi := { dst := _, op := _, type := _, pos := _, after := _, guard := _ }) (v := ?_) rfl (by kernel_rfl) (by kernel_rfl) (by kernel_rfl) (fun _ _ _ h => h) (Or.inl ⟨by rfl, ?_⟩) hH ?_
                      rotate_left
                      · intro w9 hSw
                        try dsimp only at hSw
                        obtain ⟨s0, s1, s2, s3, s4⟩ := hSw
                        go_simp
                        try with_reducible rfl
                      try simp only [Act.put, List.setIfInBounds_toArray, List.set_cons_zero, List.set_cons_succ]
                      refine wpAnyH_done (by kernel_rfl) ?_ _
                      go_wp2
                      go_roundw
                      case rel => exact ⟨i + 1, hlt3, by go_num, by rw [hsH.out, if_pos (by omega)], hBf⟩
                      case measure => simp [intOf]; omega
                    · go_wp2_with fail
                      obtain ⟨b0, b1, b2', b3⟩ := hbp.c4
                      have hBd : Below (wr.alloc (.cells #[.int .i64 (s : Nat), .int .i64 (e : Nat), .int .i64 dl, .int .i64 (t : Nat)] 45)).heap.size (wr.alloc (.cells #[.int .i64 (s : Nat), .int .i64 (e : Nat), .int .i64 dl, .int .i64 (t : Nat)] 45)) (wr.alloc (.cells #[.int .i64 (s : Nat), .int .i64 (e : Nat), .int .i64 dl, .int .i64 (t : Nat)] 45)).drew := Below.drew (Below.refl _ _)
                      have y0 := cell_keep z0 hBd
                      have y1 := cell_keep z1 hBd
                      have y2 := cell_keep b0 hBd
                      have y3 := cell_keep b2' hBd
                      have y4 := cell_keep b3 hBd
                      have hBf := hBZ.out.trans (hBd.mono hBZ.out.size)
                      clear b0 b1 b2' b3 z0 z1 hBd
                      refine wp_region_held_drew (S := fun w' => w'.cell? ⟨xb, xo + d, none⟩ = some (.slice (some ⟨rb, ro, none⟩) n rc) ∧ w'.cell? ⟨rb, ro + s, none⟩ = some (.int .i64 xv) ∧ w'.cell? ⟨wr.heap.size, 0, none⟩ = some (.int .i64 (s : Nat)) ∧ w'.cell? ⟨wr.heap.size, 2, none⟩ = some (.int .i64 dl) ∧ w'.cell? ⟨wr.heap.size, 3, none⟩ = some (.int .i64 (t : Nat))) (by kernel_rfl) ⟨y0, y1, y2, y3, y4⟩ (fun hH => ?_)
                      refine wpAnyH_take (i := 0) (oi := { dst := _, op := _, type := _, pos := _, after := _, guard := _ }) (v := ?_) rfl (by kernel_rfl) (by kernel_rfl) (by kernel_rfl) (fun _ _ _ h => h) (Or.inl ⟨by rfl, ?_⟩) hH ?_
                      rotate_left
                      · intro w9 hSw
                        try dsimp only at hSw
                        obtain ⟨s0, s1, s2, s3, s4⟩ := hSw
                        go_simp
                        try with_reducible rfl
                      try simp only [Act.put, List.setIfInBounds_toArray, List.set_cons_zero, List.set_cons_succ]
                      refine wpAnyH_take (i := 1) (oi := { dst := _, op := _, type := _, pos := _, after := _, guard := _ }) (v := ?_) rfl (by kernel_rfl) (by kernel_rfl) (by kernel_rfl) (fun _ _ _ h => h) (Or.inl ⟨by rfl, ?_⟩) hH ?_
                      rotate_left
                      · intro w9 hSw
                        try dsimp only at hSw
                        obtain ⟨s0, s1, s2, s3, s4⟩ := hSw
                        go_simp
                        try with_reducible rfl
                      try simp only [Act.put, List.setIfInBounds_toArray, List.set_cons_zero, List.set_cons_succ]
                      refine wpAnyH_take (i := 2) (oi := { dst := _, op := _, type := _, pos := _, after := _, guard := _ }) (v := ?_) rfl (by kernel_rfl) (by kernel_rfl) (by kernel_rfl) (fun _ _ _ h => h) (Or.inl ⟨by rfl, ?_⟩) hH ?_
                      rotate_left
                      · intro w9 hSw
                        try dsimp only at hSw
                        obtain ⟨s0, s1, s2, s3, s4⟩ := hSw
                        go_simp
                        try with_reducible rfl
                      try simp only [Act.put, List.setIfInBounds_toArray, List.set_cons_zero, List.set_cons_succ]
                      refine wpAnyH_take (i := 3) (oi := { dst := _, op := _, type := _, pos := _, after := _, guard := _ }) (v := ?_) rfl (by kernel_rfl) (by kernel_rfl) (by kernel_rfl) (fun _ _ _ h => h) (Or.inl ⟨by rfl, ?_⟩) hH ?_
                      rotate_left
                      · intro w9 hSw
                        try dsimp only at hSw
                        obtain ⟨s0, s1, s2, s3, s4⟩ := hSw
                        go_simp
                        try with_reducible rfl
                      try simp only [Act.put, List.setIfInBounds_toArray, List.set_cons_zero, List.set_cons_succ]
                      refine wpAnyH_take (i := 4) (oi := { dst := _, op := _, type := _, pos := _, after := _, guard := _ }) (v := ?_) rfl (by kernel_rfl) (by kernel_rfl) (by kernel_rfl) (fun _ _ _ h => h) (Or.inl ⟨by rfl, ?_⟩) hH ?_
                      rotate_left
                      · intro w9 hSw
                        try dsimp only at hSw
                        obtain ⟨s0, s1, s2, s3, s4⟩ := hSw
                        go_simp
                        try with_reducible rfl
                      try simp only [Act.put, List.setIfInBounds_toArray, List.set_cons_zero, List.set_cons_succ]
                      refine wpAnyH_take (i := 5) (oi := { dst := _, op := _, type := _, pos := _, after := _, guard := _ }) (v := ?_) rfl (by kernel_rfl) (by kernel_rfl) (by kernel_rfl) (fun _ _ _ h => h) (Or.inl ⟨by rfl, ?_⟩) hH ?_
                      rotate_left
                      · intro w9 hSw
                        try dsimp only at hSw
                        obtain ⟨s0, s1, s2, s3, s4⟩ := hSw
                        go_simp
                        try with_reducible rfl
                      try simp only [Act.put, List.setIfInBounds_toArray, List.set_cons_zero, List.set_cons_succ]
                      refine wpAnyH_take (i := 6) (oi := { dst := _, op := _, type := _, pos := _, after := _, guard := _ }) (v := ?_) rfl (by kernel_rfl) (by kernel_rfl) (by kernel_rfl) (fun _ _ _ h => h) (Or.inl ⟨by rfl, ?_⟩) hH ?_
                      rotate_left
                      · intro w9 hSw
                        try dsimp only at hSw
                        obtain ⟨s0, s1, s2, s3, s4⟩ := hSw
                        go_simp
                        try with_reducible rfl
                      try simp only [Act.put, List.setIfInBounds_toArray, List.set_cons_zero, List.set_cons_succ]
                      refine wpAnyH_take (i := 7) (oi := { dst := _, op := _, type := _, pos := _, after := _, guard := _ }) (v := ?_) rfl (by kernel_rfl) (by kernel_rfl) (by kernel_rfl) (fun _ _ _ h => h) (Or.inl ⟨by rfl, ?_⟩) hH ?_
                      rotate_left
                      · intro w9 hSw
                        try dsimp only at hSw
                        obtain ⟨s0, s1, s2, s3, s4⟩ := hSw
                        go_simp
                        try with_reducible rfl
                      try simp only [Act.put, List.setIfInBounds_toArray, List.set_cons_zero, List.set_cons_succ]
                      refine wpAnyH_take (i := 8) (oi := { dst := _, op := _, type := _, pos := _, after := _, guard := _ }) (v := ?_) rfl (by kernel_rfl) (by kernel_rfl) (by kernel_rfl) (fun _ _ _ h => h) (Or.inl ⟨by rfl, ?_⟩) hH ?_
                      rotate_left
                      · intro w9 hSw
                        try dsimp only at hSw
                        obtain ⟨s0, s1, s2, s3, s4⟩ := hSw
                        go_simp
                        try with_reducible rfl
                      try simp only [Act.put, List.setIfInBounds_toArray, List.set_cons_zero, List.set_cons_succ]
                      refine wpAnyH_take (i := 9) (oi := { dst := _, op := _, type := _, pos := _, after := _, guard := _ }) (v := ?_) rfl (by kernel_rfl) (by kernel_rfl) (by kernel_rfl) (fun _ _ _ h => h) (Or.inl ⟨by rfl, ?_⟩) hH ?_
                      rotate_left
                      · intro w9 hSw
                        try dsimp only at hSw
                        obtain ⟨s0, s1, s2, s3, s4⟩ := hSw
                        go_simp
                        try with_reducible rfl
                      try simp only [Act.put, List.setIfInBounds_toArray, List.set_cons_zero, List.set_cons_succ]
                      refine wpAnyH_take (i := 10) (oi := { dst := _, op := _, type := _, pos := _, after := _, guard := _ }) (v := ?_) rfl (by kernel_rfl) (by kernel_rfl) (by kernel_rfl) (fun _ _ _ h => h) (Or.inl ⟨by rfl, ?_⟩) hH ?_
                      rotate_left
                      · intro w9 hSw
                        try dsimp only at hSw
                        obtain ⟨s0, s1, s2, s3, s4⟩ := hSw
                        go_simp
                        try with_reducible rfl
                      try simp only [Act.put, List.setIfInBounds_toArray, List.set_cons_zero, List.set_cons_succ]
                      refine wpAnyH_take (i := 11) (oi := { dst := _, op := _, type := _, pos := _, after := _, guard := _ }) (v := ?_) rfl (by kernel_rfl) (by kernel_rfl) (by kernel_rfl) (fun _ _ _ h => h) (Or.inl ⟨by rfl, ?_⟩) hH ?_
                      rotate_left
                      · intro w9 hSw
                        try dsimp only at hSw
                        obtain ⟨s0, s1, s2, s3, s4⟩ := hSw
                        go_simp
                        try with_reducible rfl
                      try simp only [Act.put, List.setIfInBounds_toArray, List.set_cons_zero, List.set_cons_succ]
                      refine wpAnyH_take (i := 12) (oi := { dst := _, op := _, type := _, pos := _, after := _, guard := _ }) (v := ?_) rfl (by kernel_rfl) (by kernel_rfl) (by kernel_rfl) (fun _ _ _ h => h) (Or.inl ⟨by rfl, ?_⟩) hH ?_
                      rotate_left
                      · intro w9 hSw
                        try dsimp only at hSw
                        obtain ⟨s0, s1, s2, s3, s4⟩ := hSw
                        go_simp
                        try with_reducible rfl
                      try simp only [Act.put, List.setIfInBounds_toArray, List.set_cons_zero, List.set_cons_succ]
                      refine wpAnyH_take (i := 13) (oi := { dst := _, op := _, type := _, pos := _, after := _, guard := _ }) (v := ?_) rfl (by kernel_rfl) (by kernel_rfl) (by kernel_rfl) (fun _ _ _ h => h) (Or.inl ⟨by rfl, ?_⟩) hH ?_
                      rotate_left
                      · intro w9 hSw
                        try dsimp only at hSw
                        obtain ⟨s0, s1, s2, s3, s4⟩ := hSw
                        go_simp
                        try with_reducible rfl
                      try simp only [Act.put, List.setIfInBounds_toArray, List.set_cons_zero, List.set_cons_succ]
                      refine wpAnyH_take (i := 14) (oi := { dst := _, op := _, type := _, pos := _, after := _, guard := _ }) (v := ?_) rfl (by kernel_rfl) (by kernel_rfl) (by kernel_rfl) (fun _ _ _ h => h) (Or.inl ⟨by rfl, ?_⟩) hH ?_
                      rotate_left
                      · intro w9 hSw
                        try dsimp only at hSw
                        obtain ⟨s0, s1, s2, s3, s4⟩ := hSw
                        go_simp
                        try with_reducible rfl
                      try simp only [Act.put, List.setIfInBounds_toArray, List.set_cons_zero, List.set_cons_succ]
                      refine wpAnyH_take (i := 15) (oi := { dst := _, op := _, type := _, pos := _, after := _, guard := _ }) (v := ?_) rfl (by kernel_rfl) (by kernel_rfl) (by kernel_rfl) (fun _ _ _ h => h) (Or.inl ⟨by rfl, ?_⟩) hH ?_
                      rotate_left
                      · intro w9 hSw
                        try dsimp only at hSw
                        obtain ⟨s0, s1, s2, s3, s4⟩ := hSw
                        go_simp
                        try with_reducible rfl
                      try simp only [Act.put, List.setIfInBounds_toArray, List.set_cons_zero, List.set_cons_succ]
                      refine wpAnyH_take (i := 16) (oi := { dst := _, op := _, type := _, pos := _, after := _, guard := _ }) (v := ?_) rfl (by kernel_rfl) (by kernel_rfl) (by kernel_rfl) (fun _ _ _ h => h) (Or.inl ⟨by rfl, ?_⟩) hH ?_
                      rotate_left
                      · intro w9 hSw
                        try dsimp only at hSw
                        obtain ⟨s0, s1, s2, s3, s4⟩ := hSw
                        go_simp
                        try with_reducible rfl
                      try simp only [Act.put, List.setIfInBounds_toArray, List.set_cons_zero, List.set_cons_succ]
                      refine wpAnyH_take (i := 17) (oi := { dst := _, op := _, type := _, pos := _, after := _, guard := _ }) (v := ?_) rfl (by kernel_rfl) (by kernel_rfl) (by kernel_rfl) (fun _ _ _ h => h) (Or.inl ⟨by rfl, ?_⟩) hH ?_
                      rotate_left
                      · intro w9 hSw
                        try dsimp only at hSw
                        obtain ⟨s0, s1, s2, s3, s4⟩ := hSw
                        go_simp
                        try with_reducible rfl
                      try simp only [Act.put, List.setIfInBounds_toArray, List.set_cons_zero, List.set_cons_succ]
                      refine wpAnyH_done (by kernel_rfl) ?_ _
                      go_wp2
                      go_roundw
                      case rel => exact ⟨i + 1, hlt3, by go_num, by rw [hsH.out, if_neg (by omega)], hBf⟩
                      case measure => simp [intOf]; omega
                  · rw [if_neg hm] at hs
                    have hsH := Lib.hid hs
                    clear hs
                    have hc : (dr == (e : Int)) = false ∨ ((dr == (e : Int)) = true ∧ ¬ (1 : Int) ≤ (j : Int) + 1 - tk) := by
                      by_cases h : dr = (e : Int)
                      · exact .inr ⟨by simp [h], fun h2 => hm ⟨h, by omega⟩⟩
                      · exact .inl (by simpa using h)
                    clear hm hp
                    rcases hc with hc | ⟨hc, hc2⟩
                    · go_wp2
                      go_roundw
                      case rel => exact ⟨i + 1, hlt3, by go_num, by rw [hsH.out], hBZ.out⟩
                      case measure => simp [intOf]; omega
                    · go_wp2
                      go_roundw
                      case rel => exact ⟨i + 1, hlt3, by go_num, by rw [hsH.out], hBZ.out⟩
                      case measure => simp [intOf]; omega
                · obtain rfl : i = gp.length := by omega
                  rw [List.take_length]
                  have hjX : j < X.length := by rw [hXlH.out]; omega
                  have hRl := hXrH.out _ (List.getElem_mem hjX)
                  have heX : e < X[j].length := by rw [hRl]; exact hlt2
                  have hxe := getT_eq hjX heX
                  rw [← hfixH.out j e hlt hlt2]
                  have hxb := hXbH.out j e
                  obtain ⟨xv, hxv⟩ : ∃ xv, getT X j e = xv := ⟨_, rfl⟩
                  rw [hxv] at hxe ⊢
                  obtain ⟨xb, xo, cx', r, hxv2, _, z0, hr⟩ := (hx.now hBr).lst.row j hjX
                  obtain ⟨R, rn, rc⟩ := r
                  simp only [Ref.val] at z0 hr
                  obtain ⟨A4, c4, hv1⟩ := hr.shape
                  obtain ⟨rfl, rfl, rfl⟩ : R = A4 ∧ rn = X[j].length ∧ rc = c4 := by injection hv1 with a1 a2 a3; exact ⟨a1, a2, a3⟩
                  obtain ⟨rb, ro, hRA, _, z1⟩ := ints_at hr e heX
                  subst hRA
                  cases hxv2
                  rw [hRl] at z0
                  rw [← hxe] at z1
                  have hD : Below wr.heap.size wr wr.drew := Below.drew (Below.refl _ wr)
                  have hBf := hBr.trans (hD.mono hBr.size)
                  replace z0 := cell_keep z0 hD
                  replace z1 := cell_keep z1 hD
                  have j1 : (0 : Int) ≤ (j : Int) := by omega
                  have j2 : (j : Int) < (X.length : Int) := by omega
                  have j3 : (0 : Int) ≤ (e : Int) := by omega
                  have we1 : IntKind.i64.wrap ((j : Int) + 1 - 1) = (j : Int) := (IntWalk.i64_in _ (by omega)).trans (by omega)
                  have we2 : IntKind.i64.wrap (j : Int) = (j : Int) := IntWalk.i64_in _ (by omega)
                  have hne : (xv != xv) = false := by simp
                  clear hr hv1 hRl hxe hxb
                  by_cases hj0 : j = 0
                  · have g1 : decide ((1 : Int) < (j : Int) + 1) = false := decide_eq_false (by omega)
                    clear hj0
                    go_wp2_with fail
                    clear k0 k1 l0
                    refine wp_region_held_drew (S := fun w' => w'.cell? ⟨xb, xo + j, none⟩ = some (.slice (some ⟨rb, ro, none⟩) n rc) ∧ w'.cell? ⟨rb, ro + e, none⟩ = some (.int .i64 xv)) (by kernel_rfl) ⟨z0, z1⟩ (fun hH => ?_)
                    refine wpAnyH_take (i := 0) (oi := { dst := _, op := _, type := _, pos := _, after := _, guard := _ }) (v := ?_) rfl (by kernel_rfl) (by kernel_rfl) (by kernel_rfl) (fun _ _ _ h => h) (Or.inl ⟨by rfl, ?_⟩) hH ?_
                    rotate_left
                    · intro w9 hSw
                      try dsimp only at hSw
                      obtain ⟨s0, s1⟩ := hSw
                      go_simp
                      try with_reducible rfl
                    try simp only [Act.put, List.setIfInBounds_toArray, List.set_cons_zero, List.set_cons_succ]
                    refine wpAnyH_take (i := 1) (oi := { dst := _, op := _, type := _, pos := _, after := _, guard := _ }) (v := ?_) rfl (by kernel_rfl) (by kernel_rfl) (by kernel_rfl) (fun _ _ _ h => h) (Or.inl ⟨by rfl, ?_⟩) hH ?_
                    rotate_left
                    · intro w9 hSw
                      try dsimp only at hSw
                      obtain ⟨s0, s1⟩ := hSw
                      go_simp
                      try with_reducible rfl
                    try simp only [Act.put, List.setIfInBounds_toArray, List.set_cons_zero, List.set_cons_succ]
                    refine wpAnyH_take (i := 2) (oi := { dst := _, op := _, type := _, pos := _, after := _, guard := _ }) (v := ?_) rfl (by kernel_rfl) (by kernel_rfl) (by kernel_rfl) (fun _ _ _ h => h) (Or.inl ⟨by rfl, ?_⟩) hH ?_
                    rotate_left
                    · intro w9 hSw
                      try dsimp only at hSw
                      obtain ⟨s0, s1⟩ := hSw
                      go_simp
                      try with_reducible rfl
                    try simp only [Act.put, List.setIfInBounds_toArray, List.set_cons_zero, List.set_cons_succ]
                    refine wpAnyH_take (i := 3) (oi := { dst := _, op := _, type := _, pos := _, after := _, guard := _ }) (v := ?_) rfl (by kernel_rfl) (by kernel_rfl) (by kernel_rfl) (fun _ _ _ h => h) (Or.inl ⟨by rfl, ?_⟩) hH ?_
                    rotate_left
                    · intro w9 hSw
                      try dsimp only at hSw
                      obtain ⟨s0, s1⟩ := hSw
                      go_simp
                      try with_reducible rfl
                    try simp only [Act.put, List.setIfInBounds_toArray, List.set_cons_zero, List.set_cons_succ]
                    refine wpAnyH_take (i := 4) (oi := { dst := _, op := _, type := _, pos := _, after := _, guard := _ }) (v := ?_) rfl (by kernel_rfl) (by kernel_rfl) (by kernel_rfl) (fun _ _ _ h => h) (Or.inl ⟨by rfl, ?_⟩) hH ?_
                    rotate_left
                    · intro w9 hSw
                      try dsimp only at hSw
                      obtain ⟨s0, s1⟩ := hSw
                      go_simp
                      try with_reducible rfl
                    try simp only [Act.put, List.setIfInBounds_toArray, List.set_cons_zero, List.set_cons_succ]
                    refine wpAnyH_take (i := 5) (oi := { dst := _, op := _, type := _, pos := _, after := _, guard := _ }) (v := ?_) rfl (by kernel_rfl) (by kernel_rfl) (by kernel_rfl) (fun _ _ _ h => h) (Or.inl ⟨by rfl, ?_⟩) hH ?_
                    rotate_left
                    · intro w9 hSw
                      try dsimp only at hSw
                      obtain ⟨s0, s1⟩ := hSw
                      go_simp
                      try with_reducible rfl
                    try simp only [Act.put, List.setIfInBounds_toArray, List.set_cons_zero, List.set_cons_succ]
                    refine wpAnyH_take (i := 6) (oi := { dst := _, op := _, type := _, pos := _, after := _, guard := _ }) (v := ?_) rfl (by kernel_rfl) (by kernel_rfl) (by kernel_rfl) (fun _ _ _ h => h) (Or.inl ⟨by rfl, ?_⟩) hH ?_
                    rotate_left
                    · intro w9 hSw
                      try dsimp only at hSw
                      obtain ⟨s0, s1⟩ := hSw
                      go_simp
                      try with_reducible rfl
                    try simp only [Act.put, List.setIfInBounds_toArray, List.set_cons_zero, List.set_cons_succ]
                    refine wpAnyH_take (i := 7) (oi := { dst := _, op := _, type := _, pos := _, after := _, guard := _ }) (v := ?_) rfl (by kernel_rfl) (by kernel_rfl) (by kernel_rfl) (fun _ _ _ h => h) (Or.inl ⟨by rfl, ?_⟩) hH ?_
                    rotate_left
                    · intro w9 hSw
                      try dsimp only at hSw
                      obtain ⟨s0, s1⟩ := hSw
                      go_simp
                      try with_reducible rfl
                    try simp only [Act.put, List.setIfInBounds_toArray, List.set_cons_zero, List.set_cons_succ]
                    refine wpAnyH_take (i := 8) (oi := { dst := _, op := _, type := _, pos := _, after := _, guard := _ }) (v := ?_) rfl (by kernel_rfl) (by kernel_rfl) (by kernel_rfl) (fun _ _ _ h => h) (Or.inl ⟨by rfl, ?_⟩) hH ?_
                    rotate_left
                    · intro w9 hSw
                      try dsimp only at hSw
                      obtain ⟨s0, s1⟩ := hSw
                      go_simp
                      try with_reducible rfl
                    try simp only [Act.put, List.setIfInBounds_toArray, List.set_cons_zero, List.set_cons_succ]
                    refine wpAnyH_take (i := 9) (oi := { dst := _, op := _, type := _, pos := _, after := _, guard := _ }) (v := ?_) rfl (by kernel_rfl) (by kernel_rfl) (by kernel_rfl) (fun _ _ _ h => h) (Or.inl ⟨by rfl, ?_⟩) hH ?_
                    rotate_left
                    · intro w9 hSw
                      try dsimp only at hSw
                      obtain ⟨s0, s1⟩ := hSw
                      go_simp
                      try with_reducible rfl
                    try simp only [Act.put, List.setIfInBounds_toArray, List.set_cons_zero, List.set_cons_succ]
                    refine wpAnyH_take (i := 10) (oi := { dst := _, op := _, type := _, pos := _, after := _, guard := _ }) (v := ?_) rfl (by kernel_rfl) (by kernel_rfl) (by kernel_rfl) (fun _ _ _ h => h) (Or.inl ⟨by rfl, ?_⟩) hH ?_
                    rotate_left
                    · intro w9 hSw
                      try dsimp only at hSw
                      obtain ⟨s0, s1⟩ := hSw
                      go_simp
                      try with_reducible rfl
                    try simp only [Act.put, List.setIfInBounds_toArray, List.set_cons_zero, List.set_cons_succ]
                    refine wpAnyH_take (i := 11) (oi := { dst := _, op := _, type := _, pos := _, after := _, guard := _ }) (v := ?_) rfl (by kernel_rfl) (by kernel_rfl) (by kernel_rfl) (fun _ _ _ h => h) (Or.inl ⟨by rfl, ?_⟩) hH ?_
                    rotate_left
                    · intro w9 hSw
                      try dsimp only at hSw
                      obtain ⟨s0, s1⟩ := hSw
                      go_simp
                      try with_reducible rfl
                    try simp only [Act.put, List.setIfInBounds_toArray, List.set_cons_zero, List.set_cons_succ]
                    refine wpAnyH_take (i := 12) (oi := { dst := _, op := _, type := _, pos := _, after := _, guard := _ }) (v := ?_) rfl (by kernel_rfl) (by kernel_rfl) (by kernel_rfl) (fun _ _ _ h => h) (Or.inl ⟨by rfl, ?_⟩) hH ?_
                    rotate_left
                    · intro w9 hSw
                      try dsimp only at hSw
                      obtain ⟨s0, s1⟩ := hSw
                      go_simp
                      try with_reducible rfl
                    try simp only [Act.put, List.setIfInBounds_toArray, List.set_cons_zero, List.set_cons_succ]
                    refine wpAnyH_take (i := 13) (oi := { dst := _, op := _, type := _, pos := _, after := _, guard := _ }) (v := ?_) rfl (by kernel_rfl) (by kernel_rfl) (by kernel_rfl) (fun _ _ _ h => h) (Or.inl ⟨by rfl, ?_⟩) hH ?_
                    rotate_left
                    · intro w9 hSw
                      try dsimp only at hSw
                      obtain ⟨s0, s1⟩ := hSw
                      go_simp
                      try with_reducible rfl
                    try simp only [Act.put, List.setIfInBounds_toArray, List.set_cons_zero, List.set_cons_succ]
                    refine wpAnyH_take (i := 14) (oi := { dst := _, op := _, type := _, pos := _, after := _, guard := _ }) (v := undef) rfl (by kernel_rfl) (by kernel_rfl) (by kernel_rfl) (fun _ _ _ h => h) (Or.inr ⟨by rfl, rfl⟩) hH ?_
                    try simp only [Act.put, List.setIfInBounds_toArray, List.set_cons_zero, List.set_cons_succ]
                    refine wpAnyH_take (i := 15) (oi := { dst := _, op := _, type := _, pos := _, after := _, guard := _ }) (v := undef) rfl (by kernel_rfl) (by kernel_rfl) (by kernel_rfl) (fun _ _ _ h => h) (Or.inr ⟨by rfl, rfl⟩) hH ?_
                    try simp only [Act.put, List.setIfInBounds_toArray, List.set_cons_zero, List.set_cons_succ]
                    refine wpAnyH_take (i := 16) (oi := { dst := _, op := _, type := _, pos := _, after := _, guard := _ }) (v := undef) rfl (by kernel_rfl) (by kernel_rfl) (by kernel_rfl) (fun _ _ _ h => h) (Or.inr ⟨by rfl, rfl⟩) hH ?_
                    try simp only [Act.put, List.setIfInBounds_toArray, List.set_cons_zero, List.set_cons_succ]
                    refine wpAnyH_take (i := 17) (oi := { dst := _, op := _, type := _, pos := _, after := _, guard := _ }) (v := undef) rfl (by kernel_rfl) (by kernel_rfl) (by kernel_rfl) (fun _ _ _ h => h) (Or.inr ⟨by rfl, rfl⟩) hH ?_
                    try simp only [Act.put, List.setIfInBounds_toArray, List.set_cons_zero, List.set_cons_succ]
                    refine wpAnyH_take (i := 18) (oi := { dst := _, op := _, type := _, pos := _, after := _, guard := _ }) (v := undef) rfl (by kernel_rfl) (by kernel_rfl) (by kernel_rfl) (fun _ _ _ h => h) (Or.inr ⟨by rfl, rfl⟩) hH ?_
                    try simp only [Act.put, List.setIfInBounds_toArray, List.set_cons_zero, List.set_cons_succ]
                    refine wpAnyH_take (i := 19) (oi := { dst := _, op := _, type := _, pos := _, after := _, guard := _ }) (v := undef) rfl (by kernel_rfl) (by kernel_rfl) (by kernel_rfl) (fun _ _ _ h => h) (Or.inr ⟨by rfl, rfl⟩) hH ?_
                    try simp only [Act.put, List.setIfInBounds_toArray, List.set_cons_zero, List.set_cons_succ]
                    refine wpAnyH_take (i := 20) (oi := { dst := _, op := _, type := _, pos := _, after := _, guard := _ }) (v := undef) rfl (by kernel_rfl) (by kernel_rfl) (by kernel_rfl) (fun _ _ _ h => h) (Or.inr ⟨by rfl, rfl⟩) hH ?_
                    try simp only [Act.put, List.setIfInBounds_toArray, List.set_cons_zero, List.set_cons_succ]
                    refine wpAnyH_take (i := 21) (oi := { dst := _, op := _, type := _, pos := _, after := _, guard := _ }) (v := undef) rfl (by kernel_rfl) (by kernel_rfl) (by kernel_rfl) (fun _ _ _ h => h) (Or.inr ⟨by rfl, rfl⟩) hH ?_
                    try simp only [Act.put, List.setIfInBounds_toArray, List.set_cons_zero, List.set_cons_succ]
                    refine wpAnyH_take (i := 22) (oi := { dst := _, op := _, type := _, pos := _, after := _, guard := _ }) (v := undef) rfl (by kernel_rfl) (by kernel_rfl) (by kernel_rfl) (fun _ _ _ h => h) (Or.inr ⟨by rfl, rfl⟩) hH ?_
                    try simp only [Act.put, List.setIfInBounds_toArray, List.set_cons_zero, List.set_cons_succ]
                    refine wpAnyH_take (i := 23) (oi := { dst := _, op := _, type := _, pos := _, after := _, guard := _ }) (v := undef) rfl (by kernel_rfl) (by kernel_rfl) (by kernel_rfl) (fun _ _ _ h => h) (Or.inr ⟨by rfl, rfl⟩) hH ?_
                    try simp only [Act.put, List.setIfInBounds_toArray, List.set_cons_zero, List.set_cons_succ]
                    refine wpAnyH_take (i := 24) (oi := { dst := _, op := _, type := _, pos := _, after := _, guard := _ }) (v := undef) rfl (by kernel_rfl) (by kernel_rfl) (by kernel_rfl) (fun _ _ _ h => h) (Or.inr ⟨by rfl, rfl⟩) hH ?_
                    try simp only [Act.put, List.setIfInBounds_toArray, List.set_cons_zero, List.set_cons_succ]
                    refine wpAnyH_take (i := 25) (oi := { dst := _, op := _, type := _, pos := _, after := _, guard := _ }) (v := undef) rfl (by kernel_rfl) (by kernel_rfl) (by kernel_rfl) (fun _ _ _ h => h) (Or.inr ⟨by rfl, rfl⟩) hH ?_
                    try simp only [Act.put, List.setIfInBounds_toArray, List.set_cons_zero, List.set_cons_succ]
                    refine wpAnyH_take (i := 26) (oi := { dst := _, op := _, type := _, pos := _, after := _, guard := _ }) (v := undef) rfl (by kernel_rfl) (by kernel_rfl) (by kernel_rfl) (fun _ _ _ h => h) (Or.inr ⟨by rfl, rfl⟩) hH ?_
                    try simp only [Act.put, List.setIfInBounds_toArray, List.set_cons_zero, List.set_cons_succ]
                    refine wpAnyH_take (i := 27) (oi := { dst := _, op := _, type := _, pos := _, after := _, guard := _ }) (v := undef) rfl (by kernel_rfl) (by kernel_rfl) (by kernel_rfl) (fun _ _ _ h => h) (Or.inr ⟨by rfl, rfl⟩) hH ?_
                    try simp only [Act.put, List.setIfInBounds_toArray, List.set_cons_zero, List.set_cons_succ]
                    refine wpAnyH_take (i := 28) (oi := { dst := _, op := _, type := _, pos := _, after := _, guard := _ }) (v := undef) rfl (by kernel_rfl) (by kernel_rfl) (by kernel_rfl) (fun _ _ _ h => h) (Or.inr ⟨by rfl, rfl⟩) hH ?_
                    try simp only [Act.put, List.setIfInBounds_toArray, List.set_cons_zero, List.set_cons_succ]
                    refine wpAnyH_take (i := 29) (oi := { dst := _, op := _, type := _, pos := _, after := _, guard := _ }) (v := undef) rfl (by kernel_rfl) (by kernel_rfl) (by kernel_rfl) (fun _ _ _ h => h) (Or.inr ⟨by rfl, rfl⟩) hH ?_
                    try simp only [Act.put, List.setIfInBounds_toArray, List.set_cons_zero, List.set_cons_succ]
                    refine wpAnyH_take (i := 30) (oi := { dst := _, op := _, type := _, pos := _, after := _, guard := _ }) (v := undef) rfl (by kernel_rfl) (by kernel_rfl) (by kernel_rfl) (fun _ _ _ h => h) (Or.inr ⟨by rfl, rfl⟩) hH ?_
                    try simp only [Act.put, List.setIfInBounds_toArray, List.set_cons_zero, List.set_cons_succ]
                    refine wpAnyH_take (i := 31) (oi := { dst := _, op := _, type := _, pos := _, after := _, guard := _ }) (v := ?_) rfl (by kernel_rfl) (by kernel_rfl) (by kernel_rfl) (fun _ _ _ h => h) (Or.inl ⟨by rfl, ?_⟩) hH ?_
                    rotate_left
                    · intro w9 hSw
                      try dsimp only at hSw
                      obtain ⟨s0, s1⟩ := hSw
                      go_simp
                      try with_reducible rfl
                    try simp only [Act.put, List.setIfInBounds_toArray, List.set_cons_zero, List.set_cons_succ]
                    refine wpAnyH_take (i := 32) (oi := { dst := _, op := _, type := _, pos := _, after := _, guard := _ }) (v := ?_) rfl (by kernel_rfl) (by kernel_rfl) (by kernel_rfl) (fun _ _ _ h => h) (Or.inl ⟨by rfl, ?_⟩) hH ?_
                    rotate_left
                    · intro w9 hSw
                      try dsimp only at hSw
                      obtain ⟨s0, s1⟩ := hSw
                      go_simp
                      try with_reducible rfl
                    try simp only [Act.put, List.setIfInBounds_toArray, List.set_cons_zero, List.set_cons_succ]
                    refine wpAnyH_done (by kernel_rfl) ?_ _
                    go_wp2
                    go_roundw
                    case rel => exact ⟨e + 1, hlt2, by go_num, hBf⟩
                    case measure => simp [intOf]; omega
                  · obtain ⟨j', hjj⟩ : ∃ j', j = j' + 1 := ⟨j - 1, by omega⟩
                    have g3 : decide ((1 : Int) < (j : Int) + 1) = true := decide_eq_true (by omega)
                    have hup := hupH.out j' e (by omega) hlt2
                    rw [← hjj, hxv] at hup
                    have hjX' : j' < X.length := by omega
                    have hRl' := hXrH.out _ (List.getElem_mem hjX')
                    have heX' : e < X[j'].length := by rw [hRl']; exact hlt2
                    rw [getT_eq hjX' heX'] at hup
                    obtain ⟨xb', xo', cx'', r', hxv3, _, z2, hr'⟩ := (hx.now hBr).lst.row j' hjX'
                    obtain ⟨R', rn', rc'⟩ := r'
                    simp only [Ref.val] at z2 hr'
                    obtain ⟨A5, c5, hv2⟩ := hr'.shape
                    obtain ⟨rfl, rfl, rfl⟩ : R' = A5 ∧ rn' = X[j'].length ∧ rc' = c5 := by injection hv2 with a1 a2 a3; exact ⟨a1, a2, a3⟩
                    obtain ⟨qb, qo, hRA', _, z3⟩ := ints_at hr' e heX'
                    subst hRA'
                    cases hxv3
                    rw [hRl'] at z2
                    obtain ⟨yv, hyv⟩ : ∃ yv, X[j'][e] = yv := ⟨_, rfl⟩
                    rw [hyv] at z3 hup
                    replace z2 := cell_keep z2 hD
                    replace z3 := cell_keep z3 hD
                    have j5 : (0 : Int) ≤ (j' : Int) := by omega
                    have j6 : (j' : Int) < (X.length : Int) := by omega
                    have we3 : IntKind.i64.wrap ((j : Int) + 1 - 2) = (j' : Int) := (IntWalk.i64_in _ (by omega)).trans (by omega)
                    have we4 : IntKind.i64.wrap ((j : Int) - 1) = (j' : Int) := (IntWalk.i64_in _ (by omega)).trans (by omega)
                    have hnl : ¬ xv < yv := by omega
                    clear hr' hv2 hRl' hyv hup hj0 hjj
                    go_wp2_with fail
                    clear k0 k1 l0
                    refine wp_region_held_drew (S := fun w' => w'.cell? ⟨xb, xo + j, none⟩ = some (.slice (some ⟨rb, ro, none⟩) n rc) ∧ w'.cell? ⟨rb, ro + e, none⟩ = some (.int .i64 xv) ∧ w'.cell? ⟨xb, xo + j', none⟩ = some (.slice (some ⟨qb, qo, none⟩) n rc') ∧ w'.cell? ⟨qb, qo + e, none⟩ = some (.int .i64 yv)) (by kernel_rfl) ⟨z0, z1, z2, z3⟩ (fun hH => ?_)
                    refine wpAnyH_take (i := 0) (oi := { dst := _, op := _, type := _, pos := _, after := _, guard := _ }) (v := ?_) rfl (by kernel_rfl) (by kernel_rfl) (by kernel_rfl) (fun _ _ _ h => h) (Or.inl ⟨by rfl, ?_⟩) hH ?_
                    rotate_left
                    · intro w9 hSw
                      try dsimp only at hSw
                      obtain ⟨s0, s1, s2, s3⟩ := hSw
                      go_simp
                      try with_reducible rfl
                    try simp only [Act.put, List.setIfInBounds_toArray, List.set_cons_zero, List.set_cons_succ]
                    refine wpAnyH_take (i := 1) (oi := { dst := _, op := _, type := _, pos := _, after := _, guard := _ }) (v := ?_) rfl (by kernel_rfl) (by kernel_rfl) (by kernel_rfl) (fun _ _ _ h => h) (Or.inl ⟨by rfl, ?_⟩) hH ?_
                    rotate_left
                    · intro w9 hSw
                      try dsimp only at hSw
                      obtain ⟨s0, s1, s2, s3⟩ := hSw
                      go_simp
                      try with_reducible rfl
                    try simp only [Act.put, List.setIfInBounds_toArray, List.set_cons_zero, List.set_cons_succ]
                    refine wpAnyH_take (i := 2) (oi := { dst := _, op := _, type := _, pos := _, after := _, guard := _ }) (v := ?_) rfl (by kernel_rfl) (by kernel_rfl) (by kernel_rfl) (fun _ _ _ h => h) (Or.inl ⟨by rfl, ?_⟩) hH ?_
                    rotate_left
                    · intro w9 hSw
                      try dsimp only at hSw
                      obtain ⟨s0, s1, s2, s3⟩ := hSw
                      go_simp
                      try with_reducible rfl
                    try simp only [Act.put, List.setIfInBounds_toArray, List.set_cons_zero, List.set_cons_succ]
                    refine wpAnyH_take (i := 3) (oi := { dst := _, op := _, type := _, pos := _, after := _, guard := _ }) (v := ?_) rfl (by kernel_rfl) (by kernel_rfl) (by kernel_rfl) (fun _ _ _ h => h) (Or.inl ⟨by rfl, ?_⟩) hH ?_
                    rotate_left
                    · intro w9 hSw
                      try dsimp only at hSw
                      obtain ⟨s0, s1, s2, s3⟩ := hSw
                      go_simp
                      try with_reducible rfl
                    try simp only [Act.put, List.setIfInBounds_toArray, List.set_cons_zero, List.set_cons_succ]
                    refine wpAnyH_take (i := 4) (oi := { dst := _, op := _, type := _, pos := _, after := _, guard := _ }) (v := ?_) rfl (by kernel_rfl) (by kernel_rfl) (by kernel_rfl) (fun _ _ _ h => h) (Or.inl ⟨by rfl, ?_⟩) hH ?_
                    rotate_left
                    · intro w9 hSw
                      try dsimp only at hSw
                      obtain ⟨s0, s1, s2, s3⟩ := hSw
                      go_simp
                      try with_reducible rfl
                    try simp only [Act.put, List.setIfInBounds_toArray, List.set_cons_zero, List.set_cons_succ]
                    refine wpAnyH_take (i := 5) (oi := { dst := _, op := _, type := _, pos := _, after := _, guard := _ }) (v := ?_) rfl (by kernel_rfl) (by kernel_rfl) (by kernel_rfl) (fun _ _ _ h => h) (Or.inl ⟨by rfl, ?_⟩) hH ?_
                    rotate_left
                    · intro w9 hSw
                      try dsimp only at hSw
                      obtain ⟨s0, s1, s2, s3⟩ := hSw
                      go_simp
                      try with_reducible rfl
                    try simp only [Act.put, List.setIfInBounds_toArray, List.set_cons_zero, List.set_cons_succ]
                    refine wpAnyH_take (i := 6) (oi := { dst := _, op := _, type := _, pos := _, after := _, guard := _ }) (v := ?_) rfl (by kernel_rfl) (by kernel_rfl) (by kernel_rfl) (fun _ _ _ h => h) (Or.inl ⟨by rfl, ?_⟩) hH ?_
                    rotate_left
                    · intro w9 hSw
                      try dsimp only at hSw
                      obtain ⟨s0, s1, s2, s3⟩ := hSw
                      go_simp
                      try with_reducible rfl
                    try simp only [Act.put, List.setIfInBounds_toArray, List.set_cons_zero, List.set_cons_succ]
                    refine wpAnyH_take (i := 7) (oi := { dst := _, op := _, type := _, pos := _, after := _, guard := _ }) (v := ?_) rfl (by kernel_rfl) (by kernel_rfl) (by kernel_rfl) (fun _ _ _ h => h) (Or.inl ⟨by rfl, ?_⟩) hH ?_
                    rotate_left
                    · intro w9 hSw
                      try dsimp only at hSw
                      obtain ⟨s0, s1, s2, s3⟩ := hSw
                      go_simp
                      try with_reducible rfl
                    try simp only [Act.put, List.setIfInBounds_toArray, List.set_cons_zero, List.set_cons_succ]
                    refine wpAnyH_take (i := 8) (oi := { dst := _, op := _, type := _, pos := _, after := _, guard := _ }) (v := ?_) rfl (by kernel_rfl) (by kernel_rfl) (by kernel_rfl) (fun _ _ _ h => h) (Or.inl ⟨by rfl, ?_⟩) hH ?_
                    rotate_left
                    · intro w9 hSw
                      try dsimp only at hSw
                      obtain ⟨s0, s1, s2, s3⟩ := hSw
                      go_simp
                      try with_reducible rfl
                    try simp only [Act.put, List.setIfInBounds_toArray, List.set_cons_zero, List.set_cons_succ]
                    refine wpAnyH_take (i := 9) (oi := { dst := _, op := _, type := _, pos := _, after := _, guard := _ }) (v := ?_) rfl (by kernel_rfl) (by kernel_rfl) (by kernel_rfl) (fun _ _ _ h => h) (Or.inl ⟨by rfl, ?_⟩) hH ?_
                    rotate_left
                    · intro w9 hSw
                      try dsimp only at hSw
                      obtain ⟨s0, s1, s2, s3⟩ := hSw
                      go_simp
                      try with_reducible rfl
                    try simp only [Act.put, List.setIfInBounds_toArray, List.set_cons_zero, List.set_cons_succ]
                    refine wpAnyH_take (i := 10) (oi := { dst := _, op := _, type := _, pos := _, after := _, guard := _ }) (v := ?_) rfl (by kernel_rfl) (by kernel_rfl) (by kernel_rfl) (fun _ _ _ h => h) (Or.inl ⟨by rfl, ?_⟩) hH ?_
                    rotate_left
                    · intro w9 hSw
                      try dsimp only at hSw
                      obtain ⟨s0, s1, s2, s3⟩ := hSw
                      go_simp
                      try with_reducible rfl
                    try simp only [Act.put, List.setIfInBounds_toArray, List.set_cons_zero, List.set_cons_succ]
                    refine wpAnyH_take (i := 11) (oi := { dst := _, op := _, type := _, pos := _, after := _, guard := _ }) (v := ?_) rfl (by kernel_rfl) (by kernel_rfl) (by kernel_rfl) (fun _ _ _ h => h) (Or.inl ⟨by rfl, ?_⟩) hH ?_
                    rotate_left
                    · intro w9 hSw
                      try dsimp only at hSw
                      obtain ⟨s0, s1, s2, s3⟩ := hSw
                      go_simp
                      try with_reducible rfl
                    try simp only [Act.put, List.setIfInBounds_toArray, List.set_cons_zero, List.set_cons_succ]
                    refine wpAnyH_take (i := 12) (oi := { dst := _, op := _, type := _, pos := _, after := _, guard := _ }) (v := ?_) rfl (by kernel_rfl) (by kernel_rfl) (by kernel_rfl) (fun _ _ _ h => h) (Or.inl ⟨by rfl, ?_⟩) hH ?_
                    rotate_left
                    · intro w9 hSw
                      try dsimp only at hSw
                      obtain ⟨s0, s1, s2, s3⟩ := hSw
                      go_simp
                      try with_reducible rfl
                    try simp only [Act.put, List.setIfInBounds_toArray, List.set_cons_zero, List.set_cons_succ]
                    refine wpAnyH_take (i := 13) (oi := { dst := _, op := _, type := _, pos := _, after := _, guard := _ }) (v := ?_) rfl (by kernel_rfl) (by kernel_rfl) (by kernel_rfl) (fun _ _ _ h => h) (Or.inl ⟨by rfl, ?_⟩) hH ?_
                    rotate_left
                    · intro w9 hSw
                      try dsimp only at hSw
                      obtain ⟨s0, s1, s2, s3⟩ := hSw
                      go_simp
                      try with_reducible rfl
                    try simp only [Act.put, List.setIfInBounds_toArray, List.set_cons_zero, List.set_cons_succ]
                    refine wpAnyH_take (i := 14) (oi := { dst := _, op := _, type := _, pos := _, after := _, guard := _ }) (v := ?_) rfl (by kernel_rfl) (by kernel_rfl) (by kernel_rfl) (fun _ _ _ h => h) (Or.inl ⟨by rfl, ?_⟩) hH ?_
                    rotate_left
                    · intro w9 hSw
                      try dsimp only at hSw
                      obtain ⟨s0, s1, s2, s3⟩ := hSw
                      go_simp
                      try with_reducible rfl
                    try simp only [Act.put, List.setIfInBounds_toArray, List.set_cons_zero, List.set_cons_succ]
                    refine wpAnyH_take (i := 15) (oi := { dst := _, op := _, type := _, pos := _, after := _, guard := _ }) (v := ?_) rfl (by kernel_rfl) (by kernel_rfl) (by kernel_rfl) (fun _ _ _ h => h) (Or.inl ⟨by rfl, ?_⟩) hH ?_
                    rotate_left
                    · intro w9 hSw
                      try dsimp only at hSw
                      obtain ⟨s0, s1, s2, s3⟩ := hSw
                      go_simp
                      try with_reducible rfl
                    try simp only [Act.put, List.setIfInBounds_toArray, List.set_cons_zero, List.set_cons_succ]
                    refine wpAnyH_take (i := 16) (oi := { dst := _, op := _, type := _, pos := _, after := _, guard := _ }) (v := ?_) rfl (by kernel_rfl) (by kernel_rfl) (by kernel_rfl) (fun _ _ _ h => h) (Or.inl ⟨by rfl, ?_⟩) hH ?_
                    rotate_left
                    · intro w9 hSw
                      try dsimp only at hSw
                      obtain ⟨s0, s1, s2, s3⟩ := hSw
                      go_simp
                      try with_reducible rfl
                    try simp only [Act.put, List.setIfInBounds_toArray, List.set_cons_zero, List.set_cons_succ]
                    refine wpAnyH_take (i := 17) (oi := { dst := _, op := _, type := _, pos := _, after := _, guard := _ }) (v := ?_) rfl (by kernel_rfl) (by kernel_rfl) (by kernel_rfl) (fun _ _ _ h => h) (Or.inl ⟨by rfl, ?_⟩) hH ?_
                    rotate_left
                    · intro w9 hSw
                      try dsimp only at hSw
                      obtain ⟨s0, s1, s2, s3⟩ := hSw
                      go_simp
                      try with_reducible rfl
                    try simp only [Act.put, List.setIfInBounds_toArray, List.set_cons_zero, List.set_cons_succ]
                    refine wpAnyH_take (i := 18) (oi := { dst := _, op := _, type := _, pos := _, after := _, guard := _ }) (v := ?_) rfl (by kernel_rfl) (by kernel_rfl) (by kernel_rfl) (fun _ _ _ h => h) (Or.inl ⟨by rfl, ?_⟩) hH ?_
                    rotate_left
                    · intro w9 hSw
                      try dsimp only at hSw
                      obtain ⟨s0, s1, s2, s3⟩ := hSw
                      go_simp
                      try with_reducible rfl
                    try simp only [Act.put, List.setIfInBounds_toArray, List.set_cons_zero, List.set_cons_succ]
                    refine wpAnyH_take (i := 19) (oi := { dst := _, op := _, type := _, pos := _, after := _, guard := _ }) (v := ?_) rfl (by kernel_rfl) (by kernel_rfl) (by kernel_rfl) (fun _ _ _ h => h) (Or.inl ⟨by rfl, ?_⟩) hH ?_
                    rotate_left
                    · intro w9 hSw
                      try dsimp only at hSw
                      obtain ⟨s0, s1, s2, s3⟩ := hSw
                      go_simp
                      try with_reducible rfl
                    try simp only [Act.put, List.setIfInBounds_toArray, List.set_cons_zero, List.set_cons_succ]
                    refine wpAnyH_take (i := 20) (oi := { dst := _, op := _, type := _, pos := _, after := _, guard := _ }) (v := ?_) rfl (by kernel_rfl) (by kernel_rfl) (by kernel_rfl) (fun _ _ _ h => h) (Or.inl ⟨by rfl, ?_⟩) hH ?_
                    rotate_left
                    · intro w9 hSw
                      try dsimp only at hSw
                      obtain ⟨s0, s1, s2, s3⟩ := hSw
                      go_simp
                      try with_reducible rfl
                    try simp only [Act.put, List.setIfInBounds_toArray, List.set_cons_zero, List.set_cons_succ]
                    refine wpAnyH_take (i := 21) (oi := { dst := _, op := _, type := _, pos := _, after := _, guard := _ }) (v := ?_) rfl (by kernel_rfl) (by kernel_rfl) (by kernel_rfl) (fun _ _ _ h => h) (Or.inl ⟨by rfl, ?_⟩) hH ?_
                    rotate_left
                    · intro w9 hSw
                      try dsimp only at hSw
                      obtain ⟨s0, s1, s2, s3⟩ := hSw
                      go_simp
                      try with_reducible rfl
                    try simp only [Act.put, List.setIfInBounds_toArray, List.set_cons_zero, List.set_cons_succ]
                    refine wpAnyH_take (i := 22) (oi := { dst := _, op := _, type := _, pos := _, after := _, guard := _ }) (v := ?_) rfl (by kernel_rfl) (by kernel_rfl) (by kernel_rfl) (fun _ _ _ h => h) (Or.inl ⟨by rfl, ?_⟩) hH ?_
                    rotate_left
                    · intro w9 hSw
                      try dsimp only at hSw
                      obtain ⟨s0, s1, s2, s3⟩ := hSw
                      go_simp
                      try with_reducible rfl
                    try simp only [Act.put, List.setIfInBounds_toArray, List.set_cons_zero, List.set_cons_succ]
                    refine wpAnyH_take (i := 23) (oi := { dst := _, op := _, type := _, pos := _, after := _, guard := _ }) (v := ?_) rfl (by kernel_rfl) (by kernel_rfl) (by kernel_rfl) (fun _ _ _ h => h) (Or.inl ⟨by rfl, ?_⟩) hH ?_
                    rotate_left
                    · intro w9 hSw
                      try dsimp only at hSw
                      obtain ⟨s0, s1, s2, s3⟩ := hSw
                      go_simp
                      try with_reducible rfl
                    try simp only [Act.put, List.setIfInBounds_toArray, List.set_cons_zero, List.set_cons_succ]
                    refine wpAnyH_take (i := 24) (oi := { dst := _, op := _, type := _, pos := _, after := _, guard := _ }) (v := ?_) rfl (by kernel_rfl) (by kernel_rfl) (by kernel_rfl) (fun _ _ _ h => h) (Or.inl ⟨by rfl, ?_⟩) hH ?_
                    rotate_left
                    · intro w9 hSw
                      try dsimp only at hSw
                      obtain ⟨s0, s1, s2, s3⟩ := hSw
                      go_simp
                      try with_reducible rfl
                    try simp only [Act.put, List.setIfInBounds_toArray, List.set_cons_zero, List.set_cons_succ]
                    refine wpAnyH_take (i := 25) (oi := { dst := _, op := _, type := _, pos := _, after := _, guard := _ }) (v := ?_) rfl (by kernel_rfl) (by kernel_rfl) (by kernel_rfl) (fun _ _ _ h => h) (Or.inl ⟨by rfl, ?_⟩) hH ?_
                    rotate_left
                    · intro w9 hSw
                      try dsimp only at hSw
                      obtain ⟨s0, s1, s2, s3⟩ := hSw
                      go_simp
                      try with_reducible rfl
                    try simp only [Act.put, List.setIfInBounds_toArray, List.set_cons_zero, List.set_cons_succ]
                    refine wpAnyH_take (i := 26) (oi := { dst := _, op := _, type := _, pos := _, after := _, guard := _ }) (v := ?_) rfl (by kernel_rfl) (by kernel_rfl) (by kernel_rfl) (fun _ _ _ h => h) (Or.inl ⟨by rfl, ?_⟩) hH ?_
                    rotate_left
                    · intro w9 hSw
                      try dsimp only at hSw
                      obtain ⟨s0, s1, s2, s3⟩ := hSw
                      go_simp
                      try with_reducible rfl
                    try simp only [Act.put, List.setIfInBounds_toArray, List.set_cons_zero, List.set_cons_succ]
                    refine wpAnyH_take (i := 27) (oi := { dst := _, op := _, type := _, pos := _, after := _, guard := _ }) (v := ?_) rfl (by kernel_rfl) (by kernel_rfl) (by kernel_rfl) (fun _ _ _ h => h) (Or.inl ⟨by rfl, ?_⟩) hH ?_
                    rotate_left
                    · intro w9 hSw
                      try dsimp only at hSw
                      obtain ⟨s0, s1, s2, s3⟩ := hSw
                      go_simp
                      try with_reducible rfl
                    try simp only [Act.put, List.setIfInBounds_toArray, List.set_cons_zero, List.set_cons_succ]
                    refine wpAnyH_take (i := 28) (oi := { dst := _, op := _, type := _, pos := _, after := _, guard := _ }) (v := ?_) rfl (by kernel_rfl) (by kernel_rfl) (by kernel_rfl) (fun _ _ _ h => h) (Or.inl ⟨by rfl, ?_⟩) hH ?_
                    rotate_left
                    · intro w9 hSw
                      try dsimp only at hSw
                      obtain ⟨s0, s1, s2, s3⟩ := hSw
                      go_simp
                      try with_reducible rfl
                    try simp only [Act.put, List.setIfInBounds_toArray, List.set_cons_zero, List.set_cons_succ]
                    refine wpAnyH_take (i := 29) (oi := { dst := _, op := _, type := _, pos := _, after := _, guard := _ }) (v := ?_) rfl (by kernel_rfl) (by kernel_rfl) (by kernel_rfl) (fun _ _ _ h => h) (Or.inl ⟨by rfl, ?_⟩) hH ?_
                    rotate_left
                    · intro w9 hSw
                      try dsimp only at hSw
                      obtain ⟨s0, s1, s2, s3⟩ := hSw
                      go_simp
                      try with_reducible rfl
                    try simp only [Act.put, List.setIfInBounds_toArray, List.set_cons_zero, List.set_cons_succ]
                    refine wpAnyH_take (i := 30) (oi := { dst := _, op := _, type := _, pos := _, after := _, guard := _ }) (v := ?_) rfl (by kernel_rfl) (by kernel_rfl) (by kernel_rfl) (fun _ _ _ h => h) (Or.inl ⟨by rfl, ?_⟩) hH ?_
                    rotate_left
                    · intro w9 hSw
                      try dsimp only at hSw
                      obtain ⟨s0, s1, s2, s3⟩ := hSw
                      go_simp
                      try with_reducible rfl
                    try simp only [Act.put, List.setIfInBounds_toArray, List.set_cons_zero, List.set_cons_succ]
                    refine wpAnyH_take (i := 31) (oi := { dst := _, op := _, type := _, pos := _, after := _, guard := _ }) (v := ?_) rfl (by kernel_rfl) (by kernel_rfl) (by kernel_rfl) (fun _ _ _ h => h) (Or.inl ⟨by rfl, ?_⟩) hH ?_
                    rotate_left
                    · intro w9 hSw
                      try dsimp only at hSw
                      obtain ⟨s0, s1, s2, s3⟩ := hSw
                      go_simp
                      try with_reducible rfl
                    try simp only [Act.put, List.setIfInBounds_toArray, List.set_cons_zero, List.set_cons_succ]
                    refine wpAnyH_take (i := 32) (oi := { dst := _, op := _, type := _, pos := _, after := _, guard := _ }) (v := ?_) rfl (by kernel_rfl) (by kernel_rfl) (by kernel_rfl) (fun _ _ _ h => h) (Or.inl ⟨by rfl, ?_⟩) hH ?_
                    rotate_left
                    · intro w9 hSw
                      try dsimp only at hSw
                      obtain ⟨s0, s1, s2, s3⟩ := hSw
                      go_simp
                      try with_reducible rfl
                    try simp only [Act.put, List.setIfInBounds_toArray, List.set_cons_zero, List.set_cons_succ]
                    refine wpAnyH_done (by kernel_rfl) ?_ _
                    go_wp2
                    go_roundw
                    case rel => exact ⟨e + 1, hlt2, by go_num, hBf⟩
                    case measure => simp [intOf]; omega
            · obtain rfl : e = n := by omega
              have hlt2I : ¬ (e : Int) < (e : Int) := by omega
              go_wp2
              go_roundw
              case rel => exact ⟨j + 1, hlt, by go_num, hBr⟩
              case measure => simp [intOf]; omega
        · obtain rfl : j = m := by omega
          have hltI : ¬ (j : Int) + 1 ≤ (j : Int) := by omega
          replace hz := hz.now hBr
          replace hx := hx.now hBr
          replace hO1 := hO1.now hBr
          replace hbox1 := hbox1.now hBr
          replace hB := hB.trans (hBr.mono hB.size)
          clear hBr hj
          go_wp2
          go_loopw [27] (fun i wr => ∃ k : Nat, k ≤ W.length ∧ i = .int .i64 k ∧ Below wd.heap.size wd wr) (fun i _ => W.length - (intOf i).toNat)
          case atStart => exact ⟨0, Nat.zero_le _, rfl, Below.refl _ _⟩
          case round =>
            obtain ⟨k, hk, rfl, hBk⟩ := hrel
            by_cases hlt : k < W.length
            · obtain ⟨sb, so, hSA, _, z0⟩ := ints_at (hz.now hBk).lst k hlt
              cases hSA
              have hw1 := hWnH.out _ (List.getElem_mem hlt)
              obtain ⟨sv, hsv⟩ : ∃ sv, W[k] = sv := ⟨_, rfl⟩
              rw [hsv] at z0 hw1
              have hnl : ¬ sv < -1 := by omega
              clear hsv hw1
              go_wp2
              go_roundw
              case rel => exact ⟨k + 1, hlt, by go_num, hBk⟩
              case measure => simp [intOf]; omega
            · obtain rfl : k = W.length := by omega
              have l0 := (hbox1.now hBk).lt
              obtain ⟨k0, k1⟩ := (hbox1.now hBk).c2
              go_wp2_with fail
              refine (impl_IsFiringTable _ (n : Int) gp _ X _ (hO1.now hBk).lst (hx.now hBk).lst).mono ?_
              rintro e w11 ⟨rfl, hB11⟩
              rw [htabH.out]
              go_wp2
              go_ret
              exact ⟨rfl, hB.trans ((hBk.trans (hB11.mono hBk.size)).mono hB.size)⟩
    · have hq2 : (cd != 0) = true := by simpa using hc0
      clear hc0
      go_wp2
      go_ret
      exact ⟨rfl, hB⟩
theorem FnFirings_own : ownKnob Try.prog.godebug = none := by kernel_rfl
theorem FnFirings_laidOut : laidOutB Try.prog = true := by kernel_rfl
set_option maxRecDepth 100000 in
theorem FnFirings_lifted (os : Os) (started : os.Started) (H : Type) (enc : TypeId × Value → H) :
    ReturnsInHanded {} Try.checked os 3 .any (Rows.fnFiringsSpec.pre6 enc Try.prog Try.f3 Rows.fnFiringsRow.domain false) (Rows.fnFiringsSpec.post enc Try.prog Try.f3 false true false false) := by
  refine returnsInHanded_of_change (C := Try.checked) FnFirings_own started (by kernel_rfl) Try.func3
    (ChangeSpec.witness6 (enc := enc) (C := Try.checked) false ⟨#[], #[.slice none 0 0], []⟩ 8 (by kernel_rfl) (by kernel_rfl) (by kernel_rfl) (by kernel_rfl)) ?_
  intro W base args ds gs before hval0 hW hcnd _
  have hval : ∀ (j : Nat) t v, Try.f3.params[j]? = some t → args[j]? = some v → Value.okWide Try.prog W .any base t v := hval0
  have hW' := hW
  obtain ⟨p, q, hA0, hV, rfl, hfz, hnd⟩ := hW
  have hA : DataW.TrodAll enc Try.prog W 0 (fun _ => true) true Try.f3.params.toList args.toList ds p := hA0
  rw [Try.params3] at hA hval
  obtain ⟨v0, vs0, d0, ds0, p0, q0, hargs, rfl, rfl, h0, r0⟩ := trodAll_cons hA
  obtain ⟨rfl, rfl, rfl⟩ := trodAll_nil r0
  obtain rfl : args = #[v0] := by cases args; simp_all
  obtain ⟨rfl, rfl⟩ := trodVars_none hV
  have k0 := h0
  have lt0 : ∀ x ∈ p0, x.block < W.heap.size := by obtain ⟨m, hm⟩ := k0; exact DataW.trod_lt m _ _ _ hm
  obtain ⟨A0, n0, c0, rfl⟩ := okWide_slice Try.underlying22 (hval 0 22 v0 rfl rfl)
  obtain ⟨fuel0, hf0⟩ := h0
  obtain ⟨l0, a0, o0⟩ := open_bytes Try.underlying22 Try.underlying5 (by kernel_rfl) (show DataW.trod enc Try.prog W 0 (fun _ => true) true fuel0 22 [_] = _ by simpa [Value.cells] using hf0)
  clear hA0 hval0
  refine (law_FnFirings _ _ W a0 o0).mono fun e W' ⟨he, bel⟩ => ?_
  subst he
  exact ⟨_, rfl, _, _, _, [], _, [], hW', trodAll_mk1 (shut_bool Try.underlying4 _), (trodAll_cons_mk (Below.trod FnFirings_laidOut (by kernel_rfl) (of_decide_eq_true (by kernel_rfl)) k0 bel lt0) trodAll_mk0), rfl, bel.frame _, fun h => by cases h⟩
theorem FnFirings_over : Rows.fnFiringsRow.holds Try.pinned (OpenSpec.ofChange Rows.fnFiringsSpec) :=
  OpenClaim.holds_of_wide 3 Try.f3 rfl rfl rfl rfl rfl rfl rfl ⟨rfl, rfl, rfl, rfl, rfl⟩ rfl rfl rfl rfl rfl (by kernel_rfl) Try.func3 (by kernel_rfl)
    (of_decide_eq_true (by kernel_rfl)) (by unfold Func.isWrapper; first | (rw [if_pos (by decide +kernel)]; kernel_rfl) | (rw [if_neg (by decide +kernel)]; exact ⟨rfl, rfl⟩))
    (fun os started H enc _ => FnFirings_lifted os started H enc)
/-- The given statement. -/
theorem FnFirings_proved : Rows.FnFiringsSaid := FnFirings_over
end Go.Proofs.Ytkbhbmoogkjafaa
