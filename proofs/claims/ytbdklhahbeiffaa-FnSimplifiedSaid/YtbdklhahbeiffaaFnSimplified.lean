/-
  FnSimplified returns true for every input: simplifying twice is simplifying once, and does not change firing times.
  Conditions: none beyond the statement's own.
-/
import Derived.Test.YtbdklhahbeiffaaSmpS
import Derived.Test.YtbdklhahbeiffaaDrS
import Derived.Test.YtbdklhahbeiffaaLike
namespace Go.Proofs.Ytbdklhahbeiffaa
open Go.RowKit Go.ChangeShapes Go.WideShapes Go.ChangeAt Go.Deep
set_option linter.unusedVariables false
set_option linter.unusedSimpArgs false
set_option maxHeartbeats 4000000 in
set_option maxRecDepth 100000 in
theorem laws_likeGraphs9 (v u : Value) (ge : Int) (gp : List Place) (w : World) (h0 : Lst Place.cells 4 w w.heap.size v gp) (h1 : Lst Place.cells 4 w w.heap.size u gp) :
    Calls Try.prog 45 #[.agg #[.int .i64 ge, v], .agg #[.int .i64 ge, u]] w fun r w' => r = .returned (.bool true) ∧ Below w.heap.size w w' := by
  obtain ⟨A, c, rfl⟩ := h0.shape
  obtain ⟨C, d, rfl⟩ := h1.shape
  have hl := h0.len_le
  have hne : ((gp.length : Int) != (gp.length : Int)) = false := by simp
  have hne2 : (ge != ge) = false := by simp
  go_enter Try.func45, Try.ntmps45
  go_wp2
  have hW : Below w.heap.size w ((w.alloc (.cells #[.int .i64 ge, .slice A gp.length c] 32)).alloc (.cells #[.int .i64 ge, .slice C gp.length d] 32)) := (((Below.refl _ _).alloc (Nat.le_refl _) _).alloc (by first | (simp; done) | (simp; omega)) _); have hb0 : Blk ((w.alloc (.cells #[.int .i64 ge, .slice A gp.length c] 32)).alloc (.cells #[.int .i64 ge, .slice C gp.length d] 32)) (w.heap.size) 32 #[.int .i64 ge, .slice A gp.length c] := ((Blk.newAt w _ (by first | rfl | (simp; done) | (simp; omega))).alloc _); have hb1 : Blk ((w.alloc (.cells #[.int .i64 ge, .slice A gp.length c] 32)).alloc (.cells #[.int .i64 ge, .slice C gp.length d] 32)) (w.heap.size + 1) 32 #[.int .i64 ge, .slice C gp.length d] := (Blk.newAt (w.alloc (.cells #[.int .i64 ge, .slice A gp.length c] 32)) _ (by first | rfl | (simp; done) | (simp; omega))); replace h0 := h0.now hW; replace h1 := h1.now hW; have hsW : w.heap.size + 2 = ((w.alloc (.cells #[.int .i64 ge, .slice A gp.length c] 32)).alloc (.cells #[.int .i64 ge, .slice C gp.length d] 32)).heap.size := (by first | rfl | (simp; done) | (simp; omega)); generalize ((w.alloc (.cells #[.int .i64 ge, .slice A gp.length c] 32)).alloc (.cells #[.int .i64 ge, .slice C gp.length d] 32)) = W at *; replace hsW := Lib.hid hsW
  go_loopw [5] (fun i wr => ∃ k : Nat, k ≤ gp.length ∧ i = .int .i64 k ∧ Below W.heap.size W wr) (fun i _ => gp.length - (intOf i).toNat)
  case atStart => exact ⟨0, Nat.zero_le _, rfl, Below.refl _ _⟩
  case round =>
    obtain ⟨k, hk, rfl, hB⟩ := hrel
    obtain ⟨k0, k1⟩ := (hb0.now hB).c2
    obtain ⟨m0, m1⟩ := (hb1.now hB).c2
    have l0 := (hb0.now hB).lt
    have l1 := (hb1.now hB).lt
    by_cases hlt : k < gp.length
    · obtain ⟨b1, o1, hA, -, d0, d1, d2, d3⟩ := places_at (h0.now hB) k hlt
      cases hA
      obtain ⟨b2, o2, hA2, -, d4, d5, d6, d7⟩ := places_at (h1.now hB) k hlt
      cases hA2
      have i1 : (0 : Int) ≤ (k : Int) := by omega
      have i2 : (k : Int) < (gp.length : Int) := by omega
      generalize gp[k].src = x0 at *
      generalize gp[k].dst = x1 at *
      generalize gp[k].delay = x2 at *
      generalize gp[k].tokens = x3 at *
      have hDw : Below wr.heap.size wr wr.drew := Below.drew (Below.refl _ wr)
      replace d0 := cell_keep d0 hDw
      replace d1 := cell_keep d1 hDw
      replace d2 := cell_keep d2 hDw
      replace d3 := cell_keep d3 hDw
      replace d4 := cell_keep d4 hDw
      replace d5 := cell_keep d5 hDw
      replace d6 := cell_keep d6 hDw
      replace d7 := cell_keep d7 hDw
      have k1' := cell_keep k1 hDw
      have m1' := cell_keep m1 hDw
      have l0' : w.heap.size < wr.drew.heap.size := (hb0.now (hB.trans (hDw.mono hB.size))).lt
      go_wp2
      refine wp_region_held_drew (S := fun w' => w'.cell? ⟨w.heap.size, 1, none⟩ = some (.slice (some ⟨b1, o1, none⟩) gp.length c) ∧ w'.cell? ⟨w.heap.size + 1, 1, none⟩ = some (.slice (some ⟨b2, o2, none⟩) gp.length d) ∧ w'.cell? ⟨b1, o1 + k * 4, none⟩ = some (.int .i64 x0) ∧ w'.cell? ⟨b1, o1 + k * 4 + 1, none⟩ = some (.int .i64 x1) ∧ w'.cell? ⟨b1, o1 + k * 4 + 2, none⟩ = some (.int .i64 x2) ∧ w'.cell? ⟨b1, o1 + k * 4 + 3, none⟩ = some (.int .i64 x3) ∧ w'.cell? ⟨b2, o2 + k * 4, none⟩ = some (.int .i64 x0) ∧ w'.cell? ⟨b2, o2 + k * 4 + 1, none⟩ = some (.int .i64 x1) ∧ w'.cell? ⟨b2, o2 + k * 4 + 2, none⟩ = some (.int .i64 x2) ∧ w'.cell? ⟨b2, o2 + k * 4 + 3, none⟩ = some (.int .i64 x3)) (by kernel_rfl) ⟨k1', m1', d0, d1, d2, d3, d4, d5, d6, d7⟩ (fun hH => ?_)
      refine tkH 0 (v := ?_) rfl (fun _ _ _ h => h) (Or.inl ⟨by rfl, ?_⟩) hH ?_
      rotate_left
      · intro w9 hSw
        try dsimp only at hSw
        obtain ⟨s0, s1, s2, s3, s4, s5, s6, s7, s8, s9⟩ := hSw
        go_simp
        try with_reducible rfl
      try simp only [Act.put, List.setIfInBounds_toArray, List.set_cons_zero, List.set_cons_succ]
      refine tkH 1 (v := ?_) rfl (fun _ _ _ h => h) (Or.inl ⟨by rfl, ?_⟩) hH ?_
      rotate_left
      · intro w9 hSw
        try dsimp only at hSw
        obtain ⟨s0, s1, s2, s3, s4, s5, s6, s7, s8, s9⟩ := hSw
        go_simp
        try with_reducible rfl
      try simp only [Act.put, List.setIfInBounds_toArray, List.set_cons_zero, List.set_cons_succ]
      refine tkH 2 (v := ?_) rfl (fun _ _ _ h => h) (Or.inl ⟨by rfl, ?_⟩) hH ?_
      rotate_left
      · intro w9 hSw
        try dsimp only at hSw
        obtain ⟨s0, s1, s2, s3, s4, s5, s6, s7, s8, s9⟩ := hSw
        go_simp
        try with_reducible rfl
      try simp only [Act.put, List.setIfInBounds_toArray, List.set_cons_zero, List.set_cons_succ]
      refine tkH 3 (v := ?_) rfl (fun _ _ _ h => h) (Or.inl ⟨by rfl, ?_⟩) hH ?_
      rotate_left
      · intro w9 hSw
        try dsimp only at hSw
        obtain ⟨s0, s1, s2, s3, s4, s5, s6, s7, s8, s9⟩ := hSw
        go_simp
        try with_reducible rfl
      try simp only [Act.put, List.setIfInBounds_toArray, List.set_cons_zero, List.set_cons_succ]
      refine tkH 4 (v := ?_) rfl (fun _ _ _ h => h) (Or.inl ⟨by rfl, ?_⟩) hH ?_
      rotate_left
      · intro w9 hSw
        try dsimp only at hSw
        obtain ⟨s0, s1, s2, s3, s4, s5, s6, s7, s8, s9⟩ := hSw
        go_simp
        try with_reducible rfl
      try simp only [Act.put, List.setIfInBounds_toArray, List.set_cons_zero, List.set_cons_succ]
      refine tkH 5 (v := ?_) rfl (fun _ _ _ h => h) (Or.inl ⟨by rfl, ?_⟩) hH ?_
      rotate_left
      · intro w9 hSw
        try dsimp only at hSw
        obtain ⟨s0, s1, s2, s3, s4, s5, s6, s7, s8, s9⟩ := hSw
        go_simp
        try with_reducible rfl
      try simp only [Act.put, List.setIfInBounds_toArray, List.set_cons_zero, List.set_cons_succ]
      refine tkH 6 (v := ?_) rfl (fun _ _ _ h => h) (Or.inl ⟨by rfl, ?_⟩) hH ?_
      rotate_left
      · intro w9 hSw
        try dsimp only at hSw
        obtain ⟨s0, s1, s2, s3, s4, s5, s6, s7, s8, s9⟩ := hSw
        go_simp
        try with_reducible rfl
      try simp only [Act.put, List.setIfInBounds_toArray, List.set_cons_zero, List.set_cons_succ]
      refine tkH 7 (v := ?_) rfl (fun _ _ _ h => h) (Or.inl ⟨by rfl, ?_⟩) hH ?_
      rotate_left
      · intro w9 hSw
        try dsimp only at hSw
        obtain ⟨s0, s1, s2, s3, s4, s5, s6, s7, s8, s9⟩ := hSw
        go_simp
        try with_reducible rfl
      try simp only [Act.put, List.setIfInBounds_toArray, List.set_cons_zero, List.set_cons_succ]
      refine tkH 8 (v := ?_) rfl (fun _ _ _ h => h) (Or.inl ⟨by rfl, ?_⟩) hH ?_
      rotate_left
      · intro w9 hSw
        try dsimp only at hSw
        obtain ⟨s0, s1, s2, s3, s4, s5, s6, s7, s8, s9⟩ := hSw
        go_simp
        try with_reducible rfl
      try simp only [Act.put, List.setIfInBounds_toArray, List.set_cons_zero, List.set_cons_succ]
      refine tkH 9 (v := ?_) rfl (fun _ _ _ h => h) (Or.inl ⟨by rfl, ?_⟩) hH ?_
      rotate_left
      · intro w9 hSw
        try dsimp only at hSw
        obtain ⟨s0, s1, s2, s3, s4, s5, s6, s7, s8, s9⟩ := hSw
        go_simp
        try with_reducible rfl
      try simp only [Act.put, List.setIfInBounds_toArray, List.set_cons_zero, List.set_cons_succ]
      refine tkH 10 (v := ?_) rfl (fun _ _ _ h => h) (Or.inl ⟨by rfl, ?_⟩) hH ?_
      rotate_left
      · intro w9 hSw
        try dsimp only at hSw
        obtain ⟨s0, s1, s2, s3, s4, s5, s6, s7, s8, s9⟩ := hSw
        go_simp
        try with_reducible rfl
      try simp only [Act.put, List.setIfInBounds_toArray, List.set_cons_zero, List.set_cons_succ]
      refine wpAnyH_done (by kernel_rfl) ?_ _
      have hB' := hB.trans (hDw.mono hB.size)
      go_wp2
      go_roundw
      case rel => exact ⟨k + 1, hlt, by go_num, hB'⟩
      case measure => simp [intOf]; omega
    · obtain rfl : k = gp.length := by omega
      go_wp2
      go_ret
      exact ⟨rfl, hW.trans (hB.mono hW.size)⟩
theorem simplF_res {ge : Int} {gp : List Place} {a : Int} {b : List Place} (h : simplF ge gp = (a, b, 0)) : okGraph ge gp = true ∧ ge = a ∧ simpF gp = b := by
  unfold simplF at h
  split at h
  · rename_i hg
    injection h with h1 h2
    injection h2 with h2 h3
    exact ⟨hg, h1, h2⟩
  · simp at h
theorem simplF_again {ge : Int} {gp : List Place} (h : okGraph ge gp = true) : simplF ge (simpF gp) = (ge, simpF gp, 0) := by
  unfold simplF
  rw [if_pos (simpF_ok h), simpF_twice]
set_option maxHeartbeats 32000000 in
set_option maxRecDepth 100000 in
theorem law_FnSimplified (cv : Value) (bs : List Int) (w : World) (a0 : Lst byteCell 1 w w.heap.size cv bs) (o0 : Hid (∀ b ∈ bs, 0 ≤ b ∧ b ≤ 255)) :
    Calls Try.prog 7 #[cv] w fun e w' => e = .returned (.bool true) ∧ Below w.heap.size w w' := by
  obtain ⟨CA, cc, rfl⟩ := a0.shape
  by_cases hbig : (4096 : Int) < (bs.length : Int)
  · have hq : Hid (decide ((4096 : Int) < (bs.length : Int)) = true) := decide_eq_true hbig
    clear hbig
    go_enter Try.func7, Try.ntmps7
    go_wp2_with (go_at_call 21; refine (laws_big _ _ _ a0).mono ?_; rintro e w1 ⟨rfl, rfl⟩; rw [hq.out])
    go_ret
    exact ⟨rfl, Below.refl _ _⟩
  · have hq : Hid (decide ((4096 : Int) < (bs.length : Int)) = false) := decide_eq_false hbig
    clear hbig
    go_enter Try.func7, Try.ntmps7
    go_wp2_with fail
    refine (laws_big _ _ _ a0).mono ?_
    rintro e w1 ⟨rfl, rfl⟩
    rw [hq.out]
    go_wp2_with fail
    refine (spec_DrawSimplifyGraph _ bs w a0 o0).mono ?_
    rintro e w0 ⟨ge, gp, v, rfl, hg0, hg1, hglen, hO1, hB⟩
    obtain ⟨A1, c1, rfl⟩ := hO1.shape
    have hA : Below w0.heap.size w0 (w0.alloc (.cells #[.int .i64 ge, .slice A1 gp.length c1] 32)) := (Below.refl _ _).alloc (Nat.le_refl _) _
    have hx1 : Blk (w0.alloc (.cells #[.int .i64 ge, .slice A1 gp.length c1] 32)) w0.heap.size 32 #[.int .i64 ge, .slice A1 gp.length c1] := Blk.newAt w0 _ rfl
    go_wp2_with fail
    replace hO1 := hO1.now hA
    replace hB := hB.trans (hA.mono hB.size)
    clear hA
    generalize (w0.alloc (.cells #[.int .i64 ge, .slice A1 gp.length c1] 32)) = wa at *
    generalize w0.heap.size = b1 at *
    obtain ⟨e1, g1, cd, hF⟩ : ∃ a b c, simplF ge gp = (a, b, c) := ⟨_, _, _, rfl⟩
    have hFH := Lib.hid hF
    refine (impl_SimplifyGraph _ ge gp _ hO1.lst).mono ?_
    rintro e w1 ⟨z, rfl, hz, hB2⟩
    rw [hF] at hz ⊢
    dsimp only at hz ⊢
    obtain ⟨ZA, zc, rfl⟩ := hz.shape
    replace hO1 := hO1.now hB2
    replace hx1 := hx1.now hB2
    replace hB := hB.trans (hB2.mono hB.size)
    clear hB2
    have hA : Below w1.heap.size w1 (w1.alloc (.cells #[.int .i64 e1, .slice ZA g1.length zc] 32)) := (Below.refl _ _).alloc (Nat.le_refl _) _
    have hx2 : Blk (w1.alloc (.cells #[.int .i64 e1, .slice ZA g1.length zc] 32)) w1.heap.size 32 #[.int .i64 e1, .slice ZA g1.length zc] := Blk.newAt w1 _ rfl
    obtain ⟨khx10, khx11⟩ := hx1.c2
    have lhx1 := hx1.lt
    go_wp2_with fail
    clear khx10 khx11 lhx1
    replace hO1 := hO1.now hA
    replace hx1 := hx1.now hA
    replace hz := hz.now hA
    replace hB := hB.trans (hA.mono hB.size)
    clear hA
    generalize (w1.alloc (.cells #[.int .i64 e1, .slice ZA g1.length zc] 32)) = wb at *
    generalize w1.heap.size = b2 at *
    refine (spec_SimplifyGraph _ ge gp _ hO1.lst).mono ?_
    rintro e w2 ⟨z, rfl, hy, hB2⟩
    rw [hF] at hy ⊢
    dsimp only at hy ⊢
    clear hF
    obtain ⟨YA, yc, rfl⟩ := hy.shape
    replace hO1 := hO1.now hB2
    replace hx1 := hx1.now hB2
    replace hz := hz.now hB2
    replace hx2 := hx2.now hB2
    replace hB := hB.trans (hB2.mono hB.size)
    clear hB2
    have q1 : (cd != cd) = false := by simp
    have hA : Below w2.heap.size w2 (w2.alloc (.cells #[.int .i64 e1, .slice YA g1.length yc] 32)) := (Below.refl _ _).alloc (Nat.le_refl _) _
    have hx3 : Blk (w2.alloc (.cells #[.int .i64 e1, .slice YA g1.length yc] 32)) w2.heap.size 32 #[.int .i64 e1, .slice YA g1.length yc] := Blk.newAt w2 _ rfl
    obtain ⟨khx20, khx21⟩ := hx2.c2
    have lhx2 := hx2.lt
    go_wp2_with fail
    clear khx20 khx21 lhx2
    replace hO1 := hO1.now hA
    replace hx1 := hx1.now hA
    replace hz := hz.now hA
    replace hx2 := hx2.now hA
    replace hy := hy.now hA
    replace hB := hB.trans (hA.mono hB.size)
    clear hA
    generalize (w2.alloc (.cells #[.int .i64 e1, .slice YA g1.length yc] 32)) = wc at *
    generalize w2.heap.size = b3 at *
    refine (laws_likeGraphs9 _ _ e1 g1 _ hz.lst hy.lst).mono ?_
    rintro e w3 ⟨rfl, hB2⟩
    replace hO1 := hO1.now hB2
    replace hx1 := hx1.now hB2
    replace hz := hz.now hB2
    replace hx2 := hx2.now hB2
    replace hy := hy.now hB2
    replace hx3 := hx3.now hB2
    replace hB := hB.trans (hB2.mono hB.size)
    clear hB2
    clear hy hx3
    by_cases hcd : cd = 0
    · subst hcd
      obtain ⟨hok, rfl, rfl⟩ := simplF_res hFH.out
      have hag := Lib.hid (simplF_again hok)
      have htm := Lib.hid (timesF_simp hok 6)
      obtain ⟨khx20, khx21⟩ := hx2.c2
      have lhx2 := hx2.lt
      go_wp2_with fail
      clear khx20 khx21 lhx2
      refine (impl_SimplifyGraph _ ge (simpF gp) _ hz.lst).mono ?_
      rintro e w4 ⟨z, rfl, hy, hB2⟩
      rw [hag.out] at hy ⊢
      dsimp only at hy ⊢
      obtain ⟨QA, qc, rfl⟩ := hy.shape
      replace hO1 := hO1.now hB2
      replace hx1 := hx1.now hB2
      replace hz := hz.now hB2
      replace hx2 := hx2.now hB2
      replace hB := hB.trans (hB2.mono hB.size)
      clear hB2
      have hA : Below w4.heap.size w4 (w4.alloc (.cells #[.int .i64 ge, .slice QA (simpF gp).length qc] 32)) := (Below.refl _ _).alloc (Nat.le_refl _) _
      have hx4 : Blk (w4.alloc (.cells #[.int .i64 ge, .slice QA (simpF gp).length qc] 32)) w4.heap.size 32 #[.int .i64 ge, .slice QA (simpF gp).length qc] := Blk.newAt w4 _ rfl
      obtain ⟨khx10, khx11⟩ := hx1.c2
      have lhx1 := hx1.lt
      go_wp2_with fail
      clear khx10 khx11 lhx1
      replace hO1 := hO1.now hA
      replace hx1 := hx1.now hA
      replace hz := hz.now hA
      replace hx2 := hx2.now hA
      replace hy := hy.now hA
      replace hB := hB.trans (hA.mono hB.size)
      clear hA
      generalize (w4.alloc (.cells #[.int .i64 ge, .slice QA (simpF gp).length qc] 32)) = wd at *
      generalize w4.heap.size = b4 at *
      obtain ⟨T, ct, hT⟩ : ∃ a b, timesF ge gp 6 = (a, b) := ⟨_, _, rfl⟩
      refine (impl_FiringTimes _ ge gp 6 _ hO1.lst).mono ?_
      rintro e w5 ⟨t1, rfl, hT1, hB2⟩
      rw [hT] at hT1 ⊢
      dsimp only at hT1 ⊢
      replace hO1 := hO1.now hB2
      replace hx1 := hx1.now hB2
      replace hz := hz.now hB2
      replace hx2 := hx2.now hB2
      replace hy := hy.now hB2
      replace hx4 := hx4.now hB2
      replace hB := hB.trans (hB2.mono hB.size)
      clear hB2
      obtain ⟨khx20, khx21⟩ := hx2.c2
      have lhx2 := hx2.lt
      go_wp2_with fail
      clear khx20 khx21 lhx2
      refine (impl_FiringTimes _ ge (simpF gp) 6 _ hz.lst).mono ?_
      rintro e w6 ⟨t2, rfl, hT2, hB2⟩
      rw [htm.out, hT] at hT2 ⊢
      dsimp only at hT2 ⊢
      clear hT
      replace hO1 := hO1.now hB2
      replace hx1 := hx1.now hB2
      replace hz := hz.now hB2
      replace hx2 := hx2.now hB2
      replace hy := hy.now hB2
      replace hx4 := hx4.now hB2
      replace hT1 := hT1.now hB2
      replace hB := hB.trans (hB2.mono hB.size)
      clear hB2
      obtain ⟨khx40, khx41⟩ := hx4.c2
      have lhx4 := hx4.lt
      obtain ⟨khx20, khx21⟩ := hx2.c2
      have lhx2 := hx2.lt
      go_wp2_with fail
      clear khx40 khx41 lhx4 khx20 khx21 lhx2
      refine (laws_likeGraphs9 _ _ ge (simpF gp) _ hy.lst hz.lst).mono ?_
      rintro e w7 ⟨rfl, hB2⟩
      replace hO1 := hO1.now hB2
      replace hx1 := hx1.now hB2
      replace hz := hz.now hB2
      replace hx2 := hx2.now hB2
      replace hy := hy.now hB2
      replace hx4 := hx4.now hB2
      replace hT1 := hT1.now hB2
      replace hT2 := hT2.now hB2
      replace hB := hB.trans (hB2.mono hB.size)
      clear hB2
      have q2 : (ct == ct) = true := by simp
      go_wp2_with fail
      refine (laws_likeTables9 _ _ T T _ hT1.lst hT2.lst).mono ?_
      rintro e w8 ⟨rfl, hB2⟩
      rw [show decide (T = T) = true from decide_eq_true rfl]
      replace hO1 := hO1.now hB2
      replace hx1 := hx1.now hB2
      replace hz := hz.now hB2
      replace hx2 := hx2.now hB2
      replace hy := hy.now hB2
      replace hx4 := hx4.now hB2
      replace hT1 := hT1.now hB2
      replace hT2 := hT2.now hB2
      replace hB := hB.trans (hB2.mono hB.size)
      clear hB2
      go_wp2
      go_ret
      exact ⟨rfl, hB⟩
    · have q3 : (cd != 0) = true := by simpa using hcd
      clear hcd
      go_wp2
      go_ret
      exact ⟨rfl, hB⟩
theorem FnSimplified_own : ownKnob Try.prog.godebug = none := by kernel_rfl
theorem FnSimplified_laidOut : laidOutB Try.prog = true := by kernel_rfl
set_option maxRecDepth 100000 in
theorem FnSimplified_lifted (os : Os) (started : os.Started) (H : Type) (enc : TypeId × Value → H) :
    ReturnsInHanded {} Try.checked os 7 .any (Rows.fnSimplifiedSpec.pre6 enc Try.prog Try.f7 Rows.fnSimplifiedRow.domain false) (Rows.fnSimplifiedSpec.post enc Try.prog Try.f7 false true false false) := by
  refine returnsInHanded_of_change (C := Try.checked) FnSimplified_own started (by kernel_rfl) Try.func7
    (ChangeSpec.witness6 (enc := enc) (C := Try.checked) false ⟨#[], #[.slice none 0 0], []⟩ 8 (by kernel_rfl) (by kernel_rfl) (by kernel_rfl) (by kernel_rfl)) ?_
  intro W base args ds gs before hval0 hW hcnd _
  have hval : ∀ (j : Nat) t v, Try.f7.params[j]? = some t → args[j]? = some v → Value.okWide Try.prog W .any base t v := hval0
  have hW' := hW
  obtain ⟨p, q, hA0, hV, rfl, hfz, hnd⟩ := hW
  have hA : DataW.TrodAll enc Try.prog W 0 (fun _ => true) true Try.f7.params.toList args.toList ds p := hA0
  rw [Try.params7] at hA hval
  obtain ⟨v0, vs0, d0, ds0, p0, q0, hargs, rfl, rfl, h0, r0⟩ := trodAll_cons hA
  obtain ⟨rfl, rfl, rfl⟩ := trodAll_nil r0
  obtain rfl : args = #[v0] := by cases args; simp_all
  obtain ⟨rfl, rfl⟩ := trodVars_none hV
  have k0 := h0
  have lt0 : ∀ x ∈ p0, x.block < W.heap.size := by obtain ⟨m, hm⟩ := k0; exact DataW.trod_lt m _ _ _ hm
  obtain ⟨A0, n0, c0, rfl⟩ := okWide_slice Try.underlying46 (hval 0 46 v0 rfl rfl)
  obtain ⟨fuel0, hf0⟩ := h0
  obtain ⟨l0, a0, o0⟩ := open_bytes Try.underlying46 Try.underlying5 (by kernel_rfl) (show DataW.trod enc Try.prog W 0 (fun _ => true) true fuel0 46 [_] = _ by simpa [Value.cells] using hf0)
  clear hA0 hval0
  refine (law_FnSimplified _ _ W a0 o0).mono fun e W' ⟨he, bel⟩ => ?_
  subst he
  exact ⟨_, rfl, _, _, _, [], _, [], hW', trodAll_mk1 (shut_bool Try.underlying4 _), (trodAll_cons_mk (Below.trod FnSimplified_laidOut (by kernel_rfl) (of_decide_eq_true (by kernel_rfl)) k0 bel lt0) trodAll_mk0), rfl, bel.frame _, fun h => by cases h⟩
theorem FnSimplified_over : Rows.fnSimplifiedRow.holds Try.pinned (OpenSpec.ofChange Rows.fnSimplifiedSpec) :=
  OpenClaim.holds_of_wide 7 Try.f7 rfl rfl rfl rfl rfl rfl rfl ⟨rfl, rfl, rfl, rfl, rfl⟩ rfl rfl rfl rfl rfl (by kernel_rfl) Try.func7 (by kernel_rfl)
    (of_decide_eq_true (by kernel_rfl)) (by unfold Func.isWrapper; first | (rw [if_pos (by decide +kernel)]; kernel_rfl) | (rw [if_neg (by decide +kernel)]; exact ⟨rfl, rfl⟩))
    (fun os started H enc _ => FnSimplified_lifted os started H enc)
/-- The given statement. -/
theorem FnSimplified_proved : Rows.FnSimplifiedSaid := FnSimplified_over
end Go.Proofs.Ytbdklhahbeiffaa
