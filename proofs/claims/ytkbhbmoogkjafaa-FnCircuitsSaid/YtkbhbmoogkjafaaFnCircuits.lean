/-
  FnCircuits returns true for every input: a circuit may begin with any of its places, has the same ratio then, and no more than the cycle time.
  Conditions: none beyond the statement's own.
-/
import Derived.Test.YtkbhbmoogkjafaaCmpR
import Derived.Test.YtkbhbmoogkjafaaCirI
import Derived.Test.YtkbhbmoogkjafaaBytes
namespace Go.Proofs.Ytkbhbmoogkjafaa
open Go.RowKit Go.ChangeShapes Go.WideShapes Go.ChangeAt Go.Deep
set_option linter.unusedVariables false
set_option linter.unusedSimpArgs false
set_option maxHeartbeats 32000000 in
set_option maxRecDepth 100000 in
theorem law_FnCircuits (cv : Value) (bs : List Int) (w : World) (a0 : Lst byteCell 1 w w.heap.size cv bs) (o0 : Hid (∀ b ∈ bs, 0 ≤ b ∧ b ≤ 255)) :
    Calls Try.prog 6 #[cv] w fun e w' => e = .returned (.bool true) ∧ Below w.heap.size w w' := by
  obtain ⟨CA, cc, rfl⟩ := a0.shape
  by_cases hbig : (4096 : Int) < (bs.length : Int)
  · have hq : Hid (decide ((4096 : Int) < (bs.length : Int)) = true) := decide_eq_true hbig
    clear hbig
    go_enter Try.func6, Try.ntmps6
    go_wp2_with (go_at_call 13; refine (laws_big _ _ _ a0).mono ?_; rintro e w1 ⟨rfl, rfl⟩; rw [hq.out])
    go_ret
    exact ⟨rfl, Below.refl _ _⟩
  · have hq : Hid (decide ((4096 : Int) < (bs.length : Int)) = false) := decide_eq_false hbig
    clear hbig
    go_enter Try.func6, Try.ntmps6
    go_wp2_with fail
    refine (laws_big _ _ _ a0).mono ?_
    rintro e w1 ⟨rfl, rfl⟩
    rw [hq.out]
    go_wp2_with fail
    refine (spec_DrawCircuitRatio _ bs w a0 o0).mono ?_
    rintro e w0 ⟨ge, gp, v, u, rfl, hg0, hg1, hglen, l, hll, hO1, hU, hB⟩
    obtain ⟨A1, c1, rfl⟩ := hO1.shape
    obtain ⟨UA, uc, rfl⟩ := hU.shape
    have hA2 : Below w0.heap.size w0 (w0.alloc (.cells #[.int .i64 ge, .slice A1 gp.length c1] 26)) := (Below.refl _ _).alloc (Nat.le_refl _) _
    have hx1 := Blk.newAt w0 (t := 26) (cs := #[.int .i64 ge, .slice A1 gp.length c1]) _ rfl
    go_wp2_with fail
    replace hO1 := hO1.now hA2
    replace hU := hU.now hA2
    replace hB := hB.trans (hA2.mono hB.size)
    clear hA2
    generalize w0.alloc (.cells #[.int .i64 ge, .slice A1 gp.length c1] 26) = w0b at *
    generalize w0.heap.size = bg1 at *
    obtain ⟨rn, rd, cd, hF⟩ : ∃ rn rd cd, circRatio ge gp l = (rn, rd, cd) := ⟨_, _, _, rfl⟩
    have hFH := Lib.hid hF
    refine (impl_CircuitRatio _ ge gp _ l _ hO1.lst hU.lst (by omega)).mono ?_
    rintro e w2 ⟨rfl, hB2⟩
    rw [hF]
    replace hO1 := hO1.now hB2
    replace hU := hU.now hB2
    replace hx1 := hx1.now hB2
    replace hB := hB.trans (hB2.mono hB.size)
    clear hB2
    have hA2 : Below w2.heap.size w2 (w2.alloc (.cells #[.int .i64 rn, .int .i64 rd] 63)) := (Below.refl _ _).alloc (Nat.le_refl _) _
    have hx2 := Blk.newAt w2 (t := 63) (cs := #[.int .i64 rn, .int .i64 rd]) _ rfl
    obtain ⟨khx10, khx11⟩ := hx1.c2
    have lhx1 := hx1.lt
    go_wp2_with fail
    clear khx10 khx11 lhx1
    replace hO1 := hO1.now hA2
    replace hU := hU.now hA2
    replace hx1 := hx1.now hA2
    replace hB := hB.trans (hA2.mono hB.size)
    clear hA2
    generalize w2.alloc (.cells #[.int .i64 rn, .int .i64 rd] 63) = w2b at *
    generalize w2.heap.size = br at *
    refine (spec_CircuitRatio _ ge gp _ l _ hO1.lst hU.lst (by omega)).mono ?_
    rintro e w3 ⟨rfl, hB2⟩
    rw [hF]
    clear hF
    replace hO1 := hO1.now hB2
    replace hU := hU.now hB2
    replace hx1 := hx1.now hB2
    replace hx2 := hx2.now hB2
    replace hB := hB.trans (hB2.mono hB.size)
    clear hB2
    have hA2 : Below w3.heap.size w3 (w3.alloc (.cells #[.int .i64 rn, .int .i64 rd] 63)) := (Below.refl _ _).alloc (Nat.le_refl _) _
    have hx3 := Blk.newAt w3 (t := 63) (cs := #[.int .i64 rn, .int .i64 rd]) _ rfl
    go_wp2_with fail
    replace hO1 := hO1.now hA2
    replace hU := hU.now hA2
    replace hx1 := hx1.now hA2
    replace hx2 := hx2.now hA2
    replace hB := hB.trans (hA2.mono hB.size)
    clear hA2
    generalize w3.alloc (.cells #[.int .i64 rn, .int .i64 rd] 63) = w3b at *
    generalize w3.heap.size = bm at *
    refine (spec_DrawIsCircuit _ bs _ (a0.now hB) o0).mono ?_
    rintro e w4 ⟨he, hp, v2, u2, rfl, hh0, hh1, hplen, l2, hll2, hO2, hU2, hB4⟩
    obtain ⟨A2, c2, rfl⟩ := hO2.shape
    obtain ⟨U2, uc2, rfl⟩ := hU2.shape
    replace hO1 := hO1.now hB4
    replace hU := hU.now hB4
    replace hx1 := hx1.now hB4
    replace hx2 := hx2.now hB4
    replace hx3 := hx3.now hB4
    replace hB := hB.trans (hB4.mono hB.size)
    clear hB4
    have hA2 : Below w4.heap.size w4 (w4.alloc (.cells #[.int .i64 he, .slice A2 hp.length c2] 26)) := (Below.refl _ _).alloc (Nat.le_refl _) _
    have hx4 := Blk.newAt w4 (t := 26) (cs := #[.int .i64 he, .slice A2 hp.length c2]) _ rfl
    have hqd : (cd != cd) = false := by simp
    obtain ⟨R, hR⟩ : ∃ R, (okGraph he hp && circuitB hp l2) = R := ⟨_, rfl⟩
    have hRH := Lib.hid hR
    clear hR
    have hqR : (R != R) = false := by cases R <;> rfl
    go_wp2_with fail
    replace hO1 := hO1.now hA2
    replace hU := hU.now hA2
    replace hx1 := hx1.now hA2
    replace hx2 := hx2.now hA2
    replace hx3 := hx3.now hA2
    replace hO2 := hO2.now hA2
    replace hU2 := hU2.now hA2
    replace hB := hB.trans (hA2.mono hB.size)
    clear hA2
    generalize w4.alloc (.cells #[.int .i64 he, .slice A2 hp.length c2] 26) = w4b at *
    generalize w4.heap.size = bg2 at *
    have hDw : Below w4b.heap.size w4b w4b.drew := Below.drew (Below.refl _ w4b)
    obtain ⟨m0, m1⟩ := hx2.c2
    obtain ⟨m2, m3⟩ := hx3.c2
    obtain ⟨m4, m5⟩ := hx4.c2
    replace m0 := cell_keep m0 hDw
    replace m1 := cell_keep m1 hDw
    replace m2 := cell_keep m2 hDw
    replace m3 := cell_keep m3 hDw
    replace m4 := cell_keep m4 hDw
    replace m5 := cell_keep m5 hDw
    have lm : bg2 < w4b.drew.heap.size := hx4.lt
    have lm2 : br < w4b.drew.heap.size := hx2.lt
    have lm3 : bm < w4b.drew.heap.size := hx3.lt
    have hsw : w4b.heap.size ≤ w4b.drew.heap.size := hDw.size
    refine wp_region_held_drew (S := fun w' => w'.cell? ⟨br, 0, none⟩ = some (.int .i64 rn) ∧ w'.cell? ⟨br, 1, none⟩ = some (.int .i64 rd) ∧ w'.cell? ⟨bm, 0, none⟩ = some (.int .i64 rn) ∧ w'.cell? ⟨bm, 1, none⟩ = some (.int .i64 rd) ∧ w'.cell? ⟨bg2, 0, none⟩ = some (.int .i64 he) ∧ w'.cell? ⟨bg2, 1, none⟩ = some (.slice A2 hp.length c2)) (by kernel_rfl) ⟨m0, m1, m2, m3, m4, m5⟩ (fun hH => ?_)
    refine wpAnyH_take (i := 0) (oi := { dst := _, op := _, type := _, pos := _, after := _, guard := _ }) (v := ?_) rfl (by kernel_rfl) (by kernel_rfl) (by kernel_rfl) (fun _ _ _ h => h) (Or.inl ⟨by rfl, ?_⟩) hH ?_
    rotate_left
    · intro w9 hSw
      try dsimp only at hSw
      obtain ⟨s0, s1, s2, s3, s4, s5⟩ := hSw
      go_simp
      try with_reducible rfl
    try simp only [Act.put, List.setIfInBounds_toArray, List.set_cons_zero, List.set_cons_succ]
    refine wpAnyH_take (i := 1) (oi := { dst := _, op := _, type := _, pos := _, after := _, guard := _ }) (v := ?_) rfl (by kernel_rfl) (by kernel_rfl) (by kernel_rfl) (fun _ _ _ h => h) (Or.inl ⟨by rfl, ?_⟩) hH ?_
    rotate_left
    · intro w9 hSw
      try dsimp only at hSw
      obtain ⟨s0, s1, s2, s3, s4, s5⟩ := hSw
      go_simp
      try with_reducible rfl
    try simp only [Act.put, List.setIfInBounds_toArray, List.set_cons_zero, List.set_cons_succ]
    refine wpAnyH_take (i := 2) (oi := { dst := _, op := _, type := _, pos := _, after := _, guard := _ }) (v := ?_) rfl (by kernel_rfl) (by kernel_rfl) (by kernel_rfl) (fun _ _ _ h => h) (Or.inl ⟨by rfl, ?_⟩) hH ?_
    rotate_left
    · intro w9 hSw
      try dsimp only at hSw
      obtain ⟨s0, s1, s2, s3, s4, s5⟩ := hSw
      go_simp
      try with_reducible rfl
    try simp only [Act.put, List.setIfInBounds_toArray, List.set_cons_zero, List.set_cons_succ]
    refine wpAnyH_take (i := 3) (oi := { dst := _, op := _, type := _, pos := _, after := _, guard := _ }) (v := ?_) rfl (by kernel_rfl) (by kernel_rfl) (by kernel_rfl) (fun _ _ _ h => h) (Or.inl ⟨by rfl, ?_⟩) hH ?_
    rotate_left
    · intro w9 hSw
      try dsimp only at hSw
      obtain ⟨s0, s1, s2, s3, s4, s5⟩ := hSw
      go_simp
      try with_reducible rfl
    try simp only [Act.put, List.setIfInBounds_toArray, List.set_cons_zero, List.set_cons_succ]
    refine wpAnyH_take (i := 4) (oi := { dst := _, op := _, type := _, pos := _, after := _, guard := _ }) (v := ?_) rfl (by kernel_rfl) (by kernel_rfl) (by kernel_rfl) (fun _ _ _ h => h) (Or.inl ⟨by rfl, ?_⟩) hH ?_
    rotate_left
    · intro w9 hSw
      try dsimp only at hSw
      obtain ⟨s0, s1, s2, s3, s4, s5⟩ := hSw
      go_simp
      try with_reducible rfl
    try simp only [Act.put, List.setIfInBounds_toArray, List.set_cons_zero, List.set_cons_succ]
    refine wpAnyH_take (i := 5) (oi := { dst := _, op := _, type := _, pos := _, after := _, guard := _ }) (v := ?_) rfl (by kernel_rfl) (by kernel_rfl) (by kernel_rfl) (fun _ _ _ h => h) (Or.inl ⟨by rfl, ?_⟩) hH ?_
    rotate_left
    · intro w9 hSw
      try dsimp only at hSw
      obtain ⟨s0, s1, s2, s3, s4, s5⟩ := hSw
      go_simp
      try with_reducible rfl
    try simp only [Act.put, List.setIfInBounds_toArray, List.set_cons_zero, List.set_cons_succ]
    refine wpAnyH_take (i := 6) (oi := { dst := _, op := _, type := _, pos := _, after := _, guard := _ }) (v := ?_) rfl (by kernel_rfl) (by kernel_rfl) (by kernel_rfl) (fun _ _ _ h => h) (Or.inl ⟨by rfl, ?_⟩) hH ?_
    rotate_left
    · intro w9 hSw
      try dsimp only at hSw
      obtain ⟨s0, s1, s2, s3, s4, s5⟩ := hSw
      go_simp
      try with_reducible rfl
    try simp only [Act.put, List.setIfInBounds_toArray, List.set_cons_zero, List.set_cons_succ]
    refine wpAnyH_take (i := 7) (oi := { dst := _, op := _, type := _, pos := _, after := _, guard := _ }) (v := ?_) rfl (by kernel_rfl) (by kernel_rfl) (by kernel_rfl) (fun _ _ _ h => h) (Or.inl ⟨by rfl, ?_⟩) hH ?_
    rotate_left
    · intro w9 hSw
      try dsimp only at hSw
      obtain ⟨s0, s1, s2, s3, s4, s5⟩ := hSw
      go_simp
      try with_reducible rfl
    try simp only [Act.put, List.setIfInBounds_toArray, List.set_cons_zero, List.set_cons_succ]
    refine wpAnyH_take (i := 8) (oi := { dst := _, op := _, type := _, pos := _, after := _, guard := _ }) (v := ?_) rfl (by kernel_rfl) (by kernel_rfl) (by kernel_rfl) (fun _ _ _ h => h) (Or.inl ⟨by rfl, ?_⟩) hH ?_
    rotate_left
    · intro w9 hSw
      try dsimp only at hSw
      obtain ⟨s0, s1, s2, s3, s4, s5⟩ := hSw
      go_simp
      try with_reducible rfl
    try simp only [Act.put, List.setIfInBounds_toArray, List.set_cons_zero, List.set_cons_succ]
    refine wpAnyH_take (i := 9) (oi := { dst := _, op := _, type := _, pos := _, after := _, guard := _ }) (v := ?_) rfl (by kernel_rfl) (by kernel_rfl) (by kernel_rfl) (fun _ _ _ h => h) (Or.inl ⟨by rfl, ?_⟩) hH ?_
    rotate_left
    · intro w9 hSw
      try dsimp only at hSw
      obtain ⟨s0, s1, s2, s3, s4, s5⟩ := hSw
      go_simp
      try with_reducible rfl
    try simp only [Act.put, List.setIfInBounds_toArray, List.set_cons_zero, List.set_cons_succ]
    refine wpAnyH_take (i := 10) (oi := { dst := _, op := _, type := _, pos := _, after := _, guard := _ }) (v := ?_) rfl (by kernel_rfl) (by kernel_rfl) (by kernel_rfl) (fun _ _ _ h => h) (Or.inl ⟨by rfl, ?_⟩) hH ?_
    rotate_left
    · intro w9 hSw
      try dsimp only at hSw
      obtain ⟨s0, s1, s2, s3, s4, s5⟩ := hSw
      go_simp
      try with_reducible rfl
    try simp only [Act.put, List.setIfInBounds_toArray, List.set_cons_zero, List.set_cons_succ]
    refine wpAnyH_take (i := 12) (oi := { dst := _, op := _, type := _, pos := _, after := _, guard := _ }) (v := ?_) rfl (by kernel_rfl) (by kernel_rfl) (by kernel_rfl) (fun _ _ _ h => h) (Or.inl ⟨by rfl, ?_⟩) hH ?_
    rotate_left
    · intro w9 hSw
      try dsimp only at hSw
      obtain ⟨s0, s1, s2, s3, s4, s5⟩ := hSw
      go_simp
      try with_reducible rfl
    try simp only [Act.put, List.setIfInBounds_toArray, List.set_cons_zero, List.set_cons_succ]
    refine wpAnyH_take (i := 13) (oi := { dst := _, op := _, type := _, pos := _, after := _, guard := _ }) (v := ?_) rfl (by kernel_rfl) (by kernel_rfl) (by kernel_rfl) (fun _ _ _ h => h) (Or.inl ⟨by rfl, ?_⟩) hH ?_
    rotate_left
    · intro w9 hSw
      try dsimp only at hSw
      obtain ⟨s0, s1, s2, s3, s4, s5⟩ := hSw
      go_simp
      try with_reducible rfl
    try simp only [Act.put, List.setIfInBounds_toArray, List.set_cons_zero, List.set_cons_succ]
    refine wpAnyH_ready (rs := [11]) (by kernel_rfl) (by simp) ?_
    refine AllReadyH.cons rfl (fun K hK => ?_) AllReadyH.nil
    go_simp
    go_at_call 53
    refine (impl_IsCircuit _ he hp _ l2 _ (hO2.now hDw).lst (hU2.now hDw).lst (by omega)).mono ?_
    rintro e7 v1 ⟨rfl, hb1⟩
    rw [hRH.out]
    have m0_1 := cell_keep (w := w4b.drew) m0 hb1
    have m1_1 := cell_keep (w := w4b.drew) m1 hb1
    have m2_1 := cell_keep (w := w4b.drew) m2 hb1
    have m3_1 := cell_keep (w := w4b.drew) m3 hb1
    have m4_1 := cell_keep (w := w4b.drew) m4 hb1
    have m5_1 := cell_keep (w := w4b.drew) m5 hb1
    replace hDw := hDw.trans (Below.mono (w := w4b.drew) hb1 hDw.size)
    refine hK.out _ _ ⟨m0_1, m1_1, m2_1, m3_1, m4_1, m5_1⟩ (fun hH => ?_)
    clear hK K
    try simp only [Act.put, List.setIfInBounds_toArray, List.set_cons_zero, List.set_cons_succ]
    refine wpAnyH_ready (rs := [14]) (by kernel_rfl) (by simp) ?_
    refine AllReadyH.cons rfl (fun K hK => ?_) AllReadyH.nil
    go_simp
    go_at_call 54
    refine (spec_IsCircuit _ he hp _ l2 _ (hO2.now hDw).lst (hU2.now hDw).lst (by omega)).mono ?_
    rintro e7 v2 ⟨rfl, hb2⟩
    rw [hRH.out]
    have m0_2 := cell_keep (w := v1) m0_1 hb2
    have m1_2 := cell_keep (w := v1) m1_1 hb2
    have m2_2 := cell_keep (w := v1) m2_1 hb2
    have m3_2 := cell_keep (w := v1) m3_1 hb2
    have m4_2 := cell_keep (w := v1) m4_1 hb2
    have m5_2 := cell_keep (w := v1) m5_1 hb2
    replace hDw := hDw.trans (Below.mono (w := v1) hb2 hDw.size)
    refine hK.out _ _ ⟨m0_2, m1_2, m2_2, m3_2, m4_2, m5_2⟩ (fun hH => ?_)
    clear hK K
    try simp only [Act.put, List.setIfInBounds_toArray, List.set_cons_zero, List.set_cons_succ]
    refine wpAnyH_take (i := 15) (oi := { dst := _, op := _, type := _, pos := _, after := _, guard := _ }) (v := ?_) rfl (by kernel_rfl) (by kernel_rfl) (by kernel_rfl) (fun _ _ _ h => h) (Or.inl ⟨by rfl, ?_⟩) hH ?_
    rotate_left
    · intro w9 hSw
      try dsimp only at hSw
      obtain ⟨s0, s1, s2, s3, s4, s5⟩ := hSw
      go_simp
      try with_reducible rfl
    try simp only [Act.put, List.setIfInBounds_toArray, List.set_cons_zero, List.set_cons_succ]
    refine wpAnyH_take (i := 16) (oi := { dst := _, op := _, type := _, pos := _, after := _, guard := _ }) (v := ?_) rfl (by kernel_rfl) (by kernel_rfl) (by kernel_rfl) (fun _ _ _ h => h) (Or.inl ⟨by rfl, ?_⟩) hH ?_
    rotate_left
    · intro w9 hSw
      try dsimp only at hSw
      obtain ⟨s0, s1, s2, s3, s4, s5⟩ := hSw
      go_simp
      try with_reducible rfl
    try simp only [Act.put, List.setIfInBounds_toArray, List.set_cons_zero, List.set_cons_succ]
    refine wpAnyH_done (by kernel_rfl) ?_ _
    clear m0_1 m1_1 m2_1 m3_1 m4_1 m5_1 m0_2 m1_2 m2_2 m3_2 m4_2 m5_2 hb1 hb2
    clear hH m0 m1 m2 m3 m4 m5 lm lm2 lm3 hsw
    replace hO1 := hO1.now hDw
    replace hU := hU.now hDw
    replace hx1 := hx1.now hDw
    replace hx2 := hx2.now hDw
    replace hB := hB.trans (hDw.mono hB.size)
    clear hDw
    clear hO2 hU2 hx3 hx4 hh0 hh1 hplen hll2 hqR hRH hqd
    by_cases hc0 : cd = 0
    · subst hc0
      obtain ⟨hg, x, t, hl, hl10, hct, hcr, hr0, hcc0, hcase⟩ := circ_law (ge := ge) (gp := gp) (m := l) (by rw [hFH.out])
      obtain ⟨ca, cb, cc9, hC⟩ : ∃ ca cb cc9, ctF ge gp = (ca, cb, cc9) := ⟨_, _, _, rfl⟩
      rw [hFH.out] at hcr hr0 hcase
      rw [hC] at hcc0 hcase
      simp only at hr0 hcc0 hcase
      have hdrop : l.drop 1 = t := by rw [hl]; rfl
      have hll1 : 1 ≤ l.length := by rw [hl]; simp
      have hx0 : ∀ h : 0 < l.length, l[0] = x := by subst hl; intro h; rfl
      have hTc : Hid (circuitB gp (l.drop 1 ++ [x]) = true) := by show _ = _; rw [hdrop]; exact hct
      have hTr : Hid (circRatio ge gp (l.drop 1 ++ [x]) = (rn, rd, 0)) := by show _ = _; rw [hdrop]; exact hcr
      have hgH := Lib.hid hg
      have hCH := Lib.hid hC
      have hcaseH := Lib.hid hcase
      obtain ⟨lb, hUA, hlb, z0⟩ : ∃ lb, UA = some ⟨lb, 0, none⟩ ∧ lb < v2.heap.size ∧ v2.cell? ⟨lb, 0, none⟩ = some (.int .i64 x) := by
        obtain ⟨lb, c', hv, hb, hb2, hf, hc⟩ := hU.at_ intCell_len 0 (by omega)
        injection hv with e1 _ _
        refine ⟨lb, e1, hb2, ?_⟩
        have := hc 0 _ (by omega) rfl
        rw [hx0] at this
        simpa using this
      subst hUA
      have hcap : l.length ≤ uc := by obtain ⟨-, -, A', c', hv, hc, -⟩ := hU.lst; injection hv with a1 a2 a3; omega
      have hdr := Lst.dropI hU.lst hll1
      simp only [Nat.zero_add] at hdr
      obtain ⟨Zp, hZp⟩ : ∃ Zp, (if uc = 1 then (some ⟨lb, 0, none⟩ : Option Addr) else some ⟨lb, 1, none⟩) = Zp := ⟨_, rfl⟩
      rw [hZp] at hdr
      have hZpH := Lib.hid hZp
      have hdrH := Lib.hid hdr
      clear hZp
      clear hdr hl hct hcr hcase hg hC hdrop hx0 hFH
      obtain ⟨wq, rfl⟩ : ∃ wq : World, wq = v2 := ⟨_, rfl⟩
      have i1 : (1 : Int) ≤ (l.length : Int) := by omega
      have i2 : (0 : Int) < (l.length : Int) := by omega
      have i3 : 0 < l.length := by omega
      have i4 : 1 ≤ uc := by omega
      have i5 : (1 : Int) ≤ (uc : Int) := by omega
      have i6 : (l.length : Int) ≤ (uc : Int) := by omega
      go_wp2
      go_cut [11] from 18 (fun tv wx => Own intCell 1 2 wx wq.heap.size tv (l.drop 1 ++ [x]) ∧ Below wq.heap.size wq wx)
      case first =>
        have hE : Below wq.heap.size wq wq.drew := Below.drew (Below.refl _ wq)
        have hdr := hdrH.out.now hE
        replace z0 := cell_keep z0 hE
        go_wp2_with fail
        refine wp_region_held_drew (S := fun w' => w'.cell? ⟨lb, 0, none⟩ = some (.int .i64 x)) (by kernel_rfl) z0 (fun hH => ?_)
        generalize wq.drew = V0 at *
        refine wpAnyH_take (i := 1) (oi := { dst := _, op := _, type := _, pos := _, after := _, guard := _ }) (v := ?_) rfl (by kernel_rfl) (by kernel_rfl) (by kernel_rfl) (fun _ _ _ h => h) (Or.inl ⟨by rfl, ?_⟩) hH ?_
        rotate_left
        · intro w9 hSw
          try dsimp only at hSw
          obtain s0 := hSw
          go_simp
          try with_reducible rfl
        try simp only [Act.put, List.setIfInBounds_toArray, List.set_cons_zero, List.set_cons_succ]
        refine wpAnyH_take (i := 2) (oi := { dst := _, op := _, type := _, pos := _, after := _, guard := _ }) (v := ?_) rfl (by kernel_rfl) (by kernel_rfl) (by kernel_rfl) (fun _ _ _ h => h) (Or.inl ⟨by rfl, ?_⟩) hH ?_
        rotate_left
        · intro w9 hSw
          try dsimp only at hSw
          obtain s0 := hSw
          go_simp
          try with_reducible rfl
        try simp only [Act.put, List.setIfInBounds_toArray, List.set_cons_zero, List.set_cons_succ]
        rw [hZpH.out]
        refine wpAnyH_take (i := 4) (oi := { dst := _, op := _, type := _, pos := _, after := _, guard := _ }) (v := ?_) rfl (by kernel_rfl) (by kernel_rfl) (by kernel_rfl) (fun _ _ _ h => h) (Or.inl ⟨by rfl, ?_⟩) hH ?_
        rotate_left
        · intro w9 hSw
          try dsimp only at hSw
          obtain s0 := hSw
          go_simp
          try with_reducible rfl
        try simp only [Act.put, List.setIfInBounds_toArray, List.set_cons_zero, List.set_cons_succ]
        refine wpAnyH_take (i := 5) (oi := { dst := _, op := _, type := _, pos := _, after := _, guard := _ }) (v := ?_) rfl (by kernel_rfl) (by kernel_rfl) (by kernel_rfl) (fun _ _ _ h => h) (Or.inl ⟨by rfl, ?_⟩) hH ?_
        rotate_left
        · intro w9 hSw
          try dsimp only at hSw
          obtain s0 := hSw
          go_simp
          try with_reducible rfl
        try simp only [Act.put, List.setIfInBounds_toArray, List.set_cons_zero, List.set_cons_succ]
        refine wpAnyH_take (i := 6) (oi := { dst := _, op := _, type := _, pos := _, after := _, guard := _ }) (v := ?_) rfl (by kernel_rfl) (by kernel_rfl) (by kernel_rfl) (fun _ _ _ h => h) (Or.inl ⟨by rfl, ?_⟩) hH ?_
        rotate_left
        · intro w9 hSw
          try dsimp only at hSw
          obtain s0 := hSw
          go_simp
          try with_reducible rfl
        try simp only [Act.put, List.setIfInBounds_toArray, List.set_cons_zero, List.set_cons_succ]
        refine wpAnyH_ready (rs := [0, 7]) (by kernel_rfl) (by simp) ?_
        refine AllReadyH.cons rfl (fun K hK => ?_) (AllReadyH.cons rfl (fun K hK => ?_) AllReadyH.nil)
        · have hZ : Below V0.heap.size V0 (V0.alloc (.cells #[] 2)) := (Below.refl _ _).alloc (Nat.le_refl _) _
          have hT : Own intCell 1 2 (V0.alloc (.cells #[] 2)) wq.heap.size (.slice (some ⟨V0.heap.size, 0, none⟩) 0 0) ([] : List Int) := own_new0 intCell 1 V0 2 wq.heap.size hE.size
          replace hdr := hdr.now hZ
          replace hE := hE.trans (hZ.mono hE.size)
          replace z0 := cell_keep z0 hZ
          clear hZ
          go_simp
          refine hK.out _ _ z0 (fun hH => ?_)
          clear hK K
          try simp only [Act.put, List.setIfInBounds_toArray, List.set_cons_zero, List.set_cons_succ]
          obtain ⟨palloc0, hpalloc0⟩ : ∃ p, V0.heap.size = p := ⟨_, rfl⟩
          rw [hpalloc0] at hT ⊢
          clear hpalloc0
          generalize (V0.alloc (.cells #[] 2)) = V1 at *
          refine wpAnyH_ready (rs := [3, 7]) (by kernel_rfl) (by simp) ?_
          refine AllReadyH.cons rfl (fun K hK => ?_) (AllReadyH.cons rfl (fun K hK => ?_) AllReadyH.nil)
          · have hlen9 : ([] : List Int).length + (l.drop 1).length ≤ 1099511627776 := by simp; omega
            refine step_append_lst rfl _ _ 38 rfl intCell 1 intCell_one (by omega) wq.heap.size 2 _ 8 Try.underlying38 info_i64 rfl _ ([] : List Int) rfl hT _ _ _ _ (l.drop 1) rfl hdr hlen9 (by omega) hE.size ?_
            intro v9 V2 hO1 hG1 hD1
            have z0' := hG1.cell z0 (fun e => by have := (hT.lt _ e.symm).1; simp only at this; omega)
            replace hE := hE.grown hG1 hE.size (fun k e => (hT.lt k e).1)
            rw [List.nil_append] at hO1
            refine hK.out _ _ z0' (fun hH => ?_)
            clear hK K
            try simp only [Act.put, List.setIfInBounds_toArray, List.set_cons_zero, List.set_cons_succ]
            clear hT hG1 hD1 hlen9 hdr
            replace z0 := z0'
            have hT := hO1
            clear hO1 z0'
            refine wpAnyH_ready (rs := [7]) (by kernel_rfl) (by simp) ?_
            refine AllReadyH.cons rfl (fun K hK => ?_) AllReadyH.nil
            have hZ : Below V2.heap.size V2 (V2.alloc (.cells #[.int .i64 x] 2)) := (Below.refl _ _).alloc (Nat.le_refl _) _
            have hN7 := (lst_new1 intCell 1 intCell_len V2 2 x #[.int .i64 x] rfl V2.heap.size rfl).more (show V2.heap.size + 1 ≤ (V2.alloc (.cells #[.int .i64 x] 2)).heap.size by simp)
            replace hT := hT.now hZ
            replace hE := hE.trans (hZ.mono hE.size)
            replace z0 := cell_keep z0 hZ
            clear hZ
            go_simp
            refine hK.out _ _ z0 (fun hH => ?_)
            clear hK K
            try simp only [Act.put, List.setIfInBounds_toArray, List.set_cons_zero, List.set_cons_succ]
            obtain ⟨palloc7, hpalloc7⟩ : ∃ p, V2.heap.size = p := ⟨_, rfl⟩
            rw [hpalloc7] at hN7 ⊢
            clear hpalloc7
            generalize (V2.alloc (.cells #[.int .i64 x] 2)) = V3 at *
            refine wpAnyH_ready (rs := [8]) (by kernel_rfl) (by simp) ?_
            refine AllReadyH.cons rfl (fun K hK => ?_) AllReadyH.nil
            have hlen9 : (l.drop 1).length + [x].length ≤ 1099511627776 := by simp; omega
            refine step_append_lst rfl _ _ 38 rfl intCell 1 intCell_one (by omega) wq.heap.size 2 _ 8 Try.underlying38 info_i64 rfl _ (l.drop 1) rfl hT _ _ _ _ [x] rfl hN7 hlen9 (by omega) hE.size ?_
            intro v9 V4 hO1 hG1 hD1
            have z0' := hG1.cell z0 (fun e => by have := (hT.lt _ e.symm).1; simp only at this; omega)
            replace hE := hE.grown hG1 hE.size (fun k e => (hT.lt k e).1)
            refine hK.out _ _ z0' (fun hH => ?_)
            clear hK K
            try simp only [Act.put, List.setIfInBounds_toArray, List.set_cons_zero, List.set_cons_succ]
            simp only [List.getElem_toArray, List.getElem_cons_succ, List.getElem_cons_zero]
            try simp only [Act.put, List.setIfInBounds_toArray, List.set_cons_zero, List.set_cons_succ]
            clear hT hN7 hG1 hD1 hlen9 z0 z0'
            refine wpAnyH_take (i := 9) (oi := { dst := _, op := _, type := _, pos := _, after := _, guard := _ }) (v := ?_) rfl (by kernel_rfl) (by kernel_rfl) (by kernel_rfl) (fun _ _ _ h => h) (Or.inl ⟨by rfl, ?_⟩) hH ?_
            rotate_left
            · intro w9 hSw
              try dsimp only at hSw
              obtain s0 := hSw
              go_simp
              try with_reducible rfl
            try simp only [Act.put, List.setIfInBounds_toArray, List.set_cons_zero, List.set_cons_succ]
            try dsimp only
            try simp only [Act.put, List.setIfInBounds_toArray, List.set_cons_zero, List.set_cons_succ]
            refine wpAnyH_done (by kernel_rfl) ?_ _
            clear hH
            try dsimp only
            try simp only [Act.put, List.setIfInBounds_toArray, List.set_cons_zero, List.set_cons_succ]
            go_wp2_with fail
            go_meet
            exact ⟨hO1, hE⟩
          · have hlt0 := (hT.lt palloc0 rfl).2
            have hZ : Below V1.heap.size V1 (V1.alloc (.cells #[.int .i64 x] 2)) := (Below.refl _ _).alloc (Nat.le_refl _) _
            have hN7 := (lst_new1 intCell 1 intCell_len V1 2 x #[.int .i64 x] rfl V1.heap.size rfl).more (show V1.heap.size + 1 ≤ (V1.alloc (.cells #[.int .i64 x] 2)).heap.size by simp)
            replace hdr := hdr.now hZ
            replace hT := hT.now hZ
            replace hE := hE.trans (hZ.mono hE.size)
            replace z0 := cell_keep z0 hZ
            clear hZ
            go_simp
            refine hK.out _ _ z0 (fun hH => ?_)
            clear hK K
            try simp only [Act.put, List.setIfInBounds_toArray, List.set_cons_zero, List.set_cons_succ]
            obtain ⟨palloc7, hpalloc7⟩ : ∃ p, V1.heap.size = p := ⟨_, rfl⟩
            rw [hpalloc7] at hN7 ⊢
            have hpne : palloc0 ≠ palloc7 := by have := hlt0; omega
            clear hpalloc7
            generalize (V1.alloc (.cells #[.int .i64 x] 2)) = V2 at *
            refine wpAnyH_ready (rs := [3]) (by kernel_rfl) (by simp) ?_
            refine AllReadyH.cons rfl (fun K hK => ?_) AllReadyH.nil
            have hlen9 : ([] : List Int).length + (l.drop 1).length ≤ 1099511627776 := by simp; omega
            refine step_append_lst rfl _ _ 38 rfl intCell 1 intCell_one (by omega) wq.heap.size 2 _ 8 Try.underlying38 info_i64 rfl _ ([] : List Int) rfl hT _ _ _ _ (l.drop 1) rfl hdr hlen9 (by omega) hE.size ?_
            intro v9 V3 hO1 hG1 hD1
            have z0' := hG1.cell z0 (fun e => by have := (hT.lt _ e.symm).1; simp only at this; omega)
            have hN7' := fc_lst hN7 hG1 (fun e => hpne (by injection e))
            replace hE := hE.grown hG1 hE.size (fun k e => (hT.lt k e).1)
            rw [List.nil_append] at hO1
            refine hK.out _ _ z0' (fun hH => ?_)
            clear hK K
            try simp only [Act.put, List.setIfInBounds_toArray, List.set_cons_zero, List.set_cons_succ]
            clear hT hG1 hD1 hlen9 hdr
            replace z0 := z0'
            have hT := hO1
            clear hO1 z0'
            replace hN7 := hN7'
            clear hN7'
            refine wpAnyH_ready (rs := [8]) (by kernel_rfl) (by simp) ?_
            refine AllReadyH.cons rfl (fun K hK => ?_) AllReadyH.nil
            have hlen9 : (l.drop 1).length + [x].length ≤ 1099511627776 := by simp; omega
            refine step_append_lst rfl _ _ 38 rfl intCell 1 intCell_one (by omega) wq.heap.size 2 _ 8 Try.underlying38 info_i64 rfl _ (l.drop 1) rfl hT _ _ _ _ [x] rfl hN7 hlen9 (by omega) hE.size ?_
            intro v9 V4 hO1 hG1 hD1
            have z0' := hG1.cell z0 (fun e => by have := (hT.lt _ e.symm).1; simp only at this; omega)
            replace hE := hE.grown hG1 hE.size (fun k e => (hT.lt k e).1)
            refine hK.out _ _ z0' (fun hH => ?_)
            clear hK K
            try simp only [Act.put, List.setIfInBounds_toArray, List.set_cons_zero, List.set_cons_succ]
            simp only [List.getElem_toArray, List.getElem_cons_succ, List.getElem_cons_zero]
            try simp only [Act.put, List.setIfInBounds_toArray, List.set_cons_zero, List.set_cons_succ]
            clear hT hN7 hG1 hD1 hlen9 z0 z0'
            refine wpAnyH_take (i := 9) (oi := { dst := _, op := _, type := _, pos := _, after := _, guard := _ }) (v := ?_) rfl (by kernel_rfl) (by kernel_rfl) (by kernel_rfl) (fun _ _ _ h => h) (Or.inl ⟨by rfl, ?_⟩) hH ?_
            rotate_left
            · intro w9 hSw
              try dsimp only at hSw
              obtain s0 := hSw
              go_simp
              try with_reducible rfl
            try simp only [Act.put, List.setIfInBounds_toArray, List.set_cons_zero, List.set_cons_succ]
            try dsimp only
            try simp only [Act.put, List.setIfInBounds_toArray, List.set_cons_zero, List.set_cons_succ]
            refine wpAnyH_done (by kernel_rfl) ?_ _
            clear hH
            try dsimp only
            try simp only [Act.put, List.setIfInBounds_toArray, List.set_cons_zero, List.set_cons_succ]
            go_wp2_with fail
            go_meet
            exact ⟨hO1, hE⟩
        · have hZ : Below V0.heap.size V0 (V0.alloc (.cells #[.int .i64 x] 2)) := (Below.refl _ _).alloc (Nat.le_refl _) _
          have hN7 := (lst_new1 intCell 1 intCell_len V0 2 x #[.int .i64 x] rfl V0.heap.size rfl).more (show V0.heap.size + 1 ≤ (V0.alloc (.cells #[.int .i64 x] 2)).heap.size by simp)
          replace hdr := hdr.now hZ
          replace hE := hE.trans (hZ.mono hE.size)
          replace z0 := cell_keep z0 hZ
          clear hZ
          go_simp
          refine hK.out _ _ z0 (fun hH => ?_)
          clear hK K
          try simp only [Act.put, List.setIfInBounds_toArray, List.set_cons_zero, List.set_cons_succ]
          obtain ⟨palloc7, hpalloc7⟩ : ∃ p, V0.heap.size = p := ⟨_, rfl⟩
          rw [hpalloc7] at hN7 ⊢
          clear hpalloc7
          generalize (V0.alloc (.cells #[.int .i64 x] 2)) = V1 at *
          refine wpAnyH_ready (rs := [0]) (by kernel_rfl) (by simp) ?_
          refine AllReadyH.cons rfl (fun K hK => ?_) AllReadyH.nil
          have hlt0 : palloc7 < V1.heap.size := by obtain ⟨b7, o7, c7, hv7, hb7, -⟩ := hN7.at_ intCell_len 0 (by simp); injection hv7 with e7 _ _; injection e7 with e7; injection e7 with e7 _ _; omega
          have hZ : Below V1.heap.size V1 (V1.alloc (.cells #[] 2)) := (Below.refl _ _).alloc (Nat.le_refl _) _
          have hT : Own intCell 1 2 (V1.alloc (.cells #[] 2)) wq.heap.size (.slice (some ⟨V1.heap.size, 0, none⟩) 0 0) ([] : List Int) := own_new0 intCell 1 V1 2 wq.heap.size hE.size
          replace hdr := hdr.now hZ
          replace hN7 := hN7.now hZ
          replace hE := hE.trans (hZ.mono hE.size)
          replace z0 := cell_keep z0 hZ
          clear hZ
          go_simp
          refine hK.out _ _ z0 (fun hH => ?_)
          clear hK K
          try simp only [Act.put, List.setIfInBounds_toArray, List.set_cons_zero, List.set_cons_succ]
          obtain ⟨palloc0, hpalloc0⟩ : ∃ p, V1.heap.size = p := ⟨_, rfl⟩
          rw [hpalloc0] at hT ⊢
          have hpne : palloc0 ≠ palloc7 := by have := hlt0; omega
          clear hpalloc0
          generalize (V1.alloc (.cells #[] 2)) = V2 at *
          refine wpAnyH_ready (rs := [3]) (by kernel_rfl) (by simp) ?_
          refine AllReadyH.cons rfl (fun K hK => ?_) AllReadyH.nil
          have hlen9 : ([] : List Int).length + (l.drop 1).length ≤ 1099511627776 := by simp; omega
          refine step_append_lst rfl _ _ 38 rfl intCell 1 intCell_one (by omega) wq.heap.size 2 _ 8 Try.underlying38 info_i64 rfl _ ([] : List Int) rfl hT _ _ _ _ (l.drop 1) rfl hdr hlen9 (by omega) hE.size ?_
          intro v9 V3 hO1 hG1 hD1
          have z0' := hG1.cell z0 (fun e => by have := (hT.lt _ e.symm).1; simp only at this; omega)
          have hN7' := fc_lst hN7 hG1 (fun e => hpne (by injection e))
          replace hE := hE.grown hG1 hE.size (fun k e => (hT.lt k e).1)
          rw [List.nil_append] at hO1
          refine hK.out _ _ z0' (fun hH => ?_)
          clear hK K
          try simp only [Act.put, List.setIfInBounds_toArray, List.set_cons_zero, List.set_cons_succ]
          clear hT hG1 hD1 hlen9 hdr
          replace z0 := z0'
          have hT := hO1
          clear hO1 z0'
          replace hN7 := hN7'
          clear hN7'
          refine wpAnyH_ready (rs := [8]) (by kernel_rfl) (by simp) ?_
          refine AllReadyH.cons rfl (fun K hK => ?_) AllReadyH.nil
          have hlen9 : (l.drop 1).length + [x].length ≤ 1099511627776 := by simp; omega
          refine step_append_lst rfl _ _ 38 rfl intCell 1 intCell_one (by omega) wq.heap.size 2 _ 8 Try.underlying38 info_i64 rfl _ (l.drop 1) rfl hT _ _ _ _ [x] rfl hN7 hlen9 (by omega) hE.size ?_
          intro v9 V4 hO1 hG1 hD1
          have z0' := hG1.cell z0 (fun e => by have := (hT.lt _ e.symm).1; simp only at this; omega)
          replace hE := hE.grown hG1 hE.size (fun k e => (hT.lt k e).1)
          refine hK.out _ _ z0' (fun hH => ?_)
          clear hK K
          try simp only [Act.put, List.setIfInBounds_toArray, List.set_cons_zero, List.set_cons_succ]
          simp only [List.getElem_toArray, List.getElem_cons_succ, List.getElem_cons_zero]
          try simp only [Act.put, List.setIfInBounds_toArray, List.set_cons_zero, List.set_cons_succ]
          clear hT hN7 hG1 hD1 hlen9 z0 z0'
          refine wpAnyH_take (i := 9) (oi := { dst := _, op := _, type := _, pos := _, after := _, guard := _ }) (v := ?_) rfl (by kernel_rfl) (by kernel_rfl) (by kernel_rfl) (fun _ _ _ h => h) (Or.inl ⟨by rfl, ?_⟩) hH ?_
          rotate_left
          · intro w9 hSw
            try dsimp only at hSw
            obtain s0 := hSw
            go_simp
            try with_reducible rfl
          try simp only [Act.put, List.setIfInBounds_toArray, List.set_cons_zero, List.set_cons_succ]
          try dsimp only
          try simp only [Act.put, List.setIfInBounds_toArray, List.set_cons_zero, List.set_cons_succ]
          refine wpAnyH_done (by kernel_rfl) ?_ _
          clear hH
          try dsimp only
          try simp only [Act.put, List.setIfInBounds_toArray, List.set_cons_zero, List.set_cons_succ]
          go_wp2_with fail
          go_meet
          exact ⟨hO1, hE⟩
      case rest =>
        obtain ⟨hT, hE⟩ := hcut
        clear hdrH hZpH z0 hlb hcap i1 i2 i3 i4 i5 i6
        replace hO1 := hO1.now hE
        replace hx1 := hx1.now hE
        replace hx2 := hx2.now hE
        replace hB := hB.trans (hE.mono hB.size)
        clear hE hU
        obtain ⟨wr, rfl⟩ : ∃ wr : World, wr = wc := ⟨_, rfl⟩
        have hTl : (l.drop 1 ++ [x]).length ≤ 1048576 := by simp; omega
        obtain ⟨T, hTd⟩ : ∃ T, l.drop 1 ++ [x] = T := ⟨_, rfl⟩
        rw [hTd] at hT hTc hTr hTl
        clear hTd
        obtain ⟨TA, tc, rfl⟩ := hT.shape
        obtain ⟨k10, k11⟩ := hx1.c2
        have l1 := hx1.lt
        go_wp2_with fail
        clear k10 k11 l1
        refine (impl_CircuitRatio _ ge gp _ T _ hO1.lst hT.lst hTl).mono ?_
        rintro e wd ⟨rfl, hB2⟩
        rw [hTr.out]
        replace hO1 := hO1.now hB2
        replace hT := hT.now hB2
        replace hx1 := hx1.now hB2
        replace hx2 := hx2.now hB2
        replace hB := hB.trans (hB2.mono hB.size)
        clear hB2
        have hA2 : Below wd.heap.size wd (wd.alloc (.cells #[.int .i64 rn, .int .i64 rd] 63)) := (Below.refl _ _).alloc (Nat.le_refl _) _
        have hx5 := Blk.newAt wd (t := 63) (cs := #[.int .i64 rn, .int .i64 rd]) _ rfl
        obtain ⟨k10, k11⟩ := hx1.c2
        have l1 := hx1.lt
        go_wp2_with fail
        clear k10 k11 l1
        replace hO1 := hO1.now hA2
        replace hT := hT.now hA2
        replace hx1 := hx1.now hA2
        replace hx2 := hx2.now hA2
        replace hB := hB.trans (hA2.mono hB.size)
        clear hA2
        generalize wd.alloc (.cells #[.int .i64 rn, .int .i64 rd] 63) = wdb at *
        generalize wd.heap.size = bq at *
        refine (impl_CycleTime _ ge gp _ hO1.lst).mono ?_
        rintro e we ⟨rfl, hB2⟩
        rw [hCH.out]
        replace hO1 := hO1.now hB2
        replace hT := hT.now hB2
        replace hx1 := hx1.now hB2
        replace hx2 := hx2.now hB2
        replace hx5 := hx5.now hB2
        replace hB := hB.trans (hB2.mono hB.size)
        clear hB2
        have hA2 : Below we.heap.size we (we.alloc (.cells #[.int .i64 ca, .int .i64 cb] 63)) := (Below.refl _ _).alloc (Nat.le_refl _) _
        have hx6 := Blk.newAt we (t := 63) (cs := #[.int .i64 ca, .int .i64 cb]) _ rfl
        obtain ⟨k10, k11⟩ := hx1.c2
        have l1 := hx1.lt
        have hx6b := hx6
        obtain ⟨c60, c61⟩ := hx6b.c2
        have l6 := hx6b.lt
        obtain ⟨c20, c21⟩ := (hx2.now hA2).c2
        have l2 := (hx2.now hA2).lt
        go_wp2_with fail
        clear k10 k11 l1
        replace hO1 := hO1.now hA2
        replace hT := hT.now hA2
        replace hx1 := hx1.now hA2
        replace hx2 := hx2.now hA2
        replace hx5 := hx5.now hA2
        replace hB := hB.trans (hA2.mono hB.size)
        clear hA2
        generalize we.alloc (.cells #[.int .i64 ca, .int .i64 cb] 63) = web at *
        generalize we.heap.size = bt at *
        clear c60 c61 l6 c20 c21 l2 hx6b
        obtain ⟨kk, th, hK⟩ : ∃ kk th, cmpR rn rd ca cb = (kk, th) := ⟨_, _, rfl⟩
        refine (impl_CompareRatios rn rd ca cb _ hr0 hcc0).mono ?_
        rintro e wf ⟨rfl, hB2⟩
        rw [hK]
        replace hO1 := hO1.now hB2
        replace hT := hT.now hB2
        replace hx1 := hx1.now hB2
        replace hx2 := hx2.now hB2
        replace hx5 := hx5.now hB2
        replace hx6 := hx6.now hB2
        replace hB := hB.trans (hB2.mono hB.size)
        clear hB2
        obtain ⟨k10, k11⟩ := hx1.c2
        have l1 := hx1.lt
        go_wp2_with fail
        clear k10 k11 l1
        refine (impl_IsCircuit _ ge gp _ T _ hO1.lst hT.lst hTl).mono ?_
        rintro e wg ⟨rfl, hB2⟩
        rw [hgH.out, hTc.out, Bool.true_and]
        replace hx1 := hx1.now hB2
        replace hx2 := hx2.now hB2
        replace hx5 := hx5.now hB2
        replace hx6 := hx6.now hB2
        replace hB := hB.trans (hB2.mono hB.size)
        clear hB2
        obtain ⟨c20, c21⟩ := hx2.c2
        have l2 := hx2.lt
        obtain ⟨c50, c51⟩ := hx5.c2
        have l5 := hx5.lt
        rcases hcaseH.out with h5 | ⟨h0, hok1, hok2, hle⟩
        · have q5 : (cc9 == 5) = true := by simp [h5]
          clear h5
          go_wp2
          go_ret
          exact ⟨rfl, hB⟩
        · have q5 : (cc9 == 5) = false := by simp [h0]
          have q0 : (cc9 == 0) = true := by simp [h0]
          have hkt : (kk, th) = (cmpI (rn * cb) (ca * rd), 0) := by rw [← hK]; unfold cmpR; rw [if_pos ⟨hok1, hok2⟩]
          have hk1 : kk = cmpI (rn * cb) (ca * rd) := congrArg Prod.fst hkt
          have hth : th = 0 := congrArg Prod.snd hkt
          have hkl : kk ≤ 0 := by rw [hk1]; unfold cmpI; split; omega; rw [if_neg (by omega)]; omega
          subst hth
          clear h0 hok1 hok2 hle hkt hk1 hK
          go_wp2
          go_ret
          exact ⟨rfl, hB⟩
    · have hq2 : (cd != 0) = true := by simpa using hc0
      clear hc0
      go_wp2
      go_ret
      exact ⟨rfl, hB⟩
theorem FnCircuits_own : ownKnob Try.prog.godebug = none := by kernel_rfl
theorem FnCircuits_laidOut : laidOutB Try.prog = true := by kernel_rfl
set_option maxRecDepth 100000 in
theorem FnCircuits_lifted (os : Os) (started : os.Started) (H : Type) (enc : TypeId × Value → H) :
    ReturnsInHanded {} Try.checked os 6 .any (Rows.fnCircuitsSpec.pre6 enc Try.prog Try.f6 Rows.fnCircuitsRow.domain false) (Rows.fnCircuitsSpec.post enc Try.prog Try.f6 false true false false) := by
  refine returnsInHanded_of_change (C := Try.checked) FnCircuits_own started (by kernel_rfl) Try.func6
    (ChangeSpec.witness6 (enc := enc) (C := Try.checked) false ⟨#[], #[.slice none 0 0], []⟩ 8 (by kernel_rfl) (by kernel_rfl) (by kernel_rfl) (by kernel_rfl)) ?_
  intro W base args ds gs before hval0 hW hcnd _
  have hval : ∀ (j : Nat) t v, Try.f6.params[j]? = some t → args[j]? = some v → Value.okWide Try.prog W .any base t v := hval0
  have hW' := hW
  obtain ⟨p, q, hA0, hV, rfl, hfz, hnd⟩ := hW
  have hA : DataW.TrodAll enc Try.prog W 0 (fun _ => true) true Try.f6.params.toList args.toList ds p := hA0
  rw [Try.params6] at hA hval
  obtain ⟨v0, vs0, d0, ds0, p0, q0, hargs, rfl, rfl, h0, r0⟩ := trodAll_cons hA
  obtain ⟨rfl, rfl, rfl⟩ := trodAll_nil r0
  obtain rfl : args = #[v0] := by cases args; simp_all
  obtain ⟨rfl, rfl⟩ := trodVars_none hV
  have k0 := h0
  have lt0 : ∀ x ∈ p0, x.block < W.heap.size := by obtain ⟨m, hm⟩ := k0; exact DataW.trod_lt m _ _ _ hm
  obtain ⟨A0, n0, c0, rfl⟩ := okWide_slice Try.underlying22 (hval 0 22 v0 rfl rfl)
  obtain ⟨fuel0, hf0⟩ := h0
  obtain ⟨l0, a0, o0⟩ := open_bytes Try.underlying22 Try.underlying5 (by kernel_rfl) (show DataW.trod enc Try.prog W 0 (fun _ => true) true fuel0 22 [_] = _ by simpa [Value.cells] using hf0)
  clear hA0 hval0
  refine (law_FnCircuits _ _ W a0 o0).mono fun e W' ⟨he, bel⟩ => ?_
  subst he
  exact ⟨_, rfl, _, _, _, [], _, [], hW', trodAll_mk1 (shut_bool Try.underlying4 _), (trodAll_cons_mk (Below.trod FnCircuits_laidOut (by kernel_rfl) (of_decide_eq_true (by kernel_rfl)) k0 bel lt0) trodAll_mk0), rfl, bel.frame _, fun h => by cases h⟩
theorem FnCircuits_over : Rows.fnCircuitsRow.holds Try.pinned (OpenSpec.ofChange Rows.fnCircuitsSpec) :=
  OpenClaim.holds_of_wide 6 Try.f6 rfl rfl rfl rfl rfl rfl rfl ⟨rfl, rfl, rfl, rfl, rfl⟩ rfl rfl rfl rfl rfl (by kernel_rfl) Try.func6 (by kernel_rfl)
    (of_decide_eq_true (by kernel_rfl)) (by unfold Func.isWrapper; first | (rw [if_pos (by decide +kernel)]; kernel_rfl) | (rw [if_neg (by decide +kernel)]; exact ⟨rfl, rfl⟩))
    (fun os started H enc _ => FnCircuits_lifted os started H enc)
/-- The given statement. -/
theorem FnCircuits_proved : Rows.FnCircuitsSaid := FnCircuits_over
end Go.Proofs.Ytkbhbmoogkjafaa
