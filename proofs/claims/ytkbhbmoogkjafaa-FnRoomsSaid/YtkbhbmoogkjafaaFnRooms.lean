/-
  FnRooms returns true for every input: more room never makes a graph slower.
  Conditions: none beyond the statement's own.
-/
import Derived.Test.YtkbhbmoogkjafaaRooA
import Derived.Test.YtkbhbmoogkjafaaDrNA
import Derived.Test.YtkbhbmoogkjafaaRatS
import Derived.Test.YtkbhbmoogkjafaaBytes
namespace Go.Proofs.Ytkbhbmoogkjafaa
open Go.RowKit Go.ChangeShapes Go.WideShapes Go.ChangeAt Go.Deep
set_option linter.unusedVariables false
set_option linter.unusedSimpArgs false
set_option maxHeartbeats 32000000 in
set_option maxRecDepth 100000 in
theorem law_FnRooms (cv : Value) (bs : List Int) (w : World) (a0 : Lst byteCell 1 w w.heap.size cv bs) (o0 : Hid (∀ b ∈ bs, 0 ≤ b ∧ b ≤ 255)) :
    Calls Try.prog 10 #[cv] w fun e w' => e = .returned (.bool true) ∧ Below w.heap.size w w' := by
  obtain ⟨CA, cc, rfl⟩ := a0.shape
  by_cases hbig : (4096 : Int) < (bs.length : Int)
  · have hq : Hid (decide ((4096 : Int) < (bs.length : Int)) = true) := decide_eq_true hbig
    clear hbig
    go_enter Try.func10, Try.ntmps10
    go_wp2_with (go_at_call 13; refine (laws_big _ _ _ a0).mono ?_; rintro e w1 ⟨rfl, rfl⟩; rw [hq.out])
    go_ret
    exact ⟨rfl, Below.refl _ _⟩
  · have hq : Hid (decide ((4096 : Int) < (bs.length : Int)) = false) := decide_eq_false hbig
    clear hbig
    go_enter Try.func10, Try.ntmps10
    go_wp2_with fail
    refine (laws_big _ _ _ a0).mono ?_
    rintro e w1 ⟨rfl, rfl⟩
    rw [hq.out]
    go_wp2_with fail
    refine (spec_DrawRoomTimes _ bs w a0 o0).mono ?_
    rintro e w0 ⟨ge, gp, v, i, rfl, hg0, hg1, hglen, hO1, hB⟩
    obtain ⟨A1, c1, rfl⟩ := hO1.shape
    have hA2 : Below w0.heap.size w0 (w0.alloc (.cells #[.int .i64 ge, .slice A1 gp.length c1] 26)) := (Below.refl _ _).alloc (Nat.le_refl _) _
    have hx1 := Blk.newAt w0 (t := 26) (cs := #[.int .i64 ge, .slice A1 gp.length c1]) _ rfl
    go_wp2_with fail
    replace hO1 := hO1.now hA2
    replace hB := hB.trans (hA2.mono hB.size)
    clear hA2
    generalize w0.alloc (.cells #[.int .i64 ge, .slice A1 gp.length c1] 26) = w0b at *
    generalize w0.heap.size = bg1 at *
    obtain ⟨L, cd, hF⟩ : ∃ L cd, roomTF ge gp i = (L, cd) := ⟨_, _, rfl⟩
    have hFH := Lib.hid hF
    refine (impl_RoomTimes _ ge gp i _ hO1.lst).mono ?_
    rintro e w2 ⟨x, rfl, hx, hB2⟩
    rw [hF] at hx ⊢
    obtain ⟨XA, xc, rfl⟩ := hx.shape
    replace hO1 := hO1.now hB2
    replace hx1 := hx1.now hB2
    replace hB := hB.trans (hB2.mono hB.size)
    clear hB2
    obtain ⟨khx10, khx11⟩ := hx1.c2
    have lhx1 := hx1.lt
    go_wp2_with fail
    clear khx10 khx11 lhx1
    refine (spec_RoomTimes _ ge gp i _ hO1.lst).mono ?_
    rintro e w3 ⟨y, rfl, hy, hB2⟩
    rw [hF] at hy ⊢
    clear hF
    obtain ⟨YA, yc, rfl⟩ := hy.shape
    replace hO1 := hO1.now hB2
    replace hx1 := hx1.now hB2
    replace hx := hx.now hB2
    replace hB := hB.trans (hB2.mono hB.size)
    clear hB2
    obtain ⟨khx10, khx11⟩ := hx1.c2
    have lhx1 := hx1.lt
    go_wp2_with fail
    clear khx10 khx11 lhx1
    obtain ⟨lo, hi, rc, hR⟩ : ∃ lo hi rc, roomsF ge gp i = (lo, hi, rc) := ⟨_, _, _, rfl⟩
    have hRH := Lib.hid hR
    refine (impl_RoomsOf _ ge gp i _ hO1.lst).mono ?_
    rintro e w4 ⟨rfl, hB2⟩
    rw [hR]
    replace hO1 := hO1.now hB2
    replace hx1 := hx1.now hB2
    replace hx := hx.now hB2
    replace hy := hy.now hB2
    replace hB := hB.trans (hB2.mono hB.size)
    clear hB2
    obtain ⟨khx10, khx11⟩ := hx1.c2
    have lhx1 := hx1.lt
    go_wp2_with fail
    clear khx10 khx11 lhx1
    refine (spec_RoomsOf _ ge gp i _ hO1.lst).mono ?_
    rintro e w5 ⟨rfl, hB2⟩
    rw [hR]
    clear hR
    replace hO1 := hO1.now hB2
    replace hx1 := hx1.now hB2
    replace hx := hx.now hB2
    replace hy := hy.now hB2
    replace hB := hB.trans (hB2.mono hB.size)
    clear hB2
    go_wp2_with fail
    refine (spec_DrawLimitPlace _ bs _ (a0.now hB) o0).mono ?_
    rintro e w6 ⟨he, hp, v2, pi, pc, rfl, hh0, hh1, hplen, hO2, hB4⟩
    obtain ⟨A2, c2, rfl⟩ := hO2.shape
    replace hO1 := hO1.now hB4
    replace hx1 := hx1.now hB4
    replace hx := hx.now hB4
    replace hy := hy.now hB4
    replace hB := hB.trans (hB4.mono hB.size)
    clear hB4
    have hA2 : Below w6.heap.size w6 (w6.alloc (.cells #[.int .i64 he, .slice A2 hp.length c2] 26)) := (Below.refl _ _).alloc (Nat.le_refl _) _
    have hx2 := Blk.newAt w6 (t := 26) (cs := #[.int .i64 he, .slice A2 hp.length c2]) _ rfl
    go_wp2_with fail
    replace hO1 := hO1.now hA2
    replace hx1 := hx1.now hA2
    replace hx := hx.now hA2
    replace hy := hy.now hA2
    replace hO2 := hO2.now hA2
    replace hB := hB.trans (hA2.mono hB.size)
    clear hA2
    generalize w6.alloc (.cells #[.int .i64 he, .slice A2 hp.length c2] 26) = w6b at *
    generalize w6.heap.size = bg2 at *
    obtain ⟨e1, g1, q1, hF2⟩ : ∃ a b c, limF he hp [pi] [pc] = (a, b, c) := ⟨_, _, _, rfl⟩
    refine (impl_LimitPlace _ he hp pi pc _ hO2.lst).mono ?_
    rintro e w7 ⟨z, rfl, hz1, hB2⟩
    rw [hF2] at hz1 ⊢
    obtain ⟨ZA, zc, rfl⟩ := hz1.shape
    replace hO1 := hO1.now hB2
    replace hx1 := hx1.now hB2
    replace hx := hx.now hB2
    replace hy := hy.now hB2
    replace hO2 := hO2.now hB2
    replace hx2 := hx2.now hB2
    replace hB := hB.trans (hB2.mono hB.size)
    clear hB2
    have hA2 : Below w7.heap.size w7 (w7.alloc (.cells #[.int .i64 e1, .slice ZA g1.length zc] 26)) := (Below.refl _ _).alloc (Nat.le_refl _) _
    have hx3 := Blk.newAt w7 (t := 26) (cs := #[.int .i64 e1, .slice ZA g1.length zc]) _ rfl
    obtain ⟨khx20, khx21⟩ := hx2.c2
    have lhx2 := hx2.lt
    go_wp2_with fail
    clear khx20 khx21 lhx2
    replace hO1 := hO1.now hA2
    replace hx1 := hx1.now hA2
    replace hx := hx.now hA2
    replace hy := hy.now hA2
    replace hO2 := hO2.now hA2
    replace hx2 := hx2.now hA2
    replace hz1 := hz1.now hA2
    replace hB := hB.trans (hA2.mono hB.size)
    clear hA2
    generalize w7.alloc (.cells #[.int .i64 e1, .slice ZA g1.length zc] 26) = w7b at *
    generalize w7.heap.size = bg3 at *
    refine (spec_LimitPlace _ he hp pi pc _ hO2.lst).mono ?_
    rintro e w8 ⟨z, rfl, hz2, hB2⟩
    rw [hF2] at hz2 ⊢
    clear hF2
    obtain ⟨YB, yc2, rfl⟩ := hz2.shape
    replace hO1 := hO1.now hB2
    replace hx1 := hx1.now hB2
    replace hx := hx.now hB2
    replace hy := hy.now hB2
    replace hO2 := hO2.now hB2
    replace hx2 := hx2.now hB2
    replace hz1 := hz1.now hB2
    replace hx3 := hx3.now hB2
    replace hB := hB.trans (hB2.mono hB.size)
    clear hB2
    clear hO2 hx2
    clear hh0 hh1 hplen
    have hA2 : Below w8.heap.size w8 (w8.alloc (.cells #[.int .i64 e1, .slice YB g1.length yc2] 26)) := (Below.refl _ _).alloc (Nat.le_refl _) _
    have hx4 := Blk.newAt w8 (t := 26) (cs := #[.int .i64 e1, .slice YB g1.length yc2]) _ rfl
    go_wp2_with fail
    replace hO1 := hO1.now hA2
    replace hx1 := hx1.now hA2
    replace hx := hx.now hA2
    replace hy := hy.now hA2
    replace hz1 := hz1.now hA2
    replace hx3 := hx3.now hA2
    replace hz2 := hz2.now hA2
    replace hB := hB.trans (hA2.mono hB.size)
    clear hA2
    generalize w8.alloc (.cells #[.int .i64 e1, .slice YB g1.length yc2] 26) = w8b at *
    generalize w8.heap.size = bg4 at *
    refine (spec_DrawLimitPlaces _ bs _ (a0.now hB) o0).mono ?_
    rintro e w9 ⟨ke, kp, v3, u1, u2, rfl, hk0, hk1, hkplen, hO3, ⟨l, hll, hU1⟩, ⟨r, hrl, hU2⟩, hB4⟩
    obtain ⟨A3, c3, rfl⟩ := hO3.shape
    obtain ⟨UA, uc, rfl⟩ := hU1.shape
    obtain ⟨VA, vc, rfl⟩ := hU2.shape
    replace hO1 := hO1.now hB4
    replace hx1 := hx1.now hB4
    replace hx := hx.now hB4
    replace hy := hy.now hB4
    replace hz1 := hz1.now hB4
    replace hx3 := hx3.now hB4
    replace hz2 := hz2.now hB4
    replace hx4 := hx4.now hB4
    replace hB := hB.trans (hB4.mono hB.size)
    clear hB4
    have hA2 : Below w9.heap.size w9 (w9.alloc (.cells #[.int .i64 ke, .slice A3 kp.length c3] 26)) := (Below.refl _ _).alloc (Nat.le_refl _) _
    have hx5 := Blk.newAt w9 (t := 26) (cs := #[.int .i64 ke, .slice A3 kp.length c3]) _ rfl
    go_wp2_with fail
    replace hO1 := hO1.now hA2
    replace hx1 := hx1.now hA2
    replace hx := hx.now hA2
    replace hy := hy.now hA2
    replace hz1 := hz1.now hA2
    replace hx3 := hx3.now hA2
    replace hz2 := hz2.now hA2
    replace hx4 := hx4.now hA2
    replace hO3 := hO3.now hA2
    replace hU1 := hU1.now hA2
    replace hU2 := hU2.now hA2
    replace hB := hB.trans (hA2.mono hB.size)
    clear hA2
    generalize w9.alloc (.cells #[.int .i64 ke, .slice A3 kp.length c3] 26) = w9b at *
    generalize w9.heap.size = bg5 at *
    obtain ⟨e2, g2, q2, hF3⟩ : ∃ a b c, limF ke kp l r = (a, b, c) := ⟨_, _, _, rfl⟩
    refine (impl_LimitPlaces _ ke kp _ l _ r _ hO3.lst hU1.lst hU2.lst).mono ?_
    rintro e wa ⟨z, rfl, hz3, hB2⟩
    rw [hF3] at hz3 ⊢
    obtain ⟨ZB, zc2, rfl⟩ := hz3.shape
    replace hO1 := hO1.now hB2
    replace hx1 := hx1.now hB2
    replace hx := hx.now hB2
    replace hy := hy.now hB2
    replace hz1 := hz1.now hB2
    replace hx3 := hx3.now hB2
    replace hz2 := hz2.now hB2
    replace hx4 := hx4.now hB2
    replace hO3 := hO3.now hB2
    replace hU1 := hU1.now hB2
    replace hU2 := hU2.now hB2
    replace hx5 := hx5.now hB2
    replace hB := hB.trans (hB2.mono hB.size)
    clear hB2
    have hA2 : Below wa.heap.size wa (wa.alloc (.cells #[.int .i64 e2, .slice ZB g2.length zc2] 26)) := (Below.refl _ _).alloc (Nat.le_refl _) _
    have hx6 := Blk.newAt wa (t := 26) (cs := #[.int .i64 e2, .slice ZB g2.length zc2]) _ rfl
    obtain ⟨khx50, khx51⟩ := hx5.c2
    have lhx5 := hx5.lt
    go_wp2_with fail
    clear khx50 khx51 lhx5
    replace hO1 := hO1.now hA2
    replace hx1 := hx1.now hA2
    replace hx := hx.now hA2
    replace hy := hy.now hA2
    replace hz1 := hz1.now hA2
    replace hx3 := hx3.now hA2
    replace hz2 := hz2.now hA2
    replace hx4 := hx4.now hA2
    replace hO3 := hO3.now hA2
    replace hU1 := hU1.now hA2
    replace hU2 := hU2.now hA2
    replace hx5 := hx5.now hA2
    replace hz3 := hz3.now hA2
    replace hB := hB.trans (hA2.mono hB.size)
    clear hA2
    generalize wa.alloc (.cells #[.int .i64 e2, .slice ZB g2.length zc2] 26) = wab at *
    generalize wa.heap.size = bg6 at *
    refine (spec_LimitPlaces _ ke kp _ l _ r _ hO3.lst hU1.lst hU2.lst).mono ?_
    rintro e wb ⟨z, rfl, hz4, hB2⟩
    rw [hF3] at hz4 ⊢
    clear hF3
    obtain ⟨ZC, zc3, rfl⟩ := hz4.shape
    replace hO1 := hO1.now hB2
    replace hx1 := hx1.now hB2
    replace hx := hx.now hB2
    replace hy := hy.now hB2
    replace hz1 := hz1.now hB2
    replace hx3 := hx3.now hB2
    replace hz2 := hz2.now hB2
    replace hx4 := hx4.now hB2
    replace hO3 := hO3.now hB2
    replace hU1 := hU1.now hB2
    replace hU2 := hU2.now hB2
    replace hx5 := hx5.now hB2
    replace hz3 := hz3.now hB2
    replace hx6 := hx6.now hB2
    replace hB := hB.trans (hB2.mono hB.size)
    clear hB2
    clear hO3 hU1 hU2 hx5
    clear hk0 hk1 hkplen
    have hA2 : Below wb.heap.size wb (wb.alloc (.cells #[.int .i64 e2, .slice ZC g2.length zc3] 26)) := (Below.refl _ _).alloc (Nat.le_refl _) _
    have hx7 := Blk.newAt wb (t := 26) (cs := #[.int .i64 e2, .slice ZC g2.length zc3]) _ rfl
    have hqd : (cd != cd) = false := by simp
    have hqL : ((L.length : Int) != (L.length : Int)) = false := by simp
    have hqr : (rc != rc) = false := by simp
    have hql : (lo != lo) = false := by simp
    have hqh : (hi != hi) = false := by simp
    have hq1 : (q1 != q1) = false := by simp
    have hq2 : (q2 != q2) = false := by simp
    obtain ⟨k30, k31⟩ := (hx3.now hA2).c2
    have l3 := (hx3.now hA2).lt
    obtain ⟨k40, k41⟩ := (hx4.now hA2).c2
    have l4 := (hx4.now hA2).lt
    go_wp2_with fail
    clear k30 k31 l3 k40 k41 l4
    replace hO1 := hO1.now hA2
    replace hx1 := hx1.now hA2
    replace hx := hx.now hA2
    replace hy := hy.now hA2
    replace hz1 := hz1.now hA2
    replace hx3 := hx3.now hA2
    replace hz2 := hz2.now hA2
    replace hx4 := hx4.now hA2
    replace hz3 := hz3.now hA2
    replace hx6 := hx6.now hA2
    replace hz4 := hz4.now hA2
    replace hB := hB.trans (hA2.mono hB.size)
    clear hA2
    generalize wb.alloc (.cells #[.int .i64 e2, .slice ZC g2.length zc3] 26) = wbb at *
    generalize wb.heap.size = bg7 at *
    refine (laws_likeGraphs9 _ _ e1 g1 _ hz1.lst hz2.lst).mono ?_
    rintro e wc ⟨rfl, hB2⟩
    replace hO1 := hO1.now hB2
    replace hx1 := hx1.now hB2
    replace hx := hx.now hB2
    replace hy := hy.now hB2
    replace hz1 := hz1.now hB2
    replace hx3 := hx3.now hB2
    replace hz2 := hz2.now hB2
    replace hx4 := hx4.now hB2
    replace hz3 := hz3.now hB2
    replace hx6 := hx6.now hB2
    replace hz4 := hz4.now hB2
    replace hx7 := hx7.now hB2
    replace hB := hB.trans (hB2.mono hB.size)
    clear hB2
    clear hz1 hz2 hx3 hx4
    obtain ⟨k60, k61⟩ := hx6.c2
    have l6 := hx6.lt
    obtain ⟨k70, k71⟩ := hx7.c2
    have l7 := hx7.lt
    go_wp2_with fail
    clear k60 k61 l6 k70 k71 l7
    refine (laws_likeGraphs9 _ _ e2 g2 _ hz3.lst hz4.lst).mono ?_
    rintro e wd ⟨rfl, hB2⟩
    replace hO1 := hO1.now hB2
    replace hx1 := hx1.now hB2
    replace hx := hx.now hB2
    replace hy := hy.now hB2
    replace hz3 := hz3.now hB2
    replace hx6 := hx6.now hB2
    replace hz4 := hz4.now hB2
    replace hx7 := hx7.now hB2
    replace hB := hB.trans (hB2.mono hB.size)
    clear hB2
    clear hz3 hz4 hx6 hx7
    clear hqd hqL hqr hql hqh hq1 hq2
    have hLl := hx.lst.len_le
    obtain ⟨wq, rfl⟩ : ∃ wq : World, wq = wd := ⟨_, rfl⟩
    go_wp2
    go_loopw [29] (fun kv wr => ∃ k : Nat, k ≤ L.length ∧ kv = .int .i64 k ∧ Below wq.heap.size wq wr) (fun kv _ => L.length - (intOf kv).toNat)
    case atStart => exact ⟨0, Nat.zero_le _, rfl, Below.refl _ _⟩
    case round =>
      obtain ⟨k, hk, rfl, hBr⟩ := hrel
      by_cases hlt : k < L.length
      · obtain ⟨xb, xo, hXA, -, d0, d1⟩ := ratios_at (hx.now hBr).lst k hlt
        cases hXA
        obtain ⟨yb, yo, hYA, -, d2, d3⟩ := ratios_at (hy.now hBr).lst k hlt
        cases hYA
        have i1 : (0 : Int) ≤ (k : Int) := by omega
        have i2 : (k : Int) < (L.length : Int) := by omega
        generalize L[k].num = x0 at *
        generalize L[k].den = x1 at *
        have hDw : Below wr.heap.size wr wr.drew := Below.drew (Below.refl _ wr)
        replace d0 := cell_keep d0 hDw
        replace d1 := cell_keep d1 hDw
        replace d2 := cell_keep d2 hDw
        replace d3 := cell_keep d3 hDw
        have hB' := hBr.trans (hDw.mono hBr.size)
        go_wp2
        refine wp_region_held_drew (S := fun w' => w'.cell? ⟨xb, xo + k * 2, none⟩ = some (.int .i64 x0) ∧ w'.cell? ⟨xb, xo + k * 2 + 1, none⟩ = some (.int .i64 x1) ∧ w'.cell? ⟨yb, yo + k * 2, none⟩ = some (.int .i64 x0) ∧ w'.cell? ⟨yb, yo + k * 2 + 1, none⟩ = some (.int .i64 x1)) (by kernel_rfl) ⟨d0, d1, d2, d3⟩ (fun hH => ?_)
        refine wpAnyH_take (i := 0) (oi := { dst := _, op := _, type := _, pos := _, after := _, guard := _ }) (v := ?_) rfl (by kernel_rfl) (by kernel_rfl) (by kernel_rfl) (fun _ _ _ h => h) (Or.inl ⟨by rfl, ?_⟩) hH ?_
        rotate_left
        · intro w9 hSw
          try dsimp only at hSw
          obtain ⟨s0, s1, s2, s3⟩ := hSw
          go_simp
          try with_reducible rfl
        try simp only [Act.put, List.setIfInBounds_toArray, List.set_cons_zero, List.set_cons_succ]
        refine wpAnyH_take (i := 1) (oi := { dst := _, op := _, type := _, pos := _, after := _, guard := _ }) (v := ?_) rfl (by kernel_rfl) (by kernel_rfl) (by kernel_rfl) (fun _ _ _ h => h) (Or.inl ⟨by rfl, ?_⟩) hH ?_
        rotate_left
        · intro w9 hSw
          try dsimp only at hSw
          obtain ⟨s0, s1, s2, s3⟩ := hSw
          go_simp
          try with_reducible rfl
        try simp only [Act.put, List.setIfInBounds_toArray, List.set_cons_zero, List.set_cons_succ]
        refine wpAnyH_take (i := 2) (oi := { dst := _, op := _, type := _, pos := _, after := _, guard := _ }) (v := ?_) rfl (by kernel_rfl) (by kernel_rfl) (by kernel_rfl) (fun _ _ _ h => h) (Or.inl ⟨by rfl, ?_⟩) hH ?_
        rotate_left
        · intro w9 hSw
          try dsimp only at hSw
          obtain ⟨s0, s1, s2, s3⟩ := hSw
          go_simp
          try with_reducible rfl
        try simp only [Act.put, List.setIfInBounds_toArray, List.set_cons_zero, List.set_cons_succ]
        refine wpAnyH_take (i := 3) (oi := { dst := _, op := _, type := _, pos := _, after := _, guard := _ }) (v := ?_) rfl (by kernel_rfl) (by kernel_rfl) (by kernel_rfl) (fun _ _ _ h => h) (Or.inl ⟨by rfl, ?_⟩) hH ?_
        rotate_left
        · intro w9 hSw
          try dsimp only at hSw
          obtain ⟨s0, s1, s2, s3⟩ := hSw
          go_simp
          try with_reducible rfl
        try simp only [Act.put, List.setIfInBounds_toArray, List.set_cons_zero, List.set_cons_succ]
        refine wpAnyH_take (i := 4) (oi := { dst := _, op := _, type := _, pos := _, after := _, guard := _ }) (v := ?_) rfl (by kernel_rfl) (by kernel_rfl) (by kernel_rfl) (fun _ _ _ h => h) (Or.inl ⟨by rfl, ?_⟩) hH ?_
        rotate_left
        · intro w9 hSw
          try dsimp only at hSw
          obtain ⟨s0, s1, s2, s3⟩ := hSw
          go_simp
          try with_reducible rfl
        try simp only [Act.put, List.setIfInBounds_toArray, List.set_cons_zero, List.set_cons_succ]
        refine wpAnyH_take (i := 5) (oi := { dst := _, op := _, type := _, pos := _, after := _, guard := _ }) (v := ?_) rfl (by kernel_rfl) (by kernel_rfl) (by kernel_rfl) (fun _ _ _ h => h) (Or.inl ⟨by rfl, ?_⟩) hH ?_
        rotate_left
        · intro w9 hSw
          try dsimp only at hSw
          obtain ⟨s0, s1, s2, s3⟩ := hSw
          go_simp
          try with_reducible rfl
        try simp only [Act.put, List.setIfInBounds_toArray, List.set_cons_zero, List.set_cons_succ]
        refine wpAnyH_take (i := 6) (oi := { dst := _, op := _, type := _, pos := _, after := _, guard := _ }) (v := ?_) rfl (by kernel_rfl) (by kernel_rfl) (by kernel_rfl) (fun _ _ _ h => h) (Or.inl ⟨by rfl, ?_⟩) hH ?_
        rotate_left
        · intro w9 hSw
          try dsimp only at hSw
          obtain ⟨s0, s1, s2, s3⟩ := hSw
          go_simp
          try with_reducible rfl
        try simp only [Act.put, List.setIfInBounds_toArray, List.set_cons_zero, List.set_cons_succ]
        refine wpAnyH_take (i := 7) (oi := { dst := _, op := _, type := _, pos := _, after := _, guard := _ }) (v := ?_) rfl (by kernel_rfl) (by kernel_rfl) (by kernel_rfl) (fun _ _ _ h => h) (Or.inl ⟨by rfl, ?_⟩) hH ?_
        rotate_left
        · intro w9 hSw
          try dsimp only at hSw
          obtain ⟨s0, s1, s2, s3⟩ := hSw
          go_simp
          try with_reducible rfl
        try simp only [Act.put, List.setIfInBounds_toArray, List.set_cons_zero, List.set_cons_succ]
        refine wpAnyH_take (i := 8) (oi := { dst := _, op := _, type := _, pos := _, after := _, guard := _ }) (v := ?_) rfl (by kernel_rfl) (by kernel_rfl) (by kernel_rfl) (fun _ _ _ h => h) (Or.inl ⟨by rfl, ?_⟩) hH ?_
        rotate_left
        · intro w9 hSw
          try dsimp only at hSw
          obtain ⟨s0, s1, s2, s3⟩ := hSw
          go_simp
          try with_reducible rfl
        try simp only [Act.put, List.setIfInBounds_toArray, List.set_cons_zero, List.set_cons_succ]
        refine wpAnyH_done (by kernel_rfl) ?_ _
        go_wp2
        go_roundw
        case rel => exact ⟨k + 1, hlt, by go_num, hB'⟩
        case measure => simp [intOf]; omega
      · obtain rfl : k = L.length := by omega
        obtain ⟨ws, rfl⟩ : ∃ ws : World, ws = wr := ⟨_, rfl⟩
        replace hO1 := hO1.now hBr
        replace hx1 := hx1.now hBr
        replace hx := hx.now hBr
        replace hB := hB.trans (hBr.mono hB.size)
        clear hBr hy hk
        by_cases hc0 : cd = 0
        · subst hc0
          obtain ⟨n, lo', hi', rfl, hR', hb3, hLn, hall, hord⟩ := rooms_law hFH.out
          obtain ⟨rfl, rfl, rfl⟩ : lo = lo' ∧ hi = hi' ∧ rc = 0 := by rw [hRH.out] at hR'; injection hR' with a b; injection b with b c; exact ⟨a, b, c⟩
          have hallH := Lib.hid hall
          have hordH := Lib.hid hord
          have hLnH := Lib.hid hLn
          have hL8 : L.length ≤ 8 := by omega
          have hL1 : 1 ≤ L.length := by omega
          clear hall hord hR' hRH hFH hLn hLl
          go_wp2
          go_loopw [30, 31, 32, 33, 34, 35, 36] (fun kv _ _ _ _ _ _ wr => ∃ k : Nat, k + 1 ≤ L.length ∧ kv = .int .i64 ((k : Int) + 1) ∧ Below ws.heap.size ws wr) (fun kv _ _ _ _ _ _ _ => L.length - (intOf kv).toNat)
          case atStart => exact ⟨0, by omega, rfl, Below.refl _ _⟩
          case round =>
            obtain ⟨k, hk, rfl, hBr⟩ := hrel
            by_cases hlt : k + 1 < L.length
            · have hltI : (k : Int) + 1 < (L.length : Int) := by omega
              have hk0 : k < L.length := by omega
              obtain ⟨hlim, hok, hra0, ha0⟩ := hallH.out k hk0
              obtain ⟨-, -, hra1, ha1⟩ := hallH.out (k + 1) hlt
              have hle := hordH.out k hlt hk0
              obtain ⟨k0, k1⟩ := (hx1.now hBr).c2
              have l0 := (hx1.now hBr).lt
              have w1 : IntKind.i64.wrap (lo + ((k : Int) + 1)) = lo + ((k : Int) + 1) := IntWalk.i64_in _ (by omega)
              have w2 : IntKind.i64.wrap (lo + ((k : Int) + 1) - 1) = lo + (k : Int) := (IntWalk.i64_in _ (by omega)).trans (by omega)
              have hlimH := Lib.hid hlim
              have hokH := Lib.hid hok
              have hleH := Lib.hid hle
              have hra0H := Lib.hid hra0
              have hra1H := Lib.hid hra1
              clear hlim hok hle hra0 hra1
              go_wp2_with fail
              clear k0 k1 l0
              refine (impl_LimitPlace _ (n : Int) gp i (lo + (k : Int)) _ (hO1.now hBr).lst).mono ?_
              rintro e wt1 ⟨z, rfl, hz, hB2⟩
              rw [hlimH.out] at hz ⊢
              obtain ⟨G, hG⟩ : ∃ G, gp ++ backs gp [i] [lo + (k : Int)] 1 = G := ⟨_, rfl⟩
              simp only at hz ⊢
              rw [hG] at hz hokH hleH
              obtain ⟨ZA, zc, rfl⟩ := hz.shape
              have hBt := hBr.trans (hB2.mono hBr.size)
              have hA3 : Below wt1.heap.size wt1 (wt1.alloc (.cells #[.int .i64 (n : Nat), .slice ZA G.length zc] 26)) := (Below.refl _ _).alloc (Nat.le_refl _) _
              have hbx := Blk.newAt wt1 (t := 26) (cs := #[.int .i64 (n : Nat), .slice ZA G.length zc]) _ rfl
              obtain ⟨k0, k1⟩ := hbx.c2
              have l0 := hbx.lt
              go_wp2_with fail
              clear k0 k1 l0
              replace hz := hz.now hA3
              replace hBt := hBt.trans (hA3.mono hBt.size)
              refine (impl_IsLive _ n G _ hz.lst hokH).mono ?_
              rintro e wt ⟨rfl, hB3⟩
              replace hBt := hBt.trans (hB3.mono hBt.size)
              clear hz hA3 hbx hB2 hB3 hG
              obtain ⟨xb, xo, hXA, -, d0, d1⟩ := ratios_at (hx.now hBt).lst (k + 1) hlt
              cases hXA
              obtain ⟨xb', xo', hXA, -, d2, d3⟩ := ratios_at (hx.now hBt).lst k hk0
              cases hXA
              obtain ⟨a1, hA1⟩ : ∃ a1, L[k + 1].num = a1 := ⟨_, rfl⟩
              obtain ⟨b1, hB1⟩ : ∃ b1, L[k + 1].den = b1 := ⟨_, rfl⟩
              obtain ⟨a0', hA0⟩ : ∃ a0', L[k].num = a0' := ⟨_, rfl⟩
              obtain ⟨b0, hB0⟩ : ∃ b0, L[k].den = b0 := ⟨_, rfl⟩
              rw [hA1] at d0 ha1 hleH hra1H
              rw [hB1] at d1 hleH hra1H
              rw [hA0] at d2 ha0 hleH hra0H
              rw [hB0] at d3 hleH hra0H
              clear hA1 hB1 hA0 hB0
              have hcmpH : Hid (cmpR a1 b1 a0' b0 = (cmpI (a1 * b0) (a0' * b1), 0)) := by show _ = _; unfold cmpR; rw [if_pos ⟨hra1H.out, hra0H.out⟩]
              obtain ⟨lv, hlv⟩ : ∃ lv, (orderF n G).isSome = lv := ⟨_, rfl⟩
              rw [hlv] at hleH ⊢
              obtain ⟨od, hod⟩ : ∃ od, cmpI (a1 * b0) (a0' * b1) = od := ⟨_, rfl⟩
              rw [hod] at hcmpH
              have hfin : Hid (lv = true → od ≤ 0) := fun h => by
                have := hleH.out h
                rw [← hod]
                unfold cmpI
                split
                · omega
                · rw [if_neg (by omega)]; omega
              clear hlv hod hleH hra0H hra1H hlimH hokH
              have hDw : Below wt.heap.size wt wt.drew := Below.drew (Below.refl _ wt)
              replace d0 := cell_keep d0 hDw
              replace d1 := cell_keep d1 hDw
              replace d2 := cell_keep d2 hDw
              replace d3 := cell_keep d3 hDw
              have i1 : (0 : Int) ≤ (k : Int) := by omega
              have i2 : (k : Int) < (L.length : Int) := by omega
              have i3 : (0 : Int) ≤ (k : Int) + 1 := by omega
              have w3 : IntKind.i64.wrap ((k : Int) + 1 - 1) = (k : Int) := (IntWalk.i64_in _ (by omega)).trans (by omega)
              have w4 : IntKind.i64.wrap (k : Int) = (k : Int) := IntWalk.i64_in _ (by omega)
              have hBd := hBt.trans (hDw.mono hBt.size)
              have hsd := hDw.size
              have k2 : ((k : Int) + 1).toNat = k + 1 := by omega
              cases lv
              · clear hfin
                go_wp2_with fail
                refine wp_region_held_drew (S := fun w' => w'.cell? ⟨xb, xo + (k + 1) * 2, none⟩ = some (.int .i64 a1) ∧ w'.cell? ⟨xb, xo + (k + 1) * 2 + 1, none⟩ = some (.int .i64 b1) ∧ w'.cell? ⟨xb, xo + k * 2, none⟩ = some (.int .i64 a0') ∧ w'.cell? ⟨xb, xo + k * 2 + 1, none⟩ = some (.int .i64 b0)) (by kernel_rfl) ⟨d0, d1, d2, d3⟩ (fun hH => ?_)
                refine wpAnyH_take (i := 0) (oi := { dst := _, op := _, type := _, pos := _, after := _, guard := _ }) (v := ?_) rfl (by kernel_rfl) (by kernel_rfl) (by kernel_rfl) (fun _ _ _ h => h) (Or.inl ⟨by rfl, ?_⟩) hH ?_
                rotate_left
                · intro w9 hSw
                  try dsimp only at hSw
                  obtain ⟨s0, s1, s2, s3⟩ := hSw
                  go_simp
                  try with_reducible rfl
                try simp only [Act.put, List.setIfInBounds_toArray, List.set_cons_zero, List.set_cons_succ]
                refine wpAnyH_take (i := 1) (oi := { dst := _, op := _, type := _, pos := _, after := _, guard := _ }) (v := ?_) rfl (by kernel_rfl) (by kernel_rfl) (by kernel_rfl) (fun _ _ _ h => h) (Or.inl ⟨by rfl, ?_⟩) hH ?_
                rotate_left
                · intro w9 hSw
                  try dsimp only at hSw
                  obtain ⟨s0, s1, s2, s3⟩ := hSw
                  go_simp
                  try with_reducible rfl
                try simp only [Act.put, List.setIfInBounds_toArray, List.set_cons_zero, List.set_cons_succ]
                refine wpAnyH_take (i := 2) (oi := { dst := _, op := _, type := _, pos := _, after := _, guard := _ }) (v := ?_) rfl (by kernel_rfl) (by kernel_rfl) (by kernel_rfl) (fun _ _ _ h => h) (Or.inl ⟨by rfl, ?_⟩) hH ?_
                rotate_left
                · intro w9 hSw
                  try dsimp only at hSw
                  obtain ⟨s0, s1, s2, s3⟩ := hSw
                  go_simp
                  try with_reducible rfl
                try simp only [Act.put, List.setIfInBounds_toArray, List.set_cons_zero, List.set_cons_succ]
                refine wpAnyH_take (i := 3) (oi := { dst := _, op := _, type := _, pos := _, after := _, guard := _ }) (v := ?_) rfl (by kernel_rfl) (by kernel_rfl) (by kernel_rfl) (fun _ _ _ h => h) (Or.inl ⟨by rfl, ?_⟩) hH ?_
                rotate_left
                · intro w9 hSw
                  try dsimp only at hSw
                  obtain ⟨s0, s1, s2, s3⟩ := hSw
                  go_simp
                  try with_reducible rfl
                try simp only [Act.put, List.setIfInBounds_toArray, List.set_cons_zero, List.set_cons_succ]
                refine wpAnyH_take (i := 4) (oi := { dst := _, op := _, type := _, pos := _, after := _, guard := _ }) (v := ?_) rfl (by kernel_rfl) (by kernel_rfl) (by kernel_rfl) (fun _ _ _ h => h) (Or.inl ⟨by rfl, ?_⟩) hH ?_
                rotate_left
                · intro w9 hSw
                  try dsimp only at hSw
                  obtain ⟨s0, s1, s2, s3⟩ := hSw
                  go_simp
                  try with_reducible rfl
                try simp only [Act.put, List.setIfInBounds_toArray, List.set_cons_zero, List.set_cons_succ]
                refine wpAnyH_take (i := 5) (oi := { dst := _, op := _, type := _, pos := _, after := _, guard := _ }) (v := ?_) rfl (by kernel_rfl) (by kernel_rfl) (by kernel_rfl) (fun _ _ _ h => h) (Or.inl ⟨by rfl, ?_⟩) hH ?_
                rotate_left
                · intro w9 hSw
                  try dsimp only at hSw
                  obtain ⟨s0, s1, s2, s3⟩ := hSw
                  go_simp
                  try with_reducible rfl
                try simp only [Act.put, List.setIfInBounds_toArray, List.set_cons_zero, List.set_cons_succ]
                refine wpAnyH_take (i := 6) (oi := { dst := _, op := _, type := _, pos := _, after := _, guard := _ }) (v := ?_) rfl (by kernel_rfl) (by kernel_rfl) (by kernel_rfl) (fun _ _ _ h => h) (Or.inl ⟨by rfl, ?_⟩) hH ?_
                rotate_left
                · intro w9 hSw
                  try dsimp only at hSw
                  obtain ⟨s0, s1, s2, s3⟩ := hSw
                  go_simp
                  try with_reducible rfl
                try simp only [Act.put, List.setIfInBounds_toArray, List.set_cons_zero, List.set_cons_succ]
                refine wpAnyH_take (i := 7) (oi := { dst := _, op := _, type := _, pos := _, after := _, guard := _ }) (v := ?_) rfl (by kernel_rfl) (by kernel_rfl) (by kernel_rfl) (fun _ _ _ h => h) (Or.inl ⟨by rfl, ?_⟩) hH ?_
                rotate_left
                · intro w9 hSw
                  try dsimp only at hSw
                  obtain ⟨s0, s1, s2, s3⟩ := hSw
                  go_simp
                  try with_reducible rfl
                try simp only [Act.put, List.setIfInBounds_toArray, List.set_cons_zero, List.set_cons_succ]
                refine wpAnyH_take (i := 8) (oi := { dst := _, op := _, type := _, pos := _, after := _, guard := _ }) (v := ?_) rfl (by kernel_rfl) (by kernel_rfl) (by kernel_rfl) (fun _ _ _ h => h) (Or.inl ⟨by rfl, ?_⟩) hH ?_
                rotate_left
                · intro w9 hSw
                  try dsimp only at hSw
                  obtain ⟨s0, s1, s2, s3⟩ := hSw
                  go_simp
                  try with_reducible rfl
                try simp only [Act.put, List.setIfInBounds_toArray, List.set_cons_zero, List.set_cons_succ]
                refine wpAnyH_ready (rs := [9]) (by kernel_rfl) (by simp) ?_
                refine AllReadyH.cons rfl (fun K hK => ?_) AllReadyH.nil
                go_simp
                go_at_call 56
                refine (impl_CompareRatios a1 b1 a0' b0 _ ha1 ha0).mono ?_
                rintro e9 w9 ⟨rfl, hb9⟩
                rw [hcmpH.out]
                have e0 := cell_keep (w := wt.drew) d0 hb9
                have e1 := cell_keep (w := wt.drew) d1 hb9
                have e2 := cell_keep (w := wt.drew) d2 hb9
                have e3 := cell_keep (w := wt.drew) d3 hb9
                refine hK.out _ _ ⟨e0, e1, e2, e3⟩ (fun hH => ?_)
                clear hK K
                try simp only [Act.put, List.setIfInBounds_toArray, List.set_cons_zero, List.set_cons_succ]
                refine wpAnyH_take (i := 10) (oi := { dst := _, op := _, type := _, pos := _, after := _, guard := _ }) (v := ?_) rfl (by kernel_rfl) (by kernel_rfl) (by kernel_rfl) (fun _ _ _ h => h) (Or.inl ⟨by rfl, ?_⟩) hH ?_
                rotate_left
                · intro w9 hSw
                  try dsimp only at hSw
                  obtain ⟨s0, s1, s2, s3⟩ := hSw
                  go_simp
                  try with_reducible rfl
                try simp only [Act.put, List.setIfInBounds_toArray, List.set_cons_zero, List.set_cons_succ]
                refine wpAnyH_take (i := 11) (oi := { dst := _, op := _, type := _, pos := _, after := _, guard := _ }) (v := ?_) rfl (by kernel_rfl) (by kernel_rfl) (by kernel_rfl) (fun _ _ _ h => h) (Or.inl ⟨by rfl, ?_⟩) hH ?_
                rotate_left
                · intro w9 hSw
                  try dsimp only at hSw
                  obtain ⟨s0, s1, s2, s3⟩ := hSw
                  go_simp
                  try with_reducible rfl
                try simp only [Act.put, List.setIfInBounds_toArray, List.set_cons_zero, List.set_cons_succ]
                refine wpAnyH_take (i := 12) (oi := { dst := _, op := _, type := _, pos := _, after := _, guard := _ }) (v := ?_) rfl (by kernel_rfl) (by kernel_rfl) (by kernel_rfl) (fun _ _ _ h => h) (Or.inl ⟨by rfl, ?_⟩) hH ?_
                rotate_left
                · intro w9 hSw
                  try dsimp only at hSw
                  obtain ⟨s0, s1, s2, s3⟩ := hSw
                  go_simp
                  try with_reducible rfl
                try simp only [Act.put, List.setIfInBounds_toArray, List.set_cons_zero, List.set_cons_succ]
                refine wpAnyH_take (i := 13) (oi := { dst := _, op := _, type := _, pos := _, after := _, guard := _ }) (v := ?_) rfl (by kernel_rfl) (by kernel_rfl) (by kernel_rfl) (fun _ _ _ h => h) (Or.inl ⟨by rfl, ?_⟩) hH ?_
                rotate_left
                · intro w9 hSw
                  try dsimp only at hSw
                  obtain ⟨s0, s1, s2, s3⟩ := hSw
                  go_simp
                  try with_reducible rfl
                try simp only [Act.put, List.setIfInBounds_toArray, List.set_cons_zero, List.set_cons_succ]
                refine wpAnyH_take (i := 14) (oi := { dst := _, op := _, type := _, pos := _, after := _, guard := _ }) (v := ?_) rfl (by kernel_rfl) (by kernel_rfl) (by kernel_rfl) (fun _ _ _ h => h) (Or.inl ⟨by rfl, ?_⟩) hH ?_
                rotate_left
                · intro w9 hSw
                  try dsimp only at hSw
                  obtain ⟨s0, s1, s2, s3⟩ := hSw
                  go_simp
                  try with_reducible rfl
                try simp only [Act.put, List.setIfInBounds_toArray, List.set_cons_zero, List.set_cons_succ]
                refine wpAnyH_done (by kernel_rfl) ?_ _
                have hBe := hBd.trans (Below.mono (w := wt.drew) hb9 hBd.size)
                clear hb9 e0 e1 e2 e3 d0 d1 d2 d3
                go_wp2
                go_roundw
                case rel => exact ⟨k + 1, hlt, by go_num, hBe⟩
                case measure => simp [intOf]; omega
              · have hod0 := hfin.out rfl
                have hnd : ¬ 0 < od := by omega
                clear hfin hod0
                go_wp2_with fail
                refine wp_region_held_drew (S := fun w' => w'.cell? ⟨xb, xo + (k + 1) * 2, none⟩ = some (.int .i64 a1) ∧ w'.cell? ⟨xb, xo + (k + 1) * 2 + 1, none⟩ = some (.int .i64 b1) ∧ w'.cell? ⟨xb, xo + k * 2, none⟩ = some (.int .i64 a0') ∧ w'.cell? ⟨xb, xo + k * 2 + 1, none⟩ = some (.int .i64 b0)) (by kernel_rfl) ⟨d0, d1, d2, d3⟩ (fun hH => ?_)
                refine wpAnyH_take (i := 0) (oi := { dst := _, op := _, type := _, pos := _, after := _, guard := _ }) (v := ?_) rfl (by kernel_rfl) (by kernel_rfl) (by kernel_rfl) (fun _ _ _ h => h) (Or.inl ⟨by rfl, ?_⟩) hH ?_
                rotate_left
                · intro w9 hSw
                  try dsimp only at hSw
                  obtain ⟨s0, s1, s2, s3⟩ := hSw
                  go_simp
                  try with_reducible rfl
                try simp only [Act.put, List.setIfInBounds_toArray, List.set_cons_zero, List.set_cons_succ]
                refine wpAnyH_take (i := 1) (oi := { dst := _, op := _, type := _, pos := _, after := _, guard := _ }) (v := ?_) rfl (by kernel_rfl) (by kernel_rfl) (by kernel_rfl) (fun _ _ _ h => h) (Or.inl ⟨by rfl, ?_⟩) hH ?_
                rotate_left
                · intro w9 hSw
                  try dsimp only at hSw
                  obtain ⟨s0, s1, s2, s3⟩ := hSw
                  go_simp
                  try with_reducible rfl
                try simp only [Act.put, List.setIfInBounds_toArray, List.set_cons_zero, List.set_cons_succ]
                refine wpAnyH_take (i := 2) (oi := { dst := _, op := _, type := _, pos := _, after := _, guard := _ }) (v := ?_) rfl (by kernel_rfl) (by kernel_rfl) (by kernel_rfl) (fun _ _ _ h => h) (Or.inl ⟨by rfl, ?_⟩) hH ?_
                rotate_left
                · intro w9 hSw
                  try dsimp only at hSw
                  obtain ⟨s0, s1, s2, s3⟩ := hSw
                  go_simp
                  try with_reducible rfl
                try simp only [Act.put, List.setIfInBounds_toArray, List.set_cons_zero, List.set_cons_succ]
                refine wpAnyH_take (i := 3) (oi := { dst := _, op := _, type := _, pos := _, after := _, guard := _ }) (v := ?_) rfl (by kernel_rfl) (by kernel_rfl) (by kernel_rfl) (fun _ _ _ h => h) (Or.inl ⟨by rfl, ?_⟩) hH ?_
                rotate_left
                · intro w9 hSw
                  try dsimp only at hSw
                  obtain ⟨s0, s1, s2, s3⟩ := hSw
                  go_simp
                  try with_reducible rfl
                try simp only [Act.put, List.setIfInBounds_toArray, List.set_cons_zero, List.set_cons_succ]
                refine wpAnyH_take (i := 4) (oi := { dst := _, op := _, type := _, pos := _, after := _, guard := _ }) (v := ?_) rfl (by kernel_rfl) (by kernel_rfl) (by kernel_rfl) (fun _ _ _ h => h) (Or.inl ⟨by rfl, ?_⟩) hH ?_
                rotate_left
                · intro w9 hSw
                  try dsimp only at hSw
                  obtain ⟨s0, s1, s2, s3⟩ := hSw
                  go_simp
                  try with_reducible rfl
                try simp only [Act.put, List.setIfInBounds_toArray, List.set_cons_zero, List.set_cons_succ]
                refine wpAnyH_take (i := 5) (oi := { dst := _, op := _, type := _, pos := _, after := _, guard := _ }) (v := ?_) rfl (by kernel_rfl) (by kernel_rfl) (by kernel_rfl) (fun _ _ _ h => h) (Or.inl ⟨by rfl, ?_⟩) hH ?_
                rotate_left
                · intro w9 hSw
                  try dsimp only at hSw
                  obtain ⟨s0, s1, s2, s3⟩ := hSw
                  go_simp
                  try with_reducible rfl
                try simp only [Act.put, List.setIfInBounds_toArray, List.set_cons_zero, List.set_cons_succ]
                refine wpAnyH_take (i := 6) (oi := { dst := _, op := _, type := _, pos := _, after := _, guard := _ }) (v := ?_) rfl (by kernel_rfl) (by kernel_rfl) (by kernel_rfl) (fun _ _ _ h => h) (Or.inl ⟨by rfl, ?_⟩) hH ?_
                rotate_left
                · intro w9 hSw
                  try dsimp only at hSw
                  obtain ⟨s0, s1, s2, s3⟩ := hSw
                  go_simp
                  try with_reducible rfl
                try simp only [Act.put, List.setIfInBounds_toArray, List.set_cons_zero, List.set_cons_succ]
                refine wpAnyH_take (i := 7) (oi := { dst := _, op := _, type := _, pos := _, after := _, guard := _ }) (v := ?_) rfl (by kernel_rfl) (by kernel_rfl) (by kernel_rfl) (fun _ _ _ h => h) (Or.inl ⟨by rfl, ?_⟩) hH ?_
                rotate_left
                · intro w9 hSw
                  try dsimp only at hSw
                  obtain ⟨s0, s1, s2, s3⟩ := hSw
                  go_simp
                  try with_reducible rfl
                try simp only [Act.put, List.setIfInBounds_toArray, List.set_cons_zero, List.set_cons_succ]
                refine wpAnyH_take (i := 8) (oi := { dst := _, op := _, type := _, pos := _, after := _, guard := _ }) (v := ?_) rfl (by kernel_rfl) (by kernel_rfl) (by kernel_rfl) (fun _ _ _ h => h) (Or.inl ⟨by rfl, ?_⟩) hH ?_
                rotate_left
                · intro w9 hSw
                  try dsimp only at hSw
                  obtain ⟨s0, s1, s2, s3⟩ := hSw
                  go_simp
                  try with_reducible rfl
                try simp only [Act.put, List.setIfInBounds_toArray, List.set_cons_zero, List.set_cons_succ]
                refine wpAnyH_ready (rs := [9]) (by kernel_rfl) (by simp) ?_
                refine AllReadyH.cons rfl (fun K hK => ?_) AllReadyH.nil
                go_simp
                go_at_call 56
                refine (impl_CompareRatios a1 b1 a0' b0 _ ha1 ha0).mono ?_
                rintro e9 w9 ⟨rfl, hb9⟩
                rw [hcmpH.out]
                have e0 := cell_keep (w := wt.drew) d0 hb9
                have e1 := cell_keep (w := wt.drew) d1 hb9
                have e2 := cell_keep (w := wt.drew) d2 hb9
                have e3 := cell_keep (w := wt.drew) d3 hb9
                refine hK.out _ _ ⟨e0, e1, e2, e3⟩ (fun hH => ?_)
                clear hK K
                try simp only [Act.put, List.setIfInBounds_toArray, List.set_cons_zero, List.set_cons_succ]
                refine wpAnyH_take (i := 10) (oi := { dst := _, op := _, type := _, pos := _, after := _, guard := _ }) (v := ?_) rfl (by kernel_rfl) (by kernel_rfl) (by kernel_rfl) (fun _ _ _ h => h) (Or.inl ⟨by rfl, ?_⟩) hH ?_
                rotate_left
                · intro w9 hSw
                  try dsimp only at hSw
                  obtain ⟨s0, s1, s2, s3⟩ := hSw
                  go_simp
                  try with_reducible rfl
                try simp only [Act.put, List.setIfInBounds_toArray, List.set_cons_zero, List.set_cons_succ]
                refine wpAnyH_take (i := 11) (oi := { dst := _, op := _, type := _, pos := _, after := _, guard := _ }) (v := ?_) rfl (by kernel_rfl) (by kernel_rfl) (by kernel_rfl) (fun _ _ _ h => h) (Or.inl ⟨by rfl, ?_⟩) hH ?_
                rotate_left
                · intro w9 hSw
                  try dsimp only at hSw
                  obtain ⟨s0, s1, s2, s3⟩ := hSw
                  go_simp
                  try with_reducible rfl
                try simp only [Act.put, List.setIfInBounds_toArray, List.set_cons_zero, List.set_cons_succ]
                refine wpAnyH_take (i := 12) (oi := { dst := _, op := _, type := _, pos := _, after := _, guard := _ }) (v := ?_) rfl (by kernel_rfl) (by kernel_rfl) (by kernel_rfl) (fun _ _ _ h => h) (Or.inl ⟨by rfl, ?_⟩) hH ?_
                rotate_left
                · intro w9 hSw
                  try dsimp only at hSw
                  obtain ⟨s0, s1, s2, s3⟩ := hSw
                  go_simp
                  try with_reducible rfl
                try simp only [Act.put, List.setIfInBounds_toArray, List.set_cons_zero, List.set_cons_succ]
                refine wpAnyH_take (i := 13) (oi := { dst := _, op := _, type := _, pos := _, after := _, guard := _ }) (v := ?_) rfl (by kernel_rfl) (by kernel_rfl) (by kernel_rfl) (fun _ _ _ h => h) (Or.inl ⟨by rfl, ?_⟩) hH ?_
                rotate_left
                · intro w9 hSw
                  try dsimp only at hSw
                  obtain ⟨s0, s1, s2, s3⟩ := hSw
                  go_simp
                  try with_reducible rfl
                try simp only [Act.put, List.setIfInBounds_toArray, List.set_cons_zero, List.set_cons_succ]
                refine wpAnyH_take (i := 14) (oi := { dst := _, op := _, type := _, pos := _, after := _, guard := _ }) (v := ?_) rfl (by kernel_rfl) (by kernel_rfl) (by kernel_rfl) (fun _ _ _ h => h) (Or.inl ⟨by rfl, ?_⟩) hH ?_
                rotate_left
                · intro w9 hSw
                  try dsimp only at hSw
                  obtain ⟨s0, s1, s2, s3⟩ := hSw
                  go_simp
                  try with_reducible rfl
                try simp only [Act.put, List.setIfInBounds_toArray, List.set_cons_zero, List.set_cons_succ]
                refine wpAnyH_done (by kernel_rfl) ?_ _
                have hBe := hBd.trans (Below.mono (w := wt.drew) hb9 hBd.size)
                clear hb9 e0 e1 e2 e3 d0 d1 d2 d3
                go_wp2
                go_roundw
                case rel => exact ⟨k + 1, hlt, by go_num, hBe⟩
                case measure => simp [intOf]; omega
            · have hkl : (k : Int) + 1 = (L.length : Int) := by omega
              have hnlt : ¬ (k : Int) + 1 < (L.length : Int) := by omega
              have w5 : IntKind.i64.wrap (hi - lo) = hi - lo := IntWalk.i64_in _ (by omega)
              have w6 : IntKind.i64.wrap (hi - lo + 1) = hi - lo + 1 := IntWalk.i64_in _ (by omega)
              have hqe : ((L.length : Int) == hi - lo + 1) = true := by have := hLnH.out; rw [beq_iff_eq]; omega
              have hkn := Lib.hid hkl
              clear hkl
              go_wp2
              go_ret
              exact ⟨rfl, hB.trans (hBr.mono hB.size)⟩
        · have hq2 : (cd != 0) = true := by simpa using hc0
          clear hc0
          go_wp2
          go_ret
          exact ⟨rfl, hB⟩
theorem FnRooms_own : ownKnob Try.prog.godebug = none := by kernel_rfl
theorem FnRooms_laidOut : laidOutB Try.prog = true := by kernel_rfl
set_option maxRecDepth 100000 in
theorem FnRooms_lifted (os : Os) (started : os.Started) (H : Type) (enc : TypeId × Value → H) :
    ReturnsInHanded {} Try.checked os 10 .any (Rows.fnRoomsSpec.pre6 enc Try.prog Try.f10 Rows.fnRoomsRow.domain false) (Rows.fnRoomsSpec.post enc Try.prog Try.f10 false true false false) := by
  refine returnsInHanded_of_change (C := Try.checked) FnRooms_own started (by kernel_rfl) Try.func10
    (ChangeSpec.witness6 (enc := enc) (C := Try.checked) false ⟨#[], #[.slice none 0 0], []⟩ 8 (by kernel_rfl) (by kernel_rfl) (by kernel_rfl) (by kernel_rfl)) ?_
  intro W base args ds gs before hval0 hW hcnd _
  have hval : ∀ (j : Nat) t v, Try.f10.params[j]? = some t → args[j]? = some v → Value.okWide Try.prog W .any base t v := hval0
  have hW' := hW
  obtain ⟨p, q, hA0, hV, rfl, hfz, hnd⟩ := hW
  have hA : DataW.TrodAll enc Try.prog W 0 (fun _ => true) true Try.f10.params.toList args.toList ds p := hA0
  rw [Try.params10] at hA hval
  obtain ⟨v0, vs0, d0, ds0, p0, q0, hargs, rfl, rfl, h0, r0⟩ := trodAll_cons hA
  obtain ⟨rfl, rfl, rfl⟩ := trodAll_nil r0
  obtain rfl : args = #[v0] := by cases args; simp_all
  obtain ⟨rfl, rfl⟩ := trodVars_none hV
  have k0 := h0
  have lt0 : ∀ x ∈ p0, x.block < W.heap.size := by obtain ⟨m, hm⟩ := k0; exact DataW.trod_lt m _ _ _ hm
  obtain ⟨A0, n0, c0, rfl⟩ := okWide_slice Try.underlying22 (hval 0 22 v0 rfl rfl)
  obtain ⟨fuel0, hf0⟩ := h0
  obtain ⟨l0, a0, o0⟩ := open_bytes Try.underlying22 Try.underlying5 (by kernel_rfl) (show DataW.trod enc Try.prog W 0 (fun _ => true) true fuel0 22 [_] = _ by simpa [Value.cells] using hf0)
  clear hA0 hval0
  refine (law_FnRooms _ _ W a0 o0).mono fun e W' ⟨he, bel⟩ => ?_
  subst he
  exact ⟨_, rfl, _, _, _, [], _, [], hW', trodAll_mk1 (shut_bool Try.underlying4 _), (trodAll_cons_mk (Below.trod FnRooms_laidOut (by kernel_rfl) (of_decide_eq_true (by kernel_rfl)) k0 bel lt0) trodAll_mk0), rfl, bel.frame _, fun h => by cases h⟩
theorem FnRooms_over : Rows.fnRoomsRow.holds Try.pinned (OpenSpec.ofChange Rows.fnRoomsSpec) :=
  OpenClaim.holds_of_wide 10 Try.f10 rfl rfl rfl rfl rfl rfl rfl ⟨rfl, rfl, rfl, rfl, rfl⟩ rfl rfl rfl rfl rfl (by kernel_rfl) Try.func10 (by kernel_rfl)
    (of_decide_eq_true (by kernel_rfl)) (by unfold Func.isWrapper; first | (rw [if_pos (by decide +kernel)]; kernel_rfl) | (rw [if_neg (by decide +kernel)]; exact ⟨rfl, rfl⟩))
    (fun os started H enc _ => FnRooms_lifted os started H enc)
/-- The given statement. -/
theorem FnRooms_proved : Rows.FnRoomsSaid := FnRooms_over
end Go.Proofs.Ytkbhbmoogkjafaa
