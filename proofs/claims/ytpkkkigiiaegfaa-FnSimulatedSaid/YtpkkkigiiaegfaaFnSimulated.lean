/-
  FnSimulated returns true for every input: a simulated run is a run at the times of the table, and leaves the marking as it was.
  Conditions: none beyond the statement's own.
-/
import Derived.Test.YtpkkkigiiaegfaaFnSimP
import Derived.Test.YtpkkkigiiaegfaaLikeR
import Derived.Test.YtpkkkigiiaegfaaDrH
import Derived.Test.YtpkkkigiiaegfaaTimes
import Derived.Test.YtpkkkigiiaegfaaAfter
namespace Go.Proofs.Ytpkkkigiiaegfaa
open Go.RowKit Go.ChangeShapes Go.WideShapes Go.ChangeAt Go.Deep
set_option linter.unusedVariables false
set_option linter.unusedSimpArgs false
set_option maxHeartbeats 16000000 in
set_option maxRecDepth 100000 in
theorem law_FnSimulated (cv : Value) (bs : List Int) (w : World) (a0 : Lst byteCell 1 w w.heap.size cv bs) (o0 : Hid (∀ b ∈ bs, 0 ≤ b ∧ b ≤ 255)) :
    Calls Try.prog 12 #[cv] w fun e w' => e = .returned (.bool true) ∧ Below w.heap.size w w' := by
  obtain ⟨CA, cc, rfl⟩ := a0.shape
  by_cases hbig : (4096 : Int) < (bs.length : Int)
  · have hq : Hid (decide ((4096 : Int) < (bs.length : Int)) = true) := decide_eq_true hbig
    clear hbig
    go_enter Try.func12, Try.ntmps12
    go_wp2_with (go_at_call 38; refine (laws_big _ _ _ a0).mono ?_; rintro e w1 ⟨rfl, rfl⟩; rw [hq.out])
    go_ret
    exact ⟨rfl, Below.refl _ _⟩
  · have hq : Hid (decide ((4096 : Int) < (bs.length : Int)) = false) := decide_eq_false hbig
    clear hbig
    go_enter Try.func12, Try.ntmps12
    go_wp2_with fail
    refine (laws_big _ _ _ a0).mono ?_
    rintro e w1 ⟨rfl, rfl⟩
    rw [hq.out]
    go_wp2_with fail
    refine (spec_DrawSimulateGraph _ bs w a0 o0).mono ?_
    rintro e w0 ⟨ge, gp, v, N, rfl, hg0, hg1, hglen, hn1, hn2, hO, hB⟩
    obtain ⟨A, c, rfl⟩ := hO.shape
    have hA2 : Below w0.heap.size w0 (w0.alloc (.cells #[.int .i64 ge, .slice A gp.length c] 32)) := (Below.refl _ _).alloc (Nat.le_refl _) _
    have hbox := Blk.newAt w0 (t := 32) (cs := #[.int .i64 ge, .slice A gp.length c]) _ rfl
    go_wp2_with fail
    replace hO := hO.now hA2
    replace hB := hB.trans (hA2.mono hB.size)
    generalize w0.alloc (.cells #[.int .i64 ge, .slice A gp.length c] 32) = W2 at *
    generalize w0.heap.size = bg at *
    clear hA2
    obtain ⟨L, cd, hF⟩ : ∃ L cd, simF ge gp N = (L, cd) := ⟨_, _, rfl⟩
    refine (impl_SimulateGraph _ ge gp N _ hO.lst).mono ?_
    rintro e w2 ⟨x, rfl, hx, hB2⟩
    rw [hF] at hx ⊢
    obtain ⟨X, cx, rfl⟩ := hx.shape
    replace hO := hO.now hB2
    replace hbox := hbox.now hB2
    replace hB := hB.trans (hB2.mono hB.size)
    clear hB2
    have l0 := hbox.lt
    obtain ⟨k0, k1⟩ := hbox.c2
    go_wp2_with fail
    clear k0 k1 l0
    refine (spec_SimulateGraph _ ge gp N _ hO.lst).mono ?_
    rintro e w3 ⟨y, rfl, hy, hB3⟩
    rw [hF] at hy ⊢
    obtain ⟨Y, cy, rfl⟩ := hy.shape
    replace hO := hO.now hB3
    replace hx := hx.now hB3
    replace hbox := hbox.now hB3
    replace hB := hB.trans (hB3.mono hB.size)
    clear hB3
    have hFH := Lib.hid hF
    clear hF
    go_wp2_with fail
    refine (spec_DrawTimesIn _ bs _ (a0.now hB) o0).mono ?_
    rintro e w4 ⟨u, l, ev, rfl, hll, hU, hB4⟩
    obtain ⟨UA, uc, rfl⟩ := hU.shape
    replace hO := hO.now hB4
    replace hx := hx.now hB4
    replace hy := hy.now hB4
    replace hbox := hbox.now hB4
    replace hB := hB.trans (hB4.mono hB.size)
    clear hB4
    obtain ⟨P, pd, hP⟩ : ∃ P pd, timesInF l ev = (P, pd) := ⟨_, _, rfl⟩
    go_wp2_with fail
    refine (impl_TimesIn _ l ev _ hU.lst).mono ?_
    rintro e w5 ⟨p, rfl, hp, hB5⟩
    rw [hP] at hp ⊢
    obtain ⟨PA, cp, rfl⟩ := hp.shape
    replace hO := hO.now hB5
    replace hU := hU.now hB5
    replace hx := hx.now hB5
    replace hy := hy.now hB5
    replace hbox := hbox.now hB5
    replace hB := hB.trans (hB5.mono hB.size)
    clear hB5
    go_wp2_with fail
    refine (spec_TimesIn _ l ev _ hU.lst).mono ?_
    rintro e w6 ⟨q, rfl, hq6, hB6⟩
    rw [hP] at hq6 ⊢
    obtain ⟨QA, cq, rfl⟩ := hq6.shape
    replace hO := hO.now hB6
    replace hx := hx.now hB6
    replace hy := hy.now hB6
    replace hp := hp.now hB6
    replace hbox := hbox.now hB6
    replace hB := hB.trans (hB6.mono hB.size)
    clear hB6 hU hP hll
    have hcd : (cd != cd) = false := by simp
    have hpd : (pd != pd) = false := by simp
    go_wp2_with fail
    refine (laws_likeRuns9 _ _ L _ hx.lst hy.lst).mono ?_
    rintro e w7 ⟨rfl, hB7⟩
    replace hO := hO.now hB7
    replace hx := hx.now hB7
    replace hp := hp.now hB7
    replace hq6 := hq6.now hB7
    replace hbox := hbox.now hB7
    replace hB := hB.trans (hB7.mono hB.size)
    clear hB7 hy
    go_wp2_with fail
    refine (laws_likeInts _ _ P P _ hp.lst hq6.lst).mono ?_
    rintro e w8 ⟨rfl, hB8⟩
    rw [decide_eq_true rfl]
    replace hO := hO.now hB8
    replace hx := hx.now hB8
    replace hbox := hbox.now hB8
    replace hB := hB.trans (hB8.mono hB.size)
    clear hB8 hp hq6 hcd hpd
    by_cases hc0 : cd = 0
    · subst hc0
      obtain ⟨n, m, rfl, rfl, hn10, hm50, hgl, hLl, hL5, hrun, ⟨M, hM, hMl, hMt⟩, Y, hY, hYl, hYr, hall⟩ := sim_law hFH.out
      have hLlH := Lib.hid hLl
      have hrunH := Lib.hid hrun
      have hMH := Lib.hid hM
      have hMlH := Lib.hid hMl
      have hMtH := Lib.hid hMt
      have hYH := Lib.hid hY
      have hYlH := Lib.hid hYl
      have hYrH := Lib.hid hYr
      have hallH := Lib.hid hall
      clear hLl hrun hM hMl hMt hY hYl hYr hall
      have l0 := hbox.lt
      obtain ⟨k0, k1⟩ := hbox.c2
      go_wp2_with fail
      clear k0 k1 l0
      refine (impl_FiringTimes _ (n : Int) gp (m : Int) _ hO.lst).mono ?_
      rintro e w9 ⟨y, rfl, hy, hB9⟩
      rw [hYH.out] at hy ⊢
      obtain ⟨YA, cy, rfl⟩ := hy.shape
      replace hO := hO.now hB9
      replace hx := hx.now hB9
      replace hbox := hbox.now hB9
      replace hB := hB.trans (hB9.mono hB.size)
      clear hB9
      have l0 := hbox.lt
      obtain ⟨k0, k1⟩ := hbox.c2
      go_wp2_with fail
      clear k0 k1 l0
      refine (impl_MarkingAfter _ (n : Int) gp _ L _ hO.lst hx.lst).mono ?_
      rintro e w10 ⟨z, rfl, hz, hB10⟩
      rw [hMH.out] at hz ⊢
      obtain ⟨ZA, cz, rfl⟩ := hz.shape
      replace hO := hO.now hB10
      replace hx := hx.now hB10
      replace hy := hy.now hB10
      replace hbox := hbox.now hB10
      replace hB := hB.trans (hB10.mono hB.size)
      clear hB10
      have l0 := hbox.lt
      obtain ⟨k0, k1⟩ := hbox.c2
      go_wp2_with fail
      clear k0 k1 l0
      refine (impl_IsRun _ (n : Int) gp _ L _ hO.lst hx.lst).mono ?_
      rintro e w11 ⟨rfl, hB11⟩
      rw [hrunH.out]
      replace hO := hO.now hB11
      replace hx := hx.now hB11
      replace hy := hy.now hB11
      replace hz := hz.now hB11
      replace hbox := hbox.now hB11
      replace hB := hB.trans (hB11.mono hB.size)
      clear hB11
      have h7 : m * n ≤ 50 * 10 := Nat.mul_le_mul hm50 hn10
      have h8 : ((m * n : Nat) : Int) = (m : Int) * (n : Int) := Int.natCast_mul m n
      have h9 : (L.length : Int) = (m : Int) * (n : Int) := by rw [hLlH.out]; exact h8
      have wm : IntKind.i64.wrap ((m : Int) * (n : Int)) = (L.length : Int) := (IntWalk.i64_in _ (by omega)).trans h9.symm
      clear h7 h8 h9
      have hqL : ((L.length : Int) != (L.length : Int)) = false := by simp
      have hqM : ((M.length : Int) != (gp.length : Int)) = false := by rw [hMlH.out]; simp
      have l0 := hbox.lt
      obtain ⟨k0, k1⟩ := hbox.c2
      have hMlen : M.length ≤ 30 := by rw [hMlH.out]; exact hgl
      go_wp2
      clear l0 k0 k1 wm hqL hqM
      go_loopw [19] (fun i wr => ∃ j : Nat, j ≤ M.length ∧ i = .int .i64 j ∧ Below w11.heap.size w11 wr) (fun i _ => M.length - (intOf i).toNat)
      case atStart => exact ⟨0, Nat.zero_le _, rfl, Below.refl _ _⟩
      case round =>
        obtain ⟨j, hj, rfl, hBr⟩ := hrel
        obtain ⟨wd, rfl⟩ : ∃ wd : World, wd = wr := ⟨_, rfl⟩
        by_cases hlt : j < M.length
        · have hjg : j < gp.length := by rw [← hMlH.out]; exact hlt
          have htk := hMtH.out j hlt hjg
          obtain ⟨mb, mo, hMA, _, z0⟩ := ints_at (hz.now hBr).lst j hlt
          cases hMA
          obtain ⟨pb, po, hPA, _, _, _, _, z2⟩ := places_at (hO.now hBr).lst j hjg
          cases hPA
          obtain ⟨k0, z1⟩ := (hbox.now hBr).c2
          have l0 := (hbox.now hBr).lt
          rw [htk] at z0
          obtain ⟨tk, htv⟩ : ∃ tk, gp[j].tokens = tk := ⟨_, rfl⟩
          rw [htv] at z0 z2
          clear htk htv k0
          have hBd : Below wd.heap.size wd wd.drew := Below.drew (Below.refl _ wd)
          have hBr' := Lib.hid (hBr.trans (hBd.mono hBr.size))
          replace z0 := cell_keep z0 hBd
          replace z1 := cell_keep z1 hBd
          replace z2 := cell_keep z2 hBd
          clear hBd hBr
          have i1 : (0 : Int) ≤ (j : Int) := by omega
          have i2 : (j : Int) < (M.length : Int) := by omega
          have i3 : (j : Int) < (gp.length : Int) := by omega
          go_wp2_with fail
          refine wp_region_held_drew (S := fun w' => w'.cell? ⟨mb, mo + j, none⟩ = some (.int .i64 tk) ∧ w'.cell? ⟨bg, 1, none⟩ = some (.slice (some ⟨pb, po, none⟩) gp.length c) ∧ w'.cell? ⟨pb, po + j * 4 + 3, none⟩ = some (.int .i64 tk)) (by kernel_rfl) ⟨z0, z1, z2⟩ (fun hH => ?_)
          refine wpAnyH_take (i := 0) (oi := { dst := _, op := _, type := _, pos := _, after := _, guard := _ }) (v := ?_) rfl (by kernel_rfl) (by kernel_rfl) (by kernel_rfl) (fun _ _ _ h => h) (Or.inl ⟨by rfl, ?_⟩) hH ?_
          rotate_left
          · intro w9 hSw
            try dsimp only at hSw
            obtain ⟨s0, s1, s2⟩ := hSw
            go_simp
            try with_reducible rfl
          try simp only [Act.put, List.setIfInBounds_toArray, List.set_cons_zero, List.set_cons_succ]
          refine wpAnyH_take (i := 1) (oi := { dst := _, op := _, type := _, pos := _, after := _, guard := _ }) (v := ?_) rfl (by kernel_rfl) (by kernel_rfl) (by kernel_rfl) (fun _ _ _ h => h) (Or.inl ⟨by rfl, ?_⟩) hH ?_
          rotate_left
          · intro w9 hSw
            try dsimp only at hSw
            obtain ⟨s0, s1, s2⟩ := hSw
            go_simp
            try with_reducible rfl
          try simp only [Act.put, List.setIfInBounds_toArray, List.set_cons_zero, List.set_cons_succ]
          refine wpAnyH_take (i := 2) (oi := { dst := _, op := _, type := _, pos := _, after := _, guard := _ }) (v := ?_) rfl (by kernel_rfl) (by kernel_rfl) (by kernel_rfl) (fun _ _ _ h => h) (Or.inl ⟨by rfl, ?_⟩) hH ?_
          rotate_left
          · intro w9 hSw
            try dsimp only at hSw
            obtain ⟨s0, s1, s2⟩ := hSw
            go_simp
            try with_reducible rfl
          try simp only [Act.put, List.setIfInBounds_toArray, List.set_cons_zero, List.set_cons_succ]
          refine wpAnyH_take (i := 3) (oi := { dst := _, op := _, type := _, pos := _, after := _, guard := _ }) (v := ?_) rfl (by kernel_rfl) (by kernel_rfl) (by kernel_rfl) (fun _ _ _ h => h) (Or.inl ⟨by rfl, ?_⟩) hH ?_
          rotate_left
          · intro w9 hSw
            try dsimp only at hSw
            obtain ⟨s0, s1, s2⟩ := hSw
            go_simp
            try with_reducible rfl
          try simp only [Act.put, List.setIfInBounds_toArray, List.set_cons_zero, List.set_cons_succ]
          refine wpAnyH_take (i := 4) (oi := { dst := _, op := _, type := _, pos := _, after := _, guard := _ }) (v := ?_) rfl (by kernel_rfl) (by kernel_rfl) (by kernel_rfl) (fun _ _ _ h => h) (Or.inl ⟨by rfl, ?_⟩) hH ?_
          rotate_left
          · intro w9 hSw
            try dsimp only at hSw
            obtain ⟨s0, s1, s2⟩ := hSw
            go_simp
            try with_reducible rfl
          try simp only [Act.put, List.setIfInBounds_toArray, List.set_cons_zero, List.set_cons_succ]
          refine wpAnyH_take (i := 5) (oi := { dst := _, op := _, type := _, pos := _, after := _, guard := _ }) (v := ?_) rfl (by kernel_rfl) (by kernel_rfl) (by kernel_rfl) (fun _ _ _ h => h) (Or.inl ⟨by rfl, ?_⟩) hH ?_
          rotate_left
          · intro w9 hSw
            try dsimp only at hSw
            obtain ⟨s0, s1, s2⟩ := hSw
            go_simp
            try with_reducible rfl
          try simp only [Act.put, List.setIfInBounds_toArray, List.set_cons_zero, List.set_cons_succ]
          refine wpAnyH_take (i := 6) (oi := { dst := _, op := _, type := _, pos := _, after := _, guard := _ }) (v := ?_) rfl (by kernel_rfl) (by kernel_rfl) (by kernel_rfl) (fun _ _ _ h => h) (Or.inl ⟨by rfl, ?_⟩) hH ?_
          rotate_left
          · intro w9 hSw
            try dsimp only at hSw
            obtain ⟨s0, s1, s2⟩ := hSw
            go_simp
            try with_reducible rfl
          try simp only [Act.put, List.setIfInBounds_toArray, List.set_cons_zero, List.set_cons_succ]
          refine wpAnyH_take (i := 7) (oi := { dst := _, op := _, type := _, pos := _, after := _, guard := _ }) (v := ?_) rfl (by kernel_rfl) (by kernel_rfl) (by kernel_rfl) (fun _ _ _ h => h) (Or.inl ⟨by rfl, ?_⟩) hH ?_
          rotate_left
          · intro w9 hSw
            try dsimp only at hSw
            obtain ⟨s0, s1, s2⟩ := hSw
            go_simp
            try with_reducible rfl
          try simp only [Act.put, List.setIfInBounds_toArray, List.set_cons_zero, List.set_cons_succ]
          refine wpAnyH_take (i := 8) (oi := { dst := _, op := _, type := _, pos := _, after := _, guard := _ }) (v := ?_) rfl (by kernel_rfl) (by kernel_rfl) (by kernel_rfl) (fun _ _ _ h => h) (Or.inl ⟨by rfl, ?_⟩) hH ?_
          rotate_left
          · intro w9 hSw
            try dsimp only at hSw
            obtain ⟨s0, s1, s2⟩ := hSw
            go_simp
            try with_reducible rfl
          try simp only [Act.put, List.setIfInBounds_toArray, List.set_cons_zero, List.set_cons_succ]
          refine wpAnyH_take (i := 9) (oi := { dst := _, op := _, type := _, pos := _, after := _, guard := _ }) (v := ?_) rfl (by kernel_rfl) (by kernel_rfl) (by kernel_rfl) (fun _ _ _ h => h) (Or.inl ⟨by rfl, ?_⟩) hH ?_
          rotate_left
          · intro w9 hSw
            try dsimp only at hSw
            obtain ⟨s0, s1, s2⟩ := hSw
            go_simp
            try with_reducible rfl
          try simp only [Act.put, List.setIfInBounds_toArray, List.set_cons_zero, List.set_cons_succ]
          refine wpAnyH_take (i := 10) (oi := { dst := _, op := _, type := _, pos := _, after := _, guard := _ }) (v := ?_) rfl (by kernel_rfl) (by kernel_rfl) (by kernel_rfl) (fun _ _ _ h => h) (Or.inl ⟨by rfl, ?_⟩) hH ?_
          rotate_left
          · intro w9 hSw
            try dsimp only at hSw
            obtain ⟨s0, s1, s2⟩ := hSw
            go_simp
            try with_reducible rfl
          try simp only [Act.put, List.setIfInBounds_toArray, List.set_cons_zero, List.set_cons_succ]
          refine wpAnyH_done (by kernel_rfl) ?_ _
          go_wp2
          go_roundw
          case rel => exact ⟨j + 1, hlt, by go_num, hBr'.out⟩
          case measure => simp [intOf]; omega
        · obtain rfl : j = M.length := by omega
          replace hx := hx.now hBr
          replace hy := hy.now hBr
          replace hB := hB.trans (hBr.mono hB.size)
          clear hBr hz hbox hO hj
          go_wp2
          go_loopw [20] (fun i wr => ∃ j : Nat, j ≤ L.length ∧ i = .int .i64 j ∧ Below wd.heap.size wd wr) (fun i _ => L.length - (intOf i).toNat)
          case atStart => exact ⟨0, Nat.zero_le _, rfl, Below.refl _ _⟩
          case round =>
            obtain ⟨j, hj, rfl, hBr⟩ := hrel
            by_cases hlt : j < L.length
            · obtain ⟨b, i, hb, h3, h4, he⟩ := hallH.out j hlt
              have hRl := hYrH.out _ (List.getElem_mem h3)
              obtain ⟨lb, lo, hLA, _, z0, z1, z2⟩ := firings_at (hx.now hBr).lst j hlt
              cases hLA
              obtain ⟨yb, yo, cy', r, hyv, _, z3, hr⟩ := (hy.now hBr).lst.row i h3
              obtain ⟨R, rn, rc⟩ := r
              simp only [Ref.val] at z3 hr
              obtain ⟨A1, c4, hv1⟩ := hr.shape
              obtain ⟨rfl, rfl, rfl⟩ : R = A1 ∧ rn = Y[i].length ∧ rc = c4 := by injection hv1 with a1 a2 a3; exact ⟨a1, a2, a3⟩
              obtain ⟨qb, qo, hQA, _, z4⟩ := ints_at hr b h4
              subst hQA
              cases hyv
              rw [he] at z0 z1 z2
              rw [hRl] at z3
              obtain ⟨t, ht⟩ : ∃ t, Y[i][b] = t := ⟨_, rfl⟩
              simp only [ht] at z0 z1 z2 z4
              have i6 : (i : Int) < (Y.length : Int) := by omega
              have hY50 : Y.length ≤ 50 := by rw [hYlH.out]; exact hm50
              clear he ht hRl hr hv1 h3 h4
              have hBd : Below wr.heap.size wr wr.drew := Below.drew (Below.refl _ wr)
              have hBr' := Lib.hid (hBr.trans (hBd.mono hBr.size))
              replace z0 := cell_keep z0 hBd
              replace z1 := cell_keep z1 hBd
              replace z2 := cell_keep z2 hBd
              replace z3 := cell_keep z3 hBd
              replace z4 := cell_keep z4 hBd
              clear hBd hBr
              have i1 : (0 : Int) ≤ (j : Int) := by omega
              have i2 : (j : Int) < (L.length : Int) := by omega
              have i3 : (0 : Int) ≤ (i : Int) := by omega
              have i4 : (0 : Int) ≤ (b : Int) := by omega
              have i5 : (b : Int) < (n : Int) := by omega
              have wa1 : IntKind.i64.wrap ((i : Int) + 1 - 1) = (i : Int) := (IntWalk.i64_in _ (by omega)).trans (by omega)
              have wa2 : IntKind.i64.wrap (i : Int) = (i : Int) := IntWalk.i64_in _ (by omega)
              go_wp2_with fail
              refine wp_region_held_drew (S := fun w' => w'.cell? ⟨lb, lo + j * 3, none⟩ = some (.int .i64 (b : Nat)) ∧ w'.cell? ⟨lb, lo + j * 3 + 1, none⟩ = some (.int .i64 ((i : Int) + 1)) ∧ w'.cell? ⟨lb, lo + j * 3 + 2, none⟩ = some (.int .i64 t) ∧ w'.cell? ⟨yb, yo + i, none⟩ = some (.slice (some ⟨qb, qo, none⟩) n rc) ∧ w'.cell? ⟨qb, qo + b, none⟩ = some (.int .i64 t)) (by kernel_rfl) ⟨z0, z1, z2, z3, z4⟩ (fun hH => ?_)
              refine wpAnyH_take (i := 0) (oi := { dst := _, op := _, type := _, pos := _, after := _, guard := _ }) (v := ?_) rfl (by kernel_rfl) (by kernel_rfl) (by kernel_rfl) (fun _ _ _ h => h) (Or.inl ⟨by rfl, ?_⟩) hH ?_
              rotate_left
              · intro w9 hSw
                try dsimp only at hSw
                obtain ⟨s0, s1, s2, s3, s4⟩ := hSw
                go_simp
                try with_reducible rfl
              try simp only [Act.put, List.setIfInBounds_toArray, List.set_cons_zero, List.set_cons_succ]
              refine wpAnyH_take (i := 1) (oi := { dst := _, op := _, type := _, pos := _, after := _, guard := _ }) (v := ?_) rfl (by kernel_rfl) (by kernel_rfl) (by kernel_rfl) (fun _ _ _ h => h) (Or.inl ⟨by rfl, ?_⟩) hH ?_
              rotate_left
              · intro w9 hSw
                try dsimp only at hSw
                obtain ⟨s0, s1, s2, s3, s4⟩ := hSw
                go_simp
                try with_reducible rfl
              try simp only [Act.put, List.setIfInBounds_toArray, List.set_cons_zero, List.set_cons_succ]
              refine wpAnyH_take (i := 2) (oi := { dst := _, op := _, type := _, pos := _, after := _, guard := _ }) (v := ?_) rfl (by kernel_rfl) (by kernel_rfl) (by kernel_rfl) (fun _ _ _ h => h) (Or.inl ⟨by rfl, ?_⟩) hH ?_
              rotate_left
              · intro w9 hSw
                try dsimp only at hSw
                obtain ⟨s0, s1, s2, s3, s4⟩ := hSw
                go_simp
                try with_reducible rfl
              try simp only [Act.put, List.setIfInBounds_toArray, List.set_cons_zero, List.set_cons_succ]
              refine wpAnyH_take (i := 3) (oi := { dst := _, op := _, type := _, pos := _, after := _, guard := _ }) (v := ?_) rfl (by kernel_rfl) (by kernel_rfl) (by kernel_rfl) (fun _ _ _ h => h) (Or.inl ⟨by rfl, ?_⟩) hH ?_
              rotate_left
              · intro w9 hSw
                try dsimp only at hSw
                obtain ⟨s0, s1, s2, s3, s4⟩ := hSw
                go_simp
                try with_reducible rfl
              try simp only [Act.put, List.setIfInBounds_toArray, List.set_cons_zero, List.set_cons_succ]
              refine wpAnyH_take (i := 4) (oi := { dst := _, op := _, type := _, pos := _, after := _, guard := _ }) (v := ?_) rfl (by kernel_rfl) (by kernel_rfl) (by kernel_rfl) (fun _ _ _ h => h) (Or.inl ⟨by rfl, ?_⟩) hH ?_
              rotate_left
              · intro w9 hSw
                try dsimp only at hSw
                obtain ⟨s0, s1, s2, s3, s4⟩ := hSw
                go_simp
                try with_reducible rfl
              try simp only [Act.put, List.setIfInBounds_toArray, List.set_cons_zero, List.set_cons_succ]
              refine wpAnyH_take (i := 5) (oi := { dst := _, op := _, type := _, pos := _, after := _, guard := _ }) (v := ?_) rfl (by kernel_rfl) (by kernel_rfl) (by kernel_rfl) (fun _ _ _ h => h) (Or.inl ⟨by rfl, ?_⟩) hH ?_
              rotate_left
              · intro w9 hSw
                try dsimp only at hSw
                obtain ⟨s0, s1, s2, s3, s4⟩ := hSw
                go_simp
                try with_reducible rfl
              try simp only [Act.put, List.setIfInBounds_toArray, List.set_cons_zero, List.set_cons_succ]
              refine wpAnyH_take (i := 6) (oi := { dst := _, op := _, type := _, pos := _, after := _, guard := _ }) (v := ?_) rfl (by kernel_rfl) (by kernel_rfl) (by kernel_rfl) (fun _ _ _ h => h) (Or.inl ⟨by rfl, ?_⟩) hH ?_
              rotate_left
              · intro w9 hSw
                try dsimp only at hSw
                obtain ⟨s0, s1, s2, s3, s4⟩ := hSw
                go_simp
                try with_reducible rfl
              try simp only [Act.put, List.setIfInBounds_toArray, List.set_cons_zero, List.set_cons_succ]
              refine wpAnyH_take (i := 7) (oi := { dst := _, op := _, type := _, pos := _, after := _, guard := _ }) (v := ?_) rfl (by kernel_rfl) (by kernel_rfl) (by kernel_rfl) (fun _ _ _ h => h) (Or.inl ⟨by rfl, ?_⟩) hH ?_
              rotate_left
              · intro w9 hSw
                try dsimp only at hSw
                obtain ⟨s0, s1, s2, s3, s4⟩ := hSw
                go_simp
                try with_reducible rfl
              try simp only [Act.put, List.setIfInBounds_toArray, List.set_cons_zero, List.set_cons_succ]
              refine wpAnyH_take (i := 8) (oi := { dst := _, op := _, type := _, pos := _, after := _, guard := _ }) (v := ?_) rfl (by kernel_rfl) (by kernel_rfl) (by kernel_rfl) (fun _ _ _ h => h) (Or.inl ⟨by rfl, ?_⟩) hH ?_
              rotate_left
              · intro w9 hSw
                try dsimp only at hSw
                obtain ⟨s0, s1, s2, s3, s4⟩ := hSw
                go_simp
                try with_reducible rfl
              try simp only [Act.put, List.setIfInBounds_toArray, List.set_cons_zero, List.set_cons_succ]
              refine wpAnyH_take (i := 9) (oi := { dst := _, op := _, type := _, pos := _, after := _, guard := _ }) (v := ?_) rfl (by kernel_rfl) (by kernel_rfl) (by kernel_rfl) (fun _ _ _ h => h) (Or.inl ⟨by rfl, ?_⟩) hH ?_
              rotate_left
              · intro w9 hSw
                try dsimp only at hSw
                obtain ⟨s0, s1, s2, s3, s4⟩ := hSw
                go_simp
                try with_reducible rfl
              try simp only [Act.put, List.setIfInBounds_toArray, List.set_cons_zero, List.set_cons_succ]
              refine wpAnyH_take (i := 10) (oi := { dst := _, op := _, type := _, pos := _, after := _, guard := _ }) (v := ?_) rfl (by kernel_rfl) (by kernel_rfl) (by kernel_rfl) (fun _ _ _ h => h) (Or.inl ⟨by rfl, ?_⟩) hH ?_
              rotate_left
              · intro w9 hSw
                try dsimp only at hSw
                obtain ⟨s0, s1, s2, s3, s4⟩ := hSw
                go_simp
                try with_reducible rfl
              try simp only [Act.put, List.setIfInBounds_toArray, List.set_cons_zero, List.set_cons_succ]
              refine wpAnyH_take (i := 11) (oi := { dst := _, op := _, type := _, pos := _, after := _, guard := _ }) (v := ?_) rfl (by kernel_rfl) (by kernel_rfl) (by kernel_rfl) (fun _ _ _ h => h) (Or.inl ⟨by rfl, ?_⟩) hH ?_
              rotate_left
              · intro w9 hSw
                try dsimp only at hSw
                obtain ⟨s0, s1, s2, s3, s4⟩ := hSw
                go_simp
                try with_reducible rfl
              try simp only [Act.put, List.setIfInBounds_toArray, List.set_cons_zero, List.set_cons_succ]
              refine wpAnyH_take (i := 12) (oi := { dst := _, op := _, type := _, pos := _, after := _, guard := _ }) (v := ?_) rfl (by kernel_rfl) (by kernel_rfl) (by kernel_rfl) (fun _ _ _ h => h) (Or.inl ⟨by rfl, ?_⟩) hH ?_
              rotate_left
              · intro w9 hSw
                try dsimp only at hSw
                obtain ⟨s0, s1, s2, s3, s4⟩ := hSw
                go_simp
                try with_reducible rfl
              try simp only [Act.put, List.setIfInBounds_toArray, List.set_cons_zero, List.set_cons_succ]
              refine wpAnyH_take (i := 13) (oi := { dst := _, op := _, type := _, pos := _, after := _, guard := _ }) (v := ?_) rfl (by kernel_rfl) (by kernel_rfl) (by kernel_rfl) (fun _ _ _ h => h) (Or.inl ⟨by rfl, ?_⟩) hH ?_
              rotate_left
              · intro w9 hSw
                try dsimp only at hSw
                obtain ⟨s0, s1, s2, s3, s4⟩ := hSw
                go_simp
                try with_reducible rfl
              try simp only [Act.put, List.setIfInBounds_toArray, List.set_cons_zero, List.set_cons_succ]
              refine wpAnyH_take (i := 14) (oi := { dst := _, op := _, type := _, pos := _, after := _, guard := _ }) (v := ?_) rfl (by kernel_rfl) (by kernel_rfl) (by kernel_rfl) (fun _ _ _ h => h) (Or.inl ⟨by rfl, ?_⟩) hH ?_
              rotate_left
              · intro w9 hSw
                try dsimp only at hSw
                obtain ⟨s0, s1, s2, s3, s4⟩ := hSw
                go_simp
                try with_reducible rfl
              try simp only [Act.put, List.setIfInBounds_toArray, List.set_cons_zero, List.set_cons_succ]
              refine wpAnyH_take (i := 15) (oi := { dst := _, op := _, type := _, pos := _, after := _, guard := _ }) (v := ?_) rfl (by kernel_rfl) (by kernel_rfl) (by kernel_rfl) (fun _ _ _ h => h) (Or.inl ⟨by rfl, ?_⟩) hH ?_
              rotate_left
              · intro w9 hSw
                try dsimp only at hSw
                obtain ⟨s0, s1, s2, s3, s4⟩ := hSw
                go_simp
                try with_reducible rfl
              try simp only [Act.put, List.setIfInBounds_toArray, List.set_cons_zero, List.set_cons_succ]
              refine wpAnyH_take (i := 16) (oi := { dst := _, op := _, type := _, pos := _, after := _, guard := _ }) (v := ?_) rfl (by kernel_rfl) (by kernel_rfl) (by kernel_rfl) (fun _ _ _ h => h) (Or.inl ⟨by rfl, ?_⟩) hH ?_
              rotate_left
              · intro w9 hSw
                try dsimp only at hSw
                obtain ⟨s0, s1, s2, s3, s4⟩ := hSw
                go_simp
                try with_reducible rfl
              try simp only [Act.put, List.setIfInBounds_toArray, List.set_cons_zero, List.set_cons_succ]
              refine wpAnyH_take (i := 17) (oi := { dst := _, op := _, type := _, pos := _, after := _, guard := _ }) (v := ?_) rfl (by kernel_rfl) (by kernel_rfl) (by kernel_rfl) (fun _ _ _ h => h) (Or.inl ⟨by rfl, ?_⟩) hH ?_
              rotate_left
              · intro w9 hSw
                try dsimp only at hSw
                obtain ⟨s0, s1, s2, s3, s4⟩ := hSw
                go_simp
                try with_reducible rfl
              try simp only [Act.put, List.setIfInBounds_toArray, List.set_cons_zero, List.set_cons_succ]
              refine wpAnyH_take (i := 18) (oi := { dst := _, op := _, type := _, pos := _, after := _, guard := _ }) (v := ?_) rfl (by kernel_rfl) (by kernel_rfl) (by kernel_rfl) (fun _ _ _ h => h) (Or.inl ⟨by rfl, ?_⟩) hH ?_
              rotate_left
              · intro w9 hSw
                try dsimp only at hSw
                obtain ⟨s0, s1, s2, s3, s4⟩ := hSw
                go_simp
                try with_reducible rfl
              try simp only [Act.put, List.setIfInBounds_toArray, List.set_cons_zero, List.set_cons_succ]
              refine wpAnyH_take (i := 19) (oi := { dst := _, op := _, type := _, pos := _, after := _, guard := _ }) (v := ?_) rfl (by kernel_rfl) (by kernel_rfl) (by kernel_rfl) (fun _ _ _ h => h) (Or.inl ⟨by rfl, ?_⟩) hH ?_
              rotate_left
              · intro w9 hSw
                try dsimp only at hSw
                obtain ⟨s0, s1, s2, s3, s4⟩ := hSw
                go_simp
                try with_reducible rfl
              try simp only [Act.put, List.setIfInBounds_toArray, List.set_cons_zero, List.set_cons_succ]
              refine wpAnyH_take (i := 20) (oi := { dst := _, op := _, type := _, pos := _, after := _, guard := _ }) (v := ?_) rfl (by kernel_rfl) (by kernel_rfl) (by kernel_rfl) (fun _ _ _ h => h) (Or.inl ⟨by rfl, ?_⟩) hH ?_
              rotate_left
              · intro w9 hSw
                try dsimp only at hSw
                obtain ⟨s0, s1, s2, s3, s4⟩ := hSw
                go_simp
                try with_reducible rfl
              try simp only [Act.put, List.setIfInBounds_toArray, List.set_cons_zero, List.set_cons_succ]
              refine wpAnyH_take (i := 21) (oi := { dst := _, op := _, type := _, pos := _, after := _, guard := _ }) (v := ?_) rfl (by kernel_rfl) (by kernel_rfl) (by kernel_rfl) (fun _ _ _ h => h) (Or.inl ⟨by rfl, ?_⟩) hH ?_
              rotate_left
              · intro w9 hSw
                try dsimp only at hSw
                obtain ⟨s0, s1, s2, s3, s4⟩ := hSw
                go_simp
                try with_reducible rfl
              try simp only [Act.put, List.setIfInBounds_toArray, List.set_cons_zero, List.set_cons_succ]
              refine wpAnyH_done (by kernel_rfl) ?_ _
              go_wp2
              go_roundw
              case rel => exact ⟨j + 1, hlt, by go_num, hBr'.out⟩
              case measure => simp [intOf]; omega
            · obtain rfl : j = L.length := by omega
              go_wp2
              go_ret
              exact ⟨rfl, hB.trans (hBr.mono hB.size)⟩
    · have hq2 : (cd != 0) = true := by simpa using hc0
      clear hc0
      go_wp2
      go_ret
      exact ⟨rfl, hB⟩
theorem FnSimulated_own : ownKnob Try.prog.godebug = none := by kernel_rfl
theorem FnSimulated_laidOut : laidOutB Try.prog = true := by kernel_rfl
set_option maxRecDepth 100000 in
theorem FnSimulated_lifted (os : Os) (started : os.Started) (H : Type) (enc : TypeId × Value → H) :
    ReturnsInHanded {} Try.checked os 12 .any (Rows.fnSimulatedSpec.pre6 enc Try.prog Try.f12 Rows.fnSimulatedRow.domain false) (Rows.fnSimulatedSpec.post enc Try.prog Try.f12 false true false false) := by
  refine returnsInHanded_of_change (C := Try.checked) FnSimulated_own started (by kernel_rfl) Try.func12
    (ChangeSpec.witness6 (enc := enc) (C := Try.checked) false ⟨#[], #[.slice none 0 0], []⟩ 8 (by kernel_rfl) (by kernel_rfl) (by kernel_rfl) (by kernel_rfl)) ?_
  intro W base args ds gs before hval0 hW hcnd _
  have hval : ∀ (j : Nat) t v, Try.f12.params[j]? = some t → args[j]? = some v → Value.okWide Try.prog W .any base t v := hval0
  have hW' := hW
  obtain ⟨p, q, hA0, hV, rfl, hfz, hnd⟩ := hW
  have hA : DataW.TrodAll enc Try.prog W 0 (fun _ => true) true Try.f12.params.toList args.toList ds p := hA0
  rw [Try.params12] at hA hval
  obtain ⟨v0, vs0, d0, ds0, p0, q0, hargs, rfl, rfl, h0, r0⟩ := trodAll_cons hA
  obtain ⟨rfl, rfl, rfl⟩ := trodAll_nil r0
  obtain rfl : args = #[v0] := by cases args; simp_all
  obtain ⟨rfl, rfl⟩ := trodVars_none hV
  have k0 := h0
  have lt0 : ∀ x ∈ p0, x.block < W.heap.size := by obtain ⟨m, hm⟩ := k0; exact DataW.trod_lt m _ _ _ hm
  obtain ⟨A0, n0, c0, rfl⟩ := okWide_slice Try.underlying56 (hval 0 56 v0 rfl rfl)
  obtain ⟨fuel0, hf0⟩ := h0
  obtain ⟨l0, a0, o0⟩ := open_bytes Try.underlying56 Try.underlying5 (by kernel_rfl) (show DataW.trod enc Try.prog W 0 (fun _ => true) true fuel0 56 [_] = _ by simpa [Value.cells] using hf0)
  clear hA0 hval0
  refine (law_FnSimulated _ _ W a0 o0).mono fun e W' ⟨he, bel⟩ => ?_
  subst he
  exact ⟨_, rfl, _, _, _, [], _, [], hW', trodAll_mk1 (shut_bool Try.underlying4 _), (trodAll_cons_mk (Below.trod FnSimulated_laidOut (by kernel_rfl) (of_decide_eq_true (by kernel_rfl)) k0 bel lt0) trodAll_mk0), rfl, bel.frame _, fun h => by cases h⟩
theorem FnSimulated_over : Rows.fnSimulatedRow.holds Try.pinned (OpenSpec.ofChange Rows.fnSimulatedSpec) :=
  OpenClaim.holds_of_wide 12 Try.f12 rfl rfl rfl rfl rfl rfl rfl ⟨rfl, rfl, rfl, rfl, rfl⟩ rfl rfl rfl rfl rfl (by kernel_rfl) Try.func12 (by kernel_rfl)
    (of_decide_eq_true (by kernel_rfl)) (by unfold Func.isWrapper; first | (rw [if_pos (by decide +kernel)]; kernel_rfl) | (rw [if_neg (by decide +kernel)]; exact ⟨rfl, rfl⟩))
    (fun os started H enc _ => FnSimulated_lifted os started H enc)
/-- The given statement. -/
theorem FnSimulated_proved : Rows.FnSimulatedSaid := FnSimulated_over
end Go.Proofs.Ytpkkkigiiaegfaa
