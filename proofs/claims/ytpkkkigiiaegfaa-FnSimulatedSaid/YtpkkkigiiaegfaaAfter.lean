/-
  The walks of MarkingAfter and NextEvents.
-/
import Derived.Test.YtpkkkigiiaegfaaAfterP
import Derived.Test.YtpkkkigiiaegfaaRunIB
namespace Go.Proofs.Ytpkkkigiiaegfaa
open Go.RowKit
set_option linter.unusedVariables false
set_option linter.unusedSimpArgs false

/-- How often each event has fired. -/
def cntL (n : Nat) (l : List Firing) : List Int := (List.range n).map fun i : Nat => ((timesIn l (i : Int)).length : Int)
theorem cntL_len (n : Nat) (l : List Firing) : (cntL n l).length = n := by simp [cntL]
theorem cntL_get (n : Nat) (l : List Firing) (i : Nat) (h : i < (cntL n l).length) : (cntL n l)[i] = ((timesIn l (i : Int)).length : Int) := by simp [cntL]
theorem cntL_nil (n : Nat) : cntL n [] = List.replicate n 0 := by
  refine List.ext_getElem (by simp [cntL]) fun i h1 h2 => ?_
  rw [cntL_get]
  simp [timesIn]
theorem cntL_set (n : Nat) (l : List Firing) (e : Nat) (nu t : Int) : (cntL n l).set e (((timesIn l (e : Int)).length : Int) + 1) = cntL n (l ++ [⟨(e : Int), nu, t⟩]) := by
  refine List.ext_getElem (by simp [cntL]) fun i h1 h2 => ?_
  rw [cntL_get, timesIn_snoc]
  by_cases he : e = i
  · subst he
    simp
  · rw [List.getElem_set_ne he, cntL_get]
    have : ¬ (e : Int) = (i : Int) := by omega
    simp [this]
set_option maxHeartbeats 4000000 in
set_option maxRecDepth 100000 in
theorem impl_markingAfter (v : Value) (n : Nat) (gp : List Place) (u : Value) (l : List Firing) (w : World) (h0 : Lst Place.cells 4 w w.heap.size v gp) (h1 : Lst Firing.cells 3 w w.heap.size u l)
    (hok : okGraph n gp = true) (hr : RunOk n l) (hl5 : l.length ≤ 500) :
    Calls Try.prog 139 #[.agg #[.int .i64 n, v], u] w (RetOwn intCell 1 2 w (markT gp (timesIn l))) := by
  obtain ⟨A, c, rfl⟩ := h0.shape
  obtain ⟨C, d, rfl⟩ := h1.shape
  obtain ⟨hge1, hge2⟩ := okGraph_ev hok
  have hgl := okGraph_len hok
  have hg' := Lib.hid hok
  have hr' := Lib.hid hr
  have hmk := run_make_lst (P := Try.prog) intCell 1 intCell_len (by omega) 0 37 2 _ 8 Try.underlying37 info_i64 rfl .i64 .i64 n (by omega) (by omega)
  have hmk2 := run_make_lst (P := Try.prog) intCell 1 intCell_len (by omega) 0 37 2 _ 8 Try.underlying37 info_i64 rfl .i64 .i64 gp.length (by omega) (by omega)
  have hm1 := fun w => (hmk w).1
  have hm2 := Lib.hid fun (w : World) => (hmk w).2 w.heap.size (Nat.le_refl _)
  have hm3 := fun w => (hmk2 w).1
  have hm4 := Lib.hid fun (w : World) => (hmk2 w).2 w.heap.size (Nat.le_refl _)
  clear hmk hmk2 hok hr
  have hL := Lib.hid (markT_get gp (timesIn l))
  have hLn := Lib.hid (markT_len gp (timesIn l))
  go_enter Try.func139, Try.ntmps139
  go_wp2
  have hW : Below w.heap.size w (w.alloc (.cells #[.int .i64 n, .slice A gp.length c] 32)) := (Below.refl _ _).alloc (Nat.le_refl _) _
  have hb0 : Blk (w.alloc (.cells #[.int .i64 n, .slice A gp.length c] 32)) w.heap.size 32 #[.int .i64 n, .slice A gp.length c] := Blk.new _ _ _
  have hO0 := hm2.out (w.alloc (.cells #[.int .i64 n, .slice A gp.length c] 32))
  have hs0 : Hid ((w.alloc (.cells #[.int .i64 n, .slice A gp.length c] 32)).heap.size = w.heap.size + 1) := by show _ = _; simp
  have hN : Below (w.heap.size + 1) (w.alloc (.cells #[.int .i64 n, .slice A gp.length c] 32)) ((w.alloc (.cells #[.int .i64 n, .slice A gp.length c] 32)).alloc (.cells (madeCells (intCell 0).toArray (n * 1)) 2)) := (Below.refl _ _).alloc (by rw [hs0.out]; exact Nat.le_refl _) _
  rw [hs0.out] at hO0
  replace h0 := h0.now hW
  replace h1 := h1.now hW
  simp only [Nat.mul_one] at hO0 hN hm3
  clear hm1 hm2
  generalize w.alloc (.cells #[.int .i64 n, .slice A gp.length c] 32) = W at *
  go_loopw [7, 16] (fun _ i wr => ∃ k : Nat, k ≤ l.length ∧ i = .int .i64 k ∧ Own intCell 1 2 wr (w.heap.size + 1) (.slice (some ⟨w.heap.size + 1, 0, none⟩) n n) (cntL n (l.take k)) ∧ Below (w.heap.size + 1) W wr) (fun _ i _ => l.length - (intOf i).toNat)
  case atStart => exact ⟨0, Nat.zero_le _, rfl, by rw [List.take_zero, cntL_nil]; exact hO0, hN⟩
  case round =>
    clear hO0 hN
    obtain ⟨k, hk, rfl, hO, hB0⟩ := hrel
    have hB : Below W.heap.size W wr := by rw [hs0.out]; exact hB0
    have hs := hB.size
    by_cases hlt : k < l.length
    · obtain ⟨b, off, hC0, hbb, c0, c1, c2⟩ := firings_at (h1.now hB) k hlt
      cases hC0
      have hev := (hr'.out.2 _ (List.getElem_mem hlt)).1
      obtain ⟨f, hf⟩ : ∃ f, l[k] = f := ⟨_, rfl⟩
      have hfH := Lib.hid hf
      rw [hf] at c0 c1 c2 hev
      clear hf
      obtain ⟨ev, nu, ti⟩ := f
      simp only at c0 c1 c2 hev
      obtain ⟨e, rfl⟩ := Int.eq_ofNat_of_zero_le hev.1
      have i1 : (0 : Int) ≤ (e : Int) := by omega
      have i2 : (e : Int) < (n : Int) := hev.2
      have hlen : e < (cntL n (l.take k)).length := by rw [cntL_len]; omega
      obtain ⟨_, hgl2, hfz, e0⟩ := own_ints_at hO e hlen
      rw [cntL_get] at e0
      have hcb := timesIn_len (l.take k) (e : Int)
      rw [List.length_take, Nat.min_eq_left hk] at hcb
      have hw1 : wr.heap.size ≠ w.heap.size + 1 := by omega
      have hw2 : w.heap.size + 1 ≠ wr.heap.size := by omega
      have hO1 := hO.set1 e hlen (((timesIn (l.take k) (e : Int)).length : Int) + 1)
      rw [cntL_set n (l.take k) e nu ti, ← hfH.out, ← take_succ_get _ _ hlt] at hO1
      have hB1 := (hB0.setCell (p := ⟨w.heap.size + 1, e, none⟩) (Nat.le_refl _) (.int .i64 (((timesIn (l.take k) (e : Int)).length : Int) + 1))).alloc (by simp; omega) (.cells #[.int .i64 e, .int .i64 nu, .int .i64 ti] 94)
      clear hlen hfH hev
      go_wp2
      go_roundw
      case rel => exact ⟨k + 1, hlt, by go_num, hO1.alloc _, hB1⟩
      case measure => simp [intOf]; omega
    · obtain rfl : k = l.length := by omega
      rw [List.take_length] at hO
      obtain ⟨wo, hwo⟩ : ∃ x, x = wr := ⟨_, rfl⟩
      subst hwo
      have hb1 := hb0.now hB
      obtain ⟨k0, k1⟩ := hb1.c2
      have l0 := hb1.lt
      have hQ0 := hm4.out wo
      have hNr : Below wo.heap.size wo (wo.alloc (.cells (madeCells (intCell 0).toArray (gp.length * 1)) 2)) := (Below.refl _ _).alloc (Nat.le_refl _) _
      have hO2 := hO.now hNr
      simp only [Nat.mul_one] at hQ0 hNr hO2
      go_wp2
      clear k0 k1 hm3 hm4
      go_loopw [9, 10, 35] (fun _ _ i wr => ∃ j : Nat, j ≤ gp.length ∧ i = .int .i64 j ∧ Own intCell 1 2 wr wo.heap.size (.slice (some ⟨wo.heap.size, 0, none⟩) gp.length gp.length) ((markT gp (timesIn l)).take j ++ List.replicate ((markT gp (timesIn l)).length - j) 0) ∧ Below wo.heap.size wo wr) (fun _ _ i _ => gp.length - (intOf i).toNat)
      case atStart => exact ⟨0, Nat.zero_le _, rfl, by rw [hLn.out]; simpa using hQ0, hNr⟩
      case round =>
        clear hQ0 hNr hO2
        obtain ⟨j, hj, rfl, hQ, hBj⟩ := hrel
        have hsj := hBj.size
        by_cases hlt : j < gp.length
        · obtain ⟨b, off, hA0, hbb, d0, d1, d2, d3⟩ := places_at ((h0.now hB).now hBj) j hlt
          cases hA0
          have hp := okGraph_place hg'.out (List.getElem_mem hlt)
          have hLj := Lib.hid (hL.out j hlt (by rw [hLn.out]; exact hlt))
          obtain ⟨p, hpe⟩ : ∃ p, gp[j] = p := ⟨_, rfl⟩
          rw [hpe] at d0 d1 d2 d3 hp hLj
          clear hpe
          obtain ⟨sv, dv, del, tk⟩ := p
          simp only at d0 d1 d2 d3 hp hLj
          obtain ⟨⟨p1, p2⟩, ⟨p3, p4⟩, _, p5, p6⟩ := hp
          obtain ⟨s, rfl⟩ := Int.eq_ofNat_of_zero_le p1
          obtain ⟨t, rfl⟩ := Int.eq_ofNat_of_zero_le p3
          have hOj := hO.now hBj
          have hns : s < (cntL n l).length := by rw [cntL_len]; omega
          have hnt : t < (cntL n l).length := by rw [cntL_len]; omega
          obtain ⟨_, hg1, _, e0⟩ := own_ints_at hOj s hns
          obtain ⟨_, _, _, e1⟩ := own_ints_at hOj t hnt
          rw [cntL_get] at e0 e1
          have hcs := timesIn_len l (s : Int)
          have hct := timesIn_len l (t : Int)
          have hjl : j < ((markT gp (timesIn l)).take j ++ List.replicate ((markT gp (timesIn l)).length - j) 0).length := by rw [fill_len _ _ _ (by rw [hLn.out]; exact hj), hLn.out]; exact hlt
          obtain ⟨_, hg2, hfz, _⟩ := own_ints_at hQ j hjl
          have hS : Hid (((markT gp (timesIn l)).take j ++ List.replicate ((markT gp (timesIn l)).length - j) 0).set j (tk + ((timesIn l (s : Int)).length : Int) - ((timesIn l (t : Int)).length : Int)) = (markT gp (timesIn l)).take (j + 1) ++ List.replicate ((markT gp (timesIn l)).length - (j + 1)) 0) := by
            show _ = _
            rw [← hLj.out]
            exact fill_set _ _ _ _
          go_wp2_with fail
          have hA1 : Below wr.heap.size wr (wr.alloc (.cells #[.int .i64 s, .int .i64 t, .int .i64 del, .int .i64 tk] 65)) := (Below.refl _ _).alloc (Nat.le_refl _) _
          have hbx := Blk.newAt wr (t := 65) (cs := #[.int .i64 s, .int .i64 t, .int .i64 del, .int .i64 tk]) _ rfl
          have y0 := cell_keep e0 hA1
          have y1 := cell_keep e1 hA1
          replace hQ := hQ.now hA1
          replace hBj := hBj.trans (hA1.mono hsj)
          clear d0 d1 d2 d3 hbb e0 e1 hA1 hOj hg1 hg2 hfz
          generalize wr.alloc (.cells #[.int .i64 s, .int .i64 t, .int .i64 del, .int .i64 tk] 65) = V at *
          generalize wr.heap.size = bx at *
          obtain ⟨x0, x1, x2, x3⟩ := hbx.c4
          have hBd : Below V.heap.size V V.drew := Below.drew (Below.refl _ V)
          have z0 : V.drew.cell? ⟨bx, 0, none⟩ = some (.int .i64 s) := x0
          have z1 : V.drew.cell? ⟨bx, 1, none⟩ = some (.int .i64 t) := x1
          have z3 : V.drew.cell? ⟨bx, 3, none⟩ = some (.int .i64 tk) := x3
          have z4 : V.drew.cell? ⟨w.heap.size + 1, s, none⟩ = some (.int .i64 (timesIn l (s : Int)).length) := y0
          have z5 : V.drew.cell? ⟨w.heap.size + 1, t, none⟩ = some (.int .i64 (timesIn l (t : Int)).length) := y1
          have hQd := hQ.now hBd
          obtain ⟨_, hg2, hfz, e9⟩ := own_ints_at hQd j hjl
          have i3 : (0 : Int) ≤ (s : Int) := by omega
          have i4 : (s : Int) < (n : Int) := by omega
          have i5 : (0 : Int) ≤ (t : Int) := by omega
          have i6 : (t : Int) < (n : Int) := by omega
          have i7 : (0 : Int) ≤ (j : Int) := by omega
          have i8 : (j : Int) < (gp.length : Int) := by omega
          have wr1 : IntKind.i64.wrap (tk + ((timesIn l (s : Int)).length : Int)) = tk + ((timesIn l (s : Int)).length : Int) := IntWalk.i64_in _ (by omega)
          have wr2 : IntKind.i64.wrap (tk + ((timesIn l (s : Int)).length : Int) - ((timesIn l (t : Int)).length : Int)) = tk + ((timesIn l (s : Int)).length : Int) - ((timesIn l (t : Int)).length : Int) := IntWalk.i64_in _ (by omega)
          clear x0 x1 x2 x3 y0 y1
          refine wp_region_E (fun w' => w'.cell? ⟨bx, 0, none⟩ = some (.int .i64 (s : Nat)) ∧ w'.cell? ⟨bx, 1, none⟩ = some (.int .i64 (t : Nat)) ∧ w'.cell? ⟨bx, 3, none⟩ = some (.int .i64 tk) ∧ w'.cell? ⟨w.heap.size + 1, s, none⟩ = some (.int .i64 (timesIn l (s : Int)).length) ∧ w'.cell? ⟨w.heap.size + 1, t, none⟩ = some (.int .i64 (timesIn l (t : Int)).length)) 17 (by kernel_rfl) ?_
          have hS0 : (fun w' : World => w'.cell? ⟨bx, 0, none⟩ = some (.int .i64 (s : Nat)) ∧ w'.cell? ⟨bx, 1, none⟩ = some (.int .i64 (t : Nat)) ∧ w'.cell? ⟨bx, 3, none⟩ = some (.int .i64 tk) ∧ w'.cell? ⟨w.heap.size + 1, s, none⟩ = some (.int .i64 (timesIn l (s : Int)).length) ∧ w'.cell? ⟨w.heap.size + 1, t, none⟩ = some (.int .i64 (timesIn l (t : Int)).length)) V.drew := ⟨z0, z1, z3, z4, z5⟩
          refine wpAnyE_take (i := 0) (v := ?_) rfl (by kernel_rfl) (by kernel_rfl) (by kernel_rfl) (by kernel_rfl) (by kernel_rfl) (fun _ _ _ h => h) hS0 (by rfl) ?_ ?_
          rotate_left
          · intro w9 hSw
            try dsimp only at hSw
            obtain ⟨s0, s1, s2, s3, s4⟩ := hSw
            go_simp
            try with_reducible rfl
          try simp only [Act.put, List.setIfInBounds_toArray, List.set_cons_zero, List.set_cons_succ]
          refine wpAnyE_take (i := 1) (v := ?_) rfl (by kernel_rfl) (by kernel_rfl) (by kernel_rfl) (by kernel_rfl) (by kernel_rfl) (fun _ _ _ h => h) hS0 (by rfl) ?_ ?_
          rotate_left
          · intro w9 hSw
            try dsimp only at hSw
            obtain ⟨s0, s1, s2, s3, s4⟩ := hSw
            go_simp
            try with_reducible rfl
          try simp only [Act.put, List.setIfInBounds_toArray, List.set_cons_zero, List.set_cons_succ]
          refine wpAnyE_take (i := 2) (v := ?_) rfl (by kernel_rfl) (by kernel_rfl) (by kernel_rfl) (by kernel_rfl) (by kernel_rfl) (fun _ _ _ h => h) hS0 (by rfl) ?_ ?_
          rotate_left
          · intro w9 hSw
            try dsimp only at hSw
            obtain ⟨s0, s1, s2, s3, s4⟩ := hSw
            go_simp
            try with_reducible rfl
          try simp only [Act.put, List.setIfInBounds_toArray, List.set_cons_zero, List.set_cons_succ]
          refine wpAnyE_take (i := 3) (v := ?_) rfl (by kernel_rfl) (by kernel_rfl) (by kernel_rfl) (by kernel_rfl) (by kernel_rfl) (fun _ _ _ h => h) hS0 (by rfl) ?_ ?_
          rotate_left
          · intro w9 hSw
            try dsimp only at hSw
            obtain ⟨s0, s1, s2, s3, s4⟩ := hSw
            go_simp
            try with_reducible rfl
          try simp only [Act.put, List.setIfInBounds_toArray, List.set_cons_zero, List.set_cons_succ]
          refine wpAnyE_take (i := 4) (v := ?_) rfl (by kernel_rfl) (by kernel_rfl) (by kernel_rfl) (by kernel_rfl) (by kernel_rfl) (fun _ _ _ h => h) hS0 (by rfl) ?_ ?_
          rotate_left
          · intro w9 hSw
            try dsimp only at hSw
            obtain ⟨s0, s1, s2, s3, s4⟩ := hSw
            go_simp
            try with_reducible rfl
          try simp only [Act.put, List.setIfInBounds_toArray, List.set_cons_zero, List.set_cons_succ]
          refine wpAnyE_take (i := 5) (v := ?_) rfl (by kernel_rfl) (by kernel_rfl) (by kernel_rfl) (by kernel_rfl) (by kernel_rfl) (fun _ _ _ h => h) hS0 (by rfl) ?_ ?_
          rotate_left
          · intro w9 hSw
            try dsimp only at hSw
            obtain ⟨s0, s1, s2, s3, s4⟩ := hSw
            go_simp
            try with_reducible rfl
          try simp only [Act.put, List.setIfInBounds_toArray, List.set_cons_zero, List.set_cons_succ]
          refine wpAnyE_take (i := 6) (v := ?_) rfl (by kernel_rfl) (by kernel_rfl) (by kernel_rfl) (by kernel_rfl) (by kernel_rfl) (fun _ _ _ h => h) hS0 (by rfl) ?_ ?_
          rotate_left
          · intro w9 hSw
            try dsimp only at hSw
            obtain ⟨s0, s1, s2, s3, s4⟩ := hSw
            go_simp
            try with_reducible rfl
          try simp only [Act.put, List.setIfInBounds_toArray, List.set_cons_zero, List.set_cons_succ]
          refine wpAnyE_take (i := 7) (v := ?_) rfl (by kernel_rfl) (by kernel_rfl) (by kernel_rfl) (by kernel_rfl) (by kernel_rfl) (fun _ _ _ h => h) hS0 (by rfl) ?_ ?_
          rotate_left
          · intro w9 hSw
            try dsimp only at hSw
            obtain ⟨s0, s1, s2, s3, s4⟩ := hSw
            go_simp
            try with_reducible rfl
          try simp only [Act.put, List.setIfInBounds_toArray, List.set_cons_zero, List.set_cons_succ]
          refine wpAnyE_take (i := 8) (v := ?_) rfl (by kernel_rfl) (by kernel_rfl) (by kernel_rfl) (by kernel_rfl) (by kernel_rfl) (fun _ _ _ h => h) hS0 (by rfl) ?_ ?_
          rotate_left
          · intro w9 hSw
            try dsimp only at hSw
            obtain ⟨s0, s1, s2, s3, s4⟩ := hSw
            go_simp
            try with_reducible rfl
          try simp only [Act.put, List.setIfInBounds_toArray, List.set_cons_zero, List.set_cons_succ]
          refine wpAnyE_take (i := 9) (v := ?_) rfl (by kernel_rfl) (by kernel_rfl) (by kernel_rfl) (by kernel_rfl) (by kernel_rfl) (fun _ _ _ h => h) hS0 (by rfl) ?_ ?_
          rotate_left
          · intro w9 hSw
            try dsimp only at hSw
            obtain ⟨s0, s1, s2, s3, s4⟩ := hSw
            go_simp
            try with_reducible rfl
          try simp only [Act.put, List.setIfInBounds_toArray, List.set_cons_zero, List.set_cons_succ]
          refine wpAnyE_take (i := 10) (v := ?_) rfl (by kernel_rfl) (by kernel_rfl) (by kernel_rfl) (by kernel_rfl) (by kernel_rfl) (fun _ _ _ h => h) hS0 (by rfl) ?_ ?_
          rotate_left
          · intro w9 hSw
            try dsimp only at hSw
            obtain ⟨s0, s1, s2, s3, s4⟩ := hSw
            go_simp
            try with_reducible rfl
          try simp only [Act.put, List.setIfInBounds_toArray, List.set_cons_zero, List.set_cons_succ]
          refine wpAnyE_take (i := 11) (v := ?_) rfl (by kernel_rfl) (by kernel_rfl) (by kernel_rfl) (by kernel_rfl) (by kernel_rfl) (fun _ _ _ h => h) hS0 (by rfl) ?_ ?_
          rotate_left
          · intro w9 hSw
            try dsimp only at hSw
            obtain ⟨s0, s1, s2, s3, s4⟩ := hSw
            go_simp
            try with_reducible rfl
          try simp only [Act.put, List.setIfInBounds_toArray, List.set_cons_zero, List.set_cons_succ]
          refine wpAnyE_take (i := 12) (v := ?_) rfl (by kernel_rfl) (by kernel_rfl) (by kernel_rfl) (by kernel_rfl) (by kernel_rfl) (fun _ _ _ h => h) hS0 (by rfl) ?_ ?_
          rotate_left
          · intro w9 hSw
            try dsimp only at hSw
            obtain ⟨s0, s1, s2, s3, s4⟩ := hSw
            go_simp
            try with_reducible rfl
          try simp only [Act.put, List.setIfInBounds_toArray, List.set_cons_zero, List.set_cons_succ]
          refine wpAnyE_take (i := 13) (v := ?_) rfl (by kernel_rfl) (by kernel_rfl) (by kernel_rfl) (by kernel_rfl) (by kernel_rfl) (fun _ _ _ h => h) hS0 (by rfl) ?_ ?_
          rotate_left
          · intro w9 hSw
            try dsimp only at hSw
            obtain ⟨s0, s1, s2, s3, s4⟩ := hSw
            go_simp
            try with_reducible rfl
          try simp only [Act.put, List.setIfInBounds_toArray, List.set_cons_zero, List.set_cons_succ]
          refine wpAnyE_take (i := 14) (v := ?_) rfl (by kernel_rfl) (by kernel_rfl) (by kernel_rfl) (by kernel_rfl) (by kernel_rfl) (fun _ _ _ h => h) hS0 (by rfl) ?_ ?_
          rotate_left
          · intro w9 hSw
            try dsimp only at hSw
            obtain ⟨s0, s1, s2, s3, s4⟩ := hSw
            go_simp
            try with_reducible rfl
          try simp only [Act.put, List.setIfInBounds_toArray, List.set_cons_zero, List.set_cons_succ]
          refine wpAnyE_take (i := 15) (v := ?_) rfl (by kernel_rfl) (by kernel_rfl) (by kernel_rfl) (by kernel_rfl) (by kernel_rfl) (fun _ _ _ h => h) hS0 (by rfl) ?_ ?_
          rotate_left
          · intro w9 hSw
            try dsimp only at hSw
            obtain ⟨s0, s1, s2, s3, s4⟩ := hSw
            go_simp
            try with_reducible rfl
          try simp only [Act.put, List.setIfInBounds_toArray, List.set_cons_zero, List.set_cons_succ]
          refine wpAnyE_take (i := 16) (v := ?_) rfl (by kernel_rfl) (by kernel_rfl) (by kernel_rfl) (by kernel_rfl) (by kernel_rfl) (fun _ _ _ h => h) hS0 (by rfl) ?_ ?_
          rotate_left
          · intro w9 hSw
            try dsimp only at hSw
            obtain ⟨s0, s1, s2, s3, s4⟩ := hSw
            go_simp
            try with_reducible rfl
          try simp only [Act.put, List.setIfInBounds_toArray, List.set_cons_zero, List.set_cons_succ]
          refine wpAnyE_one (i := 17) rfl (by kernel_rfl) (fun K hK => ?_)
          go_simp
          refine hK.out _ _ (fun h => absurd rfl h) ?_
          clear hK K
          try simp only [Act.put, List.setIfInBounds_toArray, List.set_cons_zero, List.set_cons_succ]
          refine wpAnyE_done (by kernel_rfl) ?_
          have hQn := hQd.set1 j hjl (tk + ((timesIn l (s : Int)).length : Int) - ((timesIn l (t : Int)).length : Int))
          rw [hS.out] at hQn
          have hBn := (hBj.trans (hBd.mono hBj.size)).setCell (p := ⟨wo.heap.size, j, none⟩) (Nat.le_refl _) (.int .i64 (tk + ((timesIn l (s : Int)).length : Int) - ((timesIn l (t : Int)).length : Int)))
          go_wp2
          go_roundw
          case rel => exact ⟨j + 1, hlt, by go_num, hQn, hBn⟩
          case measure => simp [intOf]; omega
        · obtain rfl : j = gp.length := by omega
          have hF : Hid ((markT gp (timesIn l)).take gp.length ++ List.replicate ((markT gp (timesIn l)).length - gp.length) 0 = markT gp (timesIn l)) := by
            show _ = _
            have := fill_all (markT gp (timesIn l)) 0
            rwa [hLn.out] at this ⊢
          rw [hF.out] at hQ
          go_wp2
          go_ret
          exact ⟨_, rfl, hQ.rebase (by omega), hW.trans ((hB.trans (hBj.mono hs)).mono hW.size)⟩
set_option maxHeartbeats 2000000 in
set_option maxRecDepth 100000 in
theorem impl_MarkingAfter (v : Value) (ge : Int) (gp : List Place) (u : Value) (l : List Firing) (w : World) (h0 : Lst Place.cells 4 w w.heap.size v gp) (h1 : Lst Firing.cells 3 w w.heap.size u l) :
    Calls Try.prog 42 #[.agg #[.int .i64 ge, v], u] w (RetOwnI intCell 1 2 w (afterF ge gp l).1 (afterF ge gp l).2) := by
  obtain ⟨A, c, rfl⟩ := h0.shape
  obtain ⟨C, d, rfl⟩ := h1.shape
  go_enter Try.func42, Try.ntmps42
  go_wp2_with fail
  have hW : Below w.heap.size w (w.alloc (.cells #[.int .i64 ge, .slice A gp.length c] 32)) := (Below.refl _ _).alloc (Nat.le_refl _) _; have hb0 : Blk (w.alloc (.cells #[.int .i64 ge, .slice A gp.length c] 32)) w.heap.size 32 #[.int .i64 ge, .slice A gp.length c] := Blk.new _ _ _; replace h0 := h0.now hW; replace h1 := h1.now hW; generalize (w.alloc (.cells #[.int .i64 ge, .slice A gp.length c] 32)) = W at *
  refine (impl_checkRun _ _ _ _ _ _ h0 h1).mono ?_
  rintro e w1 ⟨rfl, hB⟩
  replace hW := hW.trans (hB.mono hW.size); replace h0 := h0.now hB; replace h1 := h1.now hB; replace hb0 := hb0.now hB
  obtain ⟨k0, k1⟩ := hb0.c2
  clear hB
  cases hg : okGraph ge gp
  · have hE : Hid (afterF ge gp l = ([], 1)) := by show _ = _; simp [afterF, hg]
    clear hg
    simp only [if_true]
    go_wp2
    go_ret2
    exact RetOwnI.of hE.out ⟨_, rfl, Own.nil, hW⟩
  · obtain ⟨hge1, hge2⟩ := okGraph_ev hg
    obtain ⟨n, rfl⟩ := Int.eq_ofNat_of_zero_le (show 0 ≤ ge by omega)
    have hg' := Lib.hid hg
    clear hg
    cases hm : isRunF n gp l
    · have hE : Hid (afterF n gp l = ([], 2)) := by show _ = _; simp [afterF, hg'.out, hm]
      clear hm
      simp only [Bool.true_eq_false, if_false, if_true]
      go_wp2
      go_ret2
      exact RetOwnI.of hE.out ⟨_, rfl, Own.nil, hW⟩
    · have hE : Hid (afterF n gp l = (markT gp (timesIn l), 0)) := by show _ = _; simp [afterF, hg'.out, hm]
      have hok := Lib.hid (isRunF_ok hm)
      clear hm
      simp only [Bool.true_eq_false, if_false]
      go_wp2_with fail
      refine (impl_markingAfter _ _ _ _ _ _ h0 h1 hg'.out hok.out.1 hok.out.2).mono ?_
      rintro e w3 ⟨x, rfl, hO, hB⟩
      go_wp2
      go_ret2
      exact RetOwnI.of hE.out ⟨_, rfl, hO.rebase hW.size, hW.trans (hB.mono hW.size)⟩
set_option maxHeartbeats 2000000 in
set_option maxRecDepth 100000 in
theorem impl_NextEvents (v : Value) (ge : Int) (gp : List Place) (u : Value) (l : List Firing) (w : World) (h0 : Lst Place.cells 4 w w.heap.size v gp) (h1 : Lst Firing.cells 3 w w.heap.size u l) :
    Calls Try.prog 44 #[.agg #[.int .i64 ge, v], u] w (RetOwnI intCell 1 2 w (nextsF ge gp l).1 (nextsF ge gp l).2) := by
  obtain ⟨A, c, rfl⟩ := h0.shape
  obtain ⟨C, d, rfl⟩ := h1.shape
  go_enter Try.func44, Try.ntmps44
  go_wp2_with fail
  have hW : Below w.heap.size w (w.alloc (.cells #[.int .i64 ge, .slice A gp.length c] 32)) := (Below.refl _ _).alloc (Nat.le_refl _) _; have hb0 : Blk (w.alloc (.cells #[.int .i64 ge, .slice A gp.length c] 32)) w.heap.size 32 #[.int .i64 ge, .slice A gp.length c] := Blk.new _ _ _; replace h0 := h0.now hW; replace h1 := h1.now hW; generalize (w.alloc (.cells #[.int .i64 ge, .slice A gp.length c] 32)) = W at *
  refine (impl_checkRun _ _ _ _ _ _ h0 h1).mono ?_
  rintro e w1 ⟨rfl, hB⟩
  replace hW := hW.trans (hB.mono hW.size); replace h0 := h0.now hB; replace h1 := h1.now hB; replace hb0 := hb0.now hB
  obtain ⟨k0, k1⟩ := hb0.c2
  clear hB
  cases hg : okGraph ge gp
  · have hE : Hid (nextsF ge gp l = ([], 1)) := by show _ = _; simp [nextsF, hg]
    clear hg
    simp only [if_true]
    go_wp2
    go_ret2
    exact RetOwnI.of hE.out ⟨_, rfl, Own.nil, hW⟩
  · obtain ⟨hge1, hge2⟩ := okGraph_ev hg
    obtain ⟨n, rfl⟩ := Int.eq_ofNat_of_zero_le (show 0 ≤ ge by omega)
    have hg' := Lib.hid hg
    clear hg
    cases hm : isRunF n gp l
    · have hE : Hid (nextsF n gp l = ([], 2)) := by show _ = _; simp [nextsF, hg'.out, hm]
      clear hm
      simp only [Bool.true_eq_false, if_false, if_true]
      go_wp2
      go_ret2
      exact RetOwnI.of hE.out ⟨_, rfl, Own.nil, hW⟩
    · have hE : Hid (nextsF n gp l = (enL gp (markT gp (timesIn l)) n, 0)) := by show _ = _; simp [nextsF, hg'.out, hm]
      have hok := Lib.hid (isRunF_ok hm)
      have hln := Lib.hid (markT_len gp (timesIn l))
      clear hm
      simp only [Bool.true_eq_false, if_false]
      go_wp2
      refine wp_region_held_drew (S := fun w' => w'.cell? ⟨w.heap.size, 0, none⟩ = some (.int .i64 n) ∧ w'.cell? ⟨w.heap.size, 1, none⟩ = some (.slice A gp.length c)) (by kernel_rfl) ⟨k0, k1⟩ (fun hH => ?_)
      refine wpAnyH_take (i := 0) (oi := { dst := _, op := _, type := _, pos := _, after := _, guard := _ }) (v := ?_) rfl (by kernel_rfl) (by kernel_rfl) (by kernel_rfl) (fun _ _ _ h => h) (Or.inl ⟨by rfl, ?_⟩) hH ?_
      rotate_left
      · intro w9 hSw
        try dsimp only at hSw
        obtain ⟨s0, s1⟩ := hSw
        go_simp
        try with_reducible rfl
      try simp only [Act.put, List.setIfInBounds_toArray, List.set_cons_zero, List.set_cons_succ]
      refine wpAnyH_take (i := 1) (oi := { dst := _, op := _, type := _, pos := _, after := _, guard := _ }) (v := ?_) rfl (by kernel_rfl) (by kernel_rfl) (by kernel_rfl) (fun _ _ _ h => h) (Or.inl ⟨by rfl, ?_⟩) hH ?_
      rotate_left
      · intro w9 hSw
        try dsimp only at hSw
        obtain ⟨s0, s1⟩ := hSw
        go_simp
        try with_reducible rfl
      try simp only [Act.put, List.setIfInBounds_toArray, List.set_cons_zero, List.set_cons_succ]
      refine wpAnyH_take (i := 2) (oi := { dst := _, op := _, type := _, pos := _, after := _, guard := _ }) (v := ?_) rfl (by kernel_rfl) (by kernel_rfl) (by kernel_rfl) (fun _ _ _ h => h) (Or.inl ⟨by rfl, ?_⟩) hH ?_
      rotate_left
      · intro w9 hSw
        try dsimp only at hSw
        obtain ⟨s0, s1⟩ := hSw
        go_simp
        try with_reducible rfl
      try simp only [Act.put, List.setIfInBounds_toArray, List.set_cons_zero, List.set_cons_succ]
      refine wpAnyH_ready (rs := [3]) (by kernel_rfl) (by simp) ?_
      refine AllReadyH.cons rfl (fun K hK => ?_) AllReadyH.nil
      go_simp
      go_at_call 139
      refine (impl_markingAfter _ n _ _ _ w1.drew (h0.now (Below.drew (Below.refl _ w1))) (h1.now (Below.drew (Below.refl _ w1))) hg'.out hok.out.1 hok.out.2).mono ?_
      rintro e3 w3 ⟨x3, rfl, hO3, hB3⟩
      have k0a := cell_keep (w := w1.drew) k0 hB3
      have k1a := cell_keep (w := w1.drew) k1 hB3
      refine hK.out _ _ ⟨k0a, k1a⟩ (fun hH => ?_)
      clear hK K
      try simp only [Act.put, List.setIfInBounds_toArray, List.set_cons_zero, List.set_cons_succ]
      refine wpAnyH_ready (rs := [4]) (by kernel_rfl) (by simp) ?_
      refine AllReadyH.cons rfl (fun K hK => ?_) AllReadyH.nil
      go_simp
      go_at_call 141
      refine (impl_enabledIn _ n _ _ _ w3 ((h0.now (Below.drew (Below.refl _ w1))).now hB3) hO3.lst hln.out (by omega)).mono ?_
      rintro e4 w5 ⟨x5, rfl, hO5, hB5⟩
      have k0b := cell_keep k0a hB5
      have k1b := cell_keep k1a hB5
      refine hK.out _ _ ⟨k0b, k1b⟩ (fun hH => ?_)
      clear hK K
      try simp only [Act.put, List.setIfInBounds_toArray, List.set_cons_zero, List.set_cons_succ]
      refine wpAnyH_take (i := 5) (oi := { dst := _, op := _, type := _, pos := _, after := _, guard := _ }) (v := ?_) rfl (by kernel_rfl) (by kernel_rfl) (by kernel_rfl) (fun _ _ _ h => h) (Or.inl ⟨by rfl, ?_⟩) hH ?_
      rotate_left
      · intro w9 hSw
        try dsimp only at hSw
        obtain ⟨s0, s1⟩ := hSw
        go_simp
        try with_reducible rfl
      try simp only [Act.put, List.setIfInBounds_toArray, List.set_cons_zero, List.set_cons_succ]
      refine wpAnyH_take (i := 6) (oi := { dst := _, op := _, type := _, pos := _, after := _, guard := _ }) (v := ?_) rfl (by kernel_rfl) (by kernel_rfl) (by kernel_rfl) (fun _ _ _ h => h) (Or.inl ⟨by rfl, ?_⟩) hH ?_
      rotate_left
      · intro w9 hSw
        try dsimp only at hSw
        obtain ⟨s0, s1⟩ := hSw
        go_simp
        try with_reducible rfl
      try simp only [Act.put, List.setIfInBounds_toArray, List.set_cons_zero, List.set_cons_succ]
      refine wpAnyH_done (by kernel_rfl) ?_ _
      go_wp2
      go_ret2
      exact RetOwnI.of hE.out ⟨_, rfl, hO5.rebase (Nat.le_trans hW.size hB3.size), hW.trans ((((Below.refl _ w1).drew.trans hB3).trans (hB5.mono hB3.size)).mono hW.size)⟩
set_option maxHeartbeats 4000000 in
set_option maxRecDepth 100000 in
theorem spec_MarkingAfter (v : Value) (ge : Int) (gp : List Place) (u : Value) (l : List Firing) (w : World) (h0 : Lst Place.cells 4 w w.heap.size v gp) (h1 : Lst Firing.cells 3 w w.heap.size u l) :
    Calls Try.prog 43 #[.agg #[.int .i64 ge, v], u] w (RetOwnI intCell 1 2 w (afterF ge gp l).1 (afterF ge gp l).2) := by
  obtain ⟨A, c, rfl⟩ := h0.shape
  obtain ⟨C, d, rfl⟩ := h1.shape
  go_enter Try.func43, Try.ntmps43
  go_wp2_with fail
  have hW : Below w.heap.size w (w.alloc (.cells #[.int .i64 ge, .slice A gp.length c] 32)) := (Below.refl _ _).alloc (Nat.le_refl _) _; have hb0 : Blk (w.alloc (.cells #[.int .i64 ge, .slice A gp.length c] 32)) w.heap.size 32 #[.int .i64 ge, .slice A gp.length c] := Blk.new _ _ _; replace h0 := h0.now hW; replace h1 := h1.now hW; generalize (w.alloc (.cells #[.int .i64 ge, .slice A gp.length c] 32)) = W at *
  refine (spec_l14Code _ _ _ _ _ _ h0 h1).mono ?_
  rintro e w1 ⟨rfl, hB⟩
  replace hW := hW.trans (hB.mono hW.size); replace h0 := h0.now hB; replace h1 := h1.now hB; replace hb0 := hb0.now hB
  obtain ⟨k0, k1⟩ := hb0.c2
  clear hB
  cases hg : okGraph ge gp
  · have hE : Hid (afterF ge gp l = ([], 1)) := by show _ = _; simp [afterF, hg]
    clear hg
    simp only [if_true]
    go_wp2
    go_ret2
    exact RetOwnI.of hE.out ⟨_, rfl, Own.nil, hW⟩
  · have hgl := okGraph_len hg
    have hg' := Lib.hid hg
    clear hg
    cases hm : isRunF ge gp l
    · have hE : Hid (afterF ge gp l = ([], 2)) := by show _ = _; simp [afterF, hg'.out, hm]
      clear hm
      simp only [Bool.true_eq_false, if_false, if_true]
      go_wp2
      go_ret2
      exact RetOwnI.of hE.out ⟨_, rfl, Own.nil, hW⟩
    · have hE : Hid (afterF ge gp l = (markT gp (timesIn l), 0)) := by show _ = _; simp [afterF, hg'.out, hm]
      have hok := Lib.hid (isRunF_ok hm)
      have hL := Lib.hid (markT_get gp (timesIn l))
      have hLn := Lib.hid (markT_len gp (timesIn l))
      have hl5 := hok.out.2
      clear hm
      simp only [Bool.true_eq_false, if_false]
      go_wp2
      have hs1 := hW.size
      go_loopw [7, 8, 9] (fun o i _ wr => ∃ j : Nat, j ≤ gp.length ∧ i = .int .i64 j ∧ Own intCell 1 2 wr w1.heap.size o ((markT gp (timesIn l)).take j) ∧ Below w1.heap.size w1 wr) (fun _ i _ _ => gp.length - (intOf i).toNat)
      case atStart => exact ⟨0, Nat.zero_le _, rfl, own_new0 _ _ _ _ _ (Nat.le_refl _), (Below.refl _ _).alloc (Nat.le_refl _) _⟩
      case round =>
        obtain ⟨j, hj, rfl, hO, hB⟩ := hrel
        have hs := hB.size
        obtain ⟨k0, k1⟩ := (hb0.now hB).c2
        have l0 := (hb0.now hB).lt
        by_cases hlt : j < gp.length
        · obtain ⟨b, off, hA0, hbb, d0, d1, d2, d3⟩ := places_at (h0.now hB) j hlt
          cases hA0
          have hp := okGraph_place hg'.out (List.getElem_mem hlt)
          have hLj := Lib.hid (hL.out j hlt (by rw [hLn.out]; exact hlt))
          have hT := Lib.hid (take_succ_get (markT gp (timesIn l)) j (by rw [hLn.out]; exact hlt))
          obtain ⟨p, hpe⟩ : ∃ p, gp[j] = p := ⟨_, rfl⟩
          rw [hpe] at d0 d1 d2 d3 hp hLj
          clear hpe
          obtain ⟨sv, dv, del, tk⟩ := p
          simp only at d0 d1 d2 d3 hp hLj
          obtain ⟨_, _, _, p5, p6⟩ := hp
          have hcs := timesIn_len l sv
          have hct := timesIn_len l dv
          go_wp2_with fail
          have hA1 : Below wr.heap.size wr (wr.alloc (.cells #[.int .i64 sv, .int .i64 dv, .int .i64 del, .int .i64 tk] 65)) := (Below.refl _ _).alloc (Nat.le_refl _) _
          have hbx := Blk.newAt wr (t := 65) (cs := #[.int .i64 sv, .int .i64 dv, .int .i64 del, .int .i64 tk]) _ rfl
          replace hO := hO.now hA1
          have hnb := hO.ne_blk hbx (by decide)
          replace hB := hB.trans (hA1.mono hs)
          clear d0 d1 d2 d3 hbb hA1 k0 k1 l0
          generalize wr.alloc (.cells #[.int .i64 sv, .int .i64 dv, .int .i64 del, .int .i64 tk] 65) = V at *
          generalize wr.heap.size = bx at *
          have hs2 := hB.size
          obtain ⟨x0, x1, x2, x3⟩ := hbx.c4
          have z0 : V.drew.cell? ⟨bx, 0, none⟩ = some (.int .i64 sv) := x0
          have z1 : V.drew.cell? ⟨bx, 1, none⟩ = some (.int .i64 dv) := x1
          have z3 : V.drew.cell? ⟨bx, 3, none⟩ = some (.int .i64 tk) := x3
          have hFd := (h1.now hB).now (Below.drew (Below.refl _ V))
          have hl1000 : l.length ≤ 1000 := by omega
          have hZ : Below V.heap.size V (V.drew.alloc (.cells #[.int .i64 (tk + ((timesIn l sv).length : Int) - ((timesIn l dv).length : Int))] 2)) := (Below.refl _ _).drew.alloc (Nat.le_refl _) _
          have qO := hO.now hZ
          have hbZ := hbx.now hZ
          obtain ⟨y0, y1, y2, y3⟩ := hbZ.c4
          have hLst : Lst intCell 1 (V.drew.alloc (.cells #[.int .i64 (tk + ((timesIn l sv).length : Int) - ((timesIn l dv).length : Int))] 2)) (V.heap.size + 1) (.slice (some ⟨V.heap.size, 0, none⟩) 1 1) [tk + ((timesIn l sv).length : Int) - ((timesIn l dv).length : Int)] := lst_new1 intCell 1 intCell_len V.drew 2 _ _ rfl _ rfl
          have hlen : ((markT gp (timesIn l)).take j).length + [tk + ((timesIn l sv).length : Int) - ((timesIn l dv).length : Int)].length ≤ 1099511627776 := by rw [List.length_take]; simp; omega
          have hbs : w1.heap.size ≤ (V.drew.alloc (.cells #[.int .i64 (tk + ((timesIn l sv).length : Int) - ((timesIn l dv).length : Int))] 2)).heap.size := Nat.le_trans hs2 hZ.size
          have wr1 : IntKind.i64.wrap (tk + ((timesIn l sv).length : Int)) = tk + ((timesIn l sv).length : Int) := IntWalk.i64_in _ (by omega)
          have wr2 : IntKind.i64.wrap (tk + ((timesIn l sv).length : Int) - ((timesIn l dv).length : Int)) = tk + ((timesIn l sv).length : Int) - ((timesIn l dv).length : Int) := IntWalk.i64_in _ (by omega)
          clear x0 x1 x2 x3
          refine wp_region_held_drew (S := fun w' => w'.cell? ⟨bx, 0, none⟩ = some (.int .i64 sv) ∧ w'.cell? ⟨bx, 1, none⟩ = some (.int .i64 dv) ∧ w'.cell? ⟨bx, 3, none⟩ = some (.int .i64 tk)) (by kernel_rfl) ⟨z0, z1, z3⟩ (fun hH => ?_)
          refine wpAnyH_take (i := 0) (oi := { dst := _, op := _, type := _, pos := _, after := _, guard := _ }) (v := ?_) rfl (by kernel_rfl) (by kernel_rfl) (by kernel_rfl) (fun _ _ _ h => h) (Or.inl ⟨by rfl, ?_⟩) hH ?_
          rotate_left
          · intro w9 hSw
            try dsimp only at hSw
            obtain ⟨s0, s1, s2⟩ := hSw
            go_simp
            try with_reducible rfl
          try simp only [Act.put, List.setIfInBounds_toArray, List.set_cons_zero, List.set_cons_succ]
          refine wpAnyH_take (i := 1) (oi := { dst := _, op := _, type := _, pos := _, after := _, guard := _ }) (v := ?_) rfl (by kernel_rfl) (by kernel_rfl) (by kernel_rfl) (fun _ _ _ h => h) (Or.inl ⟨by rfl, ?_⟩) hH ?_
          rotate_left
          · intro w9 hSw
            try dsimp only at hSw
            obtain ⟨s0, s1, s2⟩ := hSw
            go_simp
            try with_reducible rfl
          try simp only [Act.put, List.setIfInBounds_toArray, List.set_cons_zero, List.set_cons_succ]
          refine wpAnyH_take (i := 2) (oi := { dst := _, op := _, type := _, pos := _, after := _, guard := _ }) (v := ?_) rfl (by kernel_rfl) (by kernel_rfl) (by kernel_rfl) (fun _ _ _ h => h) (Or.inl ⟨by rfl, ?_⟩) hH ?_
          rotate_left
          · intro w9 hSw
            try dsimp only at hSw
            obtain ⟨s0, s1, s2⟩ := hSw
            go_simp
            try with_reducible rfl
          try simp only [Act.put, List.setIfInBounds_toArray, List.set_cons_zero, List.set_cons_succ]
          refine wpAnyH_take (i := 3) (oi := { dst := _, op := _, type := _, pos := _, after := _, guard := _ }) (v := ?_) rfl (by kernel_rfl) (by kernel_rfl) (by kernel_rfl) (fun _ _ _ h => h) (Or.inl ⟨by rfl, ?_⟩) hH ?_
          rotate_left
          · intro w9 hSw
            try dsimp only at hSw
            obtain ⟨s0, s1, s2⟩ := hSw
            go_simp
            try with_reducible rfl
          try simp only [Act.put, List.setIfInBounds_toArray, List.set_cons_zero, List.set_cons_succ]
          refine wpAnyH_take (i := 4) (oi := { dst := _, op := _, type := _, pos := _, after := _, guard := _ }) (v := ?_) rfl (by kernel_rfl) (by kernel_rfl) (by kernel_rfl) (fun _ _ _ h => h) (Or.inl ⟨by rfl, ?_⟩) hH ?_
          rotate_left
          · intro w9 hSw
            try dsimp only at hSw
            obtain ⟨s0, s1, s2⟩ := hSw
            go_simp
            try with_reducible rfl
          try simp only [Act.put, List.setIfInBounds_toArray, List.set_cons_zero, List.set_cons_succ]
          refine wpAnyH_take (i := 5) (oi := { dst := _, op := _, type := _, pos := _, after := _, guard := _ }) (v := ?_) rfl (by kernel_rfl) (by kernel_rfl) (by kernel_rfl) (fun _ _ _ h => h) (Or.inl ⟨by rfl, ?_⟩) hH ?_
          rotate_left
          · intro w9 hSw
            try dsimp only at hSw
            obtain ⟨s0, s1, s2⟩ := hSw
            go_simp
            try with_reducible rfl
          try simp only [Act.put, List.setIfInBounds_toArray, List.set_cons_zero, List.set_cons_succ]
          refine wpAnyH_take (i := 8) (oi := { dst := _, op := _, type := _, pos := _, after := _, guard := _ }) (v := ?_) rfl (by kernel_rfl) (by kernel_rfl) (by kernel_rfl) (fun _ _ _ h => h) (Or.inl ⟨by rfl, ?_⟩) hH ?_
          rotate_left
          · intro w9 hSw
            try dsimp only at hSw
            obtain ⟨s0, s1, s2⟩ := hSw
            go_simp
            try with_reducible rfl
          try simp only [Act.put, List.setIfInBounds_toArray, List.set_cons_zero, List.set_cons_succ]
          refine wpAnyH_take (i := 9) (oi := { dst := _, op := _, type := _, pos := _, after := _, guard := _ }) (v := ?_) rfl (by kernel_rfl) (by kernel_rfl) (by kernel_rfl) (fun _ _ _ h => h) (Or.inl ⟨by rfl, ?_⟩) hH ?_
          rotate_left
          · intro w9 hSw
            try dsimp only at hSw
            obtain ⟨s0, s1, s2⟩ := hSw
            go_simp
            try with_reducible rfl
          try simp only [Act.put, List.setIfInBounds_toArray, List.set_cons_zero, List.set_cons_succ]
          refine wpAnyH_take (i := 10) (oi := { dst := _, op := _, type := _, pos := _, after := _, guard := _ }) (v := ?_) rfl (by kernel_rfl) (by kernel_rfl) (by kernel_rfl) (fun _ _ _ h => h) (Or.inl ⟨by rfl, ?_⟩) hH ?_
          rotate_left
          · intro w9 hSw
            try dsimp only at hSw
            obtain ⟨s0, s1, s2⟩ := hSw
            go_simp
            try with_reducible rfl
          try simp only [Act.put, List.setIfInBounds_toArray, List.set_cons_zero, List.set_cons_succ]
          refine wpAnyH_ready (rs := [6]) (by kernel_rfl) (by simp) ?_
          refine AllReadyH.cons rfl (fun K hK => ?_) AllReadyH.nil
          go_simp
          go_at_call 140
          refine (l14Count _ _ _ _ hFd hl1000).mono ?_
          rintro e6 w6 ⟨rfl, rfl⟩
          refine hK.out _ _ ⟨z0, z1, z3⟩ (fun hH => ?_)
          clear hK K
          try simp only [Act.put, List.setIfInBounds_toArray, List.set_cons_zero, List.set_cons_succ]
          refine wpAnyH_take (i := 7) (oi := { dst := _, op := _, type := _, pos := _, after := _, guard := _ }) (v := ?_) rfl (by kernel_rfl) (by kernel_rfl) (by kernel_rfl) (fun _ _ _ h => h) (Or.inl ⟨by rfl, ?_⟩) hH ?_
          rotate_left
          · intro w9 hSw
            try dsimp only at hSw
            obtain ⟨s0, s1, s2⟩ := hSw
            go_simp
            try with_reducible rfl
          try simp only [Act.put, List.setIfInBounds_toArray, List.set_cons_zero, List.set_cons_succ]
          refine wpAnyH_ready (rs := [11]) (by kernel_rfl) (by simp) ?_
          refine AllReadyH.cons rfl (fun K hK => ?_) AllReadyH.nil
          go_simp
          go_at_call 140
          refine (l14Count _ _ _ _ hFd hl1000).mono ?_
          rintro e6 w6 ⟨rfl, rfl⟩
          refine hK.out _ _ ⟨z0, z1, z3⟩ (fun hH => ?_)
          clear hK K
          try simp only [Act.put, List.setIfInBounds_toArray, List.set_cons_zero, List.set_cons_succ]
          refine wpAnyH_take (i := 12) (oi := { dst := _, op := _, type := _, pos := _, after := _, guard := _ }) (v := ?_) rfl (by kernel_rfl) (by kernel_rfl) (by kernel_rfl) (fun _ _ _ h => h) (Or.inl ⟨by rfl, ?_⟩) hH ?_
          rotate_left
          · intro w9 hSw
            try dsimp only at hSw
            obtain ⟨s0, s1, s2⟩ := hSw
            go_simp
            try with_reducible rfl
          try simp only [Act.put, List.setIfInBounds_toArray, List.set_cons_zero, List.set_cons_succ]
          refine wpAnyH_ready (rs := [13]) (by kernel_rfl) (by simp) ?_
          refine AllReadyH.cons rfl (fun K hK => ?_) AllReadyH.nil
          go_simp
          refine hK.out _ _ ⟨y0, y1, y3⟩ (fun hH => ?_)
          clear hK K
          try simp only [Act.put, List.setIfInBounds_toArray, List.set_cons_zero, List.set_cons_succ]
          refine wpAnyH_ready (rs := [14]) (by kernel_rfl) (by simp) ?_
          refine AllReadyH.cons rfl (fun K hK => ?_) AllReadyH.nil
          refine step_append_lst rfl _ _ 37 rfl intCell 1 intCell_one (by omega) w1.heap.size 2 _ 8 Try.underlying37 info_i64 rfl _ ((markT gp (timesIn l)).take j) rfl qO _ _ _ _ [tk + ((timesIn l sv).length : Int) - ((timesIn l dv).length : Int)] rfl hLst hlen (by omega) hbs ?_
          intro v1 wz hO1 hG hD1
          have hbz := hbZ.grown hG (Ne.symm hnb)
          obtain ⟨u0, u1, u2, u3⟩ := hbz.c4
          refine hK.out _ _ ⟨u0, u1, u3⟩ (fun hH => ?_)
          clear hK K
          try simp only [Act.put, List.setIfInBounds_toArray, List.set_cons_zero, List.set_cons_succ]
          refine wpAnyH_take (i := 15) (oi := { dst := _, op := _, type := _, pos := _, after := _, guard := _ }) (v := ?_) rfl (by kernel_rfl) (by kernel_rfl) (by kernel_rfl) (fun _ _ _ h => h) (Or.inl ⟨by rfl, ?_⟩) hH ?_
          rotate_left
          · intro w9 hSw
            try dsimp only at hSw
            obtain ⟨s0, s1, s2⟩ := hSw
            go_simp
            try with_reducible rfl
          try simp only [Act.put, List.setIfInBounds_toArray, List.set_cons_zero, List.set_cons_succ]
          refine wpAnyH_done (by kernel_rfl) ?_ _
          rw [← hLj.out, ← hT.out] at hO1
          go_wp2
          go_roundw
          case rel => exact ⟨j + 1, hlt, by go_num, hO1, below_app (hB.trans (hZ.mono hs2)) hbs hG qO (Nat.le_refl _)⟩
          case measure => simp [intOf]; omega
        · obtain rfl : j = gp.length := by omega
          have hF : Hid ((markT gp (timesIn l)).take gp.length = markT gp (timesIn l)) := by
            show _ = _
            rw [← hLn.out, List.take_length]
          rw [hF.out] at hO
          go_wp2
          go_ret2
          exact RetOwnI.of hE.out ⟨_, rfl, hO.rebase hs1, hW.trans (hB.mono hs1)⟩
set_option maxHeartbeats 4000000 in
set_option maxRecDepth 100000 in
theorem spec_NextEvents (v : Value) (ge : Int) (gp : List Place) (u : Value) (l : List Firing) (w : World) (h0 : Lst Place.cells 4 w w.heap.size v gp) (h1 : Lst Firing.cells 3 w w.heap.size u l) :
    Calls Try.prog 45 #[.agg #[.int .i64 ge, v], u] w (RetOwnI intCell 1 2 w (nextsF ge gp l).1 (nextsF ge gp l).2) := by
  obtain ⟨A, c, rfl⟩ := h0.shape
  obtain ⟨C, d, rfl⟩ := h1.shape
  go_enter Try.func45, Try.ntmps45
  go_wp2_with fail
  have hW : Below w.heap.size w (w.alloc (.cells #[.int .i64 ge, .slice A gp.length c] 32)) := (Below.refl _ _).alloc (Nat.le_refl _) _; have hb0 : Blk (w.alloc (.cells #[.int .i64 ge, .slice A gp.length c] 32)) w.heap.size 32 #[.int .i64 ge, .slice A gp.length c] := Blk.new _ _ _; replace h0 := h0.now hW; replace h1 := h1.now hW; generalize (w.alloc (.cells #[.int .i64 ge, .slice A gp.length c] 32)) = W at *
  refine (spec_l14Code _ _ _ _ _ _ h0 h1).mono ?_
  rintro e w1 ⟨rfl, hB⟩
  replace hW := hW.trans (hB.mono hW.size); replace h0 := h0.now hB; replace h1 := h1.now hB; replace hb0 := hb0.now hB
  obtain ⟨k0, k1⟩ := hb0.c2
  clear hB
  cases hg : okGraph ge gp
  · have hE : Hid (nextsF ge gp l = ([], 1)) := by show _ = _; simp [nextsF, hg]
    clear hg
    simp only [if_true]
    go_wp2
    go_ret2
    exact RetOwnI.of hE.out ⟨_, rfl, Own.nil, hW⟩
  · obtain ⟨hge1, hge2⟩ := okGraph_ev hg
    obtain ⟨n, rfl⟩ := Int.eq_ofNat_of_zero_le (show 0 ≤ ge by omega)
    have hg' := Lib.hid hg
    clear hg
    cases hm : isRunF n gp l
    · have hE : Hid (nextsF n gp l = ([], 2)) := by show _ = _; simp [nextsF, hg'.out, hm]
      clear hm
      simp only [Bool.true_eq_false, if_false, if_true]
      go_wp2
      go_ret2
      exact RetOwnI.of hE.out ⟨_, rfl, Own.nil, hW⟩
    · have hE : Hid (nextsF n gp l = (enL gp (markT gp (timesIn l)) n, 0)) := by show _ = _; simp [nextsF, hg'.out, hm]
      have hok := Lib.hid (isRunF_ok hm)
      have hQ := Lib.hid (readyS_enB hg'.out (timesIn l))
      clear hm
      simp only [Bool.true_eq_false, if_false]
      go_wp2
      have hs1 := hW.size
      go_loopw [7, 8, 9, 10] (fun o i _ _ wr => ∃ k : Nat, k ≤ n ∧ i = .int .i64 k ∧ Own intCell 1 2 wr w1.heap.size o (enL gp (markT gp (timesIn l)) k) ∧ Below w1.heap.size w1 wr) (fun _ i _ _ _ => n - (intOf i).toNat)
      case atStart => exact ⟨0, Nat.zero_le _, rfl, own_new0 _ _ _ _ _ (Nat.le_refl _), (Below.refl _ _).alloc (Nat.le_refl _) _⟩
      case round =>
        obtain ⟨k, hk, rfl, hO, hB⟩ := hrel
        have hs := hB.size
        obtain ⟨k0, k1⟩ := (hb0.now hB).c2
        have hT := Lib.hid (enL_succ gp (markT gp (timesIn l)) k)
        by_cases hlt : k < n
        · go_wp2_with fail
          refine (l14Ready _ _ _ _ _ _ _ (h0.now hB) (h1.now hB) hg'.out (by have := hok.out.2; omega) hok.out.1).mono ?_
          rintro e w2 ⟨rfl, hB2⟩
          rw [hQ.out k]
          have hBt := hB.trans (hB2.mono hs)
          generalize (readyS gp (timesIn l) (k : Int)).getD 0 = tv at *
          cases hen : enB gp (markT gp (timesIn l)) k
          · have hT' : Hid (enL gp (markT gp (timesIn l)) (k + 1) = enL gp (markT gp (timesIn l)) k) := by show _ = _; rw [hT.out, hen]; simp
            clear hen
            go_wp2
            go_roundw
            case rel => exact ⟨k + 1, hlt, by go_num, by rw [hT'.out]; exact hO.now hB2, hBt⟩
            case measure => simp [intOf]; omega
          · have hT' : Hid (enL gp (markT gp (timesIn l)) (k + 1) = enL gp (markT gp (timesIn l)) k ++ [(k : Int)]) := by show _ = _; rw [hT.out, hen]; simp
            clear hen
            have hlen : (enL gp (markT gp (timesIn l)) k).length + [(k : Int)].length ≤ 1099511627776 := by have := enL_len gp (markT gp (timesIn l)) k; simp at this ⊢; omega
            have hO2 := hO.now hB2
            have hst := hBt.size
            go_wp2_with (at_builtin; refine wpList_append_lst rfl _ _ 37 rfl intCell 1 intCell_one (by omega) w1.heap.size 2 _ 8 Try.underlying37 info_i64 rfl _ _ rfl (hO2.alloc _) _ _ _ _ [(k : Int)] rfl (lst_new1 _ _ intCell_len _ _ _ _ rfl _ (by simp)) hlen (by omega) (Nat.le_trans hst (by simp <;> omega)) ?_; intro v' w5 hO1 hG1 hD1)
            go_roundw
            case rel => exact ⟨k + 1, hlt, by go_num, by rw [hT'.out]; exact hO1, below_app (hBt.alloc hst _) (Nat.le_trans hst (by simp)) hG1 (hO2.alloc _) (Nat.le_refl _)⟩
            case measure => simp [intOf]; omega
        · obtain rfl : k = n := by omega
          go_wp2
          go_ret2
          exact RetOwnI.of hE.out ⟨_, rfl, hO.rebase hs1, hW.trans (hB.mono hs1)⟩
end Go.Proofs.Ytpkkkigiiaegfaa
