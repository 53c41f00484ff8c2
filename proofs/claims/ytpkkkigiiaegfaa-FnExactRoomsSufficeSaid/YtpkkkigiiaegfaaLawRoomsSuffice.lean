/-
  FnExactRoomsSuffice returns true for every input: the program's RoomsSuffice gives what the reference's gives (whether rooms suffice for a ratio); nothing that was there turns.
  Conditions: none beyond the statement's own.
-/
import Derived.Test.YtpkkkigiiaegfaaSuf
import Derived.Test.YtpkkkigiiaegfaaGLaw
import Derived.Test.YtpkkkigiiaegfaaOpen
namespace Go.Proofs.Ytpkkkigiiaegfaa
open Go.RowKit Go.ChangeShapes Go.WideShapes Go.ChangeAt Go.Deep
set_option linter.unusedVariables false
set_option linter.unusedSimpArgs false

set_option maxHeartbeats 4000000 in
set_option maxRecDepth 100000 in
theorem law_RoomsSuffice (v : Value) (ge : Int) (gp : List Place) (u : Value) (l : List Int) (t : Value) (r : List Int) (a b : Int) (w : World) (a0 : Lst Place.cells 4 w w.heap.size v gp) (a1 : Lst intCell 1 w w.heap.size u l) (a2 : Lst intCell 1 w w.heap.size t r) (o0 : Hid (i64ok ge ∧ ∀ x ∈ gp, x.ok)) (o1 : Hid (∀ n ∈ l, i64ok n)) (o2 : Hid (∀ n ∈ r, i64ok n)) (o3 : Hid (i64ok a ∧ i64ok b)) :
    Calls Try.prog 4 #[.agg #[.int .i64 ge, v], u, t, .agg #[.int .i64 a, .int .i64 b]] w fun e w' => e = .returned (.bool true) ∧ Below w.heap.size w w' := by
  obtain ⟨A1, c1, rfl⟩ := a1.shape
  have hmax1 := a1.len_le
  obtain ⟨A2, c2, rfl⟩ := a2.shape
  have hmax2 := a2.len_le
  have b0 := (Lst.alloc (Lst.alloc a0 (.cells #[.int .i64 ge, v] 24)) (.cells #[.int .i64 a, .int .i64 b] 38))
  have b1 := (Lst.alloc (Lst.alloc a1 (.cells #[.int .i64 ge, v] 24)) (.cells #[.int .i64 a, .int .i64 b] 38))
  have b2 := (Lst.alloc (Lst.alloc a2 (.cells #[.int .i64 ge, v] 24)) (.cells #[.int .i64 a, .int .i64 b] 38))
  have ht : Below ((w.alloc (.cells #[.int .i64 ge, v] 24)).alloc (.cells #[.int .i64 a, .int .i64 b] 38)).heap.size ((w.alloc (.cells #[.int .i64 ge, v] 24)).alloc (.cells #[.int .i64 a, .int .i64 b] 38)) ((w.alloc (.cells #[.int .i64 ge, v] 24)).alloc (.cells #[.int .i64 a, .int .i64 b] 38)) := Below.refl _ _
  by_cases hp0 : 1048576 < l.length
  · have hpb : decide ((1048576 : Int) < l.length) = true := by simp; omega
    go_enter Try.func4, Try.ntmps4
    go_wp2_with fail
    go_ret
    exact ⟨rfl, (by repeat (first | exact Below.refl _ _ | refine Below.drew ?_ | refine Below.alloc ?_ (by first | omega | (simp; done) | (simp; omega) | (have q0 := ht.size; simp at q0; omega) | (have q0 := ht.size; simp at q0 ⊢; omega)) _ | refine Below.setCell ?_ (by first | omega | (simp; done) | (simp; omega) | (have q0 := ht.size; simp at q0; omega) | (have q0 := ht.size; simp at q0 ⊢; omega)) _ | refine Below.trans ?_ (Below.mono ht (by first | omega | (simp; done) | (simp; omega) | (have q0 := ht.size; simp at q0; omega) | (have q0 := ht.size; simp at q0 ⊢; omega)))))⟩
  · have hpb0 : decide ((1048576 : Int) < l.length) = false := by simp; omega
    have hn1 : l.length ≤ 1048576 := by omega
    by_cases hp1 : 1048576 < r.length
    · have hpb : decide ((1048576 : Int) < r.length) = true := by simp; omega
      go_enter Try.func4, Try.ntmps4
      go_wp2_with fail
      go_ret
      exact ⟨rfl, (by repeat (first | exact Below.refl _ _ | refine Below.drew ?_ | refine Below.alloc ?_ (by first | omega | (simp; done) | (simp; omega) | (have q0 := ht.size; simp at q0; omega) | (have q0 := ht.size; simp at q0 ⊢; omega)) _ | refine Below.setCell ?_ (by first | omega | (simp; done) | (simp; omega) | (have q0 := ht.size; simp at q0; omega) | (have q0 := ht.size; simp at q0 ⊢; omega)) _ | refine Below.trans ?_ (Below.mono ht (by first | omega | (simp; done) | (simp; omega) | (have q0 := ht.size; simp at q0; omega) | (have q0 := ht.size; simp at q0 ⊢; omega)))))⟩
    · have hpb1 : decide ((1048576 : Int) < r.length) = false := by simp; omega
      have hn2 : r.length ≤ 1048576 := by omega
      by_cases hs0 : (1048576 : Int) < gp.length
      · have hz : (if (1048576 : Int) < gp.length then (-1 : Int) else (1048576 : Int) - gp.length) = -1 := if_pos hs0
        go_enter Try.func4, Try.ntmps4
        go_wp2_with fail
        have ka00 : ((w.alloc (.cells #[.int .i64 ge, v] 24)).alloc (.cells #[.int .i64 a, .int .i64 b] 38)).cell? ⟨w.heap.size, 0, none⟩ = some (.int .i64 ge) := by simp
        have ka01 : ((w.alloc (.cells #[.int .i64 ge, v] 24)).alloc (.cells #[.int .i64 a, .int .i64 b] 38)).cell? ⟨w.heap.size, 1, none⟩ = some (v) := by simp
        have ka30 : ((w.alloc (.cells #[.int .i64 ge, v] 24)).alloc (.cells #[.int .i64 a, .int .i64 b] 38)).cell? ⟨w.heap.size + 1, 0, none⟩ = some (.int .i64 a) := by simp
        have ka31 : ((w.alloc (.cells #[.int .i64 ge, v] 24)).alloc (.cells #[.int .i64 a, .int .i64 b] 38)).cell? ⟨w.heap.size + 1, 1, none⟩ = some (.int .i64 b) := by simp
        refine (laws_szEventGraph _ _ _ _ _ ((b0.below ht (Nat.le_refl _)).more ht.size) (by omega) (by omega)).mono ?_
        rintro e w1 ⟨rfl, hB1⟩
        have s1 := hB1.size
        replace ht := ht.trans (hB1.mono ht.size)
        replace ka00 := cell_keep ka00 hB1
        replace ka01 := cell_keep ka01 hB1
        replace ka30 := cell_keep ka30 hB1
        replace ka31 := cell_keep ka31 hB1
        go_wp2_with fail
        go_ret
        exact ⟨rfl, (by repeat (first | exact Below.refl _ _ | refine Below.drew ?_ | refine Below.alloc ?_ (by first | omega | (simp; done) | (simp; omega) | (have q0 := ht.size; simp at q0; omega) | (have q0 := ht.size; simp at q0 ⊢; omega)) _ | refine Below.setCell ?_ (by first | omega | (simp; done) | (simp; omega) | (have q0 := ht.size; simp at q0; omega) | (have q0 := ht.size; simp at q0 ⊢; omega)) _ | refine Below.trans ?_ (Below.mono ht (by first | omega | (simp; done) | (simp; omega) | (have q0 := ht.size; simp at q0; omega) | (have q0 := ht.size; simp at q0 ⊢; omega)))))⟩
      · have hz0 : (if (1048576 : Int) < gp.length then (-1 : Int) else (1048576 : Int) - gp.length) = (1048576 : Int) - gp.length := if_neg hs0
        have hn0 : gp.length ≤ 1048576 := by omega
        go_enter Try.func4, Try.ntmps4
        go_wp2_with fail
        have ka00 : ((w.alloc (.cells #[.int .i64 ge, v] 24)).alloc (.cells #[.int .i64 a, .int .i64 b] 38)).cell? ⟨w.heap.size, 0, none⟩ = some (.int .i64 ge) := by simp
        have ka01 : ((w.alloc (.cells #[.int .i64 ge, v] 24)).alloc (.cells #[.int .i64 a, .int .i64 b] 38)).cell? ⟨w.heap.size, 1, none⟩ = some (v) := by simp
        have ka30 : ((w.alloc (.cells #[.int .i64 ge, v] 24)).alloc (.cells #[.int .i64 a, .int .i64 b] 38)).cell? ⟨w.heap.size + 1, 0, none⟩ = some (.int .i64 a) := by simp
        have ka31 : ((w.alloc (.cells #[.int .i64 ge, v] 24)).alloc (.cells #[.int .i64 a, .int .i64 b] 38)).cell? ⟨w.heap.size + 1, 1, none⟩ = some (.int .i64 b) := by simp
        refine (laws_szEventGraph _ _ _ _ _ ((b0.below ht (Nat.le_refl _)).more ht.size) (by omega) (by omega)).mono ?_
        rintro e w1 ⟨rfl, hB1⟩
        have s1 := hB1.size
        replace ht := ht.trans (hB1.mono ht.size)
        replace ka00 := cell_keep ka00 hB1
        replace ka01 := cell_keep ka01 hB1
        replace ka30 := cell_keep ka30 hB1
        replace ka31 := cell_keep ka31 hB1
        go_wp2_with fail
        have hbz0 := ((b0.below ht (Nat.le_refl _)).more ht.size)
        have hbz1 := ((b1.below ht (Nat.le_refl _)).more ht.size)
        have hbz2 := ((b2.below ht (Nat.le_refl _)).more ht.size)
        have hD : Below w1.heap.size w1 w1.drew := Below.drew (Below.refl _ _)
        have z0_0 := cell_keep ka00 hD
        have z1_0 := cell_keep ka01 hD
        have z2_0 := cell_keep ka30 hD
        have z3_0 := cell_keep ka31 hD
        refine wp_region_held_drew (S := fun w' => w'.cell? ⟨w.heap.size, 0, none⟩ = some (.int .i64 ge) ∧ w'.cell? ⟨w.heap.size, 1, none⟩ = some (v) ∧ w'.cell? ⟨w.heap.size + 1, 0, none⟩ = some (.int .i64 a) ∧ w'.cell? ⟨w.heap.size + 1, 1, none⟩ = some (.int .i64 b)) (by kernel_rfl) ⟨z0_0, z1_0, z2_0, z3_0⟩ (fun hH => ?_)
        refine wpAnyH_take (i := 0) (oi := { dst := _, op := _, type := _, pos := _, after := _, guard := _ }) (v := ?_) rfl (by kernel_rfl) (by kernel_rfl) (by kernel_rfl) (fun _ _ _ h => h) (Or.inl ⟨by rfl, ?_⟩) hH ?_
        rotate_left
        · intro w9 hSw
          try dsimp only at hSw
          obtain ⟨s0, s1, s2, s3⟩ := hSw
          go_simp
          try with_reducible rfl
        try simp only [Act.put, List.setIfInBounds_toArray, List.set_cons_zero, List.set_cons_succ]
        refine wpAnyH_take (i := 2) (oi := { dst := _, op := _, type := _, pos := _, after := _, guard := _ }) (v := ?_) rfl (by kernel_rfl) (by kernel_rfl) (by kernel_rfl) (fun _ _ _ h => h) (Or.inl ⟨by rfl, ?_⟩) hH ?_
        rotate_left
        · intro w9 hSw
          try dsimp only at hSw
          obtain ⟨s0, s1, s2, s3⟩ := hSw
          go_simp
          try with_reducible rfl
        try simp only [Act.put, List.setIfInBounds_toArray, List.set_cons_zero, List.set_cons_succ]
        refine wpAnyH_take (i := 4) (oi := { dst := _, op := _, type := _, pos := _, after := _, guard := _ }) (v := ?_) rfl (by kernel_rfl) (by kernel_rfl) (by kernel_rfl) (fun _ _ _ h => h) (Or.inl ⟨by rfl, ?_⟩) hH ?_
        rotate_left
        · intro w9 hSw
          try dsimp only at hSw
          obtain ⟨s0, s1, s2, s3⟩ := hSw
          go_simp
          try with_reducible rfl
        try simp only [Act.put, List.setIfInBounds_toArray, List.set_cons_zero, List.set_cons_succ]
        refine wpAnyH_take (i := 6) (oi := { dst := _, op := _, type := _, pos := _, after := _, guard := _ }) (v := ?_) rfl (by kernel_rfl) (by kernel_rfl) (by kernel_rfl) (fun _ _ _ h => h) (Or.inl ⟨by rfl, ?_⟩) hH ?_
        rotate_left
        · intro w9 hSw
          try dsimp only at hSw
          obtain ⟨s0, s1, s2, s3⟩ := hSw
          go_simp
          try with_reducible rfl
        try simp only [Act.put, List.setIfInBounds_toArray, List.set_cons_zero, List.set_cons_succ]
        refine wpAnyH_ready (rs := [1]) (by kernel_rfl) (by simp) ?_
        refine AllReadyH.cons rfl (fun K hK => ?_) AllReadyH.nil
        go_simp
        go_at_call 17
        refine (laws_toEventGraph v ge gp _ (hbz0.now hD) hn0).mono ?_
        rintro e w2 ⟨y0, rfl, hy0, hB2⟩
        obtain ⟨Ay0, cy0, rfl⟩ := hy0.shape
        have z0_1 := cell_keep (w := w1.drew) z0_0 hB2
        have z1_1 := cell_keep (w := w1.drew) z1_0 hB2
        have z2_1 := cell_keep (w := w1.drew) z2_0 hB2
        have z3_1 := cell_keep (w := w1.drew) z3_0 hB2
        replace hD := hD.trans (Below.mono (w := w1.drew) hB2 hD.size)
        refine hK.out _ _ ⟨z0_1, z1_1, z2_1, z3_1⟩ (fun hH => ?_)
        clear hK K
        try simp only [Act.put, List.setIfInBounds_toArray, List.set_cons_zero, List.set_cons_succ]
        refine wpAnyH_ready (rs := [3]) (by kernel_rfl) (by simp) ?_
        refine AllReadyH.cons rfl (fun K hK => ?_) AllReadyH.nil
        go_simp
        go_at_call 22
        refine (laws_toInt64S _ l  _ (hbz1.now hD) hn1).mono ?_
        rintro e w3 ⟨y1, rfl, hy1, hB3⟩
        obtain ⟨Ay1, cy1, rfl⟩ := hy1.shape
        have z0_2 := cell_keep (w := w2) z0_1 hB3
        have z1_2 := cell_keep (w := w2) z1_1 hB3
        have z2_2 := cell_keep (w := w2) z2_1 hB3
        have z3_2 := cell_keep (w := w2) z3_1 hB3
        replace hy0 := hy0.now hB3
        replace hD := hD.trans (Below.mono (w := w2) hB3 hD.size)
        refine hK.out _ _ ⟨z0_2, z1_2, z2_2, z3_2⟩ (fun hH => ?_)
        clear hK K
        try simp only [Act.put, List.setIfInBounds_toArray, List.set_cons_zero, List.set_cons_succ]
        refine wpAnyH_ready (rs := [5]) (by kernel_rfl) (by simp) ?_
        refine AllReadyH.cons rfl (fun K hK => ?_) AllReadyH.nil
        go_simp
        go_at_call 22
        refine (laws_toInt64S _ r  _ (hbz2.now hD) hn2).mono ?_
        rintro e w4 ⟨y2, rfl, hy2, hB4⟩
        obtain ⟨Ay2, cy2, rfl⟩ := hy2.shape
        have z0_3 := cell_keep (w := w3) z0_2 hB4
        have z1_3 := cell_keep (w := w3) z1_2 hB4
        have z2_3 := cell_keep (w := w3) z2_2 hB4
        have z3_3 := cell_keep (w := w3) z3_2 hB4
        replace hy0 := hy0.now hB4
        replace hy1 := hy1.now hB4
        replace hD := hD.trans (Below.mono (w := w3) hB4 hD.size)
        refine hK.out _ _ ⟨z0_3, z1_3, z2_3, z3_3⟩ (fun hH => ?_)
        clear hK K
        try simp only [Act.put, List.setIfInBounds_toArray, List.set_cons_zero, List.set_cons_succ]
        refine wpAnyH_ready (rs := [7]) (by kernel_rfl) (by simp) ?_
        refine AllReadyH.cons rfl (fun K hK => ?_) AllReadyH.nil
        go_simp
        go_at_call 23
        refine (laws_toRatio a b _).mono ?_
        rintro e w5 ⟨rfl, hB5⟩
        have z0_4 := cell_keep (w := w4) z0_3 hB5
        have z1_4 := cell_keep (w := w4) z1_3 hB5
        have z2_4 := cell_keep (w := w4) z2_3 hB5
        have z3_4 := cell_keep (w := w4) z3_3 hB5
        replace hy0 := hy0.now hB5
        replace hy1 := hy1.now hB5
        replace hy2 := hy2.now hB5
        replace hD := hD.trans (Below.mono (w := w4) hB5 hD.size)
        refine hK.out _ _ ⟨z0_4, z1_4, z2_4, z3_4⟩ (fun hH => ?_)
        clear hK K
        try simp only [Act.put, List.setIfInBounds_toArray, List.set_cons_zero, List.set_cons_succ]
        refine wpAnyH_ready (rs := [8]) (by kernel_rfl) (by simp) ?_
        refine AllReadyH.cons rfl (fun K hK => ?_) AllReadyH.nil
        go_simp
        go_at_call 21
        refine (spec_RoomsSuffice _ _ _ _ _ _ _ _ _ _ hy0.lst hy1.lst hy2.lst ).mono ?_
        rintro e w6 ⟨rfl, hB6⟩
        have z0_5 := cell_keep (w := w5) z0_4 hB6
        have z1_5 := cell_keep (w := w5) z1_4 hB6
        have z2_5 := cell_keep (w := w5) z2_4 hB6
        have z3_5 := cell_keep (w := w5) z3_4 hB6
        replace hD := hD.trans (Below.mono (w := w5) hB6 hD.size)
        refine hK.out _ _ ⟨z0_5, z1_5, z2_5, z3_5⟩ (fun hH => ?_)
        clear hK K
        try simp only [Act.put, List.setIfInBounds_toArray, List.set_cons_zero, List.set_cons_succ]
        refine wpAnyH_take (i := 9) (oi := { dst := _, op := _, type := _, pos := _, after := _, guard := _ }) (v := ?_) rfl (by kernel_rfl) (by kernel_rfl) (by kernel_rfl) (fun _ _ _ h => h) (Or.inl ⟨by rfl, ?_⟩) hH ?_
        rotate_left
        · intro w9 hSw
          try dsimp only at hSw
          obtain ⟨s0, s1, s2, s3⟩ := hSw
          go_simp
          try with_reducible rfl
        try simp only [Act.put, List.setIfInBounds_toArray, List.set_cons_zero, List.set_cons_succ]
        refine wpAnyH_take (i := 10) (oi := { dst := _, op := _, type := _, pos := _, after := _, guard := _ }) (v := ?_) rfl (by kernel_rfl) (by kernel_rfl) (by kernel_rfl) (fun _ _ _ h => h) (Or.inl ⟨by rfl, ?_⟩) hH ?_
        rotate_left
        · intro w9 hSw
          try dsimp only at hSw
          obtain ⟨s0, s1, s2, s3⟩ := hSw
          go_simp
          try with_reducible rfl
        try simp only [Act.put, List.setIfInBounds_toArray, List.set_cons_zero, List.set_cons_succ]
        refine wpAnyH_take (i := 11) (oi := { dst := _, op := _, type := _, pos := _, after := _, guard := _ }) (v := ?_) rfl (by kernel_rfl) (by kernel_rfl) (by kernel_rfl) (fun _ _ _ h => h) (Or.inl ⟨by rfl, ?_⟩) hH ?_
        rotate_left
        · intro w9 hSw
          try dsimp only at hSw
          obtain ⟨s0, s1, s2, s3⟩ := hSw
          go_simp
          try with_reducible rfl
        try simp only [Act.put, List.setIfInBounds_toArray, List.set_cons_zero, List.set_cons_succ]
        refine wpAnyH_take (i := 12) (oi := { dst := _, op := _, type := _, pos := _, after := _, guard := _ }) (v := ?_) rfl (by kernel_rfl) (by kernel_rfl) (by kernel_rfl) (fun _ _ _ h => h) (Or.inl ⟨by rfl, ?_⟩) hH ?_
        rotate_left
        · intro w9 hSw
          try dsimp only at hSw
          obtain ⟨s0, s1, s2, s3⟩ := hSw
          go_simp
          try with_reducible rfl
        try simp only [Act.put, List.setIfInBounds_toArray, List.set_cons_zero, List.set_cons_succ]
        refine wpAnyH_take (i := 13) (oi := { dst := _, op := _, type := _, pos := _, after := _, guard := _ }) (v := ?_) rfl (by kernel_rfl) (by kernel_rfl) (by kernel_rfl) (fun _ _ _ h => h) (Or.inl ⟨by rfl, ?_⟩) hH ?_
        rotate_left
        · intro w9 hSw
          try dsimp only at hSw
          obtain ⟨s0, s1, s2, s3⟩ := hSw
          go_simp
          try with_reducible rfl
        try simp only [Act.put, List.setIfInBounds_toArray, List.set_cons_zero, List.set_cons_succ]
        refine wpAnyH_done (by kernel_rfl) ?_ _
        clear z0_0 z0_1 z0_2 z0_3 z0_4 z0_5 z1_0 z1_1 z1_2 z1_3 z1_4 z1_5 z2_0 z2_1 z2_2 z2_3 z2_4 z2_5 z3_0 z3_1 z3_2 z3_3 z3_4 z3_5
        clear hbz0 hy0
        clear hbz1 hy1
        clear hbz2 hy2
        replace ht := ht.trans (hD.mono ht.size)
        replace ka00 := cell_keep ka00 hD
        replace ka01 := cell_keep ka01 hD
        replace ka30 := cell_keep ka30 hD
        replace ka31 := cell_keep ka31 hD
        have s6 := hD.size
        clear hD
        go_wp2_with fail
        refine (laws_toEventGraph _ _ _ _ ((b0.below ht (Nat.le_refl _)).more ht.size) hn0).mono ?_
        rintro e w7 ⟨x0, rfl, hx0, hB7⟩
        obtain ⟨Ax0, cx0, rfl⟩ := hx0.shape
        have rx0 := Lib.hid hx0.lt
        have s7 := hB7.size
        replace ht := ht.trans (hB7.mono ht.size)
        replace ka00 := cell_keep ka00 hB7
        replace ka01 := cell_keep ka01 hB7
        replace ka30 := cell_keep ka30 hB7
        replace ka31 := cell_keep ka31 hB7
        have hA1 : Below w7.heap.size w7 (w7.alloc (.cells #[.int .i64 ge, .slice Ax0 gp.length cx0] 32)) := (Below.refl _ _).alloc (Nat.le_refl _) _
        have sA1 : w7.heap.size < (w7.alloc (.cells #[.int .i64 ge, .slice Ax0 gp.length cx0] 32)).heap.size := by simp
        replace ht := ht.trans (hA1.mono ht.size)
        replace hx0 := hx0.now hA1
        replace ka00 := cell_keep ka00 hA1
        replace ka01 := cell_keep ka01 hA1
        replace ka30 := cell_keep ka30 hA1
        replace ka31 := cell_keep ka31 hA1
        have kx00 : (w7.alloc (.cells #[.int .i64 ge, .slice Ax0 gp.length cx0] 32)).cell? ⟨w7.heap.size, 0, none⟩ = some (.int .i64 ge) := by simp
        have kx01 : (w7.alloc (.cells #[.int .i64 ge, .slice Ax0 gp.length cx0] 32)).cell? ⟨w7.heap.size, 1, none⟩ = some (.slice Ax0 gp.length cx0) := by simp
        clear hA1
        go_wp2_with fail
        refine (laws_toInt64S _ _ _ ((b1.below ht (Nat.le_refl _)).more ht.size) hn1).mono ?_
        rintro e w8 ⟨x1, rfl, hx1, hB8⟩
        obtain ⟨Ax1, cx1, rfl⟩ := hx1.shape
        have rx1 := Lib.hid hx1.lt
        have s8 := hB8.size
        replace ht := ht.trans (hB8.mono ht.size)
        replace hx0 := hx0.now hB8
        replace ka00 := cell_keep ka00 hB8
        replace ka01 := cell_keep ka01 hB8
        replace ka30 := cell_keep ka30 hB8
        replace ka31 := cell_keep ka31 hB8
        replace kx00 := cell_keep kx00 hB8
        replace kx01 := cell_keep kx01 hB8
        go_wp2_with fail
        refine (laws_toInt64S _ _ _ ((b2.below ht (Nat.le_refl _)).more ht.size) hn2).mono ?_
        rintro e w9 ⟨x2, rfl, hx2, hB9⟩
        obtain ⟨Ax2, cx2, rfl⟩ := hx2.shape
        have rx2 := Lib.hid hx2.lt
        have s9 := hB9.size
        replace ht := ht.trans (hB9.mono ht.size)
        replace hx0 := hx0.now hB9
        replace hx1 := hx1.now hB9
        replace ka00 := cell_keep ka00 hB9
        replace ka01 := cell_keep ka01 hB9
        replace ka30 := cell_keep ka30 hB9
        replace ka31 := cell_keep ka31 hB9
        replace kx00 := cell_keep kx00 hB9
        replace kx01 := cell_keep kx01 hB9
        go_wp2_with fail
        have hD : Below w9.heap.size w9 w9.drew := Below.drew (Below.refl _ _)
        have z0_0 := cell_keep kx00 hD
        have z1_0 := cell_keep kx01 hD
        have z2_0 := cell_keep ka30 hD
        have z3_0 := cell_keep ka31 hD
        have hq0 := hx0.now hD
        have hq1 := hx1.now hD
        have hq2 := hx2.now hD
        refine wp_region_held_drew (S := fun w' => w'.cell? ⟨w7.heap.size, 0, none⟩ = some (.int .i64 ge) ∧ w'.cell? ⟨w7.heap.size, 1, none⟩ = some (.slice Ax0 gp.length cx0) ∧ w'.cell? ⟨w.heap.size + 1, 0, none⟩ = some (.int .i64 a) ∧ w'.cell? ⟨w.heap.size + 1, 1, none⟩ = some (.int .i64 b)) (by kernel_rfl) ⟨z0_0, z1_0, z2_0, z3_0⟩ (fun hH => ?_)
        refine wpAnyH_take (i := 0) (oi := { dst := _, op := _, type := _, pos := _, after := _, guard := _ }) (v := ?_) rfl (by kernel_rfl) (by kernel_rfl) (by kernel_rfl) (fun _ _ _ h => h) (Or.inl ⟨by rfl, ?_⟩) hH ?_
        rotate_left
        · intro w9 hSw
          try dsimp only at hSw
          obtain ⟨s0, s1, s2, s3⟩ := hSw
          go_simp
          try with_reducible rfl
        try simp only [Act.put, List.setIfInBounds_toArray, List.set_cons_zero, List.set_cons_succ]
        refine wpAnyH_take (i := 1) (oi := { dst := _, op := _, type := _, pos := _, after := _, guard := _ }) (v := ?_) rfl (by kernel_rfl) (by kernel_rfl) (by kernel_rfl) (fun _ _ _ h => h) (Or.inl ⟨by rfl, ?_⟩) hH ?_
        rotate_left
        · intro w9 hSw
          try dsimp only at hSw
          obtain ⟨s0, s1, s2, s3⟩ := hSw
          go_simp
          try with_reducible rfl
        try simp only [Act.put, List.setIfInBounds_toArray, List.set_cons_zero, List.set_cons_succ]
        refine wpAnyH_take (i := 2) (oi := { dst := _, op := _, type := _, pos := _, after := _, guard := _ }) (v := ?_) rfl (by kernel_rfl) (by kernel_rfl) (by kernel_rfl) (fun _ _ _ h => h) (Or.inl ⟨by rfl, ?_⟩) hH ?_
        rotate_left
        · intro w9 hSw
          try dsimp only at hSw
          obtain ⟨s0, s1, s2, s3⟩ := hSw
          go_simp
          try with_reducible rfl
        try simp only [Act.put, List.setIfInBounds_toArray, List.set_cons_zero, List.set_cons_succ]
        refine wpAnyH_take (i := 3) (oi := { dst := _, op := _, type := _, pos := _, after := _, guard := _ }) (v := ?_) rfl (by kernel_rfl) (by kernel_rfl) (by kernel_rfl) (fun _ _ _ h => h) (Or.inl ⟨by rfl, ?_⟩) hH ?_
        rotate_left
        · intro w9 hSw
          try dsimp only at hSw
          obtain ⟨s0, s1, s2, s3⟩ := hSw
          go_simp
          try with_reducible rfl
        try simp only [Act.put, List.setIfInBounds_toArray, List.set_cons_zero, List.set_cons_succ]
        refine wpAnyH_ready (rs := [4]) (by kernel_rfl) (by simp) ?_
        refine AllReadyH.cons rfl (fun K hK => ?_) AllReadyH.nil
        go_simp
        go_at_call 23
        refine (laws_toRatio a b _).mono ?_
        rintro e w10 ⟨rfl, hB10⟩
        have z0_1 := cell_keep (w := w9.drew) z0_0 hB10
        have z1_1 := cell_keep (w := w9.drew) z1_0 hB10
        have z2_1 := cell_keep (w := w9.drew) z2_0 hB10
        have z3_1 := cell_keep (w := w9.drew) z3_0 hB10
        replace hq0 := hq0.now hB10
        replace hq1 := hq1.now hB10
        replace hq2 := hq2.now hB10
        replace hD := hD.trans (Below.mono (w := w9.drew) hB10 hD.size)
        refine hK.out _ _ ⟨z0_1, z1_1, z2_1, z3_1⟩ (fun hH => ?_)
        clear hK K
        try simp only [Act.put, List.setIfInBounds_toArray, List.set_cons_zero, List.set_cons_succ]
        refine wpAnyH_ready (rs := [5]) (by kernel_rfl) (by simp) ?_
        refine AllReadyH.cons rfl (fun K hK => ?_) AllReadyH.nil
        go_simp
        go_at_call 24
        refine (impl_RoomsSuffice _ _ _ _ _ _ _ _ _ _ hq0.lst hq1.lst hq2.lst ).mono ?_
        rintro e w11 ⟨rfl, hB11⟩
        have z0_2 := cell_keep (w := w10) z0_1 hB11
        have z1_2 := cell_keep (w := w10) z1_1 hB11
        have z2_2 := cell_keep (w := w10) z2_1 hB11
        have z3_2 := cell_keep (w := w10) z3_1 hB11
        replace hD := hD.trans (Below.mono (w := w10) hB11 hD.size)
        refine hK.out _ _ ⟨z0_2, z1_2, z2_2, z3_2⟩ (fun hH => ?_)
        clear hK K
        try simp only [Act.put, List.setIfInBounds_toArray, List.set_cons_zero, List.set_cons_succ]
        refine wpAnyH_take (i := 6) (oi := { dst := _, op := _, type := _, pos := _, after := _, guard := _ }) (v := ?_) rfl (by kernel_rfl) (by kernel_rfl) (by kernel_rfl) (fun _ _ _ h => h) (Or.inl ⟨by rfl, ?_⟩) hH ?_
        rotate_left
        · intro w9 hSw
          try dsimp only at hSw
          obtain ⟨s0, s1, s2, s3⟩ := hSw
          go_simp
          try with_reducible rfl
        try simp only [Act.put, List.setIfInBounds_toArray, List.set_cons_zero, List.set_cons_succ]
        refine wpAnyH_take (i := 7) (oi := { dst := _, op := _, type := _, pos := _, after := _, guard := _ }) (v := ?_) rfl (by kernel_rfl) (by kernel_rfl) (by kernel_rfl) (fun _ _ _ h => h) (Or.inl ⟨by rfl, ?_⟩) hH ?_
        rotate_left
        · intro w9 hSw
          try dsimp only at hSw
          obtain ⟨s0, s1, s2, s3⟩ := hSw
          go_simp
          try with_reducible rfl
        try simp only [Act.put, List.setIfInBounds_toArray, List.set_cons_zero, List.set_cons_succ]
        refine wpAnyH_take (i := 8) (oi := { dst := _, op := _, type := _, pos := _, after := _, guard := _ }) (v := ?_) rfl (by kernel_rfl) (by kernel_rfl) (by kernel_rfl) (fun _ _ _ h => h) (Or.inl ⟨by rfl, ?_⟩) hH ?_
        rotate_left
        · intro w9 hSw
          try dsimp only at hSw
          obtain ⟨s0, s1, s2, s3⟩ := hSw
          go_simp
          try with_reducible rfl
        try simp only [Act.put, List.setIfInBounds_toArray, List.set_cons_zero, List.set_cons_succ]
        refine wpAnyH_take (i := 9) (oi := { dst := _, op := _, type := _, pos := _, after := _, guard := _ }) (v := ?_) rfl (by kernel_rfl) (by kernel_rfl) (by kernel_rfl) (fun _ _ _ h => h) (Or.inl ⟨by rfl, ?_⟩) hH ?_
        rotate_left
        · intro w9 hSw
          try dsimp only at hSw
          obtain ⟨s0, s1, s2, s3⟩ := hSw
          go_simp
          try with_reducible rfl
        try simp only [Act.put, List.setIfInBounds_toArray, List.set_cons_zero, List.set_cons_succ]
        refine wpAnyH_take (i := 10) (oi := { dst := _, op := _, type := _, pos := _, after := _, guard := _ }) (v := ?_) rfl (by kernel_rfl) (by kernel_rfl) (by kernel_rfl) (fun _ _ _ h => h) (Or.inl ⟨by rfl, ?_⟩) hH ?_
        rotate_left
        · intro w9 hSw
          try dsimp only at hSw
          obtain ⟨s0, s1, s2, s3⟩ := hSw
          go_simp
          try with_reducible rfl
        try simp only [Act.put, List.setIfInBounds_toArray, List.set_cons_zero, List.set_cons_succ]
        refine wpAnyH_done (by kernel_rfl) ?_ _
        clear z0_0 z0_1 z0_2 z1_0 z1_1 z1_2 z2_0 z2_1 z2_2 z3_0 z3_1 z3_2
        clear hq0
        clear hq1
        clear hq2
        replace ht := ht.trans (hD.mono ht.size)
        replace hx0 := hx0.now hD
        replace hx1 := hx1.now hD
        replace hx2 := hx2.now hD
        replace ka00 := cell_keep ka00 hD
        replace ka01 := cell_keep ka01 hD
        replace ka30 := cell_keep ka30 hD
        replace ka31 := cell_keep ka31 hD
        replace kx00 := cell_keep kx00 hD
        replace kx01 := cell_keep kx01 hD
        have s11 := hD.size
        clear hD
        go_wp2_with fail
        have hbz := ((b0.below ht (Nat.le_refl _)).more ht.size)
        go_region_held3 (fun w' => w'.cell? ⟨w7.heap.size, 0, none⟩ = some (.int .i64 ge) ∧ w'.cell? ⟨w7.heap.size, 1, none⟩ = some (.slice Ax0 gp.length cx0) ∧ w'.cell? ⟨w.heap.size, 0, none⟩ = some (.int .i64 ge) ∧ w'.cell? ⟨w.heap.size, 1, none⟩ = some (v)) (first | exact ⟨kx00, kx01, ka00, ka01⟩ | exact ⟨fkx00, fkx01, fka00, fka01⟩ | exact ⟨ekx00, ekx01, eka00, eka01⟩ | go_keep) (first | (go_at_call 17; refine (laws_toEventGraph _ _ _ _ (show Lst Place.cells 4 w11.drew w11.drew.heap.size _ _ from hbz) hn0).mono ?_; rintro e w12 ⟨z0, rfl, hz0, hB12⟩; have fkx00 := cell_keep (w := w11.drew) kx00 hB12; have fkx01 := cell_keep (w := w11.drew) kx01 hB12; have fka00 := cell_keep (w := w11.drew) ka00 hB12; have fka01 := cell_keep (w := w11.drew) ka01 hB12) | (go_at_call 20; refine (laws_eqEventGraph _ _ _ _ _ _ _ (Lst.now (w := w11.drew) hx0.lst hB12) hz0.lst).mono ?_; rintro e w13 ⟨rfl, hB13⟩; have ekx00 := cell_keep fkx00 hB13; have ekx01 := cell_keep fkx01 hB13; have eka00 := cell_keep fka00 hB13; have eka01 := cell_keep fka01 hB13))
        clear fkx00 fkx01 fka00 fka01 ekx00 ekx01 eka00 eka01
        have s12 := Below.size (w := w11.drew) hB12
        have dq12 : w11.drew.heap.size = w11.heap.size := rfl
        have s13 := hB13.size
        have hD : Below w11.heap.size w11 w13 := ((Below.refl _ w11).drew.trans hB12).trans (hB13.mono s12)
        replace ht := ht.trans (hD.mono ht.size)
        replace hx0 := hx0.now hD
        replace hx1 := hx1.now hD
        replace hx2 := hx2.now hD
        replace ka00 := cell_keep ka00 hD
        replace ka01 := cell_keep ka01 hD
        replace ka30 := cell_keep ka30 hD
        replace ka31 := cell_keep ka31 hD
        replace kx00 := cell_keep kx00 hD
        replace kx01 := cell_keep kx01 hD
        clear hD
        go_wp2_with fail
        refine (laws_toInt64S _ _ _ ((b1.below ht (Nat.le_refl _)).more ht.size) hn1).mono ?_
        rintro e w14 ⟨z1, rfl, hz1, hB14⟩
        obtain ⟨Az1, cz1, rfl⟩ := hz1.shape
        have rz1 := Lib.hid hz1.lt
        have s14 := hB14.size
        replace ht := ht.trans (hB14.mono ht.size)
        replace hx0 := hx0.now hB14
        replace hx1 := hx1.now hB14
        replace hx2 := hx2.now hB14
        replace ka00 := cell_keep ka00 hB14
        replace ka01 := cell_keep ka01 hB14
        replace ka30 := cell_keep ka30 hB14
        replace ka31 := cell_keep ka31 hB14
        replace kx00 := cell_keep kx00 hB14
        replace kx01 := cell_keep kx01 hB14
        go_wp2_with fail
        refine (laws_eqInt64S _ _ _ _ _ hx1.lst hz1.lst).mono ?_
        rintro e w15 ⟨rfl, hB15⟩
        have s15 := hB15.size
        replace ht := ht.trans (hB15.mono ht.size)
        replace hx0 := hx0.now hB15
        replace hx1 := hx1.now hB15
        replace hx2 := hx2.now hB15
        replace hz1 := hz1.now hB15
        replace ka00 := cell_keep ka00 hB15
        replace ka01 := cell_keep ka01 hB15
        replace ka30 := cell_keep ka30 hB15
        replace ka31 := cell_keep ka31 hB15
        replace kx00 := cell_keep kx00 hB15
        replace kx01 := cell_keep kx01 hB15
        clear hz1 rz1
        go_wp2_with fail
        refine (laws_toInt64S _ _ _ ((b2.below ht (Nat.le_refl _)).more ht.size) hn2).mono ?_
        rintro e w16 ⟨z2, rfl, hz2, hB16⟩
        obtain ⟨Az2, cz2, rfl⟩ := hz2.shape
        have rz2 := Lib.hid hz2.lt
        have s16 := hB16.size
        replace ht := ht.trans (hB16.mono ht.size)
        replace hx0 := hx0.now hB16
        replace hx1 := hx1.now hB16
        replace hx2 := hx2.now hB16
        replace ka00 := cell_keep ka00 hB16
        replace ka01 := cell_keep ka01 hB16
        replace ka30 := cell_keep ka30 hB16
        replace ka31 := cell_keep ka31 hB16
        replace kx00 := cell_keep kx00 hB16
        replace kx01 := cell_keep kx01 hB16
        go_wp2_with fail
        refine (laws_eqInt64S _ _ _ _ _ hx2.lst hz2.lst).mono ?_
        rintro e w17 ⟨rfl, hB17⟩
        have s17 := hB17.size
        replace ht := ht.trans (hB17.mono ht.size)
        replace hx0 := hx0.now hB17
        replace hx1 := hx1.now hB17
        replace hx2 := hx2.now hB17
        replace hz2 := hz2.now hB17
        replace ka00 := cell_keep ka00 hB17
        replace ka01 := cell_keep ka01 hB17
        replace ka30 := cell_keep ka30 hB17
        replace ka31 := cell_keep ka31 hB17
        replace kx00 := cell_keep kx00 hB17
        replace kx01 := cell_keep kx01 hB17
        clear hz2 rz2
        go_wp2_with fail
        go_ret
        exact ⟨rfl, (by repeat (first | exact Below.refl _ _ | refine Below.drew ?_ | refine Below.alloc ?_ (by first | omega | (simp; done) | (simp; omega) | (have q0 := ht.size; simp at q0; omega) | (have q0 := ht.size; simp at q0 ⊢; omega)) _ | refine Below.setCell ?_ (by first | omega | (simp; done) | (simp; omega) | (have q0 := ht.size; simp at q0; omega) | (have q0 := ht.size; simp at q0 ⊢; omega)) _ | refine Below.trans ?_ (Below.mono ht (by first | omega | (simp; done) | (simp; omega) | (have q0 := ht.size; simp at q0; omega) | (have q0 := ht.size; simp at q0 ⊢; omega)))))⟩

theorem RoomsSuffice_own : ownKnob Try.prog.godebug = none := by kernel_rfl
theorem RoomsSuffice_laidOut : laidOutB Try.prog = true := by kernel_rfl
set_option maxRecDepth 100000 in
theorem RoomsSuffice_lifted (os : Os) (started : os.Started) (H : Type) (enc : TypeId × Value → H) :
    ReturnsInHanded {} Try.checked os 4 .any (Rows.fnExactRoomsSufficeSpec.pre6 enc Try.prog Try.f4 Rows.fnExactRoomsSufficeRow.domain false) (Rows.fnExactRoomsSufficeSpec.post enc Try.prog Try.f4 false true false false) := by
  refine returnsInHanded_of_change (C := Try.checked) RoomsSuffice_own started (by kernel_rfl) Try.func4
    (ChangeSpec.witness6 (enc := enc) (C := Try.checked) false ⟨#[], #[.agg #[.int .i64 0, .slice none 0 0], .slice none 0 0, .slice none 0 0, .agg #[.int .i64 0, .int .i64 0]], []⟩ 8 (by kernel_rfl) (by kernel_rfl) (by kernel_rfl) (by kernel_rfl)) ?_
  intro W base args ds gs before hval0 hW hcnd _
  have hval : ∀ (j : Nat) t v, Try.f4.params[j]? = some t → args[j]? = some v → Value.okWide Try.prog W .any base t v := hval0
  have hW' := hW
  obtain ⟨p, q, hA0, hV, rfl, hfz, hnd⟩ := hW
  have hA : DataW.TrodAll enc Try.prog W 0 (fun _ => true) true Try.f4.params.toList args.toList ds p := hA0
  rw [Try.params4] at hA hval
  obtain ⟨v0, vs0, d0, ds0, p0, q0, hargs, rfl, rfl, h0, r0⟩ := trodAll_cons hA
  obtain ⟨v1, vs1, d1, ds1, p1, q1, rfl, rfl, rfl, h1, r1⟩ := trodAll_cons r0
  obtain ⟨v2, vs2, d2, ds2, p2, q2, rfl, rfl, rfl, h2, r2⟩ := trodAll_cons r1
  obtain ⟨v3, vs3, d3, ds3, p3, q3, rfl, rfl, rfl, h3, r3⟩ := trodAll_cons r2
  obtain ⟨rfl, rfl, rfl⟩ := trodAll_nil r3
  obtain rfl : args = #[v0, v1, v2, v3] := by cases args; simp_all
  obtain ⟨rfl, rfl⟩ := trodVars_none hV
  have k0 := h0
  have lt0 : ∀ x ∈ p0, x.block < W.heap.size := by obtain ⟨m, hm⟩ := k0; exact DataW.trod_lt m _ _ _ hm
  have k1 := h1
  have lt1 : ∀ x ∈ p1, x.block < W.heap.size := by obtain ⟨m, hm⟩ := k1; exact DataW.trod_lt m _ _ _ hm
  have k2 := h2
  have lt2 : ∀ x ∈ p2, x.block < W.heap.size := by obtain ⟨m, hm⟩ := k2; exact DataW.trod_lt m _ _ _ hm
  have k3 := h3
  have lt3 : ∀ x ∈ p3, x.block < W.heap.size := by obtain ⟨m, hm⟩ := k3; exact DataW.trod_lt m _ _ _ hm
  obtain ⟨e0, s0, y0, u0, fl0, rfl, _, _, hy0, hu0⟩ := Joins.open_agg2 Try.underlying24 (by kernel_rfl) (by kernel_rfl) (hval 0 24 v0 rfl rfl) h0
  obtain ⟨g0, he0, _, w0⟩ := DataW.trod_int Try.underlying2 hy0
  simp only [List.cons.injEq, and_true] at he0
  subst he0
  obtain ⟨len0, z0, hR0⟩ := open_structs Try.underlying22 Try.underlying168 (by kernel_rfl) (by kernel_rfl) (by decide) (by intro j f hj; match j, hj with | 0, hj => (injection hj with hj; subst hj; exact Try.underlying2) | 1, hj => (injection hj with hj; subst hj; exact Try.underlying2) | 2, hj => (injection hj with hj; subst hj; exact Try.underlying2) | 3, hj => (injection hj with hj; subst hj; exact Try.underlying2) | n + 4, hj => simp at hj) (hu0)
  have a0 := rows_lst Place.cells Place.cells_len (fun i => ⟨z0 i 0, z0 i 1, z0 i 2, z0 i 3⟩) (by intro i j hj; match j, hj with | 0, _ => rfl | 1, _ => rfl | 2, _ => rfl | 3, _ => rfl | n + 4, hj => omega) hR0
  have o0 : Hid (∀ x ∈ (List.range len0).map fun i => (⟨z0 i 0, z0 i 1, z0 i 2, z0 i 3⟩ : Place), x.ok) := by
    intro x hx
    obtain ⟨i, hi, rfl⟩ := List.mem_map.1 hx
    have hi := List.mem_range.1 hi
    exact ⟨hR0.2.2 i 0 hi (by decide), hR0.2.2 i 1 hi (by decide), hR0.2.2 i 2 hi (by decide), hR0.2.2 i 3 hi (by decide)⟩
  have o0 : Hid (i64ok g0 ∧ ∀ x ∈ (List.range len0).map fun i => (⟨z0 i 0, z0 i 1, z0 i 2, z0 i 3⟩ : Place), x.ok) := ⟨wf_i64ok w0, o0⟩
  obtain ⟨A1, n1, c1, rfl⟩ := okWide_slice Try.underlying37 (hval 1 37 v1 rfl rfl)
  obtain ⟨fuel1, hf1⟩ := h1
  obtain ⟨l1, a1, o1⟩ := open_i64s Try.underlying37 Try.underlying2 (by kernel_rfl) (show DataW.trod enc Try.prog W 0 (fun _ => true) true fuel1 37 [_] = _ by simpa [Value.cells] using hf1)
  obtain ⟨A2, n2, c2, rfl⟩ := okWide_slice Try.underlying37 (hval 2 37 v2 rfl rfl)
  obtain ⟨fuel2, hf2⟩ := h2
  obtain ⟨l2, a2, o2⟩ := open_i64s Try.underlying37 Try.underlying2 (by kernel_rfl) (show DataW.trod enc Try.prog W 0 (fun _ => true) true fuel2 37 [_] = _ by simpa [Value.cells] using hf2)
  obtain ⟨e3, s3, y3, u3, fl3, rfl, _, _, hy3, hu3⟩ := Joins.open_agg2 Try.underlying38 (by kernel_rfl) (by kernel_rfl) (hval 3 38 v3 rfl rfl) h3
  obtain ⟨g3, ge3, _, gw3⟩ := DataW.trod_int Try.underlying2 hy3
  simp only [List.cons.injEq, and_true] at ge3
  subst ge3
  obtain ⟨i3, ie3, _, iw3⟩ := DataW.trod_int Try.underlying2 hu3
  simp only [List.cons.injEq, and_true] at ie3
  subst ie3
  have o3 : Hid (i64ok g3 ∧ i64ok i3) := ⟨wf_i64ok gw3, wf_i64ok iw3⟩
  clear hA0 hval0
  refine (law_RoomsSuffice _ _ _ _ _ _ _ _ _ W a0 a1 a2 o0 o1 o2 o3).mono fun e W' ⟨he, bel⟩ => ?_
  subst he
  exact ⟨_, rfl, _, _, _, [], _, [], hW', trodAll_mk1 (shut_bool Try.underlying4 _), (trodAll_cons_mk (Below.trod RoomsSuffice_laidOut (by kernel_rfl) (of_decide_eq_true (by kernel_rfl)) k0 bel lt0) (trodAll_cons_mk (Below.trod RoomsSuffice_laidOut (by kernel_rfl) (of_decide_eq_true (by kernel_rfl)) k1 bel lt1) (trodAll_cons_mk (Below.trod RoomsSuffice_laidOut (by kernel_rfl) (of_decide_eq_true (by kernel_rfl)) k2 bel lt2) (trodAll_cons_mk (Below.trod RoomsSuffice_laidOut (by kernel_rfl) (of_decide_eq_true (by kernel_rfl)) k3 bel lt3) trodAll_mk0)))), rfl, bel.frame _, fun h => by cases h⟩
theorem RoomsSuffice_over : Rows.fnExactRoomsSufficeRow.holds Try.pinned (OpenSpec.ofChange Rows.fnExactRoomsSufficeSpec) :=
  OpenClaim.holds_of_wide 4 Try.f4 rfl rfl rfl rfl rfl rfl rfl ⟨rfl, rfl, rfl, rfl, rfl⟩ rfl rfl rfl rfl rfl (by kernel_rfl) Try.func4 (by kernel_rfl)
    (of_decide_eq_true (by kernel_rfl)) (by unfold Func.isWrapper; first | (rw [if_pos (by decide +kernel)]; kernel_rfl) | (rw [if_neg (by decide +kernel)]; exact ⟨rfl, rfl⟩))
    (fun os started H enc _ => RoomsSuffice_lifted os started H enc)
/-- The given statement. -/
theorem RoomsSuffice_proved : Rows.FnExactRoomsSufficeSaid := RoomsSuffice_over
end Go.Proofs.Ytpkkkigiiaegfaa
