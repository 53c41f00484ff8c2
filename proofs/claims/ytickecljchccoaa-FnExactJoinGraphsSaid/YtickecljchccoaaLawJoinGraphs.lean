/-
  FnExactJoinGraphs returns true for every input: the program's JoinGraphs gives what the reference's gives (the events and places of both); nothing that was there turns.
  Conditions: none beyond the statement's own.
-/
import Derived.Test.YtickecljchccoaaJoin
import Derived.Test.YtickecljchccoaaGLaw
import Derived.Test.YtickecljchccoaaCutting
import Derived.Test.YtickecljchccoaaOpen
namespace Go.Proofs.Ytickecljchccoaa
open Go.RowKit Go.ChangeShapes Go.WideShapes Go.ChangeAt Go.Deep
set_option linter.unusedVariables false
set_option linter.unusedSimpArgs false

set_option maxHeartbeats 4000000 in
set_option maxRecDepth 100000 in
theorem law_JoinGraphs (v : Value) (ge : Int) (gp : List Place) (u : Value) (he : Int) (hp : List Place) (w : World) (a0 : Lst Place.cells 4 w w.heap.size v gp) (a1 : Lst Place.cells 4 w w.heap.size u hp) (o0 : Hid (i64ok ge ∧ ∀ x ∈ gp, x.ok)) (o1 : Hid (i64ok he ∧ ∀ x ∈ hp, x.ok)) :
    Calls Try.prog 5 #[.agg #[.int .i64 ge, v], .agg #[.int .i64 he, u]] w fun e w' => e = .returned (.bool true) ∧ Below w.heap.size w w' := by
  have b0 := (Lst.alloc (Lst.alloc a0 (.cells #[.int .i64 ge, v] 24)) (.cells #[.int .i64 he, u] 24))
  have b1 := (Lst.alloc (Lst.alloc a1 (.cells #[.int .i64 ge, v] 24)) (.cells #[.int .i64 he, u] 24))
  have ht : Below ((w.alloc (.cells #[.int .i64 ge, v] 24)).alloc (.cells #[.int .i64 he, u] 24)).heap.size ((w.alloc (.cells #[.int .i64 ge, v] 24)).alloc (.cells #[.int .i64 he, u] 24)) ((w.alloc (.cells #[.int .i64 ge, v] 24)).alloc (.cells #[.int .i64 he, u] 24)) := Below.refl _ _
  by_cases hs0 : (1048576 : Int) < gp.length
  · have hz : (if (1048576 : Int) < gp.length then (-1 : Int) else (1048576 : Int) - gp.length) = -1 := if_pos hs0
    go_enter Try.func5, Try.ntmps5
    go_wp2_with fail
    have ka00 : ((w.alloc (.cells #[.int .i64 ge, v] 24)).alloc (.cells #[.int .i64 he, u] 24)).cell? ⟨w.heap.size, 0, none⟩ = some (.int .i64 ge) := by simp
    have ka01 : ((w.alloc (.cells #[.int .i64 ge, v] 24)).alloc (.cells #[.int .i64 he, u] 24)).cell? ⟨w.heap.size, 1, none⟩ = some (v) := by simp
    have ka10 : ((w.alloc (.cells #[.int .i64 ge, v] 24)).alloc (.cells #[.int .i64 he, u] 24)).cell? ⟨w.heap.size + 1, 0, none⟩ = some (.int .i64 he) := by simp
    have ka11 : ((w.alloc (.cells #[.int .i64 ge, v] 24)).alloc (.cells #[.int .i64 he, u] 24)).cell? ⟨w.heap.size + 1, 1, none⟩ = some (u) := by simp
    refine (laws_szEventGraph _ _ _ _ _ ((b0.below ht (Nat.le_refl _)).more ht.size) (by omega) (by omega)).mono ?_
    rintro e w1 ⟨rfl, hB1⟩
    have s1 := hB1.size
    replace ht := ht.trans (hB1.mono ht.size)
    replace ka00 := cell_keep ka00 hB1
    replace ka01 := cell_keep ka01 hB1
    replace ka10 := cell_keep ka10 hB1
    replace ka11 := cell_keep ka11 hB1
    go_wp2_with fail
    go_ret
    exact ⟨rfl, (by repeat (first | exact Below.refl _ _ | refine Below.drew ?_ | refine Below.alloc ?_ (by first | omega | (simp; done) | (simp; omega) | (have q0 := ht.size; simp at q0; omega) | (have q0 := ht.size; simp at q0 ⊢; omega)) _ | refine Below.setCell ?_ (by first | omega | (simp; done) | (simp; omega) | (have q0 := ht.size; simp at q0; omega) | (have q0 := ht.size; simp at q0 ⊢; omega)) _ | refine Below.trans ?_ (Below.mono ht (by first | omega | (simp; done) | (simp; omega) | (have q0 := ht.size; simp at q0; omega) | (have q0 := ht.size; simp at q0 ⊢; omega)))))⟩
  · have hz0 : (if (1048576 : Int) < gp.length then (-1 : Int) else (1048576 : Int) - gp.length) = (1048576 : Int) - gp.length := if_neg hs0
    have hn0 : gp.length ≤ 1048576 := by omega
    by_cases hs1 : (1048576 : Int) - gp.length < hp.length
    · have hz : (if (1048576 : Int) - gp.length < hp.length then (-1 : Int) else (1048576 : Int) - gp.length - hp.length) = -1 := if_pos hs1
      go_enter Try.func5, Try.ntmps5
      go_wp2_with fail
      have ka00 : ((w.alloc (.cells #[.int .i64 ge, v] 24)).alloc (.cells #[.int .i64 he, u] 24)).cell? ⟨w.heap.size, 0, none⟩ = some (.int .i64 ge) := by simp
      have ka01 : ((w.alloc (.cells #[.int .i64 ge, v] 24)).alloc (.cells #[.int .i64 he, u] 24)).cell? ⟨w.heap.size, 1, none⟩ = some (v) := by simp
      have ka10 : ((w.alloc (.cells #[.int .i64 ge, v] 24)).alloc (.cells #[.int .i64 he, u] 24)).cell? ⟨w.heap.size + 1, 0, none⟩ = some (.int .i64 he) := by simp
      have ka11 : ((w.alloc (.cells #[.int .i64 ge, v] 24)).alloc (.cells #[.int .i64 he, u] 24)).cell? ⟨w.heap.size + 1, 1, none⟩ = some (u) := by simp
      refine (laws_szEventGraph _ _ _ _ _ ((b0.below ht (Nat.le_refl _)).more ht.size) (by omega) (by omega)).mono ?_
      rintro e w1 ⟨rfl, hB1⟩
      have s1 := hB1.size
      replace ht := ht.trans (hB1.mono ht.size)
      replace ka00 := cell_keep ka00 hB1
      replace ka01 := cell_keep ka01 hB1
      replace ka10 := cell_keep ka10 hB1
      replace ka11 := cell_keep ka11 hB1
      go_wp2_with fail
      refine (laws_szEventGraph _ _ _ _ _ ((b1.below ht (Nat.le_refl _)).more ht.size) (by omega) (by omega)).mono ?_
      rintro e w2 ⟨rfl, hB2⟩
      have s2 := hB2.size
      replace ht := ht.trans (hB2.mono ht.size)
      replace ka00 := cell_keep ka00 hB2
      replace ka01 := cell_keep ka01 hB2
      replace ka10 := cell_keep ka10 hB2
      replace ka11 := cell_keep ka11 hB2
      go_wp2_with fail
      go_ret
      exact ⟨rfl, (by repeat (first | exact Below.refl _ _ | refine Below.drew ?_ | refine Below.alloc ?_ (by first | omega | (simp; done) | (simp; omega) | (have q0 := ht.size; simp at q0; omega) | (have q0 := ht.size; simp at q0 ⊢; omega)) _ | refine Below.setCell ?_ (by first | omega | (simp; done) | (simp; omega) | (have q0 := ht.size; simp at q0; omega) | (have q0 := ht.size; simp at q0 ⊢; omega)) _ | refine Below.trans ?_ (Below.mono ht (by first | omega | (simp; done) | (simp; omega) | (have q0 := ht.size; simp at q0; omega) | (have q0 := ht.size; simp at q0 ⊢; omega)))))⟩
    · have hz1 : (if (1048576 : Int) - gp.length < hp.length then (-1 : Int) else (1048576 : Int) - gp.length - hp.length) = (1048576 : Int) - gp.length - hp.length := if_neg hs1
      have hn1 : hp.length ≤ 1048576 := by omega
      have hlen0 : (joinF ge gp he hp).2.1.length ≤ 1048576 := Nat.le_trans (joinF_len ge gp he hp) (by omega)
      go_enter Try.func5, Try.ntmps5
      go_wp2_with fail
      have ka00 : ((w.alloc (.cells #[.int .i64 ge, v] 24)).alloc (.cells #[.int .i64 he, u] 24)).cell? ⟨w.heap.size, 0, none⟩ = some (.int .i64 ge) := by simp
      have ka01 : ((w.alloc (.cells #[.int .i64 ge, v] 24)).alloc (.cells #[.int .i64 he, u] 24)).cell? ⟨w.heap.size, 1, none⟩ = some (v) := by simp
      have ka10 : ((w.alloc (.cells #[.int .i64 ge, v] 24)).alloc (.cells #[.int .i64 he, u] 24)).cell? ⟨w.heap.size + 1, 0, none⟩ = some (.int .i64 he) := by simp
      have ka11 : ((w.alloc (.cells #[.int .i64 ge, v] 24)).alloc (.cells #[.int .i64 he, u] 24)).cell? ⟨w.heap.size + 1, 1, none⟩ = some (u) := by simp
      refine (laws_szEventGraph _ _ _ _ _ ((b0.below ht (Nat.le_refl _)).more ht.size) (by omega) (by omega)).mono ?_
      rintro e w1 ⟨rfl, hB1⟩
      have s1 := hB1.size
      replace ht := ht.trans (hB1.mono ht.size)
      replace ka00 := cell_keep ka00 hB1
      replace ka01 := cell_keep ka01 hB1
      replace ka10 := cell_keep ka10 hB1
      replace ka11 := cell_keep ka11 hB1
      go_wp2_with fail
      refine (laws_szEventGraph _ _ _ _ _ ((b1.below ht (Nat.le_refl _)).more ht.size) (by omega) (by omega)).mono ?_
      rintro e w2 ⟨rfl, hB2⟩
      have s2 := hB2.size
      replace ht := ht.trans (hB2.mono ht.size)
      replace ka00 := cell_keep ka00 hB2
      replace ka01 := cell_keep ka01 hB2
      replace ka10 := cell_keep ka10 hB2
      replace ka11 := cell_keep ka11 hB2
      go_wp2_with fail
      have hbz0 := ((b0.below ht (Nat.le_refl _)).more ht.size)
      have hbz1 := ((b1.below ht (Nat.le_refl _)).more ht.size)
      go_cut [6, 7] (fun pA pB wx => ∃ (wz : World) (A : Option Addr) (c : Nat), pA = .pointer (some ⟨wz.heap.size, 0, none⟩) ∧ pB = .int .i64 (joinF ge gp he hp).2.2 ∧ Blk wx wz.heap.size 31 #[.int .i64 (joinF ge gp he hp).1, .slice A ((joinF ge gp he hp).2.1).length c] ∧ Own Place.cells 4 98 wx w2.heap.size (.slice A ((joinF ge gp he hp).2.1).length c) (joinF ge gp he hp).2.1 ∧ w2.heap.size ≤ wz.heap.size ∧ wz.heap.size < wx.heap.size ∧ Below w2.heap.size w2 wx)
      case first =>
        have hBd : Below w2.heap.size w2 w2.drew := Below.drew (Below.refl _ _)
        have z0_0 := cell_keep ka00 hBd
        have z1_0 := cell_keep ka01 hBd
        have z2_0 := cell_keep ka10 hBd
        have z3_0 := cell_keep ka11 hBd
        go_wp2_with fail
        refine wp_region_held_drew (S := fun w' => w'.cell? ⟨w.heap.size, 0, none⟩ = some (.int .i64 ge) ∧ w'.cell? ⟨w.heap.size, 1, none⟩ = some (v) ∧ w'.cell? ⟨w.heap.size + 1, 0, none⟩ = some (.int .i64 he) ∧ w'.cell? ⟨w.heap.size + 1, 1, none⟩ = some (u)) (by kernel_rfl) ⟨z0_0, z1_0, z2_0, z3_0⟩ (fun hH => ?_)
        refine wpAnyH_take (i := 0) (oi := { dst := _, op := _, type := _, pos := _, after := _, guard := _ }) (v := ?_) rfl (by kernel_rfl) (by kernel_rfl) (by kernel_rfl) (fun _ _ _ h => h) (Or.inl ⟨by rfl, ?_⟩) hH ?_
        rotate_left
        · intro w9 hSw
          try dsimp only at hSw
          obtain ⟨s0, s1, s2, s3⟩ := hSw
          go_simp
          try with_reducible rfl
        try simp only [Act.put, List.setIfInBounds_toArray, List.set_cons_zero, List.set_cons_succ]
        refine wpAnyH_take (i := 2) (oi := { dst := _, op := _, type := _, pos := _, after := _, guard := _ }) (v := ?_) rfl (by kernel_rfl) (by kernel_rfl) (by kernel_rfl) (fun _ _ _ h => h) (Or.inl ⟨by rfl, ?_⟩) hH ?_
        rotate_left
        · intro w9 hSw
          try dsimp only at hSw
          obtain ⟨s0, s1, s2, s3⟩ := hSw
          go_simp
          try with_reducible rfl
        try simp only [Act.put, List.setIfInBounds_toArray, List.set_cons_zero, List.set_cons_succ]
        refine wpAnyH_ready (rs := [1, 8]) (by kernel_rfl) (by simp) ?_
        refine AllReadyH.cons rfl (fun K hK => ?_) (AllReadyH.cons rfl (fun K hK => ?_) AllReadyH.nil)
        · go_simp
          go_at_call 17
          refine (laws_toEventGraph v ge gp _ (hbz0.now hBd) hn0).mono ?_
          rintro e v1 ⟨y0, rfl, hy0, hB_1⟩
          obtain ⟨Ay0, cy0, rfl⟩ := hy0.shape
          have z0_2 := cell_keep (w := w2.drew) z0_0 hB_1
          have z1_2 := cell_keep (w := w2.drew) z1_0 hB_1
          have z2_2 := cell_keep (w := w2.drew) z2_0 hB_1
          have z3_2 := cell_keep (w := w2.drew) z3_0 hB_1
          have hb_2 := hBd.trans (Below.mono (w := w2.drew) hB_1 hBd.size)
          have sz_2 := Below.size (w := w2.drew) hB_1
          refine hK.out _ _ ⟨z0_2, z1_2, z2_2, z3_2⟩ (fun hH => ?_)
          clear hK K
          try simp only [Act.put, List.setIfInBounds_toArray, List.set_cons_zero, List.set_cons_succ]
          refine wpAnyH_ready (rs := [3, 8]) (by kernel_rfl) (by simp) ?_
          refine AllReadyH.cons rfl (fun K hK => ?_) (AllReadyH.cons rfl (fun K hK => ?_) AllReadyH.nil)
          · go_simp
            go_at_call 17
            refine (laws_toEventGraph u he hp _ (hbz1.now hb_2) hn1).mono ?_
            rintro e v3 ⟨y1, rfl, hy1, hB_3⟩
            obtain ⟨Ay1, cy1, rfl⟩ := hy1.shape
            have z0_4 := cell_keep (w := v1) z0_2 hB_3
            have z1_4 := cell_keep (w := v1) z1_2 hB_3
            have z2_4 := cell_keep (w := v1) z2_2 hB_3
            have z3_4 := cell_keep (w := v1) z3_2 hB_3
            have hb_4 := hb_2.trans (Below.mono (w := v1) hB_3 hb_2.size)
            have sz_4 := Below.size (w := v1) hB_3
            replace hy0 := hy0.now hB_3
            refine hK.out _ _ ⟨z0_4, z1_4, z2_4, z3_4⟩ (fun hH => ?_)
            clear hK K
            try simp only [Act.put, List.setIfInBounds_toArray, List.set_cons_zero, List.set_cons_succ]
            refine wpAnyH_ready (rs := [4, 8]) (by kernel_rfl) (by simp) ?_
            refine AllReadyH.cons rfl (fun K hK => ?_) (AllReadyH.cons rfl (fun K hK => ?_) AllReadyH.nil)
            · go_simp
              go_at_call 29
              refine (spec_JoinGraphs _ _ _ _ _ _ _ hy0.lst hy1.lst ).mono ?_
              rintro e v5 ⟨pv, rfl, hpv, hB_5⟩
              obtain ⟨Apv, cpv, rfl⟩ := hpv.shape
              have z0_6 := cell_keep (w := v3) z0_4 hB_5
              have z1_6 := cell_keep (w := v3) z1_4 hB_5
              have z2_6 := cell_keep (w := v3) z2_4 hB_5
              have z3_6 := cell_keep (w := v3) z3_4 hB_5
              have hb_6 := hb_4.trans (Below.mono (w := v3) hB_5 hb_4.size)
              have sz_6 := Below.size (w := v3) hB_5
              have hbp := Own.rebase hpv hb_4.size
              refine hK.out _ _ ⟨z0_6, z1_6, z2_6, z3_6⟩ (fun hH => ?_)
              clear hK K
              try simp only [Act.put, List.setIfInBounds_toArray, List.set_cons_zero, List.set_cons_succ]
              refine wpAnyH_take (i := 5) (oi := { dst := _, op := _, type := _, pos := _, after := _, guard := _ }) (v := ?_) rfl (by kernel_rfl) (by kernel_rfl) (by kernel_rfl) (fun _ _ _ h => h) (Or.inl ⟨by rfl, ?_⟩) hH ?_
              rotate_left
              · intro w9 hSw
                try dsimp only at hSw
                obtain ⟨s0, s1, s2, s3⟩ := hSw
                go_simp
                try with_reducible rfl
              try simp only [Act.put, List.setIfInBounds_toArray, List.set_cons_zero, List.set_cons_succ]
              refine wpAnyH_take (i := 6) (oi := { dst := _, op := _, type := _, pos := _, after := _, guard := _ }) (v := ?_) rfl (by kernel_rfl) (by kernel_rfl) (by kernel_rfl) (fun _ _ _ h => h) (Or.inl ⟨by rfl, ?_⟩) hH ?_
              rotate_left
              · intro w9 hSw
                try dsimp only at hSw
                obtain ⟨s0, s1, s2, s3⟩ := hSw
                go_simp
                try with_reducible rfl
              try simp only [Act.put, List.setIfInBounds_toArray, List.set_cons_zero, List.set_cons_succ]
              refine wpAnyH_take (i := 7) (oi := { dst := _, op := _, type := _, pos := _, after := _, guard := _ }) (v := ?_) rfl (by kernel_rfl) (by kernel_rfl) (by kernel_rfl) (fun _ _ _ h => h) (Or.inl ⟨by rfl, ?_⟩) hH ?_
              rotate_left
              · intro w9 hSw
                try dsimp only at hSw
                obtain ⟨s0, s1, s2, s3⟩ := hSw
                go_simp
                try with_reducible rfl
              try simp only [Act.put, List.setIfInBounds_toArray, List.set_cons_zero, List.set_cons_succ]
              refine wpAnyH_ready (rs := [8]) (by kernel_rfl) (by simp) ?_
              refine AllReadyH.cons rfl (fun K hK => ?_) AllReadyH.nil
              have hZ_7 : Below v5.heap.size v5 (v5.alloc (.cells #[.int .i64 0, .slice none 0 0] 31)) := (Below.refl _ _).alloc (Nat.le_refl _) _
              have hblk : Blk (v5.alloc (.cells #[.int .i64 0, .slice none 0 0] 31)) v5.heap.size 31 #[.int .i64 0, .slice none 0 0] := Blk.newAt _ _ rfl
              have hlo : w2.heap.size ≤ v5.heap.size := hb_6.size
              have z0_8 := cell_keep (w := v5) z0_6 hZ_7
              have z1_8 := cell_keep (w := v5) z1_6 hZ_7
              have z2_8 := cell_keep (w := v5) z2_6 hZ_7
              have z3_8 := cell_keep (w := v5) z3_6 hZ_7
              have hb_8 := hb_6.trans (Below.mono (w := v5) hZ_7 hb_6.size)
              have sz_8 := Below.size (w := v5) hZ_7
              go_simp
              refine hK.out _ _ ⟨z0_8, z1_8, z2_8, z3_8⟩ (fun hH => ?_)
              clear hK K
              try simp only [Act.put, List.setIfInBounds_toArray, List.set_cons_zero, List.set_cons_succ]
              have hZ_9 : Below v5.heap.size v5 (v5.alloc (.cells #[.int .i64 (joinF ge gp he hp).1, .slice Apv ((joinF ge gp he hp).2.1).length cpv] 31)) := (Below.refl _ _).alloc (Nat.le_refl _) _
              have y0_9 := cell_keep (w := v5) z0_6 hZ_9
              have y1_9 := cell_keep (w := v5) z1_6 hZ_9
              have y2_9 := cell_keep (w := v5) z2_6 hZ_9
              have y3_9 := cell_keep (w := v5) z3_6 hZ_9
              refine wpAnyH_ready (rs := [9]) (by kernel_rfl) (by simp) ?_
              refine AllReadyH.cons rfl (fun K hK => ?_) AllReadyH.nil
              go_simp
              refine hK.out _ _ ⟨y0_9, y1_9, y2_9, y3_9⟩ (fun hH => ?_)
              clear hK K
              try simp only [Act.put, List.setIfInBounds_toArray, List.set_cons_zero, List.set_cons_succ]
              refine wpAnyH_take (i := 10) (oi := { dst := _, op := _, type := _, pos := _, after := _, guard := _ }) (v := ?_) rfl (by kernel_rfl) (by kernel_rfl) (by kernel_rfl) (fun _ _ _ h => h) (Or.inl ⟨by rfl, ?_⟩) hH ?_
              rotate_left
              · intro w9 hSw
                try dsimp only at hSw
                obtain ⟨s0, s1, s2, s3⟩ := hSw
                go_simp
                try with_reducible rfl
              try simp only [Act.put, List.setIfInBounds_toArray, List.set_cons_zero, List.set_cons_succ]
              refine wpAnyH_done (by kernel_rfl) ?_ _
              go_wp2_with fail
              go_meet
              refine ⟨v5, _, _, rfl, rfl, Blk.newAt _ _ rfl, (hbp.now hZ_9), hlo, (by simp), hb_6.trans (Below.mono (w := v5) hZ_9 hb_6.size)⟩
            · have hZ_10 : Below v3.heap.size v3 (v3.alloc (.cells #[.int .i64 0, .slice none 0 0] 31)) := (Below.refl _ _).alloc (Nat.le_refl _) _
              have hblk : Blk (v3.alloc (.cells #[.int .i64 0, .slice none 0 0] 31)) v3.heap.size 31 #[.int .i64 0, .slice none 0 0] := Blk.newAt _ _ rfl
              have hlo : w2.heap.size ≤ v3.heap.size := hb_4.size
              have z0_11 := cell_keep (w := v3) z0_4 hZ_10
              have z1_11 := cell_keep (w := v3) z1_4 hZ_10
              have z2_11 := cell_keep (w := v3) z2_4 hZ_10
              have z3_11 := cell_keep (w := v3) z3_4 hZ_10
              have hb_11 := hb_4.trans (Below.mono (w := v3) hZ_10 hb_4.size)
              have sz_11 := Below.size (w := v3) hZ_10
              replace hy0 := hy0.now hZ_10
              replace hy1 := hy1.now hZ_10
              go_simp
              refine hK.out _ _ ⟨z0_11, z1_11, z2_11, z3_11⟩ (fun hH => ?_)
              clear hK K
              try simp only [Act.put, List.setIfInBounds_toArray, List.set_cons_zero, List.set_cons_succ]
              refine wpAnyH_ready (rs := [4]) (by kernel_rfl) (by simp) ?_
              refine AllReadyH.cons rfl (fun K hK => ?_) AllReadyH.nil
              go_simp
              go_at_call 29
              refine (spec_JoinGraphs _ _ _ _ _ _ _ hy0.lst hy1.lst ).mono ?_
              rintro e v12 ⟨pv, rfl, hpv, hB_12⟩
              obtain ⟨Apv, cpv, rfl⟩ := hpv.shape
              have z0_13 := cell_keep (w := (v3.alloc (.cells #[.int .i64 0, .slice none 0 0] 31))) z0_11 hB_12
              have z1_13 := cell_keep (w := (v3.alloc (.cells #[.int .i64 0, .slice none 0 0] 31))) z1_11 hB_12
              have z2_13 := cell_keep (w := (v3.alloc (.cells #[.int .i64 0, .slice none 0 0] 31))) z2_11 hB_12
              have z3_13 := cell_keep (w := (v3.alloc (.cells #[.int .i64 0, .slice none 0 0] 31))) z3_11 hB_12
              have hb_13 := hb_11.trans (Below.mono (w := (v3.alloc (.cells #[.int .i64 0, .slice none 0 0] 31))) hB_12 hb_11.size)
              have sz_13 := Below.size (w := (v3.alloc (.cells #[.int .i64 0, .slice none 0 0] 31))) hB_12
              replace hblk := hblk.now hB_12
              have hbp := Own.rebase hpv hb_11.size
              refine hK.out _ _ ⟨z0_13, z1_13, z2_13, z3_13⟩ (fun hH => ?_)
              clear hK K
              try simp only [Act.put, List.setIfInBounds_toArray, List.set_cons_zero, List.set_cons_succ]
              refine wpAnyH_take (i := 5) (oi := { dst := _, op := _, type := _, pos := _, after := _, guard := _ }) (v := ?_) rfl (by kernel_rfl) (by kernel_rfl) (by kernel_rfl) (fun _ _ _ h => h) (Or.inl ⟨by rfl, ?_⟩) hH ?_
              rotate_left
              · intro w9 hSw
                try dsimp only at hSw
                obtain ⟨s0, s1, s2, s3⟩ := hSw
                go_simp
                try with_reducible rfl
              try simp only [Act.put, List.setIfInBounds_toArray, List.set_cons_zero, List.set_cons_succ]
              refine wpAnyH_take (i := 6) (oi := { dst := _, op := _, type := _, pos := _, after := _, guard := _ }) (v := ?_) rfl (by kernel_rfl) (by kernel_rfl) (by kernel_rfl) (fun _ _ _ h => h) (Or.inl ⟨by rfl, ?_⟩) hH ?_
              rotate_left
              · intro w9 hSw
                try dsimp only at hSw
                obtain ⟨s0, s1, s2, s3⟩ := hSw
                go_simp
                try with_reducible rfl
              try simp only [Act.put, List.setIfInBounds_toArray, List.set_cons_zero, List.set_cons_succ]
              refine wpAnyH_take (i := 7) (oi := { dst := _, op := _, type := _, pos := _, after := _, guard := _ }) (v := ?_) rfl (by kernel_rfl) (by kernel_rfl) (by kernel_rfl) (fun _ _ _ h => h) (Or.inl ⟨by rfl, ?_⟩) hH ?_
              rotate_left
              · intro w9 hSw
                try dsimp only at hSw
                obtain ⟨s0, s1, s2, s3⟩ := hSw
                go_simp
                try with_reducible rfl
              try simp only [Act.put, List.setIfInBounds_toArray, List.set_cons_zero, List.set_cons_succ]
              have hf0 := hblk.frozen 0
              have hf1 := hblk.frozen 1
              have hl0 := hblk.lt
              obtain ⟨hc0, hc1⟩ := hblk.c2
              have hbU : Below w2.heap.size w2 ((v12.setCell ⟨v3.heap.size, 0, none⟩ (.int .i64 (joinF ge gp he hp).1)).setCell ⟨v3.heap.size, 1, none⟩ (.slice Apv ((joinF ge gp he hp).2.1).length cpv)) := (hb_13.setCell (p := ⟨v3.heap.size, 0, none⟩) hlo _).setCell (p := ⟨v3.heap.size, 1, none⟩) hlo _
              have x0 := cell_keep ka00 hbU
              have x1 := cell_keep ka01 hbU
              have x2 := cell_keep ka10 hbU
              have x3 := cell_keep ka11 hbU
              refine wpAnyH_ready (rs := [9]) (by kernel_rfl) (by simp) ?_
              refine AllReadyH.cons rfl (fun K hK => ?_) AllReadyH.nil
              go_simp
              refine hK.out _ _ ⟨x0, x1, x2, x3⟩ (fun hH => ?_)
              clear hK K
              try simp only [Act.put, List.setIfInBounds_toArray, List.set_cons_zero, List.set_cons_succ]
              refine wpAnyH_take (i := 10) (oi := { dst := _, op := _, type := _, pos := _, after := _, guard := _ }) (v := ?_) rfl (by kernel_rfl) (by kernel_rfl) (by kernel_rfl) (fun _ _ _ h => h) (Or.inl ⟨by rfl, ?_⟩) hH ?_
              rotate_left
              · intro w9 hSw
                try dsimp only at hSw
                obtain ⟨s0, s1, s2, s3⟩ := hSw
                go_simp
                try with_reducible rfl
              try simp only [Act.put, List.setIfInBounds_toArray, List.set_cons_zero, List.set_cons_succ]
              refine wpAnyH_done (by kernel_rfl) ?_ _
              have hneB := hbp.ne_blk hblk (by decide)
              go_wp2_with fail
              go_meet
              refine ⟨v3, _, _, rfl, rfl, hblk.set2a.set2b, own_far (own_far hbp (p := ⟨v3.heap.size, 0, none⟩) hneB _) (p := ⟨v3.heap.size, 1, none⟩) hneB _, hlo, (by simpa using hl0), hbU⟩
          · have hZ_14 : Below v1.heap.size v1 (v1.alloc (.cells #[.int .i64 0, .slice none 0 0] 31)) := (Below.refl _ _).alloc (Nat.le_refl _) _
            have hblk : Blk (v1.alloc (.cells #[.int .i64 0, .slice none 0 0] 31)) v1.heap.size 31 #[.int .i64 0, .slice none 0 0] := Blk.newAt _ _ rfl
            have hlo : w2.heap.size ≤ v1.heap.size := hb_2.size
            have z0_15 := cell_keep (w := v1) z0_2 hZ_14
            have z1_15 := cell_keep (w := v1) z1_2 hZ_14
            have z2_15 := cell_keep (w := v1) z2_2 hZ_14
            have z3_15 := cell_keep (w := v1) z3_2 hZ_14
            have hb_15 := hb_2.trans (Below.mono (w := v1) hZ_14 hb_2.size)
            have sz_15 := Below.size (w := v1) hZ_14
            replace hy0 := hy0.now hZ_14
            go_simp
            refine hK.out _ _ ⟨z0_15, z1_15, z2_15, z3_15⟩ (fun hH => ?_)
            clear hK K
            try simp only [Act.put, List.setIfInBounds_toArray, List.set_cons_zero, List.set_cons_succ]
            refine wpAnyH_ready (rs := [3]) (by kernel_rfl) (by simp) ?_
            refine AllReadyH.cons rfl (fun K hK => ?_) AllReadyH.nil
            go_simp
            go_at_call 17
            refine (laws_toEventGraph u he hp _ (hbz1.now hb_15) hn1).mono ?_
            rintro e v16 ⟨y1, rfl, hy1, hB_16⟩
            obtain ⟨Ay1, cy1, rfl⟩ := hy1.shape
            have z0_17 := cell_keep (w := (v1.alloc (.cells #[.int .i64 0, .slice none 0 0] 31))) z0_15 hB_16
            have z1_17 := cell_keep (w := (v1.alloc (.cells #[.int .i64 0, .slice none 0 0] 31))) z1_15 hB_16
            have z2_17 := cell_keep (w := (v1.alloc (.cells #[.int .i64 0, .slice none 0 0] 31))) z2_15 hB_16
            have z3_17 := cell_keep (w := (v1.alloc (.cells #[.int .i64 0, .slice none 0 0] 31))) z3_15 hB_16
            have hb_17 := hb_15.trans (Below.mono (w := (v1.alloc (.cells #[.int .i64 0, .slice none 0 0] 31))) hB_16 hb_15.size)
            have sz_17 := Below.size (w := (v1.alloc (.cells #[.int .i64 0, .slice none 0 0] 31))) hB_16
            replace hy0 := hy0.now hB_16
            replace hblk := hblk.now hB_16
            refine hK.out _ _ ⟨z0_17, z1_17, z2_17, z3_17⟩ (fun hH => ?_)
            clear hK K
            try simp only [Act.put, List.setIfInBounds_toArray, List.set_cons_zero, List.set_cons_succ]
            refine wpAnyH_ready (rs := [4]) (by kernel_rfl) (by simp) ?_
            refine AllReadyH.cons rfl (fun K hK => ?_) AllReadyH.nil
            go_simp
            go_at_call 29
            refine (spec_JoinGraphs _ _ _ _ _ _ _ hy0.lst hy1.lst ).mono ?_
            rintro e v18 ⟨pv, rfl, hpv, hB_18⟩
            obtain ⟨Apv, cpv, rfl⟩ := hpv.shape
            have z0_19 := cell_keep (w := v16) z0_17 hB_18
            have z1_19 := cell_keep (w := v16) z1_17 hB_18
            have z2_19 := cell_keep (w := v16) z2_17 hB_18
            have z3_19 := cell_keep (w := v16) z3_17 hB_18
            have hb_19 := hb_17.trans (Below.mono (w := v16) hB_18 hb_17.size)
            have sz_19 := Below.size (w := v16) hB_18
            replace hblk := hblk.now hB_18
            have hbp := Own.rebase hpv hb_17.size
            refine hK.out _ _ ⟨z0_19, z1_19, z2_19, z3_19⟩ (fun hH => ?_)
            clear hK K
            try simp only [Act.put, List.setIfInBounds_toArray, List.set_cons_zero, List.set_cons_succ]
            refine wpAnyH_take (i := 5) (oi := { dst := _, op := _, type := _, pos := _, after := _, guard := _ }) (v := ?_) rfl (by kernel_rfl) (by kernel_rfl) (by kernel_rfl) (fun _ _ _ h => h) (Or.inl ⟨by rfl, ?_⟩) hH ?_
            rotate_left
            · intro w9 hSw
              try dsimp only at hSw
              obtain ⟨s0, s1, s2, s3⟩ := hSw
              go_simp
              try with_reducible rfl
            try simp only [Act.put, List.setIfInBounds_toArray, List.set_cons_zero, List.set_cons_succ]
            refine wpAnyH_take (i := 6) (oi := { dst := _, op := _, type := _, pos := _, after := _, guard := _ }) (v := ?_) rfl (by kernel_rfl) (by kernel_rfl) (by kernel_rfl) (fun _ _ _ h => h) (Or.inl ⟨by rfl, ?_⟩) hH ?_
            rotate_left
            · intro w9 hSw
              try dsimp only at hSw
              obtain ⟨s0, s1, s2, s3⟩ := hSw
              go_simp
              try with_reducible rfl
            try simp only [Act.put, List.setIfInBounds_toArray, List.set_cons_zero, List.set_cons_succ]
            refine wpAnyH_take (i := 7) (oi := { dst := _, op := _, type := _, pos := _, after := _, guard := _ }) (v := ?_) rfl (by kernel_rfl) (by kernel_rfl) (by kernel_rfl) (fun _ _ _ h => h) (Or.inl ⟨by rfl, ?_⟩) hH ?_
            rotate_left
            · intro w9 hSw
              try dsimp only at hSw
              obtain ⟨s0, s1, s2, s3⟩ := hSw
              go_simp
              try with_reducible rfl
            try simp only [Act.put, List.setIfInBounds_toArray, List.set_cons_zero, List.set_cons_succ]
            have hf0 := hblk.frozen 0
            have hf1 := hblk.frozen 1
            have hl0 := hblk.lt
            obtain ⟨hc0, hc1⟩ := hblk.c2
            have hbU : Below w2.heap.size w2 ((v18.setCell ⟨v1.heap.size, 0, none⟩ (.int .i64 (joinF ge gp he hp).1)).setCell ⟨v1.heap.size, 1, none⟩ (.slice Apv ((joinF ge gp he hp).2.1).length cpv)) := (hb_19.setCell (p := ⟨v1.heap.size, 0, none⟩) hlo _).setCell (p := ⟨v1.heap.size, 1, none⟩) hlo _
            have x0 := cell_keep ka00 hbU
            have x1 := cell_keep ka01 hbU
            have x2 := cell_keep ka10 hbU
            have x3 := cell_keep ka11 hbU
            refine wpAnyH_ready (rs := [9]) (by kernel_rfl) (by simp) ?_
            refine AllReadyH.cons rfl (fun K hK => ?_) AllReadyH.nil
            go_simp
            refine hK.out _ _ ⟨x0, x1, x2, x3⟩ (fun hH => ?_)
            clear hK K
            try simp only [Act.put, List.setIfInBounds_toArray, List.set_cons_zero, List.set_cons_succ]
            refine wpAnyH_take (i := 10) (oi := { dst := _, op := _, type := _, pos := _, after := _, guard := _ }) (v := ?_) rfl (by kernel_rfl) (by kernel_rfl) (by kernel_rfl) (fun _ _ _ h => h) (Or.inl ⟨by rfl, ?_⟩) hH ?_
            rotate_left
            · intro w9 hSw
              try dsimp only at hSw
              obtain ⟨s0, s1, s2, s3⟩ := hSw
              go_simp
              try with_reducible rfl
            try simp only [Act.put, List.setIfInBounds_toArray, List.set_cons_zero, List.set_cons_succ]
            refine wpAnyH_done (by kernel_rfl) ?_ _
            have hneB := hbp.ne_blk hblk (by decide)
            go_wp2_with fail
            go_meet
            refine ⟨v1, _, _, rfl, rfl, hblk.set2a.set2b, own_far (own_far hbp (p := ⟨v1.heap.size, 0, none⟩) hneB _) (p := ⟨v1.heap.size, 1, none⟩) hneB _, hlo, (by simpa using hl0), hbU⟩
        · have hZ_20 : Below w2.drew.heap.size w2.drew (w2.drew.alloc (.cells #[.int .i64 0, .slice none 0 0] 31)) := (Below.refl _ _).alloc (Nat.le_refl _) _
          have hblk : Blk (w2.drew.alloc (.cells #[.int .i64 0, .slice none 0 0] 31)) w2.heap.size 31 #[.int .i64 0, .slice none 0 0] := Blk.newAt _ _ rfl
          have hlo : w2.heap.size ≤ w2.heap.size := Nat.le_refl _
          have z0_21 := cell_keep (w := w2.drew) z0_0 hZ_20
          have z1_21 := cell_keep (w := w2.drew) z1_0 hZ_20
          have z2_21 := cell_keep (w := w2.drew) z2_0 hZ_20
          have z3_21 := cell_keep (w := w2.drew) z3_0 hZ_20
          have hb_21 := hBd.trans (Below.mono (w := w2.drew) hZ_20 hBd.size)
          have sz_21 := Below.size (w := w2.drew) hZ_20
          go_simp
          refine hK.out _ _ ⟨z0_21, z1_21, z2_21, z3_21⟩ (fun hH => ?_)
          clear hK K
          try simp only [Act.put, List.setIfInBounds_toArray, List.set_cons_zero, List.set_cons_succ]
          refine wpAnyH_ready (rs := [1]) (by kernel_rfl) (by simp) ?_
          refine AllReadyH.cons rfl (fun K hK => ?_) AllReadyH.nil
          go_simp
          go_at_call 17
          refine (laws_toEventGraph v ge gp _ (hbz0.now hb_21) hn0).mono ?_
          rintro e v22 ⟨y0, rfl, hy0, hB_22⟩
          obtain ⟨Ay0, cy0, rfl⟩ := hy0.shape
          have z0_23 := cell_keep (w := (w2.drew.alloc (.cells #[.int .i64 0, .slice none 0 0] 31))) z0_21 hB_22
          have z1_23 := cell_keep (w := (w2.drew.alloc (.cells #[.int .i64 0, .slice none 0 0] 31))) z1_21 hB_22
          have z2_23 := cell_keep (w := (w2.drew.alloc (.cells #[.int .i64 0, .slice none 0 0] 31))) z2_21 hB_22
          have z3_23 := cell_keep (w := (w2.drew.alloc (.cells #[.int .i64 0, .slice none 0 0] 31))) z3_21 hB_22
          have hb_23 := hb_21.trans (Below.mono (w := (w2.drew.alloc (.cells #[.int .i64 0, .slice none 0 0] 31))) hB_22 hb_21.size)
          have sz_23 := Below.size (w := (w2.drew.alloc (.cells #[.int .i64 0, .slice none 0 0] 31))) hB_22
          replace hblk := hblk.now hB_22
          refine hK.out _ _ ⟨z0_23, z1_23, z2_23, z3_23⟩ (fun hH => ?_)
          clear hK K
          try simp only [Act.put, List.setIfInBounds_toArray, List.set_cons_zero, List.set_cons_succ]
          refine wpAnyH_ready (rs := [3]) (by kernel_rfl) (by simp) ?_
          refine AllReadyH.cons rfl (fun K hK => ?_) AllReadyH.nil
          go_simp
          go_at_call 17
          refine (laws_toEventGraph u he hp _ (hbz1.now hb_23) hn1).mono ?_
          rintro e v24 ⟨y1, rfl, hy1, hB_24⟩
          obtain ⟨Ay1, cy1, rfl⟩ := hy1.shape
          have z0_25 := cell_keep (w := v22) z0_23 hB_24
          have z1_25 := cell_keep (w := v22) z1_23 hB_24
          have z2_25 := cell_keep (w := v22) z2_23 hB_24
          have z3_25 := cell_keep (w := v22) z3_23 hB_24
          have hb_25 := hb_23.trans (Below.mono (w := v22) hB_24 hb_23.size)
          have sz_25 := Below.size (w := v22) hB_24
          replace hblk := hblk.now hB_24
          replace hy0 := hy0.now hB_24
          refine hK.out _ _ ⟨z0_25, z1_25, z2_25, z3_25⟩ (fun hH => ?_)
          clear hK K
          try simp only [Act.put, List.setIfInBounds_toArray, List.set_cons_zero, List.set_cons_succ]
          refine wpAnyH_ready (rs := [4]) (by kernel_rfl) (by simp) ?_
          refine AllReadyH.cons rfl (fun K hK => ?_) AllReadyH.nil
          go_simp
          go_at_call 29
          refine (spec_JoinGraphs _ _ _ _ _ _ _ hy0.lst hy1.lst ).mono ?_
          rintro e v26 ⟨pv, rfl, hpv, hB_26⟩
          obtain ⟨Apv, cpv, rfl⟩ := hpv.shape
          have z0_27 := cell_keep (w := v24) z0_25 hB_26
          have z1_27 := cell_keep (w := v24) z1_25 hB_26
          have z2_27 := cell_keep (w := v24) z2_25 hB_26
          have z3_27 := cell_keep (w := v24) z3_25 hB_26
          have hb_27 := hb_25.trans (Below.mono (w := v24) hB_26 hb_25.size)
          have sz_27 := Below.size (w := v24) hB_26
          replace hblk := hblk.now hB_26
          have hbp := Own.rebase hpv hb_25.size
          refine hK.out _ _ ⟨z0_27, z1_27, z2_27, z3_27⟩ (fun hH => ?_)
          clear hK K
          try simp only [Act.put, List.setIfInBounds_toArray, List.set_cons_zero, List.set_cons_succ]
          refine wpAnyH_take (i := 5) (oi := { dst := _, op := _, type := _, pos := _, after := _, guard := _ }) (v := ?_) rfl (by kernel_rfl) (by kernel_rfl) (by kernel_rfl) (fun _ _ _ h => h) (Or.inl ⟨by rfl, ?_⟩) hH ?_
          rotate_left
          · intro w9 hSw
            try dsimp only at hSw
            obtain ⟨s0, s1, s2, s3⟩ := hSw
            go_simp
            try with_reducible rfl
          try simp only [Act.put, List.setIfInBounds_toArray, List.set_cons_zero, List.set_cons_succ]
          refine wpAnyH_take (i := 6) (oi := { dst := _, op := _, type := _, pos := _, after := _, guard := _ }) (v := ?_) rfl (by kernel_rfl) (by kernel_rfl) (by kernel_rfl) (fun _ _ _ h => h) (Or.inl ⟨by rfl, ?_⟩) hH ?_
          rotate_left
          · intro w9 hSw
            try dsimp only at hSw
            obtain ⟨s0, s1, s2, s3⟩ := hSw
            go_simp
            try with_reducible rfl
          try simp only [Act.put, List.setIfInBounds_toArray, List.set_cons_zero, List.set_cons_succ]
          refine wpAnyH_take (i := 7) (oi := { dst := _, op := _, type := _, pos := _, after := _, guard := _ }) (v := ?_) rfl (by kernel_rfl) (by kernel_rfl) (by kernel_rfl) (fun _ _ _ h => h) (Or.inl ⟨by rfl, ?_⟩) hH ?_
          rotate_left
          · intro w9 hSw
            try dsimp only at hSw
            obtain ⟨s0, s1, s2, s3⟩ := hSw
            go_simp
            try with_reducible rfl
          try simp only [Act.put, List.setIfInBounds_toArray, List.set_cons_zero, List.set_cons_succ]
          have hf0 := hblk.frozen 0
          have hf1 := hblk.frozen 1
          have hl0 := hblk.lt
          obtain ⟨hc0, hc1⟩ := hblk.c2
          have hbU : Below w2.heap.size w2 ((v26.setCell ⟨w2.heap.size, 0, none⟩ (.int .i64 (joinF ge gp he hp).1)).setCell ⟨w2.heap.size, 1, none⟩ (.slice Apv ((joinF ge gp he hp).2.1).length cpv)) := (hb_27.setCell (p := ⟨w2.heap.size, 0, none⟩) hlo _).setCell (p := ⟨w2.heap.size, 1, none⟩) hlo _
          have x0 := cell_keep ka00 hbU
          have x1 := cell_keep ka01 hbU
          have x2 := cell_keep ka10 hbU
          have x3 := cell_keep ka11 hbU
          refine wpAnyH_ready (rs := [9]) (by kernel_rfl) (by simp) ?_
          refine AllReadyH.cons rfl (fun K hK => ?_) AllReadyH.nil
          go_simp
          refine hK.out _ _ ⟨x0, x1, x2, x3⟩ (fun hH => ?_)
          clear hK K
          try simp only [Act.put, List.setIfInBounds_toArray, List.set_cons_zero, List.set_cons_succ]
          refine wpAnyH_take (i := 10) (oi := { dst := _, op := _, type := _, pos := _, after := _, guard := _ }) (v := ?_) rfl (by kernel_rfl) (by kernel_rfl) (by kernel_rfl) (fun _ _ _ h => h) (Or.inl ⟨by rfl, ?_⟩) hH ?_
          rotate_left
          · intro w9 hSw
            try dsimp only at hSw
            obtain ⟨s0, s1, s2, s3⟩ := hSw
            go_simp
            try with_reducible rfl
          try simp only [Act.put, List.setIfInBounds_toArray, List.set_cons_zero, List.set_cons_succ]
          refine wpAnyH_done (by kernel_rfl) ?_ _
          have hneB := hbp.ne_blk hblk (by decide)
          go_wp2_with fail
          go_meet
          refine ⟨w2, _, _, rfl, rfl, hblk.set2a.set2b, own_far (own_far hbp (p := ⟨w2.heap.size, 0, none⟩) hneB _) (p := ⟨w2.heap.size, 1, none⟩) hneB _, hlo, (by simpa using hl0), hbU⟩
      case rest =>
        clear hbz0
        clear hbz1
        obtain ⟨wz3, Ap0, cp0, rfl, rfl, hblk, hp0, hz3, hy3, hB3⟩ := hcut
        obtain ⟨w3, rfl⟩ : ∃ wq : World, wq = wc := ⟨_, rfl⟩
        have rp0 := Lib.hid hp0.lt
        have s3 := hB3.size
        obtain ⟨kp00, kp01⟩ := hblk.c2
        clear hblk
        replace ht := ht.trans (hB3.mono ht.size)
        replace ka00 := cell_keep ka00 hB3
        replace ka01 := cell_keep ka01 hB3
        replace ka10 := cell_keep ka10 hB3
        replace ka11 := cell_keep ka11 hB3
        go_wp2_with fail
        refine (laws_toEventGraph _ _ _ _ ((b0.below ht (Nat.le_refl _)).more ht.size) hn0).mono ?_
        rintro e w4 ⟨x0, rfl, hx0, hB4⟩
        obtain ⟨Ax0, cx0, rfl⟩ := hx0.shape
        have rx0 := Lib.hid hx0.lt
        have s4 := hB4.size
        replace ht := ht.trans (hB4.mono ht.size)
        replace hp0 := hp0.now hB4
        replace ka00 := cell_keep ka00 hB4
        replace ka01 := cell_keep ka01 hB4
        replace ka10 := cell_keep ka10 hB4
        replace ka11 := cell_keep ka11 hB4
        replace kp00 := cell_keep kp00 hB4
        replace kp01 := cell_keep kp01 hB4
        have hA1 : Below w4.heap.size w4 (w4.alloc (.cells #[.int .i64 ge, .slice Ax0 gp.length cx0] 31)) := (Below.refl _ _).alloc (Nat.le_refl _) _
        have sA1 : w4.heap.size < (w4.alloc (.cells #[.int .i64 ge, .slice Ax0 gp.length cx0] 31)).heap.size := by simp
        replace ht := ht.trans (hA1.mono ht.size)
        replace hp0 := hp0.now hA1
        replace hx0 := hx0.now hA1
        replace ka00 := cell_keep ka00 hA1
        replace ka01 := cell_keep ka01 hA1
        replace ka10 := cell_keep ka10 hA1
        replace ka11 := cell_keep ka11 hA1
        replace kp00 := cell_keep kp00 hA1
        replace kp01 := cell_keep kp01 hA1
        have kx00 : (w4.alloc (.cells #[.int .i64 ge, .slice Ax0 gp.length cx0] 31)).cell? ⟨w4.heap.size, 0, none⟩ = some (.int .i64 ge) := by simp
        have kx01 : (w4.alloc (.cells #[.int .i64 ge, .slice Ax0 gp.length cx0] 31)).cell? ⟨w4.heap.size, 1, none⟩ = some (.slice Ax0 gp.length cx0) := by simp
        clear hA1
        go_wp2_with fail
        refine (laws_toEventGraph _ _ _ _ ((b1.below ht (Nat.le_refl _)).more ht.size) hn1).mono ?_
        rintro e w5 ⟨x1, rfl, hx1, hB5⟩
        obtain ⟨Ax1, cx1, rfl⟩ := hx1.shape
        have rx1 := Lib.hid hx1.lt
        have s5 := hB5.size
        replace ht := ht.trans (hB5.mono ht.size)
        replace hp0 := hp0.now hB5
        replace hx0 := hx0.now hB5
        replace ka00 := cell_keep ka00 hB5
        replace ka01 := cell_keep ka01 hB5
        replace ka10 := cell_keep ka10 hB5
        replace ka11 := cell_keep ka11 hB5
        replace kp00 := cell_keep kp00 hB5
        replace kp01 := cell_keep kp01 hB5
        replace kx00 := cell_keep kx00 hB5
        replace kx01 := cell_keep kx01 hB5
        have hA2 : Below w5.heap.size w5 (w5.alloc (.cells #[.int .i64 he, .slice Ax1 hp.length cx1] 31)) := (Below.refl _ _).alloc (Nat.le_refl _) _
        have sA2 : w5.heap.size < (w5.alloc (.cells #[.int .i64 he, .slice Ax1 hp.length cx1] 31)).heap.size := by simp
        replace ht := ht.trans (hA2.mono ht.size)
        replace hp0 := hp0.now hA2
        replace hx0 := hx0.now hA2
        replace hx1 := hx1.now hA2
        replace ka00 := cell_keep ka00 hA2
        replace ka01 := cell_keep ka01 hA2
        replace ka10 := cell_keep ka10 hA2
        replace ka11 := cell_keep ka11 hA2
        replace kp00 := cell_keep kp00 hA2
        replace kp01 := cell_keep kp01 hA2
        replace kx00 := cell_keep kx00 hA2
        replace kx01 := cell_keep kx01 hA2
        have kx10 : (w5.alloc (.cells #[.int .i64 he, .slice Ax1 hp.length cx1] 31)).cell? ⟨w5.heap.size, 0, none⟩ = some (.int .i64 he) := by simp
        have kx11 : (w5.alloc (.cells #[.int .i64 he, .slice Ax1 hp.length cx1] 31)).cell? ⟨w5.heap.size, 1, none⟩ = some (.slice Ax1 hp.length cx1) := by simp
        clear hA2
        go_wp2_with fail
        refine (impl_JoinGraphs _ _ _ _ _ _ _ hx0.lst hx1.lst ).mono ?_
        rintro e w6 ⟨g0, rfl, hg0, hB6⟩
        obtain ⟨Ag0, cg0, rfl⟩ := hg0.shape
        have rg0 := Lib.hid hg0.lt
        have s6 := hB6.size
        replace ht := ht.trans (hB6.mono ht.size)
        replace hp0 := hp0.now hB6
        replace hx0 := hx0.now hB6
        replace hx1 := hx1.now hB6
        replace ka00 := cell_keep ka00 hB6
        replace ka01 := cell_keep ka01 hB6
        replace ka10 := cell_keep ka10 hB6
        replace ka11 := cell_keep ka11 hB6
        replace kp00 := cell_keep kp00 hB6
        replace kp01 := cell_keep kp01 hB6
        replace kx00 := cell_keep kx00 hB6
        replace kx01 := cell_keep kx01 hB6
        replace kx10 := cell_keep kx10 hB6
        replace kx11 := cell_keep kx11 hB6
        have hA3 : Below w6.heap.size w6 (w6.alloc (.cells #[.int .i64 (joinF ge gp he hp).1, .slice Ag0 ((joinF ge gp he hp).2.1).length cg0] 31)) := (Below.refl _ _).alloc (Nat.le_refl _) _
        have sA3 : w6.heap.size < (w6.alloc (.cells #[.int .i64 (joinF ge gp he hp).1, .slice Ag0 ((joinF ge gp he hp).2.1).length cg0] 31)).heap.size := by simp
        replace ht := ht.trans (hA3.mono ht.size)
        replace hp0 := hp0.now hA3
        replace hx0 := hx0.now hA3
        replace hx1 := hx1.now hA3
        replace hg0 := hg0.now hA3
        replace ka00 := cell_keep ka00 hA3
        replace ka01 := cell_keep ka01 hA3
        replace ka10 := cell_keep ka10 hA3
        replace ka11 := cell_keep ka11 hA3
        replace kp00 := cell_keep kp00 hA3
        replace kp01 := cell_keep kp01 hA3
        replace kx00 := cell_keep kx00 hA3
        replace kx01 := cell_keep kx01 hA3
        replace kx10 := cell_keep kx10 hA3
        replace kx11 := cell_keep kx11 hA3
        have kg00 : (w6.alloc (.cells #[.int .i64 (joinF ge gp he hp).1, .slice Ag0 ((joinF ge gp he hp).2.1).length cg0] 31)).cell? ⟨w6.heap.size, 0, none⟩ = some (.int .i64 (joinF ge gp he hp).1) := by simp
        have kg01 : (w6.alloc (.cells #[.int .i64 (joinF ge gp he hp).1, .slice Ag0 ((joinF ge gp he hp).2.1).length cg0] 31)).cell? ⟨w6.heap.size, 1, none⟩ = some (.slice Ag0 ((joinF ge gp he hp).2.1).length cg0) := by simp
        clear hA3
        go_wp2_with fail
        refine (laws_eqEventGraph _ _ _ _ _ _ _ hg0.lst hp0.lst).mono ?_
        rintro e w7 ⟨rfl, hB7⟩
        have s7 := hB7.size
        replace ht := ht.trans (hB7.mono ht.size)
        replace hp0 := hp0.now hB7
        replace hx0 := hx0.now hB7
        replace hx1 := hx1.now hB7
        replace hg0 := hg0.now hB7
        replace ka00 := cell_keep ka00 hB7
        replace ka01 := cell_keep ka01 hB7
        replace ka10 := cell_keep ka10 hB7
        replace ka11 := cell_keep ka11 hB7
        replace kp00 := cell_keep kp00 hB7
        replace kp01 := cell_keep kp01 hB7
        replace kx00 := cell_keep kx00 hB7
        replace kx01 := cell_keep kx01 hB7
        replace kx10 := cell_keep kx10 hB7
        replace kx11 := cell_keep kx11 hB7
        replace kg00 := cell_keep kg00 hB7
        replace kg01 := cell_keep kg01 hB7
        go_wp2_with fail
        have hbz := ((b0.below ht (Nat.le_refl _)).more ht.size)
        go_region_held3 (fun w' => w'.cell? ⟨w4.heap.size, 0, none⟩ = some (.int .i64 ge) ∧ w'.cell? ⟨w4.heap.size, 1, none⟩ = some (.slice Ax0 gp.length cx0) ∧ w'.cell? ⟨w.heap.size, 0, none⟩ = some (.int .i64 ge) ∧ w'.cell? ⟨w.heap.size, 1, none⟩ = some (v)) (first | exact ⟨kx00, kx01, ka00, ka01⟩ | exact ⟨fkx00, fkx01, fka00, fka01⟩ | exact ⟨ekx00, ekx01, eka00, eka01⟩ | go_keep) (first | (go_at_call 17; refine (laws_toEventGraph _ _ _ _ (show Lst Place.cells 4 w7.drew w7.drew.heap.size _ _ from hbz) hn0).mono ?_; rintro e w8 ⟨z0, rfl, hz0, hB8⟩; have fkx00 := cell_keep (w := w7.drew) kx00 hB8; have fkx01 := cell_keep (w := w7.drew) kx01 hB8; have fka00 := cell_keep (w := w7.drew) ka00 hB8; have fka01 := cell_keep (w := w7.drew) ka01 hB8) | (go_at_call 20; refine (laws_eqEventGraph _ _ _ _ _ _ _ (Lst.now (w := w7.drew) hx0.lst hB8) hz0.lst).mono ?_; rintro e w9 ⟨rfl, hB9⟩; have ekx00 := cell_keep fkx00 hB9; have ekx01 := cell_keep fkx01 hB9; have eka00 := cell_keep fka00 hB9; have eka01 := cell_keep fka01 hB9))
        clear fkx00 fkx01 fka00 fka01 ekx00 ekx01 eka00 eka01
        have s8 := Below.size (w := w7.drew) hB8
        have dq8 : w7.drew.heap.size = w7.heap.size := rfl
        have s9 := hB9.size
        have hD : Below w7.heap.size w7 w9 := ((Below.refl _ w7).drew.trans hB8).trans (hB9.mono s8)
        replace ht := ht.trans (hD.mono ht.size)
        replace hp0 := hp0.now hD
        replace hx0 := hx0.now hD
        replace hx1 := hx1.now hD
        replace hg0 := hg0.now hD
        replace ka00 := cell_keep ka00 hD
        replace ka01 := cell_keep ka01 hD
        replace ka10 := cell_keep ka10 hD
        replace ka11 := cell_keep ka11 hD
        replace kp00 := cell_keep kp00 hD
        replace kp01 := cell_keep kp01 hD
        replace kx00 := cell_keep kx00 hD
        replace kx01 := cell_keep kx01 hD
        replace kx10 := cell_keep kx10 hD
        replace kx11 := cell_keep kx11 hD
        replace kg00 := cell_keep kg00 hD
        replace kg01 := cell_keep kg01 hD
        clear hD
        go_wp2_with fail
        have hbz := ((b1.below ht (Nat.le_refl _)).more ht.size)
        go_region_held3 (fun w' => w'.cell? ⟨w5.heap.size, 0, none⟩ = some (.int .i64 he) ∧ w'.cell? ⟨w5.heap.size, 1, none⟩ = some (.slice Ax1 hp.length cx1) ∧ w'.cell? ⟨w.heap.size + 1, 0, none⟩ = some (.int .i64 he) ∧ w'.cell? ⟨w.heap.size + 1, 1, none⟩ = some (u)) (first | exact ⟨kx10, kx11, ka10, ka11⟩ | exact ⟨fkx10, fkx11, fka10, fka11⟩ | exact ⟨ekx10, ekx11, eka10, eka11⟩ | go_keep) (first | (go_at_call 17; refine (laws_toEventGraph _ _ _ _ (show Lst Place.cells 4 w9.drew w9.drew.heap.size _ _ from hbz) hn1).mono ?_; rintro e w10 ⟨z1, rfl, hz1, hB10⟩; have fkx10 := cell_keep (w := w9.drew) kx10 hB10; have fkx11 := cell_keep (w := w9.drew) kx11 hB10; have fka10 := cell_keep (w := w9.drew) ka10 hB10; have fka11 := cell_keep (w := w9.drew) ka11 hB10) | (go_at_call 20; refine (laws_eqEventGraph _ _ _ _ _ _ _ (Lst.now (w := w9.drew) hx1.lst hB10) hz1.lst).mono ?_; rintro e w11 ⟨rfl, hB11⟩; have ekx10 := cell_keep fkx10 hB11; have ekx11 := cell_keep fkx11 hB11; have eka10 := cell_keep fka10 hB11; have eka11 := cell_keep fka11 hB11))
        clear fkx10 fkx11 fka10 fka11 ekx10 ekx11 eka10 eka11
        have s10 := Below.size (w := w9.drew) hB10
        have dq10 : w9.drew.heap.size = w9.heap.size := rfl
        have s11 := hB11.size
        have hD : Below w9.heap.size w9 w11 := ((Below.refl _ w9).drew.trans hB10).trans (hB11.mono s10)
        replace ht := ht.trans (hD.mono ht.size)
        replace hp0 := hp0.now hD
        replace hx0 := hx0.now hD
        replace hx1 := hx1.now hD
        replace hg0 := hg0.now hD
        replace ka00 := cell_keep ka00 hD
        replace ka01 := cell_keep ka01 hD
        replace ka10 := cell_keep ka10 hD
        replace ka11 := cell_keep ka11 hD
        replace kp00 := cell_keep kp00 hD
        replace kp01 := cell_keep kp01 hD
        replace kx00 := cell_keep kx00 hD
        replace kx01 := cell_keep kx01 hD
        replace kx10 := cell_keep kx10 hD
        replace kx11 := cell_keep kx11 hD
        replace kg00 := cell_keep kg00 hD
        replace kg01 := cell_keep kg01 hD
        clear hD
        go_wp2_with fail
        refine (laws_markEventGraph _ _ _ _ _ _ hx0 hn0 (by omega) (by omega)).mono ?_
        clear hx0
        rintro e w12 ⟨rfl, hx0, hG⟩
        replace hp0 := own_kept hp0 hG (by intro k hk hk'; have q1 := rp0.out k hk; have q2 := rx0.out k hk'; omega)
        replace hx1 := own_kept hx1 hG (by intro k hk hk'; have q1 := rx1.out k hk; have q2 := rx0.out k hk'; omega)
        replace hg0 := own_kept hg0 hG (by intro k hk hk'; have q1 := rg0.out k hk; have q2 := rx0.out k hk'; omega)
        replace ka00 := cell_kept ka00 hG (by intro hk; have q2 := rx0.out _ hk; simp at * <;> omega)
        replace ka01 := cell_kept ka01 hG (by intro hk; have q2 := rx0.out _ hk; simp at * <;> omega)
        replace ka10 := cell_kept ka10 hG (by intro hk; have q2 := rx0.out _ hk; simp at * <;> omega)
        replace ka11 := cell_kept ka11 hG (by intro hk; have q2 := rx0.out _ hk; simp at * <;> omega)
        replace kp00 := cell_kept kp00 hG (by intro hk; have q2 := rx0.out _ hk; simp at * <;> omega)
        replace kp01 := cell_kept kp01 hG (by intro hk; have q2 := rx0.out _ hk; simp at * <;> omega)
        replace kx00 := cell_kept kx00 hG (by intro hk; have q2 := rx0.out _ hk; simp at * <;> omega)
        replace kx01 := cell_kept kx01 hG (by intro hk; have q2 := rx0.out _ hk; simp at * <;> omega)
        replace kx10 := cell_kept kx10 hG (by intro hk; have q2 := rx0.out _ hk; simp at * <;> omega)
        replace kx11 := cell_kept kx11 hG (by intro hk; have q2 := rx0.out _ hk; simp at * <;> omega)
        replace kg00 := cell_kept kg00 hG (by intro hk; have q2 := rx0.out _ hk; simp at * <;> omega)
        replace kg01 := cell_kept kg01 hG (by intro hk; have q2 := rx0.out _ hk; simp at * <;> omega)
        replace ht := ht.grown hG ht.size (by intro k hk; have q2 := rx0.out k hk; omega)
        have s12 := hG.size
        clear hG
        go_wp2_with fail
        refine (laws_markEventGraph _ _ _ _ _ _ hx1 hn1 (by omega) (by omega)).mono ?_
        clear hx1
        rintro e w13 ⟨rfl, hx1, hG⟩
        replace hp0 := own_kept hp0 hG (by intro k hk hk'; have q1 := rp0.out k hk; have q2 := rx1.out k hk'; omega)
        replace hx0 := own_kept hx0 hG (by intro k hk hk'; have q1 := rx0.out k hk; have q2 := rx1.out k hk'; omega)
        replace hg0 := own_kept hg0 hG (by intro k hk hk'; have q1 := rg0.out k hk; have q2 := rx1.out k hk'; omega)
        replace ka00 := cell_kept ka00 hG (by intro hk; have q2 := rx1.out _ hk; simp at * <;> omega)
        replace ka01 := cell_kept ka01 hG (by intro hk; have q2 := rx1.out _ hk; simp at * <;> omega)
        replace ka10 := cell_kept ka10 hG (by intro hk; have q2 := rx1.out _ hk; simp at * <;> omega)
        replace ka11 := cell_kept ka11 hG (by intro hk; have q2 := rx1.out _ hk; simp at * <;> omega)
        replace kp00 := cell_kept kp00 hG (by intro hk; have q2 := rx1.out _ hk; simp at * <;> omega)
        replace kp01 := cell_kept kp01 hG (by intro hk; have q2 := rx1.out _ hk; simp at * <;> omega)
        replace kx00 := cell_kept kx00 hG (by intro hk; have q2 := rx1.out _ hk; simp at * <;> omega)
        replace kx01 := cell_kept kx01 hG (by intro hk; have q2 := rx1.out _ hk; simp at * <;> omega)
        replace kx10 := cell_kept kx10 hG (by intro hk; have q2 := rx1.out _ hk; simp at * <;> omega)
        replace kx11 := cell_kept kx11 hG (by intro hk; have q2 := rx1.out _ hk; simp at * <;> omega)
        replace kg00 := cell_kept kg00 hG (by intro hk; have q2 := rx1.out _ hk; simp at * <;> omega)
        replace kg01 := cell_kept kg01 hG (by intro hk; have q2 := rx1.out _ hk; simp at * <;> omega)
        replace ht := ht.grown hG ht.size (by intro k hk; have q2 := rx1.out k hk; omega)
        have s13 := hG.size
        clear hG
        go_wp2_with fail
        refine (laws_eqEventGraph _ _ _ _ _ _ _ hg0.lst hp0.lst).mono ?_
        rintro e w14 ⟨rfl, hB14⟩
        have s14 := hB14.size
        replace ht := ht.trans (hB14.mono ht.size)
        replace hp0 := hp0.now hB14
        replace hx0 := hx0.now hB14
        replace hx1 := hx1.now hB14
        replace hg0 := hg0.now hB14
        replace ka00 := cell_keep ka00 hB14
        replace ka01 := cell_keep ka01 hB14
        replace ka10 := cell_keep ka10 hB14
        replace ka11 := cell_keep ka11 hB14
        replace kp00 := cell_keep kp00 hB14
        replace kp01 := cell_keep kp01 hB14
        replace kx00 := cell_keep kx00 hB14
        replace kx01 := cell_keep kx01 hB14
        replace kx10 := cell_keep kx10 hB14
        replace kx11 := cell_keep kx11 hB14
        replace kg00 := cell_keep kg00 hB14
        replace kg01 := cell_keep kg01 hB14
        go_wp2_with fail
        clear hx0 rx0
        clear hx1 rx1
        refine (laws_markEventGraph _ _ _ _ _ _ hg0 hlen0 (by omega) (by omega)).mono ?_
        clear hg0
        rintro e w15 ⟨rfl, hg0, hG⟩
        replace hp0 := own_kept hp0 hG (by intro k hk hk'; have q1 := rp0.out k hk; have q2 := rg0.out k hk'; omega)
        replace ka00 := cell_kept ka00 hG (by intro hk; have q2 := rg0.out _ hk; simp at * <;> omega)
        replace ka01 := cell_kept ka01 hG (by intro hk; have q2 := rg0.out _ hk; simp at * <;> omega)
        replace ka10 := cell_kept ka10 hG (by intro hk; have q2 := rg0.out _ hk; simp at * <;> omega)
        replace ka11 := cell_kept ka11 hG (by intro hk; have q2 := rg0.out _ hk; simp at * <;> omega)
        replace kp00 := cell_kept kp00 hG (by intro hk; have q2 := rg0.out _ hk; simp at * <;> omega)
        replace kp01 := cell_kept kp01 hG (by intro hk; have q2 := rg0.out _ hk; simp at * <;> omega)
        replace kx00 := cell_kept kx00 hG (by intro hk; have q2 := rg0.out _ hk; simp at * <;> omega)
        replace kx01 := cell_kept kx01 hG (by intro hk; have q2 := rg0.out _ hk; simp at * <;> omega)
        replace kx10 := cell_kept kx10 hG (by intro hk; have q2 := rg0.out _ hk; simp at * <;> omega)
        replace kx11 := cell_kept kx11 hG (by intro hk; have q2 := rg0.out _ hk; simp at * <;> omega)
        replace kg00 := cell_kept kg00 hG (by intro hk; have q2 := rg0.out _ hk; simp at * <;> omega)
        replace kg01 := cell_kept kg01 hG (by intro hk; have q2 := rg0.out _ hk; simp at * <;> omega)
        replace ht := ht.grown hG ht.size (by intro k hk; have q2 := rg0.out k hk; omega)
        have s15 := hG.size
        clear hG
        go_wp2_with fail
        refine (laws_heldEventGraph _ _ _ _ _ hg0.lst hlen0 (by omega) (by omega)).mono ?_
        rintro e w16 ⟨rfl, hB16⟩
        have s16 := hB16.size
        replace ht := ht.trans (hB16.mono ht.size)
        replace hp0 := hp0.now hB16
        replace hg0 := hg0.now hB16
        replace ka00 := cell_keep ka00 hB16
        replace ka01 := cell_keep ka01 hB16
        replace ka10 := cell_keep ka10 hB16
        replace ka11 := cell_keep ka11 hB16
        replace kp00 := cell_keep kp00 hB16
        replace kp01 := cell_keep kp01 hB16
        replace kx00 := cell_keep kx00 hB16
        replace kx01 := cell_keep kx01 hB16
        replace kx10 := cell_keep kx10 hB16
        replace kx11 := cell_keep kx11 hB16
        replace kg00 := cell_keep kg00 hB16
        replace kg01 := cell_keep kg01 hB16
        go_wp2_with fail
        have hbz0 := ((b0.below ht (Nat.le_refl _)).more ht.size)
        have hbz1 := ((b1.below ht (Nat.le_refl _)).more ht.size)
        go_cut [15, 16] (fun pA pB wx => ∃ (wz : World) (A : Option Addr) (c : Nat), pA = .pointer (some ⟨wz.heap.size, 0, none⟩) ∧ pB = .int .i64 (joinF ge gp he hp).2.2 ∧ Blk wx wz.heap.size 31 #[.int .i64 (joinF ge gp he hp).1, .slice A ((joinF ge gp he hp).2.1).length c] ∧ Own Place.cells 4 98 wx w16.heap.size (.slice A ((joinF ge gp he hp).2.1).length c) (joinF ge gp he hp).2.1 ∧ w16.heap.size ≤ wz.heap.size ∧ wz.heap.size < wx.heap.size ∧ Below w16.heap.size w16 wx)
        case first =>
          have hBd : Below w16.heap.size w16 w16.drew := Below.drew (Below.refl _ _)
          have z0_0 := cell_keep ka00 hBd
          have z1_0 := cell_keep ka01 hBd
          have z2_0 := cell_keep ka10 hBd
          have z3_0 := cell_keep ka11 hBd
          go_wp2_with fail
          refine wp_region_held_drew (S := fun w' => w'.cell? ⟨w.heap.size, 0, none⟩ = some (.int .i64 ge) ∧ w'.cell? ⟨w.heap.size, 1, none⟩ = some (v) ∧ w'.cell? ⟨w.heap.size + 1, 0, none⟩ = some (.int .i64 he) ∧ w'.cell? ⟨w.heap.size + 1, 1, none⟩ = some (u)) (by kernel_rfl) ⟨z0_0, z1_0, z2_0, z3_0⟩ (fun hH => ?_)
          refine wpAnyH_take (i := 0) (oi := { dst := _, op := _, type := _, pos := _, after := _, guard := _ }) (v := ?_) rfl (by kernel_rfl) (by kernel_rfl) (by kernel_rfl) (fun _ _ _ h => h) (Or.inl ⟨by rfl, ?_⟩) hH ?_
          rotate_left
          · intro w9 hSw
            try dsimp only at hSw
            obtain ⟨s0, s1, s2, s3⟩ := hSw
            go_simp
            try with_reducible rfl
          try simp only [Act.put, List.setIfInBounds_toArray, List.set_cons_zero, List.set_cons_succ]
          refine wpAnyH_take (i := 2) (oi := { dst := _, op := _, type := _, pos := _, after := _, guard := _ }) (v := ?_) rfl (by kernel_rfl) (by kernel_rfl) (by kernel_rfl) (fun _ _ _ h => h) (Or.inl ⟨by rfl, ?_⟩) hH ?_
          rotate_left
          · intro w9 hSw
            try dsimp only at hSw
            obtain ⟨s0, s1, s2, s3⟩ := hSw
            go_simp
            try with_reducible rfl
          try simp only [Act.put, List.setIfInBounds_toArray, List.set_cons_zero, List.set_cons_succ]
          refine wpAnyH_ready (rs := [1, 8]) (by kernel_rfl) (by simp) ?_
          refine AllReadyH.cons rfl (fun K hK => ?_) (AllReadyH.cons rfl (fun K hK => ?_) AllReadyH.nil)
          · go_simp
            go_at_call 17
            refine (laws_toEventGraph v ge gp _ (hbz0.now hBd) hn0).mono ?_
            rintro e v1 ⟨t0, rfl, ht0, hB_1⟩
            obtain ⟨At0, ct0, rfl⟩ := ht0.shape
            have z0_2 := cell_keep (w := w16.drew) z0_0 hB_1
            have z1_2 := cell_keep (w := w16.drew) z1_0 hB_1
            have z2_2 := cell_keep (w := w16.drew) z2_0 hB_1
            have z3_2 := cell_keep (w := w16.drew) z3_0 hB_1
            have hb_2 := hBd.trans (Below.mono (w := w16.drew) hB_1 hBd.size)
            have sz_2 := Below.size (w := w16.drew) hB_1
            refine hK.out _ _ ⟨z0_2, z1_2, z2_2, z3_2⟩ (fun hH => ?_)
            clear hK K
            try simp only [Act.put, List.setIfInBounds_toArray, List.set_cons_zero, List.set_cons_succ]
            refine wpAnyH_ready (rs := [3, 8]) (by kernel_rfl) (by simp) ?_
            refine AllReadyH.cons rfl (fun K hK => ?_) (AllReadyH.cons rfl (fun K hK => ?_) AllReadyH.nil)
            · go_simp
              go_at_call 17
              refine (laws_toEventGraph u he hp _ (hbz1.now hb_2) hn1).mono ?_
              rintro e v3 ⟨t1, rfl, ht1, hB_3⟩
              obtain ⟨At1, ct1, rfl⟩ := ht1.shape
              have z0_4 := cell_keep (w := v1) z0_2 hB_3
              have z1_4 := cell_keep (w := v1) z1_2 hB_3
              have z2_4 := cell_keep (w := v1) z2_2 hB_3
              have z3_4 := cell_keep (w := v1) z3_2 hB_3
              have hb_4 := hb_2.trans (Below.mono (w := v1) hB_3 hb_2.size)
              have sz_4 := Below.size (w := v1) hB_3
              replace ht0 := ht0.now hB_3
              refine hK.out _ _ ⟨z0_4, z1_4, z2_4, z3_4⟩ (fun hH => ?_)
              clear hK K
              try simp only [Act.put, List.setIfInBounds_toArray, List.set_cons_zero, List.set_cons_succ]
              refine wpAnyH_ready (rs := [4, 8]) (by kernel_rfl) (by simp) ?_
              refine AllReadyH.cons rfl (fun K hK => ?_) (AllReadyH.cons rfl (fun K hK => ?_) AllReadyH.nil)
              · go_simp
                go_at_call 30
                refine (impl_JoinGraphs _ _ _ _ _ _ _ ht0.lst ht1.lst ).mono ?_
                rintro e v5 ⟨pv, rfl, hpv, hB_5⟩
                obtain ⟨Apv, cpv, rfl⟩ := hpv.shape
                have z0_6 := cell_keep (w := v3) z0_4 hB_5
                have z1_6 := cell_keep (w := v3) z1_4 hB_5
                have z2_6 := cell_keep (w := v3) z2_4 hB_5
                have z3_6 := cell_keep (w := v3) z3_4 hB_5
                have hb_6 := hb_4.trans (Below.mono (w := v3) hB_5 hb_4.size)
                have sz_6 := Below.size (w := v3) hB_5
                have hbp := Own.rebase hpv hb_4.size
                refine hK.out _ _ ⟨z0_6, z1_6, z2_6, z3_6⟩ (fun hH => ?_)
                clear hK K
                try simp only [Act.put, List.setIfInBounds_toArray, List.set_cons_zero, List.set_cons_succ]
                refine wpAnyH_take (i := 5) (oi := { dst := _, op := _, type := _, pos := _, after := _, guard := _ }) (v := ?_) rfl (by kernel_rfl) (by kernel_rfl) (by kernel_rfl) (fun _ _ _ h => h) (Or.inl ⟨by rfl, ?_⟩) hH ?_
                rotate_left
                · intro w9 hSw
                  try dsimp only at hSw
                  obtain ⟨s0, s1, s2, s3⟩ := hSw
                  go_simp
                  try with_reducible rfl
                try simp only [Act.put, List.setIfInBounds_toArray, List.set_cons_zero, List.set_cons_succ]
                refine wpAnyH_take (i := 6) (oi := { dst := _, op := _, type := _, pos := _, after := _, guard := _ }) (v := ?_) rfl (by kernel_rfl) (by kernel_rfl) (by kernel_rfl) (fun _ _ _ h => h) (Or.inl ⟨by rfl, ?_⟩) hH ?_
                rotate_left
                · intro w9 hSw
                  try dsimp only at hSw
                  obtain ⟨s0, s1, s2, s3⟩ := hSw
                  go_simp
                  try with_reducible rfl
                try simp only [Act.put, List.setIfInBounds_toArray, List.set_cons_zero, List.set_cons_succ]
                refine wpAnyH_take (i := 7) (oi := { dst := _, op := _, type := _, pos := _, after := _, guard := _ }) (v := ?_) rfl (by kernel_rfl) (by kernel_rfl) (by kernel_rfl) (fun _ _ _ h => h) (Or.inl ⟨by rfl, ?_⟩) hH ?_
                rotate_left
                · intro w9 hSw
                  try dsimp only at hSw
                  obtain ⟨s0, s1, s2, s3⟩ := hSw
                  go_simp
                  try with_reducible rfl
                try simp only [Act.put, List.setIfInBounds_toArray, List.set_cons_zero, List.set_cons_succ]
                refine wpAnyH_ready (rs := [8]) (by kernel_rfl) (by simp) ?_
                refine AllReadyH.cons rfl (fun K hK => ?_) AllReadyH.nil
                have hZ_7 : Below v5.heap.size v5 (v5.alloc (.cells #[.int .i64 0, .slice none 0 0] 31)) := (Below.refl _ _).alloc (Nat.le_refl _) _
                have hblk : Blk (v5.alloc (.cells #[.int .i64 0, .slice none 0 0] 31)) v5.heap.size 31 #[.int .i64 0, .slice none 0 0] := Blk.newAt _ _ rfl
                have hlo : w16.heap.size ≤ v5.heap.size := hb_6.size
                have z0_8 := cell_keep (w := v5) z0_6 hZ_7
                have z1_8 := cell_keep (w := v5) z1_6 hZ_7
                have z2_8 := cell_keep (w := v5) z2_6 hZ_7
                have z3_8 := cell_keep (w := v5) z3_6 hZ_7
                have hb_8 := hb_6.trans (Below.mono (w := v5) hZ_7 hb_6.size)
                have sz_8 := Below.size (w := v5) hZ_7
                go_simp
                refine hK.out _ _ ⟨z0_8, z1_8, z2_8, z3_8⟩ (fun hH => ?_)
                clear hK K
                try simp only [Act.put, List.setIfInBounds_toArray, List.set_cons_zero, List.set_cons_succ]
                have hZ_9 : Below v5.heap.size v5 (v5.alloc (.cells #[.int .i64 (joinF ge gp he hp).1, .slice Apv ((joinF ge gp he hp).2.1).length cpv] 31)) := (Below.refl _ _).alloc (Nat.le_refl _) _
                have y0_9 := cell_keep (w := v5) z0_6 hZ_9
                have y1_9 := cell_keep (w := v5) z1_6 hZ_9
                have y2_9 := cell_keep (w := v5) z2_6 hZ_9
                have y3_9 := cell_keep (w := v5) z3_6 hZ_9
                refine wpAnyH_ready (rs := [9]) (by kernel_rfl) (by simp) ?_
                refine AllReadyH.cons rfl (fun K hK => ?_) AllReadyH.nil
                go_simp
                refine hK.out _ _ ⟨y0_9, y1_9, y2_9, y3_9⟩ (fun hH => ?_)
                clear hK K
                try simp only [Act.put, List.setIfInBounds_toArray, List.set_cons_zero, List.set_cons_succ]
                refine wpAnyH_take (i := 10) (oi := { dst := _, op := _, type := _, pos := _, after := _, guard := _ }) (v := ?_) rfl (by kernel_rfl) (by kernel_rfl) (by kernel_rfl) (fun _ _ _ h => h) (Or.inl ⟨by rfl, ?_⟩) hH ?_
                rotate_left
                · intro w9 hSw
                  try dsimp only at hSw
                  obtain ⟨s0, s1, s2, s3⟩ := hSw
                  go_simp
                  try with_reducible rfl
                try simp only [Act.put, List.setIfInBounds_toArray, List.set_cons_zero, List.set_cons_succ]
                refine wpAnyH_done (by kernel_rfl) ?_ _
                go_wp2_with fail
                go_meet
                refine ⟨v5, _, _, rfl, rfl, Blk.newAt _ _ rfl, (hbp.now hZ_9), hlo, (by simp), hb_6.trans (Below.mono (w := v5) hZ_9 hb_6.size)⟩
              · have hZ_10 : Below v3.heap.size v3 (v3.alloc (.cells #[.int .i64 0, .slice none 0 0] 31)) := (Below.refl _ _).alloc (Nat.le_refl _) _
                have hblk : Blk (v3.alloc (.cells #[.int .i64 0, .slice none 0 0] 31)) v3.heap.size 31 #[.int .i64 0, .slice none 0 0] := Blk.newAt _ _ rfl
                have hlo : w16.heap.size ≤ v3.heap.size := hb_4.size
                have z0_11 := cell_keep (w := v3) z0_4 hZ_10
                have z1_11 := cell_keep (w := v3) z1_4 hZ_10
                have z2_11 := cell_keep (w := v3) z2_4 hZ_10
                have z3_11 := cell_keep (w := v3) z3_4 hZ_10
                have hb_11 := hb_4.trans (Below.mono (w := v3) hZ_10 hb_4.size)
                have sz_11 := Below.size (w := v3) hZ_10
                replace ht0 := ht0.now hZ_10
                replace ht1 := ht1.now hZ_10
                go_simp
                refine hK.out _ _ ⟨z0_11, z1_11, z2_11, z3_11⟩ (fun hH => ?_)
                clear hK K
                try simp only [Act.put, List.setIfInBounds_toArray, List.set_cons_zero, List.set_cons_succ]
                refine wpAnyH_ready (rs := [4]) (by kernel_rfl) (by simp) ?_
                refine AllReadyH.cons rfl (fun K hK => ?_) AllReadyH.nil
                go_simp
                go_at_call 30
                refine (impl_JoinGraphs _ _ _ _ _ _ _ ht0.lst ht1.lst ).mono ?_
                rintro e v12 ⟨pv, rfl, hpv, hB_12⟩
                obtain ⟨Apv, cpv, rfl⟩ := hpv.shape
                have z0_13 := cell_keep (w := (v3.alloc (.cells #[.int .i64 0, .slice none 0 0] 31))) z0_11 hB_12
                have z1_13 := cell_keep (w := (v3.alloc (.cells #[.int .i64 0, .slice none 0 0] 31))) z1_11 hB_12
                have z2_13 := cell_keep (w := (v3.alloc (.cells #[.int .i64 0, .slice none 0 0] 31))) z2_11 hB_12
                have z3_13 := cell_keep (w := (v3.alloc (.cells #[.int .i64 0, .slice none 0 0] 31))) z3_11 hB_12
                have hb_13 := hb_11.trans (Below.mono (w := (v3.alloc (.cells #[.int .i64 0, .slice none 0 0] 31))) hB_12 hb_11.size)
                have sz_13 := Below.size (w := (v3.alloc (.cells #[.int .i64 0, .slice none 0 0] 31))) hB_12
                replace hblk := hblk.now hB_12
                have hbp := Own.rebase hpv hb_11.size
                refine hK.out _ _ ⟨z0_13, z1_13, z2_13, z3_13⟩ (fun hH => ?_)
                clear hK K
                try simp only [Act.put, List.setIfInBounds_toArray, List.set_cons_zero, List.set_cons_succ]
                refine wpAnyH_take (i := 5) (oi := { dst := _, op := _, type := _, pos := _, after := _, guard := _ }) (v := ?_) rfl (by kernel_rfl) (by kernel_rfl) (by kernel_rfl) (fun _ _ _ h => h) (Or.inl ⟨by rfl, ?_⟩) hH ?_
                rotate_left
                · intro w9 hSw
                  try dsimp only at hSw
                  obtain ⟨s0, s1, s2, s3⟩ := hSw
                  go_simp
                  try with_reducible rfl
                try simp only [Act.put, List.setIfInBounds_toArray, List.set_cons_zero, List.set_cons_succ]
                refine wpAnyH_take (i := 6) (oi := { dst := _, op := _, type := _, pos := _, after := _, guard := _ }) (v := ?_) rfl (by kernel_rfl) (by kernel_rfl) (by kernel_rfl) (fun _ _ _ h => h) (Or.inl ⟨by rfl, ?_⟩) hH ?_
                rotate_left
                · intro w9 hSw
                  try dsimp only at hSw
                  obtain ⟨s0, s1, s2, s3⟩ := hSw
                  go_simp
                  try with_reducible rfl
                try simp only [Act.put, List.setIfInBounds_toArray, List.set_cons_zero, List.set_cons_succ]
                refine wpAnyH_take (i := 7) (oi := { dst := _, op := _, type := _, pos := _, after := _, guard := _ }) (v := ?_) rfl (by kernel_rfl) (by kernel_rfl) (by kernel_rfl) (fun _ _ _ h => h) (Or.inl ⟨by rfl, ?_⟩) hH ?_
                rotate_left
                · intro w9 hSw
                  try dsimp only at hSw
                  obtain ⟨s0, s1, s2, s3⟩ := hSw
                  go_simp
                  try with_reducible rfl
                try simp only [Act.put, List.setIfInBounds_toArray, List.set_cons_zero, List.set_cons_succ]
                have hf0 := hblk.frozen 0
                have hf1 := hblk.frozen 1
                have hl0 := hblk.lt
                obtain ⟨hc0, hc1⟩ := hblk.c2
                have hbU : Below w16.heap.size w16 ((v12.setCell ⟨v3.heap.size, 0, none⟩ (.int .i64 (joinF ge gp he hp).1)).setCell ⟨v3.heap.size, 1, none⟩ (.slice Apv ((joinF ge gp he hp).2.1).length cpv)) := (hb_13.setCell (p := ⟨v3.heap.size, 0, none⟩) hlo _).setCell (p := ⟨v3.heap.size, 1, none⟩) hlo _
                have x0 := cell_keep ka00 hbU
                have x1 := cell_keep ka01 hbU
                have x2 := cell_keep ka10 hbU
                have x3 := cell_keep ka11 hbU
                refine wpAnyH_ready (rs := [9]) (by kernel_rfl) (by simp) ?_
                refine AllReadyH.cons rfl (fun K hK => ?_) AllReadyH.nil
                go_simp
                refine hK.out _ _ ⟨x0, x1, x2, x3⟩ (fun hH => ?_)
                clear hK K
                try simp only [Act.put, List.setIfInBounds_toArray, List.set_cons_zero, List.set_cons_succ]
                refine wpAnyH_take (i := 10) (oi := { dst := _, op := _, type := _, pos := _, after := _, guard := _ }) (v := ?_) rfl (by kernel_rfl) (by kernel_rfl) (by kernel_rfl) (fun _ _ _ h => h) (Or.inl ⟨by rfl, ?_⟩) hH ?_
                rotate_left
                · intro w9 hSw
                  try dsimp only at hSw
                  obtain ⟨s0, s1, s2, s3⟩ := hSw
                  go_simp
                  try with_reducible rfl
                try simp only [Act.put, List.setIfInBounds_toArray, List.set_cons_zero, List.set_cons_succ]
                refine wpAnyH_done (by kernel_rfl) ?_ _
                have hneB := hbp.ne_blk hblk (by decide)
                go_wp2_with fail
                go_meet
                refine ⟨v3, _, _, rfl, rfl, hblk.set2a.set2b, own_far (own_far hbp (p := ⟨v3.heap.size, 0, none⟩) hneB _) (p := ⟨v3.heap.size, 1, none⟩) hneB _, hlo, (by simpa using hl0), hbU⟩
            · have hZ_14 : Below v1.heap.size v1 (v1.alloc (.cells #[.int .i64 0, .slice none 0 0] 31)) := (Below.refl _ _).alloc (Nat.le_refl _) _
              have hblk : Blk (v1.alloc (.cells #[.int .i64 0, .slice none 0 0] 31)) v1.heap.size 31 #[.int .i64 0, .slice none 0 0] := Blk.newAt _ _ rfl
              have hlo : w16.heap.size ≤ v1.heap.size := hb_2.size
              have z0_15 := cell_keep (w := v1) z0_2 hZ_14
              have z1_15 := cell_keep (w := v1) z1_2 hZ_14
              have z2_15 := cell_keep (w := v1) z2_2 hZ_14
              have z3_15 := cell_keep (w := v1) z3_2 hZ_14
              have hb_15 := hb_2.trans (Below.mono (w := v1) hZ_14 hb_2.size)
              have sz_15 := Below.size (w := v1) hZ_14
              replace ht0 := ht0.now hZ_14
              go_simp
              refine hK.out _ _ ⟨z0_15, z1_15, z2_15, z3_15⟩ (fun hH => ?_)
              clear hK K
              try simp only [Act.put, List.setIfInBounds_toArray, List.set_cons_zero, List.set_cons_succ]
              refine wpAnyH_ready (rs := [3]) (by kernel_rfl) (by simp) ?_
              refine AllReadyH.cons rfl (fun K hK => ?_) AllReadyH.nil
              go_simp
              go_at_call 17
              refine (laws_toEventGraph u he hp _ (hbz1.now hb_15) hn1).mono ?_
              rintro e v16 ⟨t1, rfl, ht1, hB_16⟩
              obtain ⟨At1, ct1, rfl⟩ := ht1.shape
              have z0_17 := cell_keep (w := (v1.alloc (.cells #[.int .i64 0, .slice none 0 0] 31))) z0_15 hB_16
              have z1_17 := cell_keep (w := (v1.alloc (.cells #[.int .i64 0, .slice none 0 0] 31))) z1_15 hB_16
              have z2_17 := cell_keep (w := (v1.alloc (.cells #[.int .i64 0, .slice none 0 0] 31))) z2_15 hB_16
              have z3_17 := cell_keep (w := (v1.alloc (.cells #[.int .i64 0, .slice none 0 0] 31))) z3_15 hB_16
              have hb_17 := hb_15.trans (Below.mono (w := (v1.alloc (.cells #[.int .i64 0, .slice none 0 0] 31))) hB_16 hb_15.size)
              have sz_17 := Below.size (w := (v1.alloc (.cells #[.int .i64 0, .slice none 0 0] 31))) hB_16
              replace ht0 := ht0.now hB_16
              replace hblk := hblk.now hB_16
              refine hK.out _ _ ⟨z0_17, z1_17, z2_17, z3_17⟩ (fun hH => ?_)
              clear hK K
              try simp only [Act.put, List.setIfInBounds_toArray, List.set_cons_zero, List.set_cons_succ]
              refine wpAnyH_ready (rs := [4]) (by kernel_rfl) (by simp) ?_
              refine AllReadyH.cons rfl (fun K hK => ?_) AllReadyH.nil
              go_simp
              go_at_call 30
              refine (impl_JoinGraphs _ _ _ _ _ _ _ ht0.lst ht1.lst ).mono ?_
              rintro e v18 ⟨pv, rfl, hpv, hB_18⟩
              obtain ⟨Apv, cpv, rfl⟩ := hpv.shape
              have z0_19 := cell_keep (w := v16) z0_17 hB_18
              have z1_19 := cell_keep (w := v16) z1_17 hB_18
              have z2_19 := cell_keep (w := v16) z2_17 hB_18
              have z3_19 := cell_keep (w := v16) z3_17 hB_18
              have hb_19 := hb_17.trans (Below.mono (w := v16) hB_18 hb_17.size)
              have sz_19 := Below.size (w := v16) hB_18
              replace hblk := hblk.now hB_18
              have hbp := Own.rebase hpv hb_17.size
              refine hK.out _ _ ⟨z0_19, z1_19, z2_19, z3_19⟩ (fun hH => ?_)
              clear hK K
              try simp only [Act.put, List.setIfInBounds_toArray, List.set_cons_zero, List.set_cons_succ]
              refine wpAnyH_take (i := 5) (oi := { dst := _, op := _, type := _, pos := _, after := _, guard := _ }) (v := ?_) rfl (by kernel_rfl) (by kernel_rfl) (by kernel_rfl) (fun _ _ _ h => h) (Or.inl ⟨by rfl, ?_⟩) hH ?_
              rotate_left
              · intro w9 hSw
                try dsimp only at hSw
                obtain ⟨s0, s1, s2, s3⟩ := hSw
                go_simp
                try with_reducible rfl
              try simp only [Act.put, List.setIfInBounds_toArray, List.set_cons_zero, List.set_cons_succ]
              refine wpAnyH_take (i := 6) (oi := { dst := _, op := _, type := _, pos := _, after := _, guard := _ }) (v := ?_) rfl (by kernel_rfl) (by kernel_rfl) (by kernel_rfl) (fun _ _ _ h => h) (Or.inl ⟨by rfl, ?_⟩) hH ?_
              rotate_left
              · intro w9 hSw
                try dsimp only at hSw
                obtain ⟨s0, s1, s2, s3⟩ := hSw
                go_simp
                try with_reducible rfl
              try simp only [Act.put, List.setIfInBounds_toArray, List.set_cons_zero, List.set_cons_succ]
              refine wpAnyH_take (i := 7) (oi := { dst := _, op := _, type := _, pos := _, after := _, guard := _ }) (v := ?_) rfl (by kernel_rfl) (by kernel_rfl) (by kernel_rfl) (fun _ _ _ h => h) (Or.inl ⟨by rfl, ?_⟩) hH ?_
              rotate_left
              · intro w9 hSw
                try dsimp only at hSw
                obtain ⟨s0, s1, s2, s3⟩ := hSw
                go_simp
                try with_reducible rfl
              try simp only [Act.put, List.setIfInBounds_toArray, List.set_cons_zero, List.set_cons_succ]
              have hf0 := hblk.frozen 0
              have hf1 := hblk.frozen 1
              have hl0 := hblk.lt
              obtain ⟨hc0, hc1⟩ := hblk.c2
              have hbU : Below w16.heap.size w16 ((v18.setCell ⟨v1.heap.size, 0, none⟩ (.int .i64 (joinF ge gp he hp).1)).setCell ⟨v1.heap.size, 1, none⟩ (.slice Apv ((joinF ge gp he hp).2.1).length cpv)) := (hb_19.setCell (p := ⟨v1.heap.size, 0, none⟩) hlo _).setCell (p := ⟨v1.heap.size, 1, none⟩) hlo _
              have x0 := cell_keep ka00 hbU
              have x1 := cell_keep ka01 hbU
              have x2 := cell_keep ka10 hbU
              have x3 := cell_keep ka11 hbU
              refine wpAnyH_ready (rs := [9]) (by kernel_rfl) (by simp) ?_
              refine AllReadyH.cons rfl (fun K hK => ?_) AllReadyH.nil
              go_simp
              refine hK.out _ _ ⟨x0, x1, x2, x3⟩ (fun hH => ?_)
              clear hK K
              try simp only [Act.put, List.setIfInBounds_toArray, List.set_cons_zero, List.set_cons_succ]
              refine wpAnyH_take (i := 10) (oi := { dst := _, op := _, type := _, pos := _, after := _, guard := _ }) (v := ?_) rfl (by kernel_rfl) (by kernel_rfl) (by kernel_rfl) (fun _ _ _ h => h) (Or.inl ⟨by rfl, ?_⟩) hH ?_
              rotate_left
              · intro w9 hSw
                try dsimp only at hSw
                obtain ⟨s0, s1, s2, s3⟩ := hSw
                go_simp
                try with_reducible rfl
              try simp only [Act.put, List.setIfInBounds_toArray, List.set_cons_zero, List.set_cons_succ]
              refine wpAnyH_done (by kernel_rfl) ?_ _
              have hneB := hbp.ne_blk hblk (by decide)
              go_wp2_with fail
              go_meet
              refine ⟨v1, _, _, rfl, rfl, hblk.set2a.set2b, own_far (own_far hbp (p := ⟨v1.heap.size, 0, none⟩) hneB _) (p := ⟨v1.heap.size, 1, none⟩) hneB _, hlo, (by simpa using hl0), hbU⟩
          · have hZ_20 : Below w16.drew.heap.size w16.drew (w16.drew.alloc (.cells #[.int .i64 0, .slice none 0 0] 31)) := (Below.refl _ _).alloc (Nat.le_refl _) _
            have hblk : Blk (w16.drew.alloc (.cells #[.int .i64 0, .slice none 0 0] 31)) w16.heap.size 31 #[.int .i64 0, .slice none 0 0] := Blk.newAt _ _ rfl
            have hlo : w16.heap.size ≤ w16.heap.size := Nat.le_refl _
            have z0_21 := cell_keep (w := w16.drew) z0_0 hZ_20
            have z1_21 := cell_keep (w := w16.drew) z1_0 hZ_20
            have z2_21 := cell_keep (w := w16.drew) z2_0 hZ_20
            have z3_21 := cell_keep (w := w16.drew) z3_0 hZ_20
            have hb_21 := hBd.trans (Below.mono (w := w16.drew) hZ_20 hBd.size)
            have sz_21 := Below.size (w := w16.drew) hZ_20
            go_simp
            refine hK.out _ _ ⟨z0_21, z1_21, z2_21, z3_21⟩ (fun hH => ?_)
            clear hK K
            try simp only [Act.put, List.setIfInBounds_toArray, List.set_cons_zero, List.set_cons_succ]
            refine wpAnyH_ready (rs := [1]) (by kernel_rfl) (by simp) ?_
            refine AllReadyH.cons rfl (fun K hK => ?_) AllReadyH.nil
            go_simp
            go_at_call 17
            refine (laws_toEventGraph v ge gp _ (hbz0.now hb_21) hn0).mono ?_
            rintro e v22 ⟨t0, rfl, ht0, hB_22⟩
            obtain ⟨At0, ct0, rfl⟩ := ht0.shape
            have z0_23 := cell_keep (w := (w16.drew.alloc (.cells #[.int .i64 0, .slice none 0 0] 31))) z0_21 hB_22
            have z1_23 := cell_keep (w := (w16.drew.alloc (.cells #[.int .i64 0, .slice none 0 0] 31))) z1_21 hB_22
            have z2_23 := cell_keep (w := (w16.drew.alloc (.cells #[.int .i64 0, .slice none 0 0] 31))) z2_21 hB_22
            have z3_23 := cell_keep (w := (w16.drew.alloc (.cells #[.int .i64 0, .slice none 0 0] 31))) z3_21 hB_22
            have hb_23 := hb_21.trans (Below.mono (w := (w16.drew.alloc (.cells #[.int .i64 0, .slice none 0 0] 31))) hB_22 hb_21.size)
            have sz_23 := Below.size (w := (w16.drew.alloc (.cells #[.int .i64 0, .slice none 0 0] 31))) hB_22
            replace hblk := hblk.now hB_22
            refine hK.out _ _ ⟨z0_23, z1_23, z2_23, z3_23⟩ (fun hH => ?_)
            clear hK K
            try simp only [Act.put, List.setIfInBounds_toArray, List.set_cons_zero, List.set_cons_succ]
            refine wpAnyH_ready (rs := [3]) (by kernel_rfl) (by simp) ?_
            refine AllReadyH.cons rfl (fun K hK => ?_) AllReadyH.nil
            go_simp
            go_at_call 17
            refine (laws_toEventGraph u he hp _ (hbz1.now hb_23) hn1).mono ?_
            rintro e v24 ⟨t1, rfl, ht1, hB_24⟩
            obtain ⟨At1, ct1, rfl⟩ := ht1.shape
            have z0_25 := cell_keep (w := v22) z0_23 hB_24
            have z1_25 := cell_keep (w := v22) z1_23 hB_24
            have z2_25 := cell_keep (w := v22) z2_23 hB_24
            have z3_25 := cell_keep (w := v22) z3_23 hB_24
            have hb_25 := hb_23.trans (Below.mono (w := v22) hB_24 hb_23.size)
            have sz_25 := Below.size (w := v22) hB_24
            replace hblk := hblk.now hB_24
            replace ht0 := ht0.now hB_24
            refine hK.out _ _ ⟨z0_25, z1_25, z2_25, z3_25⟩ (fun hH => ?_)
            clear hK K
            try simp only [Act.put, List.setIfInBounds_toArray, List.set_cons_zero, List.set_cons_succ]
            refine wpAnyH_ready (rs := [4]) (by kernel_rfl) (by simp) ?_
            refine AllReadyH.cons rfl (fun K hK => ?_) AllReadyH.nil
            go_simp
            go_at_call 30
            refine (impl_JoinGraphs _ _ _ _ _ _ _ ht0.lst ht1.lst ).mono ?_
            rintro e v26 ⟨pv, rfl, hpv, hB_26⟩
            obtain ⟨Apv, cpv, rfl⟩ := hpv.shape
            have z0_27 := cell_keep (w := v24) z0_25 hB_26
            have z1_27 := cell_keep (w := v24) z1_25 hB_26
            have z2_27 := cell_keep (w := v24) z2_25 hB_26
            have z3_27 := cell_keep (w := v24) z3_25 hB_26
            have hb_27 := hb_25.trans (Below.mono (w := v24) hB_26 hb_25.size)
            have sz_27 := Below.size (w := v24) hB_26
            replace hblk := hblk.now hB_26
            have hbp := Own.rebase hpv hb_25.size
            refine hK.out _ _ ⟨z0_27, z1_27, z2_27, z3_27⟩ (fun hH => ?_)
            clear hK K
            try simp only [Act.put, List.setIfInBounds_toArray, List.set_cons_zero, List.set_cons_succ]
            refine wpAnyH_take (i := 5) (oi := { dst := _, op := _, type := _, pos := _, after := _, guard := _ }) (v := ?_) rfl (by kernel_rfl) (by kernel_rfl) (by kernel_rfl) (fun _ _ _ h => h) (Or.inl ⟨by rfl, ?_⟩) hH ?_
            rotate_left
            · intro w9 hSw
              try dsimp only at hSw
              obtain ⟨s0, s1, s2, s3⟩ := hSw
              go_simp
              try with_reducible rfl
            try simp only [Act.put, List.setIfInBounds_toArray, List.set_cons_zero, List.set_cons_succ]
            refine wpAnyH_take (i := 6) (oi := { dst := _, op := _, type := _, pos := _, after := _, guard := _ }) (v := ?_) rfl (by kernel_rfl) (by kernel_rfl) (by kernel_rfl) (fun _ _ _ h => h) (Or.inl ⟨by rfl, ?_⟩) hH ?_
            rotate_left
            · intro w9 hSw
              try dsimp only at hSw
              obtain ⟨s0, s1, s2, s3⟩ := hSw
              go_simp
              try with_reducible rfl
            try simp only [Act.put, List.setIfInBounds_toArray, List.set_cons_zero, List.set_cons_succ]
            refine wpAnyH_take (i := 7) (oi := { dst := _, op := _, type := _, pos := _, after := _, guard := _ }) (v := ?_) rfl (by kernel_rfl) (by kernel_rfl) (by kernel_rfl) (fun _ _ _ h => h) (Or.inl ⟨by rfl, ?_⟩) hH ?_
            rotate_left
            · intro w9 hSw
              try dsimp only at hSw
              obtain ⟨s0, s1, s2, s3⟩ := hSw
              go_simp
              try with_reducible rfl
            try simp only [Act.put, List.setIfInBounds_toArray, List.set_cons_zero, List.set_cons_succ]
            have hf0 := hblk.frozen 0
            have hf1 := hblk.frozen 1
            have hl0 := hblk.lt
            obtain ⟨hc0, hc1⟩ := hblk.c2
            have hbU : Below w16.heap.size w16 ((v26.setCell ⟨w16.heap.size, 0, none⟩ (.int .i64 (joinF ge gp he hp).1)).setCell ⟨w16.heap.size, 1, none⟩ (.slice Apv ((joinF ge gp he hp).2.1).length cpv)) := (hb_27.setCell (p := ⟨w16.heap.size, 0, none⟩) hlo _).setCell (p := ⟨w16.heap.size, 1, none⟩) hlo _
            have x0 := cell_keep ka00 hbU
            have x1 := cell_keep ka01 hbU
            have x2 := cell_keep ka10 hbU
            have x3 := cell_keep ka11 hbU
            refine wpAnyH_ready (rs := [9]) (by kernel_rfl) (by simp) ?_
            refine AllReadyH.cons rfl (fun K hK => ?_) AllReadyH.nil
            go_simp
            refine hK.out _ _ ⟨x0, x1, x2, x3⟩ (fun hH => ?_)
            clear hK K
            try simp only [Act.put, List.setIfInBounds_toArray, List.set_cons_zero, List.set_cons_succ]
            refine wpAnyH_take (i := 10) (oi := { dst := _, op := _, type := _, pos := _, after := _, guard := _ }) (v := ?_) rfl (by kernel_rfl) (by kernel_rfl) (by kernel_rfl) (fun _ _ _ h => h) (Or.inl ⟨by rfl, ?_⟩) hH ?_
            rotate_left
            · intro w9 hSw
              try dsimp only at hSw
              obtain ⟨s0, s1, s2, s3⟩ := hSw
              go_simp
              try with_reducible rfl
            try simp only [Act.put, List.setIfInBounds_toArray, List.set_cons_zero, List.set_cons_succ]
            refine wpAnyH_done (by kernel_rfl) ?_ _
            have hneB := hbp.ne_blk hblk (by decide)
            go_wp2_with fail
            go_meet
            refine ⟨w16, _, _, rfl, rfl, hblk.set2a.set2b, own_far (own_far hbp (p := ⟨w16.heap.size, 0, none⟩) hneB _) (p := ⟨w16.heap.size, 1, none⟩) hneB _, hlo, (by simpa using hl0), hbU⟩
        case rest =>
          clear hbz0
          clear hbz1
          obtain ⟨wz17, Ak0, ck0, rfl, rfl, hblk, hk0, hz17, hy17, hB17⟩ := hcut
          obtain ⟨w17, rfl⟩ : ∃ wq : World, wq = wc := ⟨_, rfl⟩
          have rk0 := Lib.hid hk0.lt
          have s17 := hB17.size
          obtain ⟨kk00, kk01⟩ := hblk.c2
          clear hblk
          replace ht := ht.trans (hB17.mono ht.size)
          replace hp0 := hp0.now hB17
          replace hg0 := hg0.now hB17
          replace ka00 := cell_keep ka00 hB17
          replace ka01 := cell_keep ka01 hB17
          replace ka10 := cell_keep ka10 hB17
          replace ka11 := cell_keep ka11 hB17
          replace kp00 := cell_keep kp00 hB17
          replace kp01 := cell_keep kp01 hB17
          replace kx00 := cell_keep kx00 hB17
          replace kx01 := cell_keep kx01 hB17
          replace kx10 := cell_keep kx10 hB17
          replace kx11 := cell_keep kx11 hB17
          replace kg00 := cell_keep kg00 hB17
          replace kg01 := cell_keep kg01 hB17
          go_wp2_with fail
          refine (laws_eqEventGraph _ _ _ _ _ _ _ hk0.lst hp0.lst).mono ?_
          rintro e w18 ⟨rfl, hB18⟩
          have s18 := hB18.size
          replace ht := ht.trans (hB18.mono ht.size)
          replace hp0 := hp0.now hB18
          replace hg0 := hg0.now hB18
          replace hk0 := hk0.now hB18
          replace ka00 := cell_keep ka00 hB18
          replace ka01 := cell_keep ka01 hB18
          replace ka10 := cell_keep ka10 hB18
          replace ka11 := cell_keep ka11 hB18
          replace kp00 := cell_keep kp00 hB18
          replace kp01 := cell_keep kp01 hB18
          replace kx00 := cell_keep kx00 hB18
          replace kx01 := cell_keep kx01 hB18
          replace kx10 := cell_keep kx10 hB18
          replace kx11 := cell_keep kx11 hB18
          replace kg00 := cell_keep kg00 hB18
          replace kg01 := cell_keep kg01 hB18
          replace kk00 := cell_keep kk00 hB18
          replace kk01 := cell_keep kk01 hB18
          go_wp2_with fail
          refine (laws_heldEventGraph _ _ _ _ _ hg0.lst hlen0 (by omega) (by omega)).mono ?_
          rintro e w19 ⟨rfl, hB19⟩
          have s19 := hB19.size
          replace ht := ht.trans (hB19.mono ht.size)
          replace hp0 := hp0.now hB19
          replace hg0 := hg0.now hB19
          replace hk0 := hk0.now hB19
          replace ka00 := cell_keep ka00 hB19
          replace ka01 := cell_keep ka01 hB19
          replace ka10 := cell_keep ka10 hB19
          replace ka11 := cell_keep ka11 hB19
          replace kp00 := cell_keep kp00 hB19
          replace kp01 := cell_keep kp01 hB19
          replace kx00 := cell_keep kx00 hB19
          replace kx01 := cell_keep kx01 hB19
          replace kx10 := cell_keep kx10 hB19
          replace kx11 := cell_keep kx11 hB19
          replace kg00 := cell_keep kg00 hB19
          replace kg01 := cell_keep kg01 hB19
          replace kk00 := cell_keep kk00 hB19
          replace kk01 := cell_keep kk01 hB19
          go_wp2_with fail
          go_ret
          exact ⟨rfl, (by repeat (first | exact Below.refl _ _ | refine Below.drew ?_ | refine Below.alloc ?_ (by first | omega | (simp; done) | (simp; omega) | (have q0 := ht.size; simp at q0; omega) | (have q0 := ht.size; simp at q0 ⊢; omega)) _ | refine Below.setCell ?_ (by first | omega | (simp; done) | (simp; omega) | (have q0 := ht.size; simp at q0; omega) | (have q0 := ht.size; simp at q0 ⊢; omega)) _ | refine Below.trans ?_ (Below.mono ht (by first | omega | (simp; done) | (simp; omega) | (have q0 := ht.size; simp at q0; omega) | (have q0 := ht.size; simp at q0 ⊢; omega)))))⟩

theorem JoinGraphs_own : ownKnob Try.prog.godebug = none := by kernel_rfl
theorem JoinGraphs_laidOut : laidOutB Try.prog = true := by kernel_rfl
set_option maxRecDepth 100000 in
theorem JoinGraphs_lifted (os : Os) (started : os.Started) (H : Type) (enc : TypeId × Value → H) :
    ReturnsInHanded {} Try.checked os 5 .any (Rows.fnExactJoinGraphsSpec.pre6 enc Try.prog Try.f5 Rows.fnExactJoinGraphsRow.domain false) (Rows.fnExactJoinGraphsSpec.post enc Try.prog Try.f5 false true false false) := by
  refine returnsInHanded_of_change (C := Try.checked) JoinGraphs_own started (by kernel_rfl) Try.func5
    (ChangeSpec.witness6 (enc := enc) (C := Try.checked) false ⟨#[], #[.agg #[.int .i64 0, .slice none 0 0], .agg #[.int .i64 0, .slice none 0 0]], []⟩ 8 (by kernel_rfl) (by kernel_rfl) (by kernel_rfl) (by kernel_rfl)) ?_
  intro W base args ds gs before hval0 hW hcnd _
  have hval : ∀ (j : Nat) t v, Try.f5.params[j]? = some t → args[j]? = some v → Value.okWide Try.prog W .any base t v := hval0
  have hW' := hW
  obtain ⟨p, q, hA0, hV, rfl, hfz, hnd⟩ := hW
  have hA : DataW.TrodAll enc Try.prog W 0 (fun _ => true) true Try.f5.params.toList args.toList ds p := hA0
  rw [Try.params5] at hA hval
  obtain ⟨v0, vs0, d0, ds0, p0, q0, hargs, rfl, rfl, h0, r0⟩ := trodAll_cons hA
  obtain ⟨v1, vs1, d1, ds1, p1, q1, rfl, rfl, rfl, h1, r1⟩ := trodAll_cons r0
  obtain ⟨rfl, rfl, rfl⟩ := trodAll_nil r1
  obtain rfl : args = #[v0, v1] := by cases args; simp_all
  obtain ⟨rfl, rfl⟩ := trodVars_none hV
  have k0 := h0
  have lt0 : ∀ x ∈ p0, x.block < W.heap.size := by obtain ⟨m, hm⟩ := k0; exact DataW.trod_lt m _ _ _ hm
  have k1 := h1
  have lt1 : ∀ x ∈ p1, x.block < W.heap.size := by obtain ⟨m, hm⟩ := k1; exact DataW.trod_lt m _ _ _ hm
  obtain ⟨e0, s0, y0, u0, fl0, rfl, _, _, hy0, hu0⟩ := Joins.open_agg2 Try.underlying24 (by kernel_rfl) (by kernel_rfl) (hval 0 24 v0 rfl rfl) h0
  obtain ⟨g0, he0, _, w0⟩ := DataW.trod_int Try.underlying2 hy0
  simp only [List.cons.injEq, and_true] at he0
  subst he0
  obtain ⟨len0, z0, hR0⟩ := open_structs Try.underlying22 Try.underlying135 (by kernel_rfl) (by kernel_rfl) (by decide) (by intro j f hj; match j, hj with | 0, hj => (injection hj with hj; subst hj; exact Try.underlying2) | 1, hj => (injection hj with hj; subst hj; exact Try.underlying2) | 2, hj => (injection hj with hj; subst hj; exact Try.underlying2) | 3, hj => (injection hj with hj; subst hj; exact Try.underlying2) | n + 4, hj => simp at hj) (hu0)
  have a0 := rows_lst Place.cells Place.cells_len (fun i => ⟨z0 i 0, z0 i 1, z0 i 2, z0 i 3⟩) (by intro i j hj; match j, hj with | 0, _ => rfl | 1, _ => rfl | 2, _ => rfl | 3, _ => rfl | n + 4, hj => omega) hR0
  have o0 : Hid (∀ x ∈ (List.range len0).map fun i => (⟨z0 i 0, z0 i 1, z0 i 2, z0 i 3⟩ : Place), x.ok) := by
    intro x hx
    obtain ⟨i, hi, rfl⟩ := List.mem_map.1 hx
    have hi := List.mem_range.1 hi
    exact ⟨hR0.2.2 i 0 hi (by decide), hR0.2.2 i 1 hi (by decide), hR0.2.2 i 2 hi (by decide), hR0.2.2 i 3 hi (by decide)⟩
  have o0 : Hid (i64ok g0 ∧ ∀ x ∈ (List.range len0).map fun i => (⟨z0 i 0, z0 i 1, z0 i 2, z0 i 3⟩ : Place), x.ok) := ⟨wf_i64ok w0, o0⟩
  obtain ⟨e1, s1, y1, u1, fl1, rfl, _, _, hy1, hu1⟩ := Joins.open_agg2 Try.underlying24 (by kernel_rfl) (by kernel_rfl) (hval 1 24 v1 rfl rfl) h1
  obtain ⟨g1, he1, _, w1⟩ := DataW.trod_int Try.underlying2 hy1
  simp only [List.cons.injEq, and_true] at he1
  subst he1
  obtain ⟨len1, z1, hR1⟩ := open_structs Try.underlying22 Try.underlying135 (by kernel_rfl) (by kernel_rfl) (by decide) (by intro j f hj; match j, hj with | 0, hj => (injection hj with hj; subst hj; exact Try.underlying2) | 1, hj => (injection hj with hj; subst hj; exact Try.underlying2) | 2, hj => (injection hj with hj; subst hj; exact Try.underlying2) | 3, hj => (injection hj with hj; subst hj; exact Try.underlying2) | n + 4, hj => simp at hj) (hu1)
  have a1 := rows_lst Place.cells Place.cells_len (fun i => ⟨z1 i 0, z1 i 1, z1 i 2, z1 i 3⟩) (by intro i j hj; match j, hj with | 0, _ => rfl | 1, _ => rfl | 2, _ => rfl | 3, _ => rfl | n + 4, hj => omega) hR1
  have o1 : Hid (∀ x ∈ (List.range len1).map fun i => (⟨z1 i 0, z1 i 1, z1 i 2, z1 i 3⟩ : Place), x.ok) := by
    intro x hx
    obtain ⟨i, hi, rfl⟩ := List.mem_map.1 hx
    have hi := List.mem_range.1 hi
    exact ⟨hR1.2.2 i 0 hi (by decide), hR1.2.2 i 1 hi (by decide), hR1.2.2 i 2 hi (by decide), hR1.2.2 i 3 hi (by decide)⟩
  have o1 : Hid (i64ok g1 ∧ ∀ x ∈ (List.range len1).map fun i => (⟨z1 i 0, z1 i 1, z1 i 2, z1 i 3⟩ : Place), x.ok) := ⟨wf_i64ok w1, o1⟩
  clear hA0 hval0
  refine (law_JoinGraphs _ _ _ _ _ _ W a0 a1 o0 o1).mono fun e W' ⟨he, bel⟩ => ?_
  subst he
  exact ⟨_, rfl, _, _, _, [], _, [], hW', trodAll_mk1 (shut_bool Try.underlying4 _), (trodAll_cons_mk (Below.trod JoinGraphs_laidOut (by kernel_rfl) (of_decide_eq_true (by kernel_rfl)) k0 bel lt0) (trodAll_cons_mk (Below.trod JoinGraphs_laidOut (by kernel_rfl) (of_decide_eq_true (by kernel_rfl)) k1 bel lt1) trodAll_mk0)), rfl, bel.frame _, fun h => by cases h⟩
theorem JoinGraphs_over : Rows.fnExactJoinGraphsRow.holds Try.pinned (OpenSpec.ofChange Rows.fnExactJoinGraphsSpec) :=
  OpenClaim.holds_of_wide 5 Try.f5 rfl rfl rfl rfl rfl rfl rfl ⟨rfl, rfl, rfl, rfl, rfl⟩ rfl rfl rfl rfl rfl (by kernel_rfl) Try.func5 (by kernel_rfl)
    (of_decide_eq_true (by kernel_rfl)) (by unfold Func.isWrapper; first | (rw [if_pos (by decide +kernel)]; kernel_rfl) | (rw [if_neg (by decide +kernel)]; exact ⟨rfl, rfl⟩))
    (fun os started H enc _ => JoinGraphs_lifted os started H enc)
/-- The given statement. -/
theorem JoinGraphs_proved : Rows.FnExactJoinGraphsSaid := JoinGraphs_over
end Go.Proofs.Ytickecljchccoaa
