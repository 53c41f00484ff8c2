/-
  The walk of the draw of a graph that is to be simplified.
-/
import Derived.Test.YtbdklhahbeiffaaDrC
namespace Go.Proofs.Ytbdklhahbeiffaa
open Go.RowKit
set_option linter.unusedVariables false
set_option linter.unusedSimpArgs false
set_option maxHeartbeats 16000000 in
set_option maxRecDepth 100000 in
theorem spec_DrawSimplifyGraph (cv : Value) (bs : List Int) (w : World) (h0 : Lst byteCell 1 w w.heap.size cv bs) (hbv : Hid (∀ b ∈ bs, 0 ≤ b ∧ b ≤ 255)) :
    Calls Try.prog 42 #[cv] w fun e w' => ∃ ge gp v, e = .returned (.agg #[.int .i64 ge, v]) ∧ 0 ≤ ge ∧ ge ≤ 11 ∧ gp.length ≤ 40 ∧ Own Place.cells 4 101 w' w.heap.size v gp ∧ Below w.heap.size w w' := by
  go_enter Try.func42, Try.ntmps42
  go_wp2_with fail
  have hA : Below w.heap.size w (w.alloc (.cells #[.int .i64 0, .slice none 0 0] 32)) := (Below.refl _ _).alloc (Nat.le_refl _) _
  have hres := Blk.newAt w (t := 32) (cs := #[.int .i64 0, .slice none 0 0]) _ rfl
  have hszA : (w.alloc (.cells #[.int .i64 0, .slice none 0 0] 32)).heap.size = w.heap.size + 1 := by simp
  refine (spec_l01From _ bs _ (h0.now hA) hbv).mono ?_
  rintro e w1 ⟨rfl, hS, hB1⟩
  rw [hszA] at hS hB1 ⊢
  have hB : Below w.heap.size w w1 := hA.trans (hB1.mono (by omega))
  replace hres := hres.below hB1 (by omega)
  obtain ⟨b2, hb2⟩ : ∃ b2, w.heap.size = b2 := ⟨_, rfl⟩
  obtain ⟨g, hg⟩ : ∃ g, w.heap.size + 1 = g := ⟨_, rfl⟩
  have hgb : w.heap.size ≤ g := by omega
  rw [hg] at hS ⊢
  rw [hb2] at hres
  rw [show (Value.pointer (some ⟨w.heap.size, 0, none⟩)) = .pointer (some ⟨b2, 0, none⟩) by rw [hb2]]
  have hb2w : w.heap.size ≤ b2 := by omega
  have hs1 := hB.size
  clear hA hszA hB1 hb2 hg
  go_wp2_with fail
  have hgB := hS.lt
  obtain ⟨B0, hB0⟩ : ∃ B0, w1.heap.size = B0 := ⟨_, rfl⟩
  refine (spec_l11Draw g _ hS).mono ?_
  rintro e w2 ⟨ge, gp, v, rfl, hg0, hg1, hlen, hO, hN⟩
  obtain ⟨A, c, rfl⟩ := hO.shape
  rw [hB0] at hO hgB
  have hwB : w.heap.size ≤ B0 := by omega
  replace hres := blk_draw hres (by decide) hS hN
  replace hB := below_draw hB hs1 hgb hN
  replace hS := hN.1
  have hs2 := hB.size
  have hbl := hres.lt
  have hA2 : Below w2.heap.size w2 (w2.alloc (.cells #[.int .i64 ge, .slice A gp.length c] 32)) := (Below.refl _ _).alloc (Nat.le_refl _) _
  have hbox : Blk (w2.alloc (.cells #[.int .i64 ge, .slice A gp.length c] 32)) w2.heap.size 32 #[.int .i64 ge, .slice A gp.length c] := Blk.newAt w2 _ rfl
  replace hO := hO.now hA2
  replace hS := hS.now hA2
  replace hres := hres.now hA2
  replace hB := hB.trans (hA2.mono hs2)
  have hne : b2 ≠ w2.heap.size := by omega
  clear hN hs1 hA2 hbl hB0
  go_wp2_with fail
  generalize w2.alloc (.cells #[.int .i64 ge, .slice A gp.length c] 32) = w3 at *
  generalize w2.heap.size = bg at *
  go_loopw [5, 6] (fun iv _ wr => ∃ (i : Nat) (gr : List Place), iv = .int .i64 i ∧ i ≤ 20 ∧ i ≤ gp.length ∧ gr.length = gp.length ∧ Own Place.cells 4 101 wr B0 (.slice A gp.length c) gr ∧ Src wr g ∧ Blk wr b2 32 #[.int .i64 0, .slice none 0 0] ∧ Blk wr bg 32 #[.int .i64 ge, .slice A gp.length c] ∧ Below w.heap.size w wr) (fun iv _ _ => gp.length - (intOf iv).toNat)
  case atStart => exact ⟨0, gp, rfl, by omega, by omega, rfl, hO, hS, hres, hbox, hB⟩
  case round =>
    clear hO hS hres hbox hB
    obtain ⟨i, gr, rfl, hi, hig, hgr, hO, hS, hres, hbox, hB⟩ := hrel
    have lb := hbox.lt
    obtain ⟨e0, e1⟩ := hbox.c2
    by_cases hlt : i < gp.length ∧ i < 20
    · obtain ⟨hlt, hl20⟩ := hlt
      obtain ⟨ga, cc, hv, hga, hgl⟩ := own_form hO (by omega)
      obtain ⟨rfl, -, rfl⟩ : A = some ⟨ga, 0, none⟩ ∧ True ∧ cc = c := by injection hv with a b c; exact ⟨a, trivial, c.symm⟩
      clear hv
      have i1 : (i : Int) < (gp.length : Int) := by omega
      have i2 : (i : Int) < 20 := by omega
      go_wp2_with fail
      refine (spec_l01Next g 3 _ hS (by omega)).mono ?_
      rintro e wa ⟨z3, rfl, -, hN⟩
      replace hO := own_draw hO (by decide) hS hN
      replace hres := blk_draw hres (by decide) hS hN
      replace hbox := blk_draw hbox (by decide) hS hN
      replace hB := below_draw hB hB.size hgb hN
      replace hS := hN.1
      clear hN
      clear e0 e1 lb
      have lb := hbox.lt
      obtain ⟨e0, e1⟩ := hbox.c2
      by_cases hz : z3 = 0
      · have q3 : (z3 == 0) = true := by simp [hz]
        clear hz
        go_wp2_with fail
        refine (spec_l01Next g gp.length _ hS (by omega)).mono ?_
        rintro e wb ⟨kv, rfl, hkv, hN⟩
        replace hO := own_draw hO (by decide) hS hN
        replace hres := blk_draw hres (by decide) hS hN
        replace hbox := blk_draw hbox (by decide) hS hN
        replace hB := below_draw hB hB.size hgb hN
        replace hS := hN.1
        clear hN
        clear e0 e1 lb
        have lb := hbox.lt
        obtain ⟨e0, e1⟩ := hbox.c2
        obtain ⟨kk, rfl⟩ := Int.eq_ofNat_of_zero_le hkv.1
        have hkl : kk < gp.length := by
          rcases Nat.lt_or_ge 1 gp.length with h | h
          · have := hkv.2.1 (by omega)
            omega
          · have := hkv.2.2 (by omega)
            omega
        have k1 : (kk : Int) < (gp.length : Int) := by omega
        clear hkv
        obtain ⟨-, -, hfz, x0, x1, x2, x3⟩ := own_places_at hO i (by omega)
        obtain ⟨-, -, -, y0, y1, y2, y3⟩ := own_places_at hO kk (by omega)
        have f0 := hfz (i * 4)
        have f1 := hfz (i * 4 + 1)
        have f2 := hfz (i * 4 + 2)
        have f3 := hfz (i * 4 + 3)
        have hup := hO.setP i (by omega) ⟨gr[kk].src, gr[kk].dst, gr[i].delay, gr[kk].tokens⟩
        have hnb : ga ≠ bg := fun e => hO.ne_blk hbox (by decide) (by rw [e]; rfl)
        have hn2 : ga ≠ b2 := fun e => hO.ne_blk hres (by decide) (by rw [e]; rfl)
        have hlen2 : (gr.set i ⟨gr[kk].src, gr[kk].dst, gr[i].delay, gr[kk].tokens⟩).length = gp.length := by rw [List.length_set]; exact hgr
        generalize gr.set i ⟨gr[kk].src, gr[kk].dst, gr[i].delay, gr[kk].tokens⟩ = gn at *
        generalize gr[i].src = a0 at *
        generalize gr[i].dst = a1 at *
        generalize gr[i].delay = a2 at *
        generalize gr[i].tokens = a3 at *
        generalize gr[kk].src = b0 at *
        generalize gr[kk].dst = b1 at *
        generalize gr[kk].delay = b3 at *
        generalize gr[kk].tokens = b4 at *
        have g1 : g < ga := by omega
        have hSu := Lib.hid ((((hS.kept (grown_setC wb ⟨ga, i * 4, none⟩ (.int .i64 b0)) (fun k e => by have := Option.some.inj e; simp only at this; omega)).kept (grown_setC _ ⟨ga, i * 4 + 1, none⟩ (.int .i64 b1)) (fun k e => by have := Option.some.inj e; simp only at this; omega)).kept (grown_setC _ ⟨ga, i * 4 + 2, none⟩ (.int .i64 a2)) (fun k e => by have := Option.some.inj e; simp only at this; omega)).kept (grown_setC _ ⟨ga, i * 4 + 3, none⟩ (.int .i64 b4)) (fun k e => by have := Option.some.inj e; simp only at this; omega))
        have hru := Lib.hid ((((hres.far (p := ⟨ga, i * 4, none⟩) (Ne.symm hn2) (.int .i64 b0)).far (p := ⟨ga, i * 4 + 1, none⟩) (Ne.symm hn2) (.int .i64 b1)).far (p := ⟨ga, i * 4 + 2, none⟩) (Ne.symm hn2) (.int .i64 a2)).far (p := ⟨ga, i * 4 + 3, none⟩) (Ne.symm hn2) (.int .i64 b4))
        have hbu := Lib.hid ((((hbox.far (p := ⟨ga, i * 4, none⟩) (Ne.symm hnb) (.int .i64 b0)).far (p := ⟨ga, i * 4 + 1, none⟩) (Ne.symm hnb) (.int .i64 b1)).far (p := ⟨ga, i * 4 + 2, none⟩) (Ne.symm hnb) (.int .i64 a2)).far (p := ⟨ga, i * 4 + 3, none⟩) (Ne.symm hnb) (.int .i64 b4))
        have hBu := Lib.hid ((((hB.setCell (p := ⟨ga, i * 4, none⟩) (by show w.heap.size ≤ ga; omega) (.int .i64 b0)).setCell (p := ⟨ga, i * 4 + 1, none⟩) (by show w.heap.size ≤ ga; omega) (.int .i64 b1)).setCell (p := ⟨ga, i * 4 + 2, none⟩) (by show w.heap.size ≤ ga; omega) (.int .i64 a2)).setCell (p := ⟨ga, i * 4 + 3, none⟩) (by show w.heap.size ≤ ga; omega) (.int .i64 b4))
        have hup := Lib.hid hup
        clear hS hres hbox hB hO hfz
        go_wp2
        refine wp_region_E (fun w' => w'.cell? ⟨bg, 1, none⟩ = some (.slice (some ⟨ga, 0, none⟩) gp.length cc) ∧ w'.cell? ⟨ga, kk * 4, none⟩ = some (.int .i64 b0) ∧ w'.cell? ⟨ga, kk * 4 + 1, none⟩ = some (.int .i64 b1) ∧ w'.cell? ⟨ga, kk * 4 + 3, none⟩ = some (.int .i64 b4) ∧ w'.cell? ⟨ga, i * 4 + 2, none⟩ = some (.int .i64 a2)) 29 (by kernel_rfl) ?_
        have hS0 : (fun w' : World => w'.cell? ⟨bg, 1, none⟩ = some (.slice (some ⟨ga, 0, none⟩) gp.length cc) ∧ w'.cell? ⟨ga, kk * 4, none⟩ = some (.int .i64 b0) ∧ w'.cell? ⟨ga, kk * 4 + 1, none⟩ = some (.int .i64 b1) ∧ w'.cell? ⟨ga, kk * 4 + 3, none⟩ = some (.int .i64 b4) ∧ w'.cell? ⟨ga, i * 4 + 2, none⟩ = some (.int .i64 a2)) wb.drew := ⟨e1, y0, y1, y3, x2⟩
        refine wpAnyE_take (i := 0) (v := ?_) rfl (by kernel_rfl) (by kernel_rfl) (by kernel_rfl) (by kernel_rfl) (by kernel_rfl) (fun _ _ _ h => h) hS0 (by rfl) ?_ ?_
        rotate_left
        · intro w9 hSw
          try dsimp only at hSw
          obtain ⟨s0, s1, s2, s3, s4⟩ := hSw
          go_simp
          try with_reducible rfl
        try simp only [Act.put, List.setIfInBounds_toArray, List.set_cons_zero, List.set_cons_succ]
        refine wpAnyE_take (i := 1) (v := ?_) rfl (by kernel_rfl) (by kernel_rfl) (by kernel_rfl) (by kernel_rfl) (by kernel_rfl) (fun _ _ _ h => h) hS0 (by rfl) ?_ ?_
        rotate_left
        · intro w9 hSw
          try dsimp only at hSw
          obtain ⟨s0, s1, s2, s3, s4⟩ := hSw
          go_simp
          try with_reducible rfl
        try simp only [Act.put, List.setIfInBounds_toArray, List.set_cons_zero, List.set_cons_succ]
        refine wpAnyE_take (i := 2) (v := ?_) rfl (by kernel_rfl) (by kernel_rfl) (by kernel_rfl) (by kernel_rfl) (by kernel_rfl) (fun _ _ _ h => h) hS0 (by rfl) ?_ ?_
        rotate_left
        · intro w9 hSw
          try dsimp only at hSw
          obtain ⟨s0, s1, s2, s3, s4⟩ := hSw
          go_simp
          try with_reducible rfl
        try simp only [Act.put, List.setIfInBounds_toArray, List.set_cons_zero, List.set_cons_succ]
        refine wpAnyE_take (i := 3) (v := ?_) rfl (by kernel_rfl) (by kernel_rfl) (by kernel_rfl) (by kernel_rfl) (by kernel_rfl) (fun _ _ _ h => h) hS0 (by rfl) ?_ ?_
        rotate_left
        · intro w9 hSw
          try dsimp only at hSw
          obtain ⟨s0, s1, s2, s3, s4⟩ := hSw
          go_simp
          try with_reducible rfl
        try simp only [Act.put, List.setIfInBounds_toArray, List.set_cons_zero, List.set_cons_succ]
        refine wpAnyE_take (i := 4) (v := ?_) rfl (by kernel_rfl) (by kernel_rfl) (by kernel_rfl) (by kernel_rfl) (by kernel_rfl) (fun _ _ _ h => h) hS0 (by rfl) ?_ ?_
        rotate_left
        · intro w9 hSw
          try dsimp only at hSw
          obtain ⟨s0, s1, s2, s3, s4⟩ := hSw
          go_simp
          try with_reducible rfl
        try simp only [Act.put, List.setIfInBounds_toArray, List.set_cons_zero, List.set_cons_succ]
        refine wpAnyE_take (i := 5) (v := ?_) rfl (by kernel_rfl) (by kernel_rfl) (by kernel_rfl) (by kernel_rfl) (by kernel_rfl) (fun _ _ _ h => h) hS0 (by rfl) ?_ ?_
        rotate_left
        · intro w9 hSw
          try dsimp only at hSw
          obtain ⟨s0, s1, s2, s3, s4⟩ := hSw
          go_simp
          try with_reducible rfl
        try simp only [Act.put, List.setIfInBounds_toArray, List.set_cons_zero, List.set_cons_succ]
        refine wpAnyE_take (i := 6) (v := ?_) rfl (by kernel_rfl) (by kernel_rfl) (by kernel_rfl) (by kernel_rfl) (by kernel_rfl) (fun _ _ _ h => h) hS0 (by rfl) ?_ ?_
        rotate_left
        · intro w9 hSw
          try dsimp only at hSw
          obtain ⟨s0, s1, s2, s3, s4⟩ := hSw
          go_simp
          try with_reducible rfl
        try simp only [Act.put, List.setIfInBounds_toArray, List.set_cons_zero, List.set_cons_succ]
        refine wpAnyE_take (i := 7) (v := ?_) rfl (by kernel_rfl) (by kernel_rfl) (by kernel_rfl) (by kernel_rfl) (by kernel_rfl) (fun _ _ _ h => h) hS0 (by rfl) ?_ ?_
        rotate_left
        · intro w9 hSw
          try dsimp only at hSw
          obtain ⟨s0, s1, s2, s3, s4⟩ := hSw
          go_simp
          try with_reducible rfl
        try simp only [Act.put, List.setIfInBounds_toArray, List.set_cons_zero, List.set_cons_succ]
        refine wpAnyE_take (i := 8) (v := ?_) rfl (by kernel_rfl) (by kernel_rfl) (by kernel_rfl) (by kernel_rfl) (by kernel_rfl) (fun _ _ _ h => h) hS0 (by rfl) ?_ ?_
        rotate_left
        · intro w9 hSw
          try dsimp only at hSw
          obtain ⟨s0, s1, s2, s3, s4⟩ := hSw
          go_simp
          try with_reducible rfl
        try simp only [Act.put, List.setIfInBounds_toArray, List.set_cons_zero, List.set_cons_succ]
        refine wpAnyE_take (i := 9) (v := ?_) rfl (by kernel_rfl) (by kernel_rfl) (by kernel_rfl) (by kernel_rfl) (by kernel_rfl) (fun _ _ _ h => h) hS0 (by rfl) ?_ ?_
        rotate_left
        · intro w9 hSw
          try dsimp only at hSw
          obtain ⟨s0, s1, s2, s3, s4⟩ := hSw
          go_simp
          try with_reducible rfl
        try simp only [Act.put, List.setIfInBounds_toArray, List.set_cons_zero, List.set_cons_succ]
        refine wpAnyE_take (i := 10) (v := ?_) rfl (by kernel_rfl) (by kernel_rfl) (by kernel_rfl) (by kernel_rfl) (by kernel_rfl) (fun _ _ _ h => h) hS0 (by rfl) ?_ ?_
        rotate_left
        · intro w9 hSw
          try dsimp only at hSw
          obtain ⟨s0, s1, s2, s3, s4⟩ := hSw
          go_simp
          try with_reducible rfl
        try simp only [Act.put, List.setIfInBounds_toArray, List.set_cons_zero, List.set_cons_succ]
        refine wpAnyE_take (i := 11) (v := ?_) rfl (by kernel_rfl) (by kernel_rfl) (by kernel_rfl) (by kernel_rfl) (by kernel_rfl) (fun _ _ _ h => h) hS0 (by rfl) ?_ ?_
        rotate_left
        · intro w9 hSw
          try dsimp only at hSw
          obtain ⟨s0, s1, s2, s3, s4⟩ := hSw
          go_simp
          try with_reducible rfl
        try simp only [Act.put, List.setIfInBounds_toArray, List.set_cons_zero, List.set_cons_succ]
        refine wpAnyE_take (i := 12) (v := ?_) rfl (by kernel_rfl) (by kernel_rfl) (by kernel_rfl) (by kernel_rfl) (by kernel_rfl) (fun _ _ _ h => h) hS0 (by rfl) ?_ ?_
        rotate_left
        · intro w9 hSw
          try dsimp only at hSw
          obtain ⟨s0, s1, s2, s3, s4⟩ := hSw
          go_simp
          try with_reducible rfl
        try simp only [Act.put, List.setIfInBounds_toArray, List.set_cons_zero, List.set_cons_succ]
        refine wpAnyE_take (i := 13) (v := ?_) rfl (by kernel_rfl) (by kernel_rfl) (by kernel_rfl) (by kernel_rfl) (by kernel_rfl) (fun _ _ _ h => h) hS0 (by rfl) ?_ ?_
        rotate_left
        · intro w9 hSw
          try dsimp only at hSw
          obtain ⟨s0, s1, s2, s3, s4⟩ := hSw
          go_simp
          try with_reducible rfl
        try simp only [Act.put, List.setIfInBounds_toArray, List.set_cons_zero, List.set_cons_succ]
        refine wpAnyE_take (i := 14) (v := ?_) rfl (by kernel_rfl) (by kernel_rfl) (by kernel_rfl) (by kernel_rfl) (by kernel_rfl) (fun _ _ _ h => h) hS0 (by rfl) ?_ ?_
        rotate_left
        · intro w9 hSw
          try dsimp only at hSw
          obtain ⟨s0, s1, s2, s3, s4⟩ := hSw
          go_simp
          try with_reducible rfl
        try simp only [Act.put, List.setIfInBounds_toArray, List.set_cons_zero, List.set_cons_succ]
        refine wpAnyE_take (i := 15) (v := ?_) rfl (by kernel_rfl) (by kernel_rfl) (by kernel_rfl) (by kernel_rfl) (by kernel_rfl) (fun _ _ _ h => h) hS0 (by rfl) ?_ ?_
        rotate_left
        · intro w9 hSw
          try dsimp only at hSw
          obtain ⟨s0, s1, s2, s3, s4⟩ := hSw
          go_simp
          try with_reducible rfl
        try simp only [Act.put, List.setIfInBounds_toArray, List.set_cons_zero, List.set_cons_succ]
        refine wpAnyE_take (i := 16) (v := ?_) rfl (by kernel_rfl) (by kernel_rfl) (by kernel_rfl) (by kernel_rfl) (by kernel_rfl) (fun _ _ _ h => h) hS0 (by rfl) ?_ ?_
        rotate_left
        · intro w9 hSw
          try dsimp only at hSw
          obtain ⟨s0, s1, s2, s3, s4⟩ := hSw
          go_simp
          try with_reducible rfl
        try simp only [Act.put, List.setIfInBounds_toArray, List.set_cons_zero, List.set_cons_succ]
        refine wpAnyE_take (i := 17) (v := ?_) rfl (by kernel_rfl) (by kernel_rfl) (by kernel_rfl) (by kernel_rfl) (by kernel_rfl) (fun _ _ _ h => h) hS0 (by rfl) ?_ ?_
        rotate_left
        · intro w9 hSw
          try dsimp only at hSw
          obtain ⟨s0, s1, s2, s3, s4⟩ := hSw
          go_simp
          try with_reducible rfl
        try simp only [Act.put, List.setIfInBounds_toArray, List.set_cons_zero, List.set_cons_succ]
        refine wpAnyE_take (i := 18) (v := ?_) rfl (by kernel_rfl) (by kernel_rfl) (by kernel_rfl) (by kernel_rfl) (by kernel_rfl) (fun _ _ _ h => h) hS0 (by rfl) ?_ ?_
        rotate_left
        · intro w9 hSw
          try dsimp only at hSw
          obtain ⟨s0, s1, s2, s3, s4⟩ := hSw
          go_simp
          try with_reducible rfl
        try simp only [Act.put, List.setIfInBounds_toArray, List.set_cons_zero, List.set_cons_succ]
        refine wpAnyE_take (i := 19) (v := ?_) rfl (by kernel_rfl) (by kernel_rfl) (by kernel_rfl) (by kernel_rfl) (by kernel_rfl) (fun _ _ _ h => h) hS0 (by rfl) ?_ ?_
        rotate_left
        · intro w9 hSw
          try dsimp only at hSw
          obtain ⟨s0, s1, s2, s3, s4⟩ := hSw
          go_simp
          try with_reducible rfl
        try simp only [Act.put, List.setIfInBounds_toArray, List.set_cons_zero, List.set_cons_succ]
        refine wpAnyE_take (i := 20) (v := ?_) rfl (by kernel_rfl) (by kernel_rfl) (by kernel_rfl) (by kernel_rfl) (by kernel_rfl) (fun _ _ _ h => h) hS0 (by rfl) ?_ ?_
        rotate_left
        · intro w9 hSw
          try dsimp only at hSw
          obtain ⟨s0, s1, s2, s3, s4⟩ := hSw
          go_simp
          try with_reducible rfl
        try simp only [Act.put, List.setIfInBounds_toArray, List.set_cons_zero, List.set_cons_succ]
        refine wpAnyE_take (i := 21) (v := ?_) rfl (by kernel_rfl) (by kernel_rfl) (by kernel_rfl) (by kernel_rfl) (by kernel_rfl) (fun _ _ _ h => h) hS0 (by rfl) ?_ ?_
        rotate_left
        · intro w9 hSw
          try dsimp only at hSw
          obtain ⟨s0, s1, s2, s3, s4⟩ := hSw
          go_simp
          try with_reducible rfl
        try simp only [Act.put, List.setIfInBounds_toArray, List.set_cons_zero, List.set_cons_succ]
        refine wpAnyE_take (i := 22) (v := ?_) rfl (by kernel_rfl) (by kernel_rfl) (by kernel_rfl) (by kernel_rfl) (by kernel_rfl) (fun _ _ _ h => h) hS0 (by rfl) ?_ ?_
        rotate_left
        · intro w9 hSw
          try dsimp only at hSw
          obtain ⟨s0, s1, s2, s3, s4⟩ := hSw
          go_simp
          try with_reducible rfl
        try simp only [Act.put, List.setIfInBounds_toArray, List.set_cons_zero, List.set_cons_succ]
        refine wpAnyE_take (i := 23) (v := ?_) rfl (by kernel_rfl) (by kernel_rfl) (by kernel_rfl) (by kernel_rfl) (by kernel_rfl) (fun _ _ _ h => h) hS0 (by rfl) ?_ ?_
        rotate_left
        · intro w9 hSw
          try dsimp only at hSw
          obtain ⟨s0, s1, s2, s3, s4⟩ := hSw
          go_simp
          try with_reducible rfl
        try simp only [Act.put, List.setIfInBounds_toArray, List.set_cons_zero, List.set_cons_succ]
        refine wpAnyE_take (i := 24) (v := ?_) rfl (by kernel_rfl) (by kernel_rfl) (by kernel_rfl) (by kernel_rfl) (by kernel_rfl) (fun _ _ _ h => h) hS0 (by rfl) ?_ ?_
        rotate_left
        · intro w9 hSw
          try dsimp only at hSw
          obtain ⟨s0, s1, s2, s3, s4⟩ := hSw
          go_simp
          try with_reducible rfl
        try simp only [Act.put, List.setIfInBounds_toArray, List.set_cons_zero, List.set_cons_succ]
        refine wpAnyE_take (i := 25) (v := ?_) rfl (by kernel_rfl) (by kernel_rfl) (by kernel_rfl) (by kernel_rfl) (by kernel_rfl) (fun _ _ _ h => h) hS0 (by rfl) ?_ ?_
        rotate_left
        · intro w9 hSw
          try dsimp only at hSw
          obtain ⟨s0, s1, s2, s3, s4⟩ := hSw
          go_simp
          try with_reducible rfl
        try simp only [Act.put, List.setIfInBounds_toArray, List.set_cons_zero, List.set_cons_succ]
        refine wpAnyE_take (i := 26) (v := ?_) rfl (by kernel_rfl) (by kernel_rfl) (by kernel_rfl) (by kernel_rfl) (by kernel_rfl) (fun _ _ _ h => h) hS0 (by rfl) ?_ ?_
        rotate_left
        · intro w9 hSw
          try dsimp only at hSw
          obtain ⟨s0, s1, s2, s3, s4⟩ := hSw
          go_simp
          try with_reducible rfl
        try simp only [Act.put, List.setIfInBounds_toArray, List.set_cons_zero, List.set_cons_succ]
        refine wpAnyE_one (i := 27) rfl (by kernel_rfl) (fun K hK => ?_)
        go_simp
        refine hK.out _ _ (fun _ => ⟨e1, y0, y1, y3, x2⟩) ?_
        clear hK K
        try simp only [Act.put, List.setIfInBounds_toArray, List.set_cons_zero, List.set_cons_succ]
        refine wpAnyE_one (i := 28) rfl (by kernel_rfl) (fun K hK => ?_)
        go_simp
        refine hK.out _ _ (fun _ => ⟨e1, y0, y1, y3, x2⟩) ?_
        clear hK K
        try simp only [Act.put, List.setIfInBounds_toArray, List.set_cons_zero, List.set_cons_succ]
        refine wpAnyE_one (i := 29) rfl (by kernel_rfl) (fun K hK => ?_)
        go_simp
        refine hK.out _ _ (fun h => absurd rfl h) ?_
        clear hK K
        try simp only [Act.put, List.setIfInBounds_toArray, List.set_cons_zero, List.set_cons_succ]
        refine wpAnyE_done (by kernel_rfl) ?_
        clear hS0 x0 x1 x2 x3 y0 y1 y2 y3 e0 e1 f0 f1 f2 f3 lb
        go_wp2
        go_roundw
        case rel => exact ⟨i + 1, gn, by go_num, by omega, by omega, hlen2, hup.out, hSu.out, hru.out, hbu.out, hBu.out.drew⟩
        case measure => simp [intOf]; omega
      · have q3 : (z3 == 0) = false := by simpa using hz
        clear hz
        go_wp2
        go_roundw
        case rel => exact ⟨i + 1, gr, by go_num, by omega, by omega, hgr, hO, hS, hres, hbox, hB⟩
        case measure => simp [intOf]; omega
    · have f0 := hres.frozen 0
      have f1 := hres.frozen 1
      have lb2 := hres.lt
      obtain ⟨r0, r1⟩ := hres.c2
      have hO' := hO.rebase hwB
      have hq1 := Lib.hid (own_far (own_far hO' (p := ⟨b2, 0, none⟩) (hO'.ne_blk hres (by decide)) (.int .i64 ge)) (p := ⟨b2, 1, none⟩) (hO'.ne_blk hres (by decide)) (.slice A gp.length c))
      have hq3 := Lib.hid ((hB.setCell (p := ⟨b2, 0, none⟩) hb2w (.int .i64 ge)).setCell (p := ⟨b2, 1, none⟩) hb2w (.slice A gp.length c))
      have hbx := (hbox.far (p := ⟨b2, 0, none⟩) (Ne.symm hne) (.int .i64 ge)).far (p := ⟨b2, 1, none⟩) (Ne.symm hne) (.slice A gp.length c)
      clear hO hO' hS hB hbx
      by_cases hig2 : i < gp.length
      · have i1 : (i : Int) < (gp.length : Int) := by omega
        have i2 : ¬ (i : Int) < 20 := by omega
        clear hlt
        go_wp2
        refine bodyPost_ret (v := .agg #[.int .i64 ge, .slice A gp.length c]) (by simp [results, Try.results42, go_sem, r0, r1]) rfl ⟨ge, gr, _, rfl, by omega, by omega, by omega, hq1.out, hq3.out⟩
      · have i1 : ¬ (i : Int) < (gp.length : Int) := by omega
        clear hlt
        go_wp2
        refine bodyPost_ret (v := .agg #[.int .i64 ge, .slice A gp.length c]) (by simp [results, Try.results42, go_sem, r0, r1]) rfl ⟨ge, gr, _, rfl, by omega, by omega, by omega, hq1.out, hq3.out⟩
end Go.Proofs.Ytbdklhahbeiffaa
