/-
  The walk of the reference's CompileText.
-/
import Derived.Test.YtcoomogabicfnaaGreatDoorLinT
import Derived.Test.YtcoomogabicfnaaGreatDoorLinC
namespace Go.Proofs.YtcoomogabicfnaaGreatDoor
open Go.RowKit
set_option linter.unusedVariables false
set_option linter.unusedSimpArgs false
set_option maxHeartbeats 16000000 in
set_option maxRecDepth 100000 in
theorem spec_CompileText (s : ByteArray) (w : World) (hs : s.size ≤ 100000000) :
    Calls Tryz.prog 17 #[.string s] w fun r w' => ∃ A B, r = .returned (.tuple #[.agg #[.int .i64 (compF s).ev, A], B, .int .i64 (compF s).ln, .int .i64 (compF s).cd]) ∧ Own Place.cells 4 57 w' w.heap.size A (compF s).pl ∧ Own strCell 1 9 w' w.heap.size B (compF s).nm ∧ Below w.heap.size w w' := by
  obtain ⟨R, hR⟩ : ∃ R, compF s = R := ⟨_, rfl⟩
  rw [hR]
  have hR := Lib.hid hR
  have hbox := Blk.newAt w (t := 26) (cs := #[.int .i64 0, .slice none 0 0]) _ rfl
  have hB0 : Below w.heap.size w (w.alloc (.cells #[.int .i64 0, .slice none 0 0] 26)) := (Below.refl _ _).alloc (Nat.le_refl _) _
  obtain ⟨k0, k1⟩ := hbox.c2
  obtain ⟨f0, f1⟩ := hbox.f2
  have l0 := hbox.lt
  by_cases hbig : 2000 < s.size
  · have hN : Hid ((⟨0, [], [], 0, 3⟩ : Comp) = R) := by
      show _ = _
      rw [← hR.out]
      unfold compF
      rw [if_pos hbig]
    have hbig2 : (2000 : Int) < (s.size : Int) := by omega
    go_enter Tryz.func17, Tryz.ntmps17
    go_wp2
    have r0 := ((hbox.set2a (u := .int .i64 0)).set2b (u := .slice none 0 0)).c2
    refine bodyPost_ret (v := .tuple #[.agg #[.int .i64 0, .slice none 0 0], .slice none 0 0, .int .i64 0, .int .i64 3]) (by simp [results, Tryz.results17, go_sem, k0, k1, r0.1, r0.2]) rfl ?_
    rw [← hN.out]
    exact ⟨_, _, rfl, Own.nil, Own.nil, by first | exact hB0 | exact (hB0.setCell (Nat.le_refl _) _).setCell (Nat.le_refl _) _⟩
  · have hbig2 : ¬ (2000 : Int) < (s.size : Int) := by omega
    have hWs := split_size 10 s
    have hWn := splitF_ne 10 s
    have hcm : Hid (compF s = if (splitF 10 s).getLastD ⟨#[]⟩ ≠ ⟨#[]⟩ then ⟨0, [], [], 0, 6⟩ else linesF [] [] 0 (splitF 10 s).dropLast) := by
      show _ = _
      unfold compF
      rw [if_neg hbig]
    have hcm := hcm.out.symm.trans hR.out
    go_enter Tryz.func17, Tryz.ntmps17
    go_wp2_with fail
    refine (spec_l01Split s 10 10 (by decide) _ hs).mono ?_
    rintro e w1 ⟨uw, rfl, hW, hB1⟩
    replace hbox := hbox.now hB1
    replace hB0 := hB0.trans (hB1.mono hB0.size)
    replace hW := hW.rebase (base' := w.heap.size) (by simp)
    generalize splitF 10 s = W at *
    obtain ⟨m, hm⟩ : ∃ m, W.length = m + 1 := ⟨W.length - 1, by have := List.length_pos_iff.2 hWn; omega⟩
    obtain ⟨WA, wc, rfl⟩ := own_shape_n hW hm
    have hcap : m + 1 ≤ wc := by obtain ⟨_, _, A', c', hv, hc, _⟩ := hW.lst; injection hv with _ _ hcc; omega
    have hmx : m + 1 ≤ 9223372036854775807 := by have := hW.lst.len_le; omega
    obtain ⟨wb, wo, hWA, hwb, cw⟩ := strs_at hW.lst m (by omega)
    subst hWA
    have hld : W.getLastD ⟨#[]⟩ = W[m]'(by omega) := by
      have em : W.length - 1 = m := by omega
      rw [List.getLastD_eq_getLast?, List.getLast?_eq_getElem?, em, List.getElem?_eq_getElem (by omega)]
      rfl
    have hdl : W.dropLast = W.take m := by rw [List.dropLast_eq_take, hm, Nat.add_sub_cancel]
    rw [hld, hdl] at hcm
    obtain ⟨x, hx⟩ : ∃ x, W[m]'(by omega) = x := ⟨_, rfl⟩
    rw [hx] at hcm cw
    clear hx hld hdl hB1 k0 k1 f0 f1 l0
    obtain ⟨k0, k1⟩ := hbox.c2
    obtain ⟨f0, f1⟩ := hbox.f2
    have l0 := hbox.lt
    by_cases hx0 : x.size = 0
    · obtain rfl := size_empty hx0
      rw [if_neg (by simp)] at hcm
      have hcmH := Lib.hid hcm
      have hT := Lst.take (f := strCell) (fun _ => rfl) hW.lst m (by omega)
      have hTs : Hid (∀ y ∈ W.take m, y.size ≤ s.size) := fun y hy => hWs y (List.mem_of_mem_take hy)
      have hTl : (W.take m).length = m := by rw [List.length_take, hm]; omega
      generalize W.take m = V at *
      clear hWs hWn hcm hx0
      have hgw : w.heap.size < w1.heap.size := l0
      clear k0 k1 f0 f1 l0
      go_wp2
      have hbx0 : Blk (((w1.alloc (.cells #[] 57)).alloc (.cells #[] 9)).alloc (.cells #[.int .i64 0, .slice (some ⟨w1.heap.size, 0, none⟩) 0 0] 26)) (w1.heap.size + 1 + 1) 26 #[.int .i64 0, .slice (some ⟨w1.heap.size, 0, none⟩) 0 0] := Blk.newAt _ _ (by simp)
      have hp0 := ((own_new0 Place.cells 4 w1 57 w1.heap.size (Nat.le_refl _) (α := Place)).alloc (.cells #[] 9)).alloc (.cells #[.int .i64 0, .slice (some ⟨w1.heap.size, 0, none⟩) 0 0] 26)
      have hn0 := (own_new0 strCell 1 (w1.alloc (.cells #[] 57)) 9 w1.heap.size (by simp) (α := ByteArray)).alloc (.cells #[.int .i64 0, .slice (some ⟨w1.heap.size, 0, none⟩) 0 0] 26)
      rw [show (w1.alloc (.cells #[] 57)).heap.size = w1.heap.size + 1 by simp] at hn0
      have hB3 : Below w1.heap.size w1 (((w1.alloc (.cells #[] 57)).alloc (.cells #[] 9)).alloc (.cells #[.int .i64 0, .slice (some ⟨w1.heap.size, 0, none⟩) 0 0] 26)) := (((Below.refl _ _).alloc (Nat.le_refl _) _).alloc (by simp) _).alloc (by simp; omega) _
      generalize ((w1.alloc (.cells #[] 57)).alloc (.cells #[] 9)).alloc (.cells #[.int .i64 0, .slice (some ⟨w1.heap.size, 0, none⟩) 0 0] 26) = W3 at *
      go_loopw [8, 9, 10, 11, 12] (fun nv i _ _ _ wr => ∃ (k : Nat) (N : List ByteArray) (G : List Place) (A : Value), k ≤ m ∧ i = .int .i64 k ∧ Hid (LineOk N G) ∧ Hid (linesF N G k (V.drop k) = R) ∧ Blk wr (w1.heap.size + 1 + 1) 26 #[.int .i64 N.length, A] ∧ Own Place.cells 4 57 wr w1.heap.size A G ∧ Own strCell 1 9 wr w1.heap.size nv N ∧ Below w1.heap.size w1 wr) (fun _ i _ _ _ _ => m - (intOf i).toNat)
      case atStart => exact ⟨0, [], [], _, Nat.zero_le _, rfl, lineOk_nil, hcmH.out, hbx0, hp0, hn0, hB3⟩
      case round =>
        obtain ⟨k, N, G, A, hk, rfl, hL, hA, hbg, hP, hNm, hB⟩ := hrel
        obtain ⟨PA, pc, rfl⟩ := hP.shape
        obtain ⟨NA, nc, rfl⟩ := hNm.shape
        have wk : IntKind.i64.wrap ((k : Int) + 1) = (k : Int) + 1 := IntWalk.i64_in _ (by omega)
        by_cases hlt : k < m
        · obtain ⟨b1, o1, hA1, hb1, c1⟩ := strs_at hT k (by omega)
          injection hA1 with hA1
          injection hA1 with hA1 hA2
          subst hA1
          subst hA2
          replace c1 := cell_keep c1 hB
          have hxs := hTs.out _ (List.getElem_mem (by omega : k < V.length))
          have i1 : (0 : Int) ≤ (k : Int) := by omega
          have i2 : (k : Int) < (m : Int) + 1 := by omega
          have i3 : (k : Int) + 1 < (m : Int) + 1 := by omega
          have hdr := List.drop_eq_getElem_cons (by omega : k < V.length)
          obtain ⟨x, hx⟩ : ∃ x, V[k]'(by omega) = x := ⟨_, rfl⟩
          rw [hx] at c1 hxs hdr
          have hA2 := hA.out
          rw [hdr] at hA2
          have hgo := Lib.hid (fun h => (lines_go (i := k) (r := V.drop (k + 1)) h).symm.trans hA2)
          have hstop := Lib.hid (fun h => (lines_stop (i := k) (r := V.drop (k + 1)) h).symm.trans hA2)
          have hlok := Lib.hid (fun h => lineF_ok hL.out (s := x) h)
          clear hx hdr hA2 hA
          go_wp2
          have hXd : Below wr.heap.size wr wr.drew := Below.drew (Below.refl _ _)
          replace hbg := hbg.now hXd
          replace hP := hP.now hXd
          replace hNm := hNm.now hXd
          replace hB := hB.trans (hXd.mono hB.size)
          replace c1 := cell_keep c1 hXd
          obtain ⟨k0, k1⟩ := hbg.c2
          refine wp_region_held_drew (S := fun w' => w'.cell? ⟨w1.heap.size + 1 + 1, 0, none⟩ = some (.int .i64 N.length) ∧ w'.cell? ⟨w1.heap.size + 1 + 1, 1, none⟩ = some (.slice PA G.length pc) ∧ w'.cell? ⟨wb, wo + k, none⟩ = some (.string x)) (by kernel_rfl) ⟨k0, k1, c1⟩ (fun hH => ?_)
          clear hXd
          generalize wr.drew = V0 at *
          have hbV := hB.size
          refine tkH 0 (v := ?_) rfl (fun _ _ _ h => h) (Or.inl ⟨by rfl, ?_⟩) hH ?_
          rotate_left
          · intro w9 hSw
            try dsimp only at hSw
            obtain ⟨s0, s1, s2⟩ := hSw
            go_simp
            try with_reducible rfl
          try simp only [Act.put, List.setIfInBounds_toArray, List.set_cons_zero, List.set_cons_succ]
          refine tkH 1 (v := ?_) rfl (fun _ _ _ h => h) (Or.inl ⟨by rfl, ?_⟩) hH ?_
          rotate_left
          · intro w9 hSw
            try dsimp only at hSw
            obtain ⟨s0, s1, s2⟩ := hSw
            go_simp
            try with_reducible rfl
          try simp only [Act.put, List.setIfInBounds_toArray, List.set_cons_zero, List.set_cons_succ]
          refine tkH 2 (v := ?_) rfl (fun _ _ _ h => h) (Or.inl ⟨by rfl, ?_⟩) hH ?_
          rotate_left
          · intro w9 hSw
            try dsimp only at hSw
            obtain ⟨s0, s1, s2⟩ := hSw
            go_simp
            try with_reducible rfl
          try simp only [Act.put, List.setIfInBounds_toArray, List.set_cons_zero, List.set_cons_succ]
          refine tkH 3 (v := ?_) rfl (fun _ _ _ h => h) (Or.inl ⟨by rfl, ?_⟩) hH ?_
          rotate_left
          · intro w9 hSw
            try dsimp only at hSw
            obtain ⟨s0, s1, s2⟩ := hSw
            go_simp
            try with_reducible rfl
          try simp only [Act.put, List.setIfInBounds_toArray, List.set_cons_zero, List.set_cons_succ]
          refine tkH 4 (v := ?_) rfl (fun _ _ _ h => h) (Or.inl ⟨by rfl, ?_⟩) hH ?_
          rotate_left
          · intro w9 hSw
            try dsimp only at hSw
            obtain ⟨s0, s1, s2⟩ := hSw
            go_simp
            try with_reducible rfl
          try simp only [Act.put, List.setIfInBounds_toArray, List.set_cons_zero, List.set_cons_succ]
          refine tkH 5 (v := ?_) rfl (fun _ _ _ h => h) (Or.inl ⟨by rfl, ?_⟩) hH ?_
          rotate_left
          · intro w9 hSw
            try dsimp only at hSw
            obtain ⟨s0, s1, s2⟩ := hSw
            go_simp
            try with_reducible rfl
          try simp only [Act.put, List.setIfInBounds_toArray, List.set_cons_zero, List.set_cons_succ]
          refine wpAnyH_ready (rs := [6, 11]) (by kernel_rfl) (by simp) ?_
          refine AllReadyH.cons rfl (fun K hK => ?_) (AllReadyH.cons rfl (fun K hK => ?_) AllReadyH.nil)
          · go_simp
            go_at_call 41
            refine (spec_l18Line w1.heap.size _ _ N G x V0 hP hNm hbV hL.out.few hL.out.fewG (by omega)).mono ?_
            rintro e5 w5 ⟨A', B', rfl, hA', hB', hBl⟩
            generalize lineF N G x = Q at *
            obtain ⟨cd, N', G'⟩ := Q
            dsimp only at hA' hB' hgo hstop hlok ⊢
            obtain ⟨PA', pc', rfl⟩ := hA'.shape
            obtain ⟨NA', nc', rfl⟩ := hB'.shape
            have y0 := cell_keep k0 hBl
            have y1 := cell_keep k1 hBl
            have y2 := cell_keep c1 hBl
            replace hbg := hbg.now hBl
            replace hB := hB.trans (hBl.mono hbV)
            clear k0 k1 c1 hBl hP hNm
            refine hK.out _ _ ⟨y0, y1, y2⟩ (fun hH => ?_)
            clear hK K
            try simp only [Act.put, List.setIfInBounds_toArray, List.set_cons_zero, List.set_cons_succ]
            refine tkH 7 (v := ?_) rfl (fun _ _ _ h => h) (Or.inl ⟨by rfl, ?_⟩) hH ?_
            rotate_left
            · intro w9 hSw
              try dsimp only at hSw
              obtain ⟨s0, s1, s2⟩ := hSw
              go_simp
              try with_reducible rfl
            try simp only [Act.put, List.setIfInBounds_toArray, List.set_cons_zero, List.set_cons_succ]
            refine tkH 8 (v := ?_) rfl (fun _ _ _ h => h) (Or.inl ⟨by rfl, ?_⟩) hH ?_
            rotate_left
            · intro w9 hSw
              try dsimp only at hSw
              obtain ⟨s0, s1, s2⟩ := hSw
              go_simp
              try with_reducible rfl
            try simp only [Act.put, List.setIfInBounds_toArray, List.set_cons_zero, List.set_cons_succ]
            refine tkH 9 (v := ?_) rfl (fun _ _ _ h => h) (Or.inl ⟨by rfl, ?_⟩) hH ?_
            rotate_left
            · intro w9 hSw
              try dsimp only at hSw
              obtain ⟨s0, s1, s2⟩ := hSw
              go_simp
              try with_reducible rfl
            try simp only [Act.put, List.setIfInBounds_toArray, List.set_cons_zero, List.set_cons_succ]
            refine tkH 10 (v := ?_) rfl (fun _ _ _ h => h) (Or.inl ⟨by rfl, ?_⟩) hH ?_
            rotate_left
            · intro w9 hSw
              try dsimp only at hSw
              obtain ⟨s0, s1, s2⟩ := hSw
              go_simp
              try with_reducible rfl
            try simp only [Act.put, List.setIfInBounds_toArray, List.set_cons_zero, List.set_cons_succ]
            refine wpAnyH_ready (rs := [11]) (by kernel_rfl) (by simp) ?_
            refine AllReadyH.cons rfl (fun K hK => ?_) AllReadyH.nil
            go_simp
            have hZ : Below w5.heap.size w5 (w5.alloc (.cells #[.int .i64 0, .slice none 0 0] 26)) := (Below.refl _ _).alloc (Nat.le_refl _) _
            have k0 := cell_keep y0 hZ
            have k1 := cell_keep y1 hZ
            have c1 := cell_keep y2 hZ
            clear hZ
            refine hK.out _ _ ⟨k0, k1, c1⟩ (fun hH => ?_)
            clear hK K
            try simp only [Act.put, List.setIfInBounds_toArray, List.set_cons_zero, List.set_cons_succ]
            refine wpAnyH_ready (rs := [12]) (by kernel_rfl) (by simp) ?_
            refine AllReadyH.cons rfl (fun K hK => ?_) AllReadyH.nil
            clear k0 k1 c1
            go_simp
            have hZ : Below w5.heap.size w5 (w5.alloc (.cells #[.int .i64 N'.length, .slice PA' G'.length pc'] 26)) := (Below.refl _ _).alloc (Nat.le_refl _) _
            have k0 := cell_keep y0 hZ
            have k1 := cell_keep y1 hZ
            have c1 := cell_keep y2 hZ
            refine hK.out _ _ ⟨k0, k1, c1⟩ (fun hH => ?_)
            clear hK K
            try simp only [Act.put, List.setIfInBounds_toArray, List.set_cons_zero, List.set_cons_succ]
            refine tkH 13 (v := ?_) rfl (fun _ _ _ h => h) (Or.inl ⟨by rfl, ?_⟩) hH ?_
            rotate_left
            · intro w9 hSw
              try dsimp only at hSw
              obtain ⟨s0, s1, s2⟩ := hSw
              go_simp
              try with_reducible rfl
            try simp only [Act.put, List.setIfInBounds_toArray, List.set_cons_zero, List.set_cons_succ]
            refine tkH 14 (v := ?_) rfl (fun _ _ _ h => h) (Or.inl ⟨by rfl, ?_⟩) hH ?_
            rotate_left
            · intro w9 hSw
              try dsimp only at hSw
              obtain ⟨s0, s1, s2⟩ := hSw
              go_simp
              try with_reducible rfl
            try simp only [Act.put, List.setIfInBounds_toArray, List.set_cons_zero, List.set_cons_succ]
            refine wpAnyH_done (by kernel_rfl) ?_ _
            have hq : Blk (w5.alloc (.cells #[.int .i64 N'.length, .slice PA' G'.length pc'] 26)) w5.heap.size 26 #[.int .i64 N'.length, .slice PA' G'.length pc'] := Blk.newAt w5 _ rfl
            replace hbg := hbg.now hZ
            replace hA' := hA'.now hZ
            replace hB' := hB'.now hZ
            have hBz := hB.trans (hZ.mono hB.size)
            clear k0 k1 c1 y0 y1 y2 hZ hB hH
            generalize (w5.alloc (.cells #[.int .i64 N'.length, .slice PA' G'.length pc'] 26)) = Z at *
            by_cases hc : cd = 0
            · subst hc
              have hg1 := Lib.hid (hgo.out rfl)
              have hg2 := Lib.hid (hlok.out rfl)
              clear hgo hstop hlok
              obtain ⟨k0, k1⟩ := hbg.c2
              obtain ⟨f0, f1⟩ := hbg.f2
              have l0 := hbg.lt
              obtain ⟨z0, z1⟩ := hq.c2
              have hb2 := (hbg.set2a (u := .int .i64 N'.length)).set2b (u := .slice PA' G'.length pc')
              have hA2 := hA'.far2 hbg (by decide) (.int .i64 N'.length) (.slice PA' G'.length pc')
              have hN2 := hB'.far2 hbg (by decide) (.int .i64 N'.length) (.slice PA' G'.length pc')
              have hB2 := (hBz.setCell (p := ⟨w1.heap.size + 1 + 1, 0, none⟩) (by show w1.heap.size ≤ w1.heap.size + 1 + 1; omega) (.int .i64 N'.length)).setCell (p := ⟨w1.heap.size + 1 + 1, 1, none⟩) (by show w1.heap.size ≤ w1.heap.size + 1 + 1; omega) (.slice PA' G'.length pc')
              clear hbg hA' hB' hBz hq
              go_wp2
              go_roundw
              case rel => exact ⟨k + 1, N', G', _, hlt, by go_num, hg2, hg1, hb2, hA2, hN2, hB2⟩
              case measure => simp [intOf] <;> omega
            · have hN := Lib.hid (hstop.out hc)
              have hq0 : (cd != 0) = true := by simpa using hc
              have hbr := hbox.now hBz
              have hBr := hB0.trans (hBz.mono hB0.size)
              obtain ⟨k0, k1⟩ := hbr.c2
              obtain ⟨f0, f1⟩ := hbr.f2
              have l0 := hbr.lt
              have wk : IntKind.i64.wrap ((k : Int) + 1) = (k : Int) + 1 := IntWalk.i64_in _ (by omega)
              clear hgo hstop hlok hc hA' hB' hbg hq
              go_wp2
              have r0 := ((hbr.set2a (u := .int .i64 0)).set2b (u := .slice none 0 0)).c2
              refine bodyPost_ret (v := .tuple #[.agg #[.int .i64 0, .slice none 0 0], .slice none 0 0, .int .i64 ((k : Int) + 1), .int .i64 cd]) (by simp [results, Tryz.results17, go_sem, k0, k1, r0.1, r0.2]) rfl ?_
              rw [← hN.out]
              exact ⟨_, _, rfl, Own.nil, Own.nil, (hBr.setCell (Nat.le_refl _) _).setCell (Nat.le_refl _) _⟩
          · go_simp
            have hZ : Below V0.heap.size V0 (V0.alloc (.cells #[.int .i64 0, .slice none 0 0] 26)) := (Below.refl _ _).alloc (Nat.le_refl _) _
            have hq : Blk (V0.alloc (.cells #[.int .i64 0, .slice none 0 0] 26)) V0.heap.size 26 #[.int .i64 0, .slice none 0 0] := Blk.newAt V0 _ rfl
            have hbl : w1.heap.size + 1 + 1 < V0.heap.size := hbg.lt
            have hwl : wb < V0.heap.size := Nat.lt_of_lt_of_le hwb hbV
            have y0 := cell_keep k0 hZ
            have y1 := cell_keep k1 hZ
            have y2 := cell_keep c1 hZ
            replace hbg := hbg.now hZ
            replace hP := hP.now hZ
            replace hNm := hNm.now hZ
            replace hB := hB.trans (hZ.mono hbV)
            have hbV1 := hB.size
            clear k0 k1 c1 hZ
            refine hK.out _ _ ⟨y0, y1, y2⟩ (fun hH => ?_)
            clear hK K
            try simp only [Act.put, List.setIfInBounds_toArray, List.set_cons_zero, List.set_cons_succ]
            generalize V0.alloc (.cells #[.int .i64 0, .slice none 0 0] 26) = V1 at *
            refine wpAnyH_ready (rs := [6]) (by kernel_rfl) (by simp) ?_
            refine AllReadyH.cons rfl (fun K hK => ?_) AllReadyH.nil
            go_simp
            go_at_call 41
            refine (spec_l18Line w1.heap.size _ _ N G x V1 hP hNm hbV1 hL.out.few hL.out.fewG (by omega)).mono ?_
            rintro e5 w5 ⟨A', B', rfl, hA', hB', hBl⟩
            generalize lineF N G x = Q at *
            obtain ⟨cd, N', G'⟩ := Q
            dsimp only at hA' hB' hgo hstop hlok ⊢
            obtain ⟨PA', pc', rfl⟩ := hA'.shape
            obtain ⟨NA', nc', rfl⟩ := hB'.shape
            have k0 := cell_keep y0 hBl
            have k1 := cell_keep y1 hBl
            have c1 := cell_keep y2 hBl
            replace hbg := hbg.now hBl
            replace hq := hq.now hBl
            replace hB := hB.trans (hBl.mono hbV1)
            clear y0 y1 y2 hBl hP hNm
            refine hK.out _ _ ⟨k0, k1, c1⟩ (fun hH => ?_)
            clear hK K
            try simp only [Act.put, List.setIfInBounds_toArray, List.set_cons_zero, List.set_cons_succ]
            refine tkH 7 (v := ?_) rfl (fun _ _ _ h => h) (Or.inl ⟨by rfl, ?_⟩) hH ?_
            rotate_left
            · intro w9 hSw
              try dsimp only at hSw
              obtain ⟨s0, s1, s2⟩ := hSw
              go_simp
              try with_reducible rfl
            try simp only [Act.put, List.setIfInBounds_toArray, List.set_cons_zero, List.set_cons_succ]
            refine tkH 8 (v := ?_) rfl (fun _ _ _ h => h) (Or.inl ⟨by rfl, ?_⟩) hH ?_
            rotate_left
            · intro w9 hSw
              try dsimp only at hSw
              obtain ⟨s0, s1, s2⟩ := hSw
              go_simp
              try with_reducible rfl
            try simp only [Act.put, List.setIfInBounds_toArray, List.set_cons_zero, List.set_cons_succ]
            refine tkH 9 (v := ?_) rfl (fun _ _ _ h => h) (Or.inl ⟨by rfl, ?_⟩) hH ?_
            rotate_left
            · intro w9 hSw
              try dsimp only at hSw
              obtain ⟨s0, s1, s2⟩ := hSw
              go_simp
              try with_reducible rfl
            try simp only [Act.put, List.setIfInBounds_toArray, List.set_cons_zero, List.set_cons_succ]
            refine tkH 10 (v := ?_) rfl (fun _ _ _ h => h) (Or.inl ⟨by rfl, ?_⟩) hH ?_
            rotate_left
            · intro w9 hSw
              try dsimp only at hSw
              obtain ⟨s0, s1, s2⟩ := hSw
              go_simp
              try with_reducible rfl
            try simp only [Act.put, List.setIfInBounds_toArray, List.set_cons_zero, List.set_cons_succ]
            refine wpAnyH_ready (rs := [12]) (by kernel_rfl) (by simp) ?_
            refine AllReadyH.cons rfl (fun K hK => ?_) AllReadyH.nil
            obtain ⟨q0, q1⟩ := hq.c2
            obtain ⟨f0, f1⟩ := hq.f2
            have lq := hq.lt
            have hbg2 := (hbg.far (p := ⟨V0.heap.size, 0, none⟩) (by show w1.heap.size + 1 + 1 ≠ V0.heap.size; omega) (.int .i64 N'.length)).far (p := ⟨V0.heap.size, 1, none⟩) (by show w1.heap.size + 1 + 1 ≠ V0.heap.size; omega) (.slice PA' G'.length pc')
            obtain ⟨y0, y1⟩ := hbg2.c2
            have y2 : ((w5.setCell ⟨V0.heap.size, 0, none⟩ (.int .i64 N'.length)).setCell ⟨V0.heap.size, 1, none⟩ (.slice PA' G'.length pc')).cell? ⟨wb, wo + k, none⟩ = some (.string x) := ((World.cell?_setCell_far _ ⟨V0.heap.size, 1, none⟩ ⟨wb, wo + k, none⟩ _ (by show V0.heap.size ≠ wb; omega)).trans (World.cell?_setCell_far _ ⟨V0.heap.size, 0, none⟩ ⟨wb, wo + k, none⟩ _ (by show V0.heap.size ≠ wb; omega))).trans c1
            go_simp
            refine hK.out _ _ ⟨y0, y1, y2⟩ (fun hH => ?_)
            clear hK K
            try simp only [Act.put, List.setIfInBounds_toArray, List.set_cons_zero, List.set_cons_succ]
            refine tkH 13 (v := ?_) rfl (fun _ _ _ h => h) (Or.inl ⟨by rfl, ?_⟩) hH ?_
            rotate_left
            · intro w9 hSw
              try dsimp only at hSw
              obtain ⟨s0, s1, s2⟩ := hSw
              go_simp
              try with_reducible rfl
            try simp only [Act.put, List.setIfInBounds_toArray, List.set_cons_zero, List.set_cons_succ]
            refine tkH 14 (v := ?_) rfl (fun _ _ _ h => h) (Or.inl ⟨by rfl, ?_⟩) hH ?_
            rotate_left
            · intro w9 hSw
              try dsimp only at hSw
              obtain ⟨s0, s1, s2⟩ := hSw
              go_simp
              try with_reducible rfl
            try simp only [Act.put, List.setIfInBounds_toArray, List.set_cons_zero, List.set_cons_succ]
            refine wpAnyH_done (by kernel_rfl) ?_ _
            have hA2 := hA'.far2 hq (by decide) (.int .i64 N'.length) (.slice PA' G'.length pc')
            have hN2 := hB'.far2 hq (by decide) (.int .i64 N'.length) (.slice PA' G'.length pc')
            have hBz := (hB.setCell (p := ⟨V0.heap.size, 0, none⟩) hbV (.int .i64 N'.length)).setCell (p := ⟨V0.heap.size, 1, none⟩) hbV (.slice PA' G'.length pc')
            replace hq := (hq.set2a (u := .int .i64 N'.length)).set2b (u := .slice PA' G'.length pc')
            clear hA' hB' hbg
            have hA' := hA2
            have hB' := hN2
            have hbg := hbg2
            clear hA2 hN2 hbg2 k0 k1 c1 y0 y1 y2 q0 q1 f0 f1 lq hB hH
            generalize ((w5.setCell ⟨V0.heap.size, 0, none⟩ (.int .i64 N'.length)).setCell ⟨V0.heap.size, 1, none⟩ (.slice PA' G'.length pc')) = Z at *
            by_cases hc : cd = 0
            · subst hc
              have hg1 := Lib.hid (hgo.out rfl)
              have hg2 := Lib.hid (hlok.out rfl)
              clear hgo hstop hlok
              obtain ⟨k0, k1⟩ := hbg.c2
              obtain ⟨f0, f1⟩ := hbg.f2
              have l0 := hbg.lt
              obtain ⟨z0, z1⟩ := hq.c2
              have hb2 := (hbg.set2a (u := .int .i64 N'.length)).set2b (u := .slice PA' G'.length pc')
              have hA2 := hA'.far2 hbg (by decide) (.int .i64 N'.length) (.slice PA' G'.length pc')
              have hN2 := hB'.far2 hbg (by decide) (.int .i64 N'.length) (.slice PA' G'.length pc')
              have hB2 := (hBz.setCell (p := ⟨w1.heap.size + 1 + 1, 0, none⟩) (by show w1.heap.size ≤ w1.heap.size + 1 + 1; omega) (.int .i64 N'.length)).setCell (p := ⟨w1.heap.size + 1 + 1, 1, none⟩) (by show w1.heap.size ≤ w1.heap.size + 1 + 1; omega) (.slice PA' G'.length pc')
              clear hbg hA' hB' hBz hq
              go_wp2
              go_roundw
              case rel => exact ⟨k + 1, N', G', _, hlt, by go_num, hg2, hg1, hb2, hA2, hN2, hB2⟩
              case measure => simp [intOf] <;> omega
            · have hN := Lib.hid (hstop.out hc)
              have hq0 : (cd != 0) = true := by simpa using hc
              have hbr := hbox.now hBz
              have hBr := hB0.trans (hBz.mono hB0.size)
              obtain ⟨k0, k1⟩ := hbr.c2
              obtain ⟨f0, f1⟩ := hbr.f2
              have l0 := hbr.lt
              have wk : IntKind.i64.wrap ((k : Int) + 1) = (k : Int) + 1 := IntWalk.i64_in _ (by omega)
              clear hgo hstop hlok hc hA' hB' hbg hq
              go_wp2
              have r0 := ((hbr.set2a (u := .int .i64 0)).set2b (u := .slice none 0 0)).c2
              refine bodyPost_ret (v := .tuple #[.agg #[.int .i64 0, .slice none 0 0], .slice none 0 0, .int .i64 ((k : Int) + 1), .int .i64 cd]) (by simp [results, Tryz.results17, go_sem, k0, k1, r0.1, r0.2]) rfl ?_
              rw [← hN.out]
              exact ⟨_, _, rfl, Own.nil, Own.nil, (hBr.setCell (Nat.le_refl _) _).setCell (Nat.le_refl _) _⟩
        · obtain rfl : k = m := by omega
          have hA2 := hA.out
          rw [List.drop_of_length_le (by omega)] at hA2
          have i3 : ¬ (k : Int) + 1 < (k : Int) + 1 := by omega
          have hbr := hbox.now hB
          have hBr := hB0.trans (hB.mono hB0.size)
          obtain ⟨k0, k1⟩ := hbr.c2
          obtain ⟨f0, f1⟩ := hbr.f2
          have l0 := hbr.lt
          obtain ⟨z0, z1⟩ := hbg.c2
          by_cases hn0 : N.length = 0
          · have hN : Hid ((⟨0, [], [], 0, 6⟩ : Comp) = R) := (lines_nil hn0).symm.trans hA2
            have hq : ((N.length : Int) == 0) = true := by simp; exact List.length_eq_zero_iff.1 hn0
            clear hA2 hA
            go_wp2
            have r0 := ((hbr.set2a (u := .int .i64 0)).set2b (u := .slice none 0 0)).c2
            refine bodyPost_ret (v := .tuple #[.agg #[.int .i64 0, .slice none 0 0], .slice none 0 0, .int .i64 0, .int .i64 6]) (by simp [results, Tryz.results17, go_sem, k0, k1, r0.1, r0.2]) rfl ?_
            rw [← hN.out]
            exact ⟨_, _, rfl, Own.nil, Own.nil, (hBr.setCell (Nat.le_refl _) _).setCell (Nat.le_refl _) _⟩
          · have hN : Hid ((⟨N.length, G, N, 0, 0⟩ : Comp) = R) := (lines_done hn0).symm.trans hA2
            have hq : ((N.length : Int) == 0) = false := by simp; exact fun e => hn0 (by rw [e]; rfl)
            clear hA2 hA
            go_wp2
            have hb2 := (hbr.set2a (u := .int .i64 N.length)).set2b (u := .slice PA G.length pc)
            obtain ⟨r0, r1⟩ := hb2.c2
            have hP2 := (hP.far (p := ⟨w.heap.size, 0, none⟩) (by show w.heap.size < w1.heap.size; omega) (.int .i64 N.length)).far (p := ⟨w.heap.size, 1, none⟩) (by show w.heap.size < w1.heap.size; omega) (.slice PA G.length pc)
            have hM := (hNm.far (p := ⟨w.heap.size, 0, none⟩) (by show w.heap.size < w1.heap.size; omega) (.int .i64 N.length)).far (p := ⟨w.heap.size, 1, none⟩) (by show w.heap.size < w1.heap.size; omega) (.slice PA G.length pc)
            refine bodyPost_ret (v := .tuple #[.agg #[.int .i64 N.length, .slice PA G.length pc], .slice NA N.length nc, .int .i64 0, .int .i64 0]) (by simp [results, Tryz.results17, go_sem, r0, r1]) rfl ?_
            rw [← hN.out]
            exact ⟨_, _, rfl, hP2.rebase (Nat.le_of_lt hgw), hM.rebase (Nat.le_of_lt hgw), (hBr.setCell (Nat.le_refl _) _).setCell (Nat.le_refl _) _⟩
    · have hq := ne_empty hx0
      have hq2 := ne_empty2 hx0
      rw [if_pos (fun e => hx0 (by rw [e]; rfl))] at hcm
      have hN := Lib.hid hcm
      clear hcm
      go_wp2
      have r0 := ((hbox.set2a (u := .int .i64 0)).set2b (u := .slice none 0 0)).c2
      refine bodyPost_ret (v := .tuple #[.agg #[.int .i64 0, .slice none 0 0], .slice none 0 0, .int .i64 0, .int .i64 6]) (by simp [results, Tryz.results17, go_sem, k0, k1, r0.1, r0.2]) rfl ?_
      rw [← hN.out]
      exact ⟨_, _, rfl, Own.nil, Own.nil, by first | exact hB0 | exact (hB0.setCell (Nat.le_refl _) _).setCell (Nat.le_refl _) _⟩
end Go.Proofs.YtcoomogabicfnaaGreatDoor
