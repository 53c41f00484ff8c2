/-
  The walk of impl.CompileText.
-/
import Derived.Test.YtcoomogabicfnaaGreatDoorLinI
namespace Go.Proofs.YtcoomogabicfnaaGreatDoor
open Go.RowKit
set_option linter.unusedVariables false
set_option linter.unusedSimpArgs false
theorem lines_nil {N : List ByteArray} {G : List Place} {i : Nat} (h : N.length = 0) : linesF N G i [] = ⟨0, [], [], 0, 6⟩ := by
  unfold linesF
  rw [if_pos (List.length_eq_zero_iff.1 h)]
theorem lines_done {N : List ByteArray} {G : List Place} {i : Nat} (h : ¬ N.length = 0) : linesF N G i [] = ⟨N.length, G, N, 0, 0⟩ := by
  unfold linesF
  rw [if_neg (fun e => h (by rw [e]; rfl))]
theorem lines_go {N : List ByteArray} {G : List Place} {i : Nat} {x : ByteArray} {r : List ByteArray} (h : (lineF N G x).1 = 0) : linesF N G i (x :: r) = linesF (lineF N G x).2.1 (lineF N G x).2.2 (i + 1) r := by
  rw [linesF, if_pos h]
theorem lines_stop {N : List ByteArray} {G : List Place} {i : Nat} {x : ByteArray} {r : List ByteArray} (h : ¬ (lineF N G x).1 = 0) : linesF N G i (x :: r) = ⟨0, [], [], (i : Int) + 1, (lineF N G x).1⟩ := by
  rw [linesF, if_neg h]
theorem lineOk_nil : LineOk [] [] := ⟨by simp, by simp, List.nodup_nil, by simp, by simp⟩
theorem cmp_new (w : World) : Cmp (w.alloc (.cells #[.int .i64 0, .slice none 0 0, .slice none 0 0] 65)) w.heap.size w.heap.size ((([] : List ByteArray).length : Nat) : Int) (.slice none 0 0) (.slice none 0 0) [] [] :=
  ⟨Nat.le_refl _, Blk.newAt w _ rfl, Own.nil, Own.nil⟩
theorem linesF_len : ∀ (r : List ByteArray) (N : List ByteArray) (G : List Place) (i : Nat), LineOk N G → (linesF N G i r).pl.length ≤ 30 ∧ (linesF N G i r).nm.length ≤ 10
  | [], N, G, i, h => by
    unfold linesF
    split
    · exact ⟨by simp, by simp⟩
    · exact ⟨h.fewG, h.few⟩
  | s :: r, N, G, i, h => by
    unfold linesF
    split
    · rename_i hl
      exact linesF_len r _ _ _ (lineF_ok h hl)
    · exact ⟨by simp, by simp⟩
theorem compF_len (s : ByteArray) : (compF s).pl.length ≤ 30 ∧ (compF s).nm.length ≤ 10 := by
  unfold compF
  split
  · exact ⟨by simp, by simp⟩
  · split
    · exact ⟨by simp, by simp⟩
    · exact linesF_len _ _ _ _ lineOk_nil
set_option maxHeartbeats 16000000 in
set_option maxRecDepth 100000 in
theorem impl_CompileText (s : ByteArray) (w : World) (hs : s.size ≤ 100000000) (hE : Env w) :
    Calls Tryz.prog 11 #[.string s] w fun r w' => ∃ A B, r = .returned (.tuple #[.agg #[.int .i64 (compF s).ev, A], B, .int .i64 (compF s).ln, .int .i64 (compF s).cd]) ∧ Own Place.cells 4 57 w' w.heap.size A (compF s).pl ∧ Own strCell 1 9 w' w.heap.size B (compF s).nm ∧ Below w.heap.size w w' := by
  obtain ⟨R, hR⟩ : ∃ R, compF s = R := ⟨_, rfl⟩
  rw [hR]
  have hR := Lib.hid hR
  have hbox := Blk.newAt w (t := 26) (cs := #[.int .i64 0, .slice none 0 0]) _ rfl
  have hB0 : Below w.heap.size w (w.alloc (.cells #[.int .i64 0, .slice none 0 0] 26)) := (Below.refl _ _).alloc (Nat.le_refl _) _
  obtain ⟨k0, k1⟩ := hbox.c2
  obtain ⟨f0, f1⟩ := hbox.f2
  have l0 := hbox.lt
  by_cases hbig : 2000 < s.size
  · have hN : Hid ((⟨0, [], [], 0, 3⟩ : Comp) = R) := by
      show _ = _
      rw [← hR.out]
      unfold compF
      rw [if_pos hbig]
    have hbig2 : (2000 : Int) < (s.size : Int) := by omega
    go_enter Tryz.func11, Tryz.ntmps11
    go_wp2
    have r0 := ((hbox.set2a (u := .int .i64 0)).set2b (u := .slice none 0 0)).c2
    refine bodyPost_ret (v := .tuple #[.agg #[.int .i64 0, .slice none 0 0], .slice none 0 0, .int .i64 0, .int .i64 3]) (by simp [results, Tryz.results11, go_sem, k0, k1, r0.1, r0.2]) rfl ?_
    rw [← hN.out]
    exact ⟨_, _, rfl, Own.nil, Own.nil, by first | exact hB0 | exact (hB0.setCell (Nat.le_refl _) _).setCell (Nat.le_refl _) _⟩
  · have hbig2 : ¬ (2000 : Int) < (s.size : Int) := by omega
    have hWs := split_size 10 s
    have hWn := splitF_ne 10 s
    have hcm : Hid (compF s = if (splitF 10 s).getLastD ⟨#[]⟩ ≠ ⟨#[]⟩ then ⟨0, [], [], 0, 6⟩ else linesF [] [] 0 (splitF 10 s).dropLast) := by
      show _ = _
      unfold compF
      rw [if_neg hbig]
    have hcm := hcm.out.symm.trans hR.out
    go_enter Tryz.func11, Tryz.ntmps11
    go_wp2_with fail
    refine (strings_Split s 10 _ hs (hE.now hB0)).mono ?_
    rintro e w1 ⟨uw, rfl, hW, hB1⟩
    replace hbox := hbox.now hB1
    replace hB0 := hB0.trans (hB1.mono hB0.size)
    replace hW := hW.rebase (base' := w.heap.size) (by simp)
    generalize splitF 10 s = W at *
    obtain ⟨m, hm⟩ : ∃ m, W.length = m + 1 := ⟨W.length - 1, by have := List.length_pos_iff.2 hWn; omega⟩
    obtain ⟨WA, wc, rfl⟩ := own_shape_n hW hm
    have hcap : m + 1 ≤ wc := by obtain ⟨_, _, A', c', hv, hc, _⟩ := hW.lst; injection hv with _ _ hcc; omega
    have hmx : m + 1 ≤ 9223372036854775807 := by have := hW.lst.len_le; omega
    obtain ⟨wb, wo, hWA, hwb, cw⟩ := strs_at hW.lst m (by omega)
    subst hWA
    have hld : W.getLastD ⟨#[]⟩ = W[m]'(by omega) := by
      have em : W.length - 1 = m := by omega
      rw [List.getLastD_eq_getLast?, List.getLast?_eq_getElem?, em, List.getElem?_eq_getElem (by omega)]
      rfl
    have hdl : W.dropLast = W.take m := by rw [List.dropLast_eq_take, hm, Nat.add_sub_cancel]
    rw [hld, hdl] at hcm
    obtain ⟨x, hx⟩ : ∃ x, W[m]'(by omega) = x := ⟨_, rfl⟩
    rw [hx] at hcm cw
    clear hx hld hdl hB1 k0 k1 f0 f1 l0
    obtain ⟨k0, k1⟩ := hbox.c2
    obtain ⟨f0, f1⟩ := hbox.f2
    have l0 := hbox.lt
    by_cases hx0 : x.size = 0
    · obtain rfl := size_empty hx0
      rw [if_neg (by simp)] at hcm
      have hcmH := Lib.hid hcm
      have hT := Lst.take (f := strCell) (fun _ => rfl) hW.lst m (by omega)
      have hTs : Hid (∀ y ∈ W.take m, y.size ≤ s.size) := fun y hy => hWs y (List.mem_of_mem_take hy)
      have hTl : (W.take m).length = m := by rw [List.length_take, hm]; omega
      generalize W.take m = V at *
      clear hWs hWn hcm hx0
      go_wp2
      have hgw : w.heap.size < w1.heap.size := l0
      clear k0 k1 f0 f1 l0 cw
      go_loopw [9, 10, 11, 34] (fun _ _ _ i wr => ∃ (k : Nat) (N : List ByteArray) (G : List Place) (A B : Value), k ≤ m ∧ i = .int .i64 k ∧ Hid (LineOk N G) ∧ Hid (linesF N G k (V.drop k) = R) ∧ Cmp wr w1.heap.size w1.heap.size N.length A B N G ∧ Below w1.heap.size w1 wr) (fun _ _ _ i _ => m - (intOf i).toNat)
      case atStart => exact ⟨0, [], [], _, _, Nat.zero_le _, rfl, lineOk_nil, hcmH.out, cmp_new w1, (Below.refl _ _).alloc (Nat.le_refl _) _⟩
      case round =>
        obtain ⟨k, N, G, A, B, hk, rfl, hL, hA, hC, hB⟩ := hrel
        have hbr := hbox.now hB
        have hBr := hB0.trans (hB.mono hB0.size)
        by_cases hlt : k < m
        · obtain ⟨b1, o1, hA1, hb1, c1⟩ := strs_at hT k (by omega)
          injection hA1 with hA1
          injection hA1 with hA1 hA2
          subst hA1
          subst hA2
          replace c1 := cell_keep c1 hB
          have hxs := hTs.out _ (List.getElem_mem (by omega : k < V.length))
          have i1 : (0 : Int) ≤ (k : Int) := by omega
          have i2 : (k : Int) < (m : Int) := by omega
          have hdr := List.drop_eq_getElem_cons (by omega : k < V.length)
          obtain ⟨x, hx⟩ : ∃ x, V[k]'(by omega) = x := ⟨_, rfl⟩
          rw [hx] at c1 hxs hdr
          have hA2 := hA.out
          rw [hdr] at hA2
          have hgo := Lib.hid (fun h => (lines_go (i := k) (r := V.drop (k + 1)) h).symm.trans hA2)
          have hstop := Lib.hid (fun h => (lines_stop (i := k) (r := V.drop (k + 1)) h).symm.trans hA2)
          have hlok := Lib.hid (fun h => lineF_ok hL.out (s := x) h)
          have hli := impl_line w1.heap.size w1.heap.size A B N G x wr hC hL.out.few hL.out.fewG (by omega) (hE.now hBr)
          clear hx hdr hA2
          go_wp2_with fail
          refine hli.mono ?_
          clear hli
          rintro e w5 ⟨rfl, ⟨A', B', hC'⟩, hB5⟩
          replace hB := hB.trans hB5
          replace hBr := hB0.trans (hB.mono hB0.size)
          replace hbr := hbox.now hB
          generalize lineF N G x = Q at *
          obtain ⟨cd, N', G'⟩ := Q
          by_cases hc : cd = 0
          · subst hc
            have hg1 := Lib.hid (hgo.out rfl)
            have hg2 := Lib.hid (hlok.out rfl)
            clear hgo hstop hlok hC
            go_wp2
            go_roundw
            case rel => exact ⟨k + 1, N', G', A', B', hlt, by go_num, hg2, hg1, hC', hB⟩
            case measure => simp [intOf] <;> omega
          · have hN := Lib.hid (hstop.out hc)
            have hq : (cd != 0) = true := by simpa using hc
            obtain ⟨k0, k1⟩ := hbr.c2
            obtain ⟨f0, f1⟩ := hbr.f2
            have l0 := hbr.lt
            clear hgo hstop hlok hC hc
            go_wp2
            have r0 := ((hbr.set2a (u := .int .i64 0)).set2b (u := .slice none 0 0)).c2
            refine bodyPost_ret (v := .tuple #[.agg #[.int .i64 0, .slice none 0 0], .slice none 0 0, .int .i64 ((k : Int) + 1), .int .i64 cd]) (by simp [results, Tryz.results11, go_sem, k0, k1, r0.1, r0.2]) rfl ?_
            rw [← hN.out]
            exact ⟨_, _, rfl, Own.nil, Own.nil, (hBr.setCell (Nat.le_refl _) _).setCell (Nat.le_refl _) _⟩
        · obtain rfl : k = m := by omega
          have hA2 := hA.out
          rw [List.drop_of_length_le (by omega)] at hA2
          obtain ⟨PA, pc, rfl⟩ := hC.pls.shape
          obtain ⟨NA, nc, rfl⟩ := hC.nms.shape
          obtain ⟨k0, k1⟩ := hbr.c2
          obtain ⟨f0, f1⟩ := hbr.f2
          have l0 := hbr.lt
          obtain ⟨z0, z1, z2⟩ := hC.box.c3
          have l1 := hC.box.lt
          by_cases hn0 : N.length = 0
          · have hN : Hid ((⟨0, [], [], 0, 6⟩ : Comp) = R) := (lines_nil hn0).symm.trans hA2
            have hq : ((N.length : Int) == 0) = true := by simp; exact List.length_eq_zero_iff.1 hn0
            clear hA2 hA
            go_wp2
            have r0 := ((hbr.set2a (u := .int .i64 0)).set2b (u := .slice none 0 0)).c2
            refine bodyPost_ret (v := .tuple #[.agg #[.int .i64 0, .slice none 0 0], .slice none 0 0, .int .i64 0, .int .i64 6]) (by simp [results, Tryz.results11, go_sem, k0, k1, r0.1, r0.2]) rfl ?_
            rw [← hN.out]
            exact ⟨_, _, rfl, Own.nil, Own.nil, (hBr.setCell (Nat.le_refl _) _).setCell (Nat.le_refl _) _⟩
          · have hN : Hid ((⟨N.length, G, N, 0, 0⟩ : Comp) = R) := (lines_done hn0).symm.trans hA2
            have hq : ((N.length : Int) == 0) = false := by simp; exact fun e => hn0 (by rw [e]; rfl)
            clear hA2 hA
            go_wp2
            have hXd : Below wr.heap.size wr wr.drew := Below.drew (Below.refl _ _)
            replace hC := hC.now hXd
            replace hbr := hbr.now hXd
            replace hBr := hBr.trans (hXd.mono hBr.size)
            refine wp_region_E (fun w' => w'.cell? ⟨w1.heap.size, 0, none⟩ = some (.int .i64 N.length) ∧ w'.cell? ⟨w1.heap.size, 1, none⟩ = some (.slice PA G.length pc) ∧ w'.cell? ⟨w1.heap.size, 2, none⟩ = some (.slice NA N.length nc)) 7 (by kernel_rfl) ?_
            have hS0 : (fun w' : World => w'.cell? ⟨w1.heap.size, 0, none⟩ = some (.int .i64 N.length) ∧ w'.cell? ⟨w1.heap.size, 1, none⟩ = some (.slice PA G.length pc) ∧ w'.cell? ⟨w1.heap.size, 2, none⟩ = some (.slice NA N.length nc)) wr.drew := ⟨z0, z1, z2⟩
            clear hS0 z0 z1 z2 k0 k1 f0 f1 l0 l1 hXd
            generalize wr.drew = V0 at *
            have hS0 : (fun w' : World => w'.cell? ⟨w1.heap.size, 0, none⟩ = some (.int .i64 N.length) ∧ w'.cell? ⟨w1.heap.size, 1, none⟩ = some (.slice PA G.length pc) ∧ w'.cell? ⟨w1.heap.size, 2, none⟩ = some (.slice NA N.length nc)) V0 := hC.box.c3
            obtain ⟨f0, f1⟩ := hbr.f2
            obtain ⟨k0, k1⟩ := hbr.c2
            have l0 := hbr.lt
            refine wpAnyE_take (i := 0) (v := ?_) rfl (by kernel_rfl) (by kernel_rfl) (by kernel_rfl) (by kernel_rfl) (by kernel_rfl) (fun _ _ _ h => h) hS0 (by rfl) ?_ ?_
            rotate_left
            · intro w9 hSw
              try dsimp only at hSw
              obtain ⟨s0, s1, s2⟩ := hSw
              go_simp
              try with_reducible rfl
            try simp only [Act.put, List.setIfInBounds_toArray, List.set_cons_zero, List.set_cons_succ]
            refine wpAnyE_take (i := 1) (v := ?_) rfl (by kernel_rfl) (by kernel_rfl) (by kernel_rfl) (by kernel_rfl) (by kernel_rfl) (fun _ _ _ h => h) hS0 (by rfl) ?_ ?_
            rotate_left
            · intro w9 hSw
              try dsimp only at hSw
              obtain ⟨s0, s1, s2⟩ := hSw
              go_simp
              try with_reducible rfl
            try simp only [Act.put, List.setIfInBounds_toArray, List.set_cons_zero, List.set_cons_succ]
            refine wpAnyE_take (i := 2) (v := ?_) rfl (by kernel_rfl) (by kernel_rfl) (by kernel_rfl) (by kernel_rfl) (by kernel_rfl) (fun _ _ _ h => h) hS0 (by rfl) ?_ ?_
            rotate_left
            · intro w9 hSw
              try dsimp only at hSw
              obtain ⟨s0, s1, s2⟩ := hSw
              go_simp
              try with_reducible rfl
            try simp only [Act.put, List.setIfInBounds_toArray, List.set_cons_zero, List.set_cons_succ]
            refine wpAnyE_take (i := 3) (v := ?_) rfl (by kernel_rfl) (by kernel_rfl) (by kernel_rfl) (by kernel_rfl) (by kernel_rfl) (fun _ _ _ h => h) hS0 (by rfl) ?_ ?_
            rotate_left
            · intro w9 hSw
              try dsimp only at hSw
              obtain ⟨s0, s1, s2⟩ := hSw
              go_simp
              try with_reducible rfl
            try simp only [Act.put, List.setIfInBounds_toArray, List.set_cons_zero, List.set_cons_succ]
            refine wpAnyE_one (i := 4) rfl (by kernel_rfl) (fun K hK => ?_)
            have hbg := (hC.box.far (p := ⟨w.heap.size, 0, none⟩) (by show w1.heap.size ≠ w.heap.size; omega) (.int .i64 N.length)).far (p := ⟨w.heap.size, 1, none⟩) (by show w1.heap.size ≠ w.heap.size; omega) (.slice PA G.length pc)
            obtain ⟨y0, y1, y2⟩ := hbg.c3
            go_simp
            refine hK.out _ _ (fun _ => ⟨y0, y1, y2⟩) ?_
            clear hK K
            try simp only [Act.put, List.setIfInBounds_toArray, List.set_cons_zero, List.set_cons_succ]
            refine wpAnyE_one (i := 5) rfl (by kernel_rfl) (fun K hK => ?_)
            go_simp
            refine hK.out _ _ (fun _ => ⟨y0, y1, y2⟩) ?_
            clear hK K
            try simp only [Act.put, List.setIfInBounds_toArray, List.set_cons_zero, List.set_cons_succ]
            refine wpAnyE_one (i := 6) rfl (by kernel_rfl) (fun K hK => ?_)
            go_simp
            refine hK.out _ _ (fun _ => ⟨y0, y1, y2⟩) ?_
            clear hK K
            try simp only [Act.put, List.setIfInBounds_toArray, List.set_cons_zero, List.set_cons_succ]
            refine wpAnyE_one (i := 7) rfl (by kernel_rfl) (fun K hK => ?_)
            go_simp
            refine hK.out _ _ (fun h => absurd rfl h) ?_
            clear hK K
            try simp only [Act.put, List.setIfInBounds_toArray, List.set_cons_zero, List.set_cons_succ]
            refine wpAnyE_done (by kernel_rfl) ?_
            clear hS0
            have hb2 := (hbr.set2a (u := .int .i64 N.length)).set2b (u := .slice PA G.length pc)
            obtain ⟨r0, r1⟩ := hb2.c2
            have hP := (hC.pls.far (p := ⟨w.heap.size, 0, none⟩) (by show w.heap.size < w1.heap.size; omega) (.int .i64 N.length)).far (p := ⟨w.heap.size, 1, none⟩) (by show w.heap.size < w1.heap.size; omega) (.slice PA G.length pc)
            have hM := (hC.nms.far (p := ⟨w.heap.size, 0, none⟩) (by show w.heap.size < w1.heap.size; omega) (.int .i64 N.length)).far (p := ⟨w.heap.size, 1, none⟩) (by show w.heap.size < w1.heap.size; omega) (.slice PA G.length pc)
            go_wp2
            refine bodyPost_ret (v := .tuple #[.agg #[.int .i64 N.length, .slice PA G.length pc], .slice NA N.length nc, .int .i64 0, .int .i64 0]) (by simp [results, Tryz.results11, go_sem, r0, r1]) rfl ?_
            rw [← hN.out]
            exact ⟨_, _, rfl, hP.rebase (Nat.le_of_lt hgw), hM.rebase (Nat.le_of_lt hgw), (hBr.setCell (Nat.le_refl _) _).setCell (Nat.le_refl _) _⟩
    · have hq := ne_empty hx0
      have hq2 := ne_empty2 hx0
      rw [if_pos (fun e => hx0 (by rw [e]; rfl))] at hcm
      have hN := Lib.hid hcm
      clear hcm
      go_wp2
      have r0 := ((hbox.set2a (u := .int .i64 0)).set2b (u := .slice none 0 0)).c2
      refine bodyPost_ret (v := .tuple #[.agg #[.int .i64 0, .slice none 0 0], .slice none 0 0, .int .i64 0, .int .i64 6]) (by simp [results, Tryz.results11, go_sem, k0, k1, r0.1, r0.2]) rfl ?_
      rw [← hN.out]
      exact ⟨_, _, rfl, Own.nil, Own.nil, by first | exact hB0 | exact (hB0.setCell (Nat.le_refl _) _).setCell (Nat.le_refl _) _⟩
end Go.Proofs.YtcoomogabicfnaaGreatDoor
