/-
  The walks of the program's PrintText.
-/
import Derived.Test.YtcoomogabicfnaaGreatDoorPrtB
namespace Go.Proofs.YtcoomogabicfnaaGreatDoor
open Go.RowKit
set_option linter.unusedVariables false
set_option linter.unusedSimpArgs false
theorem info_int : (Tryz.prog.info? 3).map (fun i => (i.zero, i.size, i.bytes)) = some (some (.int .i64 0), 1, 8) := by kernel_rfl
theorem own_row {α : Type} {f : α → List Value} {s : Nat} {e : TypeId} {w : World} {base g n c : Nat} {l : List α} (h : Own f s e w base (.slice (some ⟨g, 0, none⟩) n c) l) : ∃ cs, w.heap[g]? = some (.cells cs e (0, 0)) := by
  rcases h.2 with ⟨hv, _⟩ | ⟨g', cap, cur, hv, _, hg, _⟩
  · cases hv
  · injection hv with h1 _ _
    injection h1 with h1
    injection h1 with h1
    subst h1
    exact ⟨cur, hg⟩
/-- The first k loops, the rest still nothing. -/
def fillL (gp : List Place) (n k : Nat) : List Int := loopsF gp k ++ List.replicate (n - k) 0
theorem fillL_len {gp : List Place} {n k : Nat} (h : k ≤ n) : (fillL gp n k).length = n := by
  unfold fillL
  rw [List.length_append, loopsF_len, List.length_replicate]
  omega
theorem fillL_set {gp : List Place} {n k : Nat} (h : k < n) : (fillL gp n k).set k (loopF gp k) = fillL gp n (k + 1) := by
  unfold fillL
  have e : (loopsF gp k).length = k := loopsF_len gp k
  rw [List.set_append_right _ _ (by omega), e, Nat.sub_self, show n - k = (n - (k + 1)) + 1 by omega, List.replicate_succ, List.set_cons_zero, loopsF_succ, List.append_assoc]
  rfl
theorem fillL_get {gp : List Place} {n k : Nat} (h : k < n) (h2 : k < (fillL gp n (k + 1)).length) : (fillL gp n (k + 1))[k] = loopF gp k := by
  have e : (fillL gp n (k + 1))[k]? = some (loopF gp k) := by
    unfold fillL
    rw [List.getElem?_append_left (by rw [loopsF_len]; omega)]
    simp [loopsF]
  rw [List.getElem?_eq_getElem h2] at e
  exact Option.some.inj e
theorem fillL_all {gp : List Place} {n : Nat} : fillL gp n n = loopsF gp n := by simp [fillL]
theorem fillL_zero {gp : List Place} {n : Nat} : fillL gp n 0 = List.replicate n 0 := by simp [fillL, loopsF]
set_option maxHeartbeats 16000000 in
set_option maxRecDepth 100000 in
theorem impl_printText (v : Value) (gp : List Place) (u : Value) (N : List ByteArray) (w : World) (h0 : Lst Place.cells 4 w w.heap.size v gp) (h1 : Lst strCell 1 w w.heap.size u N) (hT : TabOf w)
    (hq : Hid (okGraph N.length gp = true)) (hn : Hid (∀ s ∈ N, nameOk s = true)) :
    Calls Tryz.prog 23 #[.agg #[.int .i64 N.length, v], u] w fun r w' => r = .returned (.tuple #[.string (if (loopsF gp N.length).all (fun i => decide (0 ≤ i)) then printT gp N else ⟨#[]⟩), .bool ((loopsF gp N.length).all (fun i => decide (0 ≤ i)))]) ∧ Below w.heap.size w w' := by
  obtain ⟨A, c, rfl⟩ := h0.shape
  obtain ⟨NA, nc, rfl⟩ := h1.shape
  obtain ⟨T, hTt⟩ : ∃ T, (loopsF gp N.length).all (fun i => decide (0 ≤ i)) = T := ⟨_, rfl⟩
  rw [hTt]
  have hTt := Lib.hid hTt
  have hev := okGraph_ev hq.out
  have hgl := okGraph_len hq.out
  have hTall : Hid (∀ X, Below w.heap.size w X → TabOf X) := fun X h => hT.now h
  have hmk := run_make_lst (P := Tryz.prog) intCell 1 intCell_len (by omega) 0 82 3 _ 8 Tryz.underlying82 info_int rfl .i64 .i64 N.length (by omega) (by omega)
  have hm1 := fun w => (hmk w).1
  have hm2 := Lib.hid fun (X : World) => (hmk X).2
  clear hmk hT
  have hBx : Below w.heap.size w (w.alloc (.cells #[.int .i64 N.length, .slice A gp.length c] 26)) := (Below.refl _ _).alloc (Nat.le_refl _) _
  have hbox := Blk.newAt w (t := 26) (cs := #[.int .i64 N.length, .slice A gp.length c]) _ rfl
  have hs0 : Hid ((w.alloc (.cells #[.int .i64 N.length, .slice A gp.length c] 26)).heap.size = w.heap.size + 1) := by show _ = _; simp
  replace h0 := h0.now hBx
  replace h1 := h1.now hBx
  go_enter Tryz.func23, Tryz.ntmps23
  go_wp2
  have hBl0 := Bld.new (w.alloc (.cells #[.int .i64 N.length, .slice A gp.length c] 26)) (w.heap.size + 1) (by rw [hs0.out]; exact Nat.le_refl _)
  have hO0 := hm2.out ((w.alloc (.cells #[.int .i64 N.length, .slice A gp.length c] 26)).alloc (.cells #[.pointer none, .slice none 0 0] 81)) (w.heap.size + 1) (by simp)
  have e2 : ((w.alloc (.cells #[.int .i64 N.length, .slice A gp.length c] 26)).alloc (.cells #[.pointer none, .slice none 0 0] 81)).heap.size = w.heap.size + 1 + 1 := by simp
  rw [e2] at hO0
  rw [hs0.out] at hBl0
  generalize w.alloc (.cells #[.int .i64 N.length, .slice A gp.length c] 26) = W0 at *
  have hN0 : Below (w.heap.size + 1) W0 ((W0.alloc (.cells #[.pointer none, .slice none 0 0] 81)).alloc (.cells (madeCells (intCell 0).toArray (N.length * 1)) 3)) := ((Below.refl _ _).alloc (by rw [hs0.out]; exact Nat.le_refl _) _).alloc (by rw [e2]; omega) _
  replace hBl0 := hBl0.now ((Below.refl _ _).alloc (Nat.le_refl _) (.cells (madeCells (intCell 0).toArray (N.length * 1)) 3))
  simp only [Nat.mul_one] at hO0 hN0 hBl0
  clear hm1 hm2 e2
  go_loopw [8, 9, 10, 18] (fun _ _ _ i wr => ∃ k : Nat, k ≤ N.length ∧ i = .int .i64 k ∧ Hid (∀ j, j < k → 0 ≤ loopF gp j) ∧ Own intCell 1 3 wr (w.heap.size + 1) (.slice (some ⟨w.heap.size + 1 + 1, 0, none⟩) N.length N.length) (fillL gp N.length k) ∧ Bld (w.heap.size + 1) (w.heap.size + 1) (outS gp N k) wr ∧ Below (w.heap.size + 1) W0 wr) (fun _ _ _ i _ => N.length - (intOf i).toNat)
  case atStart => exact ⟨0, Nat.zero_le _, rfl, fun j hj => absurd hj (by omega), by rw [fillL_zero]; exact hO0, by rw [outS_zero]; exact hBl0, hN0⟩
  case round =>
    clear hO0 hBl0 hN0
    obtain ⟨k, hk, rfl, hA, hO, hBl, hB0⟩ := hrel
    have hB : Below W0.heap.size W0 wr := by rw [hs0.out]; exact hB0
    have hs := hB.size
    have hs' : w.heap.size + 1 ≤ wr.heap.size := by rw [← hs0.out]; exact hs
    have hbr := hbox.now hB
    obtain ⟨k0, k1⟩ := hbr.c2
    have l0 := hbr.lt
    by_cases hlt : k < N.length
    · have i1 : (0 : Int) ≤ (k : Int) := by omega
      have i2 : (k : Int) < (N.length : Int) := by omega
      have hlenO : k < (fillL gp N.length k).length := by rw [fillL_len hk]; exact hlt
      obtain ⟨nb, no, hNA, hnb, c0⟩ := strs_at (h1.now hB) k hlt
      subst hNA
      have hnsz := nameOk_size (hn.out _ (List.getElem_mem hlt))
      have hgn : N.getD k ⟨#[]⟩ = N[k] := by rw [List.getD_eq_getElem?_getD, List.getElem?_eq_getElem hlt]; rfl
      have hstep := outS_succ gp N k
      rw [hgn] at hstep
      obtain ⟨nm, hnm⟩ : ∃ nm, N[k] = nm := ⟨_, rfl⟩
      rw [hnm] at c0 hnsz hstep
      have hosz := outS_size hq.out hn.out k (by omega)
      have hstepH := Lib.hid hstep
      have hBa : Below wr.heap.size wr (wr.alloc (.cells #[.int .i64 (k : Nat)] 3)) := (Below.refl _ _).alloc (Nat.le_refl _) _
      have heb := Blk.newAt wr (t := 3) (cs := #[.int .i64 (k : Nat)]) _ rfl
      have hfl := (own_ints_at hO k hlenO).2.1
      clear hgn hstep hnm k0 k1 l0
      go_wp2_with fail
      replace hO := hO.now hBa
      replace hBl := hBl.now hBa
      have hBX := hB.trans (hBa.mono hs)
      have hbX := hbr.now hBa
      generalize wr.alloc (.cells #[.int .i64 (k : Nat)] 3) = X1 at *
      obtain ⟨eb, hebE⟩ : ∃ eb, wr.heap.size = eb := ⟨_, rfl⟩
      rw [hebE] at heb hfl hs' ⊢
      clear hebE hBa hbr
      have hBd : Below X1.heap.size X1 X1.drew := Below.drew (Below.refl _ X1)
      have z1 : X1.drew.cell? ⟨eb, 0, none⟩ = some (.int .i64 (k : Nat)) := by simpa using heb.cell 0
      have z2 : X1.drew.cell? ⟨w.heap.size, 1, none⟩ = some (.slice A gp.length c) := hbX.c2.2
      have h0X : Lst Place.cells 4 X1.drew X1.drew.heap.size (.slice A gp.length c) gp := (h0.now hBX).now hBd
      have hclo : ∀ (p : Place) (W : World), Below X1.drew.heap.size X1.drew W → Calls Tryz.prog 48 #[.agg #[.int .i64 p.src, .int .i64 p.dst, .int .i64 p.delay, .int .i64 p.tokens], .pointer (some ⟨eb, 0, none⟩)] W fun e W' => e = .returned (.bool (selfP k p)) ∧ Below W.heap.size W W' := fun p W hW => impl_printText1 p k eb W (cell_keep z1 hW)
      replace hO := hO.now hBd
      replace hBl := hBl.now hBd
      replace hBX := hBX.trans (hBd.mono hBX.size)
      replace heb := heb.now hBd
      replace hbX := hbX.now hBd
      clear c0 hBd
      refine wp_region_held_drew (S := fun w' => w'.cell? ⟨eb, 0, none⟩ = some (.int .i64 (k : Nat)) ∧ w'.cell? ⟨w.heap.size, 1, none⟩ = some (.slice A gp.length c)) (by kernel_rfl) ⟨z1, z2⟩ (fun hH => ?_)
      refine tkH 0 (v := ?_) rfl (fun _ _ _ h => h) (Or.inl ⟨by rfl, ?_⟩) hH ?_
      rotate_left
      · intro w9 hSw
        try dsimp only at hSw
        obtain ⟨s0, s1⟩ := hSw
        go_simp
        try with_reducible rfl
      try simp only [Act.put, List.setIfInBounds_toArray, List.set_cons_zero, List.set_cons_succ]
      refine tkH 1 (v := ?_) rfl (fun _ _ _ h => h) (Or.inl ⟨by rfl, ?_⟩) hH ?_
      rotate_left
      · intro w9 hSw
        try dsimp only at hSw
        obtain ⟨s0, s1⟩ := hSw
        go_simp
        try with_reducible rfl
      try simp only [Act.put, List.setIfInBounds_toArray, List.set_cons_zero, List.set_cons_succ]
      refine tkH 2 (v := ?_) rfl (fun _ _ _ h => h) (Or.inl ⟨by rfl, ?_⟩) hH ?_
      rotate_left
      · intro w9 hSw
        try dsimp only at hSw
        obtain ⟨s0, s1⟩ := hSw
        go_simp
        try with_reducible rfl
      try simp only [Act.put, List.setIfInBounds_toArray, List.set_cons_zero, List.set_cons_succ]
      refine tkH 3 (v := ?_) rfl (fun _ _ _ h => h) (Or.inl ⟨by rfl, ?_⟩) hH ?_
      rotate_left
      · intro w9 hSw
        try dsimp only at hSw
        obtain ⟨s0, s1⟩ := hSw
        go_simp
        try with_reducible rfl
      try simp only [Act.put, List.setIfInBounds_toArray, List.set_cons_zero, List.set_cons_succ]
      refine tkH 4 (v := ?_) rfl (fun _ _ _ h => h) (Or.inl ⟨by rfl, ?_⟩) hH ?_
      rotate_left
      · intro w9 hSw
        try dsimp only at hSw
        obtain ⟨s0, s1⟩ := hSw
        go_simp
        try with_reducible rfl
      try simp only [Act.put, List.setIfInBounds_toArray, List.set_cons_zero, List.set_cons_succ]
      refine wpAnyH_ready (rs := [5]) (by kernel_rfl) (by simp) ?_
      refine AllReadyH.cons rfl (fun K hK => ?_) AllReadyH.nil
      go_simp
      go_at_call 47
      refine (pt1_index _ _ gp (selfP k) _ h0X hclo).mono ?_
      rintro e5 v5 ⟨rfl, hb5⟩
      have z1a := cell_keep (w := X1.drew) z1 hb5
      have z2a := cell_keep (w := X1.drew) z2 hb5
      replace hO := hO.now hb5
      obtain ⟨_, _, hfz, hfc⟩ := own_ints_at hO k hlenO
      have hfz := hfz k
      have hbf5 : w.heap.size + 1 + 1 < v5.heap.size := (own_ints_at hO k hlenO).2.1
      have z1b := (World.cell?_setCell_far v5 ⟨w.heap.size + 1 + 1, k, none⟩ ⟨eb, 0, none⟩ (.int .i64 (idxP (selfP k) gp)) (by show w.heap.size + 1 + 1 ≠ eb; omega)).trans z1a
      have z2b := (World.cell?_setCell_far v5 ⟨w.heap.size + 1 + 1, k, none⟩ ⟨w.heap.size, 1, none⟩ (.int .i64 (idxP (selfP k) gp)) (by show w.heap.size + 1 + 1 ≠ w.heap.size; omega)).trans z2a
      refine hK.out _ _ ⟨z1a, z2a⟩ (fun hH => ?_)
      clear hK K
      try simp only [Act.put, List.setIfInBounds_toArray, List.set_cons_zero, List.set_cons_succ]
      refine wpAnyH_ready (rs := [6]) (by kernel_rfl) (by simp) ?_
      refine AllReadyH.cons rfl (fun K hK => ?_) AllReadyH.nil
      go_simp
      refine hK.out _ _ ⟨z1a, z2a⟩ (fun hH => ?_)
      clear hK K
      try simp only [Act.put, List.setIfInBounds_toArray, List.set_cons_zero, List.set_cons_succ]
      refine wpAnyH_ready (rs := [7]) (by kernel_rfl) (by simp) ?_
      refine AllReadyH.cons rfl (fun K hK => ?_) AllReadyH.nil
      go_simp
      refine hK.out _ _ ⟨z1b, z2b⟩ (fun hH => ?_)
      clear hK K
      try simp only [Act.put, List.setIfInBounds_toArray, List.set_cons_zero, List.set_cons_succ]
      refine wpAnyH_done (by kernel_rfl) ?_ _
      have hlo : idxP (selfP k) gp = loopF gp k := rfl
      have hO1 := hO.set1 k hlenO (idxP (selfP k) gp)
      rw [hlo, fillL_set hlt] at hO1
      obtain ⟨cs5, hcs5⟩ := own_row hO
      have hBl6 := (hBl.now hb5).set hcs5 (by decide) k (.int .i64 (idxP (selfP k) gp))
      have hB6 : Below (w.heap.size + 1) W0 (v5.setCell ⟨w.heap.size + 1 + 1, k, none⟩ (.int .i64 (idxP (selfP k) gp))) := Below.setCell (p := ⟨w.heap.size + 1 + 1, k, none⟩) (by rw [← hs0.out]; exact hBX.trans (hb5.mono hBX.size)) (by show w.heap.size + 1 ≤ w.heap.size + 1 + 1; omega) (.int .i64 (idxP (selfP k) gp))
      have heb6 := (heb.now hb5).far (p := ⟨w.heap.size + 1 + 1, k, none⟩) (by show eb ≠ w.heap.size + 1 + 1; omega) (.int .i64 (idxP (selfP k) gp))
      have hbX6 := (hbX.now hb5).far (p := ⟨w.heap.size + 1 + 1, k, none⟩) (by show w.heap.size ≠ w.heap.size + 1 + 1; omega) (.int .i64 (idxP (selfP k) gp))
      rw [hlo] at hBl6 hB6 heb6 hbX6 ⊢
      have hlen1 : k < (fillL gp N.length (k + 1)).length := by rw [fillL_len hlt]; exact hlt
      obtain ⟨_, hbfl, _, y0⟩ := own_ints_at hO1 k hlen1
      rw [fillL_get hlt hlen1] at y0
      clear hO hBl hb5 hBX heb hbX z1a z2a z1b z2b hfz hfc hbf5 hcs5 hlo z1 z2 hclo h0X hH hlenO
      generalize v5.setCell ⟨w.heap.size + 1 + 1, k, none⟩ (.int .i64 (loopF gp k)) = V at *
      have y1 : V.cell? ⟨eb, 0, none⟩ = some (.int .i64 (k : Nat)) := by simpa using heb6.cell 0
      have l1 := heb6.lt
      have hBV : Below W0.heap.size W0 V := by rw [hs0.out]; exact hB6
      have hBw : Below w.heap.size w V := hBx.trans (hBV.mono hBx.size)
      by_cases hneg : loopF gp k < 0
      · have hF : Hid (false = T) := (loops_bad hlt hneg).symm.trans hTt.out
        obtain ⟨lv, hlv⟩ : ∃ lv, loopF gp k = lv := ⟨_, rfl⟩
        rw [hlv] at hneg y0
        clear hlv
        obtain rfl := hF.out
        go_wp2
        go_ret2
        exact ⟨rfl, hBw⟩
      · obtain ⟨i, hi, hil, hpi, _, _⟩ := first_at' (gp := gp) (e := k) (by omega)
        have hA2 : Hid (∀ j, j < k + 1 → 0 ≤ loopF gp j) := by
          intro j hj
          rcases Nat.lt_or_ge j k with h | h
          · exact hA.out j h
          · obtain rfl : j = k := by omega
            rw [hi]
            omega
        have hst := hstepH.out
        rw [hpi] at hst
        rw [hi] at y0 hneg
        obtain ⟨pb, po, hPA, hpb, z4, z5, z6, z7⟩ := places_at (h0.now hBV) i hil
        subst hPA
        have hpr := (okGraph_place hq.out (List.getElem_mem hil)).2.2
        obtain ⟨p, hp⟩ : ∃ p, gp[i] = p := ⟨_, rfl⟩
        rw [hp] at z4 z5 z6 z7 hpr hst
        obtain ⟨ps, pd, pdl, pt⟩ := p
        simp only at z4 z5 z6 z7 hpr
        obtain ⟨dn, rfl⟩ := Int.eq_ofNat_of_zero_le hpr.1.1
        obtain ⟨tn, rfl⟩ := Int.eq_ofNat_of_zero_le hpr.2.1
        have hstH := Lib.hid hst
        have hi1 := Lib.hid hi
        clear hst hi hp hpi hstepH hneg
        have i0 : ¬ (i : Int) < 0 := by omega
        have j1 : (0 : Int) ≤ (i : Int) := by omega
        have j2 : (i : Int) < (gp.length : Int) := by omega
        generalize outS gp N k = os at *
        go_wp2
        have hBd : Below V.heap.size V V.drew := Below.drew (Below.refl _ V)
        have z1 : V.drew.cell? ⟨w.heap.size, 1, none⟩ = some (.slice (some ⟨pb, po, none⟩) gp.length c) := hbX6.c2.2
        have z2 : V.drew.cell? ⟨eb, 0, none⟩ = some (.int .i64 (k : Nat)) := y1
        have z3 : V.drew.cell? ⟨w.heap.size + 1 + 1, k, none⟩ = some (.int .i64 (i : Nat)) := y0
        replace z4 : V.drew.cell? ⟨pb, po + i * 4, none⟩ = some (.int .i64 ps) := z4
        replace z5 : V.drew.cell? ⟨pb, po + i * 4 + 1, none⟩ = some (.int .i64 pd) := z5
        replace z6 : V.drew.cell? ⟨pb, po + i * 4 + 2, none⟩ = some (.int .i64 (dn : Nat)) := z6
        replace z7 : V.drew.cell? ⟨pb, po + i * 4 + 3, none⟩ = some (.int .i64 (tn : Nat)) := z7
        have hBp : Below V.heap.size V.drew (V.drew.alloc (.cells #[.int .i64 0, .int .i64 0, .int .i64 0, .int .i64 0] 57)) := (Below.refl _ V.drew).alloc (Nat.le_refl _) _
        have y1 := cell_keep (w := V.drew) z1 hBp
        have y2 := cell_keep (w := V.drew) z2 hBp
        have y3 := cell_keep (w := V.drew) z3 hBp
        have y4 := cell_keep (w := V.drew) z4 hBp
        have y5 := cell_keep (w := V.drew) z5 hBp
        have y6 := cell_keep (w := V.drew) z6 hBp
        have y7 := cell_keep (w := V.drew) z7 hBp
        refine wp_region_E (fun w' => w'.cell? ⟨w.heap.size, 1, none⟩ = some (.slice (some ⟨pb, po, none⟩) gp.length c) ∧ w'.cell? ⟨eb, 0, none⟩ = some (.int .i64 (k : Nat)) ∧ w'.cell? ⟨w.heap.size + 1 + 1, k, none⟩ = some (.int .i64 (i : Nat)) ∧ w'.cell? ⟨pb, po + i * 4, none⟩ = some (.int .i64 ps) ∧ w'.cell? ⟨pb, po + i * 4 + 1, none⟩ = some (.int .i64 pd) ∧ w'.cell? ⟨pb, po + i * 4 + 2, none⟩ = some (.int .i64 (dn : Nat)) ∧ w'.cell? ⟨pb, po + i * 4 + 3, none⟩ = some (.int .i64 (tn : Nat))) 9 (by kernel_rfl) ?_
        have hS0 : (fun w' : World => w'.cell? ⟨w.heap.size, 1, none⟩ = some (.slice (some ⟨pb, po, none⟩) gp.length c) ∧ w'.cell? ⟨eb, 0, none⟩ = some (.int .i64 (k : Nat)) ∧ w'.cell? ⟨w.heap.size + 1 + 1, k, none⟩ = some (.int .i64 (i : Nat)) ∧ w'.cell? ⟨pb, po + i * 4, none⟩ = some (.int .i64 ps) ∧ w'.cell? ⟨pb, po + i * 4 + 1, none⟩ = some (.int .i64 pd) ∧ w'.cell? ⟨pb, po + i * 4 + 2, none⟩ = some (.int .i64 (dn : Nat)) ∧ w'.cell? ⟨pb, po + i * 4 + 3, none⟩ = some (.int .i64 (tn : Nat))) V.drew := ⟨z1, z2, z3, z4, z5, z6, z7⟩
        refine wpAnyE_take (i := 0) (v := ?_) rfl (by kernel_rfl) (by kernel_rfl) (by kernel_rfl) (by kernel_rfl) (by kernel_rfl) (fun _ _ _ h => h) hS0 (by rfl) ?_ ?_
        rotate_left
        · intro w9 hSw
          try dsimp only at hSw
          obtain ⟨s0, s1, s2, s3, s4, s5, s6⟩ := hSw
          go_simp
          try with_reducible rfl
        try simp only [Act.put, List.setIfInBounds_toArray, List.set_cons_zero, List.set_cons_succ]
        refine wpAnyE_take (i := 1) (v := ?_) rfl (by kernel_rfl) (by kernel_rfl) (by kernel_rfl) (by kernel_rfl) (by kernel_rfl) (fun _ _ _ h => h) hS0 (by rfl) ?_ ?_
        rotate_left
        · intro w9 hSw
          try dsimp only at hSw
          obtain ⟨s0, s1, s2, s3, s4, s5, s6⟩ := hSw
          go_simp
          try with_reducible rfl
        try simp only [Act.put, List.setIfInBounds_toArray, List.set_cons_zero, List.set_cons_succ]
        refine wpAnyE_take (i := 2) (v := ?_) rfl (by kernel_rfl) (by kernel_rfl) (by kernel_rfl) (by kernel_rfl) (by kernel_rfl) (fun _ _ _ h => h) hS0 (by rfl) ?_ ?_
        rotate_left
        · intro w9 hSw
          try dsimp only at hSw
          obtain ⟨s0, s1, s2, s3, s4, s5, s6⟩ := hSw
          go_simp
          try with_reducible rfl
        try simp only [Act.put, List.setIfInBounds_toArray, List.set_cons_zero, List.set_cons_succ]
        refine wpAnyE_take (i := 3) (v := ?_) rfl (by kernel_rfl) (by kernel_rfl) (by kernel_rfl) (by kernel_rfl) (by kernel_rfl) (fun _ _ _ h => h) hS0 (by rfl) ?_ ?_
        rotate_left
        · intro w9 hSw
          try dsimp only at hSw
          obtain ⟨s0, s1, s2, s3, s4, s5, s6⟩ := hSw
          go_simp
          try with_reducible rfl
        try simp only [Act.put, List.setIfInBounds_toArray, List.set_cons_zero, List.set_cons_succ]
        refine wpAnyE_take (i := 4) (v := ?_) rfl (by kernel_rfl) (by kernel_rfl) (by kernel_rfl) (by kernel_rfl) (by kernel_rfl) (fun _ _ _ h => h) hS0 (by rfl) ?_ ?_
        rotate_left
        · intro w9 hSw
          try dsimp only at hSw
          obtain ⟨s0, s1, s2, s3, s4, s5, s6⟩ := hSw
          go_simp
          try with_reducible rfl
        try simp only [Act.put, List.setIfInBounds_toArray, List.set_cons_zero, List.set_cons_succ]
        refine wpAnyE_take (i := 5) (v := ?_) rfl (by kernel_rfl) (by kernel_rfl) (by kernel_rfl) (by kernel_rfl) (by kernel_rfl) (fun _ _ _ h => h) hS0 (by rfl) ?_ ?_
        rotate_left
        · intro w9 hSw
          try dsimp only at hSw
          obtain ⟨s0, s1, s2, s3, s4, s5, s6⟩ := hSw
          go_simp
          try with_reducible rfl
        try simp only [Act.put, List.setIfInBounds_toArray, List.set_cons_zero, List.set_cons_succ]
        refine wpAnyE_take (i := 6) (v := ?_) rfl (by kernel_rfl) (by kernel_rfl) (by kernel_rfl) (by kernel_rfl) (by kernel_rfl) (fun _ _ _ h => h) hS0 (by rfl) ?_ ?_
        rotate_left
        · intro w9 hSw
          try dsimp only at hSw
          obtain ⟨s0, s1, s2, s3, s4, s5, s6⟩ := hSw
          go_simp
          try with_reducible rfl
        try simp only [Act.put, List.setIfInBounds_toArray, List.set_cons_zero, List.set_cons_succ]
        refine wpAnyE_take (i := 7) (v := ?_) rfl (by kernel_rfl) (by kernel_rfl) (by kernel_rfl) (by kernel_rfl) (by kernel_rfl) (fun _ _ _ h => h) hS0 (by rfl) ?_ ?_
        rotate_left
        · intro w9 hSw
          try dsimp only at hSw
          obtain ⟨s0, s1, s2, s3, s4, s5, s6⟩ := hSw
          go_simp
          try with_reducible rfl
        try simp only [Act.put, List.setIfInBounds_toArray, List.set_cons_zero, List.set_cons_succ]
        refine wpAnyE_one (i := 8) rfl (by kernel_rfl) (fun K hK => ?_)
        go_simp
        refine hK.out _ _ (fun _ => ⟨y1, y2, y3, y4, y5, y6, y7⟩) ?_
        clear hK K
        try simp only [Act.put, List.setIfInBounds_toArray, List.set_cons_zero, List.set_cons_succ]
        refine wpAnyE_one (i := 9) rfl (by kernel_rfl) (fun K hK => ?_)
        go_simp
        refine hK.out _ _ (fun h => absurd rfl h) ?_
        clear hK K
        try simp only [Act.put, List.setIfInBounds_toArray, List.set_cons_zero, List.set_cons_succ]
        refine wpAnyE_done (by kernel_rfl) ?_
        have hbp := (Blk.newAt V (t := 57) (cs := #[.int .i64 ps, .int .i64 pd, .int .i64 (dn : Nat), .int .i64 (tn : Nat)]) V.heap.size rfl).now (Below.drew (Below.refl _ _))
        have hBY : Below V.heap.size V (V.alloc (.cells #[.int .i64 ps, .int .i64 pd, .int .i64 (dn : Nat), .int .i64 (tn : Nat)] 57)).drew := ((Below.refl _ V).alloc (Nat.le_refl _) _).drew
        generalize (V.alloc (.cells #[.int .i64 ps, .int .i64 pd, .int .i64 (dn : Nat), .int .i64 (tn : Nat)] 57)).drew = Y0 at *
        obtain ⟨Y, rfl⟩ : ∃ Y : World, Y = Y0 := ⟨_, rfl⟩
        have hVs : w.heap.size + 1 ≤ V.heap.size := by rw [← hs0.out]; exact hBV.size
        obtain ⟨bp, hbpE⟩ : ∃ bp, V.heap.size = bp := ⟨_, rfl⟩
        have hbpne : bp ≠ w.heap.size + 1 := by omega
        have hYd : Below Y.heap.size Y Y.drew := Below.drew (Below.refl _ Y)
        have hBVd : Below V.heap.size V Y.drew := hBY.trans (hYd.mono hBY.size)
        replace hBl := hBl6.now hBVd
        have hO2 := hO1.now hBVd
        have hYw : Below w.heap.size w Y.drew := hBw.trans (hBVd.mono hBw.size)
        have hYws := hYw.size
        have hYs : w.heap.size + 1 ≤ Y.drew.heap.size := Nat.le_trans hVs hBVd.size
        have hB7 : Below (w.heap.size + 1) W0 Y.drew := hB6.trans (hBVd.mono hVs)
        rw [hbpE] at hbp ⊢
        replace hbp := hbp.now hYd
        replace z1 : Y.drew.cell? ⟨bp, 2, none⟩ = some (.int .i64 (dn : Nat)) := hbp.c4.2.2.1
        replace z2 : Y.drew.cell? ⟨bp, 3, none⟩ = some (.int .i64 (tn : Nat)) := hbp.c4.2.2.2
        have hls := lineT_stat_size (p := ⟨ps, pd, (dn : Nat), (tn : Nat)⟩) hnsz hpr.1 hpr.2
        rw [← line_stat_eq] at hls
        have hlsH := Lib.hid hls
        have hd1 := decB_size dn
        have hd2 := decB_size tn
        have q1 : ¬ 9223372036854775807 < 8 + nm.size := by omega
        have q2 : ¬ 9223372036854775807 < 8 + nm.size + 1 := by omega
        have q3 : ¬ 9223372036854775807 < 8 + nm.size + 1 + (decB dn).size := by omega
        have q4 : ¬ 9223372036854775807 < 8 + nm.size + 1 + (decB dn).size + 1 := by omega
        have q5 : ¬ 9223372036854775807 < 8 + nm.size + 1 + (decB dn).size + 1 + (decB tn).size := by omega
        have q6 : ¬ 9223372036854775807 < 8 + nm.size + 1 + (decB dn).size + 1 + (decB tn).size + 1 := by omega
        clear hbpE hBY hBl6 hO1 hB6 hBVd hYd hBd hBp y1 y2 y3 y4 y5 y6 y7 z3 z4 z5 z6 z7 heb6 hbX6 hBV hBw hls y0 l1
        go_wp2
        refine wp_region_held_drew (S := fun w' => w'.cell? ⟨bp, 2, none⟩ = some (.int .i64 (dn : Nat)) ∧ w'.cell? ⟨bp, 3, none⟩ = some (.int .i64 (tn : Nat))) (by kernel_rfl) ⟨z1, z2⟩ (fun hH => ?_)
        refine tkH 0 (v := ?_) rfl (fun _ _ _ h => h) (Or.inl ⟨by rfl, ?_⟩) hH ?_
        rotate_left
        · intro w9 hSw
          try dsimp only at hSw
          obtain ⟨s0, s1⟩ := hSw
          go_simp
          try with_reducible rfl
        try simp only [Act.put, List.setIfInBounds_toArray, List.set_cons_zero, List.set_cons_succ]
        refine tkH 1 (v := ?_) rfl (fun _ _ _ h => h) (Or.inl ⟨by rfl, ?_⟩) hH ?_
        rotate_left
        · intro w9 hSw
          try dsimp only at hSw
          obtain ⟨s0, s1⟩ := hSw
          go_simp
          try with_reducible rfl
        try simp only [Act.put, List.setIfInBounds_toArray, List.set_cons_zero, List.set_cons_succ]
        refine tkH 2 (v := ?_) rfl (fun _ _ _ h => h) (Or.inl ⟨by rfl, ?_⟩) hH ?_
        rotate_left
        · intro w9 hSw
          try dsimp only at hSw
          obtain ⟨s0, s1⟩ := hSw
          go_simp
          try with_reducible rfl
        try simp only [Act.put, List.setIfInBounds_toArray, List.set_cons_zero, List.set_cons_succ]
        refine tkH 3 (v := ?_) rfl (fun _ _ _ h => h) (Or.inl ⟨by rfl, ?_⟩) hH ?_
        rotate_left
        · intro w9 hSw
          try dsimp only at hSw
          obtain ⟨s0, s1⟩ := hSw
          go_simp
          try with_reducible rfl
        try simp only [Act.put, List.setIfInBounds_toArray, List.set_cons_zero, List.set_cons_succ]
        refine tkH 4 (v := ?_) rfl (fun _ _ _ h => h) (Or.inl ⟨by rfl, ?_⟩) hH ?_
        rotate_left
        · intro w9 hSw
          try dsimp only at hSw
          obtain ⟨s0, s1⟩ := hSw
          go_simp
          try with_reducible rfl
        try simp only [Act.put, List.setIfInBounds_toArray, List.set_cons_zero, List.set_cons_succ]
        refine tkH 8 (v := ?_) rfl (fun _ _ _ h => h) (Or.inl ⟨by rfl, ?_⟩) hH ?_
        rotate_left
        · intro w9 hSw
          try dsimp only at hSw
          obtain ⟨s0, s1⟩ := hSw
          go_simp
          try with_reducible rfl
        try simp only [Act.put, List.setIfInBounds_toArray, List.set_cons_zero, List.set_cons_succ]
        refine tkH 9 (v := ?_) rfl (fun _ _ _ h => h) (Or.inl ⟨by rfl, ?_⟩) hH ?_
        rotate_left
        · intro w9 hSw
          try dsimp only at hSw
          obtain ⟨s0, s1⟩ := hSw
          go_simp
          try with_reducible rfl
        try simp only [Act.put, List.setIfInBounds_toArray, List.set_cons_zero, List.set_cons_succ]
        refine wpAnyH_ready (rs := [5]) (by kernel_rfl) (by simp) ?_
        refine AllReadyH.cons rfl (fun K hK => ?_) AllReadyH.nil
        go_simp
        go_at_call 50
        refine (impl_decimal (dn : Nat) _ (hTall.out _ hYw) (by omega) (by omega)).mono ?_
        rintro ea va ⟨rfl, hba⟩
        have z1a := cell_keep (w := Y.drew) z1 hba
        have z2a := cell_keep (w := Y.drew) z2 hba
        refine hK.out _ _ ⟨z1a, z2a⟩ (fun hH => ?_)
        clear hK K
        try simp only [Act.put, List.setIfInBounds_toArray, List.set_cons_zero, List.set_cons_succ]
        refine tkH 6 (v := ?_) rfl (fun _ _ _ h => h) (Or.inl ⟨by rfl, ?_⟩) hH ?_
        rotate_left
        · intro w9 hSw
          try dsimp only at hSw
          obtain ⟨s0, s1⟩ := hSw
          go_simp
          try with_reducible rfl
        try simp only [Act.put, List.setIfInBounds_toArray, List.set_cons_zero, List.set_cons_succ]
        refine tkH 7 (v := ?_) rfl (fun _ _ _ h => h) (Or.inl ⟨by rfl, ?_⟩) hH ?_
        rotate_left
        · intro w9 hSw
          try dsimp only at hSw
          obtain ⟨s0, s1⟩ := hSw
          go_simp
          try with_reducible rfl
        try simp only [Act.put, List.setIfInBounds_toArray, List.set_cons_zero, List.set_cons_succ]
        refine wpAnyH_ready (rs := [10]) (by kernel_rfl) (by simp) ?_
        refine AllReadyH.cons rfl (fun K hK => ?_) AllReadyH.nil
        go_simp
        go_at_call 50
        refine (impl_decimal (tn : Nat) _ (hTall.out _ (hYw.trans (hba.mono hYws))) (by omega) (by omega)).mono ?_
        rintro eb vb ⟨rfl, hbb⟩
        have z1ab := cell_keep (w := va) z1a hbb
        have z2ab := cell_keep (w := va) z2a hbb
        have hbpb := hbp.now (hba.trans (hbb.mono hba.size))
        have hBlb := hBl.now (hba.trans (hbb.mono hba.size))
        have hBsb : w.heap.size + 1 ≤ vb.heap.size := Nat.le_trans hYs (hba.trans (hbb.mono hba.size)).size
        refine hK.out _ _ ⟨z1ab, z2ab⟩ (fun hH => ?_)
        clear hK K
        try simp only [Act.put, List.setIfInBounds_toArray, List.set_cons_zero, List.set_cons_succ]
        refine tkH 11 (v := ?_) rfl (fun _ _ _ h => h) (Or.inl ⟨by rfl, ?_⟩) hH ?_
        rotate_left
        · intro w9 hSw
          try dsimp only at hSw
          obtain ⟨s0, s1⟩ := hSw
          go_simp
          try with_reducible rfl
        try simp only [Act.put, List.setIfInBounds_toArray, List.set_cons_zero, List.set_cons_succ]
        refine tkH 12 (v := ?_) rfl (fun _ _ _ h => h) (Or.inl ⟨by rfl, ?_⟩) hH ?_
        rotate_left
        · intro w9 hSw
          try dsimp only at hSw
          obtain ⟨s0, s1⟩ := hSw
          go_simp
          try with_reducible rfl
        try simp only [Act.put, List.setIfInBounds_toArray, List.set_cons_zero, List.set_cons_succ]
        refine wpAnyH_ready (rs := [13]) (by kernel_rfl) (by simp) ?_
        refine AllReadyH.cons rfl (fun K hK => ?_) AllReadyH.nil
        go_simp
        go_at_call 49
        refine (builder_write (w.heap.size + 1) (w.heap.size + 1) _ _ vb hBlb (Nat.le_trans (Nat.add_le_add_left hlsH.out _) (by omega)) hBsb).mono ?_
        rintro e13 v13 ⟨n13, rfl, hBl13, hB13, hK13⟩
        have u1 := (Kept.blk hbpb hK13 (by decide) hbpne).c4.2.2.1
        have u2 := (Kept.blk hbpb hK13 (by decide) hbpne).c4.2.2.2
        refine hK.out _ _ ⟨u1, u2⟩ (fun hH => ?_)
        clear hK K
        try simp only [Act.put, List.setIfInBounds_toArray, List.set_cons_zero, List.set_cons_succ]
        refine wpAnyH_done (by kernel_rfl) ?_ _
        have hab := hba.trans (hbb.mono hba.size)
        have hO9 := Kept.own (hO2.now hab) hK13 (by decide) (by intro e; injection e with e; have e : w.heap.size + 1 + 1 = w.heap.size + 1 := e; omega)
        have hB9 := (hB7.trans (hab.mono hYs)).trans hB13
        rw [line_stat_eq nm ⟨ps, pd, (dn : Nat), (tn : Nat)⟩, ← hstH.out] at hBl13
        clear hH hab hO2 hK13 hB13 hB7 hba hbb
        go_wp2
        go_roundw
        case rel => exact ⟨k + 1, hlt, by go_num, hA2, hO9, hBl13, hB9⟩
        case measure => simp [intOf] <;> omega
    · obtain rfl : k = N.length := by omega
      have hgood := loops_good hA.out
      rw [fillL_all] at hO
      rw [← outR_zero] at hBl
      obtain ⟨wq, rfl⟩ : ∃ wq : World, wq = wr := ⟨_, rfl⟩
      have hTr : Hid (true = T) := hgood.symm.trans hTt.out
      obtain rfl := hTr.out
      obtain ⟨L, hL⟩ : ∃ L, loopsF gp N.length = L := ⟨_, rfl⟩
      rw [hL] at hO
      have hLH := Lib.hid hL
      have hBq := hBx.trans (hB.mono hBx.size)
      clear hL hgood hA
      go_wp2
      clear k0 k1 l0
      go_loopw [11, 12, 61] (fun _ _ i wr => ∃ k : Nat, k ≤ gp.length ∧ i = .int .i64 k ∧ Own intCell 1 3 wr (w.heap.size + 1) (.slice (some ⟨w.heap.size + 1 + 1, 0, none⟩) N.length N.length) L ∧ Bld (w.heap.size + 1) (w.heap.size + 1) (outR gp N k) wr ∧ Below (w.heap.size + 1) W0 wr) (fun _ _ i _ => gp.length - (intOf i).toNat)
      case atStart => exact ⟨0, Nat.zero_le _, rfl, hO, hBl, hB0⟩
      case round =>
        clear hO hBl hB0 hB hs hs' hbr hBq
        obtain ⟨k, hk, rfl, hO, hBl, hB0⟩ := hrel
        have hB : Below W0.heap.size W0 wr := by rw [hs0.out]; exact hB0
        have hs := hB.size
        have hs' : w.heap.size + 1 ≤ wr.heap.size := by rw [← hs0.out]; exact hs
        by_cases hlt : k < gp.length
        · have i1 : (0 : Int) ≤ (k : Int) := by omega
          have i2 : (k : Int) < (gp.length : Int) := by omega
          obtain ⟨pb, po, hPA, hpb, y0, y1, y2, y3⟩ := places_at (h0.now hB) k hlt
          subst hPA
          have hpr := okGraph_place hq.out (List.getElem_mem hlt)
          have hosz := outR_size hq.out hn.out (by omega) k (by omega)
          have hused := Lib.hid (fun h => outR_used gp N k h)
          have hnext := Lib.hid (fun h => outR_next gp N k hlt h)
          obtain ⟨p, hp⟩ : ∃ p, gp[k] = p := ⟨_, rfl⟩
          rw [hp] at y0 y1 y2 y3 hpr hnext
          obtain ⟨ps, pd, pdl, pt⟩ := p
          simp only at y0 y1 y2 y3 hpr
          obtain ⟨sn, rfl⟩ := Int.eq_ofNat_of_zero_le hpr.1.1
          obtain ⟨en, rfl⟩ := Int.eq_ofNat_of_zero_le hpr.2.1.1
          obtain ⟨dn, rfl⟩ := Int.eq_ofNat_of_zero_le hpr.2.2.1.1
          obtain ⟨tn, rfl⟩ := Int.eq_ofNat_of_zero_le hpr.2.2.2.1
          have hsn : sn < N.length := by omega
          have hen : en < N.length := by omega
          have hBa : Below wr.heap.size wr (wr.alloc (.cells #[.int .i64 (sn : Nat), .int .i64 (en : Nat), .int .i64 (dn : Nat), .int .i64 (tn : Nat)] 57)) := (Below.refl _ _).alloc (Nat.le_refl _) _
          have hbp := Blk.newAt wr (t := 57) (cs := #[.int .i64 (sn : Nat), .int .i64 (en : Nat), .int .i64 (dn : Nat), .int .i64 (tn : Nat)]) _ rfl
          have hBX := hB0.trans (hBa.mono hs')
          have hbpne : wr.heap.size ≠ w.heap.size + 1 := by have := hBl.lt; omega
          replace hO := hO.now hBa
          replace hBl := hBl.now hBa
          have hsX : w.heap.size + 1 ≤ (wr.alloc (.cells #[.int .i64 (sn : Nat), .int .i64 (en : Nat), .int .i64 (dn : Nat), .int .i64 (tn : Nat)] 57)).heap.size := Nat.le_trans hs' hBa.size
          clear hp
          go_wp2_with fail
          generalize wr.alloc (.cells #[.int .i64 (sn : Nat), .int .i64 (en : Nat), .int .i64 (dn : Nat), .int .i64 (tn : Nat)] 57) = X at *
          obtain ⟨bp, hbpE⟩ : ∃ bp, wr.heap.size = bp := ⟨_, rfl⟩
          rw [hbpE] at hbp hbpne ⊢
          clear hbpE
          refine (slices_Contains_int _ _ _ _ hO.lst).mono ?_
          rintro e w6 ⟨rfl, rfl⟩
          obtain ⟨nb, no, hNA, hnb, z4⟩ := strs_at (h1.now (show Below W0.heap.size W0 X by rw [hs0.out]; exact hBX)) sn hsn
          obtain ⟨nb2, no2, hNA2, _, z5⟩ := strs_at (h1.now (show Below W0.heap.size W0 X by rw [hs0.out]; exact hBX)) en hen
          have hnbB : nb < w.heap.size + 1 := by
            obtain ⟨nb', no', e1, e2, _⟩ := strs_at h1 sn hsn
            rw [hNA] at e1
            cases e1
            rw [hs0.out] at e2
            exact e2
          subst hNA
          cases hNA2
          have hm1 := nameOk_size (hn.out _ (List.getElem_mem hsn))
          have hm2 := nameOk_size (hn.out _ (List.getElem_mem hen))
          have hg1 : nmAt N (sn : Nat) = N[sn] := by unfold nmAt; rw [Int.toNat_natCast, List.getD_eq_getElem?_getD, List.getElem?_eq_getElem hsn]; rfl
          have hg2 : nmAt N (en : Nat) = N[en] := by unfold nmAt; rw [Int.toNat_natCast, List.getD_eq_getElem?_getD, List.getElem?_eq_getElem hen]; rfl
          have hrs := lineT_rest_size (N := N) (p := ⟨(sn : Nat), (en : Nat), (dn : Nat), (tn : Nat)⟩) (nmAt_size hn.out _) (nmAt_size hn.out _) hpr.2.2.1 hpr.2.2.2
          obtain ⟨n1, hn1⟩ : ∃ n1, N[sn] = n1 := ⟨_, rfl⟩
          obtain ⟨n2, hn2⟩ : ∃ n2, N[en] = n2 := ⟨_, rfl⟩
          rw [hn1] at z4 hm1 hg1
          rw [hn2] at z5 hm2 hg2
          have lp := hbp.lt
          have hg1H := Lib.hid hg1
          have hg2H := Lib.hid hg2
          have hrsH := Lib.hid hrs
          have hcon : Hid (hasI L (k : Int) = (loopsF gp N.length).contains (k : Int)) := by
            show _ = _
            rw [hLH.out, Bool.eq_iff_iff, hasI_iff]
            simp
          obtain ⟨R0, hR0⟩ : ∃ R0, outR gp N k = R0 := ⟨_, rfl⟩
          have hR0H := Lib.hid hR0
          rw [hR0] at hosz hBl
          obtain ⟨U, hU⟩ : ∃ U, hasI L (k : Int) = U := ⟨_, rfl⟩
          have hUH := Lib.hid hU
          rw [hU]
          clear hn1 hn2 hg1 hg2 hrs hR0 hU y0 y1 y2 y3 hpb hnb hB hB0 hs hs'
          cases U with
          | true =>
            have hsame : Hid (outR gp N (k + 1) = R0) := by
              show _ = _
              rw [hused.out (hcon.out.symm.trans hUH.out), hR0H.out]
            go_wp2
            go_roundw
            case rel => exact ⟨k + 1, hlt, by go_num, hO, by rw [hsame.out]; exact hBl, hBX⟩
            case measure => simp [intOf] <;> omega
          | false =>
            have hstep := Lib.hid (hnext.out (hcon.out.symm.trans hUH.out))
            have hd1 := decB_size dn
            have hd2 := decB_size tn
            have j1 : (0 : Int) ≤ (sn : Int) := by omega
            have j2 : (sn : Int) < (N.length : Int) := by omega
            have j3 : (0 : Int) ≤ (en : Int) := by omega
            have j4 : (en : Int) < (N.length : Int) := by omega
            have hXd : Below X.heap.size X X.drew := Below.drew (Below.refl _ X)
            have hbX := hbp
            replace hbp := hbp.now hXd
            replace hO := hO.now hXd
            replace hBl := hBl.now hXd
            have hB7 := hBX.trans (hXd.mono hsX)
            have hYs : w.heap.size + 1 ≤ X.drew.heap.size := hsX
            have hYw : Below w.heap.size w X.drew := hBx.trans ((show Below W0.heap.size W0 X.drew by rw [hs0.out]; exact hB7).mono hBx.size)
            have hYws := hYw.size
            obtain ⟨x1, x2, x3, x6⟩ := hbX.c4
            have z1 : X.drew.cell? ⟨bp, 0, none⟩ = some (.int .i64 (sn : Nat)) := x1
            have z2 : X.drew.cell? ⟨bp, 1, none⟩ = some (.int .i64 (en : Nat)) := x2
            have z3 : X.drew.cell? ⟨bp, 2, none⟩ = some (.int .i64 (dn : Nat)) := x3
            have z6 : X.drew.cell? ⟨bp, 3, none⟩ = some (.int .i64 (tn : Nat)) := x6
            replace z4 : X.drew.cell? ⟨nb, no + sn, none⟩ = some (.string n1) := z4
            replace z5 : X.drew.cell? ⟨nb, no + en, none⟩ = some (.string n2) := z5
            clear hXd hBX hbX
            by_cases ht0 : tn = 0
            · have ht0H := Lib.hid ht0
              have hq0 : ((tn : Int) == 0) = true := by simp [ht0]
              have q1 : ¬ 9223372036854775807 < 5 + n1.size := by omega
              have q2 : ¬ 9223372036854775807 < 5 + n1.size + 1 := by omega
              have q3 : ¬ 9223372036854775807 < 5 + n1.size + 1 + n2.size := by omega
              have q4 : ¬ 9223372036854775807 < 5 + n1.size + 1 + n2.size + 1 := by omega
              have q5 : ¬ 9223372036854775807 < 5 + n1.size + 1 + n2.size + 1 + (decB dn).size := by omega
              have q6 : ¬ 9223372036854775807 < 5 + n1.size + 1 + n2.size + 1 + (decB dn).size + 1 := by omega
              have hls := hrsH.out
              rw [← line_move_eq _ _ (by simp [ht0]), hg1H.out, hg2H.out] at hls
              have hlsH := Lib.hid hls
              clear ht0 hls
              go_wp2
              refine wp_region_held_drew (S := fun w' => w'.cell? ⟨bp, 0, none⟩ = some (.int .i64 (sn : Nat)) ∧ w'.cell? ⟨bp, 1, none⟩ = some (.int .i64 (en : Nat)) ∧ w'.cell? ⟨bp, 2, none⟩ = some (.int .i64 (dn : Nat)) ∧ w'.cell? ⟨bp, 3, none⟩ = some (.int .i64 (tn : Nat)) ∧ w'.cell? ⟨nb, no + sn, none⟩ = some (.string n1) ∧ w'.cell? ⟨nb, no + en, none⟩ = some (.string n2)) (by kernel_rfl) ⟨z1, z2, z3, z6, z4, z5⟩ (fun hH => ?_)
              refine tkH 0 (v := ?_) rfl (fun _ _ _ h => h) (Or.inl ⟨by rfl, ?_⟩) hH ?_
              rotate_left
              · intro w9 hSw
                try dsimp only at hSw
                obtain ⟨s0, s1, s2, s3, s4, s5⟩ := hSw
                go_simp
                try with_reducible rfl
              try simp only [Act.put, List.setIfInBounds_toArray, List.set_cons_zero, List.set_cons_succ]
              refine tkH 1 (v := ?_) rfl (fun _ _ _ h => h) (Or.inl ⟨by rfl, ?_⟩) hH ?_
              rotate_left
              · intro w9 hSw
                try dsimp only at hSw
                obtain ⟨s0, s1, s2, s3, s4, s5⟩ := hSw
                go_simp
                try with_reducible rfl
              try simp only [Act.put, List.setIfInBounds_toArray, List.set_cons_zero, List.set_cons_succ]
              refine tkH 2 (v := ?_) rfl (fun _ _ _ h => h) (Or.inl ⟨by rfl, ?_⟩) hH ?_
              rotate_left
              · intro w9 hSw
                try dsimp only at hSw
                obtain ⟨s0, s1, s2, s3, s4, s5⟩ := hSw
                go_simp
                try with_reducible rfl
              try simp only [Act.put, List.setIfInBounds_toArray, List.set_cons_zero, List.set_cons_succ]
              refine tkH 3 (v := ?_) rfl (fun _ _ _ h => h) (Or.inl ⟨by rfl, ?_⟩) hH ?_
              rotate_left
              · intro w9 hSw
                try dsimp only at hSw
                obtain ⟨s0, s1, s2, s3, s4, s5⟩ := hSw
                go_simp
                try with_reducible rfl
              try simp only [Act.put, List.setIfInBounds_toArray, List.set_cons_zero, List.set_cons_succ]
              refine tkH 4 (v := ?_) rfl (fun _ _ _ h => h) (Or.inl ⟨by rfl, ?_⟩) hH ?_
              rotate_left
              · intro w9 hSw
                try dsimp only at hSw
                obtain ⟨s0, s1, s2, s3, s4, s5⟩ := hSw
                go_simp
                try with_reducible rfl
              try simp only [Act.put, List.setIfInBounds_toArray, List.set_cons_zero, List.set_cons_succ]
              refine tkH 5 (v := ?_) rfl (fun _ _ _ h => h) (Or.inl ⟨by rfl, ?_⟩) hH ?_
              rotate_left
              · intro w9 hSw
                try dsimp only at hSw
                obtain ⟨s0, s1, s2, s3, s4, s5⟩ := hSw
                go_simp
                try with_reducible rfl
              try simp only [Act.put, List.setIfInBounds_toArray, List.set_cons_zero, List.set_cons_succ]
              refine tkH 6 (v := ?_) rfl (fun _ _ _ h => h) (Or.inl ⟨by rfl, ?_⟩) hH ?_
              rotate_left
              · intro w9 hSw
                try dsimp only at hSw
                obtain ⟨s0, s1, s2, s3, s4, s5⟩ := hSw
                go_simp
                try with_reducible rfl
              try simp only [Act.put, List.setIfInBounds_toArray, List.set_cons_zero, List.set_cons_succ]
              refine tkH 7 (v := ?_) rfl (fun _ _ _ h => h) (Or.inl ⟨by rfl, ?_⟩) hH ?_
              rotate_left
              · intro w9 hSw
                try dsimp only at hSw
                obtain ⟨s0, s1, s2, s3, s4, s5⟩ := hSw
                go_simp
                try with_reducible rfl
              try simp only [Act.put, List.setIfInBounds_toArray, List.set_cons_zero, List.set_cons_succ]
              refine tkH 8 (v := ?_) rfl (fun _ _ _ h => h) (Or.inl ⟨by rfl, ?_⟩) hH ?_
              rotate_left
              · intro w9 hSw
                try dsimp only at hSw
                obtain ⟨s0, s1, s2, s3, s4, s5⟩ := hSw
                go_simp
                try with_reducible rfl
              try simp only [Act.put, List.setIfInBounds_toArray, List.set_cons_zero, List.set_cons_succ]
              refine tkH 9 (v := ?_) rfl (fun _ _ _ h => h) (Or.inl ⟨by rfl, ?_⟩) hH ?_
              rotate_left
              · intro w9 hSw
                try dsimp only at hSw
                obtain ⟨s0, s1, s2, s3, s4, s5⟩ := hSw
                go_simp
                try with_reducible rfl
              try simp only [Act.put, List.setIfInBounds_toArray, List.set_cons_zero, List.set_cons_succ]
              refine tkH 10 (v := ?_) rfl (fun _ _ _ h => h) (Or.inl ⟨by rfl, ?_⟩) hH ?_
              rotate_left
              · intro w9 hSw
                try dsimp only at hSw
                obtain ⟨s0, s1, s2, s3, s4, s5⟩ := hSw
                go_simp
                try with_reducible rfl
              try simp only [Act.put, List.setIfInBounds_toArray, List.set_cons_zero, List.set_cons_succ]
              refine tkH 11 (v := ?_) rfl (fun _ _ _ h => h) (Or.inl ⟨by rfl, ?_⟩) hH ?_
              rotate_left
              · intro w9 hSw
                try dsimp only at hSw
                obtain ⟨s0, s1, s2, s3, s4, s5⟩ := hSw
                go_simp
                try with_reducible rfl
              try simp only [Act.put, List.setIfInBounds_toArray, List.set_cons_zero, List.set_cons_succ]
              refine tkH 12 (v := ?_) rfl (fun _ _ _ h => h) (Or.inl ⟨by rfl, ?_⟩) hH ?_
              rotate_left
              · intro w9 hSw
                try dsimp only at hSw
                obtain ⟨s0, s1, s2, s3, s4, s5⟩ := hSw
                go_simp
                try with_reducible rfl
              try simp only [Act.put, List.setIfInBounds_toArray, List.set_cons_zero, List.set_cons_succ]
              refine tkH 13 (v := ?_) rfl (fun _ _ _ h => h) (Or.inl ⟨by rfl, ?_⟩) hH ?_
              rotate_left
              · intro w9 hSw
                try dsimp only at hSw
                obtain ⟨s0, s1, s2, s3, s4, s5⟩ := hSw
                go_simp
                try with_reducible rfl
              try simp only [Act.put, List.setIfInBounds_toArray, List.set_cons_zero, List.set_cons_succ]
              refine tkH 14 (v := ?_) rfl (fun _ _ _ h => h) (Or.inl ⟨by rfl, ?_⟩) hH ?_
              rotate_left
              · intro w9 hSw
                try dsimp only at hSw
                obtain ⟨s0, s1, s2, s3, s4, s5⟩ := hSw
                go_simp
                try with_reducible rfl
              try simp only [Act.put, List.setIfInBounds_toArray, List.set_cons_zero, List.set_cons_succ]
              refine tkH 15 (v := ?_) rfl (fun _ _ _ h => h) (Or.inl ⟨by rfl, ?_⟩) hH ?_
              rotate_left
              · intro w9 hSw
                try dsimp only at hSw
                obtain ⟨s0, s1, s2, s3, s4, s5⟩ := hSw
                go_simp
                try with_reducible rfl
              try simp only [Act.put, List.setIfInBounds_toArray, List.set_cons_zero, List.set_cons_succ]
              refine wpAnyH_ready (rs := [16]) (by kernel_rfl) (by simp) ?_
              refine AllReadyH.cons rfl (fun K hK => ?_) AllReadyH.nil
              go_simp
              go_at_call 50
              refine (impl_decimal (dn : Nat) _ (hTall.out _ hYw) (by omega) (by omega)).mono ?_
              rintro ea va ⟨rfl, hba⟩
              have z1a := cell_keep (w := X.drew) z1 hba
              have z2a := cell_keep (w := X.drew) z2 hba
              have z3a := cell_keep (w := X.drew) z3 hba
              have z6a := cell_keep (w := X.drew) z6 hba
              have z4a := cell_keep (w := X.drew) z4 hba
              have z5a := cell_keep (w := X.drew) z5 hba
              have hBla := hBl.now (hba)
              have hbpa := hbp.now (hba)
              have hBsa : w.heap.size + 1 ≤ va.heap.size := Nat.le_trans hYs (hba).size
              refine hK.out _ _ ⟨z1a, z2a, z3a, z6a, z4a, z5a⟩ (fun hH => ?_)
              clear hK K
              try simp only [Act.put, List.setIfInBounds_toArray, List.set_cons_zero, List.set_cons_succ]
              refine tkH 17 (v := ?_) rfl (fun _ _ _ h => h) (Or.inl ⟨by rfl, ?_⟩) hH ?_
              rotate_left
              · intro w9 hSw
                try dsimp only at hSw
                obtain ⟨s0, s1, s2, s3, s4, s5⟩ := hSw
                go_simp
                try with_reducible rfl
              try simp only [Act.put, List.setIfInBounds_toArray, List.set_cons_zero, List.set_cons_succ]
              refine tkH 18 (v := ?_) rfl (fun _ _ _ h => h) (Or.inl ⟨by rfl, ?_⟩) hH ?_
              rotate_left
              · intro w9 hSw
                try dsimp only at hSw
                obtain ⟨s0, s1, s2, s3, s4, s5⟩ := hSw
                go_simp
                try with_reducible rfl
              try simp only [Act.put, List.setIfInBounds_toArray, List.set_cons_zero, List.set_cons_succ]
              refine wpAnyH_ready (rs := [19]) (by kernel_rfl) (by simp) ?_
              refine AllReadyH.cons rfl (fun K hK => ?_) AllReadyH.nil
              go_simp
              go_at_call 49
              refine (builder_write (w.heap.size + 1) (w.heap.size + 1) _ _ va hBla (Nat.le_trans (Nat.add_le_add_left hlsH.out _) (by omega)) hBsa).mono ?_
              rintro e13 v13 ⟨n13, rfl, hBl13, hB13, hK13⟩
              have hb13 := Kept.blk hbpa hK13 (by decide) hbpne
              have u1 := hb13.c4.1
              have u2 := hb13.c4.2.1
              have u3 := hb13.c4.2.2.1
              have u6 := hb13.c4.2.2.2
              have u4 := (hB13.cell (p := ⟨nb, no + sn, none⟩) (by show nb < w.heap.size + 1; omega)).trans z4a
              have u5 := (hB13.cell (p := ⟨nb, no + en, none⟩) (by show nb < w.heap.size + 1; omega)).trans z5a
              refine hK.out _ _ ⟨u1, u2, u3, u6, u4, u5⟩ (fun hH => ?_)
              clear hK K
              try simp only [Act.put, List.setIfInBounds_toArray, List.set_cons_zero, List.set_cons_succ]
              refine wpAnyH_done (by kernel_rfl) ?_ _
              have hO9 := Kept.own (hO.now hba) hK13 (by decide) (by intro e; injection e with e; have e : w.heap.size + 1 + 1 = w.heap.size + 1 := e; omega)
              have hB9 := (hB7.trans (hba.mono hYs)).trans hB13
              have hbl : Hid (R0 ++ ((((((⟨#[109, 111, 118, 101, 32]⟩ : ByteArray) ++ n1) ++ ⟨#[32]⟩) ++ n2) ++ ⟨#[32]⟩) ++ decB (dn : Nat) ++ ⟨#[10]⟩) = outR gp N (k + 1)) := by
                show _ = _
                rw [hstep.out, hR0H.out, ← line_move_eq _ _ (by simp [ht0H.out]), hg1H.out, hg2H.out]
              replace hBl13 : Bld (w.heap.size + 1) (w.heap.size + 1) (R0 ++ ((((((⟨#[109, 111, 118, 101, 32]⟩ : ByteArray) ++ n1) ++ ⟨#[32]⟩) ++ n2) ++ ⟨#[32]⟩) ++ decB (dn : Nat) ++ ⟨#[10]⟩)) v13 := hBl13
              rw [hbl.out] at hBl13
              clear hH hO hK13 hB13 hB7 hba
              go_wp2
              go_roundw
              case rel => exact ⟨k + 1, hlt, by go_num, hO9, hBl13, hB9⟩
              case measure => simp [intOf] <;> omega
            · have ht0H := Lib.hid ht0
              have hq0 : ((tn : Int) == 0) = false := by simp; omega
              have q1 : ¬ 9223372036854775807 < 5 + n2.size := by omega
              have q2 : ¬ 9223372036854775807 < 5 + n2.size + 1 := by omega
              have q3 : ¬ 9223372036854775807 < 5 + n2.size + 1 + n1.size := by omega
              have q4 : ¬ 9223372036854775807 < 5 + n2.size + 1 + n1.size + 1 := by omega
              have q5 : ¬ 9223372036854775807 < 5 + n2.size + 1 + n1.size + 1 + (decB dn).size := by omega
              have q6 : ¬ 9223372036854775807 < 5 + n2.size + 1 + n1.size + 1 + (decB dn).size + 1 := by omega
              have q7 : ¬ 9223372036854775807 < 5 + n2.size + 1 + n1.size + 1 + (decB dn).size + 1 + (decB tn).size := by omega
              have q8 : ¬ 9223372036854775807 < 5 + n2.size + 1 + n1.size + 1 + (decB dn).size + 1 + (decB tn).size + 1 := by omega
              have hls := hrsH.out
              rw [← line_cart_eq _ _ (by simp; exact ht0), hg1H.out, hg2H.out] at hls
              have hlsH := Lib.hid hls
              clear ht0 hls
              go_wp2
              refine wp_region_held_drew (S := fun w' => w'.cell? ⟨bp, 0, none⟩ = some (.int .i64 (sn : Nat)) ∧ w'.cell? ⟨bp, 1, none⟩ = some (.int .i64 (en : Nat)) ∧ w'.cell? ⟨bp, 2, none⟩ = some (.int .i64 (dn : Nat)) ∧ w'.cell? ⟨bp, 3, none⟩ = some (.int .i64 (tn : Nat)) ∧ w'.cell? ⟨nb, no + sn, none⟩ = some (.string n1) ∧ w'.cell? ⟨nb, no + en, none⟩ = some (.string n2)) (by kernel_rfl) ⟨z1, z2, z3, z6, z4, z5⟩ (fun hH => ?_)
              refine tkH 0 (v := ?_) rfl (fun _ _ _ h => h) (Or.inl ⟨by rfl, ?_⟩) hH ?_
              rotate_left
              · intro w9 hSw
                try dsimp only at hSw
                obtain ⟨s0, s1, s2, s3, s4, s5⟩ := hSw
                go_simp
                try with_reducible rfl
              try simp only [Act.put, List.setIfInBounds_toArray, List.set_cons_zero, List.set_cons_succ]
              refine tkH 1 (v := ?_) rfl (fun _ _ _ h => h) (Or.inl ⟨by rfl, ?_⟩) hH ?_
              rotate_left
              · intro w9 hSw
                try dsimp only at hSw
                obtain ⟨s0, s1, s2, s3, s4, s5⟩ := hSw
                go_simp
                try with_reducible rfl
              try simp only [Act.put, List.setIfInBounds_toArray, List.set_cons_zero, List.set_cons_succ]
              refine tkH 2 (v := ?_) rfl (fun _ _ _ h => h) (Or.inl ⟨by rfl, ?_⟩) hH ?_
              rotate_left
              · intro w9 hSw
                try dsimp only at hSw
                obtain ⟨s0, s1, s2, s3, s4, s5⟩ := hSw
                go_simp
                try with_reducible rfl
              try simp only [Act.put, List.setIfInBounds_toArray, List.set_cons_zero, List.set_cons_succ]
              refine tkH 3 (v := ?_) rfl (fun _ _ _ h => h) (Or.inl ⟨by rfl, ?_⟩) hH ?_
              rotate_left
              · intro w9 hSw
                try dsimp only at hSw
                obtain ⟨s0, s1, s2, s3, s4, s5⟩ := hSw
                go_simp
                try with_reducible rfl
              try simp only [Act.put, List.setIfInBounds_toArray, List.set_cons_zero, List.set_cons_succ]
              refine tkH 4 (v := ?_) rfl (fun _ _ _ h => h) (Or.inl ⟨by rfl, ?_⟩) hH ?_
              rotate_left
              · intro w9 hSw
                try dsimp only at hSw
                obtain ⟨s0, s1, s2, s3, s4, s5⟩ := hSw
                go_simp
                try with_reducible rfl
              try simp only [Act.put, List.setIfInBounds_toArray, List.set_cons_zero, List.set_cons_succ]
              refine tkH 5 (v := ?_) rfl (fun _ _ _ h => h) (Or.inl ⟨by rfl, ?_⟩) hH ?_
              rotate_left
              · intro w9 hSw
                try dsimp only at hSw
                obtain ⟨s0, s1, s2, s3, s4, s5⟩ := hSw
                go_simp
                try with_reducible rfl
              try simp only [Act.put, List.setIfInBounds_toArray, List.set_cons_zero, List.set_cons_succ]
              refine tkH 6 (v := ?_) rfl (fun _ _ _ h => h) (Or.inl ⟨by rfl, ?_⟩) hH ?_
              rotate_left
              · intro w9 hSw
                try dsimp only at hSw
                obtain ⟨s0, s1, s2, s3, s4, s5⟩ := hSw
                go_simp
                try with_reducible rfl
              try simp only [Act.put, List.setIfInBounds_toArray, List.set_cons_zero, List.set_cons_succ]
              refine tkH 7 (v := ?_) rfl (fun _ _ _ h => h) (Or.inl ⟨by rfl, ?_⟩) hH ?_
              rotate_left
              · intro w9 hSw
                try dsimp only at hSw
                obtain ⟨s0, s1, s2, s3, s4, s5⟩ := hSw
                go_simp
                try with_reducible rfl
              try simp only [Act.put, List.setIfInBounds_toArray, List.set_cons_zero, List.set_cons_succ]
              refine tkH 8 (v := ?_) rfl (fun _ _ _ h => h) (Or.inl ⟨by rfl, ?_⟩) hH ?_
              rotate_left
              · intro w9 hSw
                try dsimp only at hSw
                obtain ⟨s0, s1, s2, s3, s4, s5⟩ := hSw
                go_simp
                try with_reducible rfl
              try simp only [Act.put, List.setIfInBounds_toArray, List.set_cons_zero, List.set_cons_succ]
              refine tkH 9 (v := ?_) rfl (fun _ _ _ h => h) (Or.inl ⟨by rfl, ?_⟩) hH ?_
              rotate_left
              · intro w9 hSw
                try dsimp only at hSw
                obtain ⟨s0, s1, s2, s3, s4, s5⟩ := hSw
                go_simp
                try with_reducible rfl
              try simp only [Act.put, List.setIfInBounds_toArray, List.set_cons_zero, List.set_cons_succ]
              refine tkH 10 (v := ?_) rfl (fun _ _ _ h => h) (Or.inl ⟨by rfl, ?_⟩) hH ?_
              rotate_left
              · intro w9 hSw
                try dsimp only at hSw
                obtain ⟨s0, s1, s2, s3, s4, s5⟩ := hSw
                go_simp
                try with_reducible rfl
              try simp only [Act.put, List.setIfInBounds_toArray, List.set_cons_zero, List.set_cons_succ]
              refine tkH 11 (v := ?_) rfl (fun _ _ _ h => h) (Or.inl ⟨by rfl, ?_⟩) hH ?_
              rotate_left
              · intro w9 hSw
                try dsimp only at hSw
                obtain ⟨s0, s1, s2, s3, s4, s5⟩ := hSw
                go_simp
                try with_reducible rfl
              try simp only [Act.put, List.setIfInBounds_toArray, List.set_cons_zero, List.set_cons_succ]
              refine tkH 12 (v := ?_) rfl (fun _ _ _ h => h) (Or.inl ⟨by rfl, ?_⟩) hH ?_
              rotate_left
              · intro w9 hSw
                try dsimp only at hSw
                obtain ⟨s0, s1, s2, s3, s4, s5⟩ := hSw
                go_simp
                try with_reducible rfl
              try simp only [Act.put, List.setIfInBounds_toArray, List.set_cons_zero, List.set_cons_succ]
              refine tkH 13 (v := ?_) rfl (fun _ _ _ h => h) (Or.inl ⟨by rfl, ?_⟩) hH ?_
              rotate_left
              · intro w9 hSw
                try dsimp only at hSw
                obtain ⟨s0, s1, s2, s3, s4, s5⟩ := hSw
                go_simp
                try with_reducible rfl
              try simp only [Act.put, List.setIfInBounds_toArray, List.set_cons_zero, List.set_cons_succ]
              refine tkH 14 (v := ?_) rfl (fun _ _ _ h => h) (Or.inl ⟨by rfl, ?_⟩) hH ?_
              rotate_left
              · intro w9 hSw
                try dsimp only at hSw
                obtain ⟨s0, s1, s2, s3, s4, s5⟩ := hSw
                go_simp
                try with_reducible rfl
              try simp only [Act.put, List.setIfInBounds_toArray, List.set_cons_zero, List.set_cons_succ]
              refine tkH 15 (v := ?_) rfl (fun _ _ _ h => h) (Or.inl ⟨by rfl, ?_⟩) hH ?_
              rotate_left
              · intro w9 hSw
                try dsimp only at hSw
                obtain ⟨s0, s1, s2, s3, s4, s5⟩ := hSw
                go_simp
                try with_reducible rfl
              try simp only [Act.put, List.setIfInBounds_toArray, List.set_cons_zero, List.set_cons_succ]
              refine tkH 19 (v := ?_) rfl (fun _ _ _ h => h) (Or.inl ⟨by rfl, ?_⟩) hH ?_
              rotate_left
              · intro w9 hSw
                try dsimp only at hSw
                obtain ⟨s0, s1, s2, s3, s4, s5⟩ := hSw
                go_simp
                try with_reducible rfl
              try simp only [Act.put, List.setIfInBounds_toArray, List.set_cons_zero, List.set_cons_succ]
              refine tkH 20 (v := ?_) rfl (fun _ _ _ h => h) (Or.inl ⟨by rfl, ?_⟩) hH ?_
              rotate_left
              · intro w9 hSw
                try dsimp only at hSw
                obtain ⟨s0, s1, s2, s3, s4, s5⟩ := hSw
                go_simp
                try with_reducible rfl
              try simp only [Act.put, List.setIfInBounds_toArray, List.set_cons_zero, List.set_cons_succ]
              refine wpAnyH_ready (rs := [16]) (by kernel_rfl) (by simp) ?_
              refine AllReadyH.cons rfl (fun K hK => ?_) AllReadyH.nil
              go_simp
              go_at_call 50
              refine (impl_decimal (dn : Nat) _ (hTall.out _ hYw) (by omega) (by omega)).mono ?_
              rintro ea va ⟨rfl, hba⟩
              have z1a := cell_keep (w := X.drew) z1 hba
              have z2a := cell_keep (w := X.drew) z2 hba
              have z3a := cell_keep (w := X.drew) z3 hba
              have z6a := cell_keep (w := X.drew) z6 hba
              have z4a := cell_keep (w := X.drew) z4 hba
              have z5a := cell_keep (w := X.drew) z5 hba
              refine hK.out _ _ ⟨z1a, z2a, z3a, z6a, z4a, z5a⟩ (fun hH => ?_)
              clear hK K
              try simp only [Act.put, List.setIfInBounds_toArray, List.set_cons_zero, List.set_cons_succ]
              refine tkH 17 (v := ?_) rfl (fun _ _ _ h => h) (Or.inl ⟨by rfl, ?_⟩) hH ?_
              rotate_left
              · intro w9 hSw
                try dsimp only at hSw
                obtain ⟨s0, s1, s2, s3, s4, s5⟩ := hSw
                go_simp
                try with_reducible rfl
              try simp only [Act.put, List.setIfInBounds_toArray, List.set_cons_zero, List.set_cons_succ]
              refine tkH 18 (v := ?_) rfl (fun _ _ _ h => h) (Or.inl ⟨by rfl, ?_⟩) hH ?_
              rotate_left
              · intro w9 hSw
                try dsimp only at hSw
                obtain ⟨s0, s1, s2, s3, s4, s5⟩ := hSw
                go_simp
                try with_reducible rfl
              try simp only [Act.put, List.setIfInBounds_toArray, List.set_cons_zero, List.set_cons_succ]
              refine wpAnyH_ready (rs := [21]) (by kernel_rfl) (by simp) ?_
              refine AllReadyH.cons rfl (fun K hK => ?_) AllReadyH.nil
              go_simp
              go_at_call 50
              refine (impl_decimal (tn : Nat) _ (hTall.out _ (hYw.trans (hba.mono hYws))) (by omega) (by omega)).mono ?_
              rintro eb vb ⟨rfl, hbb⟩
              have z1ab := cell_keep (w := va) z1a hbb
              have z2ab := cell_keep (w := va) z2a hbb
              have z3ab := cell_keep (w := va) z3a hbb
              have z6ab := cell_keep (w := va) z6a hbb
              have z4ab := cell_keep (w := va) z4a hbb
              have z5ab := cell_keep (w := va) z5a hbb
              have hBlb := hBl.now (hba.trans (hbb.mono hba.size))
              have hbpb := hbp.now (hba.trans (hbb.mono hba.size))
              have hBsb : w.heap.size + 1 ≤ vb.heap.size := Nat.le_trans hYs (hba.trans (hbb.mono hba.size)).size
              refine hK.out _ _ ⟨z1ab, z2ab, z3ab, z6ab, z4ab, z5ab⟩ (fun hH => ?_)
              clear hK K
              try simp only [Act.put, List.setIfInBounds_toArray, List.set_cons_zero, List.set_cons_succ]
              refine tkH 22 (v := ?_) rfl (fun _ _ _ h => h) (Or.inl ⟨by rfl, ?_⟩) hH ?_
              rotate_left
              · intro w9 hSw
                try dsimp only at hSw
                obtain ⟨s0, s1, s2, s3, s4, s5⟩ := hSw
                go_simp
                try with_reducible rfl
              try simp only [Act.put, List.setIfInBounds_toArray, List.set_cons_zero, List.set_cons_succ]
              refine tkH 23 (v := ?_) rfl (fun _ _ _ h => h) (Or.inl ⟨by rfl, ?_⟩) hH ?_
              rotate_left
              · intro w9 hSw
                try dsimp only at hSw
                obtain ⟨s0, s1, s2, s3, s4, s5⟩ := hSw
                go_simp
                try with_reducible rfl
              try simp only [Act.put, List.setIfInBounds_toArray, List.set_cons_zero, List.set_cons_succ]
              refine wpAnyH_ready (rs := [24]) (by kernel_rfl) (by simp) ?_
              refine AllReadyH.cons rfl (fun K hK => ?_) AllReadyH.nil
              go_simp
              go_at_call 49
              refine (builder_write (w.heap.size + 1) (w.heap.size + 1) _ _ vb hBlb (Nat.le_trans (Nat.add_le_add_left hlsH.out _) (by omega)) hBsb).mono ?_
              rintro e13 v13 ⟨n13, rfl, hBl13, hB13, hK13⟩
              have hb13 := Kept.blk hbpb hK13 (by decide) hbpne
              have u1 := hb13.c4.1
              have u2 := hb13.c4.2.1
              have u3 := hb13.c4.2.2.1
              have u6 := hb13.c4.2.2.2
              have u4 := (hB13.cell (p := ⟨nb, no + sn, none⟩) (by show nb < w.heap.size + 1; omega)).trans z4ab
              have u5 := (hB13.cell (p := ⟨nb, no + en, none⟩) (by show nb < w.heap.size + 1; omega)).trans z5ab
              refine hK.out _ _ ⟨u1, u2, u3, u6, u4, u5⟩ (fun hH => ?_)
              clear hK K
              try simp only [Act.put, List.setIfInBounds_toArray, List.set_cons_zero, List.set_cons_succ]
              refine wpAnyH_done (by kernel_rfl) ?_ _
              have hab := hba.trans (hbb.mono hba.size)
              have hO9 := Kept.own (hO.now hab) hK13 (by decide) (by intro e; injection e with e; have e : w.heap.size + 1 + 1 = w.heap.size + 1 := e; omega)
              have hB9 := (hB7.trans (hab.mono hYs)).trans hB13
              have hbl : Hid (R0 ++ ((((((((⟨#[99, 97, 114, 116, 32]⟩ : ByteArray) ++ n2) ++ ⟨#[32]⟩) ++ n1) ++ ⟨#[32]⟩) ++ decB (dn : Nat)) ++ ⟨#[32]⟩) ++ decB (tn : Nat) ++ ⟨#[10]⟩) = outR gp N (k + 1)) := by
                show _ = _
                rw [hstep.out, hR0H.out, ← line_cart_eq _ _ (by simp; exact ht0H.out), hg1H.out, hg2H.out]
              replace hBl13 : Bld (w.heap.size + 1) (w.heap.size + 1) (R0 ++ ((((((((⟨#[99, 97, 114, 116, 32]⟩ : ByteArray) ++ n2) ++ ⟨#[32]⟩) ++ n1) ++ ⟨#[32]⟩) ++ decB (dn : Nat)) ++ ⟨#[32]⟩) ++ decB (tn : Nat) ++ ⟨#[10]⟩)) v13 := hBl13
              rw [hbl.out] at hBl13
              clear hH hab hO hK13 hB13 hB7 hba hbb
              go_wp2
              go_roundw
              case rel => exact ⟨k + 1, hlt, by go_num, hO9, hBl13, hB9⟩
              case measure => simp [intOf] <;> omega
        · obtain rfl : k = gp.length := by omega
          have hBq2 := hBx.trans (hB.mono hBx.size)
          rw [outR_all] at hBl
          go_wp2_with fail
          refine (builder_string (w.heap.size + 1) (w.heap.size + 1) _ _ hBl hs').mono ?_
          rintro e w9 ⟨rfl, hB9⟩
          go_wp2
          go_ret2
          exact ⟨rfl, hBx.trans ((show Below W0.heap.size W0 w9 by rw [hs0.out]; exact hB0.trans hB9).mono hBx.size)⟩
end Go.Proofs.YtcoomogabicfnaaGreatDoor
