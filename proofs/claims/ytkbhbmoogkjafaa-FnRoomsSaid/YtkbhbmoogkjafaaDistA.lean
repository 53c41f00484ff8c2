/-
  The walks of TokenBound, the program's and the reference's.
-/
import Derived.Test.YtkbhbmoogkjafaaDist
namespace Go.Proofs.Ytkbhbmoogkjafaa
open Go.RowKit
set_option linter.unusedVariables false
set_option linter.unusedSimpArgs false
def tokB (ge : Int) (gp : List Place) (i : Int) : Int × Int :=
  if idxCode ge gp i = 0 then (if distD ge.toNat gp (gp.getD i.toNat ⟨0, 0, 0, 0⟩).dst.toNat (gp.getD i.toNat ⟨0, 0, 0, 0⟩).src.toNat < 0 then (0, 4)
    else ((gp.getD i.toNat ⟨0, 0, 0, 0⟩).tokens + distD ge.toNat gp (gp.getD i.toNat ⟨0, 0, 0, 0⟩).dst.toNat (gp.getD i.toNat ⟨0, 0, 0, 0⟩).src.toNat, 0)) else (0, idxCode ge gp i)
theorem tokB_zero {n : Nat} {gp : List Place} {k s d : Nat} (hk : k < gp.length) (hc : idxCode n gp k = 0) (hs : gp[k].src = (s : Int)) (hd : gp[k].dst = (d : Int)) :
    tokB n gp k = if distD n gp d s < 0 then (0, 4) else (gp[k].tokens + distD n gp d s, 0) := by
  have e : gp.getD k ⟨0, 0, 0, 0⟩ = gp[k] := by simp [List.getD, List.getElem?_eq_getElem hk]
  simp only [tokB, hc, if_true, Int.toNat_natCast, e, hs, hd]
theorem distD_small {n : Nat} {gp : List Place} (hg : okGraph n gp = true) (f i : Nat) (hf : f < n) (hi : i < n) : -1 ≤ distD n gp f i ∧ distD n gp f i ≤ 1000 ∧ (itF n (tokF gp) n i f = bot ∨ itF n (tokF gp) n i f ≤ 0) := by
  have hge := okGraph_ev hg
  have h := finM_it (tok_fin hg n) (by omega) (by omega) n (by omega) i f hi hf
  have hle := it_le (n := n) (F := tokF gp) (x := fun _ => some 0) ?_ f hf 0 rfl (by omega) n i hi
  · unfold distD
    split
    · rename_i hb
      exact ⟨by omega, by omega, .inl hb⟩
    · rename_i hne
      obtain ⟨b, hb, hle⟩ := hle hne
      injection hb with hb
      rcases h with h | h
      · exact absurd h hne
      · exact ⟨by omega, by omega, .inr (by omega)⟩
  · intro a m ha hm hne x hx
    injection hx with hx
    have hw := wgtF_from (fun p => - p.tokens) gp gp.length (Nat.le_refl _) a m
    rw [List.take_length] at hw
    rcases hw with hw | ⟨p, hp, _, _, e⟩
    · exact absurd hw hne
    · have := okGraph_place hg hp
      refine ⟨0, rfl, ?_⟩
      unfold tokF
      rw [e]
      omega
set_option maxHeartbeats 4000000 in
set_option maxRecDepth 100000 in
theorem impl_TokenBound (v : Value) (ge : Int) (gp : List Place) (i : Int) (w : World) (h0 : Lst Place.cells 4 w w.heap.size v gp) :
    Calls Try.prog 42 #[.agg #[.int .i64 ge, v], .int .i64 i] w fun e w' => e = .returned (.tuple #[.int .i64 (tokB ge gp i).1, .int .i64 (tokB ge gp i).2]) ∧ Below w.heap.size w w' := by
  obtain ⟨A, c, rfl⟩ := h0.shape
  have hl := h0.len_le
  go_enter Try.func42, Try.ntmps42
  go_wp2_with fail
  have hW : Below w.heap.size w (w.alloc (.cells #[.int .i64 ge, .slice A gp.length c] 26)) := (Below.refl _ _).alloc (Nat.le_refl _) _; have hb0 : Blk (w.alloc (.cells #[.int .i64 ge, .slice A gp.length c] 26)) w.heap.size 26 #[.int .i64 ge, .slice A gp.length c] := Blk.new _ _ _; replace h0 := h0.now hW; generalize (w.alloc (.cells #[.int .i64 ge, .slice A gp.length c] 26)) = W at *
  refine (impl_IsEventGraph _ _ _ _ h0).mono ?_
  rintro e w1 ⟨rfl, hB⟩
  replace hW := hW.trans (hB.mono hW.size); replace h0 := h0.now hB; replace hb0 := hb0.now hB
  clear hB
  obtain ⟨k0, k1⟩ := hb0.c2
  have l0 := hb0.lt
  cases hg : okGraph ge gp
  · have hE : Hid (tokB ge gp i = (0, 1)) := by show _ = _; simp [tokB, idxCode, hg]
    clear hg
    go_wp2
    go_ret2
    exact ⟨ret_ii (congrArg Prod.fst hE.out).symm (congrArg Prod.snd hE.out).symm, hW⟩
  · obtain ⟨hge1, hge2⟩ := okGraph_ev hg
    have hgl := okGraph_len hg
    obtain ⟨n, rfl⟩ := Int.eq_ofNat_of_zero_le (show 0 ≤ ge by omega)
    have hg' := Lib.hid hg
    cases hi : inB i 0 ((gp.length : Int) - 1)
    · have hE : Hid (tokB n gp i = (0, 2)) := by show _ = _; simp [tokB, idxCode, hg, hi]
      have hiH := Lib.hid hi
      clear hg hi
      go_wp2_with (go_at_call 115; refine (impl_within _ _ _ _).mono ?_; rintro e w' ⟨rfl, rfl⟩; rw [hiH.out])
      go_ret2
      exact ⟨ret_ii (congrArg Prod.fst hE.out).symm (congrArg Prod.snd hE.out).symm, hW⟩
    · have hc : idxCode n gp i = 0 := by simp [idxCode, hg, hi]
      have hiB := (inB_iff _ _ _).1 hi
      have hiH := Lib.hid hi
      obtain ⟨k, rfl⟩ := Int.eq_ofNat_of_zero_le hiB.1
      have hk : k < gp.length := by omega
      have hp := okGraph_place hg (List.getElem_mem hk)
      obtain ⟨s, hs0⟩ := Int.eq_ofNat_of_zero_le hp.1.1
      obtain ⟨d, hd0⟩ := Int.eq_ofNat_of_zero_le hp.2.1.1
      have hsn : s < n := by omega
      have hdn : d < n := by omega
      have hE := tokB_zero hk hc hs0 hd0
      have hsm := distD_small hg d s hdn hsn
      obtain ⟨b, off, hA, hb, d0, d1, d2, d3⟩ := places_at h0 k hk
      cases hA
      rw [hs0] at d0
      rw [hd0] at d1
      have ht := hp.2.2.2
      obtain ⟨tk, htk⟩ : ∃ tk, gp[k].tokens = tk := ⟨_, rfl⟩
      obtain ⟨dl, hdl⟩ : ∃ dl, gp[k].delay = dl := ⟨_, rfl⟩
      rw [htk] at d3 hE ht
      rw [hdl] at d2
      have hE' := Lib.hid hE
      clear hg hi hc hE hs0 hd0 htk hdl hp hiB
      have i1 : (0 : Int) ≤ (k : Int) := by omega
      have i2 : (k : Int) < (gp.length : Int) := by omega
      go_wp2_with (go_at_call 115; refine (impl_within _ _ _ _).mono ?_; rintro e w' ⟨rfl, rfl⟩; rw [hiH.out])
      have hA1 : Below w1.heap.size w1 (w1.alloc (.cells #[.int .i64 s, .int .i64 d, .int .i64 dl, .int .i64 tk] 45)) := (Below.refl _ _).alloc (Nat.le_refl _) _
      have hbx := Blk.newAt w1 (t := 45) (cs := #[.int .i64 s, .int .i64 d, .int .i64 dl, .int .i64 tk]) _ rfl
      clear d0 d1 d2 d3 k0 k1 l0
      replace hW := hW.trans (hA1.mono hW.size); replace h0 := h0.now hA1; replace hb0 := hb0.now hA1
      clear hA1
      generalize w1.alloc (.cells #[.int .i64 s, .int .i64 d, .int .i64 dl, .int .i64 tk] 45) = V at *
      generalize w1.heap.size = bx at *
      have hBd : Below V.heap.size V V.drew := Below.drew (Below.refl _ V)
      have htd := Lib.hid (impl_tokenDistances _ n gp d V.drew (h0.now hBd) hg' hdn)
      obtain ⟨k0, k1⟩ := hb0.c2
      obtain ⟨c0, c1, c2, c3⟩ := hbx.c4
      have z0 := cell_keep k0 hBd
      have z1 := cell_keep k1 hBd
      have z2 := cell_keep c0 hBd
      have z3 := cell_keep c1 hBd
      have i3 : (0 : Int) ≤ (s : Int) := by omega
      have i4 : (s : Int) < (n : Int) := by omega
      refine wp_region_held_drew (S := fun w' => w'.cell? ⟨w.heap.size, 0, none⟩ = some (.int .i64 n) ∧ w'.cell? ⟨w.heap.size, 1, none⟩ = some (.slice (some ⟨b, off, none⟩) gp.length c) ∧ w'.cell? ⟨bx, 0, none⟩ = some (.int .i64 (s : Nat)) ∧ w'.cell? ⟨bx, 1, none⟩ = some (.int .i64 (d : Nat))) (by kernel_rfl) ⟨z0, z1, z2, z3⟩ (fun hH => ?_)
      refine wpAnyH_take (i := 0) (oi := { dst := _, op := _, type := _, pos := _, after := _, guard := _ }) (v := ?_) rfl (by kernel_rfl) (by kernel_rfl) (by kernel_rfl) (fun _ _ _ h => h) (Or.inl ⟨by rfl, ?_⟩) hH ?_
      rotate_left
      · intro w9 hSw
        try dsimp only at hSw
        obtain ⟨s0, s1, s2, s3⟩ := hSw
        go_simp
        try with_reducible rfl
      try simp only [Act.put, List.setIfInBounds_toArray, List.set_cons_zero, List.set_cons_succ]
      refine wpAnyH_take (i := 1) (oi := { dst := _, op := _, type := _, pos := _, after := _, guard := _ }) (v := ?_) rfl (by kernel_rfl) (by kernel_rfl) (by kernel_rfl) (fun _ _ _ h => h) (Or.inl ⟨by rfl, ?_⟩) hH ?_
      rotate_left
      · intro w9 hSw
        try dsimp only at hSw
        obtain ⟨s0, s1, s2, s3⟩ := hSw
        go_simp
        try with_reducible rfl
      try simp only [Act.put, List.setIfInBounds_toArray, List.set_cons_zero, List.set_cons_succ]
      refine wpAnyH_take (i := 2) (oi := { dst := _, op := _, type := _, pos := _, after := _, guard := _ }) (v := ?_) rfl (by kernel_rfl) (by kernel_rfl) (by kernel_rfl) (fun _ _ _ h => h) (Or.inl ⟨by rfl, ?_⟩) hH ?_
      rotate_left
      · intro w9 hSw
        try dsimp only at hSw
        obtain ⟨s0, s1, s2, s3⟩ := hSw
        go_simp
        try with_reducible rfl
      try simp only [Act.put, List.setIfInBounds_toArray, List.set_cons_zero, List.set_cons_succ]
      refine wpAnyH_take (i := 4) (oi := { dst := _, op := _, type := _, pos := _, after := _, guard := _ }) (v := ?_) rfl (by kernel_rfl) (by kernel_rfl) (by kernel_rfl) (fun _ _ _ h => h) (Or.inl ⟨by rfl, ?_⟩) hH ?_
      rotate_left
      · intro w9 hSw
        try dsimp only at hSw
        obtain ⟨s0, s1, s2, s3⟩ := hSw
        go_simp
        try with_reducible rfl
      try simp only [Act.put, List.setIfInBounds_toArray, List.set_cons_zero, List.set_cons_succ]
      refine wpAnyH_take (i := 5) (oi := { dst := _, op := _, type := _, pos := _, after := _, guard := _ }) (v := ?_) rfl (by kernel_rfl) (by kernel_rfl) (by kernel_rfl) (fun _ _ _ h => h) (Or.inl ⟨by rfl, ?_⟩) hH ?_
      rotate_left
      · intro w9 hSw
        try dsimp only at hSw
        obtain ⟨s0, s1, s2, s3⟩ := hSw
        go_simp
        try with_reducible rfl
      try simp only [Act.put, List.setIfInBounds_toArray, List.set_cons_zero, List.set_cons_succ]
      refine wpAnyH_ready (rs := [3]) (by kernel_rfl) (by simp) ?_
      refine AllReadyH.cons rfl (fun K hK => ?_) AllReadyH.nil
      go_simp
      go_at_call 138
      refine (htd.out).mono ?_
      rintro e9 w9 ⟨v9, rfl, hX, hB9⟩
      obtain ⟨g9, c9, rfl, hcell⟩ := dist_at hX s hsn
      have y0 := cell_keep (w := V.drew) z0 hB9
      have y1 := cell_keep (w := V.drew) z1 hB9
      have y2 := cell_keep (w := V.drew) z2 hB9
      have y3 := cell_keep (w := V.drew) z3 hB9
      refine hK.out _ _ ⟨y0, y1, y2, y3⟩ (fun hH => ?_)
      clear hK K
      try simp only [Act.put, List.setIfInBounds_toArray, List.set_cons_zero, List.set_cons_succ]
      refine wpAnyH_ready (rs := [6]) (by kernel_rfl) (by simp) ?_
      refine AllReadyH.cons rfl (fun K hK => ?_) AllReadyH.nil
      go_simp
      refine hK.out _ _ ⟨y0, y1, y2, y3⟩ (fun hH => ?_)
      clear hK K
      try simp only [Act.put, List.setIfInBounds_toArray, List.set_cons_zero, List.set_cons_succ]
      refine wpAnyH_ready (rs := [7]) (by kernel_rfl) (by simp) ?_
      refine AllReadyH.cons rfl (fun K hK => ?_) AllReadyH.nil
      go_simp
      refine hK.out _ _ ⟨y0, y1, y2, y3⟩ (fun hH => ?_)
      clear hK K
      try simp only [Act.put, List.setIfInBounds_toArray, List.set_cons_zero, List.set_cons_succ]
      refine wpAnyH_take (i := 8) (oi := { dst := _, op := _, type := _, pos := _, after := _, guard := _ }) (v := ?_) rfl (by kernel_rfl) (by kernel_rfl) (by kernel_rfl) (fun _ _ _ h => h) (Or.inl ⟨by rfl, ?_⟩) hH ?_
      rotate_left
      · intro w9 hSw
        try dsimp only at hSw
        obtain ⟨s0, s1, s2, s3⟩ := hSw
        go_simp
        try with_reducible rfl
      try simp only [Act.put, List.setIfInBounds_toArray, List.set_cons_zero, List.set_cons_succ]
      refine wpAnyH_done (by kernel_rfl) ?_ _
      have hB2 := hBd.trans (Below.mono (w := V.drew) hB9 (Nat.le_refl _))
      have hb2 := hbx.now hB2
      obtain ⟨c0', c1', c2', c3'⟩ := hb2.c4
      have l2 := hb2.lt
      obtain ⟨x, hx⟩ : ∃ x, distD n gp d s = x := ⟨_, rfl⟩
      have hE2 := hE'.out
      replace hsm : -1 ≤ distD n gp d s ∧ distD n gp d s ≤ 1000 := ⟨hsm.1, hsm.2.1⟩
      rw [hx] at hE2 hsm hcell ⊢
      have hBt := hW.trans (hB2.mono hW.size)
      clear hx z0 z1 z2 z3 y0 y1 y2 y3 c0 c1 c2 c3 k0 k1
      by_cases hneg : x < 0
      · rw [if_pos hneg] at hE2
        have hE3 := Lib.hid hE2
        clear hE2
        go_wp2
        go_ret2
        exact ⟨ret_ii (congrArg Prod.fst hE3.out).symm (congrArg Prod.snd hE3.out).symm, hBt⟩
      · rw [if_neg hneg] at hE2
        have hE3 := Lib.hid hE2
        have hsm1 : IntKind.i64.wrap (tk + x) = tk + x := IntWalk.i64_in _ (by omega)
        clear hE2
        go_wp2
        go_ret2
        exact ⟨ret_ii (congrArg Prod.fst hE3.out).symm (congrArg Prod.snd hE3.out).symm, hBt⟩
set_option maxHeartbeats 4000000 in
set_option maxRecDepth 100000 in
theorem spec_l12Distance (v : Value) (n : Nat) (gp : List Place) (f t : Nat) (w : World) (h0 : Lst Place.cells 4 w w.heap.size v gp) (hg : Hid (okGraph n gp = true)) (hf : f < n) (ht : t < n) :
    Calls Try.prog 140 #[.agg #[.int .i64 n, v], .int .i64 f, .int .i64 t] w fun e w' => e = .returned (.tuple #[.int .i64 (- itF n (tokF gp) n t f), .bool (itF n (tokF gp) n t f != bot)]) ∧ Below w.heap.size w w' := by
  obtain ⟨A, c, rfl⟩ := h0.shape
  obtain ⟨hn1, hn2⟩ := okGraph_ev hg.out
  have hF := Lib.hid (tok_fin hg.out n)
  have hbI := it_bnd hF.out (by omega) (by omega) (by omega) n (by omega) t f ht hf
  go_enter Try.func140, Try.ntmps140
  go_wp2_with fail
  have hW : Below w.heap.size w (w.alloc (.cells #[.int .i64 (n:Int), .slice A gp.length c] 26)) := (Below.refl _ _).alloc (Nat.le_refl _) _; have hb0 : Blk (w.alloc (.cells #[.int .i64 (n:Int), .slice A gp.length c] 26)) w.heap.size 26 #[.int .i64 (n:Int), .slice A gp.length c] := Blk.new _ _ _; replace h0 := h0.now hW; generalize (w.alloc (.cells #[.int .i64 (n:Int), .slice A gp.length c] 26)) = W at *
  obtain ⟨k0, k1⟩ := hb0.c2
  go_wp2_with fail
  refine (spec_l12Tokens _ n gp W h0 hg.out).mono ?_
  rintro e w1 ⟨u1, rfl, hM, hB1⟩
  obtain ⟨A1, c1, rfl⟩ := hM.shape
  rw [matF_len] at hM ⊢
  clear k0 k1
  go_wp2_with fail
  refine (spec_l03Star _ n _ 10 w1 hM.lst (by omega) (by omega) hF (by omega) (by omega)).mono ?_
  rintro e w2 ⟨u2, ok, rfl, hiff, hO, hB2⟩
  have hB12 := hB1.trans (hB2.mono hB1.size)
  obtain ⟨b1, o1, c2, r1, p1, c1, rfl, hb1, x1, _, x2⟩ := mat_at hO.lst t f ht hf
  clear hiff
  change w2.cell? ⟨r1, p1 + f, none⟩ = some (.int .i64 (itF n (tokF gp) n t f)) at x2
  obtain ⟨sv, hsv⟩ : ∃ sv, itF n (tokF gp) n t f = sv := ⟨_, rfl⟩
  rw [hsv] at x2 hbI
  have hsvH := Lib.hid hsv
  clear hsv hO
  have hsm1 : IntKind.i64.wrap (- sv) = - sv := IntWalk.i64_in _ (by unfold bot at hbI; omega)
  have hBd : Below w2.heap.size w2 w2.drew := Below.drew (Below.refl _ w2)
  have z0 := cell_keep x1 hBd
  have z1 := cell_keep x2 hBd
  have i1 : (0 : Int) ≤ (t : Int) := by omega
  have i2 : (t : Int) < (n : Int) := by omega
  have i3 : (0 : Int) ≤ (f : Int) := by omega
  have i4 : (f : Int) < (n : Int) := by omega
  clear hbI x1 x2
  go_wp2_with fail
  refine wp_region_held_drew (S := fun w' => w'.cell? ⟨b1, o1 + t, none⟩ = some (.slice (some ⟨r1, p1, none⟩) n c1) ∧ w'.cell? ⟨r1, p1 + f, none⟩ = some (.int .i64 sv)) (by kernel_rfl) ⟨z0, z1⟩ (fun hH => ?_)
  refine wpAnyH_take (i := 0) (oi := { dst := _, op := _, type := _, pos := _, after := _, guard := _ }) (v := ?_) rfl (by kernel_rfl) (by kernel_rfl) (by kernel_rfl) (fun _ _ _ h => h) (Or.inl ⟨by rfl, ?_⟩) hH ?_
  rotate_left
  · intro w9 hSw
    try dsimp only at hSw
    obtain ⟨s0, s1⟩ := hSw
    go_simp
    try with_reducible rfl
  try simp only [Act.put, List.setIfInBounds_toArray, List.set_cons_zero, List.set_cons_succ]
  refine wpAnyH_take (i := 1) (oi := { dst := _, op := _, type := _, pos := _, after := _, guard := _ }) (v := ?_) rfl (by kernel_rfl) (by kernel_rfl) (by kernel_rfl) (fun _ _ _ h => h) (Or.inl ⟨by rfl, ?_⟩) hH ?_
  rotate_left
  · intro w9 hSw
    try dsimp only at hSw
    obtain ⟨s0, s1⟩ := hSw
    go_simp
    try with_reducible rfl
  try simp only [Act.put, List.setIfInBounds_toArray, List.set_cons_zero, List.set_cons_succ]
  refine wpAnyH_take (i := 2) (oi := { dst := _, op := _, type := _, pos := _, after := _, guard := _ }) (v := ?_) rfl (by kernel_rfl) (by kernel_rfl) (by kernel_rfl) (fun _ _ _ h => h) (Or.inl ⟨by rfl, ?_⟩) hH ?_
  rotate_left
  · intro w9 hSw
    try dsimp only at hSw
    obtain ⟨s0, s1⟩ := hSw
    go_simp
    try with_reducible rfl
  try simp only [Act.put, List.setIfInBounds_toArray, List.set_cons_zero, List.set_cons_succ]
  refine wpAnyH_take (i := 3) (oi := { dst := _, op := _, type := _, pos := _, after := _, guard := _ }) (v := ?_) rfl (by kernel_rfl) (by kernel_rfl) (by kernel_rfl) (fun _ _ _ h => h) (Or.inl ⟨by rfl, ?_⟩) hH ?_
  rotate_left
  · intro w9 hSw
    try dsimp only at hSw
    obtain ⟨s0, s1⟩ := hSw
    go_simp
    try with_reducible rfl
  try simp only [Act.put, List.setIfInBounds_toArray, List.set_cons_zero, List.set_cons_succ]
  refine wpAnyH_take (i := 4) (oi := { dst := _, op := _, type := _, pos := _, after := _, guard := _ }) (v := ?_) rfl (by kernel_rfl) (by kernel_rfl) (by kernel_rfl) (fun _ _ _ h => h) (Or.inl ⟨by rfl, ?_⟩) hH ?_
  rotate_left
  · intro w9 hSw
    try dsimp only at hSw
    obtain ⟨s0, s1⟩ := hSw
    go_simp
    try with_reducible rfl
  try simp only [Act.put, List.setIfInBounds_toArray, List.set_cons_zero, List.set_cons_succ]
  refine wpAnyH_take (i := 5) (oi := { dst := _, op := _, type := _, pos := _, after := _, guard := _ }) (v := ?_) rfl (by kernel_rfl) (by kernel_rfl) (by kernel_rfl) (fun _ _ _ h => h) (Or.inl ⟨by rfl, ?_⟩) hH ?_
  rotate_left
  · intro w9 hSw
    try dsimp only at hSw
    obtain ⟨s0, s1⟩ := hSw
    go_simp
    try with_reducible rfl
  try simp only [Act.put, List.setIfInBounds_toArray, List.set_cons_zero, List.set_cons_succ]
  refine wpAnyH_take (i := 6) (oi := { dst := _, op := _, type := _, pos := _, after := _, guard := _ }) (v := ?_) rfl (by kernel_rfl) (by kernel_rfl) (by kernel_rfl) (fun _ _ _ h => h) (Or.inl ⟨by rfl, ?_⟩) hH ?_
  rotate_left
  · intro w9 hSw
    try dsimp only at hSw
    obtain ⟨s0, s1⟩ := hSw
    go_simp
    try with_reducible rfl
  try simp only [Act.put, List.setIfInBounds_toArray, List.set_cons_zero, List.set_cons_succ]
  refine wpAnyH_take (i := 7) (oi := { dst := _, op := _, type := _, pos := _, after := _, guard := _ }) (v := ?_) rfl (by kernel_rfl) (by kernel_rfl) (by kernel_rfl) (fun _ _ _ h => h) (Or.inl ⟨by rfl, ?_⟩) hH ?_
  rotate_left
  · intro w9 hSw
    try dsimp only at hSw
    obtain ⟨s0, s1⟩ := hSw
    go_simp
    try with_reducible rfl
  try simp only [Act.put, List.setIfInBounds_toArray, List.set_cons_zero, List.set_cons_succ]
  refine wpAnyH_take (i := 8) (oi := { dst := _, op := _, type := _, pos := _, after := _, guard := _ }) (v := ?_) rfl (by kernel_rfl) (by kernel_rfl) (by kernel_rfl) (fun _ _ _ h => h) (Or.inl ⟨by rfl, ?_⟩) hH ?_
  rotate_left
  · intro w9 hSw
    try dsimp only at hSw
    obtain ⟨s0, s1⟩ := hSw
    go_simp
    try with_reducible rfl
  try simp only [Act.put, List.setIfInBounds_toArray, List.set_cons_zero, List.set_cons_succ]
  refine wpAnyH_take (i := 9) (oi := { dst := _, op := _, type := _, pos := _, after := _, guard := _ }) (v := ?_) rfl (by kernel_rfl) (by kernel_rfl) (by kernel_rfl) (fun _ _ _ h => h) (Or.inl ⟨by rfl, ?_⟩) hH ?_
  rotate_left
  · intro w9 hSw
    try dsimp only at hSw
    obtain ⟨s0, s1⟩ := hSw
    go_simp
    try with_reducible rfl
  try simp only [Act.put, List.setIfInBounds_toArray, List.set_cons_zero, List.set_cons_succ]
  refine wpAnyH_take (i := 10) (oi := { dst := _, op := _, type := _, pos := _, after := _, guard := _ }) (v := ?_) rfl (by kernel_rfl) (by kernel_rfl) (by kernel_rfl) (fun _ _ _ h => h) (Or.inl ⟨by rfl, ?_⟩) hH ?_
  rotate_left
  · intro w9 hSw
    try dsimp only at hSw
    obtain ⟨s0, s1⟩ := hSw
    go_simp
    try with_reducible rfl
  try simp only [Act.put, List.setIfInBounds_toArray, List.set_cons_zero, List.set_cons_succ]
  refine wpAnyH_take (i := 11) (oi := { dst := _, op := _, type := _, pos := _, after := _, guard := _ }) (v := ?_) rfl (by kernel_rfl) (by kernel_rfl) (by kernel_rfl) (fun _ _ _ h => h) (Or.inl ⟨by rfl, ?_⟩) hH ?_
  rotate_left
  · intro w9 hSw
    try dsimp only at hSw
    obtain ⟨s0, s1⟩ := hSw
    go_simp
    try with_reducible rfl
  try simp only [Act.put, List.setIfInBounds_toArray, List.set_cons_zero, List.set_cons_succ]
  refine wpAnyH_take (i := 12) (oi := { dst := _, op := _, type := _, pos := _, after := _, guard := _ }) (v := ?_) rfl (by kernel_rfl) (by kernel_rfl) (by kernel_rfl) (fun _ _ _ h => h) (Or.inl ⟨by rfl, ?_⟩) hH ?_
  rotate_left
  · intro w9 hSw
    try dsimp only at hSw
    obtain ⟨s0, s1⟩ := hSw
    go_simp
    try with_reducible rfl
  try simp only [Act.put, List.setIfInBounds_toArray, List.set_cons_zero, List.set_cons_succ]
  refine wpAnyH_take (i := 13) (oi := { dst := _, op := _, type := _, pos := _, after := _, guard := _ }) (v := ?_) rfl (by kernel_rfl) (by kernel_rfl) (by kernel_rfl) (fun _ _ _ h => h) (Or.inl ⟨by rfl, ?_⟩) hH ?_
  rotate_left
  · intro w9 hSw
    try dsimp only at hSw
    obtain ⟨s0, s1⟩ := hSw
    go_simp
    try with_reducible rfl
  try simp only [Act.put, List.setIfInBounds_toArray, List.set_cons_zero, List.set_cons_succ]
  refine wpAnyH_take (i := 14) (oi := { dst := _, op := _, type := _, pos := _, after := _, guard := _ }) (v := ?_) rfl (by kernel_rfl) (by kernel_rfl) (by kernel_rfl) (fun _ _ _ h => h) (Or.inl ⟨by rfl, ?_⟩) hH ?_
  rotate_left
  · intro w9 hSw
    try dsimp only at hSw
    obtain ⟨s0, s1⟩ := hSw
    go_simp
    try with_reducible rfl
  try simp only [Act.put, List.setIfInBounds_toArray, List.set_cons_zero, List.set_cons_succ]
  refine wpAnyH_take (i := 15) (oi := { dst := _, op := _, type := _, pos := _, after := _, guard := _ }) (v := ?_) rfl (by kernel_rfl) (by kernel_rfl) (by kernel_rfl) (fun _ _ _ h => h) (Or.inl ⟨by rfl, ?_⟩) hH ?_
  rotate_left
  · intro w9 hSw
    try dsimp only at hSw
    obtain ⟨s0, s1⟩ := hSw
    go_simp
    try with_reducible rfl
  try simp only [Act.put, List.setIfInBounds_toArray, List.set_cons_zero, List.set_cons_succ]
  refine wpAnyH_take (i := 16) (oi := { dst := _, op := _, type := _, pos := _, after := _, guard := _ }) (v := ?_) rfl (by kernel_rfl) (by kernel_rfl) (by kernel_rfl) (fun _ _ _ h => h) (Or.inl ⟨by rfl, ?_⟩) hH ?_
  rotate_left
  · intro w9 hSw
    try dsimp only at hSw
    obtain ⟨s0, s1⟩ := hSw
    go_simp
    try with_reducible rfl
  try simp only [Act.put, List.setIfInBounds_toArray, List.set_cons_zero, List.set_cons_succ]
  refine wpAnyH_take (i := 17) (oi := { dst := _, op := _, type := _, pos := _, after := _, guard := _ }) (v := ?_) rfl (by kernel_rfl) (by kernel_rfl) (by kernel_rfl) (fun _ _ _ h => h) (Or.inl ⟨by rfl, ?_⟩) hH ?_
  rotate_left
  · intro w9 hSw
    try dsimp only at hSw
    obtain ⟨s0, s1⟩ := hSw
    go_simp
    try with_reducible rfl
  try simp only [Act.put, List.setIfInBounds_toArray, List.set_cons_zero, List.set_cons_succ]
  refine wpAnyH_done (by kernel_rfl) ?_ _
  go_wp2
  go_ret2
  exact ⟨by rw [hsvH.out]; rfl, hW.trans ((hB12.trans (hBd.mono hB12.size)).mono hW.size)⟩
set_option maxHeartbeats 4000000 in
set_option maxRecDepth 100000 in
theorem spec_TokenBound (v : Value) (ge : Int) (gp : List Place) (i : Int) (w : World) (h0 : Lst Place.cells 4 w w.heap.size v gp) :
    Calls Try.prog 43 #[.agg #[.int .i64 ge, v], .int .i64 i] w fun e w' => e = .returned (.tuple #[.int .i64 (tokB ge gp i).1, .int .i64 (tokB ge gp i).2]) ∧ Below w.heap.size w w' := by
  obtain ⟨A, c, rfl⟩ := h0.shape
  have hl := h0.len_le
  go_enter Try.func43, Try.ntmps43
  go_wp2_with fail
  have hW : Below w.heap.size w (w.alloc (.cells #[.int .i64 ge, .slice A gp.length c] 26)) := (Below.refl _ _).alloc (Nat.le_refl _) _; have hb0 : Blk (w.alloc (.cells #[.int .i64 ge, .slice A gp.length c] 26)) w.heap.size 26 #[.int .i64 ge, .slice A gp.length c] := Blk.new _ _ _; replace h0 := h0.now hW; generalize (w.alloc (.cells #[.int .i64 ge, .slice A gp.length c] 26)) = W at *
  refine (spec_l11Index _ _ _ _ _ h0).mono ?_
  rintro e w1 ⟨rfl, hB⟩
  replace hW := hW.trans (hB.mono hW.size); replace h0 := h0.now hB; replace hb0 := hb0.now hB
  clear hB
  obtain ⟨k0, k1⟩ := hb0.c2
  have l0 := hb0.lt
  by_cases hc : idxCode ge gp i = 0
  · obtain ⟨hg, hi0, hi1⟩ := idxCode_zero hc
    obtain ⟨hge1, hge2⟩ := okGraph_ev hg
    have hgl := okGraph_len hg
    obtain ⟨n, rfl⟩ := Int.eq_ofNat_of_zero_le (show 0 ≤ ge by omega)
    obtain ⟨i, rfl⟩ := Int.eq_ofNat_of_zero_le hi0
    have hg' := Lib.hid hg
    have hk : i < gp.length := by omega
    have hp := okGraph_place hg (List.getElem_mem hk)
    obtain ⟨s, hs0⟩ := Int.eq_ofNat_of_zero_le hp.1.1
    obtain ⟨d, hd0⟩ := Int.eq_ofNat_of_zero_le hp.2.1.1
    have hsn : s < n := by omega
    have hdn : d < n := by omega
    have hE := tokB_zero hk hc hs0 hd0
    have hsm := distD_small hg d s hdn hsn
    obtain ⟨b, off, hA, hb, d0, d1, d2, d3⟩ := places_at h0 i hk
    cases hA
    rw [hs0] at d0
    rw [hd0] at d1
    have ht := hp.2.2.2
    obtain ⟨tk, htk⟩ : ∃ tk, gp[i].tokens = tk := ⟨_, rfl⟩
    rw [htk] at d3 hE ht
    unfold distD at hE hsm
    have hbI := it_bnd (tok_fin hg n) (by omega) (by omega) (by omega) n (by omega) s d hsn hdn
    have hBd : Below w1.heap.size w1 w1.drew := Below.drew (Below.refl _ w1)
    have htd := spec_l12Distance _ n gp d s w1.drew (h0.now hBd) hg' hdn hsn
    obtain ⟨sv, hsv⟩ : ∃ sv, itF n (tokF gp) n s d = sv := ⟨_, rfl⟩
    rw [hsv] at hE hsm htd hbI
    have hE' := Lib.hid hE
    replace htd := Lib.hid htd
    rw [hc]
    clear hg hc hE hs0 hd0 htk hp hsv
    have z0 := cell_keep k0 hBd
    have z1 := cell_keep k1 hBd
    have z2 := cell_keep d1 hBd
    have z3 := cell_keep d0 hBd
    have i1 : (0 : Int) ≤ (i : Int) := by omega
    have i2 : (i : Int) < (gp.length : Int) := by omega
    go_wp2_with fail
    refine wp_region_held_drew (S := fun w' => w'.cell? ⟨w.heap.size, 0, none⟩ = some (.int .i64 n) ∧ w'.cell? ⟨w.heap.size, 1, none⟩ = some (.slice (some ⟨b, off, none⟩) gp.length c) ∧ w'.cell? ⟨b, off + i * 4 + 1, none⟩ = some (.int .i64 (d : Nat)) ∧ w'.cell? ⟨b, off + i * 4, none⟩ = some (.int .i64 (s : Nat))) (by kernel_rfl) ⟨z0, z1, z2, z3⟩ (fun hH => ?_)
    refine wpAnyH_take (i := 0) (oi := { dst := _, op := _, type := _, pos := _, after := _, guard := _ }) (v := ?_) rfl (by kernel_rfl) (by kernel_rfl) (by kernel_rfl) (fun _ _ _ h => h) (Or.inl ⟨by rfl, ?_⟩) hH ?_
    rotate_left
    · intro w9 hSw
      try dsimp only at hSw
      obtain ⟨s0, s1, s2, s3⟩ := hSw
      go_simp
      try with_reducible rfl
    try simp only [Act.put, List.setIfInBounds_toArray, List.set_cons_zero, List.set_cons_succ]
    refine wpAnyH_take (i := 1) (oi := { dst := _, op := _, type := _, pos := _, after := _, guard := _ }) (v := ?_) rfl (by kernel_rfl) (by kernel_rfl) (by kernel_rfl) (fun _ _ _ h => h) (Or.inl ⟨by rfl, ?_⟩) hH ?_
    rotate_left
    · intro w9 hSw
      try dsimp only at hSw
      obtain ⟨s0, s1, s2, s3⟩ := hSw
      go_simp
      try with_reducible rfl
    try simp only [Act.put, List.setIfInBounds_toArray, List.set_cons_zero, List.set_cons_succ]
    refine wpAnyH_take (i := 2) (oi := { dst := _, op := _, type := _, pos := _, after := _, guard := _ }) (v := ?_) rfl (by kernel_rfl) (by kernel_rfl) (by kernel_rfl) (fun _ _ _ h => h) (Or.inl ⟨by rfl, ?_⟩) hH ?_
    rotate_left
    · intro w9 hSw
      try dsimp only at hSw
      obtain ⟨s0, s1, s2, s3⟩ := hSw
      go_simp
      try with_reducible rfl
    try simp only [Act.put, List.setIfInBounds_toArray, List.set_cons_zero, List.set_cons_succ]
    refine wpAnyH_take (i := 3) (oi := { dst := _, op := _, type := _, pos := _, after := _, guard := _ }) (v := ?_) rfl (by kernel_rfl) (by kernel_rfl) (by kernel_rfl) (fun _ _ _ h => h) (Or.inl ⟨by rfl, ?_⟩) hH ?_
    rotate_left
    · intro w9 hSw
      try dsimp only at hSw
      obtain ⟨s0, s1, s2, s3⟩ := hSw
      go_simp
      try with_reducible rfl
    try simp only [Act.put, List.setIfInBounds_toArray, List.set_cons_zero, List.set_cons_succ]
    refine wpAnyH_take (i := 4) (oi := { dst := _, op := _, type := _, pos := _, after := _, guard := _ }) (v := ?_) rfl (by kernel_rfl) (by kernel_rfl) (by kernel_rfl) (fun _ _ _ h => h) (Or.inl ⟨by rfl, ?_⟩) hH ?_
    rotate_left
    · intro w9 hSw
      try dsimp only at hSw
      obtain ⟨s0, s1, s2, s3⟩ := hSw
      go_simp
      try with_reducible rfl
    try simp only [Act.put, List.setIfInBounds_toArray, List.set_cons_zero, List.set_cons_succ]
    refine wpAnyH_take (i := 5) (oi := { dst := _, op := _, type := _, pos := _, after := _, guard := _ }) (v := ?_) rfl (by kernel_rfl) (by kernel_rfl) (by kernel_rfl) (fun _ _ _ h => h) (Or.inl ⟨by rfl, ?_⟩) hH ?_
    rotate_left
    · intro w9 hSw
      try dsimp only at hSw
      obtain ⟨s0, s1, s2, s3⟩ := hSw
      go_simp
      try with_reducible rfl
    try simp only [Act.put, List.setIfInBounds_toArray, List.set_cons_zero, List.set_cons_succ]
    refine wpAnyH_take (i := 6) (oi := { dst := _, op := _, type := _, pos := _, after := _, guard := _ }) (v := ?_) rfl (by kernel_rfl) (by kernel_rfl) (by kernel_rfl) (fun _ _ _ h => h) (Or.inl ⟨by rfl, ?_⟩) hH ?_
    rotate_left
    · intro w9 hSw
      try dsimp only at hSw
      obtain ⟨s0, s1, s2, s3⟩ := hSw
      go_simp
      try with_reducible rfl
    try simp only [Act.put, List.setIfInBounds_toArray, List.set_cons_zero, List.set_cons_succ]
    refine wpAnyH_take (i := 7) (oi := { dst := _, op := _, type := _, pos := _, after := _, guard := _ }) (v := ?_) rfl (by kernel_rfl) (by kernel_rfl) (by kernel_rfl) (fun _ _ _ h => h) (Or.inl ⟨by rfl, ?_⟩) hH ?_
    rotate_left
    · intro w9 hSw
      try dsimp only at hSw
      obtain ⟨s0, s1, s2, s3⟩ := hSw
      go_simp
      try with_reducible rfl
    try simp only [Act.put, List.setIfInBounds_toArray, List.set_cons_zero, List.set_cons_succ]
    refine wpAnyH_take (i := 8) (oi := { dst := _, op := _, type := _, pos := _, after := _, guard := _ }) (v := ?_) rfl (by kernel_rfl) (by kernel_rfl) (by kernel_rfl) (fun _ _ _ h => h) (Or.inl ⟨by rfl, ?_⟩) hH ?_
    rotate_left
    · intro w9 hSw
      try dsimp only at hSw
      obtain ⟨s0, s1, s2, s3⟩ := hSw
      go_simp
      try with_reducible rfl
    try simp only [Act.put, List.setIfInBounds_toArray, List.set_cons_zero, List.set_cons_succ]
    refine wpAnyH_take (i := 9) (oi := { dst := _, op := _, type := _, pos := _, after := _, guard := _ }) (v := ?_) rfl (by kernel_rfl) (by kernel_rfl) (by kernel_rfl) (fun _ _ _ h => h) (Or.inl ⟨by rfl, ?_⟩) hH ?_
    rotate_left
    · intro w9 hSw
      try dsimp only at hSw
      obtain ⟨s0, s1, s2, s3⟩ := hSw
      go_simp
      try with_reducible rfl
    try simp only [Act.put, List.setIfInBounds_toArray, List.set_cons_zero, List.set_cons_succ]
    refine wpAnyH_take (i := 10) (oi := { dst := _, op := _, type := _, pos := _, after := _, guard := _ }) (v := ?_) rfl (by kernel_rfl) (by kernel_rfl) (by kernel_rfl) (fun _ _ _ h => h) (Or.inl ⟨by rfl, ?_⟩) hH ?_
    rotate_left
    · intro w9 hSw
      try dsimp only at hSw
      obtain ⟨s0, s1, s2, s3⟩ := hSw
      go_simp
      try with_reducible rfl
    try simp only [Act.put, List.setIfInBounds_toArray, List.set_cons_zero, List.set_cons_succ]
    refine wpAnyH_take (i := 11) (oi := { dst := _, op := _, type := _, pos := _, after := _, guard := _ }) (v := ?_) rfl (by kernel_rfl) (by kernel_rfl) (by kernel_rfl) (fun _ _ _ h => h) (Or.inl ⟨by rfl, ?_⟩) hH ?_
    rotate_left
    · intro w9 hSw
      try dsimp only at hSw
      obtain ⟨s0, s1, s2, s3⟩ := hSw
      go_simp
      try with_reducible rfl
    try simp only [Act.put, List.setIfInBounds_toArray, List.set_cons_zero, List.set_cons_succ]
    refine wpAnyH_take (i := 12) (oi := { dst := _, op := _, type := _, pos := _, after := _, guard := _ }) (v := ?_) rfl (by kernel_rfl) (by kernel_rfl) (by kernel_rfl) (fun _ _ _ h => h) (Or.inl ⟨by rfl, ?_⟩) hH ?_
    rotate_left
    · intro w9 hSw
      try dsimp only at hSw
      obtain ⟨s0, s1, s2, s3⟩ := hSw
      go_simp
      try with_reducible rfl
    try simp only [Act.put, List.setIfInBounds_toArray, List.set_cons_zero, List.set_cons_succ]
    refine wpAnyH_ready (rs := [13]) (by kernel_rfl) (by simp) ?_
    refine AllReadyH.cons rfl (fun K hK => ?_) AllReadyH.nil
    go_simp
    go_at_call 140
    refine (htd.out).mono ?_
    rintro e9 w9 ⟨rfl, hB9⟩
    have y0 := cell_keep (w := w1.drew) z0 hB9
    have y1 := cell_keep (w := w1.drew) z1 hB9
    have y2 := cell_keep (w := w1.drew) z2 hB9
    have y3 := cell_keep (w := w1.drew) z3 hB9
    refine hK.out _ _ ⟨y0, y1, y2, y3⟩ (fun hH => ?_)
    clear hK K
    try simp only [Act.put, List.setIfInBounds_toArray, List.set_cons_zero, List.set_cons_succ]
    refine wpAnyH_take (i := 14) (oi := { dst := _, op := _, type := _, pos := _, after := _, guard := _ }) (v := ?_) rfl (by kernel_rfl) (by kernel_rfl) (by kernel_rfl) (fun _ _ _ h => h) (Or.inl ⟨by rfl, ?_⟩) hH ?_
    rotate_left
    · intro w9 hSw
      try dsimp only at hSw
      obtain ⟨s0, s1, s2, s3⟩ := hSw
      go_simp
      try with_reducible rfl
    try simp only [Act.put, List.setIfInBounds_toArray, List.set_cons_zero, List.set_cons_succ]
    refine wpAnyH_take (i := 15) (oi := { dst := _, op := _, type := _, pos := _, after := _, guard := _ }) (v := ?_) rfl (by kernel_rfl) (by kernel_rfl) (by kernel_rfl) (fun _ _ _ h => h) (Or.inl ⟨by rfl, ?_⟩) hH ?_
    rotate_left
    · intro w9 hSw
      try dsimp only at hSw
      obtain ⟨s0, s1, s2, s3⟩ := hSw
      go_simp
      try with_reducible rfl
    try simp only [Act.put, List.setIfInBounds_toArray, List.set_cons_zero, List.set_cons_succ]
    refine wpAnyH_take (i := 16) (oi := { dst := _, op := _, type := _, pos := _, after := _, guard := _ }) (v := ?_) rfl (by kernel_rfl) (by kernel_rfl) (by kernel_rfl) (fun _ _ _ h => h) (Or.inl ⟨by rfl, ?_⟩) hH ?_
    rotate_left
    · intro w9 hSw
      try dsimp only at hSw
      obtain ⟨s0, s1, s2, s3⟩ := hSw
      go_simp
      try with_reducible rfl
    try simp only [Act.put, List.setIfInBounds_toArray, List.set_cons_zero, List.set_cons_succ]
    refine wpAnyH_take (i := 17) (oi := { dst := _, op := _, type := _, pos := _, after := _, guard := _ }) (v := ?_) rfl (by kernel_rfl) (by kernel_rfl) (by kernel_rfl) (fun _ _ _ h => h) (Or.inl ⟨by rfl, ?_⟩) hH ?_
    rotate_left
    · intro w9 hSw
      try dsimp only at hSw
      obtain ⟨s0, s1, s2, s3⟩ := hSw
      go_simp
      try with_reducible rfl
    try simp only [Act.put, List.setIfInBounds_toArray, List.set_cons_zero, List.set_cons_succ]
    refine wpAnyH_take (i := 18) (oi := { dst := _, op := _, type := _, pos := _, after := _, guard := _ }) (v := ?_) rfl (by kernel_rfl) (by kernel_rfl) (by kernel_rfl) (fun _ _ _ h => h) (Or.inl ⟨by rfl, ?_⟩) hH ?_
    rotate_left
    · intro w9 hSw
      try dsimp only at hSw
      obtain ⟨s0, s1, s2, s3⟩ := hSw
      go_simp
      try with_reducible rfl
    try simp only [Act.put, List.setIfInBounds_toArray, List.set_cons_zero, List.set_cons_succ]
    refine wpAnyH_done (by kernel_rfl) ?_ _
    have hB2 := hBd.trans (Below.mono (w := w1.drew) hB9 (Nat.le_refl _))
    have hBt := hW.trans (hB2.mono hW.size)
    replace k0 := cell_keep k0 hB2
    replace k1 := cell_keep k1 hB2
    replace d3 := cell_keep d3 hB2
    replace l0 := (hb0.now hB2).lt
    clear z0 z1 z2 z3 y0 y1 y2 y3 d0 d1 d2
    have hE2 := hE'.out
    by_cases hneg : sv = bot
    · rw [if_pos hneg, if_pos (by omega)] at hE2
      have hE3 := Lib.hid hE2
      have hq : (sv != bot) = false := by simpa using hneg
      rw [hq]
      clear hE2 hneg hq hsm hbI
      go_wp2
      go_ret2
      exact ⟨ret_ii (congrArg Prod.fst hE3.out).symm (congrArg Prod.snd hE3.out).symm, hBt⟩
    · rw [if_neg hneg] at hsm
      have hs0 : sv ≤ 0 := hsm.2.2.resolve_left hneg
      rw [if_neg hneg, if_neg (by omega)] at hE2
      have hE3 := Lib.hid hE2
      have hq : (sv != bot) = true := by simpa using hneg
      rw [hq]
      have hsm1 : IntKind.i64.wrap (tk + - sv) = tk + - sv := IntWalk.i64_in _ (by omega)
      clear hE2 hneg hq
      go_wp2
      go_ret2
      exact ⟨ret_ii (congrArg Prod.fst hE3.out).symm (congrArg Prod.snd hE3.out).symm, hBt⟩
  · have hE : Hid (tokB ge gp i = (0, idxCode ge gp i)) := by show _ = _; unfold tokB; rw [if_neg hc]
    have hq : (idxCode ge gp i != 0) = true := by simpa using hc
    generalize idxCode ge gp i = code at *
    clear hc
    go_wp2
    go_ret2
    exact ⟨ret_ii (congrArg Prod.fst hE.out).symm (congrArg Prod.snd hE.out).symm, hW⟩
end Go.Proofs.Ytkbhbmoogkjafaa
