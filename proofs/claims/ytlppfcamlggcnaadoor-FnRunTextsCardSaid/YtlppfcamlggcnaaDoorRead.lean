/-
  Runs read from texts, the reference's side.
-/
import Derived.Test.YtlppfcamlggcnaaDoorSplit
import Derived.Test.YtlppfcamlggcnaaDoorRunS
namespace Go.Proofs.YtlppfcamlggcnaaDoor
open Go.RowKit
set_option linter.unusedVariables false
set_option linter.unusedSimpArgs false
theorem own_apart {α β : Type} {f : α → List Value} {f' : β → List Value} {s s' b b' : Nat} {e e' : TypeId} {W : World} {v v' : Value} {l : List α} {l' : List β} (h1 : Own f s e W b v l) (h2 : Own f' s' e' W b' v' l') (hne : e ≠ e') :
    ∀ k, v.ownBlock = some k → v'.ownBlock = some k → False := by
  intro k a b
  rcases h2.2 with ⟨rfl, _⟩ | ⟨g, cap, cur, rfl, _, hg, _⟩
  · cases b
  · injection b with b
    subst b
    exact h1.ne_blk (t := e') (cs := cur) hg hne a
theorem info_fir3 : (Tryd.prog.info? 87).map (fun i => (i.zero, i.size, i.bytes)) = some (some (.agg #[.int .i64 0, .int .i64 0, .int .i64 0]), 3, 24) := by kernel_rfl
theorem size_empty {s : ByteArray} (h : s.size = 0) : s = ⟨#[]⟩ := by
  apply bext
  rw [List.eq_nil_of_length_eq_zero (l := s.data.toList) (by rw [← bsize]; exact h)]
theorem ne_empty2 {s : ByteArray} (h : ¬ s.size = 0) : s.toList.isEmpty = false := by
  cases hl : s.toList with
  | nil =>
    have : s = ⟨#[]⟩ := str_inj (hl.trans (by decide +kernel : ([] : List UInt8) = (⟨#[]⟩ : ByteArray).toList))
    rw [this] at h
    exact absurd rfl h
  | cons a l => rfl
theorem ne_empty {s : ByteArray} (h : ¬ s.size = 0) : (s.toList == (⟨#[]⟩ : ByteArray).toList) = false := str_bne (fun e => h (by rw [e]; rfl))
theorem split_size (c : UInt8) (s : ByteArray) : ∀ x ∈ splitF c s, x.size ≤ s.size := by
  have key : ∀ (l : List UInt8), ∀ x ∈ cutAt c l, x.length ≤ l.length := by
    intro l
    induction l with
    | nil => intro x hx; simp [cutAt] at hx; simp [hx]
    | cons b l ih =>
      intro x hx
      simp only [cutAt] at hx
      split at hx
      · rcases List.mem_cons.1 hx with rfl | hx
        · simp
        · have := ih x hx
          simp; omega
      · cases h : cutAt c l with
        | nil => exact absurd h (cutAt_ne c l)
        | cons a t =>
          rw [h] at hx ih
          rcases List.mem_cons.1 hx with rfl | hx
          · have := ih a (by simp)
            simp; omega
          · have := ih x (by simp [hx])
            simp; omega
  intro x hx
  have h1 : x.data.toList ∈ cutAt c s.data.toList := by
    rw [← splitF_data]
    exact List.mem_map.2 ⟨x, hx, rfl⟩
  have := key _ _ h1
  rwa [← bsize, ← bsize] at this
set_option maxHeartbeats 16000000 in
set_option maxRecDepth 100000 in
theorem spec_ReadRun (s : ByteArray) (w : World) (hs : s.size ≤ 100000000) :
    Calls Tryd.prog 25 #[.string s] w fun e w' => RetOwnB Firing.cells 3 87 w ((readF s).getD []) (readF s).isSome e w' := by
  obtain ⟨F, hF⟩ : ∃ F, readF s = F := ⟨_, rfl⟩
  rw [hF]
  have hF := Lib.hid hF
  by_cases h0 : s.size = 0
  · obtain rfl := size_empty h0
    have hN : Hid (some [] = F) := by
      show _ = _
      rw [← hF.out]
      rfl
    clear h0
    go_enter Tryd.func25, Tryd.ntmps25
    go_wp2
    go_ret2
    exact ⟨_, by rw [← hN.out]; rfl, by rw [← hN.out]; exact own_new0 _ _ _ _ _ (Nat.le_refl _), (Below.refl _ _).alloc (Nat.le_refl _) _⟩
  · have hq := ne_empty h0
    have hq2 := ne_empty2 h0
    have hrd : Hid (readL [] (splitF 32 s) = F) := by
      show _ = _
      rw [← hF.out]
      unfold readF
      rw [if_neg h0]
    have hWl := splitF_len 32 s
    have hWs := Lib.hid (split_size 32 s)
    clear h0 hF
    go_enter Tryd.func25, Tryd.ntmps25
    go_wp2_with fail
    refine (spec_l01Split s 32 32 (by decide) _ hs).mono ?_
    rintro e w1 ⟨uw, rfl, hW, hB1⟩
    have hO0 := (own_new0 Firing.cells 3 w 87 w.heap.size (Nat.le_refl _)).now hB1
    have hB0 : Below w.heap.size w w1 := ((Below.refl w.heap.size w).alloc (Nat.le_refl _) (.cells #[] 87)).trans (hB1.mono (by simp))
    replace hW := hW.rebase (base' := w.heap.size) (by simp)
    generalize splitF 32 s = W at *
    clear hB1 hq hq2
    obtain ⟨WA, wc, rfl⟩ := hW.shape
    go_wp2
    go_loopw [4, 6, 7, 8] (fun u i _ _ wr => ∃ (k : Nat) (y : List Firing), k ≤ W.length ∧ i = .int .i64 k ∧ Hid (readL [] (W.take k) = some y) ∧ Hid (y.length = k) ∧ k ≤ 500 ∧ Own Firing.cells 3 87 wr w.heap.size u y ∧ Own strCell 1 9 wr w.heap.size (.slice WA W.length wc) W ∧ Below w.heap.size w wr) (fun _ i _ _ _ => W.length - (intOf i).toNat)
    case atStart => exact ⟨0, [], Nat.zero_le _, rfl, rfl, rfl, by omega, hO0, hW, hB0⟩
    case round =>
      clear hO0 hW hB0
      obtain ⟨k, y, hk, rfl, hR, hy, h5, hO, hW, hB⟩ := hrel
      obtain ⟨OA, oc, rfl⟩ := own_shape_n hO hy.out
      have hws := hB.size
      by_cases hlt : k < W.length
      · obtain ⟨b, off, rfl, hb, c0⟩ := strs_at hW.lst k hlt
        have hnx := readL_next hlt hR.out
        have hsz : W[k].size ≤ 100000000 := Nat.le_trans (hWs.out _ (List.getElem_mem hlt)) hs
        obtain ⟨x, hx⟩ : ∃ x, W[k] = x := ⟨_, rfl⟩
        rw [hx] at c0 hsz hnx
        have hnx := Lib.hid hnx
        have hbd := Lib.hid (fun h => (readL_bad (W := W) (k := k + 1) h).symm.trans hrd.out)
        clear hx
        have i1 : (0 : Int) ≤ (k : Int) := by omega
        have i2 : (k : Int) < (W.length : Int) := by omega
        go_wp2_with fail
        refine (spec_l01Split x 64 64 (by decide) _ hsz).mono ?_
        rintro e w2 ⟨ux, rfl, hX, hB2⟩
        replace hX := hX.lst
        have hxl : (splitF 64 x).length ≤ 1000000000 := by have := splitF_len 64 x; omega
        go_wp2_with fail
        refine (spec_l01Numbers _ _ _ hX hxl).mono ?_
        rintro e w3 ⟨un, rfl, hNn, hB3⟩
        replace hB3 := hB2.trans (hB3.mono hB2.size)
        replace hNn := hNn.rebase (base' := wr.heap.size) hB2.size
        obtain ⟨G, hG⟩ : ∃ G, numsF (splitF 64 x) = G := ⟨_, rfl⟩
        rw [hG] at hNn
        rw [hG]
        have hGH := Lib.hid hG
        replace hO := hO.now hB3
        replace hW := hW.now hB3
        replace hB := hB.trans (hB3.mono hws)
        clear hX hxl hB2 c0 hG
        have hws3 := hB.size
        have hin : ∀ (a b : Int), Calls Tryd.prog 68 #[.int .i64 a, .int .i64 0, .int .i64 1000000] w3 fun e w' => e = .returned (.bool (inB a 0 1000000)) ∧ w3 = w' := fun a b => spec_l01In a 0 1000000 w3
        cases G with
        | none =>
          have hN : Hid (none = F) := (hbd.out (by rw [hnx.out, word_bad hGH.out])).symm.symm
          clear hin
          go_wp2
          go_ret2
          exact ⟨_, by rw [← hN.out]; rfl, by rw [← hN.out]; exact Own.nil, hB⟩
        | some m =>
          have hNm : Own intCell 1 2 w3 wr.heap.size un m := hNn
          clear hNn
          by_cases hm : m.length = 2
          · match m, hm with
            | [a, b], _ =>
              have hw2 := word_two hGH.out
              rw [hw2] at hnx
              obtain ⟨nb, nc, rfl, hnb1, hnb2⟩ := own_form hNm (by simp)
              obtain ⟨_, _, _, n0⟩ := own_ints_at hNm 0 (by simp)
              obtain ⟨_, _, _, n1⟩ := own_ints_at hNm 1 (by simp)
              simp only [List.getElem_cons_zero, List.getElem_cons_succ] at n0 n1
              have hlst := Lib.hid hNm
              clear hNm hw2 hin
              simp only [List.length_cons, List.length_nil, Nat.zero_add, Nat.reduceAdd]
              obtain ⟨b1, hb1⟩ : ∃ b1, inB a 0 1000000 = b1 := ⟨_, rfl⟩
              obtain ⟨b2, hb2⟩ : ∃ b2, inB b 0 1000000 = b2 := ⟨_, rfl⟩
              rw [hb1, hb2] at hnx
              have hb1H := Lib.hid hb1
              have hb2H := Lib.hid hb2
              clear hb1 hb2
              cases b1 with
              | false =>
                have hN : Hid (none = F) := hbd.out (by rw [hnx.out]; rfl)
                go_wp2_with (go_at_call 68; refine (spec_l01In _ _ _ _).mono ?_; rintro e w9 ⟨rfl, rfl⟩; rw [hb1H.out])
                go_ret2
                exact ⟨_, by rw [← hN.out]; rfl, by rw [← hN.out]; exact Own.nil, hB⟩
              | true =>
                cases b2 with
                | false =>
                  have hN : Hid (none = F) := hbd.out (by rw [hnx.out]; rfl)
                  go_wp2_with (go_at_call 68; refine (spec_l01In _ _ _ _).mono ?_; rintro e w9 ⟨rfl, rfl⟩; (first | rw [hb1H.out] | rw [hb2H.out]))
                  go_ret2
                  exact ⟨_, by rw [← hN.out]; rfl, by rw [← hN.out]; exact Own.nil, hB⟩
                | true =>
                  by_cases hk5 : k = 500
                  · have hN : Hid (none = F) := hbd.out (by rw [hnx.out]; simp [hy.out, hk5])
                    have hk5' : ((k : Int) == 500) = true := by rw [hk5]; rfl
                    clear hk5
                    go_wp2_with (go_at_call 68; refine (spec_l01In _ _ _ _).mono ?_; rintro e w9 ⟨rfl, rfl⟩; (first | rw [hb1H.out] | rw [hb2H.out]))
                    go_ret2
                    exact ⟨_, by rw [← hN.out]; rfl, by rw [← hN.out]; exact Own.nil, hB⟩
                  · have hnx2 : Hid (readL [] (W.take (k + 1)) = some (y ++ [⟨a, (timesIn y a).length + 1, b⟩])) := by
                      show _ = _
                      rw [hnx.out]
                      have : ¬ y.length = 500 := by rw [hy.out]; exact hk5
                      simp [this]
                    have hk5' : ((k : Int) == 500) = false := by simp; omega
                    have h5' : k + 1 ≤ 500 := by omega
                    clear hk5 hbd hnx
                    have z0 : w3.drew.cell? ⟨nb, 0, none⟩ = some (.int .i64 a) := n0
                    have z1 : w3.drew.cell? ⟨nb, 1, none⟩ = some (.int .i64 b) := n1
                    have hBd : Below w3.heap.size w3 w3.drew := Below.drew (Below.refl _ w3)
                    have hFd := (hO.now hBd).lst
                    have hl1000 : y.length ≤ 1000 := by rw [hy.out]; omega
                    have hcn : (timesIn y a).length ≤ 500 := by have := timesIn_len y a; rw [hy.out] at this; omega
                    obtain ⟨cn, hcnE⟩ : ∃ cn : Int, ((timesIn y a).length : Int) = cn := ⟨_, rfl⟩
                    rw [hcnE] at hnx2
                    have hcw : IntKind.i64.wrap (cn + 1) = cn + 1 := IntWalk.i64_in _ (by omega)
                    have hZ : Below w3.heap.size w3 (w3.drew.alloc (.cells #[.int .i64 a, .int .i64 (cn + 1), .int .i64 b] 87)) := (Below.refl _ _).drew.alloc (Nat.le_refl _) _
                    have qO := hO.now hZ
                    have qW := hW.now hZ
                    have x0 := cell_keep n0 hZ
                    have x1 := cell_keep n1 hZ
                    have hLst : Lst Firing.cells 3 (w3.drew.alloc (.cells #[.int .i64 a, .int .i64 (cn + 1), .int .i64 b] 87)) (w3.heap.size + 1) (.slice (some ⟨w3.heap.size, 0, none⟩) 1 1) [⟨a, cn + 1, b⟩] := lst_new1 Firing.cells 3 Firing.cells_len w3.drew 87 ⟨a, cn + 1, b⟩ _ rfl _ rfl
                    have hlen : y.length + [(⟨a, cn + 1, b⟩ : Firing)].length ≤ 1099511627776 := by rw [hy.out]; simp; omega
                    have hbs : w.heap.size ≤ (w3.drew.alloc (.cells #[.int .i64 a, .int .i64 (cn + 1), .int .i64 b] 87)).heap.size := Nat.le_trans hws3 hZ.size
                    have hfar : (Value.slice OA k oc).ownBlock = some nb → False := fun e => own_apart hO hlst.out (by decide) nb e rfl
                    have hcnH := Lib.hid hcnE
                    have hl5 := Lib.hid hl1000
                    clear hcn hlst
                    go_wp2_with (go_at_call 68; refine (spec_l01In _ _ _ _).mono ?_; rintro e w9 ⟨rfl, rfl⟩; (first | rw [hb1H.out] | rw [hb2H.out]))
                    clear n0 n1
                    refine wp_region_held_drew (S := fun w' => w'.cell? ⟨nb, 0, none⟩ = some (.int .i64 a) ∧ w'.cell? ⟨nb, 1, none⟩ = some (.int .i64 b)) (by kernel_rfl) ⟨z0, z1⟩ (fun hH => ?_)
                    refine tkH 0 (v := ?_) rfl (fun _ _ _ h => h) (Or.inl ⟨by rfl, ?_⟩) hH ?_
                    rotate_left
                    · intro w9 hSw
                      try dsimp only at hSw
                      obtain ⟨s0, s1⟩ := hSw
                      go_simp
                      try with_reducible rfl
                    try simp only [Act.put, List.setIfInBounds_toArray, List.set_cons_zero, List.set_cons_succ]
                    refine tkH 1 (v := ?_) rfl (fun _ _ _ h => h) (Or.inl ⟨by rfl, ?_⟩) hH ?_
                    rotate_left
                    · intro w9 hSw
                      try dsimp only at hSw
                      obtain ⟨s0, s1⟩ := hSw
                      go_simp
                      try with_reducible rfl
                    try simp only [Act.put, List.setIfInBounds_toArray, List.set_cons_zero, List.set_cons_succ]
                    refine tkH 2 (v := ?_) rfl (fun _ _ _ h => h) (Or.inl ⟨by rfl, ?_⟩) hH ?_
                    rotate_left
                    · intro w9 hSw
                      try dsimp only at hSw
                      obtain ⟨s0, s1⟩ := hSw
                      go_simp
                      try with_reducible rfl
                    try simp only [Act.put, List.setIfInBounds_toArray, List.set_cons_zero, List.set_cons_succ]
                    refine tkH 3 (v := ?_) rfl (fun _ _ _ h => h) (Or.inl ⟨by rfl, ?_⟩) hH ?_
                    rotate_left
                    · intro w9 hSw
                      try dsimp only at hSw
                      obtain ⟨s0, s1⟩ := hSw
                      go_simp
                      try with_reducible rfl
                    try simp only [Act.put, List.setIfInBounds_toArray, List.set_cons_zero, List.set_cons_succ]
                    refine tkH 4 (v := ?_) rfl (fun _ _ _ h => h) (Or.inl ⟨by rfl, ?_⟩) hH ?_
                    rotate_left
                    · intro w9 hSw
                      try dsimp only at hSw
                      obtain ⟨s0, s1⟩ := hSw
                      go_simp
                      try with_reducible rfl
                    try simp only [Act.put, List.setIfInBounds_toArray, List.set_cons_zero, List.set_cons_succ]
                    refine tkH 5 (v := ?_) rfl (fun _ _ _ h => h) (Or.inl ⟨by rfl, ?_⟩) hH ?_
                    rotate_left
                    · intro w9 hSw
                      try dsimp only at hSw
                      obtain ⟨s0, s1⟩ := hSw
                      go_simp
                      try with_reducible rfl
                    try simp only [Act.put, List.setIfInBounds_toArray, List.set_cons_zero, List.set_cons_succ]
                    refine tkH 6 (v := ?_) rfl (fun _ _ _ h => h) (Or.inl ⟨by rfl, ?_⟩) hH ?_
                    rotate_left
                    · intro w9 hSw
                      try dsimp only at hSw
                      obtain ⟨s0, s1⟩ := hSw
                      go_simp
                      try with_reducible rfl
                    try simp only [Act.put, List.setIfInBounds_toArray, List.set_cons_zero, List.set_cons_succ]
                    refine tkH 7 (v := ?_) rfl (fun _ _ _ h => h) (Or.inl ⟨by rfl, ?_⟩) hH ?_
                    rotate_left
                    · intro w9 hSw
                      try dsimp only at hSw
                      obtain ⟨s0, s1⟩ := hSw
                      go_simp
                      try with_reducible rfl
                    try simp only [Act.put, List.setIfInBounds_toArray, List.set_cons_zero, List.set_cons_succ]
                    refine tkH 10 (v := ?_) rfl (fun _ _ _ h => h) (Or.inl ⟨by rfl, ?_⟩) hH ?_
                    rotate_left
                    · intro w9 hSw
                      try dsimp only at hSw
                      obtain ⟨s0, s1⟩ := hSw
                      go_simp
                      try with_reducible rfl
                    try simp only [Act.put, List.setIfInBounds_toArray, List.set_cons_zero, List.set_cons_succ]
                    refine tkH 11 (v := ?_) rfl (fun _ _ _ h => h) (Or.inl ⟨by rfl, ?_⟩) hH ?_
                    rotate_left
                    · intro w9 hSw
                      try dsimp only at hSw
                      obtain ⟨s0, s1⟩ := hSw
                      go_simp
                      try with_reducible rfl
                    try simp only [Act.put, List.setIfInBounds_toArray, List.set_cons_zero, List.set_cons_succ]
                    refine tkH 12 (v := ?_) rfl (fun _ _ _ h => h) (Or.inl ⟨by rfl, ?_⟩) hH ?_
                    rotate_left
                    · intro w9 hSw
                      try dsimp only at hSw
                      obtain ⟨s0, s1⟩ := hSw
                      go_simp
                      try with_reducible rfl
                    try simp only [Act.put, List.setIfInBounds_toArray, List.set_cons_zero, List.set_cons_succ]
                    refine wpAnyH_ready (rs := [8]) (by kernel_rfl) (by simp) ?_
                    refine AllReadyH.cons rfl (fun K hK => ?_) AllReadyH.nil
                    go_simp
                    go_at_call 69
                    refine (l14Count _ _ _ _ hFd hl1000).mono ?_
                    rintro e6 w6 ⟨rfl, rfl⟩
                    rw [hcnE]
                    refine hK.out _ _ ⟨z0, z1⟩ (fun hH => ?_)
                    clear hK K
                    try simp only [Act.put, List.setIfInBounds_toArray, List.set_cons_zero, List.set_cons_succ]
                    refine tkH 9 (v := ?_) rfl (fun _ _ _ h => h) (Or.inl ⟨by rfl, ?_⟩) hH ?_
                    rotate_left
                    · intro w9 hSw
                      try dsimp only at hSw
                      obtain ⟨s0, s1⟩ := hSw
                      go_simp
                      try with_reducible rfl
                    try simp only [Act.put, List.setIfInBounds_toArray, List.set_cons_zero, List.set_cons_succ]
                    refine tkH 13 (v := ?_) rfl (fun _ _ _ h => h) (Or.inl ⟨by rfl, ?_⟩) hH ?_
                    rotate_left
                    · intro w9 hSw
                      try dsimp only at hSw
                      obtain ⟨s0, s1⟩ := hSw
                      go_simp
                      try with_reducible rfl
                    try simp only [Act.put, List.setIfInBounds_toArray, List.set_cons_zero, List.set_cons_succ]
                    refine wpAnyH_ready (rs := [14]) (by kernel_rfl) (by simp) ?_
                    refine AllReadyH.cons rfl (fun K hK => ?_) AllReadyH.nil
                    go_simp
                    refine hK.out _ _ ⟨x0, x1⟩ (fun hH => ?_)
                    clear hK K
                    try simp only [Act.put, List.setIfInBounds_toArray, List.set_cons_zero, List.set_cons_succ]
                    refine wpAnyH_ready (rs := [15]) (by kernel_rfl) (by simp) ?_
                    refine AllReadyH.cons rfl (fun K hK => ?_) AllReadyH.nil
                    refine step_append_lst rfl _ _ 38 rfl Firing.cells 3 Firing.cells_one (by omega) w.heap.size 87 _ 24 Tryd.underlying38 info_fir3 rfl (.slice OA k oc) y rfl qO _ _ _ _ [⟨a, cn + 1, b⟩] rfl hLst hlen (by omega) hbs ?_
                    intro v1 wz hO1 hG hD1
                    have u0 := cell_kept x0 hG hfar
                    have u1 := cell_kept x1 hG hfar
                    refine hK.out _ _ ⟨u0, u1⟩ (fun hH => ?_)
                    clear hK K
                    try simp only [Act.put, List.setIfInBounds_toArray, List.set_cons_zero, List.set_cons_succ]
                    refine tkH 16 (v := ?_) rfl (fun _ _ _ h => h) (Or.inl ⟨by rfl, ?_⟩) hH ?_
                    rotate_left
                    · intro w9 hSw
                      try dsimp only at hSw
                      obtain ⟨s0, s1⟩ := hSw
                      go_simp
                      try with_reducible rfl
                    try simp only [Act.put, List.setIfInBounds_toArray, List.set_cons_zero, List.set_cons_succ]
                    refine wpAnyH_done (by kernel_rfl) ?_ _
                    have hB9 := below_app (hB.trans (hZ.mono hws3)) hbs hG qO (Nat.le_refl _)
                    have hW9 := own_kept qW hG (own_apart qW qO (by decide))
                    have hy9 : Hid ((y ++ [(⟨a, cn + 1, b⟩ : Firing)]).length = k + 1) := by show _ = _; rw [List.length_append, hy.out]; rfl
                    go_wp2
                    go_roundw
                    case rel => exact ⟨k + 1, _, hlt, by go_num, hnx2, hy9, h5', hO1, hW9, hB9⟩
                    case measure => simp [intOf] <;> omega
          · have hN : Hid (none = F) := hbd.out (by rw [hnx.out, word_len hGH.out hm])
            have hm2 : ((m.length : Int) != 2) = true := by rw [bne_iff_ne]; omega
            obtain ⟨UA, uc, rfl⟩ := hNm.shape
            clear hm hin
            go_wp2
            go_ret2
            exact ⟨_, by rw [← hN.out]; rfl, by rw [← hN.out]; exact Own.nil, hB⟩
      · obtain rfl : k = W.length := by omega
        have hfin : Hid (some y = F) := by
          show _ = _
          have := hR.out
          rw [List.take_length] at this
          rw [← hrd.out, this]
        clear hR
        go_wp2
        go_ret2
        exact ⟨_, by rw [← hfin.out]; rfl, by rw [← hfin.out]; exact hO, hB⟩
end Go.Proofs.YtlppfcamlggcnaaDoor
