/-
  The walks of ClosedMatrix, the program's and the reference's.
-/
import Derived.Test.YtcoomogabicfnaaStarT
import Derived.Test.YtcoomogabicfnaaStarB
import Derived.Test.YtcoomogabicfnaaTimT
namespace Go.Proofs.Ytcoomogabicfnaa
open Go.RowKit
set_option linter.unusedVariables false
set_option linter.unusedSimpArgs false
theorem delF_from (m : Int) (gp : List Place) : ∀ k, k ≤ gp.length → ∀ i j, delF m (gp.take k) i j = bot ∨ ∃ p ∈ gp, p.dst.toNat = i ∧ p.src.toNat = j ∧ p.tokens = m ∧ delF m (gp.take k) i j = p.delay := by
  intro k
  induction k with
  | zero => intro _ i j; exact .inl rfl
  | succ k ih =>
    intro hk i j
    rw [delF_succ m gp k (by omega)]
    have h1 := ih (by omega)
    split
    · rename_i ht
      unfold updF
      split
      · rename_i hij
        by_cases hle : delF m (gp.take k) gp[k].dst.toNat gp[k].src.toNat ≤ gp[k].delay
        · exact .inr ⟨gp[k], List.getElem_mem _, hij.1.symm, hij.2.symm, ht, by omega⟩
        · rcases h1 gp[k].dst.toNat gp[k].src.toNat with e | ⟨p, hp, e1, e2, e3, e4⟩
          · exact .inl (by omega)
          · exact .inr ⟨p, hp, by omega, by omega, e3, by omega⟩
      · exact h1 i j
    · exact h1 i j
theorem delF_fin {ge : Int} {gp : List Place} (hg : okGraph ge gp = true) (m : Int) (n : Nat) : finM n 1000 (delF m gp) := by
  intro i j _ _
  have h := delF_from m gp gp.length (Nat.le_refl _) i j
  rw [List.take_length] at h
  rcases h with h | ⟨p, hp, _, _, _, e⟩
  · exact .inl h
  · have := okGraph_place hg hp
    exact .inr (by rw [e]; omega)
theorem bnd_of_fin {n : Nat} {W : Int} {F : Nat → Nat → Int} (h : finM n W F) (hW : W ≤ 5000000000000) : bnd n F := fun i j hi hj => by
  rcases h i j hi hj with h | h
  · exact .inr h
  · exact .inl (by omega)
/-- A graph that is live has a potential for its places without tokens. -/
theorem live_pot {n : Nat} {gp : List Place} {o : List Int} (hg : okGraph n gp = true) (ho : orderF n gp = some o) : Pot n (delF 0 gp) (fun i => 1000 * (o.idxOf (i : Int) : Int)) := by
  have hk := orderK_ok n o ho
  intro i j hi hj hne
  have h := delF_from 0 gp gp.length (Nat.le_refl _) i j
  rw [List.take_length] at h
  rcases h with h | ⟨p, hp, e1, e2, e3, e4⟩
  · exact absurd h hne
  · have hb := okGraph_place hg hp
    obtain ⟨q, hq, hqv⟩ := List.mem_iff_getElem.1 (hk.all i hi)
    have h1 := hk.ord q hq p hp (by rw [hqv]; omega) e3
    have e5 : p.src = (j : Int) := by omega
    rw [e5] at h1
    have h2 := idx_take hk.nodup h1 hq hqv
    show delF 0 gp i j + 1000 * (o.idxOf (j : Int) : Int) ≤ 1000 * (o.idxOf (i : Int) : Int)
    rw [e4]
    omega
def closedM (n : Nat) (gp : List Place) (m : Int) : List (List Int) := matF n (mulF n (itF n (delF 0 gp) n) (delF m gp)) n
def closF (ge : Int) (gp : List Place) (m : Int) : List (List Int) × Int :=
  if timC ge gp (inB m 1 5) = 0 then (closedM ge.toNat gp m, 0) else ([], timC ge gp (inB m 1 5))
theorem matF_offs (n m : Nat) (F : Nat → Nat → Int) (hn : n ≤ 10) (hm : m ≤ 10) : offs (matF n F m) (matF n F m).length ≤ 1048576 := by
  have h := offs_rows (matF n F m) n (fun r hr => by
    unfold matF at hr
    obtain ⟨i, _, rfl⟩ := List.mem_map.1 hr
    simp) _ (Nat.le_refl _)
  rw [matF_len] at h ⊢
  exact Nat.le_trans h (Nat.le_trans (Nat.mul_le_mul hm hn) (by decide))
theorem closF_offs (ge : Int) (gp : List Place) (m : Int) : offs (closF ge gp m).1 (closF ge gp m).1.length ≤ 1048576 := by
  unfold closF
  split
  · rename_i h
    obtain ⟨hg, _, _⟩ := timC_zero h
    obtain ⟨h1, h2⟩ := okGraph_ev hg
    exact matF_offs _ _ _ (by omega) (by omega)
  · simp [offs]
set_option maxHeartbeats 4000000 in
set_option maxRecDepth 100000 in
theorem impl_closedMatrix (v : Value) (n : Nat) (gp : List Place) (m : Int) (w : World) (h0 : Lst Place.cells 4 w w.heap.size v gp) (hg : Hid (okGraph n gp = true)) (hlv : Hid (∃ o, orderF n gp = some o)) :
    Calls Try.prog 23 #[.agg #[.int .i64 n, v], .int .i64 m] w (RetM w (closedM n gp m)) := by
  obtain ⟨A, c, rfl⟩ := h0.shape
  obtain ⟨hn1, hn2⟩ := okGraph_ev hg.out
  have hF := Lib.hid (delF_fin hg.out 0 n)
  have hit : Hid (itOk n (delF 0 gp)) := by
    obtain ⟨o, ho⟩ := hlv.out
    exact itOk_of_pot hF.out (by omega) (by omega) (by omega) (live_pot hg.out ho)
  go_enter Try.func23, Try.ntmps23
  go_wp2_with fail
  have hW : Below w.heap.size w (w.alloc (.cells #[.int .i64 (n:Int), .slice A gp.length c] 26)) := (Below.refl _ _).alloc (Nat.le_refl _) _; have hb0 : Blk (w.alloc (.cells #[.int .i64 (n:Int), .slice A gp.length c] 26)) w.heap.size 26 #[.int .i64 (n:Int), .slice A gp.length c] := Blk.new _ _ _; replace h0 := h0.now hW; generalize (w.alloc (.cells #[.int .i64 (n:Int), .slice A gp.length c] 26)) = W at *
  obtain ⟨k0, k1⟩ := hb0.c2
  go_wp2_with fail
  refine (impl_delayMatrix _ n gp 0 W h0 hg.out).mono ?_
  rintro e w1 ⟨u1, rfl, hM, hB1⟩
  unfold delayM at hM
  obtain ⟨A1, c1, rfl⟩ := hM.shape
  rw [matF_len] at hM ⊢
  clear k0 k1
  go_wp2_with fail
  refine (impl_starOf _ n _ 1000 w1 hM.lst (by omega) (by omega) hF (by omega) (by omega)).mono ?_
  rintro e w2 ⟨u2, ok, rfl, hiff, hS, hB2⟩
  have hB12 := hB1.trans (hB2.mono hB1.size)
  have hfw : fwOk n (delF 0 gp) := (star_ok hF.out (by omega) (by omega) (by omega)).2 hit.out
  have hO := hS (hiff.2 hfw)
  rw [matF_congr (n := n) (m := n) (star_eq hF.out (by omega) (by omega) (by omega) hit.out)] at hO
  obtain ⟨A2, c2, rfl⟩ := hO.shape
  rw [matF_len] at hO ⊢
  clear hiff hS hfw
  have hbS : Hid (bnd n (itF n (delF 0 gp) n)) := it_bnd hF.out (by omega) (by omega) (by omega) n (by omega)
  have hbD : Hid (bnd n (delF m gp)) := bnd_of_fin (delF_fin hg.out m n) (by omega)
  have hb2 := hb0.now hB12
  obtain ⟨k0, k1⟩ := hb2.c2
  have l0 := hb2.lt
  go_wp2_with fail
  refine (impl_delayMatrix _ n gp m w2 (h0.now hB12) hg.out).mono ?_
  rintro e w3 ⟨u3, rfl, hD, hB3⟩
  unfold delayM at hD
  obtain ⟨A3, c3, rfl⟩ := hD.shape
  rw [matF_len] at hD ⊢
  clear k0 k1 l0
  go_wp2_with fail
  refine (impl_multiply _ _ n _ _ w3 (hO.now hB3).lst hD.lst hbS hbD (by omega) (by omega)).mono ?_
  rintro e w4 ⟨u4, rfl, hP, hB4⟩
  go_wp2
  go_ret
  have hBt := hB12.trans ((hB3.trans (hB4.mono hB3.size)).mono hB12.size)
  exact ⟨_, rfl, hP.rebase (Nat.le_trans hW.size (Nat.le_trans hB12.size hB3.size)), hW.trans (hBt.mono hW.size)⟩
set_option maxHeartbeats 4000000 in
set_option maxRecDepth 100000 in
theorem spec_l13Closed (v : Value) (n : Nat) (gp : List Place) (m : Int) (w : World) (h0 : Lst Place.cells 4 w w.heap.size v gp) (hg : Hid (okGraph n gp = true)) :
    Calls Try.prog 28 #[.agg #[.int .i64 n, v], .int .i64 m] w (RetM w (closedM n gp m)) := by
  obtain ⟨A, c, rfl⟩ := h0.shape
  obtain ⟨hn1, hn2⟩ := okGraph_ev hg.out
  have hF := Lib.hid (delF_fin hg.out 0 n)
  go_enter Try.func28, Try.ntmps28
  go_wp2_with fail
  have hW : Below w.heap.size w (w.alloc (.cells #[.int .i64 (n:Int), .slice A gp.length c] 26)) := (Below.refl _ _).alloc (Nat.le_refl _) _; have hb0 : Blk (w.alloc (.cells #[.int .i64 (n:Int), .slice A gp.length c] 26)) w.heap.size 26 #[.int .i64 (n:Int), .slice A gp.length c] := Blk.new _ _ _; replace h0 := h0.now hW; generalize (w.alloc (.cells #[.int .i64 (n:Int), .slice A gp.length c] 26)) = W at *
  obtain ⟨k0, k1⟩ := hb0.c2
  go_wp2_with fail
  refine (l13Delays _ n gp 0 W h0 hg.out).mono ?_
  rintro e w1 ⟨u1, rfl, hM, hB1⟩
  unfold delayM at hM
  obtain ⟨A1, c1, rfl⟩ := hM.shape
  rw [matF_len] at hM ⊢
  clear k0 k1
  go_wp2_with fail
  refine (spec_l03Star _ n _ 1000 w1 hM.lst (by omega) (by omega) hF (by omega) (by omega)).mono ?_
  rintro e w2 ⟨u2, ok, rfl, hiff, hO, hB2⟩
  have hB12 := hB1.trans (hB2.mono hB1.size)
  obtain ⟨A2, c2, rfl⟩ := hO.shape
  rw [matF_len] at hO ⊢
  clear hiff
  have hbS : Hid (bnd n (itF n (delF 0 gp) n)) := it_bnd hF.out (by omega) (by omega) (by omega) n (by omega)
  have hbD : Hid (bnd n (delF m gp)) := bnd_of_fin (delF_fin hg.out m n) (by omega)
  have hb2 := hb0.now hB12
  obtain ⟨k0, k1⟩ := hb2.c2
  have l0 := hb2.lt
  go_wp2_with fail
  refine (l13Delays _ n gp m w2 (h0.now hB12) hg.out).mono ?_
  rintro e w3 ⟨u3, rfl, hD, hB3⟩
  unfold delayM at hD
  obtain ⟨A3, c3, rfl⟩ := hD.shape
  rw [matF_len] at hD ⊢
  clear k0 k1 l0
  go_wp2_with fail
  refine (spec_l02Multiply _ _ n _ _ w3 (hO.now hB3).lst hD.lst hbS hbD (by omega) (by omega)).mono ?_
  rintro e w4 ⟨u4, rfl, hP, hB4⟩
  go_wp2
  go_ret
  have hBt := hB12.trans ((hB3.trans (hB4.mono hB3.size)).mono hB12.size)
  exact ⟨_, rfl, hP.rebase (Nat.le_trans hW.size (Nat.le_trans hB12.size hB3.size)), hW.trans (hBt.mono hW.size)⟩
set_option maxHeartbeats 4000000 in
set_option maxRecDepth 100000 in
theorem impl_ClosedMatrix (v : Value) (ge : Int) (gp : List Place) (m : Int) (w : World) (h0 : Lst Place.cells 4 w w.heap.size v gp) :
    Calls Try.prog 9 #[.agg #[.int .i64 ge, v], .int .i64 m] w (RetMI w (closF ge gp m).1 (closF ge gp m).2) := by
  obtain ⟨A, c, rfl⟩ := h0.shape
  go_enter Try.func9, Try.ntmps9
  go_wp2_with fail
  have hW : Below w.heap.size w (w.alloc (.cells #[.int .i64 ge, .slice A gp.length c] 26)) := (Below.refl _ _).alloc (Nat.le_refl _) _; have hb0 : Blk (w.alloc (.cells #[.int .i64 ge, .slice A gp.length c] 26)) w.heap.size 26 #[.int .i64 ge, .slice A gp.length c] := Blk.new _ _ _; replace h0 := h0.now hW; generalize (w.alloc (.cells #[.int .i64 ge, .slice A gp.length c] 26)) = W at *
  refine (impl_IsEventGraph _ _ _ _ h0).mono ?_
  rintro e w1 ⟨rfl, hB⟩
  replace hW := hW.trans (hB.mono hW.size); replace h0 := h0.now hB; replace hb0 := hb0.now hB
  clear hB
  obtain ⟨k0, k1⟩ := hb0.c2
  have l0 := hb0.lt
  cases hg : okGraph ge gp
  · have hE : Hid (closF ge gp m = ([], 1)) := by show _ = _; simp [closF, timC, hg]
    clear hg
    go_wp2
    go_ret2
    exact RetMI.of hE.out ⟨_, rfl, OwnM.nil, hW⟩
  · obtain ⟨hge1, hge2⟩ := okGraph_ev hg
    obtain ⟨n, rfl⟩ := Int.eq_ofNat_of_zero_le (show 0 ≤ ge by omega)
    have hg' := Lib.hid hg
    clear hg
    cases hi : inB m 1 5
    · have hE : Hid (closF n gp m = ([], 2)) := by show _ = _; simp [closF, timC, hg'.out, hi]
      go_wp2_with (go_at_call 31; refine (impl_within _ _ _ _).mono ?_; rintro e w' ⟨rfl, rfl⟩)
      go_ret2
      exact RetMI.of hE.out ⟨_, rfl, OwnM.nil, hW⟩
    · have hiH := Lib.hid hi
      go_wp2_with (first | (go_at_call 31; refine (impl_within _ _ _ _).mono ?_; rintro e w' ⟨rfl, rfl⟩))
      clear hi
      refine (impl_isLive _ n gp _ h0 hg').mono ?_
      rintro e w2 ⟨rfl, hB⟩
      clear k0 k1 l0
      replace hW := hW.trans (hB.mono hW.size); replace h0 := h0.now hB; replace hb0 := hb0.now hB
      clear hB
      obtain ⟨k0, k1⟩ := hb0.c2
      have l0 := hb0.lt
      cases ho : orderF n gp with
      | none =>
        have hE : Hid (closF n gp m = ([], 5)) := by show _ = _; simp [closF, timC, hg'.out, hiH.out, ho]
        clear ho
        simp only [Option.isSome_none]
        go_wp2
        go_ret2
        exact RetMI.of hE.out ⟨_, rfl, OwnM.nil, hW⟩
      | some o =>
        have hE : Hid (closF n gp m = (closedM n gp m, 0)) := by show _ = _; simp [closF, timC, hg'.out, hiH.out, ho]
        have hlv : Hid (∃ o, orderF n gp = some o) := ⟨o, ho⟩
        clear ho
        simp only [Option.isSome_some]
        go_wp2_with fail
        refine (impl_closedMatrix _ n gp m _ h0 hg' hlv).mono ?_
        rintro e w3 ⟨u, rfl, hM, hB⟩
        go_wp2
        go_ret2
        exact RetMI.of hE.out ⟨_, rfl, hM.rebase hW.size, hW.trans (hB.mono hW.size)⟩
set_option maxHeartbeats 4000000 in
set_option maxRecDepth 100000 in
theorem spec_ClosedMatrix (v : Value) (ge : Int) (gp : List Place) (m : Int) (w : World) (h0 : Lst Place.cells 4 w w.heap.size v gp) :
    Calls Try.prog 10 #[.agg #[.int .i64 ge, v], .int .i64 m] w (RetMI w (closF ge gp m).1 (closF ge gp m).2) := by
  obtain ⟨A, c, rfl⟩ := h0.shape
  go_enter Try.func10, Try.ntmps10
  go_wp2_with fail
  have hW : Below w.heap.size w (w.alloc (.cells #[.int .i64 ge, .slice A gp.length c] 26)) := (Below.refl _ _).alloc (Nat.le_refl _) _
  have hb0 : Blk (w.alloc (.cells #[.int .i64 ge, .slice A gp.length c] 26)) w.heap.size 26 #[.int .i64 ge, .slice A gp.length c] := Blk.new _ _ _
  replace h0 := h0.now hW
  generalize w.alloc (.cells #[.int .i64 ge, .slice A gp.length c] 26) = W at *
  have hBd : Below W.heap.size W W.drew := Below.drew (Below.refl _ W)
  obtain ⟨k0, k1⟩ := hb0.c2
  have z0 : W.drew.cell? ⟨w.heap.size, 0, none⟩ = some (.int .i64 ge) := k0
  have z1 : W.drew.cell? ⟨w.heap.size, 1, none⟩ = some (.slice A gp.length c) := k1
  refine wp_region_held_drew (S := fun w' => w'.cell? ⟨w.heap.size, 0, none⟩ = some (.int .i64 ge) ∧ w'.cell? ⟨w.heap.size, 1, none⟩ = some (.slice A gp.length c)) (by kernel_rfl) ⟨z0, z1⟩ (fun hH => ?_)
  refine tkH 0 (v := ?_) rfl (fun _ _ _ h => h) (Or.inl ⟨by rfl, ?_⟩) hH ?_
  rotate_left
  · intro w9 hSw
    try dsimp only at hSw
    obtain ⟨s0, s1⟩ := hSw
    go_simp
    try with_reducible rfl
  try simp only [Act.put, List.setIfInBounds_toArray, List.set_cons_zero, List.set_cons_succ]
  refine tkH 1 (v := ?_) rfl (fun _ _ _ h => h) (Or.inl ⟨by rfl, ?_⟩) hH ?_
  rotate_left
  · intro w9 hSw
    try dsimp only at hSw
    obtain ⟨s0, s1⟩ := hSw
    go_simp
    try with_reducible rfl
  try simp only [Act.put, List.setIfInBounds_toArray, List.set_cons_zero, List.set_cons_succ]
  refine wpAnyH_ready (rs := [2]) (by kernel_rfl) (by simp) ?_
  refine AllReadyH.cons rfl (fun K hK => ?_) AllReadyH.nil
  go_simp
  go_at_call 33
  refine (spec_l01In _ _ _ _).mono ?_
  rintro e6 w6 ⟨rfl, rfl⟩
  refine hK.out _ _ ⟨z0, z1⟩ (fun hH => ?_)
  clear hK K
  try simp only [Act.put, List.setIfInBounds_toArray, List.set_cons_zero, List.set_cons_succ]
  refine wpAnyH_ready (rs := [3]) (by kernel_rfl) (by simp) ?_
  refine AllReadyH.cons rfl (fun K hK => ?_) AllReadyH.nil
  go_simp
  go_at_call 32
  refine (spec_l13Code _ _ _ _ W.drew (h0.now hBd)).mono ?_
  rintro e7 w1 ⟨rfl, hB⟩
  have z0a := cell_keep (w := W.drew) z0 hB
  have z1a := cell_keep (w := W.drew) z1 hB
  refine hK.out _ _ ⟨z0a, z1a⟩ (fun hH => ?_)
  clear hK K
  try simp only [Act.put, List.setIfInBounds_toArray, List.set_cons_zero, List.set_cons_succ]
  refine tkH 4 (v := ?_) rfl (fun _ _ _ h => h) (Or.inl ⟨by rfl, ?_⟩) hH ?_
  rotate_left
  · intro w9 hSw
    try dsimp only at hSw
    obtain ⟨s0, s1⟩ := hSw
    go_simp
    try with_reducible rfl
  try simp only [Act.put, List.setIfInBounds_toArray, List.set_cons_zero, List.set_cons_succ]
  refine wpAnyH_done (by kernel_rfl) ?_ _
  replace h0 := (h0.now hBd).now hB
  replace hb0 := (hb0.now hBd).now hB
  replace hW := hW.trans ((hBd.trans hB).mono hW.size)
  clear hB k0 k1 z0 z1 z0a z1a hH hBd
  obtain ⟨k0, k1⟩ := hb0.c2
  have l0 := hb0.lt
  cases hc : timC ge gp (inB m 1 5) == 0
  · have hc' : (timC ge gp (inB m 1 5) != 0) = true := by simp only [bne, hc]; rfl
    have hE : Hid (closF ge gp m = ([], timC ge gp (inB m 1 5))) := by show _ = _; unfold closF; rw [if_neg (by simpa using hc)]
    clear hc
    generalize timC ge gp (inB m 1 5) = code at *
    go_wp2
    go_ret2
    exact RetMI.of hE.out ⟨_, rfl, OwnM.nil, hW⟩
  have hc0 : timC ge gp (inB m 1 5) = 0 := by simpa using hc
  obtain ⟨hg, hb, o, ho⟩ := timC_zero hc0
  obtain ⟨hge1, hge2⟩ := okGraph_ev hg
  obtain ⟨n, rfl⟩ := Int.eq_ofNat_of_zero_le (show 0 ≤ ge by omega)
  have hE : Hid (closF n gp m = (closedM n gp m, 0)) := by show _ = _; unfold closF; rw [if_pos hc0, Int.toNat_natCast]
  have hg' := Lib.hid hg
  rw [hc0]
  clear hc hc0 hb hg ho
  go_wp2_with fail
  refine (spec_l13Closed _ n gp m _ h0 hg').mono ?_
  rintro e w3 ⟨u, rfl, hM, hB⟩
  go_wp2
  go_ret2
  exact RetMI.of hE.out ⟨_, rfl, hM.rebase hW.size, hW.trans (hB.mono hW.size)⟩
end Go.Proofs.Ytcoomogabicfnaa
