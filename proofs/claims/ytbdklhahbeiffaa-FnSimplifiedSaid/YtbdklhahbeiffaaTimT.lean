/-
  FiringTimes and FiringTime, both.
-/
import Derived.Test.YtbdklhahbeiffaaLive
import Derived.Test.YtbdklhahbeiffaaTim
import Derived.Test.YtbdklhahbeiffaaTimS
import Derived.Test.YtbdklhahbeiffaaMatLaw
namespace Go.Proofs.Ytbdklhahbeiffaa
open Go.RowKit
set_option linter.unusedVariables false
set_option linter.unusedSimpArgs false

/-- The code of a graph that has to be live, with arguments that are in range or not. -/
def timC (ge : Int) (gp : List Place) (b : Bool) : Int := if okGraph ge gp = false then 1 else if b = false then 2 else if (orderF ge.toNat gp).isNone = true then 5 else 0
def zeros (n : Nat) : List Int := List.replicate n 0
theorem zeros_len (n : Nat) : (zeros n).length = n := by simp [zeros]
theorem zeros_ok (n : Nat) : ∀ x ∈ zeros n, 0 ≤ x ∧ x ≤ ((1000000 : Nat) : Int) := by
  intro x hx
  rw [List.eq_of_mem_replicate hx]
  omega
/-- What FiringTimes gives. -/
def timesF (ge : Int) (gp : List Place) (N : Int) : List (List Int) × Int :=
  if timC ge gp (inB N 0 50) = 0 then (timT gp ((orderF ge.toNat gp).getD []) (zeros ge.toNat) N.toNat, 0) else ([], timC ge gp (inB N 0 50))
/-- What FiringTime gives. -/
def timeF (ge : Int) (gp : List Place) (e k : Int) : Int × Int :=
  if timC ge gp (inB e 0 (ge - 1) && inB k 1 50) = 0 then (getT (timT gp ((orderF ge.toNat gp).getD []) (zeros ge.toNat) k.toNat) (k.toNat - 1) e.toNat, 0) else (0, timC ge gp (inB e 0 (ge - 1) && inB k 1 50))
theorem timC_zero {ge : Int} {gp : List Place} {b : Bool} (h : timC ge gp b = 0) : okGraph ge gp = true ∧ b = true ∧ ∃ o, orderF ge.toNat gp = some o := by
  unfold timC at h
  cases hg : okGraph ge gp
  · rw [hg] at h; simp at h
  · cases hb : b
    · rw [hg, hb] at h; simp at h
    · cases ho : orderF ge.toNat gp with
      | none => rw [hg, hb, ho] at h; simp at h
      | some o => exact ⟨rfl, rfl, o, rfl⟩
theorem offs_tab {n m c : Nat} {T : List (List Int)} (h : TabOk n m c T) : ∀ j, j ≤ T.length → offs T j = n * j := by
  intro j
  induction j with
  | zero => intro _; simp [offs]
  | succ j ih =>
    intro hj
    rw [offs_succ _ _ (by omega), ih (by omega), h.lenAt j (by omega), Nat.mul_succ]
theorem timesF_offs (ge : Int) (gp : List Place) (N : Int) : offs (timesF ge gp N).1 (timesF ge gp N).1.length ≤ 1048576 := by
  unfold timesF
  split
  · rename_i h
    obtain ⟨hg, hb, o, ho⟩ := timC_zero h
    obtain ⟨h1, h2⟩ := okGraph_ev hg
    have h3 := (inB_iff _ _ _).1 hb
    obtain ⟨n, rfl⟩ := Int.eq_ofNat_of_zero_le (show 0 ≤ ge by omega)
    rw [Int.toNat_natCast] at ho ⊢
    rw [ho]
    have hT := TabOk.times hg (okGraph_len hg) (o := o) (s := zeros n) (by have := (orderK_ok n o ho).len; omega) (zeros_len n) (zeros_ok n) N.toNat
    show offs (timT gp o (zeros n) N.toNat) (timT gp o (zeros n) N.toNat).length ≤ 1048576
    rw [offs_tab hT _ (Nat.le_refl _), hT.len]
    exact Nat.le_trans (Nat.mul_le_mul (show n ≤ 10 by omega) (show N.toNat ≤ 50 by omega)) (by decide)
  · simp [offs]
set_option maxHeartbeats 2000000 in
set_option maxRecDepth 100000 in
theorem impl_checkFirings (v : Value) (ge : Int) (gp : List Place) (N : Int) (w : World) (h0 : Lst Place.cells 4 w w.heap.size v gp) :
    Calls Try.prog 102 #[.agg #[.int .i64 ge, v], .int .i64 N] w fun r w' => r = .returned (.int .i64 (timC ge gp (inB N 0 50))) ∧ Below w.heap.size w w' := by
  obtain ⟨A, c, rfl⟩ := h0.shape
  go_enter Try.func102, Try.ntmps102
  go_wp2_with fail
  have hW : Below w.heap.size w (w.alloc (.cells #[.int .i64 ge, .slice A gp.length c] 32)) := (Below.refl _ _).alloc (Nat.le_refl _) _; have hb0 : Blk (w.alloc (.cells #[.int .i64 ge, .slice A gp.length c] 32)) w.heap.size 32 #[.int .i64 ge, .slice A gp.length c] := Blk.new _ _ _; replace h0 := h0.now hW; generalize (w.alloc (.cells #[.int .i64 ge, .slice A gp.length c] 32)) = W at *
  refine (impl_IsEventGraph _ _ _ _ h0).mono ?_
  rintro e w1 ⟨rfl, hB⟩
  replace hW := hW.trans (hB.mono hW.size); replace h0 := h0.now hB; replace hb0 := hb0.now hB
  obtain ⟨k0, k1⟩ := hb0.c2
  clear hB
  cases hg : okGraph ge gp
  · have hE : Hid (timC ge gp (inB N 0 50) = 1) := by show _ = _; simp [timC, hg]
    clear hg
    go_wp2
    go_ret
    exact ⟨ret_int hE.out.symm, hW⟩
  · obtain ⟨hge1, hge2⟩ := okGraph_ev hg
    obtain ⟨n, rfl⟩ := Int.eq_ofNat_of_zero_le (show 0 ≤ ge by omega)
    have hg' := Lib.hid hg
    clear hg
    cases hi : inB N 0 50
    · have hE : Hid (timC n gp (inB N 0 50) = 2) := by show _ = _; simp [timC, hg'.out, hi]
      go_wp2_with (go_at_call 87; refine (impl_within _ _ _ _).mono ?_; rintro e w' ⟨rfl, rfl⟩; rw [hi])
      go_ret
      exact ⟨ret_int hE.out.symm, hW⟩
    · go_wp2_with (go_at_call 87; refine (impl_within _ _ _ _).mono ?_; rintro e w' ⟨rfl, rfl⟩; rw [hi])
      refine (impl_isLive _ n gp w1 h0 hg').mono ?_
      rintro e w2 ⟨rfl, hB⟩
      cases ho : orderF n gp with
      | none =>
        have hE : Hid (timC n gp (inB N 0 50) = 5) := by show _ = _; simp [timC, hg'.out, ho, hi]
        clear ho
        simp only [Option.isSome_none]
        go_wp2
        go_ret
        exact ⟨ret_int hE.out.symm, hW.trans (hB.mono hW.size)⟩
      | some o =>
        have hE : Hid (timC n gp (inB N 0 50) = 0) := by show _ = _; simp [timC, hg'.out, ho, hi]
        clear ho
        simp only [Option.isSome_some]
        go_wp2
        go_ret
        exact ⟨ret_int hE.out.symm, hW.trans (hB.mono hW.size)⟩
set_option maxHeartbeats 2000000 in
set_option maxRecDepth 100000 in
theorem spec_l13Code (v : Value) (ge : Int) (gp : List Place) (b : Bool) (w : World) (h0 : Lst Place.cells 4 w w.heap.size v gp) :
    Calls Try.prog 88 #[.agg #[.int .i64 ge, v], .bool b] w fun r w' => r = .returned (.int .i64 (timC ge gp b)) ∧ Below w.heap.size w w' := by
  obtain ⟨A, c, rfl⟩ := h0.shape
  go_enter Try.func88, Try.ntmps88
  go_wp2_with fail
  have hW : Below w.heap.size w (w.alloc (.cells #[.int .i64 ge, .slice A gp.length c] 32)) := (Below.refl _ _).alloc (Nat.le_refl _) _; have hb0 : Blk (w.alloc (.cells #[.int .i64 ge, .slice A gp.length c] 32)) w.heap.size 32 #[.int .i64 ge, .slice A gp.length c] := Blk.new _ _ _; replace h0 := h0.now hW; generalize (w.alloc (.cells #[.int .i64 ge, .slice A gp.length c] 32)) = W at *
  refine (spec_l12Live _ _ _ _ h0).mono ?_
  rintro e w1 ⟨rfl, hB⟩
  replace hB := hW.trans (hB.mono hW.size)
  cases hg : okGraph ge gp
  · have hC : liveC ge gp = 1 := by simp [liveC, hg]
    have hE : Hid (timC ge gp b = 1) := by show _ = _; simp [timC, hg]
    rw [hC]
    clear hg hC
    go_wp2
    go_ret
    exact ⟨ret_int hE.out.symm, hB⟩
  · obtain ⟨hge1, hge2⟩ := okGraph_ev hg
    obtain ⟨n, rfl⟩ := Int.eq_ofNat_of_zero_le (show 0 ≤ ge by omega)
    have hg' := Lib.hid hg
    clear hg
    cases ho : orderF n gp with
    | none =>
      have hC : liveC n gp = 5 := by simp [liveC, hg'.out, ho]
      rw [hC]
      cases hb : b
      · have hE : Hid (timC n gp false = 2) := by show _ = _; simp [timC, hg'.out]
        subst hb
        clear ho hC
        go_wp2
        go_ret
        exact ⟨ret_int hE.out.symm, hB⟩
      · have hE : Hid (timC n gp true = 5) := by show _ = _; simp [timC, hg'.out, ho]
        subst hb
        clear ho hC
        go_wp2
        go_ret
        exact ⟨ret_int hE.out.symm, hB⟩
    | some o =>
      have hC : liveC n gp = 0 := by simp [liveC, hg'.out, ho]
      rw [hC]
      cases hb : b
      · have hE : Hid (timC n gp false = 2) := by show _ = _; simp [timC, hg'.out]
        subst hb
        clear ho hC
        go_wp2
        go_ret
        exact ⟨ret_int hE.out.symm, hB⟩
      · have hE : Hid (timC n gp true = 0) := by show _ = _; simp [timC, hg'.out, ho]
        subst hb
        clear ho hC
        go_wp2
        go_ret
        exact ⟨ret_int hE.out.symm, hB⟩
set_option maxHeartbeats 4000000 in
set_option maxRecDepth 100000 in
theorem impl_FiringTimes (v : Value) (ge : Int) (gp : List Place) (N : Int) (w : World) (h0 : Lst Place.cells 4 w w.heap.size v gp) :
    Calls Try.prog 46 #[.agg #[.int .i64 ge, v], .int .i64 N] w (RetMI w (timesF ge gp N).1 (timesF ge gp N).2) := by
  obtain ⟨A, c, rfl⟩ := h0.shape
  go_enter Try.func46, Try.ntmps46
  go_wp2_with fail
  have hW : Below w.heap.size w (w.alloc (.cells #[.int .i64 ge, .slice A gp.length c] 32)) := (Below.refl _ _).alloc (Nat.le_refl _) _; have hb0 : Blk (w.alloc (.cells #[.int .i64 ge, .slice A gp.length c] 32)) w.heap.size 32 #[.int .i64 ge, .slice A gp.length c] := Blk.new _ _ _; replace h0 := h0.now hW; generalize (w.alloc (.cells #[.int .i64 ge, .slice A gp.length c] 32)) = W at *
  refine (impl_checkFirings _ _ _ _ _ h0).mono ?_
  rintro e w1 ⟨rfl, hB⟩
  replace hW := hW.trans (hB.mono hW.size); replace h0 := h0.now hB; replace hb0 := hb0.now hB
  clear hB
  obtain ⟨k0, k1⟩ := hb0.c2
  have l0 := hb0.lt
  cases hc : timC ge gp (inB N 0 50) == 0
  · have hc' : (timC ge gp (inB N 0 50) != 0) = true := by simp only [bne, hc]; rfl
    have hE : Hid (timesF ge gp N = ([], timC ge gp (inB N 0 50))) := by show _ = _; unfold timesF; rw [if_neg (by simpa using hc)]
    clear hc
    generalize timC ge gp (inB N 0 50) = code at *
    go_wp2
    go_ret2
    exact RetMI.of hE.out ⟨_, rfl, OwnM.nil, hW⟩
  · have hc0 : timC ge gp (inB N 0 50) = 0 := by simpa using hc
    obtain ⟨hg, hb, o, ho⟩ := timC_zero hc0
    obtain ⟨hge1, hge2⟩ := okGraph_ev hg
    obtain ⟨n, rfl⟩ := Int.eq_ofNat_of_zero_le (show 0 ≤ ge by omega)
    have hN := (inB_iff _ _ _).1 hb
    obtain ⟨M, rfl⟩ := Int.eq_ofNat_of_zero_le hN.1
    rw [Int.toNat_natCast] at ho
    have hE : Hid (timesF n gp M = (timT gp o (zeros n) M, 0)) := by show _ = _; unfold timesF; rw [if_pos hc0, Int.toNat_natCast, Int.toNat_natCast, ho]; rfl
    have hg' := Lib.hid hg
    have ho' := Lib.hid ho
    rw [hc0]
    clear hc hc0 hb hg ho
    have hmk := run_make_lst (P := Try.prog) intCell 1 intCell_len (by omega) 0 38 2 _ 8 Try.underlying38 info_i64 rfl .i64 .i64 n (by omega) (by omega)
    have hm1 := fun w => (hmk w).1
    have hm2 := Lib.hid fun (w : World) => (hmk w).2 w.heap.size (Nat.le_refl _)
    clear hmk
    have hBd : Below w1.heap.size w1 w1.drew := Below.drew (Below.refl _ w1)
    have z0 : w1.drew.cell? ⟨w.heap.size, 0, none⟩ = some (.int .i64 n) := k0
    have z1 : w1.drew.cell? ⟨w.heap.size, 1, none⟩ = some (.slice A gp.length c) := k1
    have hZ : Below w1.drew.heap.size w1.drew (w1.drew.alloc (.cells (madeCells (intCell 0).toArray (n * 1)) 2)) := (Below.refl _ _).alloc (Nat.le_refl _) _
    have y0 := cell_keep z0 hZ
    have y1 := cell_keep z1 hZ
    have hO0 := hm2.out w1.drew
    simp only [Nat.mul_one] at hZ y0 y1 hO0
    go_wp2
    refine wp_region_held_drew (S := fun w' => w'.cell? ⟨w.heap.size, 0, none⟩ = some (.int .i64 n) ∧ w'.cell? ⟨w.heap.size, 1, none⟩ = some (.slice A gp.length c)) (by kernel_rfl) ⟨z0, z1⟩ (fun hH => ?_)
    refine tkH 0 (v := ?_) rfl (fun _ _ _ h => h) (Or.inl ⟨by rfl, ?_⟩) hH ?_
    rotate_left
    · intro w9 hSw
      try dsimp only at hSw
      obtain ⟨s0, s1⟩ := hSw
      go_simp
      try with_reducible rfl
    try simp only [Act.put, List.setIfInBounds_toArray, List.set_cons_zero, List.set_cons_succ]
    refine tkH 1 (v := ?_) rfl (fun _ _ _ h => h) (Or.inl ⟨by rfl, ?_⟩) hH ?_
    rotate_left
    · intro w9 hSw
      try dsimp only at hSw
      obtain ⟨s0, s1⟩ := hSw
      go_simp
      try with_reducible rfl
    try simp only [Act.put, List.setIfInBounds_toArray, List.set_cons_zero, List.set_cons_succ]
    refine tkH 2 (v := ?_) rfl (fun _ _ _ h => h) (Or.inl ⟨by rfl, ?_⟩) hH ?_
    rotate_left
    · intro w9 hSw
      try dsimp only at hSw
      obtain ⟨s0, s1⟩ := hSw
      go_simp
      try with_reducible rfl
    try simp only [Act.put, List.setIfInBounds_toArray, List.set_cons_zero, List.set_cons_succ]
    refine tkH 3 (v := ?_) rfl (fun _ _ _ h => h) (Or.inl ⟨by rfl, ?_⟩) hH ?_
    rotate_left
    · intro w9 hSw
      try dsimp only at hSw
      obtain ⟨s0, s1⟩ := hSw
      go_simp
      try with_reducible rfl
    try simp only [Act.put, List.setIfInBounds_toArray, List.set_cons_zero, List.set_cons_succ]
    refine wpAnyH_ready (rs := [4]) (by kernel_rfl) (by simp) ?_
    refine AllReadyH.cons rfl (fun K hK => ?_) AllReadyH.nil
    go_simp
    refine hK.out _ _ ⟨y0, y1⟩ (fun hH => ?_)
    clear hK K
    try simp only [Act.put, List.setIfInBounds_toArray, List.set_cons_zero, List.set_cons_succ]
    refine wpAnyH_ready (rs := [5]) (by kernel_rfl) (by simp) ?_
    refine AllReadyH.cons rfl (fun K hK => ?_) AllReadyH.nil
    go_simp
    go_at_call 103
    refine (impl_firingTimes _ n gp o M _ (zeros n) _ ((h0.now hBd).now hZ) hO0.lst hg' ho' (by omega) (zeros_len n) (Lib.hid (zeros_ok n))).mono ?_
    rintro e8 w2 ⟨x, rfl, hM, hB⟩
    have u0 := cell_keep y0 hB
    have u1 := cell_keep y1 hB
    refine hK.out _ _ ⟨u0, u1⟩ (fun hH => ?_)
    clear hK K
    try simp only [Act.put, List.setIfInBounds_toArray, List.set_cons_zero, List.set_cons_succ]
    refine tkH 6 (v := ?_) rfl (fun _ _ _ h => h) (Or.inl ⟨by rfl, ?_⟩) hH ?_
    rotate_left
    · intro w9 hSw
      try dsimp only at hSw
      obtain ⟨s0, s1⟩ := hSw
      go_simp
      try with_reducible rfl
    try simp only [Act.put, List.setIfInBounds_toArray, List.set_cons_zero, List.set_cons_succ]
    refine tkH 7 (v := ?_) rfl (fun _ _ _ h => h) (Or.inl ⟨by rfl, ?_⟩) hH ?_
    rotate_left
    · intro w9 hSw
      try dsimp only at hSw
      obtain ⟨s0, s1⟩ := hSw
      go_simp
      try with_reducible rfl
    try simp only [Act.put, List.setIfInBounds_toArray, List.set_cons_zero, List.set_cons_succ]
    refine wpAnyH_done (by kernel_rfl) ?_ _
    go_wp2
    go_ret2
    exact RetMI.of hE.out ⟨_, rfl, hM.rebase (Nat.le_trans hW.size hZ.size), hW.trans ((hBd.trans (hZ.trans (hB.mono hZ.size))).mono hW.size)⟩
end Go.Proofs.Ytbdklhahbeiffaa
