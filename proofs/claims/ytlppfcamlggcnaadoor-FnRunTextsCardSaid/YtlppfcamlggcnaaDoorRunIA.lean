/-
  IsRun, the program's.
-/
import Derived.Test.YtlppfcamlggcnaaDoorRunI
import Derived.Test.YtlppfcamlggcnaaDoorMarking
namespace Go.Proofs.YtlppfcamlggcnaaDoor
open Go.RowKit
set_option linter.unusedVariables false
set_option linter.unusedSimpArgs false

/-- The table that the program keeps: the times of each event's firings so far. -/
def tabR (n : Nat) (l : List Firing) : List (List Int) := (List.range n).map fun i : Nat => timesIn l (i : Int)
theorem tabR_len (n : Nat) (l : List Firing) : (tabR n l).length = n := by simp [tabR]
theorem tabR_get (n : Nat) (l : List Firing) (i : Nat) (h : i < (tabR n l).length) : (tabR n l)[i] = timesIn l (i : Int) := by simp [tabR]
theorem tabR_nil (n : Nat) : tabR n [] = List.replicate n [] := by
  refine List.ext_getElem (by simp [tabR]) fun i h1 h2 => ?_
  rw [tabR_get]
  simp [timesIn]
theorem tabR_set (n : Nat) (l : List Firing) (e : Nat) (nu t : Int) : (tabR n l).set e (timesIn l (e : Int) ++ [t]) = tabR n (l ++ [⟨(e : Int), nu, t⟩]) := by
  refine List.ext_getElem (by simp [tabR]) fun i h1 h2 => ?_
  rw [tabR_get, timesIn_snoc]
  by_cases he : e = i
  · subst he
    simp
  · rw [List.getElem_set_ne he, tabR_get]
    have : ¬ (e : Int) = (i : Int) := by omega
    simp [this]
theorem tabR_row (n : Nat) (l : List Firing) (i : Int) (h0 : 0 ≤ i) (h : i < n) : rowOf (tabR n l) i = timesIn l i := by
  obtain ⟨j, rfl⟩ := Int.eq_ofNat_of_zero_le h0
  rw [rowOf_nat _ _ (by rw [tabR_len]; omega), tabR_get]
theorem tabR_ready {n : Nat} {gp : List Place} (hok : okGraph n gp = true) (l : List Firing) (e : Int) (h0 : 0 ≤ e) (h : e < n) : readyS gp (rowOf (tabR n l)) e = readyS gp (timesIn l) e :=
  readyS_congr gp _ _ e (tabR_row n l e h0 h) fun p hp => tabR_row n l p.src (okGraph_place hok hp).1.1 (okGraph_place hok hp).1.2
theorem tabR_ok {ge : Int} {l : List Firing} (h : RunOk ge l) (hl : l.length ≤ 1000) (n : Nat) : ∀ r ∈ tabR n l, r.length ≤ 1000 ∧ ∀ x ∈ r, 0 ≤ x ∧ x ≤ 1000000 := by
  intro r hr
  obtain ⟨i, _, rfl⟩ := List.mem_map.1 hr
  refine ⟨Nat.le_trans (timesIn_len _ _) hl, fun x hx => ?_⟩
  obtain ⟨f, hf, rfl⟩ := timesIn_mem hx
  exact (h.2 f hf).2
set_option maxHeartbeats 8000000 in
set_option maxRecDepth 100000 in
theorem impl_isRun (v : Value) (n : Nat) (gp : List Place) (u : Value) (l : List Firing) (w : World) (h0 : Lst Place.cells 4 w w.heap.size v gp) (h1 : Lst Firing.cells 3 w w.heap.size u l) (hok : okGraph n gp = true) :
    Calls Tryd.prog 71 #[.agg #[.int .i64 n, v], u] w fun e w' => e = .returned (.bool (decide (l.length ≤ 500) && runK n gp l l.length)) ∧ Below w.heap.size w w' := by
  obtain ⟨A, c, rfl⟩ := h0.shape
  obtain ⟨C, d, rfl⟩ := h1.shape
  have hmax := h1.len_le
  obtain ⟨hge1, hge2⟩ := okGraph_ev hok
  have hg' := Lib.hid hok
  clear hok
  by_cases h5 : l.length ≤ 500
  · have h5b : decide (500 < (l.length : Int)) = false := by simp; omega
    have hmk := run_make_lst (P := Tryd.prog) Ref.cells 1 Ref.cells_len (by omega) ⟨none, 0, 0⟩ 137 94 _ 24 Tryd.underlying137 info_ref rfl .i64 .i64 n (by omega) (by omega)
    have hm1 := fun w => (hmk w).1
    have hm2 := Lib.hid fun (w : World) => (hmk w).2 w.heap.size (Nat.le_refl _)
    clear hmk
    go_enter Tryd.func71, Tryd.ntmps71
    go_wp2
    have hW : Below w.heap.size w (w.alloc (.cells #[.int .i64 n, .slice A gp.length c] 27)) := (Below.refl _ _).alloc (Nat.le_refl _) _
    have hb0 : Blk (w.alloc (.cells #[.int .i64 n, .slice A gp.length c] 27)) w.heap.size 27 #[.int .i64 n, .slice A gp.length c] := Blk.new _ _ _
    have hM0 := OwnM.made (hm2.out (w.alloc (.cells #[.int .i64 n, .slice A gp.length c] 27)))
    have hsW : Hid ((w.alloc (.cells #[.int .i64 n, .slice A gp.length c] 27)).heap.size = w.heap.size + 1) := by show _ = _; simp
    rw [hsW.out] at hM0
    have hN : Below (w.heap.size + 1) (w.alloc (.cells #[.int .i64 n, .slice A gp.length c] 27)) ((w.alloc (.cells #[.int .i64 n, .slice A gp.length c] 27)).alloc (.cells (madeCells (Ref.cells ⟨none, 0, 0⟩).toArray (n * 1)) 94)) := (Below.refl _ _).alloc (by rw [hsW.out]; exact Nat.le_refl _) _
    replace h0 := h0.now hW
    replace h1 := h1.now hW
    simp only [Nat.mul_one] at hM0 hN
    clear hm1 hm2
    generalize w.alloc (.cells #[.int .i64 n, .slice A gp.length c] 27) = W at *
    go_loopw [6, 8, 9, 10, 19] (fun la _ _ _ i wr => ∃ k : Nat, k ≤ l.length ∧ i = .int .i64 k ∧ la = .int .i64 (lastT (l.take k)) ∧ Hid (runK n gp l k = true) ∧ Hid (RunOk n (l.take k)) ∧ OwnM wr (w.heap.size + 1) (.slice (some ⟨w.heap.size + 1, 0, none⟩) n n) (tabR n (l.take k)) ∧ Below (w.heap.size + 1) W wr) (fun _ _ _ _ i _ => l.length - (intOf i).toNat)
    case atStart => exact ⟨0, Nat.zero_le _, rfl, rfl, rfl, RunOk.nil n, by rw [List.take_zero, tabR_nil]; exact hM0, hN⟩
    case round =>
      clear hM0 hN
      obtain ⟨k, hk, rfl, rfl, hK, hR, hM, hB0⟩ := hrel
      have hB : Below W.heap.size W wr := by rw [hsW.out]; exact hB0
      have hs := hB.size
      have l0w := (hb0.now hB).lt
      obtain ⟨k0, k1⟩ := (hb0.now hB).c2
      by_cases hlt : k < l.length
      · obtain ⟨b, off, hC0, hbb, c0, c1, c2⟩ := firings_at (h1.now hB) k hlt
        cases hC0
        obtain ⟨t1, t2⟩ := lastT_nonneg hR.out
        obtain ⟨f, hf⟩ : ∃ f, l[k] = f := ⟨_, rfl⟩
        have hfH := Lib.hid hf
        rw [hf] at c0 c1 c2
        clear hf
        obtain ⟨ev, nu, ti⟩ := f
        simp only at c0 c1 c2
        have hft : Hid (okFir n gp (l.take k) ⟨ev, nu, ti⟩ = false → (decide (l.length ≤ 500) && runK n gp l l.length) = false) := fun h => by simp [runK_false n gp l k hlt (by rw [hfH.out]; exact h)]
        go_wp2_with fail
        have hbxne : wr.heap.size ≠ w.heap.size + 1 := by
          obtain ⟨g9, c9, r9, hu9, _, hg9, _⟩ := hM.row 0 (by rw [tabR_len]; omega)
          injection hu9 with hu9 _ _
          injection hu9 with hu9
          injection hu9 with hu9 _ _
          omega
        have hA1 : Below wr.heap.size wr (wr.alloc (.cells #[.int .i64 ev, .int .i64 nu, .int .i64 ti] 87)) := (Below.refl _ _).alloc (Nat.le_refl _) _
        have hbf := Blk.newAt wr (t := 87) (cs := #[.int .i64 ev, .int .i64 nu, .int .i64 ti]) _ rfl
        replace hB := hB.trans (hA1.mono hs)
        replace hM := hM.now hA1
        clear c0 c1 c2 k0 k1 l0w hbb hA1 hs hB0
        generalize wr.alloc (.cells #[.int .i64 ev, .int .i64 nu, .int .i64 ti] 87) = V at *
        generalize wr.heap.size = bx at *
        have hs := hB.size
        have l0w := (hb0.now hB).lt
        obtain ⟨k0, k1⟩ := (hb0.now hB).c2
        obtain ⟨f0, f1, f2⟩ := hbf.c3
        have lf := hbf.lt
        have hlt5 : (l.take k).length ≤ 1000 := by rw [List.length_take]; omega
        have hwg : wrap64 ((n : Int) - 1) = (n : Int) - 1 := IntWalk.wrap64_in _ (by omega)
        cases e1 : inB ev 0 ((n : Int) - 1)
        · have hE := Lib.hid (hft.out (by simp [okFir, e1]))
          have ci : Hid (∀ X, Calls Tryd.prog 91 #[.agg #[.int .i64 n, .slice A gp.length c], .int .i64 ev] X fun r w' => r = .returned (.bool false) ∧ Below X.heap.size X w') := fun X => by have := impl_isEvent n ev (.slice A gp.length c) X; rw [hwg, e1] at this; exact this
          clear hft hg' h5b t1 t2 e1
          refine wp_region_held_drew (S := fun w' => w'.cell? ⟨bx, 0, none⟩ = some (.int .i64 ev) ∧ w'.cell? ⟨bx, 1, none⟩ = some (.int .i64 nu) ∧ w'.cell? ⟨bx, 2, none⟩ = some (.int .i64 ti) ∧ w'.cell? ⟨w.heap.size, 0, none⟩ = some (.int .i64 n) ∧ w'.cell? ⟨w.heap.size, 1, none⟩ = some (.slice A gp.length c)) (by kernel_rfl) ⟨f0, f1, f2, k0, k1⟩ (fun hH => ?_)
          refine tkH 0 (v := ?_) rfl (fun _ _ _ h => h) (Or.inl ⟨by rfl, ?_⟩) hH ?_
          rotate_left
          · intro w9 hSw
            try dsimp only at hSw
            obtain ⟨s0, s1, s2, s3, s4⟩ := hSw
            go_simp
            try with_reducible rfl
          try simp only [Act.put, List.setIfInBounds_toArray, List.set_cons_zero, List.set_cons_succ]
          refine tkH 1 (v := ?_) rfl (fun _ _ _ h => h) (Or.inl ⟨by rfl, ?_⟩) hH ?_
          rotate_left
          · intro w9 hSw
            try dsimp only at hSw
            obtain ⟨s0, s1, s2, s3, s4⟩ := hSw
            go_simp
            try with_reducible rfl
          try simp only [Act.put, List.setIfInBounds_toArray, List.set_cons_zero, List.set_cons_succ]
          refine tkH 2 (v := ?_) rfl (fun _ _ _ h => h) (Or.inl ⟨by rfl, ?_⟩) hH ?_
          rotate_left
          · intro w9 hSw
            try dsimp only at hSw
            obtain ⟨s0, s1, s2, s3, s4⟩ := hSw
            go_simp
            try with_reducible rfl
          try simp only [Act.put, List.setIfInBounds_toArray, List.set_cons_zero, List.set_cons_succ]
          refine wpAnyH_ready (rs := [3]) (by kernel_rfl) (by simp) ?_
          refine AllReadyH.cons rfl (fun K hK => ?_) AllReadyH.nil
          go_simp
          go_at_call 91
          refine (ci.out _).mono ?_
          rintro e5 w5 ⟨rfl, hb5⟩
          have f0a := cell_keep (w := V.drew) f0 hb5
          have f1a := cell_keep (w := V.drew) f1 hb5
          have f2a := cell_keep (w := V.drew) f2 hb5
          have k0a := cell_keep (w := V.drew) k0 hb5
          have k1a := cell_keep (w := V.drew) k1 hb5
          refine hK.out _ _ ⟨f0a, f1a, f2a, k0a, k1a⟩ (fun hH => ?_)
          clear hK K
          try simp only [Act.put, List.setIfInBounds_toArray, List.set_cons_zero, List.set_cons_succ]
          refine tkH 4 (v := ?_) rfl (fun _ _ _ h => h) (Or.inl ⟨by rfl, ?_⟩) hH ?_
          rotate_left
          · intro w9 hSw
            try dsimp only at hSw
            obtain ⟨s0, s1, s2, s3, s4⟩ := hSw
            go_simp
            try with_reducible rfl
          try simp only [Act.put, List.setIfInBounds_toArray, List.set_cons_zero, List.set_cons_succ]
          refine tkH 5 (v := ?_) rfl (fun _ _ _ h => h) (Or.inl ⟨by rfl, ?_⟩) hH ?_
          rotate_left
          · intro w9 hSw
            try dsimp only at hSw
            obtain ⟨s0, s1, s2, s3, s4⟩ := hSw
            go_simp
            try with_reducible rfl
          try simp only [Act.put, List.setIfInBounds_toArray, List.set_cons_zero, List.set_cons_succ]
          refine tkH 6 (v := undef) rfl (fun _ _ _ h => h) (Or.inr ⟨by rfl, rfl⟩) hH ?_
          try simp only [Act.put, List.setIfInBounds_toArray, List.set_cons_zero, List.set_cons_succ]
          refine tkH 7 (v := undef) rfl (fun _ _ _ h => h) (Or.inr ⟨by rfl, rfl⟩) hH ?_
          try simp only [Act.put, List.setIfInBounds_toArray, List.set_cons_zero, List.set_cons_succ]
          refine tkH 8 (v := undef) rfl (fun _ _ _ h => h) (Or.inr ⟨by rfl, rfl⟩) hH ?_
          try simp only [Act.put, List.setIfInBounds_toArray, List.set_cons_zero, List.set_cons_succ]
          refine tkH 9 (v := undef) rfl (fun _ _ _ h => h) (Or.inr ⟨by rfl, rfl⟩) hH ?_
          try simp only [Act.put, List.setIfInBounds_toArray, List.set_cons_zero, List.set_cons_succ]
          refine tkH 10 (v := undef) rfl (fun _ _ _ h => h) (Or.inr ⟨by rfl, rfl⟩) hH ?_
          try simp only [Act.put, List.setIfInBounds_toArray, List.set_cons_zero, List.set_cons_succ]
          refine tkH 11 (v := undef) rfl (fun _ _ _ h => h) (Or.inr ⟨by rfl, rfl⟩) hH ?_
          try simp only [Act.put, List.setIfInBounds_toArray, List.set_cons_zero, List.set_cons_succ]
          refine tkH 12 (v := undef) rfl (fun _ _ _ h => h) (Or.inr ⟨by rfl, rfl⟩) hH ?_
          try simp only [Act.put, List.setIfInBounds_toArray, List.set_cons_zero, List.set_cons_succ]
          refine tkH 13 (v := undef) rfl (fun _ _ _ h => h) (Or.inr ⟨by rfl, rfl⟩) hH ?_
          try simp only [Act.put, List.setIfInBounds_toArray, List.set_cons_zero, List.set_cons_succ]
          refine tkH 14 (v := undef) rfl (fun _ _ _ h => h) (Or.inr ⟨by rfl, rfl⟩) hH ?_
          try simp only [Act.put, List.setIfInBounds_toArray, List.set_cons_zero, List.set_cons_succ]
          refine tkH 15 (v := undef) rfl (fun _ _ _ h => h) (Or.inr ⟨by rfl, rfl⟩) hH ?_
          try simp only [Act.put, List.setIfInBounds_toArray, List.set_cons_zero, List.set_cons_succ]
          refine tkH 16 (v := ?_) rfl (fun _ _ _ h => h) (Or.inl ⟨by rfl, ?_⟩) hH ?_
          rotate_left
          · intro w9 hSw
            try dsimp only at hSw
            obtain ⟨s0, s1, s2, s3, s4⟩ := hSw
            go_simp
            try with_reducible rfl
          try simp only [Act.put, List.setIfInBounds_toArray, List.set_cons_zero, List.set_cons_succ]
          refine tkH 17 (v := ?_) rfl (fun _ _ _ h => h) (Or.inl ⟨by rfl, ?_⟩) hH ?_
          rotate_left
          · intro w9 hSw
            try dsimp only at hSw
            obtain ⟨s0, s1, s2, s3, s4⟩ := hSw
            go_simp
            try with_reducible rfl
          try simp only [Act.put, List.setIfInBounds_toArray, List.set_cons_zero, List.set_cons_succ]
          refine tkH 18 (v := undef) rfl (fun _ _ _ h => h) (Or.inr ⟨by rfl, rfl⟩) hH ?_
          try simp only [Act.put, List.setIfInBounds_toArray, List.set_cons_zero, List.set_cons_succ]
          refine tkH 19 (v := undef) rfl (fun _ _ _ h => h) (Or.inr ⟨by rfl, rfl⟩) hH ?_
          try simp only [Act.put, List.setIfInBounds_toArray, List.set_cons_zero, List.set_cons_succ]
          refine tkH 20 (v := undef) rfl (fun _ _ _ h => h) (Or.inr ⟨by rfl, rfl⟩) hH ?_
          try simp only [Act.put, List.setIfInBounds_toArray, List.set_cons_zero, List.set_cons_succ]
          refine tkH 21 (v := undef) rfl (fun _ _ _ h => h) (Or.inr ⟨by rfl, rfl⟩) hH ?_
          try simp only [Act.put, List.setIfInBounds_toArray, List.set_cons_zero, List.set_cons_succ]
          refine tkH 22 (v := ?_) rfl (fun _ _ _ h => h) (Or.inl ⟨by rfl, ?_⟩) hH ?_
          rotate_left
          · intro w9 hSw
            try dsimp only at hSw
            obtain ⟨s0, s1, s2, s3, s4⟩ := hSw
            go_simp
            try with_reducible rfl
          try simp only [Act.put, List.setIfInBounds_toArray, List.set_cons_zero, List.set_cons_succ]
          refine tkH 23 (v := ?_) rfl (fun _ _ _ h => h) (Or.inl ⟨by rfl, ?_⟩) hH ?_
          rotate_left
          · intro w9 hSw
            try dsimp only at hSw
            obtain ⟨s0, s1, s2, s3, s4⟩ := hSw
            go_simp
            try with_reducible rfl
          try simp only [Act.put, List.setIfInBounds_toArray, List.set_cons_zero, List.set_cons_succ]
          refine tkH 24 (v := undef) rfl (fun _ _ _ h => h) (Or.inr ⟨by rfl, rfl⟩) hH ?_
          try simp only [Act.put, List.setIfInBounds_toArray, List.set_cons_zero, List.set_cons_succ]
          refine tkH 25 (v := undef) rfl (fun _ _ _ h => h) (Or.inr ⟨by rfl, rfl⟩) hH ?_
          try simp only [Act.put, List.setIfInBounds_toArray, List.set_cons_zero, List.set_cons_succ]
          refine tkH 26 (v := undef) rfl (fun _ _ _ h => h) (Or.inr ⟨by rfl, rfl⟩) hH ?_
          try simp only [Act.put, List.setIfInBounds_toArray, List.set_cons_zero, List.set_cons_succ]
          refine tkH 27 (v := ?_) rfl (fun _ _ _ h => h) (Or.inl ⟨by rfl, ?_⟩) hH ?_
          rotate_left
          · intro w9 hSw
            try dsimp only at hSw
            obtain ⟨s0, s1, s2, s3, s4⟩ := hSw
            go_simp
            try with_reducible rfl
          try simp only [Act.put, List.setIfInBounds_toArray, List.set_cons_zero, List.set_cons_succ]
          refine wpAnyH_done (by kernel_rfl) ?_ _
          go_wp2
          go_ret
          exact ⟨ret_bool hE.out.symm, hW.trans ((hB.trans (((Below.refl _ _).drew.trans hb5).mono hs)).mono hW.size)⟩
        · obtain ⟨i1, i2⟩ := (inB_iff _ _ _).1 e1
          obtain ⟨e, rfl⟩ := Int.eq_ofNat_of_zero_le i1
          have ci : Hid (∀ X, Calls Tryd.prog 91 #[.agg #[.int .i64 n, .slice A gp.length c], .int .i64 (e : Nat)] X fun r w' => r = .returned (.bool true) ∧ Below X.heap.size X w') := fun X => by have := impl_isEvent n e (.slice A gp.length c) X; rw [hwg, e1] at this; exact this
          have i3 : (e : Int) < (n : Int) := by omega
          have hen : e < (tabR n (l.take k)).length := by rw [tabR_len]; omega
          have hM2 := hM
          obtain ⟨rs, hl, hO, hRw, hD⟩ := hM2
          have her : e < rs.length := by rw [hl]; exact hen
          obtain ⟨g0, cu, hu, hgb, hgl, _, hc⟩ := hO.at_ Ref.cells_len e her
          rw [hl, tabR_len] at hu
          cases hu
          have r0 := hc 0 _ (by omega) rfl
          have hr := hRw e her hen
          rw [tabR_get] at hr
          obtain ⟨R, rc, hv⟩ := hr.shape
          simp only [Nat.mul_one, Nat.add_zero] at r0
          rw [hv] at r0
          clear hc
          have hcb := timesIn_len (l.take k) (e : Int)
          rw [List.length_take, Nat.min_eq_left hk] at hcb
          have hwr : IntKind.i64.wrap (((timesIn (l.take k) (e : Int)).length : Int) + 1) = ((timesIn (l.take k) (e : Int)).length : Int) + 1 := IntWalk.i64_in _ (by omega)
          have hvH := Lib.hid hv
          clear hv hr hgb hgl
          have hMH := Lib.hid (And.intro hl (And.intro hO (And.intro hRw hD)))
          clear hl hO hRw hD
          by_cases e2 : nu = (timesIn (l.take k) (e : Int)).length + 1
          · have q2 : (nu != ((timesIn (l.take k) (e : Int)).length : Int) + 1) = false := by simp [e2]
            by_cases e3 : ti < lastT (l.take k)
            · have q3 : decide (ti < lastT (l.take k)) = true := decide_eq_true e3
              have hE := Lib.hid (hft.out (by simp [okFir]; intros; omega))
              clear hft hg' h5b t1 t2 e1 e2 e3
              refine wp_region_held_drew (S := fun w' => w'.cell? ⟨bx, 0, none⟩ = some (.int .i64 (e : Nat)) ∧ w'.cell? ⟨bx, 1, none⟩ = some (.int .i64 nu) ∧ w'.cell? ⟨bx, 2, none⟩ = some (.int .i64 ti) ∧ w'.cell? ⟨w.heap.size, 0, none⟩ = some (.int .i64 n) ∧ w'.cell? ⟨w.heap.size, 1, none⟩ = some (.slice A gp.length c) ∧ w'.cell? ⟨w.heap.size + 1, e, none⟩ = some (.slice R (timesIn (l.take k) e).length rc)) (by kernel_rfl) ⟨f0, f1, f2, k0, k1, r0⟩ (fun hH => ?_)
              refine tkH 0 (v := ?_) rfl (fun _ _ _ h => h) (Or.inl ⟨by rfl, ?_⟩) hH ?_
              rotate_left
              · intro w9 hSw
                try dsimp only at hSw
                obtain ⟨s0, s1, s2, s3, s4, s5⟩ := hSw
                go_simp
                try with_reducible rfl
              try simp only [Act.put, List.setIfInBounds_toArray, List.set_cons_zero, List.set_cons_succ]
              refine tkH 1 (v := ?_) rfl (fun _ _ _ h => h) (Or.inl ⟨by rfl, ?_⟩) hH ?_
              rotate_left
              · intro w9 hSw
                try dsimp only at hSw
                obtain ⟨s0, s1, s2, s3, s4, s5⟩ := hSw
                go_simp
                try with_reducible rfl
              try simp only [Act.put, List.setIfInBounds_toArray, List.set_cons_zero, List.set_cons_succ]
              refine tkH 2 (v := ?_) rfl (fun _ _ _ h => h) (Or.inl ⟨by rfl, ?_⟩) hH ?_
              rotate_left
              · intro w9 hSw
                try dsimp only at hSw
                obtain ⟨s0, s1, s2, s3, s4, s5⟩ := hSw
                go_simp
                try with_reducible rfl
              try simp only [Act.put, List.setIfInBounds_toArray, List.set_cons_zero, List.set_cons_succ]
              refine wpAnyH_ready (rs := [3]) (by kernel_rfl) (by simp) ?_
              refine AllReadyH.cons rfl (fun K hK => ?_) AllReadyH.nil
              go_simp
              go_at_call 91
              refine (ci.out _).mono ?_
              rintro e5 w5 ⟨rfl, hb5⟩
              have f0a := cell_keep (w := V.drew) f0 hb5
              have f1a := cell_keep (w := V.drew) f1 hb5
              have f2a := cell_keep (w := V.drew) f2 hb5
              have k0a := cell_keep (w := V.drew) k0 hb5
              have k1a := cell_keep (w := V.drew) k1 hb5
              have r0a := cell_keep (w := V.drew) r0 hb5
              refine hK.out _ _ ⟨f0a, f1a, f2a, k0a, k1a, r0a⟩ (fun hH => ?_)
              clear hK K
              try simp only [Act.put, List.setIfInBounds_toArray, List.set_cons_zero, List.set_cons_succ]
              refine tkH 4 (v := ?_) rfl (fun _ _ _ h => h) (Or.inl ⟨by rfl, ?_⟩) hH ?_
              rotate_left
              · intro w9 hSw
                try dsimp only at hSw
                obtain ⟨s0, s1, s2, s3, s4, s5⟩ := hSw
                go_simp
                try with_reducible rfl
              try simp only [Act.put, List.setIfInBounds_toArray, List.set_cons_zero, List.set_cons_succ]
              refine tkH 5 (v := ?_) rfl (fun _ _ _ h => h) (Or.inl ⟨by rfl, ?_⟩) hH ?_
              rotate_left
              · intro w9 hSw
                try dsimp only at hSw
                obtain ⟨s0, s1, s2, s3, s4, s5⟩ := hSw
                go_simp
                try with_reducible rfl
              try simp only [Act.put, List.setIfInBounds_toArray, List.set_cons_zero, List.set_cons_succ]
              refine tkH 6 (v := ?_) rfl (fun _ _ _ h => h) (Or.inl ⟨by rfl, ?_⟩) hH ?_
              rotate_left
              · intro w9 hSw
                try dsimp only at hSw
                obtain ⟨s0, s1, s2, s3, s4, s5⟩ := hSw
                go_simp
                try with_reducible rfl
              try simp only [Act.put, List.setIfInBounds_toArray, List.set_cons_zero, List.set_cons_succ]
              refine tkH 7 (v := ?_) rfl (fun _ _ _ h => h) (Or.inl ⟨by rfl, ?_⟩) hH ?_
              rotate_left
              · intro w9 hSw
                try dsimp only at hSw
                obtain ⟨s0, s1, s2, s3, s4, s5⟩ := hSw
                go_simp
                try with_reducible rfl
              try simp only [Act.put, List.setIfInBounds_toArray, List.set_cons_zero, List.set_cons_succ]
              refine tkH 8 (v := ?_) rfl (fun _ _ _ h => h) (Or.inl ⟨by rfl, ?_⟩) hH ?_
              rotate_left
              · intro w9 hSw
                try dsimp only at hSw
                obtain ⟨s0, s1, s2, s3, s4, s5⟩ := hSw
                go_simp
                try with_reducible rfl
              try simp only [Act.put, List.setIfInBounds_toArray, List.set_cons_zero, List.set_cons_succ]
              refine tkH 9 (v := ?_) rfl (fun _ _ _ h => h) (Or.inl ⟨by rfl, ?_⟩) hH ?_
              rotate_left
              · intro w9 hSw
                try dsimp only at hSw
                obtain ⟨s0, s1, s2, s3, s4, s5⟩ := hSw
                go_simp
                try with_reducible rfl
              try simp only [Act.put, List.setIfInBounds_toArray, List.set_cons_zero, List.set_cons_succ]
              refine tkH 10 (v := ?_) rfl (fun _ _ _ h => h) (Or.inl ⟨by rfl, ?_⟩) hH ?_
              rotate_left
              · intro w9 hSw
                try dsimp only at hSw
                obtain ⟨s0, s1, s2, s3, s4, s5⟩ := hSw
                go_simp
                try with_reducible rfl
              try simp only [Act.put, List.setIfInBounds_toArray, List.set_cons_zero, List.set_cons_succ]
              refine tkH 11 (v := ?_) rfl (fun _ _ _ h => h) (Or.inl ⟨by rfl, ?_⟩) hH ?_
              rotate_left
              · intro w9 hSw
                try dsimp only at hSw
                obtain ⟨s0, s1, s2, s3, s4, s5⟩ := hSw
                go_simp
                try with_reducible rfl
              try simp only [Act.put, List.setIfInBounds_toArray, List.set_cons_zero, List.set_cons_succ]
              refine tkH 12 (v := ?_) rfl (fun _ _ _ h => h) (Or.inl ⟨by rfl, ?_⟩) hH ?_
              rotate_left
              · intro w9 hSw
                try dsimp only at hSw
                obtain ⟨s0, s1, s2, s3, s4, s5⟩ := hSw
                go_simp
                try with_reducible rfl
              try simp only [Act.put, List.setIfInBounds_toArray, List.set_cons_zero, List.set_cons_succ]
              refine tkH 13 (v := ?_) rfl (fun _ _ _ h => h) (Or.inl ⟨by rfl, ?_⟩) hH ?_
              rotate_left
              · intro w9 hSw
                try dsimp only at hSw
                obtain ⟨s0, s1, s2, s3, s4, s5⟩ := hSw
                go_simp
                try with_reducible rfl
              try simp only [Act.put, List.setIfInBounds_toArray, List.set_cons_zero, List.set_cons_succ]
              refine tkH 14 (v := ?_) rfl (fun _ _ _ h => h) (Or.inl ⟨by rfl, ?_⟩) hH ?_
              rotate_left
              · intro w9 hSw
                try dsimp only at hSw
                obtain ⟨s0, s1, s2, s3, s4, s5⟩ := hSw
                go_simp
                try with_reducible rfl
              try simp only [Act.put, List.setIfInBounds_toArray, List.set_cons_zero, List.set_cons_succ]
              refine tkH 15 (v := ?_) rfl (fun _ _ _ h => h) (Or.inl ⟨by rfl, ?_⟩) hH ?_
              rotate_left
              · intro w9 hSw
                try dsimp only at hSw
                obtain ⟨s0, s1, s2, s3, s4, s5⟩ := hSw
                go_simp
                try with_reducible rfl
              try simp only [Act.put, List.setIfInBounds_toArray, List.set_cons_zero, List.set_cons_succ]
              refine tkH 16 (v := ?_) rfl (fun _ _ _ h => h) (Or.inl ⟨by rfl, ?_⟩) hH ?_
              rotate_left
              · intro w9 hSw
                try dsimp only at hSw
                obtain ⟨s0, s1, s2, s3, s4, s5⟩ := hSw
                go_simp
                try with_reducible rfl
              try simp only [Act.put, List.setIfInBounds_toArray, List.set_cons_zero, List.set_cons_succ]
              refine tkH 17 (v := ?_) rfl (fun _ _ _ h => h) (Or.inl ⟨by rfl, ?_⟩) hH ?_
              rotate_left
              · intro w9 hSw
                try dsimp only at hSw
                obtain ⟨s0, s1, s2, s3, s4, s5⟩ := hSw
                go_simp
                try with_reducible rfl
              try simp only [Act.put, List.setIfInBounds_toArray, List.set_cons_zero, List.set_cons_succ]
              refine tkH 18 (v := ?_) rfl (fun _ _ _ h => h) (Or.inl ⟨by rfl, ?_⟩) hH ?_
              rotate_left
              · intro w9 hSw
                try dsimp only at hSw
                obtain ⟨s0, s1, s2, s3, s4, s5⟩ := hSw
                go_simp
                try with_reducible rfl
              try simp only [Act.put, List.setIfInBounds_toArray, List.set_cons_zero, List.set_cons_succ]
              refine tkH 19 (v := ?_) rfl (fun _ _ _ h => h) (Or.inl ⟨by rfl, ?_⟩) hH ?_
              rotate_left
              · intro w9 hSw
                try dsimp only at hSw
                obtain ⟨s0, s1, s2, s3, s4, s5⟩ := hSw
                go_simp
                try with_reducible rfl
              try simp only [Act.put, List.setIfInBounds_toArray, List.set_cons_zero, List.set_cons_succ]
              refine tkH 20 (v := ?_) rfl (fun _ _ _ h => h) (Or.inl ⟨by rfl, ?_⟩) hH ?_
              rotate_left
              · intro w9 hSw
                try dsimp only at hSw
                obtain ⟨s0, s1, s2, s3, s4, s5⟩ := hSw
                go_simp
                try with_reducible rfl
              try simp only [Act.put, List.setIfInBounds_toArray, List.set_cons_zero, List.set_cons_succ]
              refine tkH 21 (v := ?_) rfl (fun _ _ _ h => h) (Or.inl ⟨by rfl, ?_⟩) hH ?_
              rotate_left
              · intro w9 hSw
                try dsimp only at hSw
                obtain ⟨s0, s1, s2, s3, s4, s5⟩ := hSw
                go_simp
                try with_reducible rfl
              try simp only [Act.put, List.setIfInBounds_toArray, List.set_cons_zero, List.set_cons_succ]
              refine tkH 22 (v := ?_) rfl (fun _ _ _ h => h) (Or.inl ⟨by rfl, ?_⟩) hH ?_
              rotate_left
              · intro w9 hSw
                try dsimp only at hSw
                obtain ⟨s0, s1, s2, s3, s4, s5⟩ := hSw
                go_simp
                try with_reducible rfl
              try simp only [Act.put, List.setIfInBounds_toArray, List.set_cons_zero, List.set_cons_succ]
              refine tkH 23 (v := ?_) rfl (fun _ _ _ h => h) (Or.inl ⟨by rfl, ?_⟩) hH ?_
              rotate_left
              · intro w9 hSw
                try dsimp only at hSw
                obtain ⟨s0, s1, s2, s3, s4, s5⟩ := hSw
                go_simp
                try with_reducible rfl
              try simp only [Act.put, List.setIfInBounds_toArray, List.set_cons_zero, List.set_cons_succ]
              refine tkH 24 (v := undef) rfl (fun _ _ _ h => h) (Or.inr ⟨by rfl, rfl⟩) hH ?_
              try simp only [Act.put, List.setIfInBounds_toArray, List.set_cons_zero, List.set_cons_succ]
              refine tkH 25 (v := undef) rfl (fun _ _ _ h => h) (Or.inr ⟨by rfl, rfl⟩) hH ?_
              try simp only [Act.put, List.setIfInBounds_toArray, List.set_cons_zero, List.set_cons_succ]
              refine tkH 26 (v := undef) rfl (fun _ _ _ h => h) (Or.inr ⟨by rfl, rfl⟩) hH ?_
              try simp only [Act.put, List.setIfInBounds_toArray, List.set_cons_zero, List.set_cons_succ]
              refine tkH 27 (v := ?_) rfl (fun _ _ _ h => h) (Or.inl ⟨by rfl, ?_⟩) hH ?_
              rotate_left
              · intro w9 hSw
                try dsimp only at hSw
                obtain ⟨s0, s1, s2, s3, s4, s5⟩ := hSw
                go_simp
                try with_reducible rfl
              try simp only [Act.put, List.setIfInBounds_toArray, List.set_cons_zero, List.set_cons_succ]
              refine wpAnyH_done (by kernel_rfl) ?_ _
              go_wp2
              go_ret
              exact ⟨ret_bool hE.out.symm, hW.trans ((hB.trans (((Below.refl _ _).drew.trans hb5).mono hs)).mono hW.size)⟩
            · have q3 : decide (ti < lastT (l.take k)) = false := decide_eq_false e3
              by_cases e4 : 1000000 < ti
              · have q4 : decide (1000000 < ti) = true := decide_eq_true e4
                have hE := Lib.hid (hft.out (by have : inB ti 0 1000000 = false := by { rw [← Bool.not_eq_true, inB_iff]; omega }; simp [okFir, this]))
                clear hft hg' h5b t1 t2 e1 e2 e3 e4
                refine wp_region_held_drew (S := fun w' => w'.cell? ⟨bx, 0, none⟩ = some (.int .i64 (e : Nat)) ∧ w'.cell? ⟨bx, 1, none⟩ = some (.int .i64 nu) ∧ w'.cell? ⟨bx, 2, none⟩ = some (.int .i64 ti) ∧ w'.cell? ⟨w.heap.size, 0, none⟩ = some (.int .i64 n) ∧ w'.cell? ⟨w.heap.size, 1, none⟩ = some (.slice A gp.length c) ∧ w'.cell? ⟨w.heap.size + 1, e, none⟩ = some (.slice R (timesIn (l.take k) e).length rc)) (by kernel_rfl) ⟨f0, f1, f2, k0, k1, r0⟩ (fun hH => ?_)
                refine tkH 0 (v := ?_) rfl (fun _ _ _ h => h) (Or.inl ⟨by rfl, ?_⟩) hH ?_
                rotate_left
                · intro w9 hSw
                  try dsimp only at hSw
                  obtain ⟨s0, s1, s2, s3, s4, s5⟩ := hSw
                  go_simp
                  try with_reducible rfl
                try simp only [Act.put, List.setIfInBounds_toArray, List.set_cons_zero, List.set_cons_succ]
                refine tkH 1 (v := ?_) rfl (fun _ _ _ h => h) (Or.inl ⟨by rfl, ?_⟩) hH ?_
                rotate_left
                · intro w9 hSw
                  try dsimp only at hSw
                  obtain ⟨s0, s1, s2, s3, s4, s5⟩ := hSw
                  go_simp
                  try with_reducible rfl
                try simp only [Act.put, List.setIfInBounds_toArray, List.set_cons_zero, List.set_cons_succ]
                refine tkH 2 (v := ?_) rfl (fun _ _ _ h => h) (Or.inl ⟨by rfl, ?_⟩) hH ?_
                rotate_left
                · intro w9 hSw
                  try dsimp only at hSw
                  obtain ⟨s0, s1, s2, s3, s4, s5⟩ := hSw
                  go_simp
                  try with_reducible rfl
                try simp only [Act.put, List.setIfInBounds_toArray, List.set_cons_zero, List.set_cons_succ]
                refine wpAnyH_ready (rs := [3]) (by kernel_rfl) (by simp) ?_
                refine AllReadyH.cons rfl (fun K hK => ?_) AllReadyH.nil
                go_simp
                go_at_call 91
                refine (ci.out _).mono ?_
                rintro e5 w5 ⟨rfl, hb5⟩
                have f0a := cell_keep (w := V.drew) f0 hb5
                have f1a := cell_keep (w := V.drew) f1 hb5
                have f2a := cell_keep (w := V.drew) f2 hb5
                have k0a := cell_keep (w := V.drew) k0 hb5
                have k1a := cell_keep (w := V.drew) k1 hb5
                have r0a := cell_keep (w := V.drew) r0 hb5
                refine hK.out _ _ ⟨f0a, f1a, f2a, k0a, k1a, r0a⟩ (fun hH => ?_)
                clear hK K
                try simp only [Act.put, List.setIfInBounds_toArray, List.set_cons_zero, List.set_cons_succ]
                refine tkH 4 (v := ?_) rfl (fun _ _ _ h => h) (Or.inl ⟨by rfl, ?_⟩) hH ?_
                rotate_left
                · intro w9 hSw
                  try dsimp only at hSw
                  obtain ⟨s0, s1, s2, s3, s4, s5⟩ := hSw
                  go_simp
                  try with_reducible rfl
                try simp only [Act.put, List.setIfInBounds_toArray, List.set_cons_zero, List.set_cons_succ]
                refine tkH 5 (v := ?_) rfl (fun _ _ _ h => h) (Or.inl ⟨by rfl, ?_⟩) hH ?_
                rotate_left
                · intro w9 hSw
                  try dsimp only at hSw
                  obtain ⟨s0, s1, s2, s3, s4, s5⟩ := hSw
                  go_simp
                  try with_reducible rfl
                try simp only [Act.put, List.setIfInBounds_toArray, List.set_cons_zero, List.set_cons_succ]
                refine tkH 6 (v := ?_) rfl (fun _ _ _ h => h) (Or.inl ⟨by rfl, ?_⟩) hH ?_
                rotate_left
                · intro w9 hSw
                  try dsimp only at hSw
                  obtain ⟨s0, s1, s2, s3, s4, s5⟩ := hSw
                  go_simp
                  try with_reducible rfl
                try simp only [Act.put, List.setIfInBounds_toArray, List.set_cons_zero, List.set_cons_succ]
                refine tkH 7 (v := ?_) rfl (fun _ _ _ h => h) (Or.inl ⟨by rfl, ?_⟩) hH ?_
                rotate_left
                · intro w9 hSw
                  try dsimp only at hSw
                  obtain ⟨s0, s1, s2, s3, s4, s5⟩ := hSw
                  go_simp
                  try with_reducible rfl
                try simp only [Act.put, List.setIfInBounds_toArray, List.set_cons_zero, List.set_cons_succ]
                refine tkH 8 (v := ?_) rfl (fun _ _ _ h => h) (Or.inl ⟨by rfl, ?_⟩) hH ?_
                rotate_left
                · intro w9 hSw
                  try dsimp only at hSw
                  obtain ⟨s0, s1, s2, s3, s4, s5⟩ := hSw
                  go_simp
                  try with_reducible rfl
                try simp only [Act.put, List.setIfInBounds_toArray, List.set_cons_zero, List.set_cons_succ]
                refine tkH 9 (v := ?_) rfl (fun _ _ _ h => h) (Or.inl ⟨by rfl, ?_⟩) hH ?_
                rotate_left
                · intro w9 hSw
                  try dsimp only at hSw
                  obtain ⟨s0, s1, s2, s3, s4, s5⟩ := hSw
                  go_simp
                  try with_reducible rfl
                try simp only [Act.put, List.setIfInBounds_toArray, List.set_cons_zero, List.set_cons_succ]
                refine tkH 10 (v := ?_) rfl (fun _ _ _ h => h) (Or.inl ⟨by rfl, ?_⟩) hH ?_
                rotate_left
                · intro w9 hSw
                  try dsimp only at hSw
                  obtain ⟨s0, s1, s2, s3, s4, s5⟩ := hSw
                  go_simp
                  try with_reducible rfl
                try simp only [Act.put, List.setIfInBounds_toArray, List.set_cons_zero, List.set_cons_succ]
                refine tkH 11 (v := ?_) rfl (fun _ _ _ h => h) (Or.inl ⟨by rfl, ?_⟩) hH ?_
                rotate_left
                · intro w9 hSw
                  try dsimp only at hSw
                  obtain ⟨s0, s1, s2, s3, s4, s5⟩ := hSw
                  go_simp
                  try with_reducible rfl
                try simp only [Act.put, List.setIfInBounds_toArray, List.set_cons_zero, List.set_cons_succ]
                refine tkH 12 (v := ?_) rfl (fun _ _ _ h => h) (Or.inl ⟨by rfl, ?_⟩) hH ?_
                rotate_left
                · intro w9 hSw
                  try dsimp only at hSw
                  obtain ⟨s0, s1, s2, s3, s4, s5⟩ := hSw
                  go_simp
                  try with_reducible rfl
                try simp only [Act.put, List.setIfInBounds_toArray, List.set_cons_zero, List.set_cons_succ]
                refine tkH 13 (v := ?_) rfl (fun _ _ _ h => h) (Or.inl ⟨by rfl, ?_⟩) hH ?_
                rotate_left
                · intro w9 hSw
                  try dsimp only at hSw
                  obtain ⟨s0, s1, s2, s3, s4, s5⟩ := hSw
                  go_simp
                  try with_reducible rfl
                try simp only [Act.put, List.setIfInBounds_toArray, List.set_cons_zero, List.set_cons_succ]
                refine tkH 14 (v := ?_) rfl (fun _ _ _ h => h) (Or.inl ⟨by rfl, ?_⟩) hH ?_
                rotate_left
                · intro w9 hSw
                  try dsimp only at hSw
                  obtain ⟨s0, s1, s2, s3, s4, s5⟩ := hSw
                  go_simp
                  try with_reducible rfl
                try simp only [Act.put, List.setIfInBounds_toArray, List.set_cons_zero, List.set_cons_succ]
                refine tkH 15 (v := ?_) rfl (fun _ _ _ h => h) (Or.inl ⟨by rfl, ?_⟩) hH ?_
                rotate_left
                · intro w9 hSw
                  try dsimp only at hSw
                  obtain ⟨s0, s1, s2, s3, s4, s5⟩ := hSw
                  go_simp
                  try with_reducible rfl
                try simp only [Act.put, List.setIfInBounds_toArray, List.set_cons_zero, List.set_cons_succ]
                refine tkH 16 (v := ?_) rfl (fun _ _ _ h => h) (Or.inl ⟨by rfl, ?_⟩) hH ?_
                rotate_left
                · intro w9 hSw
                  try dsimp only at hSw
                  obtain ⟨s0, s1, s2, s3, s4, s5⟩ := hSw
                  go_simp
                  try with_reducible rfl
                try simp only [Act.put, List.setIfInBounds_toArray, List.set_cons_zero, List.set_cons_succ]
                refine tkH 17 (v := ?_) rfl (fun _ _ _ h => h) (Or.inl ⟨by rfl, ?_⟩) hH ?_
                rotate_left
                · intro w9 hSw
                  try dsimp only at hSw
                  obtain ⟨s0, s1, s2, s3, s4, s5⟩ := hSw
                  go_simp
                  try with_reducible rfl
                try simp only [Act.put, List.setIfInBounds_toArray, List.set_cons_zero, List.set_cons_succ]
                refine tkH 18 (v := ?_) rfl (fun _ _ _ h => h) (Or.inl ⟨by rfl, ?_⟩) hH ?_
                rotate_left
                · intro w9 hSw
                  try dsimp only at hSw
                  obtain ⟨s0, s1, s2, s3, s4, s5⟩ := hSw
                  go_simp
                  try with_reducible rfl
                try simp only [Act.put, List.setIfInBounds_toArray, List.set_cons_zero, List.set_cons_succ]
                refine tkH 19 (v := ?_) rfl (fun _ _ _ h => h) (Or.inl ⟨by rfl, ?_⟩) hH ?_
                rotate_left
                · intro w9 hSw
                  try dsimp only at hSw
                  obtain ⟨s0, s1, s2, s3, s4, s5⟩ := hSw
                  go_simp
                  try with_reducible rfl
                try simp only [Act.put, List.setIfInBounds_toArray, List.set_cons_zero, List.set_cons_succ]
                refine tkH 20 (v := ?_) rfl (fun _ _ _ h => h) (Or.inl ⟨by rfl, ?_⟩) hH ?_
                rotate_left
                · intro w9 hSw
                  try dsimp only at hSw
                  obtain ⟨s0, s1, s2, s3, s4, s5⟩ := hSw
                  go_simp
                  try with_reducible rfl
                try simp only [Act.put, List.setIfInBounds_toArray, List.set_cons_zero, List.set_cons_succ]
                refine tkH 21 (v := ?_) rfl (fun _ _ _ h => h) (Or.inl ⟨by rfl, ?_⟩) hH ?_
                rotate_left
                · intro w9 hSw
                  try dsimp only at hSw
                  obtain ⟨s0, s1, s2, s3, s4, s5⟩ := hSw
                  go_simp
                  try with_reducible rfl
                try simp only [Act.put, List.setIfInBounds_toArray, List.set_cons_zero, List.set_cons_succ]
                refine tkH 22 (v := ?_) rfl (fun _ _ _ h => h) (Or.inl ⟨by rfl, ?_⟩) hH ?_
                rotate_left
                · intro w9 hSw
                  try dsimp only at hSw
                  obtain ⟨s0, s1, s2, s3, s4, s5⟩ := hSw
                  go_simp
                  try with_reducible rfl
                try simp only [Act.put, List.setIfInBounds_toArray, List.set_cons_zero, List.set_cons_succ]
                refine tkH 23 (v := ?_) rfl (fun _ _ _ h => h) (Or.inl ⟨by rfl, ?_⟩) hH ?_
                rotate_left
                · intro w9 hSw
                  try dsimp only at hSw
                  obtain ⟨s0, s1, s2, s3, s4, s5⟩ := hSw
                  go_simp
                  try with_reducible rfl
                try simp only [Act.put, List.setIfInBounds_toArray, List.set_cons_zero, List.set_cons_succ]
                refine tkH 24 (v := ?_) rfl (fun _ _ _ h => h) (Or.inl ⟨by rfl, ?_⟩) hH ?_
                rotate_left
                · intro w9 hSw
                  try dsimp only at hSw
                  obtain ⟨s0, s1, s2, s3, s4, s5⟩ := hSw
                  go_simp
                  try with_reducible rfl
                try simp only [Act.put, List.setIfInBounds_toArray, List.set_cons_zero, List.set_cons_succ]
                refine tkH 25 (v := ?_) rfl (fun _ _ _ h => h) (Or.inl ⟨by rfl, ?_⟩) hH ?_
                rotate_left
                · intro w9 hSw
                  try dsimp only at hSw
                  obtain ⟨s0, s1, s2, s3, s4, s5⟩ := hSw
                  go_simp
                  try with_reducible rfl
                try simp only [Act.put, List.setIfInBounds_toArray, List.set_cons_zero, List.set_cons_succ]
                refine tkH 26 (v := ?_) rfl (fun _ _ _ h => h) (Or.inl ⟨by rfl, ?_⟩) hH ?_
                rotate_left
                · intro w9 hSw
                  try dsimp only at hSw
                  obtain ⟨s0, s1, s2, s3, s4, s5⟩ := hSw
                  go_simp
                  try with_reducible rfl
                try simp only [Act.put, List.setIfInBounds_toArray, List.set_cons_zero, List.set_cons_succ]
                refine tkH 27 (v := ?_) rfl (fun _ _ _ h => h) (Or.inl ⟨by rfl, ?_⟩) hH ?_
                rotate_left
                · intro w9 hSw
                  try dsimp only at hSw
                  obtain ⟨s0, s1, s2, s3, s4, s5⟩ := hSw
                  go_simp
                  try with_reducible rfl
                try simp only [Act.put, List.setIfInBounds_toArray, List.set_cons_zero, List.set_cons_succ]
                refine wpAnyH_done (by kernel_rfl) ?_ _
                go_wp2
                go_ret
                exact ⟨ret_bool hE.out.symm, hW.trans ((hB.trans (((Below.refl _ _).drew.trans hb5).mono hs)).mono hW.size)⟩
              · have q4 : decide (1000000 < ti) = false := decide_eq_false e4
                have e5 : inB ti 0 1000000 = true := by rw [inB_iff]; omega
                have hop : Hid ((∃ t, readyS gp (timesIn (l.take k)) (e : Int) = some t ∧ t ≤ ti) → okFir n gp (l.take k) ⟨e, nu, ti⟩ = true) := by
                  rintro ⟨t, ht, hle⟩
                  simp [okFir, e1, e2, e5, ht, hle]
                  omega
                have hno : Hid (readyS gp (timesIn (l.take k)) (e : Int) = none → (decide (l.length ≤ 500) && runK n gp l l.length) = false) := fun h => hft.out (by simp [okFir, h])
                have hlo : Hid (∀ t, readyS gp (timesIn (l.take k)) (e : Int) = some t → ti < t → (decide (l.length ≤ 500) && runK n gp l l.length) = false) := fun t h h2 => hft.out (by simp [okFir, h]; intros; omega)
                clear hft t1 t2 e2 e3 e4 e5
                refine wp_region_held_drew (S := fun w' => w'.cell? ⟨bx, 0, none⟩ = some (.int .i64 (e : Nat)) ∧ w'.cell? ⟨bx, 1, none⟩ = some (.int .i64 nu) ∧ w'.cell? ⟨bx, 2, none⟩ = some (.int .i64 ti) ∧ w'.cell? ⟨w.heap.size, 0, none⟩ = some (.int .i64 n) ∧ w'.cell? ⟨w.heap.size, 1, none⟩ = some (.slice A gp.length c) ∧ w'.cell? ⟨w.heap.size + 1, e, none⟩ = some (.slice R (timesIn (l.take k) e).length rc)) (by kernel_rfl) ⟨f0, f1, f2, k0, k1, r0⟩ (fun hH => ?_)
                refine tkH 0 (v := ?_) rfl (fun _ _ _ h => h) (Or.inl ⟨by rfl, ?_⟩) hH ?_
                rotate_left
                · intro w9 hSw
                  try dsimp only at hSw
                  obtain ⟨s0, s1, s2, s3, s4, s5⟩ := hSw
                  go_simp
                  try with_reducible rfl
                try simp only [Act.put, List.setIfInBounds_toArray, List.set_cons_zero, List.set_cons_succ]
                refine tkH 1 (v := ?_) rfl (fun _ _ _ h => h) (Or.inl ⟨by rfl, ?_⟩) hH ?_
                rotate_left
                · intro w9 hSw
                  try dsimp only at hSw
                  obtain ⟨s0, s1, s2, s3, s4, s5⟩ := hSw
                  go_simp
                  try with_reducible rfl
                try simp only [Act.put, List.setIfInBounds_toArray, List.set_cons_zero, List.set_cons_succ]
                refine tkH 2 (v := ?_) rfl (fun _ _ _ h => h) (Or.inl ⟨by rfl, ?_⟩) hH ?_
                rotate_left
                · intro w9 hSw
                  try dsimp only at hSw
                  obtain ⟨s0, s1, s2, s3, s4, s5⟩ := hSw
                  go_simp
                  try with_reducible rfl
                try simp only [Act.put, List.setIfInBounds_toArray, List.set_cons_zero, List.set_cons_succ]
                refine wpAnyH_ready (rs := [3]) (by kernel_rfl) (by simp) ?_
                refine AllReadyH.cons rfl (fun K hK => ?_) AllReadyH.nil
                go_simp
                go_at_call 91
                refine (ci.out _).mono ?_
                rintro e5 w5 ⟨rfl, hb5⟩
                have f0a := cell_keep (w := V.drew) f0 hb5
                have f1a := cell_keep (w := V.drew) f1 hb5
                have f2a := cell_keep (w := V.drew) f2 hb5
                have k0a := cell_keep (w := V.drew) k0 hb5
                have k1a := cell_keep (w := V.drew) k1 hb5
                have r0a := cell_keep (w := V.drew) r0 hb5
                refine hK.out _ _ ⟨f0a, f1a, f2a, k0a, k1a, r0a⟩ (fun hH => ?_)
                clear hK K
                try simp only [Act.put, List.setIfInBounds_toArray, List.set_cons_zero, List.set_cons_succ]
                refine tkH 4 (v := ?_) rfl (fun _ _ _ h => h) (Or.inl ⟨by rfl, ?_⟩) hH ?_
                rotate_left
                · intro w9 hSw
                  try dsimp only at hSw
                  obtain ⟨s0, s1, s2, s3, s4, s5⟩ := hSw
                  go_simp
                  try with_reducible rfl
                try simp only [Act.put, List.setIfInBounds_toArray, List.set_cons_zero, List.set_cons_succ]
                refine tkH 5 (v := ?_) rfl (fun _ _ _ h => h) (Or.inl ⟨by rfl, ?_⟩) hH ?_
                rotate_left
                · intro w9 hSw
                  try dsimp only at hSw
                  obtain ⟨s0, s1, s2, s3, s4, s5⟩ := hSw
                  go_simp
                  try with_reducible rfl
                try simp only [Act.put, List.setIfInBounds_toArray, List.set_cons_zero, List.set_cons_succ]
                refine tkH 6 (v := ?_) rfl (fun _ _ _ h => h) (Or.inl ⟨by rfl, ?_⟩) hH ?_
                rotate_left
                · intro w9 hSw
                  try dsimp only at hSw
                  obtain ⟨s0, s1, s2, s3, s4, s5⟩ := hSw
                  go_simp
                  try with_reducible rfl
                try simp only [Act.put, List.setIfInBounds_toArray, List.set_cons_zero, List.set_cons_succ]
                refine tkH 7 (v := ?_) rfl (fun _ _ _ h => h) (Or.inl ⟨by rfl, ?_⟩) hH ?_
                rotate_left
                · intro w9 hSw
                  try dsimp only at hSw
                  obtain ⟨s0, s1, s2, s3, s4, s5⟩ := hSw
                  go_simp
                  try with_reducible rfl
                try simp only [Act.put, List.setIfInBounds_toArray, List.set_cons_zero, List.set_cons_succ]
                refine tkH 8 (v := ?_) rfl (fun _ _ _ h => h) (Or.inl ⟨by rfl, ?_⟩) hH ?_
                rotate_left
                · intro w9 hSw
                  try dsimp only at hSw
                  obtain ⟨s0, s1, s2, s3, s4, s5⟩ := hSw
                  go_simp
                  try with_reducible rfl
                try simp only [Act.put, List.setIfInBounds_toArray, List.set_cons_zero, List.set_cons_succ]
                refine tkH 9 (v := ?_) rfl (fun _ _ _ h => h) (Or.inl ⟨by rfl, ?_⟩) hH ?_
                rotate_left
                · intro w9 hSw
                  try dsimp only at hSw
                  obtain ⟨s0, s1, s2, s3, s4, s5⟩ := hSw
                  go_simp
                  try with_reducible rfl
                try simp only [Act.put, List.setIfInBounds_toArray, List.set_cons_zero, List.set_cons_succ]
                refine tkH 10 (v := ?_) rfl (fun _ _ _ h => h) (Or.inl ⟨by rfl, ?_⟩) hH ?_
                rotate_left
                · intro w9 hSw
                  try dsimp only at hSw
                  obtain ⟨s0, s1, s2, s3, s4, s5⟩ := hSw
                  go_simp
                  try with_reducible rfl
                try simp only [Act.put, List.setIfInBounds_toArray, List.set_cons_zero, List.set_cons_succ]
                refine tkH 11 (v := ?_) rfl (fun _ _ _ h => h) (Or.inl ⟨by rfl, ?_⟩) hH ?_
                rotate_left
                · intro w9 hSw
                  try dsimp only at hSw
                  obtain ⟨s0, s1, s2, s3, s4, s5⟩ := hSw
                  go_simp
                  try with_reducible rfl
                try simp only [Act.put, List.setIfInBounds_toArray, List.set_cons_zero, List.set_cons_succ]
                refine tkH 12 (v := ?_) rfl (fun _ _ _ h => h) (Or.inl ⟨by rfl, ?_⟩) hH ?_
                rotate_left
                · intro w9 hSw
                  try dsimp only at hSw
                  obtain ⟨s0, s1, s2, s3, s4, s5⟩ := hSw
                  go_simp
                  try with_reducible rfl
                try simp only [Act.put, List.setIfInBounds_toArray, List.set_cons_zero, List.set_cons_succ]
                refine tkH 13 (v := ?_) rfl (fun _ _ _ h => h) (Or.inl ⟨by rfl, ?_⟩) hH ?_
                rotate_left
                · intro w9 hSw
                  try dsimp only at hSw
                  obtain ⟨s0, s1, s2, s3, s4, s5⟩ := hSw
                  go_simp
                  try with_reducible rfl
                try simp only [Act.put, List.setIfInBounds_toArray, List.set_cons_zero, List.set_cons_succ]
                refine tkH 14 (v := ?_) rfl (fun _ _ _ h => h) (Or.inl ⟨by rfl, ?_⟩) hH ?_
                rotate_left
                · intro w9 hSw
                  try dsimp only at hSw
                  obtain ⟨s0, s1, s2, s3, s4, s5⟩ := hSw
                  go_simp
                  try with_reducible rfl
                try simp only [Act.put, List.setIfInBounds_toArray, List.set_cons_zero, List.set_cons_succ]
                refine tkH 15 (v := ?_) rfl (fun _ _ _ h => h) (Or.inl ⟨by rfl, ?_⟩) hH ?_
                rotate_left
                · intro w9 hSw
                  try dsimp only at hSw
                  obtain ⟨s0, s1, s2, s3, s4, s5⟩ := hSw
                  go_simp
                  try with_reducible rfl
                try simp only [Act.put, List.setIfInBounds_toArray, List.set_cons_zero, List.set_cons_succ]
                refine tkH 16 (v := ?_) rfl (fun _ _ _ h => h) (Or.inl ⟨by rfl, ?_⟩) hH ?_
                rotate_left
                · intro w9 hSw
                  try dsimp only at hSw
                  obtain ⟨s0, s1, s2, s3, s4, s5⟩ := hSw
                  go_simp
                  try with_reducible rfl
                try simp only [Act.put, List.setIfInBounds_toArray, List.set_cons_zero, List.set_cons_succ]
                refine tkH 17 (v := ?_) rfl (fun _ _ _ h => h) (Or.inl ⟨by rfl, ?_⟩) hH ?_
                rotate_left
                · intro w9 hSw
                  try dsimp only at hSw
                  obtain ⟨s0, s1, s2, s3, s4, s5⟩ := hSw
                  go_simp
                  try with_reducible rfl
                try simp only [Act.put, List.setIfInBounds_toArray, List.set_cons_zero, List.set_cons_succ]
                refine tkH 18 (v := ?_) rfl (fun _ _ _ h => h) (Or.inl ⟨by rfl, ?_⟩) hH ?_
                rotate_left
                · intro w9 hSw
                  try dsimp only at hSw
                  obtain ⟨s0, s1, s2, s3, s4, s5⟩ := hSw
                  go_simp
                  try with_reducible rfl
                try simp only [Act.put, List.setIfInBounds_toArray, List.set_cons_zero, List.set_cons_succ]
                refine tkH 19 (v := ?_) rfl (fun _ _ _ h => h) (Or.inl ⟨by rfl, ?_⟩) hH ?_
                rotate_left
                · intro w9 hSw
                  try dsimp only at hSw
                  obtain ⟨s0, s1, s2, s3, s4, s5⟩ := hSw
                  go_simp
                  try with_reducible rfl
                try simp only [Act.put, List.setIfInBounds_toArray, List.set_cons_zero, List.set_cons_succ]
                refine tkH 20 (v := ?_) rfl (fun _ _ _ h => h) (Or.inl ⟨by rfl, ?_⟩) hH ?_
                rotate_left
                · intro w9 hSw
                  try dsimp only at hSw
                  obtain ⟨s0, s1, s2, s3, s4, s5⟩ := hSw
                  go_simp
                  try with_reducible rfl
                try simp only [Act.put, List.setIfInBounds_toArray, List.set_cons_zero, List.set_cons_succ]
                refine tkH 21 (v := ?_) rfl (fun _ _ _ h => h) (Or.inl ⟨by rfl, ?_⟩) hH ?_
                rotate_left
                · intro w9 hSw
                  try dsimp only at hSw
                  obtain ⟨s0, s1, s2, s3, s4, s5⟩ := hSw
                  go_simp
                  try with_reducible rfl
                try simp only [Act.put, List.setIfInBounds_toArray, List.set_cons_zero, List.set_cons_succ]
                refine tkH 22 (v := ?_) rfl (fun _ _ _ h => h) (Or.inl ⟨by rfl, ?_⟩) hH ?_
                rotate_left
                · intro w9 hSw
                  try dsimp only at hSw
                  obtain ⟨s0, s1, s2, s3, s4, s5⟩ := hSw
                  go_simp
                  try with_reducible rfl
                try simp only [Act.put, List.setIfInBounds_toArray, List.set_cons_zero, List.set_cons_succ]
                refine tkH 23 (v := ?_) rfl (fun _ _ _ h => h) (Or.inl ⟨by rfl, ?_⟩) hH ?_
                rotate_left
                · intro w9 hSw
                  try dsimp only at hSw
                  obtain ⟨s0, s1, s2, s3, s4, s5⟩ := hSw
                  go_simp
                  try with_reducible rfl
                try simp only [Act.put, List.setIfInBounds_toArray, List.set_cons_zero, List.set_cons_succ]
                refine tkH 24 (v := ?_) rfl (fun _ _ _ h => h) (Or.inl ⟨by rfl, ?_⟩) hH ?_
                rotate_left
                · intro w9 hSw
                  try dsimp only at hSw
                  obtain ⟨s0, s1, s2, s3, s4, s5⟩ := hSw
                  go_simp
                  try with_reducible rfl
                try simp only [Act.put, List.setIfInBounds_toArray, List.set_cons_zero, List.set_cons_succ]
                refine tkH 25 (v := ?_) rfl (fun _ _ _ h => h) (Or.inl ⟨by rfl, ?_⟩) hH ?_
                rotate_left
                · intro w9 hSw
                  try dsimp only at hSw
                  obtain ⟨s0, s1, s2, s3, s4, s5⟩ := hSw
                  go_simp
                  try with_reducible rfl
                try simp only [Act.put, List.setIfInBounds_toArray, List.set_cons_zero, List.set_cons_succ]
                refine tkH 26 (v := ?_) rfl (fun _ _ _ h => h) (Or.inl ⟨by rfl, ?_⟩) hH ?_
                rotate_left
                · intro w9 hSw
                  try dsimp only at hSw
                  obtain ⟨s0, s1, s2, s3, s4, s5⟩ := hSw
                  go_simp
                  try with_reducible rfl
                try simp only [Act.put, List.setIfInBounds_toArray, List.set_cons_zero, List.set_cons_succ]
                refine tkH 27 (v := ?_) rfl (fun _ _ _ h => h) (Or.inl ⟨by rfl, ?_⟩) hH ?_
                rotate_left
                · intro w9 hSw
                  try dsimp only at hSw
                  obtain ⟨s0, s1, s2, s3, s4, s5⟩ := hSw
                  go_simp
                  try with_reducible rfl
                try simp only [Act.put, List.setIfInBounds_toArray, List.set_cons_zero, List.set_cons_succ]
                refine wpAnyH_done (by kernel_rfl) ?_ _
                go_wp2_with fail
                have hB5 : Below V.heap.size V w5 := (Below.refl _ V).drew.trans hb5
                have hs5 := hB5.size
                cases e6 : readyS gp (timesIn (l.take k)) (e : Int) with
                | none =>
                  have c6 : Hid (∀ X : World, Lst Place.cells 4 X X.heap.size (.slice A gp.length c) gp → LstM X X.heap.size (.slice (some ⟨w.heap.size + 1, 0, none⟩) n n) (tabR n (l.take k)) → Calls Tryd.prog 102 #[.agg #[.int .i64 n, .slice A gp.length c], .slice (some ⟨w.heap.size + 1, 0, none⟩) n n, .int .i64 (e : Nat)] X fun r w' => r = .returned (.tuple #[.int .i64 0, .bool false]) ∧ Below X.heap.size X w') :=
                    fun X hX hY => by have := impl_readyTime (.slice A gp.length c) n gp (.slice (some ⟨w.heap.size + 1, 0, none⟩) n n) (tabR n (l.take k)) e X hX hY hg'.out (by rw [tabR_len]) hen (Lib.hid (tabR_ok hR.out hlt5 n)); rw [tabR_ready hg'.out _ _ (by omega) i3, e6] at this; exact this
                  have hE := Lib.hid (hno.out e6)
                  clear e6
                  refine (c6.out _ ((h0.now hB).now hB5) (hM.now hB5).lst).mono ?_
                  rintro e7 w6 ⟨rfl, hB6⟩
                  go_wp2
                  go_ret
                  exact ⟨ret_bool hE.out.symm, hW.trans ((hB.trans ((hB5.trans (hB6.mono hs5)).mono hs)).mono hW.size)⟩
                | some t =>
                  have c6 : Hid (∀ X : World, Lst Place.cells 4 X X.heap.size (.slice A gp.length c) gp → LstM X X.heap.size (.slice (some ⟨w.heap.size + 1, 0, none⟩) n n) (tabR n (l.take k)) → Calls Tryd.prog 102 #[.agg #[.int .i64 n, .slice A gp.length c], .slice (some ⟨w.heap.size + 1, 0, none⟩) n n, .int .i64 (e : Nat)] X fun r w' => r = .returned (.tuple #[.int .i64 t, .bool true]) ∧ Below X.heap.size X w') :=
                    fun X hX hY => by have := impl_readyTime (.slice A gp.length c) n gp (.slice (some ⟨w.heap.size + 1, 0, none⟩) n n) (tabR n (l.take k)) e X hX hY hg'.out (by rw [tabR_len]) hen (Lib.hid (tabR_ok hR.out hlt5 n)); rw [tabR_ready hg'.out _ _ (by omega) i3, e6] at this; exact this
                  by_cases e8 : ti < t
                  · have q8 : decide (ti < t) = true := decide_eq_true e8
                    have hE := Lib.hid (hlo.out t e6 e8)
                    clear e6 e8
                    refine (c6.out _ ((h0.now hB).now hB5) (hM.now hB5).lst).mono ?_
                    rintro e7 w6 ⟨rfl, hB6⟩
                    have hbf6 := (hbf.now hB5).now hB6
                    obtain ⟨x0, x1, x2⟩ := hbf6.c3
                    have lf6 := hbf6.lt
                    go_wp2
                    go_ret
                    exact ⟨ret_bool hE.out.symm, hW.trans ((hB.trans ((hB5.trans (hB6.mono hs5)).mono hs)).mono hW.size)⟩
                  · have q8 : decide (ti < t) = false := decide_eq_false e8
                    have hok1 := hop.out ⟨t, e6, by omega⟩
                    have hK' : Hid (runK n gp l (k + 1) = true) := by show _ = _; rw [runK_succ _ _ _ _ hlt, hK.out, hfH.out, hok1]; rfl
                    have hR' : Hid (RunOk n (l.take (k + 1))) := by show RunOk _ _; rw [take_succ_get _ _ hlt, hfH.out]; exact hR.out.snoc hok1
                    have hT' : Hid (lastT (l.take (k + 1)) = ti) := by show _ = _; rw [take_succ_get _ _ hlt, hfH.out, lastT_snoc]
                    have hTb : Hid ((tabR n (l.take k)).set e (timesIn (l.take k) (e : Int) ++ [ti]) = tabR n (l.take (k + 1))) := by show _ = _; rw [tabR_set n (l.take k) e nu ti, take_succ_get _ _ hlt, hfH.out]
                    clear e6 e8 hok1 hop hno hlo
                    refine (c6.out _ ((h0.now hB).now hB5) (hM.now hB5).lst).mono ?_
                    rintro e7 w6 ⟨rfl, hB6⟩
                    have hB7 := hB5.trans (hB6.mono hs5)
                    have hs7 := hB7.size
                    have hbf6 := hbf.now hB7
                    obtain ⟨x0, x1, x2⟩ := hbf6.c3
                    have lf6 := hbf6.lt
                    have x3 := cell_keep (w := V) r0 hB7
                    obtain ⟨hl, hO, hRw, hD⟩ := hMH.out
                    have hZ : Below w6.heap.size w6 (w6.drew.alloc (.cells #[.int .i64 ti] 2)) := (Below.refl _ _).drew.alloc (Nat.le_refl _) _
                    have hVZ := hB7.trans (hZ.mono hs7)
                    replace hO := hO.now hVZ
                    have hRw2 : ∀ i (h1 : i < rs.length) (h2 : i < (tabR n (l.take k)).length), Own intCell 1 2 (w6.drew.alloc (.cells #[.int .i64 ti] 2)) (w.heap.size + 1) rs[i].val (tabR n (l.take k))[i] := fun i h1 h2 => (hRw i h1 h2).now hVZ
                    have qO := hRw2 e her hen
                    have hne := own_ref_ne hO qO
                    rw [tabR_get] at qO
                    have hMH2 := Lib.hid (And.intro hl (And.intro hO (And.intro hRw2 hD)))
                    clear hl hO hRw hRw2 hD
                    rw [hvH.out] at qO hne
                    have hbfZ := hbf6.now hZ
                    obtain ⟨y0, y1, y2⟩ := hbfZ.c3
                    have y3 := cell_keep (w := w6) x3 hZ
                    have hLst : Lst intCell 1 (w6.drew.alloc (.cells #[.int .i64 ti] 2)) (w6.heap.size + 1) (.slice (some ⟨w6.heap.size, 0, none⟩) 1 1) [ti] := lst_new1 intCell 1 intCell_len w6.drew 2 ti _ rfl _ rfl
                    have hlen : (timesIn (l.take k) (e : Int)).length + [ti].length ≤ 1099511627776 := by simp; omega
                    have hbs : w.heap.size + 1 ≤ (w6.drew.alloc (.cells #[.int .i64 ti] 2)).heap.size := by rw [← hsW.out]; exact Nat.le_trans (hB.trans (hVZ.mono hs)).size (Nat.le_refl _)
                    have hLL : Hid ((timesIn (l.take k) (e : Int) ++ [ti]).length = (timesIn (l.take k) (e : Int)).length + 1) := by show _ = _; simp
                    have z0 : w6.drew.cell? ⟨bx, 0, none⟩ = some (.int .i64 e) := x0
                    have z2 : w6.drew.cell? ⟨bx, 2, none⟩ = some (.int .i64 ti) := x2
                    have z3 : w6.drew.cell? ⟨w.heap.size + 1, e, none⟩ = some (.slice R (timesIn (l.take k) (e : Int)).length rc) := x3
                    have hRwr : Hid (rs[e].val = .slice R (timesIn (l.take k) (e : Int)).length rc) := hvH.out
                    clear hMH hvH h5b hwr ci
                    go_wp2
                    refine wp_region_E (fun w' => w'.cell? ⟨bx, 0, none⟩ = some (.int .i64 (e : Nat)) ∧ w'.cell? ⟨bx, 2, none⟩ = some (.int .i64 ti) ∧ w'.cell? ⟨w.heap.size + 1, e, none⟩ = some (.slice R (timesIn (l.take k) (e : Int)).length rc)) 13 (by kernel_rfl) ?_
                    have hS0 : (fun w' : World => w'.cell? ⟨bx, 0, none⟩ = some (.int .i64 (e : Nat)) ∧ w'.cell? ⟨bx, 2, none⟩ = some (.int .i64 ti) ∧ w'.cell? ⟨w.heap.size + 1, e, none⟩ = some (.slice R (timesIn (l.take k) (e : Int)).length rc)) w6.drew := ⟨z0, z2, z3⟩
                    refine wpAnyE_take (i := 0) (v := ?_) rfl (by kernel_rfl) (by kernel_rfl) (by kernel_rfl) (by kernel_rfl) (by kernel_rfl) (fun _ _ _ h => h) hS0 (by rfl) ?_ ?_
                    rotate_left
                    · intro w9 hSw
                      try dsimp only at hSw
                      obtain ⟨s0, s1, s2⟩ := hSw
                      go_simp
                      try with_reducible rfl
                    try simp only [Act.put, List.setIfInBounds_toArray, List.set_cons_zero, List.set_cons_succ]
                    refine wpAnyE_take (i := 1) (v := ?_) rfl (by kernel_rfl) (by kernel_rfl) (by kernel_rfl) (by kernel_rfl) (by kernel_rfl) (fun _ _ _ h => h) hS0 (by rfl) ?_ ?_
                    rotate_left
                    · intro w9 hSw
                      try dsimp only at hSw
                      obtain ⟨s0, s1, s2⟩ := hSw
                      go_simp
                      try with_reducible rfl
                    try simp only [Act.put, List.setIfInBounds_toArray, List.set_cons_zero, List.set_cons_succ]
                    refine wpAnyE_take (i := 2) (v := ?_) rfl (by kernel_rfl) (by kernel_rfl) (by kernel_rfl) (by kernel_rfl) (by kernel_rfl) (fun _ _ _ h => h) hS0 (by rfl) ?_ ?_
                    rotate_left
                    · intro w9 hSw
                      try dsimp only at hSw
                      obtain ⟨s0, s1, s2⟩ := hSw
                      go_simp
                      try with_reducible rfl
                    try simp only [Act.put, List.setIfInBounds_toArray, List.set_cons_zero, List.set_cons_succ]
                    refine wpAnyE_take (i := 3) (v := ?_) rfl (by kernel_rfl) (by kernel_rfl) (by kernel_rfl) (by kernel_rfl) (by kernel_rfl) (fun _ _ _ h => h) hS0 (by rfl) ?_ ?_
                    rotate_left
                    · intro w9 hSw
                      try dsimp only at hSw
                      obtain ⟨s0, s1, s2⟩ := hSw
                      go_simp
                      try with_reducible rfl
                    try simp only [Act.put, List.setIfInBounds_toArray, List.set_cons_zero, List.set_cons_succ]
                    refine wpAnyE_take (i := 4) (v := ?_) rfl (by kernel_rfl) (by kernel_rfl) (by kernel_rfl) (by kernel_rfl) (by kernel_rfl) (fun _ _ _ h => h) hS0 (by rfl) ?_ ?_
                    rotate_left
                    · intro w9 hSw
                      try dsimp only at hSw
                      obtain ⟨s0, s1, s2⟩ := hSw
                      go_simp
                      try with_reducible rfl
                    try simp only [Act.put, List.setIfInBounds_toArray, List.set_cons_zero, List.set_cons_succ]
                    refine wpAnyE_take (i := 5) (v := ?_) rfl (by kernel_rfl) (by kernel_rfl) (by kernel_rfl) (by kernel_rfl) (by kernel_rfl) (fun _ _ _ h => h) hS0 (by rfl) ?_ ?_
                    rotate_left
                    · intro w9 hSw
                      try dsimp only at hSw
                      obtain ⟨s0, s1, s2⟩ := hSw
                      go_simp
                      try with_reducible rfl
                    try simp only [Act.put, List.setIfInBounds_toArray, List.set_cons_zero, List.set_cons_succ]
                    refine wpAnyE_take (i := 6) (v := ?_) rfl (by kernel_rfl) (by kernel_rfl) (by kernel_rfl) (by kernel_rfl) (by kernel_rfl) (fun _ _ _ h => h) hS0 (by rfl) ?_ ?_
                    rotate_left
                    · intro w9 hSw
                      try dsimp only at hSw
                      obtain ⟨s0, s1, s2⟩ := hSw
                      go_simp
                      try with_reducible rfl
                    try simp only [Act.put, List.setIfInBounds_toArray, List.set_cons_zero, List.set_cons_succ]
                    refine wpAnyE_take (i := 7) (v := ?_) rfl (by kernel_rfl) (by kernel_rfl) (by kernel_rfl) (by kernel_rfl) (by kernel_rfl) (fun _ _ _ h => h) hS0 (by rfl) ?_ ?_
                    rotate_left
                    · intro w9 hSw
                      try dsimp only at hSw
                      obtain ⟨s0, s1, s2⟩ := hSw
                      go_simp
                      try with_reducible rfl
                    try simp only [Act.put, List.setIfInBounds_toArray, List.set_cons_zero, List.set_cons_succ]
                    refine wpAnyE_take (i := 8) (v := ?_) rfl (by kernel_rfl) (by kernel_rfl) (by kernel_rfl) (by kernel_rfl) (by kernel_rfl) (fun _ _ _ h => h) hS0 (by rfl) ?_ ?_
                    rotate_left
                    · intro w9 hSw
                      try dsimp only at hSw
                      obtain ⟨s0, s1, s2⟩ := hSw
                      go_simp
                      try with_reducible rfl
                    try simp only [Act.put, List.setIfInBounds_toArray, List.set_cons_zero, List.set_cons_succ]
                    refine wpAnyE_take (i := 9) (v := ?_) rfl (by kernel_rfl) (by kernel_rfl) (by kernel_rfl) (by kernel_rfl) (by kernel_rfl) (fun _ _ _ h => h) hS0 (by rfl) ?_ ?_
                    rotate_left
                    · intro w9 hSw
                      try dsimp only at hSw
                      obtain ⟨s0, s1, s2⟩ := hSw
                      go_simp
                      try with_reducible rfl
                    try simp only [Act.put, List.setIfInBounds_toArray, List.set_cons_zero, List.set_cons_succ]
                    refine wpAnyE_one (i := 10) rfl (by kernel_rfl) (fun K hK => ?_)
                    go_simp
                    refine hK.out _ _ (fun _ => ⟨y0, y2, y3⟩) ?_
                    clear hK K
                    try simp only [Act.put, List.setIfInBounds_toArray, List.set_cons_zero, List.set_cons_succ]
                    refine wpAnyE_one (i := 11) rfl (by kernel_rfl) (fun K hK => ?_)
                    refine step_append_lst rfl _ _ 94 rfl intCell 1 intCell_one (by omega) (w.heap.size + 1) 2 _ 8 Tryd.underlying94 info_i64 rfl (.slice R (timesIn (l.take k) (e : Int)).length rc) (timesIn (l.take k) (e : Int)) rfl qO _ _ _ _ [ti] rfl hLst hlen (by omega) hbs ?_
                    intro v1 wz hO1 hG hD1
                    obtain ⟨V1, cv1, rfl⟩ := own_shape_n hO1 hLL.out
                    have hbfz := hbfZ.grown hG (Ne.symm (qO.ne_blk hbfZ (by decide)))
                    obtain ⟨u0, u1, u2⟩ := hbfz.c3
                    have u3 := cell_kept y3 hG hne
                    obtain ⟨hl2, hO2, hR2, hD2⟩ := hMH2.out
                    have hOz := own_kept hO2 hG (fun q a b => by injection a with a; subst a; exact hne b)
                    have fz : wz.frozen? ⟨w.heap.size + 1, e, none⟩ = false := by obtain ⟨g9, c9, hu9, _, _, hf9, _⟩ := hOz.at_ Ref.cells_len e her; injection hu9 with hu9 _ _; injection hu9 with hu9; injection hu9 with hu9 _ _; subst hu9; exact hf9 e
                    have hMH3 := Lib.hid (And.intro hl2 (And.intro hO2 (And.intro hR2 hD2)))
                    clear hl2 hO2 hR2 hD2 hOz
                    refine hK.out _ _ (fun _ => ⟨u0, u2, u3⟩) ?_
                    clear hK K
                    try simp only [Act.put, List.setIfInBounds_toArray, List.set_cons_zero, List.set_cons_succ]
                    refine wpAnyE_one (i := 12) rfl (by kernel_rfl) (fun K hK => ?_)
                    go_simp
                    refine hK.out _ _ (fun _ => ⟨u0, u2, u3⟩) ?_
                    clear hK K
                    try simp only [Act.put, List.setIfInBounds_toArray, List.set_cons_zero, List.set_cons_succ]
                    refine wpAnyE_one (i := 13) rfl (by kernel_rfl) (fun K hK => ?_)
                    go_simp
                    refine hK.out _ _ (fun h => absurd rfl h) ?_
                    clear hK K
                    try simp only [Act.put, List.setIfInBounds_toArray, List.set_cons_zero, List.set_cons_succ]
                    refine wpAnyE_done (by kernel_rfl) ?_
                    obtain ⟨hl2, hO2, hR2, hD2⟩ := hMH3.out
                    have hMn := OwnM.app hl2 hO2 hR2 hD2 e her ⟨V1, (timesIn (l.take k) (e : Int)).length + 1, cv1⟩ (timesIn (l.take k) (e : Int) ++ [ti]) hO1 (by rw [hRwr.out]; exact hG) (by rw [hRwr.out]; exact hD1) rfl
                    rw [hTb.out] at hMn
                    have hBZ : Below (w.heap.size + 1) W (w6.drew.alloc (.cells #[.int .i64 ti] 2)) := by rw [← hsW.out]; exact hB.trans (hVZ.mono hs)
                    have hBn := (below_app hBZ hbs hG qO (Nat.le_refl _)).setCell (p := ⟨w.heap.size + 1, e, none⟩) (Nat.le_refl _) (.slice V1 ((timesIn (l.take k) (e : Int)).length + 1) cv1)
                    clear u3 y3 z3 x3 hl2 hO2 hR2 hD2 hMH3 hMH2
                    have hbfs := hbfz.far (p := ⟨w.heap.size + 1, e, none⟩) hbxne (.slice V1 ((timesIn (l.take k) (e : Int)).length + 1) cv1)
                    clear u0 u2 hbfz
                    obtain ⟨u0, u1, u2⟩ := hbfs.c3
                    go_wp2
                    go_roundw
                    case rel => exact ⟨k + 1, hlt, by go_num, by rw [hT'.out], hK', hR', hMn, hBn⟩
                    case measure => simp [intOf]; omega
          · have q2 : (nu != ((timesIn (l.take k) (e : Int)).length : Int) + 1) = true := by simpa using e2
            have hE := Lib.hid (hft.out (by simp [okFir, e2]))
            clear hft hg' h5b t1 t2 e1 e2
            refine wp_region_held_drew (S := fun w' => w'.cell? ⟨bx, 0, none⟩ = some (.int .i64 (e : Nat)) ∧ w'.cell? ⟨bx, 1, none⟩ = some (.int .i64 nu) ∧ w'.cell? ⟨bx, 2, none⟩ = some (.int .i64 ti) ∧ w'.cell? ⟨w.heap.size, 0, none⟩ = some (.int .i64 n) ∧ w'.cell? ⟨w.heap.size, 1, none⟩ = some (.slice A gp.length c) ∧ w'.cell? ⟨w.heap.size + 1, e, none⟩ = some (.slice R (timesIn (l.take k) e).length rc)) (by kernel_rfl) ⟨f0, f1, f2, k0, k1, r0⟩ (fun hH => ?_)
            refine tkH 0 (v := ?_) rfl (fun _ _ _ h => h) (Or.inl ⟨by rfl, ?_⟩) hH ?_
            rotate_left
            · intro w9 hSw
              try dsimp only at hSw
              obtain ⟨s0, s1, s2, s3, s4, s5⟩ := hSw
              go_simp
              try with_reducible rfl
            try simp only [Act.put, List.setIfInBounds_toArray, List.set_cons_zero, List.set_cons_succ]
            refine tkH 1 (v := ?_) rfl (fun _ _ _ h => h) (Or.inl ⟨by rfl, ?_⟩) hH ?_
            rotate_left
            · intro w9 hSw
              try dsimp only at hSw
              obtain ⟨s0, s1, s2, s3, s4, s5⟩ := hSw
              go_simp
              try with_reducible rfl
            try simp only [Act.put, List.setIfInBounds_toArray, List.set_cons_zero, List.set_cons_succ]
            refine tkH 2 (v := ?_) rfl (fun _ _ _ h => h) (Or.inl ⟨by rfl, ?_⟩) hH ?_
            rotate_left
            · intro w9 hSw
              try dsimp only at hSw
              obtain ⟨s0, s1, s2, s3, s4, s5⟩ := hSw
              go_simp
              try with_reducible rfl
            try simp only [Act.put, List.setIfInBounds_toArray, List.set_cons_zero, List.set_cons_succ]
            refine wpAnyH_ready (rs := [3]) (by kernel_rfl) (by simp) ?_
            refine AllReadyH.cons rfl (fun K hK => ?_) AllReadyH.nil
            go_simp
            go_at_call 91
            refine (ci.out _).mono ?_
            rintro e5 w5 ⟨rfl, hb5⟩
            have f0a := cell_keep (w := V.drew) f0 hb5
            have f1a := cell_keep (w := V.drew) f1 hb5
            have f2a := cell_keep (w := V.drew) f2 hb5
            have k0a := cell_keep (w := V.drew) k0 hb5
            have k1a := cell_keep (w := V.drew) k1 hb5
            have r0a := cell_keep (w := V.drew) r0 hb5
            refine hK.out _ _ ⟨f0a, f1a, f2a, k0a, k1a, r0a⟩ (fun hH => ?_)
            clear hK K
            try simp only [Act.put, List.setIfInBounds_toArray, List.set_cons_zero, List.set_cons_succ]
            refine tkH 4 (v := ?_) rfl (fun _ _ _ h => h) (Or.inl ⟨by rfl, ?_⟩) hH ?_
            rotate_left
            · intro w9 hSw
              try dsimp only at hSw
              obtain ⟨s0, s1, s2, s3, s4, s5⟩ := hSw
              go_simp
              try with_reducible rfl
            try simp only [Act.put, List.setIfInBounds_toArray, List.set_cons_zero, List.set_cons_succ]
            refine tkH 5 (v := ?_) rfl (fun _ _ _ h => h) (Or.inl ⟨by rfl, ?_⟩) hH ?_
            rotate_left
            · intro w9 hSw
              try dsimp only at hSw
              obtain ⟨s0, s1, s2, s3, s4, s5⟩ := hSw
              go_simp
              try with_reducible rfl
            try simp only [Act.put, List.setIfInBounds_toArray, List.set_cons_zero, List.set_cons_succ]
            refine tkH 6 (v := ?_) rfl (fun _ _ _ h => h) (Or.inl ⟨by rfl, ?_⟩) hH ?_
            rotate_left
            · intro w9 hSw
              try dsimp only at hSw
              obtain ⟨s0, s1, s2, s3, s4, s5⟩ := hSw
              go_simp
              try with_reducible rfl
            try simp only [Act.put, List.setIfInBounds_toArray, List.set_cons_zero, List.set_cons_succ]
            refine tkH 7 (v := ?_) rfl (fun _ _ _ h => h) (Or.inl ⟨by rfl, ?_⟩) hH ?_
            rotate_left
            · intro w9 hSw
              try dsimp only at hSw
              obtain ⟨s0, s1, s2, s3, s4, s5⟩ := hSw
              go_simp
              try with_reducible rfl
            try simp only [Act.put, List.setIfInBounds_toArray, List.set_cons_zero, List.set_cons_succ]
            refine tkH 8 (v := ?_) rfl (fun _ _ _ h => h) (Or.inl ⟨by rfl, ?_⟩) hH ?_
            rotate_left
            · intro w9 hSw
              try dsimp only at hSw
              obtain ⟨s0, s1, s2, s3, s4, s5⟩ := hSw
              go_simp
              try with_reducible rfl
            try simp only [Act.put, List.setIfInBounds_toArray, List.set_cons_zero, List.set_cons_succ]
            refine tkH 9 (v := ?_) rfl (fun _ _ _ h => h) (Or.inl ⟨by rfl, ?_⟩) hH ?_
            rotate_left
            · intro w9 hSw
              try dsimp only at hSw
              obtain ⟨s0, s1, s2, s3, s4, s5⟩ := hSw
              go_simp
              try with_reducible rfl
            try simp only [Act.put, List.setIfInBounds_toArray, List.set_cons_zero, List.set_cons_succ]
            refine tkH 10 (v := ?_) rfl (fun _ _ _ h => h) (Or.inl ⟨by rfl, ?_⟩) hH ?_
            rotate_left
            · intro w9 hSw
              try dsimp only at hSw
              obtain ⟨s0, s1, s2, s3, s4, s5⟩ := hSw
              go_simp
              try with_reducible rfl
            try simp only [Act.put, List.setIfInBounds_toArray, List.set_cons_zero, List.set_cons_succ]
            refine tkH 11 (v := ?_) rfl (fun _ _ _ h => h) (Or.inl ⟨by rfl, ?_⟩) hH ?_
            rotate_left
            · intro w9 hSw
              try dsimp only at hSw
              obtain ⟨s0, s1, s2, s3, s4, s5⟩ := hSw
              go_simp
              try with_reducible rfl
            try simp only [Act.put, List.setIfInBounds_toArray, List.set_cons_zero, List.set_cons_succ]
            refine tkH 12 (v := ?_) rfl (fun _ _ _ h => h) (Or.inl ⟨by rfl, ?_⟩) hH ?_
            rotate_left
            · intro w9 hSw
              try dsimp only at hSw
              obtain ⟨s0, s1, s2, s3, s4, s5⟩ := hSw
              go_simp
              try with_reducible rfl
            try simp only [Act.put, List.setIfInBounds_toArray, List.set_cons_zero, List.set_cons_succ]
            refine tkH 13 (v := ?_) rfl (fun _ _ _ h => h) (Or.inl ⟨by rfl, ?_⟩) hH ?_
            rotate_left
            · intro w9 hSw
              try dsimp only at hSw
              obtain ⟨s0, s1, s2, s3, s4, s5⟩ := hSw
              go_simp
              try with_reducible rfl
            try simp only [Act.put, List.setIfInBounds_toArray, List.set_cons_zero, List.set_cons_succ]
            refine tkH 14 (v := ?_) rfl (fun _ _ _ h => h) (Or.inl ⟨by rfl, ?_⟩) hH ?_
            rotate_left
            · intro w9 hSw
              try dsimp only at hSw
              obtain ⟨s0, s1, s2, s3, s4, s5⟩ := hSw
              go_simp
              try with_reducible rfl
            try simp only [Act.put, List.setIfInBounds_toArray, List.set_cons_zero, List.set_cons_succ]
            refine tkH 15 (v := ?_) rfl (fun _ _ _ h => h) (Or.inl ⟨by rfl, ?_⟩) hH ?_
            rotate_left
            · intro w9 hSw
              try dsimp only at hSw
              obtain ⟨s0, s1, s2, s3, s4, s5⟩ := hSw
              go_simp
              try with_reducible rfl
            try simp only [Act.put, List.setIfInBounds_toArray, List.set_cons_zero, List.set_cons_succ]
            refine tkH 16 (v := ?_) rfl (fun _ _ _ h => h) (Or.inl ⟨by rfl, ?_⟩) hH ?_
            rotate_left
            · intro w9 hSw
              try dsimp only at hSw
              obtain ⟨s0, s1, s2, s3, s4, s5⟩ := hSw
              go_simp
              try with_reducible rfl
            try simp only [Act.put, List.setIfInBounds_toArray, List.set_cons_zero, List.set_cons_succ]
            refine tkH 17 (v := ?_) rfl (fun _ _ _ h => h) (Or.inl ⟨by rfl, ?_⟩) hH ?_
            rotate_left
            · intro w9 hSw
              try dsimp only at hSw
              obtain ⟨s0, s1, s2, s3, s4, s5⟩ := hSw
              go_simp
              try with_reducible rfl
            try simp only [Act.put, List.setIfInBounds_toArray, List.set_cons_zero, List.set_cons_succ]
            refine tkH 18 (v := undef) rfl (fun _ _ _ h => h) (Or.inr ⟨by rfl, rfl⟩) hH ?_
            try simp only [Act.put, List.setIfInBounds_toArray, List.set_cons_zero, List.set_cons_succ]
            refine tkH 19 (v := undef) rfl (fun _ _ _ h => h) (Or.inr ⟨by rfl, rfl⟩) hH ?_
            try simp only [Act.put, List.setIfInBounds_toArray, List.set_cons_zero, List.set_cons_succ]
            refine tkH 20 (v := undef) rfl (fun _ _ _ h => h) (Or.inr ⟨by rfl, rfl⟩) hH ?_
            try simp only [Act.put, List.setIfInBounds_toArray, List.set_cons_zero, List.set_cons_succ]
            refine tkH 21 (v := undef) rfl (fun _ _ _ h => h) (Or.inr ⟨by rfl, rfl⟩) hH ?_
            try simp only [Act.put, List.setIfInBounds_toArray, List.set_cons_zero, List.set_cons_succ]
            refine tkH 22 (v := ?_) rfl (fun _ _ _ h => h) (Or.inl ⟨by rfl, ?_⟩) hH ?_
            rotate_left
            · intro w9 hSw
              try dsimp only at hSw
              obtain ⟨s0, s1, s2, s3, s4, s5⟩ := hSw
              go_simp
              try with_reducible rfl
            try simp only [Act.put, List.setIfInBounds_toArray, List.set_cons_zero, List.set_cons_succ]
            refine tkH 23 (v := ?_) rfl (fun _ _ _ h => h) (Or.inl ⟨by rfl, ?_⟩) hH ?_
            rotate_left
            · intro w9 hSw
              try dsimp only at hSw
              obtain ⟨s0, s1, s2, s3, s4, s5⟩ := hSw
              go_simp
              try with_reducible rfl
            try simp only [Act.put, List.setIfInBounds_toArray, List.set_cons_zero, List.set_cons_succ]
            refine tkH 24 (v := undef) rfl (fun _ _ _ h => h) (Or.inr ⟨by rfl, rfl⟩) hH ?_
            try simp only [Act.put, List.setIfInBounds_toArray, List.set_cons_zero, List.set_cons_succ]
            refine tkH 25 (v := undef) rfl (fun _ _ _ h => h) (Or.inr ⟨by rfl, rfl⟩) hH ?_
            try simp only [Act.put, List.setIfInBounds_toArray, List.set_cons_zero, List.set_cons_succ]
            refine tkH 26 (v := undef) rfl (fun _ _ _ h => h) (Or.inr ⟨by rfl, rfl⟩) hH ?_
            try simp only [Act.put, List.setIfInBounds_toArray, List.set_cons_zero, List.set_cons_succ]
            refine tkH 27 (v := ?_) rfl (fun _ _ _ h => h) (Or.inl ⟨by rfl, ?_⟩) hH ?_
            rotate_left
            · intro w9 hSw
              try dsimp only at hSw
              obtain ⟨s0, s1, s2, s3, s4, s5⟩ := hSw
              go_simp
              try with_reducible rfl
            try simp only [Act.put, List.setIfInBounds_toArray, List.set_cons_zero, List.set_cons_succ]
            refine wpAnyH_done (by kernel_rfl) ?_ _
            go_wp2
            go_ret
            exact ⟨ret_bool hE.out.symm, hW.trans ((hB.trans (((Below.refl _ _).drew.trans hb5).mono hs)).mono hW.size)⟩
      · obtain rfl : k = l.length := by omega
        have hE : Hid ((decide (l.length ≤ 500) && runK n gp l l.length) = true) := by show _ = _; simp [h5, hK.out]
        go_wp2
        go_ret
        exact ⟨ret_bool hE.out.symm, hW.trans (hB.mono hW.size)⟩
  · have h5b : decide (500 < (l.length : Int)) = true := by simp; omega
    have hE : Hid ((decide (l.length ≤ 500) && runK n gp l l.length) = false) := by show _ = _; simp [h5]
    go_enter Tryd.func71, Tryd.ntmps71
    go_wp2
    go_ret
    exact ⟨ret_bool hE.out.symm, (by repeat (first | exact Below.refl _ _ | assumption | refine Below.drew ?_ | refine Below.alloc ?_ (by simp <;> omega) _ | refine Below.setCell ?_ (by simp <;> omega) _))⟩
end Go.Proofs.YtlppfcamlggcnaaDoor
