/-
  The walk of the program's search of a better circuit.
-/
import Derived.Test.YtcoomogabicfnaaCirQ
import Derived.Test.YtcoomogabicfnaaDist
import Derived.Test.YtcoomogabicfnaaRev
namespace Go.Proofs.Ytcoomogabicfnaa
open Go.RowKit
set_option linter.unusedVariables false
set_option linter.unusedSimpArgs false
def sliceLen : Value → Nat
  | .slice _ l _ => l
  | _ => 0
theorem two_nn {a b : Nat} {u : Value} {c d : Nat} (h : a ≠ b) : (Value.slice (some ⟨a, 0, none⟩) c d).ownBlock = some b → False := by intro e; injection e with e; exact h e
/-- The state of the rounds. -/
def BfS (n : Nat) (gp : List Place) (a b : Int) (k i T : Nat) (S : Bf) : Prop := BfOk gp.length (fun j => (pl gp j).src.toNat) (fun j => (pl gp j).dst.toNat) (fun j => wgt a b (pl gp j)) 2000000000 k i T S ∧ T ≤ (k - 1) * 30 + i
def byI (S : Bf) : Nat → Int := fun v => (S.by_ v : Int)
theorem bfS_step {n : Nat} {gp : List Place} {a b : Int} {k i T : Nat} {S : Bf} (hg : okGraph n gp = true) (ha : -1000000 ≤ a ∧ a ≤ 1000000) (hb : 1 ≤ b ∧ b ≤ 1000000) (h : BfS n gp a b k i T S) (hi : i < gp.length) :
    BfS n gp a b k (i + 1) (T + 1) (relaxB (fun j => (pl gp j).src.toNat) (fun j => (pl gp j).dst.toNat) (fun j => wgt a b (pl gp j)) k T i S) := by
  refine ⟨h.1.step _ _ _ _ _ (fun j hj => ?_) (by omega) hi, by have := h.2; omega⟩
  have hp := okGraph_place hg (pl_mem hj)
  obtain ⟨⟨p1, p2⟩, q1, q2⟩ := wgt_le ha hb hp.2.2.1 hp.2.2.2
  show wgt a b (pl gp j) ≤ 2000000000
  unfold wgt
  omega
theorem bfS_next {n : Nat} {gp : List Place} {a b : Int} {k T : Nat} {S : Bf} (hgl : gp.length ≤ 30) (hk : 1 ≤ k) (h : BfS n gp a b k gp.length T S) : BfS n gp a b (k + 1) 0 T S := by
  refine ⟨h.1.next _ _ _ _ _, ?_⟩
  have := h.2
  have e : (k + 1 - 1) * 30 = (k - 1) * 30 + 30 := by omega
  omega
theorem map_updF1 (n d : Nat) (D : Nat → Int) (x : Int) : ((List.range n).map D).set d x = (List.range n).map (updF1 D d x) := map_updD n d D x
theorem map_byI (n d j : Nat) (S : Bf) (B : Nat → Int) (R TM : Nat → Nat) : ((List.range n).map (byI S)).set d (j : Int) = (List.range n).map (byI ⟨B, updF1 S.by_ d j, R, TM⟩) := by
  rw [map_updD]
  refine List.map_congr_left fun v _ => ?_
  show updD (byI S) d j v = ((updF1 S.by_ d j v : Nat) : Int)
  unfold updD updF1 byI
  split <;> rfl
set_option maxHeartbeats 8000000 in
set_option maxRecDepth 100000 in
theorem impl_betterCircuit (v : Value) (n : Nat) (gp : List Place) (a b : Int) (w : World) (h0 : Lst Place.cells 4 w w.heap.size v gp) (hg : Hid (okGraph n gp = true)) (ha : -1000000 ≤ a ∧ a ≤ 1000000) (hb : 1 ≤ b ∧ b ≤ 1000000) :
    Calls Try.prog 69 #[.agg #[.int .i64 n, v], .agg #[.int .i64 a, .int .i64 b]] w fun e w' => ∃ u m, e = .returned u ∧ Own intCell 1 2 w' w.heap.size u (ints m) ∧ Hid ((m = [] ∧ u = .slice none 0 0 ∧ ¬ OverC gp a b 0) ∨ (m ≠ [] ∧ circuitB gp (ints m) = true ∧ 0 < cwL a b gp (ints m))) ∧ Below w.heap.size w w' := by
  obtain ⟨A, c, rfl⟩ := h0.shape
  obtain ⟨hn1, hn2⟩ := okGraph_ev hg.out
  have hgl := okGraph_len hg.out
  have hmk2 := run_make_lst (P := Try.prog) intCell 1 intCell_len (by omega) (0 : Int) 50 2 _ 8 Try.underlying50 info_i64 rfl .i64 .i64 n (by omega) (by omega)
  have hm3 := fun w => (hmk2 w).1
  have hm4 := Lib.hid (fun w base h => (hmk2 w).2 base h)
  clear hmk2
  go_enter Try.func69, Try.ntmps69
  go_wp2
  clear hm3
  have hsz : w.heap.size + 1 + 1 = ((w.alloc (.cells #[.int .i64 (n : Int), .slice A gp.length c] 26)).alloc (.cells #[.int .i64 a, .int .i64 b] 37)).heap.size := by simp
  rw [hsz]
  clear hsz
  have hW : Below w.heap.size w ((w.alloc (.cells #[.int .i64 (n : Int), .slice A gp.length c] 26)).alloc (.cells #[.int .i64 a, .int .i64 b] 37)) := (((Below.refl _ _).alloc (Nat.le_refl _) _).alloc (by first | (simp; done) | (simp; omega)) _); have hb0 : Blk ((w.alloc (.cells #[.int .i64 (n : Int), .slice A gp.length c] 26)).alloc (.cells #[.int .i64 a, .int .i64 b] 37)) (w.heap.size) 26 #[.int .i64 (n : Int), .slice A gp.length c] := ((Blk.newAt w _ (by first | rfl | (simp; done) | (simp; omega))).alloc _); have hb1 : Blk ((w.alloc (.cells #[.int .i64 (n : Int), .slice A gp.length c] 26)).alloc (.cells #[.int .i64 a, .int .i64 b] 37)) (w.heap.size + 1) 37 #[.int .i64 a, .int .i64 b] := (Blk.newAt (w.alloc (.cells #[.int .i64 (n : Int), .slice A gp.length c] 26)) _ (by first | rfl | (simp; done) | (simp; omega))); replace h0 := h0.now hW; have hsW : w.heap.size + 2 = ((w.alloc (.cells #[.int .i64 (n : Int), .slice A gp.length c] 26)).alloc (.cells #[.int .i64 a, .int .i64 b] 37)).heap.size := (by first | rfl | (simp; done) | (simp; omega)); generalize ((w.alloc (.cells #[.int .i64 (n : Int), .slice A gp.length c] 26)).alloc (.cells #[.int .i64 a, .int .i64 b] 37)) = W at *; replace hsW := Lib.hid hsW
  have hO1 := hm4.out W W.heap.size (Nat.le_refl _)
  have hA1 : Below W.heap.size W (W.alloc (.cells (madeCells (intCell 0).toArray (n * 1)) 2)) := (Below.refl _ _).alloc (Nat.le_refl _) _
  have hO2 := hm4.out (W.alloc (.cells (madeCells (intCell 0).toArray (n * 1)) 2)) W.heap.size (by simp)
  have hA2 : Below W.heap.size W ((W.alloc (.cells (madeCells (intCell 0).toArray (n * 1)) 2)).alloc (.cells (madeCells (intCell 0).toArray (n * 1)) 2)) := hA1.alloc (by simp) _
  replace hO1 := hO1.now ((Below.refl _ (W.alloc (.cells (madeCells (intCell 0).toArray (n * 1)) 2))).alloc (Nat.le_refl _) (.cells (madeCells (intCell 0).toArray (n * 1)) 2))
  have hz : List.replicate n (0 : Int) = (List.range n).map (fun _ => (0 : Int)) := by simp [List.map_const']
  rw [hz] at hO1 hO2
  have hsz2 : (W.alloc (.cells (madeCells (intCell 0).toArray (n * 1)) 2)).heap.size = W.heap.size + 1 := by simp
  rw [hsz2] at hO2
  rw [Nat.mul_one] at hO1 hO2 hA2
  clear hA1 hz hsz2 hm4
  generalize ((W.alloc (.cells (madeCells (intCell 0).toArray n) 2)).alloc (.cells (madeCells (intCell 0).toArray n) 2)) = V at *
  have hst : Hid (BfS n gp a b (0 + 1) 0 0 ⟨fun _ => 0, fun _ => 0, fun _ => 0, fun _ => 0⟩) := ⟨BfOk.start _ _ _ _ _, by omega⟩
  go_loopw [7, 8, 9, 10, 22] (fun la _ _ _ q wr => ∃ (k T : Nat) (S : Bf) (lv : Int), k ≤ n + 1 ∧ q = .int .i64 k ∧ la = .int .i64 lv ∧ Hid (BfS n gp a b (k + 1) 0 T S) ∧ Hid (k = 0 ∨ ∃ x : Nat, x < n ∧ lv = x ∧ S.r x = k) ∧ Own intCell 1 2 wr W.heap.size (.slice (some ⟨W.heap.size, 0, none⟩) n n) ((List.range n).map S.best) ∧ Own intCell 1 2 wr W.heap.size (.slice (some ⟨W.heap.size + 1, 0, none⟩) n n) ((List.range n).map (byI S)) ∧ Below W.heap.size W wr) (fun _ _ _ _ q _ => n + 1 - (intOf q).toNat)
  case atStart => exact ⟨0, 0, _, -1, Nat.zero_le _, rfl, rfl, hst, .inl rfl, hO1, hO2, hA2⟩
  case round =>
    clear hst hO1 hO2 hA2
    obtain ⟨k, T0, S0, lv0, hk, rfl, rfl, hS0, hl0, hO1, hO2, hB⟩ := hrel
    by_cases hlt : k < n + 1
    · obtain ⟨k0, k1⟩ := (hb0.now hB).c2
      have l0 := (hb0.now hB).lt
      have hlt' : (k : Int) < (n : Int) + 1 := by omega
      go_wp2
      clear k0 k1 l0 hlt'
      go_loopw [7, 8, 9, 10, 27] (fun la _ _ _ q wr => ∃ (j T : Nat) (S : Bf) (lv : Int), j ≤ gp.length ∧ q = .int .i64 j ∧ la = .int .i64 lv ∧ Hid (BfS n gp a b (k + 1) j T S) ∧ Hid ((lv = -1 ∧ ∀ i, i < j → S.best (pl gp i).src.toNat + wgt a b (pl gp i) ≤ S.best (pl gp i).dst.toNat) ∨ ∃ x : Nat, x < n ∧ lv = x ∧ S.r x = k + 1) ∧ Own intCell 1 2 wr W.heap.size (.slice (some ⟨W.heap.size, 0, none⟩) n n) ((List.range n).map S.best) ∧ Own intCell 1 2 wr W.heap.size (.slice (some ⟨W.heap.size + 1, 0, none⟩) n n) ((List.range n).map (byI S)) ∧ Below W.heap.size W wr) (fun _ _ _ _ q _ => gp.length - (intOf q).toNat)
      case atStart => exact ⟨0, T0, S0, -1, Nat.zero_le _, rfl, rfl, hS0, .inl ⟨rfl, fun i hi => absurd hi (by omega)⟩, hO1, hO2, hB⟩
      case round =>
        clear hO1 hO2 hB hS0 hl0
        obtain ⟨j, T, S, lv, hj, rfl, rfl, hS, hl, hO1, hO2, hB⟩ := hrel
        by_cases hlt2 : j < gp.length
        · obtain ⟨b0, off, hA0, hbb, d0, d1, d2, d3⟩ := places_at (h0.now hB) j hlt2
          cases hA0
          have hp := okGraph_place hg.out (List.getElem_mem hlt2)
          obtain ⟨s, hs0⟩ := Int.eq_ofNat_of_zero_le hp.1.1
          obtain ⟨d, hd0⟩ := Int.eq_ofNat_of_zero_le hp.2.1.1
          have hsn : s < n := by omega
          have hdn : d < n := by omega
          obtain ⟨dl, hdl⟩ : ∃ dl, gp[j].delay = dl := ⟨_, rfl⟩
          obtain ⟨tk, htk⟩ : ∃ tk, gp[j].tokens = tk := ⟨_, rfl⟩
          have hpj : pl gp j = ⟨s, d, dl, tk⟩ := by rw [pl_at hlt2, ← hdl, ← htk, ← hs0, ← hd0]
          have hpd := hp.2.2.1
          have hpt := hp.2.2.2
          rw [hdl] at d2 hpd
          rw [htk] at d3 hpt
          rw [hs0] at d0
          rw [hd0] at d1
          have hwb := wgt_le (p := ⟨s, d, dl, tk⟩) ha hb hpd hpt
          obtain ⟨wv, hwvd⟩ : ∃ wv, wgt a b ⟨s, d, dl, tk⟩ = wv := ⟨_, rfl⟩
          have hwr : -10000000 ≤ wv ∧ wv ≤ 2000000000 := by rw [← hwvd]; unfold wgt; simp only at hwb ⊢; omega
          have hwv := Lib.hid hwvd
          have hbnd := hS.out.1.bnd s
          have hTb := hS.out.2
          have hstep := Lib.hid (bfS_step hg.out ha hb hS.out hlt2)
          have hpjH := Lib.hid hpj
          clear hwvd hs0 hd0 hdl htk hpj hp hwb
          obtain ⟨_, hol, hof, hcs⟩ := own_ints_at hO1 s (by simpa using hsn)
          obtain ⟨_, _, _, hcd⟩ := own_ints_at hO1 d (by simpa using hdn)
          rw [List.getElem_map, List.getElem_range] at hcs hcd
          obtain ⟨xs, hxs⟩ : ∃ xs, S.best s = xs := ⟨_, rfl⟩
          obtain ⟨xd, hxd⟩ : ∃ xd, S.best d = xd := ⟨_, rfl⟩
          rw [hxs] at hcs hbnd
          rw [hxd] at hcd
          have hxs' := Lib.hid hxs
          have hxd' := Lib.hid hxd
          have hT9 : T ≤ 400 := by omega
          have hT8 : (T : Int) * 2000000000 ≤ 800000000000 := by omega
          have wx : IntKind.i64.wrap (xs + wv) = xs + wv := IntWalk.i64_in _ (by omega)
          clear hxs hxd hTb hbnd hT9 hT8 hwr
          have hbxn : W.heap.size + 1 < wr.heap.size := (hO2.lt (W.heap.size + 1) rfl).2
          have hA1 : Below wr.heap.size wr (wr.alloc (.cells #[.int .i64 s, .int .i64 d, .int .i64 dl, .int .i64 tk] 46)) := (Below.refl _ _).alloc (Nat.le_refl _) _
          have i1 : (0 : Int) ≤ (s : Int) := by omega
          have i2 : (s : Int) < (n : Int) := by omega
          have i3 : (0 : Int) ≤ (d : Int) := by omega
          have i4 : (d : Int) < (n : Int) := by omega
          go_wp2_with fail
          have hbx := Blk.newAt wr (t := 46) (cs := #[.int .i64 s, .int .i64 d, .int .i64 dl, .int .i64 tk]) _ rfl
          replace hcs := cell_keep hcs hA1
          replace hcd := cell_keep hcd hA1
          replace hO1 := hO1.now hA1
          replace hO2 := hO2.now hA1
          replace hB := hB.trans (hA1.mono hB.size)
          clear d0 d1 d2 d3 hbb hA1 hof hol
          generalize wr.alloc (.cells #[.int .i64 s, .int .i64 d, .int .i64 dl, .int .i64 tk] 46) = V1 at *
          generalize wr.heap.size = bx at *
          obtain ⟨c0, c1', c2, c3⟩ := hbx.c4
          have hBd : Below V1.heap.size V1 V1.drew := Below.drew (Below.refl _ V1)
          have hrb := hb1.now hB
          obtain ⟨q0, q1⟩ := hrb.c2
          have z0 := cell_keep c0 hBd
          have z1 := cell_keep c1' hBd
          have z2 := cell_keep c2 hBd
          have z3 := cell_keep c3 hBd
          have z4 := cell_keep q0 hBd
          have z5 := cell_keep q1 hBd
          have z6 := cell_keep hcs hBd
          refine wp_region_held_drew (S := fun w' => w'.cell? ⟨bx, 0, none⟩ = some (.int .i64 (s : Nat)) ∧ w'.cell? ⟨bx, 1, none⟩ = some (.int .i64 (d : Nat)) ∧ w'.cell? ⟨bx, 2, none⟩ = some (.int .i64 dl) ∧ w'.cell? ⟨bx, 3, none⟩ = some (.int .i64 tk) ∧ w'.cell? ⟨w.heap.size + 1, 0, none⟩ = some (.int .i64 a) ∧ w'.cell? ⟨w.heap.size + 1, 1, none⟩ = some (.int .i64 b) ∧ w'.cell? ⟨W.heap.size, s, none⟩ = some (.int .i64 xs)) (by kernel_rfl) ⟨z0, z1, z2, z3, z4, z5, z6⟩ (fun hH => ?_)
          refine tkH 0 (v := ?_) rfl (fun _ _ _ h => h) (Or.inl ⟨by rfl, ?_⟩) hH ?_
          rotate_left
          · intro w9 hSw
            try dsimp only at hSw
            obtain ⟨s0, s1, s2, s3, s4, s5, s6⟩ := hSw
            go_simp
            try with_reducible rfl
          try simp only [Act.put, List.setIfInBounds_toArray, List.set_cons_zero, List.set_cons_succ]
          refine tkH 1 (v := ?_) rfl (fun _ _ _ h => h) (Or.inl ⟨by rfl, ?_⟩) hH ?_
          rotate_left
          · intro w9 hSw
            try dsimp only at hSw
            obtain ⟨s0, s1, s2, s3, s4, s5, s6⟩ := hSw
            go_simp
            try with_reducible rfl
          try simp only [Act.put, List.setIfInBounds_toArray, List.set_cons_zero, List.set_cons_succ]
          refine tkH 2 (v := ?_) rfl (fun _ _ _ h => h) (Or.inl ⟨by rfl, ?_⟩) hH ?_
          rotate_left
          · intro w9 hSw
            try dsimp only at hSw
            obtain ⟨s0, s1, s2, s3, s4, s5, s6⟩ := hSw
            go_simp
            try with_reducible rfl
          try simp only [Act.put, List.setIfInBounds_toArray, List.set_cons_zero, List.set_cons_succ]
          refine tkH 3 (v := ?_) rfl (fun _ _ _ h => h) (Or.inl ⟨by rfl, ?_⟩) hH ?_
          rotate_left
          · intro w9 hSw
            try dsimp only at hSw
            obtain ⟨s0, s1, s2, s3, s4, s5, s6⟩ := hSw
            go_simp
            try with_reducible rfl
          try simp only [Act.put, List.setIfInBounds_toArray, List.set_cons_zero, List.set_cons_succ]
          refine tkH 4 (v := ?_) rfl (fun _ _ _ h => h) (Or.inl ⟨by rfl, ?_⟩) hH ?_
          rotate_left
          · intro w9 hSw
            try dsimp only at hSw
            obtain ⟨s0, s1, s2, s3, s4, s5, s6⟩ := hSw
            go_simp
            try with_reducible rfl
          try simp only [Act.put, List.setIfInBounds_toArray, List.set_cons_zero, List.set_cons_succ]
          refine tkH 5 (v := ?_) rfl (fun _ _ _ h => h) (Or.inl ⟨by rfl, ?_⟩) hH ?_
          rotate_left
          · intro w9 hSw
            try dsimp only at hSw
            obtain ⟨s0, s1, s2, s3, s4, s5, s6⟩ := hSw
            go_simp
            try with_reducible rfl
          try simp only [Act.put, List.setIfInBounds_toArray, List.set_cons_zero, List.set_cons_succ]
          refine tkH 6 (v := ?_) rfl (fun _ _ _ h => h) (Or.inl ⟨by rfl, ?_⟩) hH ?_
          rotate_left
          · intro w9 hSw
            try dsimp only at hSw
            obtain ⟨s0, s1, s2, s3, s4, s5, s6⟩ := hSw
            go_simp
            try with_reducible rfl
          try simp only [Act.put, List.setIfInBounds_toArray, List.set_cons_zero, List.set_cons_succ]
          refine wpAnyH_ready (rs := [7]) (by kernel_rfl) (by simp) ?_
          refine AllReadyH.cons rfl (fun K hK => ?_) AllReadyH.nil
          go_simp
          go_at_call 93
          refine (impl_placeWeight ⟨s, d, dl, tk⟩ a b V1.drew ha hb hpd hpt).mono ?_
          rintro e8 w8 ⟨rfl, hBy⟩
          rw [hwv.out]
          have z0a := cell_keep (w := V1.drew) z0 hBy
          have z1a := cell_keep (w := V1.drew) z1 hBy
          have z2a := cell_keep (w := V1.drew) z2 hBy
          have z3a := cell_keep (w := V1.drew) z3 hBy
          have z4a := cell_keep (w := V1.drew) z4 hBy
          have z5a := cell_keep (w := V1.drew) z5 hBy
          have z6a := cell_keep (w := V1.drew) z6 hBy
          refine hK.out _ _ ⟨z0a, z1a, z2a, z3a, z4a, z5a, z6a⟩ (fun hH => ?_)
          clear hK K
          try simp only [Act.put, List.setIfInBounds_toArray, List.set_cons_zero, List.set_cons_succ]
          refine tkH 8 (v := ?_) rfl (fun _ _ _ h => h) (Or.inl ⟨by rfl, ?_⟩) hH ?_
          rotate_left
          · intro w9 hSw
            try dsimp only at hSw
            obtain ⟨s0, s1, s2, s3, s4, s5, s6⟩ := hSw
            go_simp
            try with_reducible rfl
          try simp only [Act.put, List.setIfInBounds_toArray, List.set_cons_zero, List.set_cons_succ]
          refine tkH 9 (v := ?_) rfl (fun _ _ _ h => h) (Or.inl ⟨by rfl, ?_⟩) hH ?_
          rotate_left
          · intro w9 hSw
            try dsimp only at hSw
            obtain ⟨s0, s1, s2, s3, s4, s5, s6⟩ := hSw
            go_simp
            try with_reducible rfl
          try simp only [Act.put, List.setIfInBounds_toArray, List.set_cons_zero, List.set_cons_succ]
          refine wpAnyH_done (by kernel_rfl) ?_ _
          have hBV : Below V1.heap.size V1 w8 := hBd.trans (hBy.mono hBd.size)
          replace hO1 := hO1.now hBV
          replace hO2 := hO2.now hBV
          replace hB := hB.trans (hBV.mono hB.size)
          replace hcd := cell_keep hcd hBV
          replace hbx := hbx.now hBV
          clear hH z0 z1 z2 z3 z4 z5 z6 z0a z1a z2a z3a z4a z5a z6a hBy hBd hBV c0 c1' c2 c3 q0 q1 hrb hcs
          obtain ⟨V2, hV2⟩ : ∃ V2, w8 = V2 := ⟨_, rfl⟩
          rw [hV2] at hO1 hO2 hB hcd hbx ⊢
          clear hV2
          obtain ⟨c0, c1', c2, c3⟩ := hbx.c4
          have lx := hbx.lt
          by_cases hw : xd < xs + wv
          · have hn2 : relaxB (fun j => (pl gp j).src.toNat) (fun j => (pl gp j).dst.toNat) (fun j => wgt a b (pl gp j)) (k + 1) T j S = ⟨updF1 S.best d (xs + wv), updF1 S.by_ d j, updF1 S.r d (k + 1), updF1 S.tm d (T + 1)⟩ := by
              unfold relaxB
              simp only [hpjH.out, Int.toNat_natCast, hxs'.out, hxd'.out, hwv.out]
              rw [if_pos hw]
            have hst2 := hstep.out
            rw [hn2] at hst2
            have hst3 := Lib.hid hst2
            clear hst2 hn2 hstep
            go_wp2
            have hBd : Below V2.heap.size V2 V2.drew := Below.drew (Below.refl _ V2)
            have e1 := cell_keep c1' hBd
            obtain ⟨_, hol2, hof2, hcl2⟩ := own_ints_at hO2 d (by simpa using hdn)
            replace hO1 := hO1.now hBd
            replace hO2 := hO2.now hBd
            replace hB := hB.trans (hBd.mono hB.size)
            have lx3 : bx < V2.drew.heap.size := lx
            clear c0 c1' c2 c3 lx hcd hBd
            have hP1 := hO1.set1 d (by simpa using hdn) (xs + wv)
            have hP2 : Own intCell 1 2 _ W.heap.size (.slice (some ⟨W.heap.size + 1, 0, none⟩) n n) ((List.range n).map (byI S)) := own_far hO2 (p := ⟨W.heap.size, d, none⟩) (by intro e; injection e with e; simp only at e; omega) (.int .i64 (xs + wv))
            have hB4 := hB.setCell (p := ⟨W.heap.size, d, none⟩) (Nat.le_refl _) (.int .i64 (xs + wv))
            have e4 : (V2.drew.setCell ⟨W.heap.size, d, none⟩ (.int .i64 (xs + wv))).cell? ⟨bx, 1, none⟩ = some (.int .i64 (d : Nat)) := (World.cell?_setCell_far V2.drew ⟨W.heap.size, d, none⟩ ⟨bx, 1, none⟩ _ (by show W.heap.size ≠ bx; omega)).trans e1
            have hQ1 : Own intCell 1 2 _ W.heap.size (.slice (some ⟨W.heap.size, 0, none⟩) n n) (((List.range n).map S.best).set d (xs + wv)) := own_far hP1 (p := ⟨W.heap.size + 1, d, none⟩) (by intro e; injection e with e; simp only at e; omega) (.int .i64 (j : Int))
            have hQ2 := hP2.set1 d (by simpa using hdn) (j : Int)
            have hB5 := hB4.setCell (p := ⟨W.heap.size + 1, d, none⟩) (by simp) (.int .i64 (j : Int))
            have e5 : ((V2.drew.setCell ⟨W.heap.size, d, none⟩ (.int .i64 (xs + wv))).setCell ⟨W.heap.size + 1, d, none⟩ (.int .i64 (j : Int))).cell? ⟨bx, 1, none⟩ = some (.int .i64 (d : Nat)) := (World.cell?_setCell_far _ ⟨W.heap.size + 1, d, none⟩ ⟨bx, 1, none⟩ _ (by show W.heap.size + 1 ≠ bx; omega)).trans e4
            obtain ⟨_, hol1, hof1, _⟩ := own_ints_at hO1 d (by simpa using hdn)
            rw [map_updF1] at hQ1
            rw [map_byI n d j S (updF1 S.best d (xs + wv)) (updF1 S.r d (k + 1)) (updF1 S.tm d (T + 1))] at hQ2
            have hQ1' := Lib.hid hQ1
            have hQ2' := Lib.hid hQ2
            have hB5' := Lib.hid hB5
            clear hP1 hP2 hB4 hQ1 hQ2 hB5 hO1 hO2 hB hbxn hbx
            refine wp_region_held_drew (S := fun w' => w'.cell? ⟨bx, 1, none⟩ = some (.int .i64 (d : Nat))) (by kernel_rfl) e1 (fun hH => ?_)
            refine tkH 0 (v := ?_) rfl (fun _ _ _ h => h) (Or.inl ⟨by rfl, ?_⟩) hH ?_
            rotate_left
            · intro w9 hSw
              try dsimp only at hSw
              obtain s0 := hSw
              go_simp
              try with_reducible rfl
            try simp only [Act.put, List.setIfInBounds_toArray, List.set_cons_zero, List.set_cons_succ]
            refine tkH 1 (v := ?_) rfl (fun _ _ _ h => h) (Or.inl ⟨by rfl, ?_⟩) hH ?_
            rotate_left
            · intro w9 hSw
              try dsimp only at hSw
              obtain s0 := hSw
              go_simp
              try with_reducible rfl
            try simp only [Act.put, List.setIfInBounds_toArray, List.set_cons_zero, List.set_cons_succ]
            refine tkH 2 (v := ?_) rfl (fun _ _ _ h => h) (Or.inl ⟨by rfl, ?_⟩) hH ?_
            rotate_left
            · intro w9 hSw
              try dsimp only at hSw
              obtain s0 := hSw
              go_simp
              try with_reducible rfl
            try simp only [Act.put, List.setIfInBounds_toArray, List.set_cons_zero, List.set_cons_succ]
            refine tkH 3 (v := ?_) rfl (fun _ _ _ h => h) (Or.inl ⟨by rfl, ?_⟩) hH ?_
            rotate_left
            · intro w9 hSw
              try dsimp only at hSw
              obtain s0 := hSw
              go_simp
              try with_reducible rfl
            try simp only [Act.put, List.setIfInBounds_toArray, List.set_cons_zero, List.set_cons_succ]
            refine tkH 4 (v := ?_) rfl (fun _ _ _ h => h) (Or.inl ⟨by rfl, ?_⟩) hH ?_
            rotate_left
            · intro w9 hSw
              try dsimp only at hSw
              obtain s0 := hSw
              go_simp
              try with_reducible rfl
            try simp only [Act.put, List.setIfInBounds_toArray, List.set_cons_zero, List.set_cons_succ]
            refine tkH 5 (v := ?_) rfl (fun _ _ _ h => h) (Or.inl ⟨by rfl, ?_⟩) hH ?_
            rotate_left
            · intro w9 hSw
              try dsimp only at hSw
              obtain s0 := hSw
              go_simp
              try with_reducible rfl
            try simp only [Act.put, List.setIfInBounds_toArray, List.set_cons_zero, List.set_cons_succ]
            refine tkH 6 (v := ?_) rfl (fun _ _ _ h => h) (Or.inl ⟨by rfl, ?_⟩) hH ?_
            rotate_left
            · intro w9 hSw
              try dsimp only at hSw
              obtain s0 := hSw
              go_simp
              try with_reducible rfl
            try simp only [Act.put, List.setIfInBounds_toArray, List.set_cons_zero, List.set_cons_succ]
            refine tkH 7 (v := ?_) rfl (fun _ _ _ h => h) (Or.inl ⟨by rfl, ?_⟩) hH ?_
            rotate_left
            · intro w9 hSw
              try dsimp only at hSw
              obtain s0 := hSw
              go_simp
              try with_reducible rfl
            try simp only [Act.put, List.setIfInBounds_toArray, List.set_cons_zero, List.set_cons_succ]
            refine tkH 8 (v := ?_) rfl (fun _ _ _ h => h) (Or.inl ⟨by rfl, ?_⟩) hH ?_
            rotate_left
            · intro w9 hSw
              try dsimp only at hSw
              obtain s0 := hSw
              go_simp
              try with_reducible rfl
            try simp only [Act.put, List.setIfInBounds_toArray, List.set_cons_zero, List.set_cons_succ]
            refine tkH 9 (v := ?_) rfl (fun _ _ _ h => h) (Or.inl ⟨by rfl, ?_⟩) hH ?_
            rotate_left
            · intro w9 hSw
              try dsimp only at hSw
              obtain s0 := hSw
              go_simp
              try with_reducible rfl
            try simp only [Act.put, List.setIfInBounds_toArray, List.set_cons_zero, List.set_cons_succ]
            refine tkH 10 (v := ?_) rfl (fun _ _ _ h => h) (Or.inl ⟨by rfl, ?_⟩) hH ?_
            rotate_left
            · intro w9 hSw
              try dsimp only at hSw
              obtain s0 := hSw
              go_simp
              try with_reducible rfl
            try simp only [Act.put, List.setIfInBounds_toArray, List.set_cons_zero, List.set_cons_succ]
            refine wpAnyH_ready (rs := [11]) (by kernel_rfl) (by simp) ?_
            refine AllReadyH.cons rfl (fun K hK => ?_) AllReadyH.nil
            go_simp
            refine hK.out _ _ e4 (fun hH => ?_)
            clear hK K
            try simp only [Act.put, List.setIfInBounds_toArray, List.set_cons_zero, List.set_cons_succ]
            refine tkH 12 (v := ?_) rfl (fun _ _ _ h => h) (Or.inl ⟨by rfl, ?_⟩) hH ?_
            rotate_left
            · intro w9 hSw
              try dsimp only at hSw
              obtain s0 := hSw
              go_simp
              try with_reducible rfl
            try simp only [Act.put, List.setIfInBounds_toArray, List.set_cons_zero, List.set_cons_succ]
            refine wpAnyH_ready (rs := [13]) (by kernel_rfl) (by simp) ?_
            refine AllReadyH.cons rfl (fun K hK => ?_) AllReadyH.nil
            go_simp
            refine hK.out _ _ e5 (fun hH => ?_)
            clear hK K
            try simp only [Act.put, List.setIfInBounds_toArray, List.set_cons_zero, List.set_cons_succ]
            refine tkH 14 (v := ?_) rfl (fun _ _ _ h => h) (Or.inl ⟨by rfl, ?_⟩) hH ?_
            rotate_left
            · intro w9 hSw
              try dsimp only at hSw
              obtain s0 := hSw
              go_simp
              try with_reducible rfl
            try simp only [Act.put, List.setIfInBounds_toArray, List.set_cons_zero, List.set_cons_succ]
            refine wpAnyH_done (by kernel_rfl) ?_ _
            have hl2 : Hid (((d : Int) = -1 ∧ ∀ i, i < j + 1 → (updF1 S.best d (xs + wv)) (pl gp i).src.toNat + wgt a b (pl gp i) ≤ (updF1 S.best d (xs + wv)) (pl gp i).dst.toNat) ∨ ∃ x : Nat, x < n ∧ (d : Int) = x ∧ updF1 S.r d (k + 1) x = k + 1) := .inr ⟨d, hdn, rfl, updF1_at _ _ _⟩
            go_wp2
            go_roundw
            case rel =>
              exact ⟨j + 1, T + 1, _, d, hlt2, by go_num, rfl, hst3, hl2, hQ1'.out, hQ2'.out, hB5'.out⟩
            case measure => simp [intOf]; omega
          · have hn2 : relaxB (fun j => (pl gp j).src.toNat) (fun j => (pl gp j).dst.toNat) (fun j => wgt a b (pl gp j)) (k + 1) T j S = S := by
              unfold relaxB
              simp only [hpjH.out, Int.toNat_natCast, hxs'.out, hxd'.out, hwv.out]
              rw [if_neg hw]
            have hst2 := hstep.out
            rw [hn2] at hst2
            have hst3 := Lib.hid hst2
            have hl2 : Hid ((lv = -1 ∧ ∀ i, i < j + 1 → S.best (pl gp i).src.toNat + wgt a b (pl gp i) ≤ S.best (pl gp i).dst.toNat) ∨ ∃ x : Nat, x < n ∧ lv = x ∧ S.r x = k + 1) := by
              rcases hl.out with ⟨h1, h2⟩ | h1
              · refine .inl ⟨h1, fun i hi => ?_⟩
                by_cases e : i = j
                · subst e
                  simp only [hpjH.out, Int.toNat_natCast, hxs'.out, hxd'.out, hwv.out]
                  omega
                · exact h2 i (by omega)
              · exact .inr h1
            clear hst2 hn2 hstep hl
            go_wp2
            go_roundw
            case rel => exact ⟨j + 1, T + 1, S, lv, hlt2, by go_num, rfl, hst3, hl2, hO1, hO2, hB⟩
            case measure => simp [intOf]; omega
        · obtain rfl : j = gp.length := by omega
          rcases hl.out with ⟨rfl, hall⟩ | ⟨x, hx, rfl, hrx⟩
          · have hno : Hid (¬ OverC gp a b 0) := not_over hg.out S.best (fun i hi => hall i hi)
            clear hall hl
            go_wp2
            go_ret
            exact ⟨_, [], rfl, Own.nil, .inl ⟨rfl, rfl, hno.out⟩, hW.trans (hB.mono hW.size)⟩
          · have hnx := Lib.hid (bfS_next hgl (by omega) hS.out)
            have hrx' := Lib.hid hrx
            have hx0 : ¬ (x : Int) < 0 := by omega
            clear hl hrx
            go_wp2
            go_roundw
            case rel => exact ⟨k + 1, T, S, x, by omega, by go_num, rfl, hnx, .inr ⟨x, hx, rfl, hrx'.out⟩, hO1, hO2, hB⟩
            case measure => simp [intOf]; omega
    · obtain rfl : k = n + 1 := by omega
      obtain ⟨x, hx, rfl, hrx⟩ : ∃ x : Nat, x < n ∧ lv0 = x ∧ S0.r x = n + 1 := by
        rcases hl0.out with h | h
        · omega
        · exact h
      have hlen9 : ∀ j, j < gp.length → (pl gp j).src.toNat < n := fun j hj => by
        have := okGraph_place hg.out (pl_mem hj)
        omega
      obtain ⟨L, hL0, hLn, hLc, hLr⟩ := back_cycle hS0.out.1 (n := n) hlen9 x hx (by omega)
      have hpr := fun t => hS0.out.1.pred _ (hLr t)
      obtain ⟨E, hE⟩ : ∃ E, backB (fun j => (pl gp j).src.toNat) S0 x = E := ⟨_, rfl⟩
      rw [hE] at hLr hLc
      simp only [hE] at hpr
      have hE0 : E 0 = x := by rw [← hE]; rfl
      have hEn : Hid (∀ t, S0.by_ (E t) < gp.length ∧ (pl gp (S0.by_ (E t))).src = (E (t + 1) : Int)) := fun t => by
        have h1 : E (t + 1) = (pl gp (S0.by_ (E t))).src.toNat := by rw [← hE]; rfl
        have h2 := okGraph_place hg.out (pl_mem (hpr t).1)
        exact ⟨(hpr t).1, by omega⟩
      have hEl : Hid (∀ t, E t < n) := fun t => by
        cases t with
        | zero => rw [hE0]; exact hx
        | succ t =>
          have h1 : E (t + 1) = (pl gp (S0.by_ (E t))).src.toNat := by rw [← hE]; rfl
          rw [h1]
          exact hlen9 _ (hpr t).1
      have hEadd : Hid (∀ i, backB (fun j => (pl gp j).src.toNat) S0 (E n) i = E (n + i)) := fun i => by rw [← hE, ← back_add]
      have hcirc := Lib.hid (fun (t : Nat) (h1 : E (n + (t + 1)) = E n) (h2 : ∀ i, 0 < i → i < t + 1 → E (n + i) ≠ E n) => better_circ (a := a) (b := b) hS0.out.1 hg.out (E n) (t + 1) (by omega) (by rw [hEadd.out]; exact h1) (fun i hi hi2 => by rw [hEadd.out]; exact h2 i hi hi2) (fun i => by rw [hEadd.out]; exact hLr _))
      simp only [hEadd.out] at hcirc
      have hLc' := hLc
      rw [hEadd.out] at hLc'
      have hLcH := Lib.hid hLc'
      have hrow : Hid (∀ t, ∃ bv sv et : Nat, S0.by_ (E t) = bv ∧ E (t + 1) = sv ∧ E t = et ∧ et < n ∧ bv < gp.length ∧ (pl gp bv).src = (sv : Int)) := fun t => ⟨_, _, _, rfl, rfl, rfl, hEl.out t, (hEn.out t).1, (hEn.out t).2⟩
      clear hpr hLr hLc hLc' hE hlen9 hrx hS0 hl0 hO1 hEn
      have hE0' : Hid (E 0 = x) := hE0
      clear hE0
      obtain ⟨k0, k1⟩ := (hb0.now hB).c2
      have l0 := (hb0.now hB).lt
      go_wp2
      clear k0 k1 l0
      go_loopw [7, 66] (fun la q wr => ∃ t : Nat, t ≤ n ∧ q = .int .i64 t ∧ la = .int .i64 (E t : Nat) ∧ Own intCell 1 2 wr W.heap.size (.slice (some ⟨W.heap.size + 1, 0, none⟩) n n) ((List.range n).map (byI S0)) ∧ Below W.heap.size W wr) (fun _ q _ => n - (intOf q).toNat)
      case atStart => exact ⟨0, Nat.zero_le _, rfl, by rw [hE0'.out], hO2, hB⟩
      case round =>
        clear hO2 hB
        obtain ⟨t, ht, rfl, rfl, hY, hB⟩ := hrel
        by_cases hlt2 : t < n
        · obtain ⟨bv, sv, et, e1, e2, e3, hen, hbv, hsv⟩ := hrow.out t
          have e2H := Lib.hid e2
          rw [e3]
          obtain ⟨b0, off, hA0, hbb, d0, _, _, _⟩ := places_at (h0.now hB) bv hbv
          cases hA0
          rw [pl_at hbv] at hsv
          rw [hsv] at d0
          obtain ⟨_, _, _, hcy⟩ := own_ints_at hY et (by simpa using hen)
          rw [List.getElem_map, List.getElem_range] at hcy
          have hby : byI S0 et = (bv : Int) := by unfold byI; rw [← e3, e1]
          rw [hby] at hcy
          have i1 : (0 : Int) ≤ (et : Int) := by omega
          have i2 : (et : Int) < (n : Int) := by omega
          have i3 : (0 : Int) ≤ (bv : Int) := by omega
          have i4 : (bv : Int) < (gp.length : Int) := by omega
          have hBd : Below wr.heap.size wr wr.drew := Below.drew (Below.refl _ wr)
          obtain ⟨_, k1⟩ := (hb0.now hB).c2
          have z0 := cell_keep k1 hBd
          have z1 := cell_keep hcy hBd
          have z2 := cell_keep d0 hBd
          have hY' := Lib.hid (hY.now hBd)
          have hB' := Lib.hid (hB.trans (hBd.mono hB.size))
          clear e1 e2 e3 hsv hby hcy d0 k1 hY hB hbb
          go_wp2_with fail
          refine wp_region_held_drew (S := fun w' => w'.cell? ⟨w.heap.size, 1, none⟩ = some (.slice (some ⟨b0, off, none⟩) gp.length c) ∧ w'.cell? ⟨W.heap.size + 1, et, none⟩ = some (.int .i64 (bv : Nat)) ∧ w'.cell? ⟨b0, off + bv * 4, none⟩ = some (.int .i64 (sv : Nat))) (by kernel_rfl) ⟨z0, z1, z2⟩ (fun hH => ?_)
          refine tkH 0 (v := ?_) rfl (fun _ _ _ h => h) (Or.inl ⟨by rfl, ?_⟩) hH ?_
          rotate_left
          · intro w9 hSw
            try dsimp only at hSw
            obtain ⟨s0, s1, s2⟩ := hSw
            go_simp
            try with_reducible rfl
          try simp only [Act.put, List.setIfInBounds_toArray, List.set_cons_zero, List.set_cons_succ]
          refine tkH 1 (v := ?_) rfl (fun _ _ _ h => h) (Or.inl ⟨by rfl, ?_⟩) hH ?_
          rotate_left
          · intro w9 hSw
            try dsimp only at hSw
            obtain ⟨s0, s1, s2⟩ := hSw
            go_simp
            try with_reducible rfl
          try simp only [Act.put, List.setIfInBounds_toArray, List.set_cons_zero, List.set_cons_succ]
          refine tkH 2 (v := ?_) rfl (fun _ _ _ h => h) (Or.inl ⟨by rfl, ?_⟩) hH ?_
          rotate_left
          · intro w9 hSw
            try dsimp only at hSw
            obtain ⟨s0, s1, s2⟩ := hSw
            go_simp
            try with_reducible rfl
          try simp only [Act.put, List.setIfInBounds_toArray, List.set_cons_zero, List.set_cons_succ]
          refine tkH 3 (v := ?_) rfl (fun _ _ _ h => h) (Or.inl ⟨by rfl, ?_⟩) hH ?_
          rotate_left
          · intro w9 hSw
            try dsimp only at hSw
            obtain ⟨s0, s1, s2⟩ := hSw
            go_simp
            try with_reducible rfl
          try simp only [Act.put, List.setIfInBounds_toArray, List.set_cons_zero, List.set_cons_succ]
          refine tkH 4 (v := ?_) rfl (fun _ _ _ h => h) (Or.inl ⟨by rfl, ?_⟩) hH ?_
          rotate_left
          · intro w9 hSw
            try dsimp only at hSw
            obtain ⟨s0, s1, s2⟩ := hSw
            go_simp
            try with_reducible rfl
          try simp only [Act.put, List.setIfInBounds_toArray, List.set_cons_zero, List.set_cons_succ]
          refine tkH 5 (v := ?_) rfl (fun _ _ _ h => h) (Or.inl ⟨by rfl, ?_⟩) hH ?_
          rotate_left
          · intro w9 hSw
            try dsimp only at hSw
            obtain ⟨s0, s1, s2⟩ := hSw
            go_simp
            try with_reducible rfl
          try simp only [Act.put, List.setIfInBounds_toArray, List.set_cons_zero, List.set_cons_succ]
          refine tkH 6 (v := ?_) rfl (fun _ _ _ h => h) (Or.inl ⟨by rfl, ?_⟩) hH ?_
          rotate_left
          · intro w9 hSw
            try dsimp only at hSw
            obtain ⟨s0, s1, s2⟩ := hSw
            go_simp
            try with_reducible rfl
          try simp only [Act.put, List.setIfInBounds_toArray, List.set_cons_zero, List.set_cons_succ]
          refine tkH 7 (v := ?_) rfl (fun _ _ _ h => h) (Or.inl ⟨by rfl, ?_⟩) hH ?_
          rotate_left
          · intro w9 hSw
            try dsimp only at hSw
            obtain ⟨s0, s1, s2⟩ := hSw
            go_simp
            try with_reducible rfl
          try simp only [Act.put, List.setIfInBounds_toArray, List.set_cons_zero, List.set_cons_succ]
          refine tkH 8 (v := ?_) rfl (fun _ _ _ h => h) (Or.inl ⟨by rfl, ?_⟩) hH ?_
          rotate_left
          · intro w9 hSw
            try dsimp only at hSw
            obtain ⟨s0, s1, s2⟩ := hSw
            go_simp
            try with_reducible rfl
          try simp only [Act.put, List.setIfInBounds_toArray, List.set_cons_zero, List.set_cons_succ]
          refine tkH 9 (v := ?_) rfl (fun _ _ _ h => h) (Or.inl ⟨by rfl, ?_⟩) hH ?_
          rotate_left
          · intro w9 hSw
            try dsimp only at hSw
            obtain ⟨s0, s1, s2⟩ := hSw
            go_simp
            try with_reducible rfl
          try simp only [Act.put, List.setIfInBounds_toArray, List.set_cons_zero, List.set_cons_succ]
          refine wpAnyH_done (by kernel_rfl) ?_ _
          clear hH z0 z1 z2
          go_wp2
          go_roundw
          case rel => exact ⟨t + 1, hlt2, by go_num, by rw [e2H.out], hY'.out, hB'.out⟩
          case measure => simp [intOf]; omega
        · obtain rfl : t = n := by omega
          have hs2 : W.heap.size + 2 ≤ wr.heap.size := (hY.lt (W.heap.size + 1) rfl).2
          obtain ⟨un, hun⟩ : ∃ un, E t = un := ⟨_, rfl⟩
          have hunH := Lib.hid hun
          rw [hun]
          clear hun
          have hcast : ((t + 1 : Nat) : Int) = (t : Int) + 1 := by omega
          rw [hcast]
          clear hcast
          go_wp2
          go_loopw [11, 12] (fun ci at_ wr => ∃ (q : Nat) (CA : Option Addr) (cc : Nat), q < L ∧ at_ = .int .i64 (E (t + q) : Nat) ∧ ci = .slice CA q cc ∧ Own intCell 1 2 wr (W.heap.size + 2) (.slice CA q cc) (ints ((List.range q).map fun i => S0.by_ (E (t + i)))) ∧ Hid (∀ i, 0 < i → i ≤ q → E (t + i) ≠ E t) ∧ Own intCell 1 2 wr W.heap.size (.slice (some ⟨W.heap.size + 1, 0, none⟩) t t) ((List.range t).map (byI S0)) ∧ Below W.heap.size W wr) (fun ci _ _ => L - sliceLen ci)
          case atStart => exact ⟨0, none, 0, hL0, by rw [Nat.add_zero, hunH.out], rfl, Own.nil, fun i hi hi2 => absurd hi (by omega), hY, hB⟩
          case round =>
            clear hY hB hs2
            obtain ⟨q, CA, cc, hq, rfl, rfl, hC, hne, hY, hB⟩ := hrel
            have hs2 : W.heap.size + 2 ≤ wr.heap.size := (hY.lt (W.heap.size + 1) rfl).2
            obtain ⟨bv, sv, et, e1, e2, e3, hen, hbv, hsv⟩ := hrow.out (t + q)
            have e1H := Lib.hid e1
            have e2H := Lib.hid e2
            rw [e3]
            obtain ⟨b0, off, hA0, hbb, d0, _, _, _⟩ := places_at (h0.now hB) bv hbv
            cases hA0
            rw [pl_at hbv] at hsv
            rw [hsv] at d0
            obtain ⟨_, _, _, hcy⟩ := own_ints_at hY et (by simpa using hen)
            rw [List.getElem_map, List.getElem_range] at hcy
            have hby : byI S0 et = (bv : Int) := by unfold byI; rw [← e3, e1]
            have hbyH := Lib.hid hby
            have hsvH := Lib.hid hsv
            rw [hby] at hcy
            have i1 : (0 : Int) ≤ (et : Int) := by omega
            have i2 : (et : Int) < (t : Int) := by omega
            have i3 : (0 : Int) ≤ (bv : Int) := by omega
            have i4 : (bv : Int) < (gp.length : Int) := by omega
            have hLq : (ints ((List.range q).map fun i => S0.by_ (E (t + i)))).length = q := by rw [ints_len]; simp
            have hlen : (ints ((List.range q).map fun i => S0.by_ (E (t + i)))).length + [(bv : Int)].length ≤ 1099511627776 := by rw [hLq]; simp; omega
            have hLL : Hid ((ints ((List.range q).map fun i => S0.by_ (E (t + i))) ++ [(bv : Int)]).length = q + 1) := by show _ = _; rw [List.length_append, hLq]; rfl
            have hnx : Hid (ints ((List.range q).map fun i => S0.by_ (E (t + i))) ++ [(bv : Int)] = ints ((List.range (q + 1)).map fun i => S0.by_ (E (t + i)))) := by
              show _ = _
              rw [ints_snoc, List.range_succ, List.map_append, List.map_cons, List.map_nil, e1]
            have hZ : Below wr.heap.size wr (wr.alloc (.cells #[.int .i64 (bv : Int)] 2)) := (Below.refl _ _).alloc (Nat.le_refl _) _
            have hCz := Lib.hid (hC.now hZ)
            have hYz := Lib.hid (hY.now hZ)
            have hBz := Lib.hid (hB.trans (hZ.mono hB.size))
            have hCl := Lib.hid (fun k e => (hC.lt k e).1)
            have hsz := Lib.hid hZ.size
            clear e1 e2 e3 hsv hby hC hY hB hLq hZ
            go_wp2_with (at_builtin; refine wpList_append_lst rfl _ _ 50 rfl intCell 1 intCell_one (by omega) (W.heap.size + 2) 2 _ 8 Try.underlying50 info_i64 rfl _ _ rfl hCz.out _ _ _ _ [(bv : Int)] rfl (lst_new1 _ _ intCell_len _ _ _ _ rfl _ (by simp)) hlen (by omega) (Nat.le_trans hs2 hsz.out) ?_; intro v' w9 hO1 hG1 hD1; obtain ⟨V1, cv1, rfl⟩ := own_shape_n hO1 hLL.out)
            rw [hnx.out] at hO1
            have hY9 := own_kept hYz.out hG1 (fun k e1 e2 => by have h9 : W.heap.size + 1 = k := Option.some.inj e1; have := hCl.out k e2; omega)
            have hB9 := hBz.out.grown hG1 hBz.out.size (fun k e => by have := hCl.out k e; omega)
            clear hYz hBz hCl hsz hG1 hD1 hCz hnx hLL
            have hBd : Below w9.heap.size w9 w9.drew := Below.drew (Below.refl _ w9)
            obtain ⟨_, k1⟩ := (hb0.now hB9).c2
            have z0 := cell_keep k1 hBd
            have hcy : w9.cell? ⟨W.heap.size + 1, et, none⟩ = some (.int .i64 (bv : Nat)) := by
              obtain ⟨_, _, _, h9⟩ := own_ints_at hY9 et (by simpa using hen)
              rw [List.getElem_map, List.getElem_range] at h9
              rw [h9]
              exact congrArg (fun z => some (Value.int .i64 z)) hbyH.out
            have z1 := cell_keep hcy hBd
            have z2 := cell_keep (w' := w9.drew) (by
              obtain ⟨_, _, hA9, _, h9, _, _, _⟩ := places_at (h0.now hB9) bv hbv
              cases hA9
              rw [hsvH.out] at h9
              exact h9) hBd
            have hY' := Lib.hid (hY9.now hBd)
            have hC' := Lib.hid (hO1.now hBd)
            have hB' := Lib.hid (hB9.trans (hBd.mono hB9.size))
            clear hcy k1 hY9 hO1 hB9 hbb d0
            go_wp2_with fail
            refine wp_region_held_drew (S := fun w' => w'.cell? ⟨w.heap.size, 1, none⟩ = some (.slice (some ⟨b0, off, none⟩) gp.length c) ∧ w'.cell? ⟨W.heap.size + 1, et, none⟩ = some (.int .i64 (bv : Nat)) ∧ w'.cell? ⟨b0, off + bv * 4, none⟩ = some (.int .i64 (sv : Nat))) (by kernel_rfl) ⟨z0, z1, z2⟩ (fun hH => ?_)
            refine tkH 0 (v := ?_) rfl (fun _ _ _ h => h) (Or.inl ⟨by rfl, ?_⟩) hH ?_
            rotate_left
            · intro w9 hSw
              try dsimp only at hSw
              obtain ⟨s0, s1, s2⟩ := hSw
              go_simp
              try with_reducible rfl
            try simp only [Act.put, List.setIfInBounds_toArray, List.set_cons_zero, List.set_cons_succ]
            refine tkH 1 (v := ?_) rfl (fun _ _ _ h => h) (Or.inl ⟨by rfl, ?_⟩) hH ?_
            rotate_left
            · intro w9 hSw
              try dsimp only at hSw
              obtain ⟨s0, s1, s2⟩ := hSw
              go_simp
              try with_reducible rfl
            try simp only [Act.put, List.setIfInBounds_toArray, List.set_cons_zero, List.set_cons_succ]
            refine tkH 2 (v := ?_) rfl (fun _ _ _ h => h) (Or.inl ⟨by rfl, ?_⟩) hH ?_
            rotate_left
            · intro w9 hSw
              try dsimp only at hSw
              obtain ⟨s0, s1, s2⟩ := hSw
              go_simp
              try with_reducible rfl
            try simp only [Act.put, List.setIfInBounds_toArray, List.set_cons_zero, List.set_cons_succ]
            refine tkH 3 (v := ?_) rfl (fun _ _ _ h => h) (Or.inl ⟨by rfl, ?_⟩) hH ?_
            rotate_left
            · intro w9 hSw
              try dsimp only at hSw
              obtain ⟨s0, s1, s2⟩ := hSw
              go_simp
              try with_reducible rfl
            try simp only [Act.put, List.setIfInBounds_toArray, List.set_cons_zero, List.set_cons_succ]
            refine tkH 4 (v := ?_) rfl (fun _ _ _ h => h) (Or.inl ⟨by rfl, ?_⟩) hH ?_
            rotate_left
            · intro w9 hSw
              try dsimp only at hSw
              obtain ⟨s0, s1, s2⟩ := hSw
              go_simp
              try with_reducible rfl
            try simp only [Act.put, List.setIfInBounds_toArray, List.set_cons_zero, List.set_cons_succ]
            refine tkH 5 (v := ?_) rfl (fun _ _ _ h => h) (Or.inl ⟨by rfl, ?_⟩) hH ?_
            rotate_left
            · intro w9 hSw
              try dsimp only at hSw
              obtain ⟨s0, s1, s2⟩ := hSw
              go_simp
              try with_reducible rfl
            try simp only [Act.put, List.setIfInBounds_toArray, List.set_cons_zero, List.set_cons_succ]
            refine tkH 6 (v := ?_) rfl (fun _ _ _ h => h) (Or.inl ⟨by rfl, ?_⟩) hH ?_
            rotate_left
            · intro w9 hSw
              try dsimp only at hSw
              obtain ⟨s0, s1, s2⟩ := hSw
              go_simp
              try with_reducible rfl
            try simp only [Act.put, List.setIfInBounds_toArray, List.set_cons_zero, List.set_cons_succ]
            refine tkH 7 (v := ?_) rfl (fun _ _ _ h => h) (Or.inl ⟨by rfl, ?_⟩) hH ?_
            rotate_left
            · intro w9 hSw
              try dsimp only at hSw
              obtain ⟨s0, s1, s2⟩ := hSw
              go_simp
              try with_reducible rfl
            try simp only [Act.put, List.setIfInBounds_toArray, List.set_cons_zero, List.set_cons_succ]
            refine tkH 8 (v := ?_) rfl (fun _ _ _ h => h) (Or.inl ⟨by rfl, ?_⟩) hH ?_
            rotate_left
            · intro w9 hSw
              try dsimp only at hSw
              obtain ⟨s0, s1, s2⟩ := hSw
              go_simp
              try with_reducible rfl
            try simp only [Act.put, List.setIfInBounds_toArray, List.set_cons_zero, List.set_cons_succ]
            refine tkH 9 (v := ?_) rfl (fun _ _ _ h => h) (Or.inl ⟨by rfl, ?_⟩) hH ?_
            rotate_left
            · intro w9 hSw
              try dsimp only at hSw
              obtain ⟨s0, s1, s2⟩ := hSw
              go_simp
              try with_reducible rfl
            try simp only [Act.put, List.setIfInBounds_toArray, List.set_cons_zero, List.set_cons_succ]
            refine wpAnyH_done (by kernel_rfl) ?_ _
            clear hH z0 z1 z2 hBd
            have hun := hunH.out
            by_cases heq : sv = un
            · have hcc := hcirc.out q (by rw [show t + (q + 1) = t + q + 1 by omega, e2H.out, heq, hun]) (fun i hi hi2 => hne.out i hi (by omega))
              have hccH := Lib.hid hcc
              have hbq : ((sv : Int) == (un : Int)) = true := by rw [heq]; simp
              clear hcc heq hun
              go_wp2_with fail
              refine (slices_Reverse _ _ _ _ hC'.out (by rw [ints_len]; simp; omega)).mono ?_
              rintro e w10 ⟨rfl, hR, hG10⟩
              have hB10 := hB'.out.grown hG10 hB'.out.size (fun k e => by have := (hC'.out.lt k e).1; omega)
              have hR' : Own intCell 1 2 w10 w.heap.size (.slice V1 (q + 1) cv1) (ints (((List.range (q + 1)).map fun i => S0.by_ (E (t + i))).reverse)) := by
                have h9 := hR.rebase (show w.heap.size ≤ W.heap.size + 2 by have := hW.size; omega)
                unfold ints at h9 ⊢
                rw [List.map_reverse]
                exact h9
              have hRH := Lib.hid hR'
              have hBH := Lib.hid (hW.trans (hB10.mono hW.size))
              clear hR hR' hG10 hB10
              go_wp2
              go_ret
              exact ⟨_, _, rfl, hRH.out, .inr ⟨by intro h; have h9 := congrArg List.length h; simp at h9, hccH.out⟩, hBH.out⟩
            · have hbq : ((sv : Int) == (un : Int)) = false := by simp; omega
              have hne2 : Hid (∀ i, 0 < i → i ≤ q + 1 → E (t + i) ≠ E t) := fun i hi hi2 => by
                by_cases e : i = q + 1
                · subst e
                  rw [show t + (q + 1) = t + q + 1 by omega, e2H.out, hun]
                  exact heq
                · exact hne.out i hi (by omega)
              have hqL : q + 1 < L := by
                rcases Nat.lt_or_ge (q + 1) L with h | h
                · exact h
                · exfalso
                  have e : q + 1 = L := by omega
                  have h9 := hLcH.out
                  rw [← e] at h9
                  exact hne2.out (q + 1) (by omega) (by omega) h9
              clear heq hun
              go_wp2
              go_roundw
              case rel => exact ⟨q + 1, V1, cv1, hqL, by rw [show t + (q + 1) = t + q + 1 by omega, e2H.out], rfl, hC'.out, hne2, hY'.out, hB'.out⟩
              case measure => simp [sliceLen]; omega
end Go.Proofs.Ytcoomogabicfnaa
