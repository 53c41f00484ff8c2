/-
  The walks of DelayMatrix, the program's and the reference's.
-/
import Derived.Test.YtcoomogabicfnaaMatBy
import Derived.Test.YtcoomogabicfnaaMarking
namespace Go.Proofs.Ytcoomogabicfnaa
open Go.RowKit
set_option linter.unusedVariables false
set_option linter.unusedSimpArgs false

def bot : Int := -1000000000000000
def updF (F : Nat → Nat → Int) (d s : Nat) (x : Int) : Nat → Nat → Int := fun i j => if i = d ∧ j = s then x else F i j
def delF (m : Int) (l : List Place) : Nat → Nat → Int :=
  l.foldl (fun F p => if p.tokens = m then updF F p.dst.toNat p.src.toNat (max (F p.dst.toNat p.src.toNat) p.delay) else F) (fun _ _ => bot)
theorem delF_succ (m : Int) (l : List Place) (k : Nat) (h : k < l.length) :
    delF m (l.take (k + 1)) = if l[k].tokens = m then updF (delF m (l.take k)) l[k].dst.toNat l[k].src.toNat (max (delF m (l.take k) l[k].dst.toNat l[k].src.toNat) l[k].delay) else delF m (l.take k) := by
  unfold delF
  rw [take_succ_get _ _ h, List.foldl_append]
  rfl
theorem matF_get (n m : Nat) (F : Nat → Nat → Int) (d : Nat) (h : d < (matF n F m).length) : (matF n F m)[d] = (List.range n).map (F d) := by simp [matF]
theorem matF_upd (n m : Nat) (F : Nat → Nat → Int) (d s : Nat) (x : Int) : (matF n F m).set d (((List.range n).map (F d)).set s x) = matF n (updF F d s x) m := by
  refine List.ext_getElem (by simp [matF]) fun i h1 h2 => ?_
  have hi : i < m := by simpa [matF] using h2
  have h3 : (matF n (updF F d s x) m)[i] = (List.range n).map (updF F d s x i) := matF_get _ _ _ _ _
  rw [h3]
  by_cases e : d = i
  · subst e
    rw [List.getElem_set_self]
    refine List.ext_getElem (by simp) fun j h3 h4 => ?_
    by_cases e2 : s = j
    · subst e2; simp [updF]
    · rw [List.getElem_set_ne e2]; simp [updF, Ne.symm e2]
  · rw [List.getElem_set_ne e]
    have h4 : (matF n F m)[i]'(by simpa [matF] using hi) = (List.range n).map (F i) := matF_get _ _ _ _ _
    rw [h4]
    refine List.map_congr_left fun j _ => ?_
    simp [updF, Ne.symm e]
theorem max_if (a b : Int) : max a b = if a < b then b else a := by by_cases h : a < b <;> simp [h] <;> omega
def delayM (n : Nat) (gp : List Place) (m : Int) : List (List Int) := matF n (delF m gp) n
def delayF (ge : Int) (gp : List Place) (m : Int) : List (List Int) × Int :=
  if okGraph ge gp = false then ([], 1) else if inB m 0 5 = false then ([], 2) else (delayM ge.toNat gp m, 0)
set_option maxHeartbeats 4000000 in
set_option maxRecDepth 100000 in
theorem impl_bottomMatrix1 (i j : Nat) (w : World) :
    Calls Try.prog 82 #[.int .i64 i, .int .i64 j] w fun e w' => e = .returned (.int .i64 bot) ∧ Below w.heap.size w w' := by
  go_enter Try.func82, Try.ntmps82
  go_wp2
  go_ret
  exact ⟨rfl, Below.refl _ _⟩
set_option maxHeartbeats 4000000 in
set_option maxRecDepth 100000 in
theorem impl_bottomMatrix (m n : Nat) (w : World) (hm : m ≤ 1000) (hn : n ≤ 1000) :
    Calls Try.prog 55 #[.int .i64 m, .int .i64 n] w (RetM w (matF n (fun _ _ => bot) m)) := by
  have h1 := Lib.hid (m1_matrixBy m n (fun _ _ => bot) w hm hn fun i j _ _ W _ => impl_bottomMatrix1 i j W)
  go_enter Try.func55, Try.ntmps55
  go_wp2_with fail
  refine h1.out.mono ?_
  rintro e w1 ⟨u, rfl, hM, hB⟩
  go_wp2
  go_ret
  exact ⟨_, rfl, hM, hB⟩

set_option maxHeartbeats 4000000 in
set_option maxRecDepth 100000 in
theorem impl_delayMatrix (v : Value) (n : Nat) (gp : List Place) (m : Int) (w : World) (h0 : Lst Place.cells 4 w w.heap.size v gp) (hok : okGraph n gp = true) :
    Calls Try.prog 34 #[.agg #[.int .i64 n, v], .int .i64 m] w (RetM w (delayM n gp m)) := by
  obtain ⟨A, c, rfl⟩ := h0.shape
  obtain ⟨hge1, hge2⟩ := okGraph_ev hok
  have hgl := okGraph_len hok
  have hg' := Lib.hid hok
  clear hok
  go_enter Try.func34, Try.ntmps34
  go_wp2_with fail
  have hW : Below w.heap.size w (w.alloc (.cells #[.int .i64 (n:Int), .slice A gp.length c] 26)) := (Below.refl _ _).alloc (Nat.le_refl _) _; have hb0 : Blk (w.alloc (.cells #[.int .i64 (n:Int), .slice A gp.length c] 26)) w.heap.size 26 #[.int .i64 (n:Int), .slice A gp.length c] := Blk.new _ _ _; replace h0 := h0.now hW; generalize (w.alloc (.cells #[.int .i64 (n:Int), .slice A gp.length c] 26)) = W at *
  have hWs := hW.size
  obtain ⟨k0, k1⟩ := hb0.c2
  go_wp2_with fail
  refine (impl_bottomMatrix n n W (by omega) (by omega)).mono ?_
  rintro e w1 ⟨u, rfl, hM, hB⟩
  have hLM : (matF n (fun _ _ => bot) n).length = n := matF_len _ _ _
  obtain ⟨A1, c1, rfl⟩ := hM.shape
  rw [hLM] at hM ⊢
  clear hLM k0 k1
  obtain ⟨k0, k1⟩ := (hb0.now hB).c2
  have l0 := (hb0.now hB).lt
  go_wp2
  go_loopw [7, 16] (fun _ i wr => ∃ k : Nat, k ≤ gp.length ∧ i = .int .i64 k ∧ OwnM wr W.heap.size (.slice A1 n c1) (matF n (delF m (gp.take k)) n) ∧ Below W.heap.size W wr) (fun _ i _ => gp.length - (intOf i).toNat)
  case atStart => exact ⟨0, Nat.zero_le _, rfl, by simpa [delF] using hM, hB⟩
  case round =>
    clear hM k0 k1 l0
    obtain ⟨k, hk, rfl, hM, hBr⟩ := hrel
    have hs := hBr.size
    have lb := ((hb0.now hBr)).lt
    obtain ⟨k0, k1⟩ := (hb0.now hBr).c2
    by_cases hlt : k < gp.length
    · obtain ⟨b0, off, hA0, hbb, d0, d1, d2, d3⟩ := places_at (h0.now hBr) k hlt
      cases hA0
      have hp := okGraph_place hg'.out (List.getElem_mem hlt)
      obtain ⟨s, hs0⟩ := Int.eq_ofNat_of_zero_le hp.1.1
      obtain ⟨d, hd0⟩ := Int.eq_ofNat_of_zero_le hp.2.1.1
      have hsn : s < n := by omega
      have hdn : d < n := by omega
      have hS := delF_succ m gp k hlt
      rw [hs0, hd0, Int.toNat_natCast, Int.toNat_natCast] at hS
      rw [hs0] at d0
      rw [hd0] at d1
      have hS' := Lib.hid hS
      clear hS hs0 hd0
      by_cases htk : gp[k].tokens = m
      · have hS2 := hS'.out
        rw [if_pos htk, max_if] at hS2
        have hS3 := Lib.hid hS2
        clear hS' hS2
        rw [htk] at d3
        have htk' := Lib.hid htk
        clear htk
        have hdl : d < (matF n (delF m (gp.take k)) n).length := by rw [matF_len]; exact hdn
        go_wp2_with fail
        have hA1 : Below wr.heap.size wr (wr.alloc (.cells #[.int .i64 s, .int .i64 d, .int .i64 gp[k].delay, .int .i64 m] 46)) := (Below.refl _ _).alloc (Nat.le_refl _) _
        have hbx := Blk.newAt wr (t := 46) (cs := #[.int .i64 s, .int .i64 d, .int .i64 gp[k].delay, .int .i64 m]) _ rfl
        replace hM := hM.now hA1
        replace hBr := hBr.trans (hA1.mono hBr.size)
        clear d0 d1 d2 d3 k0 k1 lb hbb hA1
        generalize wr.alloc (.cells #[.int .i64 s, .int .i64 d, .int .i64 gp[k].delay, .int .i64 m] 46) = V at *
        generalize wr.heap.size = bx at *
        obtain ⟨g, cu, r, hu, hgb, hgl, hfz, hcd, hr, hne, hset, _⟩ := hM.row d hdl
        rw [matF_len] at hu
        cases hu
        rw [matF_get] at hr
        obtain ⟨b, cr, hv, hbB, hbl0, _⟩ := hr.at_ intCell_len s (by simpa using hsn)
        rw [List.length_map, List.length_range] at hv
        rw [hv] at hcd hr hset
        obtain ⟨_, _, hfr, hce⟩ := own_ints_at hr s (by simpa using hsn)
        rw [List.getElem_map, List.getElem_range] at hce
        have hset' := Lib.hid hset
        clear hset hv hne
        obtain ⟨c0, c1', c2, c3⟩ := hbx.c4
        have hBd : Below V.heap.size V V.drew := Below.drew (Below.refl _ V)
        have e0 := cell_keep c0 hBd
        have e1 := cell_keep c1' hBd
        have e2 := cell_keep c2 hBd
        have e3 := cell_keep hcd hBd
        have e4 := cell_keep hce hBd
        have i1 : (0 : Int) ≤ (s : Int) := by omega
        have i2 : (s : Int) < (n : Int) := by omega
        have i3 : (0 : Int) ≤ (d : Int) := by omega
        have i4 : (d : Int) < (n : Int) := by omega
        refine wp_region_E (fun w' => w'.cell? ⟨bx, 0, none⟩ = some (.int .i64 (s : Nat)) ∧ w'.cell? ⟨bx, 1, none⟩ = some (.int .i64 (d : Nat)) ∧ w'.cell? ⟨bx, 2, none⟩ = some (.int .i64 gp[k].delay) ∧ w'.cell? ⟨g, d, none⟩ = some (.slice (some ⟨b, 0, none⟩) n cr) ∧ w'.cell? ⟨b, s, none⟩ = some (.int .i64 (delF m (gp.take k) d s))) 20 (by kernel_rfl) ?_
        have hS0 : (fun w' : World => w'.cell? ⟨bx, 0, none⟩ = some (.int .i64 (s : Nat)) ∧ w'.cell? ⟨bx, 1, none⟩ = some (.int .i64 (d : Nat)) ∧ w'.cell? ⟨bx, 2, none⟩ = some (.int .i64 gp[k].delay) ∧ w'.cell? ⟨g, d, none⟩ = some (.slice (some ⟨b, 0, none⟩) n cr) ∧ w'.cell? ⟨b, s, none⟩ = some (.int .i64 (delF m (gp.take k) d s))) V.drew := ⟨e0, e1, e2, e3, e4⟩
        refine wpAnyE_take (i := 0) (v := ?_) rfl (by kernel_rfl) (by kernel_rfl) (by kernel_rfl) (by kernel_rfl) (by kernel_rfl) (fun _ _ _ h => h) hS0 (by rfl) ?_ ?_
        rotate_left
        · intro w9 hSw
          try dsimp only at hSw
          obtain ⟨s0, s1, s2, s3, s4⟩ := hSw
          go_simp
          try with_reducible rfl
        try simp only [Act.put, List.setIfInBounds_toArray, List.set_cons_zero, List.set_cons_succ]
        refine wpAnyE_take (i := 1) (v := ?_) rfl (by kernel_rfl) (by kernel_rfl) (by kernel_rfl) (by kernel_rfl) (by kernel_rfl) (fun _ _ _ h => h) hS0 (by rfl) ?_ ?_
        rotate_left
        · intro w9 hSw
          try dsimp only at hSw
          obtain ⟨s0, s1, s2, s3, s4⟩ := hSw
          go_simp
          try with_reducible rfl
        try simp only [Act.put, List.setIfInBounds_toArray, List.set_cons_zero, List.set_cons_succ]
        refine wpAnyE_take (i := 2) (v := ?_) rfl (by kernel_rfl) (by kernel_rfl) (by kernel_rfl) (by kernel_rfl) (by kernel_rfl) (fun _ _ _ h => h) hS0 (by rfl) ?_ ?_
        rotate_left
        · intro w9 hSw
          try dsimp only at hSw
          obtain ⟨s0, s1, s2, s3, s4⟩ := hSw
          go_simp
          try with_reducible rfl
        try simp only [Act.put, List.setIfInBounds_toArray, List.set_cons_zero, List.set_cons_succ]
        refine wpAnyE_take (i := 3) (v := ?_) rfl (by kernel_rfl) (by kernel_rfl) (by kernel_rfl) (by kernel_rfl) (by kernel_rfl) (fun _ _ _ h => h) hS0 (by rfl) ?_ ?_
        rotate_left
        · intro w9 hSw
          try dsimp only at hSw
          obtain ⟨s0, s1, s2, s3, s4⟩ := hSw
          go_simp
          try with_reducible rfl
        try simp only [Act.put, List.setIfInBounds_toArray, List.set_cons_zero, List.set_cons_succ]
        refine wpAnyE_take (i := 4) (v := ?_) rfl (by kernel_rfl) (by kernel_rfl) (by kernel_rfl) (by kernel_rfl) (by kernel_rfl) (fun _ _ _ h => h) hS0 (by rfl) ?_ ?_
        rotate_left
        · intro w9 hSw
          try dsimp only at hSw
          obtain ⟨s0, s1, s2, s3, s4⟩ := hSw
          go_simp
          try with_reducible rfl
        try simp only [Act.put, List.setIfInBounds_toArray, List.set_cons_zero, List.set_cons_succ]
        refine wpAnyE_take (i := 5) (v := ?_) rfl (by kernel_rfl) (by kernel_rfl) (by kernel_rfl) (by kernel_rfl) (by kernel_rfl) (fun _ _ _ h => h) hS0 (by rfl) ?_ ?_
        rotate_left
        · intro w9 hSw
          try dsimp only at hSw
          obtain ⟨s0, s1, s2, s3, s4⟩ := hSw
          go_simp
          try with_reducible rfl
        try simp only [Act.put, List.setIfInBounds_toArray, List.set_cons_zero, List.set_cons_succ]
        refine wpAnyE_take (i := 6) (v := ?_) rfl (by kernel_rfl) (by kernel_rfl) (by kernel_rfl) (by kernel_rfl) (by kernel_rfl) (fun _ _ _ h => h) hS0 (by rfl) ?_ ?_
        rotate_left
        · intro w9 hSw
          try dsimp only at hSw
          obtain ⟨s0, s1, s2, s3, s4⟩ := hSw
          go_simp
          try with_reducible rfl
        try simp only [Act.put, List.setIfInBounds_toArray, List.set_cons_zero, List.set_cons_succ]
        refine wpAnyE_take (i := 7) (v := ?_) rfl (by kernel_rfl) (by kernel_rfl) (by kernel_rfl) (by kernel_rfl) (by kernel_rfl) (fun _ _ _ h => h) hS0 (by rfl) ?_ ?_
        rotate_left
        · intro w9 hSw
          try dsimp only at hSw
          obtain ⟨s0, s1, s2, s3, s4⟩ := hSw
          go_simp
          try with_reducible rfl
        try simp only [Act.put, List.setIfInBounds_toArray, List.set_cons_zero, List.set_cons_succ]
        refine wpAnyE_take (i := 8) (v := ?_) rfl (by kernel_rfl) (by kernel_rfl) (by kernel_rfl) (by kernel_rfl) (by kernel_rfl) (fun _ _ _ h => h) hS0 (by rfl) ?_ ?_
        rotate_left
        · intro w9 hSw
          try dsimp only at hSw
          obtain ⟨s0, s1, s2, s3, s4⟩ := hSw
          go_simp
          try with_reducible rfl
        try simp only [Act.put, List.setIfInBounds_toArray, List.set_cons_zero, List.set_cons_succ]
        refine wpAnyE_take (i := 9) (v := ?_) rfl (by kernel_rfl) (by kernel_rfl) (by kernel_rfl) (by kernel_rfl) (by kernel_rfl) (fun _ _ _ h => h) hS0 (by rfl) ?_ ?_
        rotate_left
        · intro w9 hSw
          try dsimp only at hSw
          obtain ⟨s0, s1, s2, s3, s4⟩ := hSw
          go_simp
          try with_reducible rfl
        try simp only [Act.put, List.setIfInBounds_toArray, List.set_cons_zero, List.set_cons_succ]
        refine wpAnyE_take (i := 10) (v := ?_) rfl (by kernel_rfl) (by kernel_rfl) (by kernel_rfl) (by kernel_rfl) (by kernel_rfl) (fun _ _ _ h => h) hS0 (by rfl) ?_ ?_
        rotate_left
        · intro w9 hSw
          try dsimp only at hSw
          obtain ⟨s0, s1, s2, s3, s4⟩ := hSw
          go_simp
          try with_reducible rfl
        try simp only [Act.put, List.setIfInBounds_toArray, List.set_cons_zero, List.set_cons_succ]
        refine wpAnyE_take (i := 11) (v := ?_) rfl (by kernel_rfl) (by kernel_rfl) (by kernel_rfl) (by kernel_rfl) (by kernel_rfl) (fun _ _ _ h => h) hS0 (by rfl) ?_ ?_
        rotate_left
        · intro w9 hSw
          try dsimp only at hSw
          obtain ⟨s0, s1, s2, s3, s4⟩ := hSw
          go_simp
          try with_reducible rfl
        try simp only [Act.put, List.setIfInBounds_toArray, List.set_cons_zero, List.set_cons_succ]
        refine wpAnyE_take (i := 12) (v := ?_) rfl (by kernel_rfl) (by kernel_rfl) (by kernel_rfl) (by kernel_rfl) (by kernel_rfl) (fun _ _ _ h => h) hS0 (by rfl) ?_ ?_
        rotate_left
        · intro w9 hSw
          try dsimp only at hSw
          obtain ⟨s0, s1, s2, s3, s4⟩ := hSw
          go_simp
          try with_reducible rfl
        try simp only [Act.put, List.setIfInBounds_toArray, List.set_cons_zero, List.set_cons_succ]
        refine wpAnyE_take (i := 13) (v := ?_) rfl (by kernel_rfl) (by kernel_rfl) (by kernel_rfl) (by kernel_rfl) (by kernel_rfl) (fun _ _ _ h => h) hS0 (by rfl) ?_ ?_
        rotate_left
        · intro w9 hSw
          try dsimp only at hSw
          obtain ⟨s0, s1, s2, s3, s4⟩ := hSw
          go_simp
          try with_reducible rfl
        try simp only [Act.put, List.setIfInBounds_toArray, List.set_cons_zero, List.set_cons_succ]
        refine wpAnyE_take (i := 14) (v := ?_) rfl (by kernel_rfl) (by kernel_rfl) (by kernel_rfl) (by kernel_rfl) (by kernel_rfl) (fun _ _ _ h => h) hS0 (by rfl) ?_ ?_
        rotate_left
        · intro w9 hSw
          try dsimp only at hSw
          obtain ⟨s0, s1, s2, s3, s4⟩ := hSw
          go_simp
          try with_reducible rfl
        try simp only [Act.put, List.setIfInBounds_toArray, List.set_cons_zero, List.set_cons_succ]
        refine wpAnyE_take (i := 15) (v := ?_) rfl (by kernel_rfl) (by kernel_rfl) (by kernel_rfl) (by kernel_rfl) (by kernel_rfl) (fun _ _ _ h => h) hS0 (by rfl) ?_ ?_
        rotate_left
        · intro w9 hSw
          try dsimp only at hSw
          obtain ⟨s0, s1, s2, s3, s4⟩ := hSw
          go_simp
          try with_reducible rfl
        try simp only [Act.put, List.setIfInBounds_toArray, List.set_cons_zero, List.set_cons_succ]
        refine wpAnyE_take (i := 16) (v := ?_) rfl (by kernel_rfl) (by kernel_rfl) (by kernel_rfl) (by kernel_rfl) (by kernel_rfl) (fun _ _ _ h => h) hS0 (by rfl) ?_ ?_
        rotate_left
        · intro w9 hSw
          try dsimp only at hSw
          obtain ⟨s0, s1, s2, s3, s4⟩ := hSw
          go_simp
          try with_reducible rfl
        try simp only [Act.put, List.setIfInBounds_toArray, List.set_cons_zero, List.set_cons_succ]
        refine wpAnyE_take (i := 17) (v := ?_) rfl (by kernel_rfl) (by kernel_rfl) (by kernel_rfl) (by kernel_rfl) (by kernel_rfl) (fun _ _ _ h => h) hS0 (by rfl) ?_ ?_
        rotate_left
        · intro w9 hSw
          try dsimp only at hSw
          obtain ⟨s0, s1, s2, s3, s4⟩ := hSw
          go_simp
          try with_reducible rfl
        try simp only [Act.put, List.setIfInBounds_toArray, List.set_cons_zero, List.set_cons_succ]
        refine wpAnyE_take (i := 18) (v := ?_) rfl (by kernel_rfl) (by kernel_rfl) (by kernel_rfl) (by kernel_rfl) (by kernel_rfl) (fun _ _ _ h => h) hS0 (by rfl) ?_ ?_
        rotate_left
        · intro w9 hSw
          try dsimp only at hSw
          obtain ⟨s0, s1, s2, s3, s4⟩ := hSw
          go_simp
          try with_reducible rfl
        try simp only [Act.put, List.setIfInBounds_toArray, List.set_cons_zero, List.set_cons_succ]
        refine wpAnyE_take (i := 19) (v := ?_) rfl (by kernel_rfl) (by kernel_rfl) (by kernel_rfl) (by kernel_rfl) (by kernel_rfl) (fun _ _ _ h => h) hS0 (by rfl) ?_ ?_
        rotate_left
        · intro w9 hSw
          try dsimp only at hSw
          obtain ⟨s0, s1, s2, s3, s4⟩ := hSw
          go_simp
          try with_reducible rfl
        try simp only [Act.put, List.setIfInBounds_toArray, List.set_cons_zero, List.set_cons_succ]
        refine wpAnyE_one (i := 20) rfl (by kernel_rfl) (fun K hK => ?_)
        go_simp
        refine hK.out _ _ (fun h => absurd rfl h) ?_
        clear hK K
        try simp only [Act.put, List.setIfInBounds_toArray, List.set_cons_zero, List.set_cons_succ]
        refine wpAnyE_done (by kernel_rfl) ?_
        have hMn := hset'.out _ _ ((hr.now hBd).set1 s (by simpa using hsn) (if delF m (gp.take k) d s < gp[k].delay then gp[k].delay else delF m (gp.take k) d s)) (grown_set (p := ⟨b, s, none⟩) (grown_of_below hBd) rfl _)
        rw [matF_upd, ← hS3.out] at hMn
        have hBn := (hBr.trans (hBd.mono hBr.size)).setCell (p := ⟨b, s, none⟩) hbB (.int .i64 (if delF m (gp.take k) d s < gp[k].delay then gp[k].delay else delF m (gp.take k) d s))
        go_wp2
        go_roundw
        case rel => exact ⟨k + 1, hlt, by go_num, hMn, hBn⟩
        case measure => simp [intOf]; omega
      · have hS2 := hS'.out
        rw [if_neg htk] at hS2
        have hS3 := Lib.hid hS2
        have hq : (gp[k].tokens == m) = false := by simpa using htk
        clear hS' hS2 htk
        have hM' : OwnM (wr.alloc (.cells #[.int .i64 s, .int .i64 d, .int .i64 gp[k].delay, .int .i64 gp[k].tokens] 46)) W.heap.size (.slice A1 n c1) (matF n (delF m (gp.take (k + 1))) n) := by rw [hS3.out]; exact hM.now ((Below.refl _ _).alloc (Nat.le_refl _) _)
        go_wp2
        go_roundw
        case rel => exact ⟨k + 1, hlt, by go_num, hM', hBr.alloc hBr.size _⟩
        case measure => simp [intOf]; omega
    · obtain rfl : k = gp.length := by omega
      rw [List.take_length] at hM
      go_wp2
      go_ret
      exact ⟨_, rfl, hM.rebase hWs, hW.trans (hBr.mono hWs)⟩
theorem matB_succ (n k : Nat) : matF n (fun _ _ => bot) (k + 1) = matF n (fun _ _ => bot) k ++ [List.replicate n (-1000000000000000)] := by
  rw [matF_succ]
  simp [bot, List.map_const']
set_option maxHeartbeats 4000000 in
set_option maxRecDepth 100000 in
theorem l02Bottom (m n : Nat) (w : World) (hm : m ≤ 1000) (hn : n ≤ 1000) :
    Calls Try.prog 27 #[.int .i64 m, .int .i64 n] w (RetM w (matF n (fun _ _ => bot) m)) := by
  go_enter Try.func27, Try.ntmps27
  go_wp2
  go_loopw [5, 6, 7, 8] (fun o i _ _ wr => ∃ k : Nat, k ≤ m ∧ i = .int .i64 k ∧ OwnM wr w.heap.size o (matF n (fun _ _ => bot) k) ∧ Below w.heap.size w wr) (fun _ i _ _ _ => m - (intOf i).toNat)
  case atStart => exact ⟨0, Nat.zero_le _, rfl, OwnM.new0 _ _ (Nat.le_refl _), (Below.refl _ _).alloc (Nat.le_refl _) _⟩
  case round =>
    obtain ⟨k, hk, rfl, hM, hB⟩ := hrel
    have hs := hB.size
    by_cases hlt : k < m
    · obtain ⟨rs, hl, hO, hR, hD⟩ := hM
      rw [matF_len] at hl
      have hrlt : Hid (∀ i (hi : i < rs.length) q, rs[i].val.ownBlock = some q → q < wr.heap.size) := fun i hi q hq => ((hR i hi (by rw [matF_len]; omega)).lt q hq).2
      have hR' := Lib.hid hR
      have hD' := Lib.hid hD
      obtain ⟨A, c, rfl⟩ := own_shape_n hO hl
      have hl' := Lib.hid hl
      clear hR hD hl
      go_wp2
      obtain ⟨wo, rfl⟩ : ∃ wo : World, wo = wr := ⟨_, rfl⟩
      go_loopw [7, 8] (fun r i w2 => ∃ j : Nat, j ≤ n ∧ i = .int .i64 j ∧ Own intCell 1 2 w2 wo.heap.size r (List.replicate j (-1000000000000000)) ∧ Below wo.heap.size wo w2) (fun _ i _ => n - (intOf i).toNat)
      case atStart => exact ⟨0, Nat.zero_le _, rfl, own_new0 _ _ _ _ _ (Nat.le_refl _), (Below.refl _ _).alloc (Nat.le_refl _) _⟩
      case round =>
        obtain ⟨j, hj, rfl, hr, hb⟩ := hrel
        obtain ⟨R, cr, rfl⟩ := own_shape_n hr List.length_replicate
        by_cases hlt2 : j < n
        · have hlen : (List.replicate j (-1000000000000000 : Int)).length + [(-1000000000000000 : Int)].length ≤ 1099511627776 := by simp; omega
          go_wp2_with (at_builtin; refine wpList_append_lst rfl _ _ 50 rfl intCell 1 intCell_one (by omega) wo.heap.size 2 _ 8 Try.underlying50 info_i64 rfl _ _ rfl (hr.alloc _) _ _ _ _ [(-1000000000000000 : Int)] rfl (lst_new1 _ _ intCell_len _ _ _ _ rfl _ (by simp)) hlen (by omega) (Nat.le_trans hb.size (by simp <;> omega)) ?_; intro v' w3 hO1 hG1 hD1)
          go_roundw
          case rel => exact ⟨j + 1, hlt2, by go_num, by rw [List.replicate_succ']; exact hO1, below_app (hb.alloc (Nat.le_trans (Nat.le_refl _) hb.size) _) (Nat.le_trans hb.size (by simp)) hG1 (hr.alloc _) (Nat.le_refl _)⟩
          case measure => simp [intOf]; omega
        · obtain rfl : j = n := by omega
          have hlen : rs.length + [(⟨R, j, cr⟩ : Ref)].length ≤ 1099511627776 := by rw [hl'.out]; simp; omega
          have hOn := hO.now hb
          have hbs := hb.size
          go_wp2_with (at_builtin; refine wpList_append_lst rfl _ _ 28 rfl Ref.cells 1 Ref.cells_one (by omega) w.heap.size 50 _ 24 Try.underlying28 info_ref rfl _ _ rfl (hOn.alloc _) _ _ _ _ [(⟨R, j, cr⟩ : Ref)] rfl (lst_new1 _ _ Ref.cells_len _ _ _ _ rfl _ (by simp)) hlen (by omega) (Nat.le_trans hs (Nat.le_trans hbs (by simp <;> omega))) ?_; intro v' w3 hO1 hG1 hD1)
          go_roundw
          case rel =>
            refine ⟨k + 1, hlt, by go_num, ?_, below_app ((hB.trans (hb.mono hs)).alloc (Nat.le_trans hs hbs) _) (Nat.le_trans hs (Nat.le_trans hbs (by simp))) hG1 (hOn.alloc _) (Nat.le_refl _)⟩
            rw [matB_succ]
            exact OwnM.push2 (by rw [matF_len]; exact hl'.out) (hOn.alloc _) (fun i h1 h2 => ((hR'.out i h1 h2).now hb).alloc _) hD'.out ⟨R, j, cr⟩ _ wo.heap.size (hr.alloc _) hs hrlt.out _ hG1 hO1
          case measure => simp [intOf]; omega
    · obtain rfl : k = m := by omega
      go_wp2
      go_ret
      exact ⟨_, rfl, hM, hB⟩

set_option maxHeartbeats 4000000 in
set_option maxRecDepth 100000 in
theorem l13Delays (v : Value) (n : Nat) (gp : List Place) (m : Int) (w : World) (h0 : Lst Place.cells 4 w w.heap.size v gp) (hok : okGraph n gp = true) :
    Calls Try.prog 36 #[.agg #[.int .i64 n, v], .int .i64 m] w (RetM w (delayM n gp m)) := by
  obtain ⟨A, c, rfl⟩ := h0.shape
  obtain ⟨hge1, hge2⟩ := okGraph_ev hok
  have hgl := okGraph_len hok
  have hg' := Lib.hid hok
  clear hok
  go_enter Try.func36, Try.ntmps36
  go_wp2_with fail
  have hW : Below w.heap.size w (w.alloc (.cells #[.int .i64 (n:Int), .slice A gp.length c] 26)) := (Below.refl _ _).alloc (Nat.le_refl _) _; have hb0 : Blk (w.alloc (.cells #[.int .i64 (n:Int), .slice A gp.length c] 26)) w.heap.size 26 #[.int .i64 (n:Int), .slice A gp.length c] := Blk.new _ _ _; replace h0 := h0.now hW; generalize (w.alloc (.cells #[.int .i64 (n:Int), .slice A gp.length c] 26)) = W at *
  have hWs := hW.size
  obtain ⟨k0, k1⟩ := hb0.c2
  go_wp2_with fail
  refine (l02Bottom n n W (by omega) (by omega)).mono ?_
  rintro e w1 ⟨u, rfl, hM, hB⟩
  have hLM : (matF n (fun _ _ => bot) n).length = n := matF_len _ _ _
  obtain ⟨A1, c1, rfl⟩ := hM.shape
  rw [hLM] at hM ⊢
  clear hLM k0 k1
  obtain ⟨k0, k1⟩ := (hb0.now hB).c2
  have l0 := (hb0.now hB).lt
  go_wp2
  go_loopw [6, 7] (fun i _ wr => ∃ k : Nat, k ≤ gp.length ∧ i = .int .i64 k ∧ OwnM wr W.heap.size (.slice A1 n c1) (matF n (delF m (gp.take k)) n) ∧ Below W.heap.size W wr) (fun i _ _ => gp.length - (intOf i).toNat)
  case atStart => exact ⟨0, Nat.zero_le _, rfl, by simpa [delF] using hM, hB⟩
  case round =>
    clear hM k0 k1 l0
    obtain ⟨k, hk, rfl, hM, hBr⟩ := hrel
    have hs := hBr.size
    have lb := ((hb0.now hBr)).lt
    obtain ⟨k0, k1⟩ := (hb0.now hBr).c2
    by_cases hlt : k < gp.length
    · obtain ⟨b0, off, hA0, hbb, d0, d1, d2, d3⟩ := places_at (h0.now hBr) k hlt
      cases hA0
      have hp := okGraph_place hg'.out (List.getElem_mem hlt)
      obtain ⟨s, hs0⟩ := Int.eq_ofNat_of_zero_le hp.1.1
      obtain ⟨d, hd0⟩ := Int.eq_ofNat_of_zero_le hp.2.1.1
      have hsn : s < n := by omega
      have hdn : d < n := by omega
      have hS := delF_succ m gp k hlt
      rw [hs0, hd0, Int.toNat_natCast, Int.toNat_natCast] at hS
      rw [hs0] at d0
      rw [hd0] at d1
      have hS' := Lib.hid hS
      clear hS hs0 hd0
      by_cases htk : gp[k].tokens = m
      · have hS2 := hS'.out
        rw [if_pos htk, max_if] at hS2
        have hS3 := Lib.hid hS2
        clear hS' hS2
        rw [htk] at d3
        have htk' := Lib.hid htk
        clear htk
        have hdl : d < (matF n (delF m (gp.take k)) n).length := by rw [matF_len]; exact hdn
        go_wp2_with fail
        have hA1 : Below wr.heap.size wr (wr.alloc (.cells #[.int .i64 s, .int .i64 d, .int .i64 gp[k].delay, .int .i64 m] 46)) := (Below.refl _ _).alloc (Nat.le_refl _) _
        have hbx := Blk.newAt wr (t := 46) (cs := #[.int .i64 s, .int .i64 d, .int .i64 gp[k].delay, .int .i64 m]) _ rfl
        replace hM := hM.now hA1
        replace hBr := hBr.trans (hA1.mono hBr.size)
        clear d0 d1 d2 d3 k0 k1 lb hbb hA1
        generalize wr.alloc (.cells #[.int .i64 s, .int .i64 d, .int .i64 gp[k].delay, .int .i64 m] 46) = V at *
        generalize wr.heap.size = bx at *
        obtain ⟨g, cu, r, hu, hgb, hgl, hfz, hcd, hr, hne, hset, _⟩ := hM.row d hdl
        rw [matF_len] at hu
        cases hu
        rw [matF_get] at hr
        obtain ⟨b, cr, hv, hbB, hbl0, _⟩ := hr.at_ intCell_len s (by simpa using hsn)
        rw [List.length_map, List.length_range] at hv
        rw [hv] at hcd hr hset
        obtain ⟨_, _, hfr, hce⟩ := own_ints_at hr s (by simpa using hsn)
        rw [List.getElem_map, List.getElem_range] at hce
        have hset' := Lib.hid hset
        clear hset hv hne
        obtain ⟨c0, c1', c2, c3⟩ := hbx.c4
        have hBd : Below V.heap.size V V.drew := Below.drew (Below.refl _ V)
        have e0 := cell_keep c0 hBd
        have e1 := cell_keep c1' hBd
        have e2 := cell_keep c2 hBd
        have e3 := cell_keep hcd hBd
        have e4 := cell_keep hce hBd
        have i1 : (0 : Int) ≤ (s : Int) := by omega
        have i2 : (s : Int) < (n : Int) := by omega
        have i3 : (0 : Int) ≤ (d : Int) := by omega
        have i4 : (d : Int) < (n : Int) := by omega
        refine wp_region_E (fun w' => w'.cell? ⟨bx, 0, none⟩ = some (.int .i64 (s : Nat)) ∧ w'.cell? ⟨bx, 1, none⟩ = some (.int .i64 (d : Nat)) ∧ w'.cell? ⟨bx, 2, none⟩ = some (.int .i64 gp[k].delay) ∧ w'.cell? ⟨g, d, none⟩ = some (.slice (some ⟨b, 0, none⟩) n cr) ∧ w'.cell? ⟨b, s, none⟩ = some (.int .i64 (delF m (gp.take k) d s))) 20 (by kernel_rfl) ?_
        have hS0 : (fun w' : World => w'.cell? ⟨bx, 0, none⟩ = some (.int .i64 (s : Nat)) ∧ w'.cell? ⟨bx, 1, none⟩ = some (.int .i64 (d : Nat)) ∧ w'.cell? ⟨bx, 2, none⟩ = some (.int .i64 gp[k].delay) ∧ w'.cell? ⟨g, d, none⟩ = some (.slice (some ⟨b, 0, none⟩) n cr) ∧ w'.cell? ⟨b, s, none⟩ = some (.int .i64 (delF m (gp.take k) d s))) V.drew := ⟨e0, e1, e2, e3, e4⟩
        refine wpAnyE_take (i := 0) (v := ?_) rfl (by kernel_rfl) (by kernel_rfl) (by kernel_rfl) (by kernel_rfl) (by kernel_rfl) (fun _ _ _ h => h) hS0 (by rfl) ?_ ?_
        rotate_left
        · intro w9 hSw
          try dsimp only at hSw
          obtain ⟨s0, s1, s2, s3, s4⟩ := hSw
          go_simp
          try with_reducible rfl
        try simp only [Act.put, List.setIfInBounds_toArray, List.set_cons_zero, List.set_cons_succ]
        refine wpAnyE_take (i := 1) (v := ?_) rfl (by kernel_rfl) (by kernel_rfl) (by kernel_rfl) (by kernel_rfl) (by kernel_rfl) (fun _ _ _ h => h) hS0 (by rfl) ?_ ?_
        rotate_left
        · intro w9 hSw
          try dsimp only at hSw
          obtain ⟨s0, s1, s2, s3, s4⟩ := hSw
          go_simp
          try with_reducible rfl
        try simp only [Act.put, List.setIfInBounds_toArray, List.set_cons_zero, List.set_cons_succ]
        refine wpAnyE_take (i := 2) (v := ?_) rfl (by kernel_rfl) (by kernel_rfl) (by kernel_rfl) (by kernel_rfl) (by kernel_rfl) (fun _ _ _ h => h) hS0 (by rfl) ?_ ?_
        rotate_left
        · intro w9 hSw
          try dsimp only at hSw
          obtain ⟨s0, s1, s2, s3, s4⟩ := hSw
          go_simp
          try with_reducible rfl
        try simp only [Act.put, List.setIfInBounds_toArray, List.set_cons_zero, List.set_cons_succ]
        refine wpAnyE_take (i := 3) (v := ?_) rfl (by kernel_rfl) (by kernel_rfl) (by kernel_rfl) (by kernel_rfl) (by kernel_rfl) (fun _ _ _ h => h) hS0 (by rfl) ?_ ?_
        rotate_left
        · intro w9 hSw
          try dsimp only at hSw
          obtain ⟨s0, s1, s2, s3, s4⟩ := hSw
          go_simp
          try with_reducible rfl
        try simp only [Act.put, List.setIfInBounds_toArray, List.set_cons_zero, List.set_cons_succ]
        refine wpAnyE_take (i := 4) (v := ?_) rfl (by kernel_rfl) (by kernel_rfl) (by kernel_rfl) (by kernel_rfl) (by kernel_rfl) (fun _ _ _ h => h) hS0 (by rfl) ?_ ?_
        rotate_left
        · intro w9 hSw
          try dsimp only at hSw
          obtain ⟨s0, s1, s2, s3, s4⟩ := hSw
          go_simp
          try with_reducible rfl
        try simp only [Act.put, List.setIfInBounds_toArray, List.set_cons_zero, List.set_cons_succ]
        refine wpAnyE_take (i := 5) (v := ?_) rfl (by kernel_rfl) (by kernel_rfl) (by kernel_rfl) (by kernel_rfl) (by kernel_rfl) (fun _ _ _ h => h) hS0 (by rfl) ?_ ?_
        rotate_left
        · intro w9 hSw
          try dsimp only at hSw
          obtain ⟨s0, s1, s2, s3, s4⟩ := hSw
          go_simp
          try with_reducible rfl
        try simp only [Act.put, List.setIfInBounds_toArray, List.set_cons_zero, List.set_cons_succ]
        refine wpAnyE_take (i := 6) (v := ?_) rfl (by kernel_rfl) (by kernel_rfl) (by kernel_rfl) (by kernel_rfl) (by kernel_rfl) (fun _ _ _ h => h) hS0 (by rfl) ?_ ?_
        rotate_left
        · intro w9 hSw
          try dsimp only at hSw
          obtain ⟨s0, s1, s2, s3, s4⟩ := hSw
          go_simp
          try with_reducible rfl
        try simp only [Act.put, List.setIfInBounds_toArray, List.set_cons_zero, List.set_cons_succ]
        refine wpAnyE_take (i := 7) (v := ?_) rfl (by kernel_rfl) (by kernel_rfl) (by kernel_rfl) (by kernel_rfl) (by kernel_rfl) (fun _ _ _ h => h) hS0 (by rfl) ?_ ?_
        rotate_left
        · intro w9 hSw
          try dsimp only at hSw
          obtain ⟨s0, s1, s2, s3, s4⟩ := hSw
          go_simp
          try with_reducible rfl
        try simp only [Act.put, List.setIfInBounds_toArray, List.set_cons_zero, List.set_cons_succ]
        refine wpAnyE_take (i := 8) (v := ?_) rfl (by kernel_rfl) (by kernel_rfl) (by kernel_rfl) (by kernel_rfl) (by kernel_rfl) (fun _ _ _ h => h) hS0 (by rfl) ?_ ?_
        rotate_left
        · intro w9 hSw
          try dsimp only at hSw
          obtain ⟨s0, s1, s2, s3, s4⟩ := hSw
          go_simp
          try with_reducible rfl
        try simp only [Act.put, List.setIfInBounds_toArray, List.set_cons_zero, List.set_cons_succ]
        refine wpAnyE_take (i := 9) (v := ?_) rfl (by kernel_rfl) (by kernel_rfl) (by kernel_rfl) (by kernel_rfl) (by kernel_rfl) (fun _ _ _ h => h) hS0 (by rfl) ?_ ?_
        rotate_left
        · intro w9 hSw
          try dsimp only at hSw
          obtain ⟨s0, s1, s2, s3, s4⟩ := hSw
          go_simp
          try with_reducible rfl
        try simp only [Act.put, List.setIfInBounds_toArray, List.set_cons_zero, List.set_cons_succ]
        refine wpAnyE_take (i := 10) (v := ?_) rfl (by kernel_rfl) (by kernel_rfl) (by kernel_rfl) (by kernel_rfl) (by kernel_rfl) (fun _ _ _ h => h) hS0 (by rfl) ?_ ?_
        rotate_left
        · intro w9 hSw
          try dsimp only at hSw
          obtain ⟨s0, s1, s2, s3, s4⟩ := hSw
          go_simp
          try with_reducible rfl
        try simp only [Act.put, List.setIfInBounds_toArray, List.set_cons_zero, List.set_cons_succ]
        refine wpAnyE_take (i := 11) (v := ?_) rfl (by kernel_rfl) (by kernel_rfl) (by kernel_rfl) (by kernel_rfl) (by kernel_rfl) (fun _ _ _ h => h) hS0 (by rfl) ?_ ?_
        rotate_left
        · intro w9 hSw
          try dsimp only at hSw
          obtain ⟨s0, s1, s2, s3, s4⟩ := hSw
          go_simp
          try with_reducible rfl
        try simp only [Act.put, List.setIfInBounds_toArray, List.set_cons_zero, List.set_cons_succ]
        refine wpAnyE_take (i := 12) (v := ?_) rfl (by kernel_rfl) (by kernel_rfl) (by kernel_rfl) (by kernel_rfl) (by kernel_rfl) (fun _ _ _ h => h) hS0 (by rfl) ?_ ?_
        rotate_left
        · intro w9 hSw
          try dsimp only at hSw
          obtain ⟨s0, s1, s2, s3, s4⟩ := hSw
          go_simp
          try with_reducible rfl
        try simp only [Act.put, List.setIfInBounds_toArray, List.set_cons_zero, List.set_cons_succ]
        refine wpAnyE_take (i := 13) (v := ?_) rfl (by kernel_rfl) (by kernel_rfl) (by kernel_rfl) (by kernel_rfl) (by kernel_rfl) (fun _ _ _ h => h) hS0 (by rfl) ?_ ?_
        rotate_left
        · intro w9 hSw
          try dsimp only at hSw
          obtain ⟨s0, s1, s2, s3, s4⟩ := hSw
          go_simp
          try with_reducible rfl
        try simp only [Act.put, List.setIfInBounds_toArray, List.set_cons_zero, List.set_cons_succ]
        refine wpAnyE_take (i := 14) (v := ?_) rfl (by kernel_rfl) (by kernel_rfl) (by kernel_rfl) (by kernel_rfl) (by kernel_rfl) (fun _ _ _ h => h) hS0 (by rfl) ?_ ?_
        rotate_left
        · intro w9 hSw
          try dsimp only at hSw
          obtain ⟨s0, s1, s2, s3, s4⟩ := hSw
          go_simp
          try with_reducible rfl
        try simp only [Act.put, List.setIfInBounds_toArray, List.set_cons_zero, List.set_cons_succ]
        refine wpAnyE_take (i := 15) (v := ?_) rfl (by kernel_rfl) (by kernel_rfl) (by kernel_rfl) (by kernel_rfl) (by kernel_rfl) (fun _ _ _ h => h) hS0 (by rfl) ?_ ?_
        rotate_left
        · intro w9 hSw
          try dsimp only at hSw
          obtain ⟨s0, s1, s2, s3, s4⟩ := hSw
          go_simp
          try with_reducible rfl
        try simp only [Act.put, List.setIfInBounds_toArray, List.set_cons_zero, List.set_cons_succ]
        refine wpAnyE_take (i := 16) (v := ?_) rfl (by kernel_rfl) (by kernel_rfl) (by kernel_rfl) (by kernel_rfl) (by kernel_rfl) (fun _ _ _ h => h) hS0 (by rfl) ?_ ?_
        rotate_left
        · intro w9 hSw
          try dsimp only at hSw
          obtain ⟨s0, s1, s2, s3, s4⟩ := hSw
          go_simp
          try with_reducible rfl
        try simp only [Act.put, List.setIfInBounds_toArray, List.set_cons_zero, List.set_cons_succ]
        refine wpAnyE_take (i := 17) (v := ?_) rfl (by kernel_rfl) (by kernel_rfl) (by kernel_rfl) (by kernel_rfl) (by kernel_rfl) (fun _ _ _ h => h) hS0 (by rfl) ?_ ?_
        rotate_left
        · intro w9 hSw
          try dsimp only at hSw
          obtain ⟨s0, s1, s2, s3, s4⟩ := hSw
          go_simp
          try with_reducible rfl
        try simp only [Act.put, List.setIfInBounds_toArray, List.set_cons_zero, List.set_cons_succ]
        refine wpAnyE_take (i := 18) (v := ?_) rfl (by kernel_rfl) (by kernel_rfl) (by kernel_rfl) (by kernel_rfl) (by kernel_rfl) (fun _ _ _ h => h) hS0 (by rfl) ?_ ?_
        rotate_left
        · intro w9 hSw
          try dsimp only at hSw
          obtain ⟨s0, s1, s2, s3, s4⟩ := hSw
          go_simp
          try with_reducible rfl
        try simp only [Act.put, List.setIfInBounds_toArray, List.set_cons_zero, List.set_cons_succ]
        refine wpAnyE_take (i := 19) (v := ?_) rfl (by kernel_rfl) (by kernel_rfl) (by kernel_rfl) (by kernel_rfl) (by kernel_rfl) (fun _ _ _ h => h) hS0 (by rfl) ?_ ?_
        rotate_left
        · intro w9 hSw
          try dsimp only at hSw
          obtain ⟨s0, s1, s2, s3, s4⟩ := hSw
          go_simp
          try with_reducible rfl
        try simp only [Act.put, List.setIfInBounds_toArray, List.set_cons_zero, List.set_cons_succ]
        refine wpAnyE_one (i := 20) rfl (by kernel_rfl) (fun K hK => ?_)
        go_simp
        refine hK.out _ _ (fun h => absurd rfl h) ?_
        clear hK K
        try simp only [Act.put, List.setIfInBounds_toArray, List.set_cons_zero, List.set_cons_succ]
        refine wpAnyE_done (by kernel_rfl) ?_
        have hMn := hset'.out _ _ ((hr.now hBd).set1 s (by simpa using hsn) (if delF m (gp.take k) d s < gp[k].delay then gp[k].delay else delF m (gp.take k) d s)) (grown_set (p := ⟨b, s, none⟩) (grown_of_below hBd) rfl _)
        rw [matF_upd, ← hS3.out] at hMn
        have hBn := (hBr.trans (hBd.mono hBr.size)).setCell (p := ⟨b, s, none⟩) hbB (.int .i64 (if delF m (gp.take k) d s < gp[k].delay then gp[k].delay else delF m (gp.take k) d s))
        go_wp2
        go_roundw
        case rel => exact ⟨k + 1, hlt, by go_num, hMn, hBn⟩
        case measure => simp [intOf]; omega
      · have hS2 := hS'.out
        rw [if_neg htk] at hS2
        have hS3 := Lib.hid hS2
        have hq : (gp[k].tokens == m) = false := by simpa using htk
        clear hS' hS2 htk
        have hM' : OwnM (wr.alloc (.cells #[.int .i64 s, .int .i64 d, .int .i64 gp[k].delay, .int .i64 gp[k].tokens] 46)) W.heap.size (.slice A1 n c1) (matF n (delF m (gp.take (k + 1))) n) := by rw [hS3.out]; exact hM.now ((Below.refl _ _).alloc (Nat.le_refl _) _)
        go_wp2
        go_roundw
        case rel => exact ⟨k + 1, hlt, by go_num, hM', hBr.alloc hBr.size _⟩
        case measure => simp [intOf]; omega
    · obtain rfl : k = gp.length := by omega
      rw [List.take_length] at hM
      go_wp2
      go_ret
      exact ⟨_, rfl, hM.rebase hWs, hW.trans (hBr.mono hWs)⟩
end Go.Proofs.Ytcoomogabicfnaa
