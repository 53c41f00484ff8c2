/-
  The walks of the program's and the reference's matrices of weights.
-/
import Derived.Test.YtcoomogabicfnaaStar
import Derived.Test.YtcoomogabicfnaaStarB
import Derived.Test.YtcoomogabicfnaaPotA
namespace Go.Proofs.Ytcoomogabicfnaa
open Go.RowKit
set_option linter.unusedVariables false
set_option linter.unusedSimpArgs false
def bnd (n : Nat) (F : Nat → Nat → Int) : Prop := ∀ i j, i < n → j < n → (-5000000000000 ≤ F i j ∧ F i j ≤ 5000000000000 ∨ F i j = bot)
theorem mat_row {w : World} {B : Nat} {u : Value} {n m : Nat} {F : Nat → Nat → Int} (h : LstM w B u (matF n F m)) (i : Nat) (hi : i < m) (hn : 0 < n) :
    ∃ b off c rb ro rc, u = .slice (some ⟨b, off, none⟩) m c ∧ b < B ∧ w.cell? ⟨b, off + i, none⟩ = some (.slice (some ⟨rb, ro, none⟩) n rc) ∧ rb < B ∧ ∀ j, j < n → w.cell? ⟨rb, ro + j, none⟩ = some (.int .i64 (F i j)) := by
  obtain ⟨b, off, c, rb, ro, rc, hu, hb, hc, hrb, _⟩ := mat_at h i 0 hi hn
  refine ⟨b, off, c, rb, ro, rc, hu, hb, hc, hrb, fun j hj => ?_⟩
  obtain ⟨b', off', c', rb', ro', rc', hu', _, hc', _, hx⟩ := mat_at h i j hi hj
  rw [hu] at hu'
  cases hu'
  rw [hc] at hc'
  injection hc' with hc'
  injection hc' with hc' _ _
  injection hc' with hc'
  injection hc' with h1 h2 _
  subst h1
  subst h2
  exact hx
theorem sumT_if (n : Nat) (f : Nat → Int) : sumT (n + 1) f = if sumT n f < f n then f n else sumT n f := max_if _ _
set_option maxHeartbeats 4000000 in
set_option maxRecDepth 100000 in
theorem impl_multiply1 (i j n ga gb : Nat) (F G : Nat → Nat → Int) (u v : Value) (w : World) (hi : i < n) (hj : j < n) (hx : Blk w ga 28 #[u]) (hy : Blk w gb 28 #[v])
    (h1 : LstM w w.heap.size u (matF n F n)) (h2 : LstM w w.heap.size v (matF n G n)) (hF : Hid (bnd n F)) (hG : Hid (bnd n G)) (hn : n ≤ 1000) :
    Calls Try.prog 61 #[.int .i64 i, .int .i64 j, .pointer (some ⟨ga, 0, none⟩), .pointer (some ⟨gb, 0, none⟩)] w fun e w' => e = .returned (.int .i64 (mulF n F G i j)) ∧ Below w.heap.size w w' := by
  obtain ⟨b1, o1, c, r1, p1, c1, rfl, hb1, x1, _, x2⟩ := mat_row h1 i hi (by omega)
  obtain ⟨b2, o2, d, _, _, _, rfl, hb2, _, _, _⟩ := mat_at h2 0 j (by omega) hj
  have x0 : w.cell? ⟨ga, 0, none⟩ = some (.slice (some ⟨b1, o1, none⟩) n c) := by simpa using hx.cell 0
  have y0 : w.cell? ⟨gb, 0, none⟩ = some (.slice (some ⟨b2, o2, none⟩) n d) := by simpa using hy.cell 0
  have x2' := Lib.hid x2
  clear hx hy h1 x2
  go_enter Try.func61, Try.ntmps61
  go_wp2
  go_loop [7, 8, 9, 15] (fun s _ _ q => ∃ k : Nat, k ≤ n ∧ q = .int .i64 k ∧ s = .int .i64 (sumT k fun k => tms (F i k) (G k j))) (fun _ _ _ q => n - (intOf q).toNat)
  case atStart => exact ⟨0, Nat.zero_le _, rfl, rfl⟩
  case round =>
    obtain ⟨k, hk, rfl, rfl⟩ := hrel
    by_cases hlt : k < n
    · have x2 := x2'.out k hlt
      obtain ⟨_, _, _, r2, p2, c2, hu, _, y1, _, y2⟩ := mat_at h2 k j hlt hj
      cases hu
      have htm := Lib.hid (fun W => impl_times (F i k) (G k j) W (hF.out i k hi hlt) (hG.out k j hlt hj))
      have hE : Hid (sumT (k + 1) (fun k => tms (F i k) (G k j)) = if sumT k (fun k => tms (F i k) (G k j)) < tms (F i k) (G k j) then tms (F i k) (G k j) else sumT k (fun k => tms (F i k) (G k j))) := sumT_if _ _
      have hE1 := hE.out
      have hE2 := Lib.hid hE1
      clear hE1
      by_cases hle : sumT k (fun k => tms (F i k) (G k j)) < tms (F i k) (G k j)
      · rw [if_pos hle] at hE
        go_wp2_with (go_at_call 62; refine (htm.out _).mono ?_; rintro e9 w9 ⟨rfl, rfl⟩)
        go_round
        case rel => exact ⟨k + 1, hlt, by go_num, by rw [hE.out]⟩
        case measure => simp [intOf]; omega
      · rw [if_neg hle] at hE
        go_wp2_with (go_at_call 62; refine (htm.out _).mono ?_; rintro e9 w9 ⟨rfl, rfl⟩)
        go_round
        case rel => exact ⟨k + 1, hlt, by go_num, by rw [hE.out]⟩
        case measure => simp [intOf]; omega
    · obtain rfl : k = n := by omega
      go_wp2
      go_ret
      exact ⟨rfl, Below.refl _ _⟩
set_option maxHeartbeats 4000000 in
set_option maxRecDepth 100000 in
theorem impl_multiply (u v : Value) (n : Nat) (F G : Nat → Nat → Int) (w : World) (h1 : LstM w w.heap.size u (matF n F n)) (h2 : LstM w w.heap.size v (matF n G n)) (hF : Hid (bnd n F)) (hG : Hid (bnd n G)) (hn : 1 ≤ n) (hn2 : n ≤ 1000) :
    Calls Try.prog 40 #[u, v] w (RetM w (matF n (mulF n F G) n)) := by
  obtain ⟨b1, o1, c, _, _, _, rfl, hb1, _, _, _⟩ := mat_at h1 0 0 hn hn
  obtain ⟨b2, o2, d, r1, p1, c1, rfl, hb2, x1, _, _⟩ := mat_at h2 0 0 hn hn
  go_enter Try.func40, Try.ntmps40
  go_wp2_with fail
  clear hb1 hb2
  have hW : Below w.heap.size w ((w.alloc (.cells #[.slice (some ⟨b1, o1, none⟩) n c] 28)).alloc (.cells #[.slice (some ⟨b2, o2, none⟩) n d] 28)) := (((Below.refl _ _).alloc (Nat.le_refl _) _).alloc (by first | (simp; done) | (simp; omega)) _); have hb0 : Blk ((w.alloc (.cells #[.slice (some ⟨b1, o1, none⟩) n c] 28)).alloc (.cells #[.slice (some ⟨b2, o2, none⟩) n d] 28)) (w.heap.size) 28 #[.slice (some ⟨b1, o1, none⟩) n c] := ((Blk.newAt w _ (by first | rfl | (simp; done) | (simp; omega))).alloc _); have hb1 : Blk ((w.alloc (.cells #[.slice (some ⟨b1, o1, none⟩) n c] 28)).alloc (.cells #[.slice (some ⟨b2, o2, none⟩) n d] 28)) (w.heap.size + 1) 28 #[.slice (some ⟨b2, o2, none⟩) n d] := (Blk.newAt (w.alloc (.cells #[.slice (some ⟨b1, o1, none⟩) n c] 28)) _ (by first | rfl | (simp; done) | (simp; omega))); replace h1 := h1.now hW; replace h2 := h2.now hW; have hsW : w.heap.size + 2 = ((w.alloc (.cells #[.slice (some ⟨b1, o1, none⟩) n c] 28)).alloc (.cells #[.slice (some ⟨b2, o2, none⟩) n d] 28)).heap.size := (by first | rfl | (simp; done) | (simp; omega)); generalize ((w.alloc (.cells #[.slice (some ⟨b1, o1, none⟩) n c] 28)).alloc (.cells #[.slice (some ⟨b2, o2, none⟩) n d] 28)) = W at *; replace hsW := Lib.hid hsW
  have hb1' := hb1
  replace x1 := cell_keep x1 hW
  have hBd : Below W.heap.size W W.drew := Below.drew (Below.refl _ W)
  have g0 := hb0.now hBd
  have g1 := hb1'.now hBd
  replace h1 := h1.now hBd
  replace h2 := h2.now hBd
  have hcall := Lib.hid (m_matrixBy _ (run_enter Try.func61 (by kernel_rfl) (by kernel_rfl)) #[.pointer (some ⟨w.heap.size, 0, none⟩), .pointer (some ⟨w.heap.size + 1, 0, none⟩)] n n (mulF n F G) W.drew hn2 hn2 (fun i j hi hj V hV => impl_multiply1 i j n _ _ F G _ _ V hi hj (g0.now hV) (g1.now hV) (h1.now hV) (h2.now hV) hF hG hn2))
  have z0 : W.drew.cell? ⟨w.heap.size, 0, none⟩ = some (.slice (some ⟨b1, o1, none⟩) n c) := by simpa using g0.cell 0
  have z1 : W.drew.cell? ⟨w.heap.size + 1, 0, none⟩ = some (.slice (some ⟨b2, o2, none⟩) n d) := by simpa using g1.cell 0
  have z2 : W.drew.cell? ⟨b2, o2, none⟩ = some (.slice (some ⟨r1, p1, none⟩) n c1) := by simpa using cell_keep x1 hBd
  have i1 : 0 < n := by omega
  clear h1 h2 g0 g1 hb0 hb1' x1
  go_wp2_with fail
  refine wp_region_held_drew (S := fun w' => w'.cell? ⟨w.heap.size, 0, none⟩ = some (.slice (some ⟨b1, o1, none⟩) n c) ∧ w'.cell? ⟨w.heap.size + 1, 0, none⟩ = some (.slice (some ⟨b2, o2, none⟩) n d) ∧ w'.cell? ⟨b2, o2, none⟩ = some (.slice (some ⟨r1, p1, none⟩) n c1)) (by kernel_rfl) ⟨z0, z1, z2⟩ (fun hH => ?_)
  refine tkH 0 (v := ?_) rfl (fun _ _ _ h => h) (Or.inl ⟨by rfl, ?_⟩) hH ?_
  rotate_left
  · intro w9 hSw
    try dsimp only at hSw
    obtain ⟨s0, s1, s2⟩ := hSw
    go_simp
    try with_reducible rfl
  try simp only [Act.put, List.setIfInBounds_toArray, List.set_cons_zero, List.set_cons_succ]
  refine tkH 1 (v := ?_) rfl (fun _ _ _ h => h) (Or.inl ⟨by rfl, ?_⟩) hH ?_
  rotate_left
  · intro w9 hSw
    try dsimp only at hSw
    obtain ⟨s0, s1, s2⟩ := hSw
    go_simp
    try with_reducible rfl
  try simp only [Act.put, List.setIfInBounds_toArray, List.set_cons_zero, List.set_cons_succ]
  refine tkH 2 (v := ?_) rfl (fun _ _ _ h => h) (Or.inl ⟨by rfl, ?_⟩) hH ?_
  rotate_left
  · intro w9 hSw
    try dsimp only at hSw
    obtain ⟨s0, s1, s2⟩ := hSw
    go_simp
    try with_reducible rfl
  try simp only [Act.put, List.setIfInBounds_toArray, List.set_cons_zero, List.set_cons_succ]
  refine tkH 3 (v := ?_) rfl (fun _ _ _ h => h) (Or.inl ⟨by rfl, ?_⟩) hH ?_
  rotate_left
  · intro w9 hSw
    try dsimp only at hSw
    obtain ⟨s0, s1, s2⟩ := hSw
    go_simp
    try with_reducible rfl
  try simp only [Act.put, List.setIfInBounds_toArray, List.set_cons_zero, List.set_cons_succ]
  refine tkH 4 (v := ?_) rfl (fun _ _ _ h => h) (Or.inl ⟨by rfl, ?_⟩) hH ?_
  rotate_left
  · intro w9 hSw
    try dsimp only at hSw
    obtain ⟨s0, s1, s2⟩ := hSw
    go_simp
    try with_reducible rfl
  try simp only [Act.put, List.setIfInBounds_toArray, List.set_cons_zero, List.set_cons_succ]
  refine tkH 5 (v := ?_) rfl (fun _ _ _ h => h) (Or.inl ⟨by rfl, ?_⟩) hH ?_
  rotate_left
  · intro w9 hSw
    try dsimp only at hSw
    obtain ⟨s0, s1, s2⟩ := hSw
    go_simp
    try with_reducible rfl
  try simp only [Act.put, List.setIfInBounds_toArray, List.set_cons_zero, List.set_cons_succ]
  refine tkH 6 (v := ?_) rfl (fun _ _ _ h => h) (Or.inl ⟨by rfl, ?_⟩) hH ?_
  rotate_left
  · intro w9 hSw
    try dsimp only at hSw
    obtain ⟨s0, s1, s2⟩ := hSw
    go_simp
    try with_reducible rfl
  try simp only [Act.put, List.setIfInBounds_toArray, List.set_cons_zero, List.set_cons_succ]
  refine wpAnyH_ready (rs := [7]) (by kernel_rfl) (by simp) ?_
  refine AllReadyH.cons rfl (fun K hK => ?_) AllReadyH.nil
  go_simp
  go_at_call 24
  refine (hcall.out).mono ?_
  rintro e9 w9 ⟨v9, rfl, hM, hB⟩
  have z0a := cell_keep (w := W.drew) z0 hB
  have z1a := cell_keep (w := W.drew) z1 hB
  have z2a := cell_keep (w := W.drew) z2 hB
  refine hK.out _ _ ⟨z0a, z1a, z2a⟩ (fun hH => ?_)
  clear hK K
  try simp only [Act.put, List.setIfInBounds_toArray, List.set_cons_zero, List.set_cons_succ]
  refine tkH 8 (v := ?_) rfl (fun _ _ _ h => h) (Or.inl ⟨by rfl, ?_⟩) hH ?_
  rotate_left
  · intro w9 hSw
    try dsimp only at hSw
    obtain ⟨s0, s1, s2⟩ := hSw
    go_simp
    try with_reducible rfl
  try simp only [Act.put, List.setIfInBounds_toArray, List.set_cons_zero, List.set_cons_succ]
  refine wpAnyH_done (by kernel_rfl) ?_ _
  go_wp2
  go_ret
  exact ⟨_, rfl, hM.rebase (Nat.le_trans hW.size (Nat.le_refl _)), hW.trans ((hBd.trans (hB.mono (Nat.le_refl _))).mono hW.size)⟩
def appF (n : Nat) (F : Nat → Nat → Int) (z : Nat → Int) (i : Nat) : Int := sumT n fun k => tms (F i k) (z k)
set_option maxHeartbeats 4000000 in
set_option maxRecDepth 100000 in
theorem impl_timesVector (u v : Value) (n : Nat) (F : Nat → Nat → Int) (z : Nat → Int) (w : World) (h1 : LstM w w.heap.size u (matF n F n)) (h2 : Lst intCell 1 w w.heap.size v ((List.range n).map z)) (hF : Hid (bnd n F)) (hz : Hid (∀ k, k < n → -5000000000000 ≤ z k ∧ z k ≤ 5000000000000)) (hn : 1 ≤ n) (hn2 : n ≤ 1000) :
    Calls Try.prog 64 #[u, v] w (RetOwn intCell 1 2 w ((List.range n).map (appF n F z))) := by
  obtain ⟨b1, o1, c, _, _, _, rfl, hb1, _, _, _⟩ := mat_at h1 0 0 hn hn
  obtain ⟨A2, c2, rfl⟩ := h2.shape
  rw [List.length_map, List.length_range] at h2 ⊢
  obtain ⟨xb, xo, rfl, hxb, _⟩ := ints_at h2 0 (by simp; omega)
  have hmk2 := run_make_lst (P := Try.prog) intCell 1 intCell_len (by omega) (0 : Int) 50 2 _ 8 Try.underlying50 info_i64 rfl .i64 .i64 n (by omega) (by omega)
  have hm3 := fun w => (hmk2 w).1
  have hm4 := Lib.hid ((hmk2 w).2 w.heap.size (Nat.le_refl _))
  clear hmk2
  go_enter Try.func64, Try.ntmps64
  go_wp2
  clear hm3
  go_loopw [6, 7, 8, 9, 15] (fun _ _ _ _ q wr => ∃ i : Nat, i ≤ n ∧ q = .int .i64 i ∧ Own intCell 1 2 wr w.heap.size (.slice (some ⟨w.heap.size, 0, none⟩) n n) (rowF n (appF n F z) i) ∧ Below w.heap.size w wr) (fun _ _ _ _ q _ => n - (intOf q).toNat)
  case atStart => exact ⟨0, Nat.zero_le _, rfl, by rw [rowF_zero]; simpa using hm4.out, (Below.refl _ _).alloc (Nat.le_refl _) _⟩
  case round =>
    clear hm4
    obtain ⟨i, hi, rfl, hO, hB⟩ := hrel
    by_cases hlt : i < n
    · obtain ⟨_, _, _, r1, p1, c1, hu, hr1, x1, _, x2⟩ := mat_row (h1.now hB) i hlt (by omega)
      cases hu
      have hr1' : r1 < w.heap.size := by
        obtain ⟨_, _, _, r1', p1', c1', hu, hr2, x1', hr3, _⟩ := mat_row h1 i hlt (by omega)
        cases hu
        have := cell_keep x1' hB
        rw [x1] at this
        injection this with this
        injection this with this _ _
        injection this with this
        injection this with this _ _
        omega
      have x2' := Lib.hid x2
      clear x2
      obtain ⟨hob, hol, hof, _⟩ := own_ints_at hO i (by rw [rowF_len _ _ _ hi]; exact hlt)
      have hO1 := hO.set1 i (by rw [rowF_len _ _ _ hi]; exact hlt) (-1000000000000000)
      have hB1 := hB.setCell (p := ⟨w.heap.size, i, none⟩) (Nat.le_refl _) (.int .i64 (-1000000000000000))
      have hO1' := Lib.hid hO1
      have hB1' := Lib.hid hB1
      have x2'' : Hid (∀ j, j < n → (wr.setCell ⟨w.heap.size, i, none⟩ (.int .i64 (-1000000000000000))).cell? ⟨r1, p1 + j, none⟩ = some (.int .i64 (F i j))) := fun j hj => (World.cell?_setCell_far wr _ _ _ (by show w.heap.size ≠ r1; omega)).trans (x2'.out j hj)
      clear hO1 hB1
      go_wp2
      clear hof x1 hO hB x2'
      generalize hVV : wr.setCell ⟨w.heap.size, i, none⟩ (.int .i64 (-1000000000000000)) = V at *
      clear hVV
      go_loopw [8, 9, 25] (fun _ _ q wr => ∃ k : Nat, k ≤ n ∧ q = .int .i64 k ∧ Own intCell 1 2 wr w.heap.size (.slice (some ⟨w.heap.size, 0, none⟩) n n) ((rowF n (appF n F z) i).set i (sumT k fun k => tms (F i k) (z k))) ∧ Below w.heap.size w wr ∧ Hid (∀ j, j < n → wr.cell? ⟨r1, p1 + j, none⟩ = some (.int .i64 (F i j)))) (fun _ _ q _ => n - (intOf q).toNat)
      case atStart => exact ⟨0, Nat.zero_le _, rfl, hO1'.out, hB1'.out, x2''⟩
      case round =>
        clear hO1' hB1' x2''
        obtain ⟨k, hk, rfl, hO, hB, hX⟩ := hrel
        by_cases hlt2 : k < n
        · have x2 := hX.out k hlt2
          obtain ⟨_, _, hh, hxb2, y1⟩ := ints_at (h2.now hB) k (by simpa using hlt2)
          cases hh
          rw [List.getElem_map, List.getElem_range] at y1
          obtain ⟨hob, hol, hof, hs⟩ := own_ints_at hO i (by simp [rowF_len _ _ _ hi]; exact hlt)
          rw [List.getElem_set_self] at hs
          have htm := Lib.hid (fun W => impl_times (F i k) (z k) W (hF.out i k hlt hlt2) (.inl (hz.out k hlt2)))
          have hE : Hid (sumT (k + 1) (fun k => tms (F i k) (z k)) = if sumT k (fun k => tms (F i k) (z k)) < tms (F i k) (z k) then tms (F i k) (z k) else sumT k (fun k => tms (F i k) (z k))) := sumT_if _ _
          obtain ⟨sv, hsv⟩ : ∃ sv, sumT k (fun k => tms (F i k) (z k)) = sv := ⟨_, rfl⟩
          have hBd : Below wr.heap.size wr wr.drew := Below.drew (Below.refl _ wr)
          have hOn := ((hO.now hBd).set1 i (by simp [rowF_len _ _ _ hi]; exact hlt) (if sv < tms (F i k) (z k) then tms (F i k) (z k) else sv))
          rw [List.set_set, ← hsv, ← hE.out] at hOn
          have hBn := (hB.trans (hBd.mono hB.size)).setCell (p := ⟨w.heap.size, i, none⟩) (Nat.le_refl _) (.int .i64 (sumT (k + 1) fun k => tms (F i k) (z k)))
          rw [hE.out] at hOn hBn
          rw [hsv] at hs hOn hBn
          have hXn : Hid (∀ j, j < n → (wr.drew.setCell ⟨w.heap.size, i, none⟩ (.int .i64 (if sv < tms (F i k) (z k) then tms (F i k) (z k) else sv))).cell? ⟨r1, p1 + j, none⟩ = some (.int .i64 (F i j))) := fun j hj => (World.cell?_setCell_far wr.drew _ _ _ (by show w.heap.size ≠ r1; omega)).trans (hX.out j hj)
          have hE' := hE.out
          rw [hsv] at hE'
          have hE2 := Lib.hid hE'
          clear hE hE' hsv
          have hOn' := Lib.hid hOn
          have hBn' := Lib.hid hBn
          have z0 := cell_keep hs hBd
          have z1 := cell_keep y1 hBd
          have i1 : (0 : Int) ≤ (i : Int) := by omega
          have i2 : (i : Int) < (n : Int) := by omega
          clear hOn hBn hO hB hX hs y1
          go_wp2_with fail
          refine wp_region_E (fun w' => w'.cell? ⟨w.heap.size, i, none⟩ = some (.int .i64 sv) ∧ w'.cell? ⟨xb, xo + k, none⟩ = some (.int .i64 (z k))) 14 (by kernel_rfl) ?_
          have hS0 : (fun w' : World => w'.cell? ⟨w.heap.size, i, none⟩ = some (.int .i64 sv) ∧ w'.cell? ⟨xb, xo + k, none⟩ = some (.int .i64 (z k))) wr.drew := ⟨z0, z1⟩
          refine wpAnyE_take (i := 0) (v := ?_) rfl (by kernel_rfl) (by kernel_rfl) (by kernel_rfl) (by kernel_rfl) (by kernel_rfl) (fun _ _ _ h => h) hS0 (by rfl) ?_ ?_
          rotate_left
          · intro w9 hSw
            try dsimp only at hSw
            obtain ⟨s0, s1⟩ := hSw
            go_simp
            try with_reducible rfl
          try simp only [Act.put, List.setIfInBounds_toArray, List.set_cons_zero, List.set_cons_succ]
          refine wpAnyE_take (i := 1) (v := ?_) rfl (by kernel_rfl) (by kernel_rfl) (by kernel_rfl) (by kernel_rfl) (by kernel_rfl) (fun _ _ _ h => h) hS0 (by rfl) ?_ ?_
          rotate_left
          · intro w9 hSw
            try dsimp only at hSw
            obtain ⟨s0, s1⟩ := hSw
            go_simp
            try with_reducible rfl
          try simp only [Act.put, List.setIfInBounds_toArray, List.set_cons_zero, List.set_cons_succ]
          refine wpAnyE_take (i := 2) (v := ?_) rfl (by kernel_rfl) (by kernel_rfl) (by kernel_rfl) (by kernel_rfl) (by kernel_rfl) (fun _ _ _ h => h) hS0 (by rfl) ?_ ?_
          rotate_left
          · intro w9 hSw
            try dsimp only at hSw
            obtain ⟨s0, s1⟩ := hSw
            go_simp
            try with_reducible rfl
          try simp only [Act.put, List.setIfInBounds_toArray, List.set_cons_zero, List.set_cons_succ]
          refine wpAnyE_take (i := 3) (v := ?_) rfl (by kernel_rfl) (by kernel_rfl) (by kernel_rfl) (by kernel_rfl) (by kernel_rfl) (fun _ _ _ h => h) hS0 (by rfl) ?_ ?_
          rotate_left
          · intro w9 hSw
            try dsimp only at hSw
            obtain ⟨s0, s1⟩ := hSw
            go_simp
            try with_reducible rfl
          try simp only [Act.put, List.setIfInBounds_toArray, List.set_cons_zero, List.set_cons_succ]
          refine wpAnyE_take (i := 4) (v := ?_) rfl (by kernel_rfl) (by kernel_rfl) (by kernel_rfl) (by kernel_rfl) (by kernel_rfl) (fun _ _ _ h => h) hS0 (by rfl) ?_ ?_
          rotate_left
          · intro w9 hSw
            try dsimp only at hSw
            obtain ⟨s0, s1⟩ := hSw
            go_simp
            try with_reducible rfl
          try simp only [Act.put, List.setIfInBounds_toArray, List.set_cons_zero, List.set_cons_succ]
          refine wpAnyE_take (i := 5) (v := ?_) rfl (by kernel_rfl) (by kernel_rfl) (by kernel_rfl) (by kernel_rfl) (by kernel_rfl) (fun _ _ _ h => h) hS0 (by rfl) ?_ ?_
          rotate_left
          · intro w9 hSw
            try dsimp only at hSw
            obtain ⟨s0, s1⟩ := hSw
            go_simp
            try with_reducible rfl
          try simp only [Act.put, List.setIfInBounds_toArray, List.set_cons_zero, List.set_cons_succ]
          refine wpAnyE_take (i := 6) (v := ?_) rfl (by kernel_rfl) (by kernel_rfl) (by kernel_rfl) (by kernel_rfl) (by kernel_rfl) (fun _ _ _ h => h) hS0 (by rfl) ?_ ?_
          rotate_left
          · intro w9 hSw
            try dsimp only at hSw
            obtain ⟨s0, s1⟩ := hSw
            go_simp
            try with_reducible rfl
          try simp only [Act.put, List.setIfInBounds_toArray, List.set_cons_zero, List.set_cons_succ]
          refine wpAnyE_take (i := 7) (v := ?_) rfl (by kernel_rfl) (by kernel_rfl) (by kernel_rfl) (by kernel_rfl) (by kernel_rfl) (fun _ _ _ h => h) hS0 (by rfl) ?_ ?_
          rotate_left
          · intro w9 hSw
            try dsimp only at hSw
            obtain ⟨s0, s1⟩ := hSw
            go_simp
            try with_reducible rfl
          try simp only [Act.put, List.setIfInBounds_toArray, List.set_cons_zero, List.set_cons_succ]
          refine wpAnyE_take (i := 8) (v := ?_) rfl (by kernel_rfl) (by kernel_rfl) (by kernel_rfl) (by kernel_rfl) (by kernel_rfl) (fun _ _ _ h => h) hS0 (by rfl) ?_ ?_
          rotate_left
          · intro w9 hSw
            try dsimp only at hSw
            obtain ⟨s0, s1⟩ := hSw
            go_simp
            try with_reducible rfl
          try simp only [Act.put, List.setIfInBounds_toArray, List.set_cons_zero, List.set_cons_succ]
          refine wpAnyE_take (i := 9) (v := ?_) rfl (by kernel_rfl) (by kernel_rfl) (by kernel_rfl) (by kernel_rfl) (by kernel_rfl) (fun _ _ _ h => h) hS0 (by rfl) ?_ ?_
          rotate_left
          · intro w9 hSw
            try dsimp only at hSw
            obtain ⟨s0, s1⟩ := hSw
            go_simp
            try with_reducible rfl
          try simp only [Act.put, List.setIfInBounds_toArray, List.set_cons_zero, List.set_cons_succ]
          refine wpAnyE_take (i := 10) (v := ?_) rfl (by kernel_rfl) (by kernel_rfl) (by kernel_rfl) (by kernel_rfl) (by kernel_rfl) (fun _ _ _ h => h) hS0 (by rfl) ?_ ?_
          rotate_left
          · intro w9 hSw
            try dsimp only at hSw
            obtain ⟨s0, s1⟩ := hSw
            go_simp
            try with_reducible rfl
          try simp only [Act.put, List.setIfInBounds_toArray, List.set_cons_zero, List.set_cons_succ]
          refine wpAnyE_one (i := 11) rfl (by kernel_rfl) (fun K hK => ?_)
          go_simp
          go_at_call 62
          refine (htm.out _).mono ?_
          rintro e9 w9 ⟨rfl, rfl⟩
          refine hK.out _ _ (fun _ => ⟨z0, z1⟩) ?_
          clear hK K
          try simp only [Act.put, List.setIfInBounds_toArray, List.set_cons_zero, List.set_cons_succ]
          refine wpAnyE_one (i := 12) rfl (by kernel_rfl) (fun K hK => ?_)
          go_simp
          refine hK.out _ _ (fun _ => ⟨z0, z1⟩) ?_
          clear hK K
          try simp only [Act.put, List.setIfInBounds_toArray, List.set_cons_zero, List.set_cons_succ]
          refine wpAnyE_one (i := 13) rfl (by kernel_rfl) (fun K hK => ?_)
          go_simp
          refine hK.out _ _ (fun _ => ⟨z0, z1⟩) ?_
          clear hK K
          try simp only [Act.put, List.setIfInBounds_toArray, List.set_cons_zero, List.set_cons_succ]
          refine wpAnyE_one (i := 14) rfl (by kernel_rfl) (fun K hK => ?_)
          go_simp
          refine hK.out _ _ (fun h => absurd rfl h) ?_
          clear hK K
          try simp only [Act.put, List.setIfInBounds_toArray, List.set_cons_zero, List.set_cons_succ]
          refine wpAnyE_done (by kernel_rfl) ?_
          clear hS0 z0 z1 htm x2
          go_wp2
          go_roundw
          case rel => exact ⟨k + 1, hlt2, by go_num, by rw [hE2.out]; exact hOn'.out, hBn'.out, hXn⟩
          case measure => simp [intOf]; omega
        · obtain rfl : k = n := by omega
          have hOn := hO
          rw [show (sumT k fun k => tms (F i k) (z k)) = appF k F z i from rfl, rowF_set _ _ _ hlt] at hOn
          go_wp2
          go_roundw
          case rel => exact ⟨i + 1, hlt, by go_num, hOn, hB⟩
          case measure => simp [intOf]; omega
    · obtain rfl : i = n := by omega
      rw [rowF_all] at hO
      go_wp2
      go_ret
      exact ⟨_, rfl, hO, hB⟩
end Go.Proofs.Ytcoomogabicfnaa
namespace Go.Proofs.Ytcoomogabicfnaa
open Go.RowKit
set_option linter.unusedVariables false
set_option linter.unusedSimpArgs false
def wgtF (wt : Place → Int) (l : List Place) : Nat → Nat → Int := l.foldl (fun F p => updF F p.dst.toNat p.src.toNat (max (F p.dst.toNat p.src.toNat) (wt p))) (fun _ _ => bot)
theorem wgtF_succ (wt : Place → Int) (l : List Place) (k : Nat) (h : k < l.length) :
    wgtF wt (l.take (k + 1)) = updF (wgtF wt (l.take k)) l[k].dst.toNat l[k].src.toNat (max (wgtF wt (l.take k) l[k].dst.toNat l[k].src.toNat) (wt l[k])) := by
  unfold wgtF
  rw [take_succ_get _ _ h, List.foldl_append]
  rfl
theorem wgtF_fin {W : Int} (wt : Place → Int) (hW : W ≤ 10000000000000) : ∀ (l : List Place), (∀ p ∈ l, -W ≤ wt p ∧ wt p ≤ W) → ∀ i j, fin W (wgtF wt l i j) := by
  intro l
  have key : ∀ k, k ≤ l.length → (∀ p ∈ l, -W ≤ wt p ∧ wt p ≤ W) → ∀ i j, fin W (wgtF wt (l.take k) i j) := by
    intro k
    induction k with
    | zero => intro _ _ i j; simp only [List.take_zero, wgtF, List.foldl_nil]; exact .inl rfl
    | succ k ih =>
      intro hk h i j
      have h1 := ih (by omega) h
      rw [wgtF_succ wt l k (by omega)]
      unfold updF
      split
      · exact fin_max (h1 _ _) (.inr (h _ (List.getElem_mem _))) hW
      · exact h1 _ _
  intro h i j
  have := key l.length (Nat.le_refl _) h i j
  rwa [List.take_length] at this
theorem wgtF_ge (wt : Place → Int) (l : List Place) : ∀ i j, bot ≤ wgtF wt l i j := by
  have key : ∀ k, k ≤ l.length → ∀ i j, bot ≤ wgtF wt (l.take k) i j := by
    intro k
    induction k with
    | zero => intro _ i j; simp only [List.take_zero, wgtF, List.foldl_nil]; exact Int.le_refl _
    | succ k ih =>
      intro hk i j
      have h1 := ih (by omega)
      rw [wgtF_succ wt l k (by omega)]
      unfold updF
      split
      · have := h1 l[k].dst.toNat l[k].src.toNat
        omega
      · exact h1 _ _
  intro i j
  have := key l.length (Nat.le_refl _) i j
  rwa [List.take_length] at this
end Go.Proofs.Ytcoomogabicfnaa
