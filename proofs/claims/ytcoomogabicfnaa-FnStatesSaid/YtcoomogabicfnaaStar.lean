/-
  The walks of the program's star, product and the like.
-/
import Derived.Test.YtcoomogabicfnaaStarP
import Derived.Test.YtcoomogabicfnaaMatBy
namespace Go.Proofs.Ytcoomogabicfnaa
open Go.RowKit
set_option linter.unusedVariables false
set_option linter.unusedSimpArgs false
theorem mat_at {w : World} {B : Nat} {u : Value} {n m : Nat} {F : Nat → Nat → Int} (h : LstM w B u (matF n F m)) (i j : Nat) (hi : i < m) (hj : j < n) :
    ∃ b off c rb ro rc, u = .slice (some ⟨b, off, none⟩) m c ∧ b < B ∧ w.cell? ⟨b, off + i, none⟩ = some (.slice (some ⟨rb, ro, none⟩) n rc) ∧ rb < B ∧ w.cell? ⟨rb, ro + j, none⟩ = some (.int .i64 (F i j)) := by
  have hil : i < (matF n F m).length := by rw [matF_len]; exact hi
  obtain ⟨b, off, c, r, hu, hb, hc, hr⟩ := h.row i hil
  rw [matF_len] at hu
  rw [matF_get] at hr
  obtain ⟨R, rn, rc⟩ := r
  have hn := hr.len_le
  obtain ⟨rb, ro, c2, hv, hrb, hx⟩ := hr.at_ intCell_len j (by simpa using hj)
  have hx' := hx 0 (.int .i64 (F i j)) (by omega) (by simp [intCell])
  rw [List.length_map, List.length_range] at hv
  rw [hv] at hc
  exact ⟨b, off, c, rb, ro, _, hu, hb, hc, hrb, by simpa using hx'⟩
/-! ### elimination in place -/
def elimP (k : Nat) (S : Nat → Nat → Int) (i j : Nat) : Nat → Nat → Int := fun a b => if a < i ∨ (a = i ∧ b < j) then elimF k S a b else S a b
theorem tms_zero (x : Int) : tms x 0 = x := by
  unfold tms
  split
  · rename_i h
    rcases h with h | h
    · exact h.symm
    · cases h
  · omega
theorem zero_tms (x : Int) : tms 0 x = x := by
  unfold tms
  split
  · rename_i h
    rcases h with h | h
    · cases h
    · exact h.symm
  · omega
theorem elimF_col {k : Nat} {S : Nat → Nat → Int} (h : S k k = 0) (a : Nat) : elimF k S a k = S a k := by
  unfold elimF
  rw [h, tms_zero]
  omega
theorem elimF_row {k : Nat} {S : Nat → Nat → Int} (h : S k k = 0) (b : Nat) : elimF k S k b = S k b := by
  unfold elimF
  rw [h, zero_tms]
  omega
theorem elimP_col {k : Nat} {S : Nat → Nat → Int} (h : S k k = 0) (i j a : Nat) : elimP k S i j a k = S a k := by
  unfold elimP
  split
  · exact elimF_col h a
  · rfl
theorem elimP_row {k : Nat} {S : Nat → Nat → Int} (h : S k k = 0) (i j b : Nat) : elimP k S i j k b = S k b := by
  unfold elimP
  split
  · exact elimF_row h b
  · rfl
theorem elimP_at (k : Nat) (S : Nat → Nat → Int) (i j : Nat) : elimP k S i j i j = S i j := by
  unfold elimP
  rw [if_neg (by omega)]
theorem elimP_zero (k : Nat) (S : Nat → Nat → Int) : elimP k S 0 0 = S := by
  funext a b
  unfold elimP
  rw [if_neg (by omega)]
theorem elimP_step (k : Nat) (S : Nat → Nat → Int) (i j : Nat) : updF (elimP k S i j) i j (elimF k S i j) = elimP k S i (j + 1) := by
  funext a b
  unfold updF elimP
  by_cases h : a = i ∧ b = j
  · obtain ⟨rfl, rfl⟩ := h
    rw [if_pos ⟨rfl, rfl⟩, if_pos (by omega)]
  · rw [if_neg h]
    by_cases h2 : a < i ∨ a = i ∧ b < j
    · rw [if_pos h2, if_pos (by omega)]
    · rw [if_neg h2, if_neg (by omega)]
theorem matF_congr {n m : Nat} {F G : Nat → Nat → Int} (h : ∀ i j, i < m → j < n → F i j = G i j) : matF n F m = matF n G m := by
  unfold matF
  refine List.map_congr_left fun i hi => List.map_congr_left fun j hj => ?_
  exact h i j (List.mem_range.1 hi) (List.mem_range.1 hj)
theorem elimP_next (n k : Nat) (S : Nat → Nat → Int) (i m : Nat) : matF n (elimP k S i n) m = matF n (elimP k S (i + 1) 0) m := by
  refine matF_congr fun a b ha hb => ?_
  unfold elimP
  by_cases h : a < i ∨ a = i ∧ b < n
  · rw [if_pos h, if_pos (by omega)]
  · rw [if_neg h, if_neg (by omega)]
theorem elimP_done (n k : Nat) (S : Nat → Nat → Int) : matF n (elimP k S n 0) n = matF n (elimF k S) n := by
  refine matF_congr fun a b ha hb => ?_
  unfold elimP
  rw [if_pos (by omega)]
set_option maxHeartbeats 400000 in
set_option maxRecDepth 100000 in
theorem impl_times (a b : Int) (w : World) (ha : -5000000000000 ≤ a ∧ a ≤ 5000000000000 ∨ a = bot) (hb : -5000000000000 ≤ b ∧ b ≤ 5000000000000 ∨ b = bot) :
    Calls Try.prog 62 #[.int .i64 a, .int .i64 b] w fun e w' => e = .returned (.int .i64 (tms a b)) ∧ w = w' := by
  by_cases h1 : a = bot
  · have hE : Hid (tms a b = -1000000000000000) := by show _ = _; unfold tms; rw [if_pos (.inl h1)]; rfl
    have hq : (a == -1000000000000000) = true := by simpa [bot] using h1
    clear h1 ha hb
    go_enter Try.func62, Try.ntmps62
    go_wp2
    go_ret
    exact ⟨ret_int hE.out.symm, rfl⟩
  · have hq : (a == -1000000000000000) = false := by simpa [bot] using h1
    by_cases h2 : b = bot
    · have hE : Hid (tms a b = -1000000000000000) := by show _ = _; unfold tms; rw [if_pos (.inr h2)]; rfl
      have hq2 : (b == -1000000000000000) = true := by simpa [bot] using h2
      clear h1 h2 ha hb
      go_enter Try.func62, Try.ntmps62
      go_wp2
      go_ret
      exact ⟨ret_int hE.out.symm, rfl⟩
    · have hE : Hid (tms a b = a + b) := by show _ = _; unfold tms; rw [if_neg (by simp [h1, h2])]
      have hq2 : (b == -1000000000000000) = false := by simpa [bot] using h2
      have hsm : IntKind.i64.wrap (a + b) = a + b := IntWalk.i64_in _ (by rcases ha with ha | ha <;> rcases hb with hb | hb <;> first | omega | contradiction)
      clear h1 h2 ha hb
      go_enter Try.func62, Try.ntmps62
      go_wp2
      go_ret
      exact ⟨ret_int hE.out.symm, rfl⟩
set_option maxHeartbeats 400000 in
set_option maxRecDepth 100000 in
theorem impl_unitMatrix1 (i j : Nat) (w : World) :
    Calls Try.prog 96 #[.int .i64 i, .int .i64 j] w fun e w' => e = .returned (.int .i64 (unitF i j)) ∧ Below w.heap.size w w' := by
  by_cases h : i = j
  · have hE : Hid (unitF i j = 0) := if_pos h
    subst h
    have hq : ((i : Int) == (i : Int)) = true := by simp
    go_enter Try.func96, Try.ntmps96
    go_wp2
    go_ret
    exact ⟨ret_int hE.out.symm, Below.refl _ _⟩
  · have hE : Hid (unitF i j = -1000000000000000) := if_neg h
    have hq : ((i : Int) == (j : Int)) = false := by simpa using (by omega : ¬ (i : Int) = j)
    clear h
    go_enter Try.func96, Try.ntmps96
    go_wp2
    go_ret
    exact ⟨ret_int hE.out.symm, Below.refl _ _⟩
set_option maxHeartbeats 4000000 in
set_option maxRecDepth 100000 in
theorem impl_unitMatrix (n : Nat) (w : World) (hn : n ≤ 1000) :
    Calls Try.prog 75 #[.int .i64 n] w (RetM w (matF n unitF n)) := by
  have h1 := Lib.hid (m_matrixBy _ (run_enter Try.func96 (by kernel_rfl) (by kernel_rfl)) #[] n n unitF w hn hn fun i j _ _ W _ => impl_unitMatrix1 i j W)
  go_enter Try.func75, Try.ntmps75
  go_wp2_with fail
  refine h1.out.mono ?_
  rintro e w1 ⟨u, rfl, hM, hB⟩
  go_wp2
  go_ret
  exact ⟨_, rfl, hM, hB⟩
set_option maxHeartbeats 4000000 in
set_option maxRecDepth 100000 in
theorem impl_addMatrices1 (i j n ga gb : Nat) (F G : Nat → Nat → Int) (u v : Value) (w : World) (hi : i < n) (hj : j < n) (hx : Blk w ga 28 #[u]) (hy : Blk w gb 28 #[v])
    (h1 : LstM w w.heap.size u (matF n F n)) (h2 : LstM w w.heap.size v (matF n G n)) :
    Calls Try.prog 63 #[.int .i64 i, .int .i64 j, .pointer (some ⟨ga, 0, none⟩), .pointer (some ⟨gb, 0, none⟩)] w fun e w' => e = .returned (.int .i64 (maxF F G i j)) ∧ Below w.heap.size w w' := by
  obtain ⟨b1, o1, c, r1, p1, c1, rfl, hb1, x1, _, x2⟩ := mat_at h1 i j hi hj
  obtain ⟨b2, o2, d, r2, p2, c2, rfl, hb2, y1, _, y2⟩ := mat_at h2 i j hi hj
  have x0 : w.cell? ⟨ga, 0, none⟩ = some (.slice (some ⟨b1, o1, none⟩) n c) := by simpa using hx.cell 0
  have y0 : w.cell? ⟨gb, 0, none⟩ = some (.slice (some ⟨b2, o2, none⟩) n d) := by simpa using hy.cell 0
  have hE : Hid (maxF F G i j = if F i j < G i j then G i j else F i j) := max_if _ _
  have i1 : (0 : Int) ≤ (i : Int) := by omega
  have i2 : (i : Int) < (n : Int) := by omega
  have i3 : (0 : Int) ≤ (j : Int) := by omega
  have i4 : (j : Int) < (n : Int) := by omega
  clear hx hy h1 h2 hi hj
  go_enter Try.func63, Try.ntmps63
  go_wp2_with fail
  refine wp_region_held_drew (S := fun w' => w'.cell? ⟨ga, 0, none⟩ = some (.slice (some ⟨b1, o1, none⟩) n c) ∧ w'.cell? ⟨gb, 0, none⟩ = some (.slice (some ⟨b2, o2, none⟩) n d) ∧ w'.cell? ⟨b1, o1 + i, none⟩ = some (.slice (some ⟨r1, p1, none⟩) n c1) ∧ w'.cell? ⟨b2, o2 + i, none⟩ = some (.slice (some ⟨r2, p2, none⟩) n c2) ∧ w'.cell? ⟨r1, p1 + j, none⟩ = some (.int .i64 (F i j)) ∧ w'.cell? ⟨r2, p2 + j, none⟩ = some (.int .i64 (G i j))) (by kernel_rfl) ⟨x0, y0, x1, y1, x2, y2⟩ (fun hH => ?_)
  refine tkH 0 (v := ?_) rfl (fun _ _ _ h => h) (Or.inl ⟨by rfl, ?_⟩) hH ?_
  rotate_left
  · intro w9 hSw
    try dsimp only at hSw
    obtain ⟨s0, s1, s2, s3, s4, s5⟩ := hSw
    go_simp
    try with_reducible rfl
  try simp only [Act.put, List.setIfInBounds_toArray, List.set_cons_zero, List.set_cons_succ]
  refine tkH 1 (v := ?_) rfl (fun _ _ _ h => h) (Or.inl ⟨by rfl, ?_⟩) hH ?_
  rotate_left
  · intro w9 hSw
    try dsimp only at hSw
    obtain ⟨s0, s1, s2, s3, s4, s5⟩ := hSw
    go_simp
    try with_reducible rfl
  try simp only [Act.put, List.setIfInBounds_toArray, List.set_cons_zero, List.set_cons_succ]
  refine tkH 2 (v := ?_) rfl (fun _ _ _ h => h) (Or.inl ⟨by rfl, ?_⟩) hH ?_
  rotate_left
  · intro w9 hSw
    try dsimp only at hSw
    obtain ⟨s0, s1, s2, s3, s4, s5⟩ := hSw
    go_simp
    try with_reducible rfl
  try simp only [Act.put, List.setIfInBounds_toArray, List.set_cons_zero, List.set_cons_succ]
  refine tkH 3 (v := ?_) rfl (fun _ _ _ h => h) (Or.inl ⟨by rfl, ?_⟩) hH ?_
  rotate_left
  · intro w9 hSw
    try dsimp only at hSw
    obtain ⟨s0, s1, s2, s3, s4, s5⟩ := hSw
    go_simp
    try with_reducible rfl
  try simp only [Act.put, List.setIfInBounds_toArray, List.set_cons_zero, List.set_cons_succ]
  refine tkH 4 (v := ?_) rfl (fun _ _ _ h => h) (Or.inl ⟨by rfl, ?_⟩) hH ?_
  rotate_left
  · intro w9 hSw
    try dsimp only at hSw
    obtain ⟨s0, s1, s2, s3, s4, s5⟩ := hSw
    go_simp
    try with_reducible rfl
  try simp only [Act.put, List.setIfInBounds_toArray, List.set_cons_zero, List.set_cons_succ]
  refine tkH 5 (v := ?_) rfl (fun _ _ _ h => h) (Or.inl ⟨by rfl, ?_⟩) hH ?_
  rotate_left
  · intro w9 hSw
    try dsimp only at hSw
    obtain ⟨s0, s1, s2, s3, s4, s5⟩ := hSw
    go_simp
    try with_reducible rfl
  try simp only [Act.put, List.setIfInBounds_toArray, List.set_cons_zero, List.set_cons_succ]
  refine tkH 6 (v := ?_) rfl (fun _ _ _ h => h) (Or.inl ⟨by rfl, ?_⟩) hH ?_
  rotate_left
  · intro w9 hSw
    try dsimp only at hSw
    obtain ⟨s0, s1, s2, s3, s4, s5⟩ := hSw
    go_simp
    try with_reducible rfl
  try simp only [Act.put, List.setIfInBounds_toArray, List.set_cons_zero, List.set_cons_succ]
  refine tkH 7 (v := ?_) rfl (fun _ _ _ h => h) (Or.inl ⟨by rfl, ?_⟩) hH ?_
  rotate_left
  · intro w9 hSw
    try dsimp only at hSw
    obtain ⟨s0, s1, s2, s3, s4, s5⟩ := hSw
    go_simp
    try with_reducible rfl
  try simp only [Act.put, List.setIfInBounds_toArray, List.set_cons_zero, List.set_cons_succ]
  refine tkH 8 (v := ?_) rfl (fun _ _ _ h => h) (Or.inl ⟨by rfl, ?_⟩) hH ?_
  rotate_left
  · intro w9 hSw
    try dsimp only at hSw
    obtain ⟨s0, s1, s2, s3, s4, s5⟩ := hSw
    go_simp
    try with_reducible rfl
  try simp only [Act.put, List.setIfInBounds_toArray, List.set_cons_zero, List.set_cons_succ]
  refine tkH 9 (v := ?_) rfl (fun _ _ _ h => h) (Or.inl ⟨by rfl, ?_⟩) hH ?_
  rotate_left
  · intro w9 hSw
    try dsimp only at hSw
    obtain ⟨s0, s1, s2, s3, s4, s5⟩ := hSw
    go_simp
    try with_reducible rfl
  try simp only [Act.put, List.setIfInBounds_toArray, List.set_cons_zero, List.set_cons_succ]
  refine tkH 10 (v := ?_) rfl (fun _ _ _ h => h) (Or.inl ⟨by rfl, ?_⟩) hH ?_
  rotate_left
  · intro w9 hSw
    try dsimp only at hSw
    obtain ⟨s0, s1, s2, s3, s4, s5⟩ := hSw
    go_simp
    try with_reducible rfl
  try simp only [Act.put, List.setIfInBounds_toArray, List.set_cons_zero, List.set_cons_succ]
  refine tkH 11 (v := ?_) rfl (fun _ _ _ h => h) (Or.inl ⟨by rfl, ?_⟩) hH ?_
  rotate_left
  · intro w9 hSw
    try dsimp only at hSw
    obtain ⟨s0, s1, s2, s3, s4, s5⟩ := hSw
    go_simp
    try with_reducible rfl
  try simp only [Act.put, List.setIfInBounds_toArray, List.set_cons_zero, List.set_cons_succ]
  refine tkH 12 (v := ?_) rfl (fun _ _ _ h => h) (Or.inl ⟨by rfl, ?_⟩) hH ?_
  rotate_left
  · intro w9 hSw
    try dsimp only at hSw
    obtain ⟨s0, s1, s2, s3, s4, s5⟩ := hSw
    go_simp
    try with_reducible rfl
  try simp only [Act.put, List.setIfInBounds_toArray, List.set_cons_zero, List.set_cons_succ]
  refine tkH 13 (v := ?_) rfl (fun _ _ _ h => h) (Or.inl ⟨by rfl, ?_⟩) hH ?_
  rotate_left
  · intro w9 hSw
    try dsimp only at hSw
    obtain ⟨s0, s1, s2, s3, s4, s5⟩ := hSw
    go_simp
    try with_reducible rfl
  try simp only [Act.put, List.setIfInBounds_toArray, List.set_cons_zero, List.set_cons_succ]
  refine tkH 14 (v := ?_) rfl (fun _ _ _ h => h) (Or.inl ⟨by rfl, ?_⟩) hH ?_
  rotate_left
  · intro w9 hSw
    try dsimp only at hSw
    obtain ⟨s0, s1, s2, s3, s4, s5⟩ := hSw
    go_simp
    try with_reducible rfl
  try simp only [Act.put, List.setIfInBounds_toArray, List.set_cons_zero, List.set_cons_succ]
  refine tkH 15 (v := ?_) rfl (fun _ _ _ h => h) (Or.inl ⟨by rfl, ?_⟩) hH ?_
  rotate_left
  · intro w9 hSw
    try dsimp only at hSw
    obtain ⟨s0, s1, s2, s3, s4, s5⟩ := hSw
    go_simp
    try with_reducible rfl
  try simp only [Act.put, List.setIfInBounds_toArray, List.set_cons_zero, List.set_cons_succ]
  refine wpAnyH_done (by kernel_rfl) ?_ _
  rw [← hE.out]
  go_wp2
  go_ret
  exact ⟨rfl, (Below.refl _ _).drew⟩
set_option maxHeartbeats 4000000 in
set_option maxRecDepth 100000 in
theorem impl_addMatrices (u v : Value) (n : Nat) (F G : Nat → Nat → Int) (w : World) (h1 : LstM w w.heap.size u (matF n F n)) (h2 : LstM w w.heap.size v (matF n G n)) (hn : 1 ≤ n) (hn2 : n ≤ 1000) :
    Calls Try.prog 41 #[u, v] w (RetM w (matF n (maxF F G) n)) := by
  obtain ⟨b1, o1, c, r1, p1, c1, rfl, hb1, x1, _, _⟩ := mat_at h1 0 0 hn hn
  obtain ⟨b2, o2, d, r2, p2, c2, rfl, hb2, _, _, _⟩ := mat_at h2 0 0 hn hn
  go_enter Try.func41, Try.ntmps41
  go_wp2_with fail
  clear hb1 hb2
  have hW : Below w.heap.size w ((w.alloc (.cells #[.slice (some ⟨b1, o1, none⟩) n c] 28)).alloc (.cells #[.slice (some ⟨b2, o2, none⟩) n d] 28)) := (((Below.refl _ _).alloc (Nat.le_refl _) _).alloc (by first | (simp; done) | (simp; omega)) _); have hb0 : Blk ((w.alloc (.cells #[.slice (some ⟨b1, o1, none⟩) n c] 28)).alloc (.cells #[.slice (some ⟨b2, o2, none⟩) n d] 28)) (w.heap.size) 28 #[.slice (some ⟨b1, o1, none⟩) n c] := ((Blk.newAt w _ (by first | rfl | (simp; done) | (simp; omega))).alloc _); have hb1 : Blk ((w.alloc (.cells #[.slice (some ⟨b1, o1, none⟩) n c] 28)).alloc (.cells #[.slice (some ⟨b2, o2, none⟩) n d] 28)) (w.heap.size + 1) 28 #[.slice (some ⟨b2, o2, none⟩) n d] := (Blk.newAt (w.alloc (.cells #[.slice (some ⟨b1, o1, none⟩) n c] 28)) _ (by first | rfl | (simp; done) | (simp; omega))); replace h1 := h1.now hW; replace h2 := h2.now hW; have hsW : w.heap.size + 2 = ((w.alloc (.cells #[.slice (some ⟨b1, o1, none⟩) n c] 28)).alloc (.cells #[.slice (some ⟨b2, o2, none⟩) n d] 28)).heap.size := (by first | rfl | (simp; done) | (simp; omega)); generalize ((w.alloc (.cells #[.slice (some ⟨b1, o1, none⟩) n c] 28)).alloc (.cells #[.slice (some ⟨b2, o2, none⟩) n d] 28)) = W at *; replace hsW := Lib.hid hsW
  have hb1' := hb1
  replace x1 := cell_keep x1 hW
  have hBd : Below W.heap.size W W.drew := Below.drew (Below.refl _ W)
  have g0 := hb0.now hBd
  have g1 := hb1'.now hBd
  replace h1 := h1.now hBd
  replace h2 := h2.now hBd
  have hcall := Lib.hid (m_matrixBy _ (run_enter Try.func63 (by kernel_rfl) (by kernel_rfl)) #[.pointer (some ⟨w.heap.size, 0, none⟩), .pointer (some ⟨w.heap.size + 1, 0, none⟩)] n n (maxF F G) W.drew hn2 hn2 (fun i j hi hj V hV => impl_addMatrices1 i j n _ _ F G _ _ V hi hj (g0.now hV) (g1.now hV) (h1.now hV) (h2.now hV)))
  have z0 : W.drew.cell? ⟨w.heap.size, 0, none⟩ = some (.slice (some ⟨b1, o1, none⟩) n c) := by simpa using g0.cell 0
  have z1 : W.drew.cell? ⟨w.heap.size + 1, 0, none⟩ = some (.slice (some ⟨b2, o2, none⟩) n d) := by simpa using g1.cell 0
  have z2 : W.drew.cell? ⟨b1, o1, none⟩ = some (.slice (some ⟨r1, p1, none⟩) n c1) := by simpa using cell_keep x1 hBd
  have i1 : 0 < n := by omega
  clear h1 h2 g0 g1 hb0 hb1' x1
  go_wp2_with fail
  refine wp_region_held_drew (S := fun w' => w'.cell? ⟨w.heap.size, 0, none⟩ = some (.slice (some ⟨b1, o1, none⟩) n c) ∧ w'.cell? ⟨w.heap.size + 1, 0, none⟩ = some (.slice (some ⟨b2, o2, none⟩) n d) ∧ w'.cell? ⟨b1, o1, none⟩ = some (.slice (some ⟨r1, p1, none⟩) n c1)) (by kernel_rfl) ⟨z0, z1, z2⟩ (fun hH => ?_)
  refine tkH 0 (v := ?_) rfl (fun _ _ _ h => h) (Or.inl ⟨by rfl, ?_⟩) hH ?_
  rotate_left
  · intro w9 hSw
    try dsimp only at hSw
    obtain ⟨s0, s1, s2⟩ := hSw
    go_simp
    try with_reducible rfl
  try simp only [Act.put, List.setIfInBounds_toArray, List.set_cons_zero, List.set_cons_succ]
  refine tkH 1 (v := ?_) rfl (fun _ _ _ h => h) (Or.inl ⟨by rfl, ?_⟩) hH ?_
  rotate_left
  · intro w9 hSw
    try dsimp only at hSw
    obtain ⟨s0, s1, s2⟩ := hSw
    go_simp
    try with_reducible rfl
  try simp only [Act.put, List.setIfInBounds_toArray, List.set_cons_zero, List.set_cons_succ]
  refine tkH 2 (v := ?_) rfl (fun _ _ _ h => h) (Or.inl ⟨by rfl, ?_⟩) hH ?_
  rotate_left
  · intro w9 hSw
    try dsimp only at hSw
    obtain ⟨s0, s1, s2⟩ := hSw
    go_simp
    try with_reducible rfl
  try simp only [Act.put, List.setIfInBounds_toArray, List.set_cons_zero, List.set_cons_succ]
  refine tkH 3 (v := ?_) rfl (fun _ _ _ h => h) (Or.inl ⟨by rfl, ?_⟩) hH ?_
  rotate_left
  · intro w9 hSw
    try dsimp only at hSw
    obtain ⟨s0, s1, s2⟩ := hSw
    go_simp
    try with_reducible rfl
  try simp only [Act.put, List.setIfInBounds_toArray, List.set_cons_zero, List.set_cons_succ]
  refine tkH 4 (v := ?_) rfl (fun _ _ _ h => h) (Or.inl ⟨by rfl, ?_⟩) hH ?_
  rotate_left
  · intro w9 hSw
    try dsimp only at hSw
    obtain ⟨s0, s1, s2⟩ := hSw
    go_simp
    try with_reducible rfl
  try simp only [Act.put, List.setIfInBounds_toArray, List.set_cons_zero, List.set_cons_succ]
  refine tkH 5 (v := ?_) rfl (fun _ _ _ h => h) (Or.inl ⟨by rfl, ?_⟩) hH ?_
  rotate_left
  · intro w9 hSw
    try dsimp only at hSw
    obtain ⟨s0, s1, s2⟩ := hSw
    go_simp
    try with_reducible rfl
  try simp only [Act.put, List.setIfInBounds_toArray, List.set_cons_zero, List.set_cons_succ]
  refine tkH 6 (v := ?_) rfl (fun _ _ _ h => h) (Or.inl ⟨by rfl, ?_⟩) hH ?_
  rotate_left
  · intro w9 hSw
    try dsimp only at hSw
    obtain ⟨s0, s1, s2⟩ := hSw
    go_simp
    try with_reducible rfl
  try simp only [Act.put, List.setIfInBounds_toArray, List.set_cons_zero, List.set_cons_succ]
  refine wpAnyH_ready (rs := [7]) (by kernel_rfl) (by simp) ?_
  refine AllReadyH.cons rfl (fun K hK => ?_) AllReadyH.nil
  go_simp
  go_at_call 24
  refine (hcall.out).mono ?_
  rintro e9 w9 ⟨v9, rfl, hM, hB⟩
  have z0a := cell_keep (w := W.drew) z0 hB
  have z1a := cell_keep (w := W.drew) z1 hB
  have z2a := cell_keep (w := W.drew) z2 hB
  refine hK.out _ _ ⟨z0a, z1a, z2a⟩ (fun hH => ?_)
  clear hK K
  try simp only [Act.put, List.setIfInBounds_toArray, List.set_cons_zero, List.set_cons_succ]
  refine tkH 8 (v := ?_) rfl (fun _ _ _ h => h) (Or.inl ⟨by rfl, ?_⟩) hH ?_
  rotate_left
  · intro w9 hSw
    try dsimp only at hSw
    obtain ⟨s0, s1, s2⟩ := hSw
    go_simp
    try with_reducible rfl
  try simp only [Act.put, List.setIfInBounds_toArray, List.set_cons_zero, List.set_cons_succ]
  refine wpAnyH_done (by kernel_rfl) ?_ _
  go_wp2
  go_ret
  exact ⟨_, rfl, hM.rebase (Nat.le_trans hW.size (Nat.le_refl _)), hW.trans ((hBd.trans (hB.mono (Nat.le_refl _))).mono hW.size)⟩
end Go.Proofs.Ytcoomogabicfnaa
