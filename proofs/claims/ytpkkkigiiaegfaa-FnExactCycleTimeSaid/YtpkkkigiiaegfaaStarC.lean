/-
  The walks of the program's product of matrices, and of a matrix and a list.
-/
import Derived.Test.YtpkkkigiiaegfaaStar
namespace Go.Proofs.Ytpkkkigiiaegfaa
open Go.RowKit
set_option linter.unusedVariables false
set_option linter.unusedSimpArgs false
def bnd (n : Nat) (F : Nat → Nat → Int) : Prop := ∀ i j, i < n → j < n → (-5000000000000 ≤ F i j ∧ F i j ≤ 5000000000000 ∨ F i j = bot)
theorem mat_row {w : World} {B : Nat} {u : Value} {n m : Nat} {F : Nat → Nat → Int} (h : LstM w B u (matF n F m)) (i : Nat) (hi : i < m) (hn : 0 < n) :
    ∃ b off c rb ro rc, u = .slice (some ⟨b, off, none⟩) m c ∧ b < B ∧ w.cell? ⟨b, off + i, none⟩ = some (.slice (some ⟨rb, ro, none⟩) n rc) ∧ rb < B ∧ ∀ j, j < n → w.cell? ⟨rb, ro + j, none⟩ = some (.int .i64 (F i j)) := by
  obtain ⟨b, off, c, rb, ro, rc, hu, hb, hc, hrb, _⟩ := mat_at h i 0 hi hn
  refine ⟨b, off, c, rb, ro, rc, hu, hb, hc, hrb, fun j hj => ?_⟩
  obtain ⟨b', off', c', rb', ro', rc', hu', _, hc', _, hx⟩ := mat_at h i j hi hj
  rw [hu] at hu'
  cases hu'
  rw [hc] at hc'
  injection hc' with hc'
  injection hc' with hc' _ _
  injection hc' with hc'
  injection hc' with h1 h2 _
  subst h1
  subst h2
  exact hx
theorem sumT_if (n : Nat) (f : Nat → Int) : sumT (n + 1) f = if sumT n f < f n then f n else sumT n f := max_if _ _
set_option maxHeartbeats 4000000 in
set_option maxRecDepth 100000 in
theorem impl_multiply1 (i j n ga gb : Nat) (F G : Nat → Nat → Int) (u v : Value) (w : World) (hi : i < n) (hj : j < n) (hx : Blk w ga 47 #[u]) (hy : Blk w gb 47 #[v])
    (h1 : LstM w w.heap.size u (matF n F n)) (h2 : LstM w w.heap.size v (matF n G n)) (hF : Hid (bnd n F)) (hG : Hid (bnd n G)) (hn : n ≤ 1000) :
    Calls Try.prog 237 #[.int .i64 i, .int .i64 j, .pointer (some ⟨ga, 0, none⟩), .pointer (some ⟨gb, 0, none⟩)] w fun e w' => e = .returned (.int .i64 (mulF n F G i j)) ∧ Below w.heap.size w w' := by
  obtain ⟨b1, o1, c, r1, p1, c1, rfl, hb1, x1, _, x2⟩ := mat_row h1 i hi (by omega)
  obtain ⟨b2, o2, d, _, _, _, rfl, hb2, _, _, _⟩ := mat_at h2 0 j (by omega) hj
  have x0 : w.cell? ⟨ga, 0, none⟩ = some (.slice (some ⟨b1, o1, none⟩) n c) := by simpa using hx.cell 0
  have y0 : w.cell? ⟨gb, 0, none⟩ = some (.slice (some ⟨b2, o2, none⟩) n d) := by simpa using hy.cell 0
  have x2' := Lib.hid x2
  clear hx hy h1 x2
  go_enter Try.func237, Try.ntmps237
  go_wp2
  go_loop [7, 8, 9, 15] (fun s _ _ q => ∃ k : Nat, k ≤ n ∧ q = .int .i64 k ∧ s = .int .i64 (sumT k fun k => tms (F i k) (G k j))) (fun _ _ _ q => n - (intOf q).toNat)
  case atStart => exact ⟨0, Nat.zero_le _, rfl, rfl⟩
  case round =>
    obtain ⟨k, hk, rfl, rfl⟩ := hrel
    by_cases hlt : k < n
    · have x2 := x2'.out k hlt
      obtain ⟨_, _, _, r2, p2, c2, hu, _, y1, _, y2⟩ := mat_at h2 k j hlt hj
      cases hu
      have htm := Lib.hid (fun W => impl_times (F i k) (G k j) W (hF.out i k hi hlt) (hG.out k j hlt hj))
      have hE : Hid (sumT (k + 1) (fun k => tms (F i k) (G k j)) = if sumT k (fun k => tms (F i k) (G k j)) < tms (F i k) (G k j) then tms (F i k) (G k j) else sumT k (fun k => tms (F i k) (G k j))) := sumT_if _ _
      have hE1 := hE.out
      have hE2 := Lib.hid hE1
      clear hE1
      by_cases hle : sumT k (fun k => tms (F i k) (G k j)) < tms (F i k) (G k j)
      · rw [if_pos hle] at hE
        go_wp2_with (go_at_call 235; refine (htm.out _).mono ?_; rintro e9 w9 ⟨rfl, rfl⟩)
        go_round
        case rel => exact ⟨k + 1, hlt, by go_num, by rw [hE.out]⟩
        case measure => simp [intOf]; omega
      · rw [if_neg hle] at hE
        go_wp2_with (go_at_call 235; refine (htm.out _).mono ?_; rintro e9 w9 ⟨rfl, rfl⟩)
        go_round
        case rel => exact ⟨k + 1, hlt, by go_num, by rw [hE.out]⟩
        case measure => simp [intOf]; omega
    · obtain rfl : k = n := by omega
      go_wp2
      go_ret
      exact ⟨rfl, Below.refl _ _⟩
set_option maxHeartbeats 4000000 in
set_option maxRecDepth 100000 in
theorem impl_multiply (u v : Value) (n : Nat) (F G : Nat → Nat → Int) (w : World) (h1 : LstM w w.heap.size u (matF n F n)) (h2 : LstM w w.heap.size v (matF n G n)) (hF : Hid (bnd n F)) (hG : Hid (bnd n G)) (hn : 1 ≤ n) (hn2 : n ≤ 1000) :
    Calls Try.prog 202 #[u, v] w (RetM w (matF n (mulF n F G) n)) := by
  obtain ⟨b1, o1, c, _, _, _, rfl, hb1, _, _, _⟩ := mat_at h1 0 0 hn hn
  obtain ⟨b2, o2, d, r1, p1, c1, rfl, hb2, x1, _, _⟩ := mat_at h2 0 0 hn hn
  go_enter Try.func202, Try.ntmps202
  go_wp2_with fail
  clear hb1 hb2
  have hW : Below w.heap.size w ((w.alloc (.cells #[.slice (some ⟨b1, o1, none⟩) n c] 47)).alloc (.cells #[.slice (some ⟨b2, o2, none⟩) n d] 47)) := (((Below.refl _ _).alloc (Nat.le_refl _) _).alloc (by first | (simp; done) | (simp; omega)) _); have hb0 : Blk ((w.alloc (.cells #[.slice (some ⟨b1, o1, none⟩) n c] 47)).alloc (.cells #[.slice (some ⟨b2, o2, none⟩) n d] 47)) (w.heap.size) 47 #[.slice (some ⟨b1, o1, none⟩) n c] := ((Blk.newAt w _ (by first | rfl | (simp; done) | (simp; omega))).alloc _); have hb1 : Blk ((w.alloc (.cells #[.slice (some ⟨b1, o1, none⟩) n c] 47)).alloc (.cells #[.slice (some ⟨b2, o2, none⟩) n d] 47)) (w.heap.size + 1) 47 #[.slice (some ⟨b2, o2, none⟩) n d] := (Blk.newAt (w.alloc (.cells #[.slice (some ⟨b1, o1, none⟩) n c] 47)) _ (by first | rfl | (simp; done) | (simp; omega))); replace h1 := h1.now hW; replace h2 := h2.now hW; have hsW : w.heap.size + 2 = ((w.alloc (.cells #[.slice (some ⟨b1, o1, none⟩) n c] 47)).alloc (.cells #[.slice (some ⟨b2, o2, none⟩) n d] 47)).heap.size := (by first | rfl | (simp; done) | (simp; omega)); generalize ((w.alloc (.cells #[.slice (some ⟨b1, o1, none⟩) n c] 47)).alloc (.cells #[.slice (some ⟨b2, o2, none⟩) n d] 47)) = W at *; replace hsW := Lib.hid hsW
  have hb1' := hb1
  replace x1 := cell_keep x1 hW
  have hBd : Below W.heap.size W W.drew := Below.drew (Below.refl _ W)
  have g0 := hb0.now hBd
  have g1 := hb1'.now hBd
  replace h1 := h1.now hBd
  replace h2 := h2.now hBd
  have hcall := Lib.hid (m_matrixBy _ (run_enter Try.func237 (by kernel_rfl) (by kernel_rfl)) #[.pointer (some ⟨w.heap.size, 0, none⟩), .pointer (some ⟨w.heap.size + 1, 0, none⟩)] n n (mulF n F G) W.drew hn2 hn2 (fun i j hi hj V hV => impl_multiply1 i j n _ _ F G _ _ V hi hj (g0.now hV) (g1.now hV) (h1.now hV) (h2.now hV) hF hG hn2))
  have z0 : W.drew.cell? ⟨w.heap.size, 0, none⟩ = some (.slice (some ⟨b1, o1, none⟩) n c) := by simpa using g0.cell 0
  have z1 : W.drew.cell? ⟨w.heap.size + 1, 0, none⟩ = some (.slice (some ⟨b2, o2, none⟩) n d) := by simpa using g1.cell 0
  have z2 : W.drew.cell? ⟨b2, o2, none⟩ = some (.slice (some ⟨r1, p1, none⟩) n c1) := by simpa using cell_keep x1 hBd
  have i1 : 0 < n := by omega
  clear h1 h2 g0 g1 hb0 hb1' x1
  go_wp2_with fail
  refine wp_region_held_drew (S := fun w' => w'.cell? ⟨w.heap.size, 0, none⟩ = some (.slice (some ⟨b1, o1, none⟩) n c) ∧ w'.cell? ⟨w.heap.size + 1, 0, none⟩ = some (.slice (some ⟨b2, o2, none⟩) n d) ∧ w'.cell? ⟨b2, o2, none⟩ = some (.slice (some ⟨r1, p1, none⟩) n c1)) (by kernel_rfl) ⟨z0, z1, z2⟩ (fun hH => ?_)
  refine wpAnyH_take (i := 0) (oi := { dst := _, op := _, type := _, pos := _, after := _, guard := _ }) (v := ?_) rfl (by kernel_rfl) (by kernel_rfl) (by kernel_rfl) (fun _ _ _ h => h) (Or.inl ⟨by rfl, ?_⟩) hH ?_
  rotate_left
  · intro w9 hSw
    try dsimp only at hSw
    obtain ⟨s0, s1, s2⟩ := hSw
    go_simp
    try with_reducible rfl
  try simp only [Act.put, List.setIfInBounds_toArray, List.set_cons_zero, List.set_cons_succ]
  refine wpAnyH_take (i := 1) (oi := { dst := _, op := _, type := _, pos := _, after := _, guard := _ }) (v := ?_) rfl (by kernel_rfl) (by kernel_rfl) (by kernel_rfl) (fun _ _ _ h => h) (Or.inl ⟨by rfl, ?_⟩) hH ?_
  rotate_left
  · intro w9 hSw
    try dsimp only at hSw
    obtain ⟨s0, s1, s2⟩ := hSw
    go_simp
    try with_reducible rfl
  try simp only [Act.put, List.setIfInBounds_toArray, List.set_cons_zero, List.set_cons_succ]
  refine wpAnyH_take (i := 2) (oi := { dst := _, op := _, type := _, pos := _, after := _, guard := _ }) (v := ?_) rfl (by kernel_rfl) (by kernel_rfl) (by kernel_rfl) (fun _ _ _ h => h) (Or.inl ⟨by rfl, ?_⟩) hH ?_
  rotate_left
  · intro w9 hSw
    try dsimp only at hSw
    obtain ⟨s0, s1, s2⟩ := hSw
    go_simp
    try with_reducible rfl
  try simp only [Act.put, List.setIfInBounds_toArray, List.set_cons_zero, List.set_cons_succ]
  refine wpAnyH_take (i := 3) (oi := { dst := _, op := _, type := _, pos := _, after := _, guard := _ }) (v := ?_) rfl (by kernel_rfl) (by kernel_rfl) (by kernel_rfl) (fun _ _ _ h => h) (Or.inl ⟨by rfl, ?_⟩) hH ?_
  rotate_left
  · intro w9 hSw
    try dsimp only at hSw
    obtain ⟨s0, s1, s2⟩ := hSw
    go_simp
    try with_reducible rfl
  try simp only [Act.put, List.setIfInBounds_toArray, List.set_cons_zero, List.set_cons_succ]
  refine wpAnyH_take (i := 4) (oi := { dst := _, op := _, type := _, pos := _, after := _, guard := _ }) (v := ?_) rfl (by kernel_rfl) (by kernel_rfl) (by kernel_rfl) (fun _ _ _ h => h) (Or.inl ⟨by rfl, ?_⟩) hH ?_
  rotate_left
  · intro w9 hSw
    try dsimp only at hSw
    obtain ⟨s0, s1, s2⟩ := hSw
    go_simp
    try with_reducible rfl
  try simp only [Act.put, List.setIfInBounds_toArray, List.set_cons_zero, List.set_cons_succ]
  refine wpAnyH_take (i := 5) (oi := { dst := _, op := _, type := _, pos := _, after := _, guard := _ }) (v := ?_) rfl (by kernel_rfl) (by kernel_rfl) (by kernel_rfl) (fun _ _ _ h => h) (Or.inl ⟨by rfl, ?_⟩) hH ?_
  rotate_left
  · intro w9 hSw
    try dsimp only at hSw
    obtain ⟨s0, s1, s2⟩ := hSw
    go_simp
    try with_reducible rfl
  try simp only [Act.put, List.setIfInBounds_toArray, List.set_cons_zero, List.set_cons_succ]
  refine wpAnyH_take (i := 6) (oi := { dst := _, op := _, type := _, pos := _, after := _, guard := _ }) (v := ?_) rfl (by kernel_rfl) (by kernel_rfl) (by kernel_rfl) (fun _ _ _ h => h) (Or.inl ⟨by rfl, ?_⟩) hH ?_
  rotate_left
  · intro w9 hSw
    try dsimp only at hSw
    obtain ⟨s0, s1, s2⟩ := hSw
    go_simp
    try with_reducible rfl
  try simp only [Act.put, List.setIfInBounds_toArray, List.set_cons_zero, List.set_cons_succ]
  refine wpAnyH_ready (rs := [7]) (by kernel_rfl) (by simp) ?_
  refine AllReadyH.cons rfl (fun K hK => ?_) AllReadyH.nil
  go_simp
  go_at_call 123
  refine (hcall.out).mono ?_
  rintro e9 w9 ⟨v9, rfl, hM, hB⟩
  have z0a := cell_keep (w := W.drew) z0 hB
  have z1a := cell_keep (w := W.drew) z1 hB
  have z2a := cell_keep (w := W.drew) z2 hB
  refine hK.out _ _ ⟨z0a, z1a, z2a⟩ (fun hH => ?_)
  clear hK K
  try simp only [Act.put, List.setIfInBounds_toArray, List.set_cons_zero, List.set_cons_succ]
  refine wpAnyH_take (i := 8) (oi := { dst := _, op := _, type := _, pos := _, after := _, guard := _ }) (v := ?_) rfl (by kernel_rfl) (by kernel_rfl) (by kernel_rfl) (fun _ _ _ h => h) (Or.inl ⟨by rfl, ?_⟩) hH ?_
  rotate_left
  · intro w9 hSw
    try dsimp only at hSw
    obtain ⟨s0, s1, s2⟩ := hSw
    go_simp
    try with_reducible rfl
  try simp only [Act.put, List.setIfInBounds_toArray, List.set_cons_zero, List.set_cons_succ]
  refine wpAnyH_done (by kernel_rfl) ?_ _
  go_wp2
  go_ret
  exact ⟨_, rfl, hM.rebase (Nat.le_trans hW.size (Nat.le_refl _)), hW.trans ((hBd.trans (hB.mono (Nat.le_refl _))).mono hW.size)⟩
def appF (n : Nat) (F : Nat → Nat → Int) (z : Nat → Int) (i : Nat) : Int := sumT n fun k => tms (F i k) (z k)
end Go.Proofs.Ytpkkkigiiaegfaa
