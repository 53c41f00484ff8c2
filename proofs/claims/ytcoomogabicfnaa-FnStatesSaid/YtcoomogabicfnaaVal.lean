/-
  Matrices of values: IsValue, areValues, IsMatrix, isSquare, checkedMatrix, and the products and sums that are checked, where all entries are values.
-/
import Derived.Test.YtcoomogabicfnaaStarD
import Derived.Test.YtcoomogabicfnaaStar
namespace Go.Proofs.Ytcoomogabicfnaa
open Go.RowKit
set_option linter.unusedVariables false
set_option linter.unusedSimpArgs false
/-- A value: bottom or finite. -/
def valI (x : Int) : Prop := x = bot ∨ (-1000000 ≤ x ∧ x ≤ 1000000)
theorem valI_of_fin {B x : Int} (h : fin B x) (hB : B ≤ 1000000) : valI x := by
  rcases h with h | h
  · exact .inl h
  · exact .inr (by omega)
theorem mat_vals {n : Nat} {B : Int} {F : Nat → Nat → Int} (h : finM n B F) (hB : B ≤ 1000000) : Hid (∀ r ∈ matF n F n, r.length = n ∧ ∀ x ∈ r, valI x) := by
  intro r hr
  unfold matF at hr
  obtain ⟨i, hi, rfl⟩ := List.mem_map.1 hr
  have hi := List.mem_range.1 hi
  refine ⟨by simp, fun x hx => ?_⟩
  obtain ⟨j, hj, rfl⟩ := List.mem_map.1 hx
  exact valI_of_fin (h i j hi (List.mem_range.1 hj)) hB
set_option maxHeartbeats 400000 in
set_option maxRecDepth 100000 in
theorem impl_IsValueV (x : Int) (w : World) (hx : Hid (valI x)) : Calls Try.prog 86 #[.int .i64 x] w fun r w' => r = .returned (.bool true) ∧ w = w' := by
  rcases hx.out with h | h
  · have q1 : (x == -1000000000000000) = true := by rw [h]; rfl
    clear h
    go_enter Try.func86, Try.ntmps86
    go_wp2
    go_ret
    exact ⟨rfl, rfl⟩
  · have q1 : (x == -1000000000000000) = false := by simp; omega
    have hF : Hid (inB x (-1000000) 1000000 = true) := by show _ = _; unfold inB; simp; omega
    clear h
    go_enter Try.func86, Try.ntmps86
    go_wp2_with (go_at_call 90; refine (impl_isFinite _ _).mono ?_; rintro e w' ⟨rfl, rfl⟩; rw [hF.out])
    go_ret
    exact ⟨rfl, rfl⟩
set_option maxHeartbeats 400000 in
set_option maxRecDepth 100000 in
theorem impl_areValues1V (x : Int) (w : World) (hx : Hid (valI x)) : Calls Try.prog 85 #[.int .i64 x] w fun r w' => r = .returned (.bool false) ∧ w = w' := by
  go_enter Try.func85, Try.ntmps85
  go_wp2_with (go_at_call 86; refine (impl_IsValueV _ _ hx).mono ?_; rintro e w' ⟨rfl, rfl⟩)
  go_ret
  exact ⟨rfl, rfl⟩
set_option maxHeartbeats 1000000 in
set_option maxRecDepth 100000 in
theorem areVV_index (v : Value) (l : List Int) (w : World) (h0 : Lst intCell 1 w w.heap.size v l) (hp : Hid (∀ x ∈ l, valI x)) :
    Calls Try.prog 100 #[v, .func (.func 85) #[] #[]] w fun r w' => r = .returned (.int .i64 (-1)) ∧ w = w' := by
  obtain ⟨A, cA, rfl⟩ := h0.shape
  have hl := h0.len_le
  go_enter Try.func100, Try.ntmps100
  go_wp2
  go_loop [5, 8] (fun _ i => ∃ k : Nat, k ≤ l.length ∧ i = .int .i64 k) (fun _ i => l.length - (intOf i).toNat)
  case atStart => exact ⟨0, Nat.zero_le _, rfl⟩
  case round =>
    obtain ⟨k, hk, rfl⟩ := hrel
    by_cases hlt : k < l.length
    · obtain ⟨b, off, hA, -, d0⟩ := ints_at h0 k hlt
      cases hA
      have hx := Lib.hid (hp.out _ (List.getElem_mem hlt))
      generalize l[k] = x at *
      go_wp2_with (go_at_call 85; refine (impl_areValues1V _ _ hx).mono ?_; rintro e w1 ⟨rfl, rfl⟩)
      go_round
      case rel => exact ⟨k + 1, hlt, by go_num⟩
      case measure => simp [intOf]; omega
    · obtain rfl : k = l.length := by omega
      go_wp2
      go_ret
      exact ⟨rfl, rfl⟩
set_option maxHeartbeats 400000 in
set_option maxRecDepth 100000 in
theorem areVV_contains (v : Value) (l : List Int) (w : World) (h0 : Lst intCell 1 w w.heap.size v l) (hp : Hid (∀ x ∈ l, valI x)) :
    Calls Try.prog 84 #[v, .func (.func 85) #[] #[]] w fun r w' => r = .returned (.bool false) ∧ w = w' := by
  go_enter Try.func84, Try.ntmps84
  go_wp2_with (go_at_call 100; refine (areVV_index _ _ _ h0 hp).mono ?_; rintro e w1 ⟨rfl, rfl⟩)
  go_ret
  exact ⟨rfl, rfl⟩
set_option maxHeartbeats 400000 in
set_option maxRecDepth 100000 in
theorem impl_areValuesV (v : Value) (l : List Int) (w : World) (h0 : Lst intCell 1 w w.heap.size v l) (hp : Hid (∀ x ∈ l, valI x)) :
    Calls Try.prog 59 #[v] w fun r w' => r = .returned (.bool true) ∧ w = w' := by
  go_enter Try.func59, Try.ntmps59
  go_wp2_with (go_at_call 84; refine (areVV_contains _ _ _ h0 hp).mono ?_; rintro e w1 ⟨rfl, rfl⟩)
  go_ret
  exact ⟨rfl, rfl⟩
set_option maxHeartbeats 400000 in
set_option maxRecDepth 100000 in
theorem impl_checkedMatrix1V (v : Value) (l : List Int) (w : World) (h0 : Lst intCell 1 w w.heap.size v l) (hp : Hid (∀ x ∈ l, valI x)) :
    Calls Try.prog 60 #[v] w fun r w' => r = .returned (.bool false) ∧ w = w' := by
  go_enter Try.func60, Try.ntmps60
  go_wp2_with (go_at_call 59; refine (impl_areValuesV _ _ _ h0 hp).mono ?_; rintro e w1 ⟨rfl, rfl⟩)
  go_ret
  exact ⟨rfl, rfl⟩

set_option maxHeartbeats 1000000 in
set_option maxRecDepth 100000 in
theorem chkVV_index (v : Value) (n : Nat) (T : List (List Int)) (w : World) (h0 : LstM w w.heap.size v T) (hp : Hid (∀ r ∈ T, r.length = n ∧ ∀ x ∈ r, valI x)) :
    Calls Try.prog 83 #[v, .func (.func 60) #[] #[]] w fun r w' => r = .returned (.int .i64 (-1)) ∧ w = w' := by
  obtain ⟨A, cA, rfl⟩ := h0.shape
  have hl := h0.len_le
  go_enter Try.func83, Try.ntmps83
  go_wp2
  go_loop [5, 8] (fun _ i => ∃ k : Nat, k ≤ T.length ∧ i = .int .i64 k) (fun _ i => T.length - (intOf i).toNat)
  case atStart => exact ⟨0, Nat.zero_le _, rfl⟩
  case round =>
    obtain ⟨k, hk, rfl⟩ := hrel
    by_cases hlt : k < T.length
    · obtain ⟨b, off, cr, r, hA, -, d0, hr⟩ := h0.row k hlt
      cases hA
      obtain ⟨R, rc, hv⟩ := hr.shape
      rw [hv] at d0 hr
      have hpr := Lib.hid (hp.out _ (List.getElem_mem hlt)).2
      clear hv
      go_wp2_with (go_at_call 60; refine (impl_checkedMatrix1V _ _ _ hr hpr).mono ?_; rintro e w1 ⟨rfl, rfl⟩)
      go_round
      case rel => exact ⟨k + 1, hlt, by go_num⟩
      case measure => simp [intOf]; omega
    · obtain rfl : k = T.length := by omega
      go_wp2
      go_ret
      exact ⟨rfl, rfl⟩
set_option maxHeartbeats 400000 in
set_option maxRecDepth 100000 in
theorem chkVV_contains (v : Value) (n : Nat) (T : List (List Int)) (w : World) (h0 : LstM w w.heap.size v T) (hp : Hid (∀ r ∈ T, r.length = n ∧ ∀ x ∈ r, valI x)) :
    Calls Try.prog 57 #[v, .func (.func 60) #[] #[]] w fun r w' => r = .returned (.bool false) ∧ w = w' := by
  go_enter Try.func57, Try.ntmps57
  go_wp2_with (go_at_call 83; refine (chkVV_index _ n _ _ h0 hp).mono ?_; rintro e w1 ⟨rfl, rfl⟩)
  go_ret
  exact ⟨rfl, rfl⟩
set_option maxHeartbeats 400000 in
set_option maxRecDepth 100000 in
theorem impl_checkedMatrixV (v : Value) (n : Nat) (T : List (List Int)) (w : World) (h0 : LstM w w.heap.size v T) (hp : Hid (∀ r ∈ T, r.length = n ∧ ∀ x ∈ r, valI x)) :
    Calls Try.prog 39 #[v] w fun r w' => r = .returned (.tuple #[v, .int .i64 0]) ∧ w = w' := by
  go_enter Try.func39, Try.ntmps39
  go_wp2_with (go_at_call 57; refine (chkVV_contains _ n _ _ h0 hp).mono ?_; rintro e w1 ⟨rfl, rfl⟩)
  go_ret2
  exact ⟨rfl, rfl⟩
set_option maxHeartbeats 400000 in
set_option maxRecDepth 100000 in
theorem impl_IsMatrix1V (u v : Value) (n g : Nat) (F : Nat → Nat → Int) (l : List Int) (w : World) (hu : LstM w w.heap.size u (matF n F n)) (hb : Blk w g 28 #[u]) (h0 : Lst intCell 1 w w.heap.size v l) (hl : l.length = n) (hn : 1 ≤ n) (hp : Hid (∀ x ∈ l, valI x)) :
    Calls Try.prog 58 #[v, .pointer (some ⟨g, 0, none⟩)] w fun r w' => r = .returned (.bool false) ∧ w = w' := by
  obtain ⟨b1, o1, c, r1, p1, c1, rfl, hb1, x1, _, _⟩ := mat_at hu 0 0 hn hn
  obtain ⟨A, cA, rfl⟩ := h0.shape
  have e0 : w.cell? ⟨g, 0, none⟩ = some (.slice (some ⟨b1, o1, none⟩) n c) := by simpa using hb.cell 0
  have l0 := hb.lt
  have i1 : (0 : Int) < (n : Int) := by omega
  have q1 : ((l.length : Int) != (n : Int)) = false := by rw [hl]; simp
  rw [Nat.add_zero] at x1
  have hlH := Lib.hid hl
  clear hl
  go_enter Try.func58, Try.ntmps58
  go_wp2_with (go_at_call 59; refine (impl_areValuesV _ _ _ h0 hp).mono ?_; rintro e w1 ⟨rfl, rfl⟩)
  go_ret
  exact ⟨rfl, rfl⟩

set_option maxHeartbeats 1000000 in
set_option maxRecDepth 100000 in
theorem matVV_index (v : Value) (n : Nat) (T : List (List Int)) (w : World) (h0 : LstM w w.heap.size v T) (hp : Hid (∀ r ∈ T, r.length = n ∧ ∀ x ∈ r, valI x)) (g : Nat) (F : Nat → Nat → Int) (hb : Blk w g 28 #[v]) (hT : Hid (T = matF n F n)) (hn : 1 ≤ n) :
    Calls Try.prog 83 #[v, .func (.func 58) #[] #[.pointer (some ⟨g, 0, none⟩)]] w fun r w' => r = .returned (.int .i64 (-1)) ∧ w = w' := by
  obtain ⟨A, cA, rfl⟩ := h0.shape
  have hl := h0.len_le
  have hu : LstM w w.heap.size (.slice A T.length cA) (matF n F n) := hT.out ▸ h0
  go_enter Try.func83, Try.ntmps83
  go_wp2
  go_loop [5, 8] (fun _ i => ∃ k : Nat, k ≤ T.length ∧ i = .int .i64 k) (fun _ i => T.length - (intOf i).toNat)
  case atStart => exact ⟨0, Nat.zero_le _, rfl⟩
  case round =>
    obtain ⟨k, hk, rfl⟩ := hrel
    by_cases hlt : k < T.length
    · obtain ⟨b, off, cr, r, hA, -, d0, hr⟩ := h0.row k hlt
      cases hA
      obtain ⟨R, rc, hv⟩ := hr.shape
      rw [hv] at d0 hr
      have hpr := Lib.hid (hp.out _ (List.getElem_mem hlt)).2
      clear hv
      go_wp2_with (go_at_call 58; refine (impl_IsMatrix1V _ _ n g F _ _ hu hb hr (hp.out _ (List.getElem_mem hlt)).1 hn hpr).mono ?_; rintro e w1 ⟨rfl, rfl⟩)
      go_round
      case rel => exact ⟨k + 1, hlt, by go_num⟩
      case measure => simp [intOf]; omega
    · obtain rfl : k = T.length := by omega
      go_wp2
      go_ret
      exact ⟨rfl, rfl⟩
set_option maxHeartbeats 400000 in
set_option maxRecDepth 100000 in
theorem matVV_contains (v : Value) (n : Nat) (T : List (List Int)) (w : World) (h0 : LstM w w.heap.size v T) (hp : Hid (∀ r ∈ T, r.length = n ∧ ∀ x ∈ r, valI x)) (g : Nat) (F : Nat → Nat → Int) (hb : Blk w g 28 #[v]) (hT : Hid (T = matF n F n)) (hn : 1 ≤ n) :
    Calls Try.prog 57 #[v, .func (.func 58) #[] #[.pointer (some ⟨g, 0, none⟩)]] w fun r w' => r = .returned (.bool false) ∧ w = w' := by
  go_enter Try.func57, Try.ntmps57
  go_wp2_with (go_at_call 83; refine (matVV_index _ n _ _ h0 hp _ F hb hT hn).mono ?_; rintro e w1 ⟨rfl, rfl⟩)
  go_ret
  exact ⟨rfl, rfl⟩
set_option maxHeartbeats 4000000 in
set_option maxRecDepth 100000 in
theorem impl_IsMatrixV (u : Value) (n : Nat) (F : Nat → Nat → Int) (w : World) (h0 : LstM w w.heap.size u (matF n F n)) (hn : 1 ≤ n) (hn2 : n ≤ 10) (hp : Hid (∀ r ∈ matF n F n, r.length = n ∧ ∀ x ∈ r, valI x)) :
    Calls Try.prog 38 #[u] w fun r w' => r = .returned (.bool true) ∧ Below w.heap.size w w' := by
  obtain ⟨b1, o1, c, r1, p1, c1, hu, hb1, x1, _, _⟩ := mat_at h0 0 0 hn hn
  subst hu
  rw [Nat.add_zero] at x1
  have hAl : Below w.heap.size w (w.alloc (.cells #[.slice (some ⟨b1, o1, none⟩) n c] 28)) := (Below.refl _ _).alloc (Nat.le_refl _) _
  have hb : Blk (w.alloc (.cells #[.slice (some ⟨b1, o1, none⟩) n c] 28)) w.heap.size 28 #[.slice (some ⟨b1, o1, none⟩) n c] := Blk.newAt w _ rfl
  have hcn := matVV_contains (.slice (some ⟨b1, o1, none⟩) n c) n (matF n F n) _ (h0.now hAl) hp w.heap.size F hb (show _ = _ from rfl) hn
  replace x1 := cell_keep x1 hAl
  have e0 : (w.alloc (.cells #[.slice (some ⟨b1, o1, none⟩) n c] 28)).cell? ⟨w.heap.size, 0, none⟩ = some (.slice (some ⟨b1, o1, none⟩) n c) := by simp
  have i1 : (0 : Int) < (n : Int) := by omega
  have hw : Hid (inB (n : Int) 1 10 = true) := by show _ = _; unfold inB; simp; omega
  have hcH := Lib.hid hcn
  clear h0 hp hb hcn
  go_enter Try.func38, Try.ntmps38
  go_wp2_with fail
  refine (impl_within _ _ _ _).mono ?_
  rintro e w' ⟨rfl, rfl⟩
  rw [hw.out]
  go_wp2_with fail
  refine (impl_within _ _ _ _).mono ?_
  rintro e w' ⟨rfl, rfl⟩
  rw [hw.out]
  go_wp2_with fail
  refine hcH.out.mono ?_
  rintro e w1 ⟨rfl, rfl⟩
  go_wp2
  go_ret
  exact ⟨rfl, hAl⟩
set_option maxHeartbeats 1000000 in
set_option maxRecDepth 100000 in
theorem impl_isSquareV (u : Value) (n : Nat) (F : Nat → Nat → Int) (w : World) (h0 : LstM w w.heap.size u (matF n F n)) (hn : 1 ≤ n) (hn2 : n ≤ 10) (hp : Hid (∀ r ∈ matF n F n, r.length = n ∧ ∀ x ∈ r, valI x)) :
    Calls Try.prog 42 #[u] w fun r w' => r = .returned (.bool true) ∧ Below w.heap.size w w' := by
  obtain ⟨b1, o1, c, r1, p1, c1, hu, _⟩ := mat_at h0 0 0 hn hn
  subst hu
  have i1 : (0 : Int) < (n : Int) := by omega
  have q1 : ((n : Int) == (n : Int)) = true := by simp
  go_enter Try.func42, Try.ntmps42
  go_wp2_with fail
  refine (impl_IsMatrixV _ n F _ h0 hn hn2 hp).mono ?_
  rintro e w1 ⟨rfl, hB⟩
  obtain ⟨b2, o2, c2, r2, p2, c3, hA, hb2, x1, _, _⟩ := mat_at (h0.now hB) 0 0 hn hn
  cases hA
  rw [Nat.add_zero] at x1
  go_wp2
  go_ret
  exact ⟨rfl, hB⟩
set_option maxHeartbeats 1000000 in
set_option maxRecDepth 100000 in
theorem impl_MultiplyMatricesV (u v : Value) (n : Nat) (F G : Nat → Nat → Int) (w : World) (h1 : LstM w w.heap.size u (matF n F n)) (h2 : LstM w w.heap.size v (matF n G n)) (hn : 1 ≤ n) (hn2 : n ≤ 10)
    (hF : Hid (bnd n F)) (hG : Hid (bnd n G)) (p1 : Hid (∀ r ∈ matF n F n, r.length = n ∧ ∀ x ∈ r, valI x)) (p2 : Hid (∀ r ∈ matF n G n, r.length = n ∧ ∀ x ∈ r, valI x)) (p3 : Hid (∀ r ∈ matF n (mulF n F G) n, r.length = n ∧ ∀ x ∈ r, valI x)) :
    Calls Try.prog 15 #[u, v] w (RetMI w (matF n (mulF n F G) n) 0) := by
  obtain ⟨b1, o1, c1, r1, q1, d1, hu, _⟩ := mat_at h1 0 0 hn hn
  subst hu
  obtain ⟨b2, o2, c2, r2, q2, d2, hv, _⟩ := mat_at h2 0 0 hn hn
  subst hv
  have i1 : (0 : Int) < (n : Int) := by omega
  have n1 : ((n : Int) != (n : Int)) = false := by simp
  go_enter Try.func15, Try.ntmps15
  go_wp2_with fail
  refine (impl_IsMatrixV _ n F _ h1 hn hn2 p1).mono ?_
  rintro e w1 ⟨rfl, hB⟩
  replace h1 := h1.now hB
  replace h2 := h2.now hB
  go_wp2_with fail
  refine (impl_IsMatrixV _ n G _ h2 hn hn2 p2).mono ?_
  rintro e w2 ⟨rfl, hB2⟩
  replace h1 := h1.now hB2
  replace h2 := h2.now hB2
  replace hB := hB.trans (hB2.mono hB.size)
  clear hB2
  obtain ⟨b3, o3, c3, r3, q3, d3, hA, hb3, x1, _, _⟩ := mat_at h1 0 0 hn hn
  cases hA
  rw [Nat.add_zero] at x1
  go_wp2_with fail
  refine (impl_multiply _ _ n F G _ h1 h2 hF hG hn (by omega)).mono ?_
  rintro e w3 ⟨z, rfl, hO, hB3⟩
  have hs2 := hB.size
  replace hB := hB.trans (hB3.mono hB.size)
  go_wp2_with fail
  refine (impl_checkedMatrixV z n _ _ hO.lst p3).mono ?_
  rintro e w4 ⟨rfl, rfl⟩
  go_wp2
  go_ret2
  exact ⟨z, rfl, hO.rebase hs2, hB⟩
set_option maxHeartbeats 1000000 in
set_option maxRecDepth 100000 in
theorem impl_AddMatricesV (u v : Value) (n : Nat) (F G : Nat → Nat → Int) (w : World) (h1 : LstM w w.heap.size u (matF n F n)) (h2 : LstM w w.heap.size v (matF n G n)) (hn : 1 ≤ n) (hn2 : n ≤ 10)
    (p1 : Hid (∀ r ∈ matF n F n, r.length = n ∧ ∀ x ∈ r, valI x)) (p2 : Hid (∀ r ∈ matF n G n, r.length = n ∧ ∀ x ∈ r, valI x)) :
    Calls Try.prog 16 #[u, v] w (RetMI w (matF n (maxF F G) n) 0) := by
  obtain ⟨b1, o1, c1, r1, q1, d1, hu, _⟩ := mat_at h1 0 0 hn hn
  subst hu
  obtain ⟨b2, o2, c2, r2, q2, d2, hv, _⟩ := mat_at h2 0 0 hn hn
  subst hv
  have i1 : (0 : Int) < (n : Int) := by omega
  have n1 : ((n : Int) != (n : Int)) = false := by simp
  go_enter Try.func16, Try.ntmps16
  go_wp2_with fail
  refine (impl_IsMatrixV _ n F _ h1 hn hn2 p1).mono ?_
  rintro e w1 ⟨rfl, hB⟩
  replace h1 := h1.now hB
  replace h2 := h2.now hB
  go_wp2_with fail
  refine (impl_IsMatrixV _ n G _ h2 hn hn2 p2).mono ?_
  rintro e w2 ⟨rfl, hB2⟩
  replace h1 := h1.now hB2
  replace h2 := h2.now hB2
  replace hB := hB.trans (hB2.mono hB.size)
  clear hB2
  obtain ⟨b3, o3, c3, r3, q3, d3, hA, hb3, x1, _, _⟩ := mat_at h1 0 0 hn hn
  cases hA
  obtain ⟨b4, o4, c4, r4, q4, d4, hA, hb4, y1, _, _⟩ := mat_at h2 0 0 hn hn
  cases hA
  rw [Nat.add_zero] at x1 y1
  have hXd : Below w2.heap.size w2 w2.drew := Below.drew (Below.refl _ _)
  have i0 : 0 < n := hn
  go_wp2_with fail
  refine wp_region_held_drew (S := fun w' => w'.cell? ⟨b1, o1, none⟩ = some (.slice (some ⟨r3, q3, none⟩) n d3) ∧ w'.cell? ⟨b2, o2, none⟩ = some (.slice (some ⟨r4, q4, none⟩) n d4)) (by kernel_rfl) ⟨x1, y1⟩ (fun hH => ?_)
  refine tkH 0 (v := ?_) rfl (fun _ _ _ h => h) (Or.inl ⟨by rfl, ?_⟩) hH ?_
  rotate_left
  · intro w9 hSw
    try dsimp only at hSw
    obtain ⟨s0, s1⟩ := hSw
    go_simp
    try with_reducible rfl
  try simp only [Act.put, List.setIfInBounds_toArray, List.set_cons_zero, List.set_cons_succ]
  refine tkH 1 (v := ?_) rfl (fun _ _ _ h => h) (Or.inl ⟨by rfl, ?_⟩) hH ?_
  rotate_left
  · intro w9 hSw
    try dsimp only at hSw
    obtain ⟨s0, s1⟩ := hSw
    go_simp
    try with_reducible rfl
  try simp only [Act.put, List.setIfInBounds_toArray, List.set_cons_zero, List.set_cons_succ]
  refine tkH 2 (v := ?_) rfl (fun _ _ _ h => h) (Or.inl ⟨by rfl, ?_⟩) hH ?_
  rotate_left
  · intro w9 hSw
    try dsimp only at hSw
    obtain ⟨s0, s1⟩ := hSw
    go_simp
    try with_reducible rfl
  try simp only [Act.put, List.setIfInBounds_toArray, List.set_cons_zero, List.set_cons_succ]
  refine tkH 3 (v := ?_) rfl (fun _ _ _ h => h) (Or.inl ⟨by rfl, ?_⟩) hH ?_
  rotate_left
  · intro w9 hSw
    try dsimp only at hSw
    obtain ⟨s0, s1⟩ := hSw
    go_simp
    try with_reducible rfl
  try simp only [Act.put, List.setIfInBounds_toArray, List.set_cons_zero, List.set_cons_succ]
  refine tkH 4 (v := ?_) rfl (fun _ _ _ h => h) (Or.inl ⟨by rfl, ?_⟩) hH ?_
  rotate_left
  · intro w9 hSw
    try dsimp only at hSw
    obtain ⟨s0, s1⟩ := hSw
    go_simp
    try with_reducible rfl
  try simp only [Act.put, List.setIfInBounds_toArray, List.set_cons_zero, List.set_cons_succ]
  refine tkH 5 (v := ?_) rfl (fun _ _ _ h => h) (Or.inl ⟨by rfl, ?_⟩) hH ?_
  rotate_left
  · intro w9 hSw
    try dsimp only at hSw
    obtain ⟨s0, s1⟩ := hSw
    go_simp
    try with_reducible rfl
  try simp only [Act.put, List.setIfInBounds_toArray, List.set_cons_zero, List.set_cons_succ]
  refine tkH 6 (v := ?_) rfl (fun _ _ _ h => h) (Or.inl ⟨by rfl, ?_⟩) hH ?_
  rotate_left
  · intro w9 hSw
    try dsimp only at hSw
    obtain ⟨s0, s1⟩ := hSw
    go_simp
    try with_reducible rfl
  try simp only [Act.put, List.setIfInBounds_toArray, List.set_cons_zero, List.set_cons_succ]
  refine tkH 7 (v := ?_) rfl (fun _ _ _ h => h) (Or.inl ⟨by rfl, ?_⟩) hH ?_
  rotate_left
  · intro w9 hSw
    try dsimp only at hSw
    obtain ⟨s0, s1⟩ := hSw
    go_simp
    try with_reducible rfl
  try simp only [Act.put, List.setIfInBounds_toArray, List.set_cons_zero, List.set_cons_succ]
  refine tkH 8 (v := ?_) rfl (fun _ _ _ h => h) (Or.inl ⟨by rfl, ?_⟩) hH ?_
  rotate_left
  · intro w9 hSw
    try dsimp only at hSw
    obtain ⟨s0, s1⟩ := hSw
    go_simp
    try with_reducible rfl
  try simp only [Act.put, List.setIfInBounds_toArray, List.set_cons_zero, List.set_cons_succ]
  refine tkH 9 (v := ?_) rfl (fun _ _ _ h => h) (Or.inl ⟨by rfl, ?_⟩) hH ?_
  rotate_left
  · intro w9 hSw
    try dsimp only at hSw
    obtain ⟨s0, s1⟩ := hSw
    go_simp
    try with_reducible rfl
  try simp only [Act.put, List.setIfInBounds_toArray, List.set_cons_zero, List.set_cons_succ]
  refine tkH 10 (v := ?_) rfl (fun _ _ _ h => h) (Or.inl ⟨by rfl, ?_⟩) hH ?_
  rotate_left
  · intro w9 hSw
    try dsimp only at hSw
    obtain ⟨s0, s1⟩ := hSw
    go_simp
    try with_reducible rfl
  try simp only [Act.put, List.setIfInBounds_toArray, List.set_cons_zero, List.set_cons_succ]
  refine tkH 11 (v := ?_) rfl (fun _ _ _ h => h) (Or.inl ⟨by rfl, ?_⟩) hH ?_
  rotate_left
  · intro w9 hSw
    try dsimp only at hSw
    obtain ⟨s0, s1⟩ := hSw
    go_simp
    try with_reducible rfl
  try simp only [Act.put, List.setIfInBounds_toArray, List.set_cons_zero, List.set_cons_succ]
  refine tkH 12 (v := ?_) rfl (fun _ _ _ h => h) (Or.inl ⟨by rfl, ?_⟩) hH ?_
  rotate_left
  · intro w9 hSw
    try dsimp only at hSw
    obtain ⟨s0, s1⟩ := hSw
    go_simp
    try with_reducible rfl
  try simp only [Act.put, List.setIfInBounds_toArray, List.set_cons_zero, List.set_cons_succ]
  refine tkH 13 (v := ?_) rfl (fun _ _ _ h => h) (Or.inl ⟨by rfl, ?_⟩) hH ?_
  rotate_left
  · intro w9 hSw
    try dsimp only at hSw
    obtain ⟨s0, s1⟩ := hSw
    go_simp
    try with_reducible rfl
  try simp only [Act.put, List.setIfInBounds_toArray, List.set_cons_zero, List.set_cons_succ]
  refine tkH 14 (v := ?_) rfl (fun _ _ _ h => h) (Or.inl ⟨by rfl, ?_⟩) hH ?_
  rotate_left
  · intro w9 hSw
    try dsimp only at hSw
    obtain ⟨s0, s1⟩ := hSw
    go_simp
    try with_reducible rfl
  try simp only [Act.put, List.setIfInBounds_toArray, List.set_cons_zero, List.set_cons_succ]
  refine tkH 15 (v := ?_) rfl (fun _ _ _ h => h) (Or.inl ⟨by rfl, ?_⟩) hH ?_
  rotate_left
  · intro w9 hSw
    try dsimp only at hSw
    obtain ⟨s0, s1⟩ := hSw
    go_simp
    try with_reducible rfl
  try simp only [Act.put, List.setIfInBounds_toArray, List.set_cons_zero, List.set_cons_succ]
  refine wpAnyH_done (by kernel_rfl) ?_ _
  have hs2 := hB.size
  replace h1 := h1.now hXd
  replace h2 := h2.now hXd
  replace hB := hB.trans (hXd.mono hB.size)
  go_wp2_with fail
  refine (impl_addMatrices _ _ n F G _ h1 h2 hn (by omega)).mono ?_
  rintro e w3 ⟨z, rfl, hO, hB3⟩
  go_wp2
  go_ret2
  exact ⟨z, rfl, hO.rebase hB.size, hB.trans (hB3.mono hB.size)⟩
end Go.Proofs.Ytcoomogabicfnaa
