/-
  The walks of the laws' comparisons of structs and of lists of structs.
-/
import Derived.Test.YtcoomogabicfnaaDoorCopy
namespace Go.Proofs.YtcoomogabicfnaaDoor
open Go.RowKit
set_option linter.unusedVariables false
set_option linter.unusedSimpArgs false


end Go.Proofs.YtcoomogabicfnaaDoor
namespace Go.Proofs.YtcoomogabicfnaaDoor
open Go.RowKit
set_option linter.unusedVariables false
set_option linter.unusedSimpArgs false

theorem only_setCell {a w : World} {r : Option Nat} (h : a.grownBy w r) {p : Addr} (hp : r = some p.block ∨ a.heap.size ≤ p.block) (u : Value) : a.grownBy (w.setCell p u) r :=
  ⟨h.os, h.tape, h.output, by simpa [World.setCell] using h.size, fun i hi hne => (Below.heap_setCell w p u i (by
    rintro rfl
    rcases hp with hp | hp
    · exact hne hp.symm
    · omega)).trans (h.block i hi hne)⟩
theorem grown_trans' {a b c : World} {r : Option Nat} (h : a.grownBy b r) (k : b.grownBy c r) : a.grownBy c r :=
  ⟨k.os.trans h.os, k.tape.trans h.tape, k.output.trans h.output, Nat.le_trans h.size k.size, fun i hi hn => (k.block i (Nat.lt_of_lt_of_le hi h.size) hn).trans (h.block i hi hn)⟩

def markInt64 (k : Int) (i : Nat) : Int := k + i
def marksInt64 (k : Int) (n : Nat) : List Int := (List.range n).map (markInt64 k)
theorem marksInt64_len (k : Int) (n : Nat) : (marksInt64 k n).length = n := by simp [marksInt64]
theorem marksInt64_get (k : Int) (j n : Nat) (h : j < (marksInt64 k n).length) : (marksInt64 k n)[j] = markInt64 k j := by simp [marksInt64]
theorem marksInt64_step (k : Int) (j : Nat) (l : List Int) (h : j < l.length) : (marksInt64 k j ++ l.drop j).set j (markInt64 k j) = marksInt64 k (j + 1) ++ l.drop (j + 1) := by
  rw [List.set_append_right _ _ (by simp [marksInt64_len])]
  have e : j - (marksInt64 k j).length = 0 := by simp [marksInt64_len]
  rw [e, List.drop_eq_getElem_cons h, List.set_cons_zero]
  simp [marksInt64, List.range_succ]

def markFiring (k : Int) (i : Nat) : Firing := ⟨k + i * 3, k + i * 3 + 1, k + i * 3 + 1 + 1⟩
def marksFiring (k : Int) (n : Nat) : List Firing := (List.range n).map (markFiring k)
theorem marksFiring_len (k : Int) (n : Nat) : (marksFiring k n).length = n := by simp [marksFiring]
theorem marksFiring_get (k : Int) (j n : Nat) (h : j < (marksFiring k n).length) : (marksFiring k n)[j] = markFiring k j := by simp [marksFiring]
theorem marksFiring_step (k : Int) (j : Nat) (l : List Firing) (h : j < l.length) : (marksFiring k j ++ l.drop j).set j (markFiring k j) = marksFiring k (j + 1) ++ l.drop (j + 1) := by
  rw [List.set_append_right _ _ (by simp [marksFiring_len])]
  have e : j - (marksFiring k j).length = 0 := by simp [marksFiring_len]
  rw [e, List.drop_eq_getElem_cons h, List.set_cons_zero]
  simp [marksFiring, List.range_succ]

def markPlace (k : Int) (i : Nat) : Place := ⟨k + i * 4, k + i * 4 + 1, k + i * 4 + 1 + 1, k + i * 4 + 1 + 1 + 1⟩
def marksPlace (k : Int) (n : Nat) : List Place := (List.range n).map (markPlace k)
theorem marksPlace_len (k : Int) (n : Nat) : (marksPlace k n).length = n := by simp [marksPlace]
theorem marksPlace_get (k : Int) (j n : Nat) (h : j < (marksPlace k n).length) : (marksPlace k n)[j] = markPlace k j := by simp [marksPlace]
theorem marksPlace_step (k : Int) (j : Nat) (l : List Place) (h : j < l.length) : (marksPlace k j ++ l.drop j).set j (markPlace k j) = marksPlace k (j + 1) ++ l.drop (j + 1) := by
  rw [List.set_append_right _ _ (by simp [marksPlace_len])]
  have e : j - (marksPlace k j).length = 0 := by simp [marksPlace_len]
  rw [e, List.drop_eq_getElem_cons h, List.set_cons_zero]
  simp [marksPlace, List.range_succ]

set_option maxHeartbeats 400000 in
set_option maxRecDepth 100000 in
theorem laws_markPlaceS (v : Value) (l : List Place) (k : Int) (base : Nat) (w : World) (h0 : Own Place.cells 4 60 w base v l) (h1 : l.length ≤ 1048576) (h2 : 0 ≤ k) (h3 : k ≤ 16777216) :
    Calls Tryd.prog 28 #[v, .int .i64 k] w fun e w' => e = .returned (.int .i64 (k + l.length * 4)) ∧ Own Place.cells 4 60 w' base v (marksPlace k l.length) ∧ w.grownBy w' v.ownBlock := by
  obtain ⟨A, c, rfl⟩ := h0.shape
  go_enter Tryd.func28, Tryd.ntmps28
  go_wp2
  go_loopw [1, 5] (fun q i wr => ∃ j : Nat, j ≤ l.length ∧ i = .int .i64 j ∧ q = .int .i64 (k + j * 4) ∧ Own Place.cells 4 60 wr base (.slice A l.length c) (marksPlace k j ++ l.drop j) ∧ w.grownBy wr (Value.slice A l.length c).ownBlock) (fun _ i _ => l.length - (intOf i).toNat)
  case atStart => exact ⟨0, Nat.zero_le _, rfl, by simp, by simpa [marksPlace] using h0, World.grownBy.refl _ _⟩
  case round =>
    obtain ⟨j, hj, rfl, rfl, hO, hG⟩ := hrel
    by_cases hlt : j < l.length
    · have hlen : j < (marksPlace k j ++ l.drop j).length := by simp [marksPlace_len]; omega
      obtain ⟨g, c', hA, hb, hg, hfz, hcell⟩ := hO.at_ Place.cells_len j hlen
      obtain rfl : A = some ⟨g, 0, none⟩ := by injection hA
      clear hA hcell
      obtain ⟨_, _, _, d0, d1, d2, d3⟩ := own_places_at hO j hlen
      go_wp2
      go_roundw
      case rel =>
        refine ⟨j + 1, hlt, by go_num, by go_num, ?_, (only_setCell (p := ⟨g, j * 4 + 3, none⟩) (only_setCell (p := ⟨g, j * 4 + 2, none⟩) (only_setCell (p := ⟨g, j * 4 + 1, none⟩) (only_setCell (p := ⟨g, j * 4, none⟩) hG (.inl rfl) _) (.inl rfl) _) (.inl rfl) _) (.inl rfl) _)⟩
        have h1 := hO.setP j hlen (markPlace k j)
        rw [marksPlace_step _ _ _ hlt] at h1
        exact h1
      case measure => simp [intOf]; omega
    · obtain rfl : j = l.length := by omega
      go_wp2
      go_ret
      exact ⟨rfl, by simpa using hO, hG⟩

set_option maxHeartbeats 400000 in
set_option maxRecDepth 100000 in
theorem laws_heldPlaceS (v : Value) (n : Nat) (k : Int) (w : World) (B : Nat) (h0 : Lst Place.cells 4 w B v (marksPlace k n)) (h1 : n ≤ 1048576) (h2 : 0 ≤ k) (h3 : k ≤ 16777216) :
    Calls Tryd.prog 30 #[v, .int .i64 k] w fun e w' => e = .returned (.int .i64 (k + n * 4)) ∧ w = w' := by
  obtain ⟨A, c, rfl⟩ := h0.shape
  rw [marksPlace_len] at h0 ⊢
  go_enter Tryd.func30, Tryd.ntmps30
  go_wp2
  go_loop [1, 5] (fun q i => ∃ j : Nat, j ≤ n ∧ i = .int .i64 j ∧ q = .int .i64 (k + j * 4)) (fun _ i => n - (intOf i).toNat)
  case atStart => exact ⟨0, Nat.zero_le _, rfl, by simp⟩
  case round =>
    obtain ⟨j, hj, rfl, rfl⟩ := hrel
    by_cases hlt : j < n
    · obtain ⟨b, off, rfl, hb, d0, d1, d2, d3⟩ := places_at h0 j (by rw [marksPlace_len]; exact hlt)
      simp only [marksPlace_get, markPlace] at d0 d1 d2 d3
      have hq : ∀ x : Int, (x != x) = false := by simp
      go_wp2
      go_round
      case rel => exact ⟨j + 1, hlt, by go_num, by go_num⟩
      case measure => simp [intOf]; omega
    · obtain rfl : j = n := by omega
      go_wp2
      go_ret
      exact ⟨rfl, rfl⟩
end Go.Proofs.YtcoomogabicfnaaDoor
namespace Go.Proofs.YtcoomogabicfnaaDoor
open Go.RowKit
set_option linter.unusedVariables false
set_option linter.unusedSimpArgs false

set_option maxHeartbeats 400000 in
set_option maxRecDepth 100000 in
theorem laws_eqPlace (x y : Place) (w : World) :
    Calls Tryd.prog 47 #[.agg #[.int .i64 x.src, .int .i64 x.dst, .int .i64 x.delay, .int .i64 x.tokens], .agg #[.int .i64 y.src, .int .i64 y.dst, .int .i64 y.delay, .int .i64 y.tokens]] w fun e w' => e = .returned (.bool (decide (x = y))) ∧ Below w.heap.size w w' := by
  obtain ⟨x0, x1, x2, x3⟩ := x
  obtain ⟨y0, y1, y2, y3⟩ := y
  by_cases h0 : x0 = y0
  · subst h0
    have e0 : (x0 != x0) = false := by simp
    by_cases h1 : x1 = y1
    · subst h1
      have e1 : (x1 != x1) = false := by simp
      by_cases h2 : x2 = y2
      · subst h2
        have e2 : (x2 != x2) = false := by simp
        by_cases h3 : x3 = y3
        · subst h3
          have e3 : (x3 != x3) = false := by simp
          go_enter Tryd.func47, Tryd.ntmps47
          go_wp2
          go_ret
          exact ⟨ret_bool (by simp), (by repeat (first | exact Below.refl _ _ | assumption | refine Below.drew ?_ | refine Below.alloc ?_ (by simp <;> omega) _ | refine Below.setCell ?_ (by simp <;> omega) _))⟩
        · have e3 : (x3 != y3) = true := by simpa using h3
          go_enter Tryd.func47, Tryd.ntmps47
          go_wp2
          go_ret
          exact ⟨ret_bool (by simp; intros; simp_all), (by repeat (first | exact Below.refl _ _ | assumption | refine Below.drew ?_ | refine Below.alloc ?_ (by simp <;> omega) _ | refine Below.setCell ?_ (by simp <;> omega) _))⟩
      · have e2 : (x2 != y2) = true := by simpa using h2
        go_enter Tryd.func47, Tryd.ntmps47
        go_wp2
        go_ret
        exact ⟨ret_bool (by simp; intros; simp_all), (by repeat (first | exact Below.refl _ _ | assumption | refine Below.drew ?_ | refine Below.alloc ?_ (by simp <;> omega) _ | refine Below.setCell ?_ (by simp <;> omega) _))⟩
    · have e1 : (x1 != y1) = true := by simpa using h1
      go_enter Tryd.func47, Tryd.ntmps47
      go_wp2
      go_ret
      exact ⟨ret_bool (by simp; intros; simp_all), (by repeat (first | exact Below.refl _ _ | assumption | refine Below.drew ?_ | refine Below.alloc ?_ (by simp <;> omega) _ | refine Below.setCell ?_ (by simp <;> omega) _))⟩
  · have e0 : (x0 != y0) = true := by simpa using h0
    go_enter Tryd.func47, Tryd.ntmps47
    go_wp2
    go_ret
    exact ⟨ret_bool (by simp; intros; simp_all), (by repeat (first | exact Below.refl _ _ | assumption | refine Below.drew ?_ | refine Below.alloc ?_ (by simp <;> omega) _ | refine Below.setCell ?_ (by simp <;> omega) _))⟩

set_option maxHeartbeats 400000 in
set_option maxRecDepth 100000 in
theorem laws_eqPlaceS (v u : Value) (l m : List Place) (w : World) (h0 : Lst Place.cells 4 w w.heap.size v l) (h1 : Lst Place.cells 4 w w.heap.size u m) :
    Calls Tryd.prog 27 #[v, u] w fun e w' => e = .returned (.bool (decide (l = m))) ∧ Below w.heap.size w w' := by
  obtain ⟨A, c, rfl⟩ := h0.shape
  obtain ⟨C, d, rfl⟩ := h1.shape
  have hl := h0.len_le
  have hm := h1.len_le
  by_cases hlm : l.length = m.length
  · have hne : ((l.length : Int) != (m.length : Int)) = false := by rw [hlm]; simp
    have hlm1 : l.length ≤ m.length := by omega
    have hlm2 : m.length ≤ l.length := by omega
    clear hlm
    go_enter Tryd.func27, Tryd.ntmps27
    go_wp2
    go_loopw [5] (fun i wr => ∃ k : Nat, k ≤ l.length ∧ i = .int .i64 k ∧ Hid (l.take k = m.take k) ∧ Below w.heap.size w wr) (fun i _ => l.length - (intOf i).toNat)
    case atStart => exact ⟨0, Nat.zero_le _, rfl, rfl, Below.refl _ _⟩
    case round =>
      obtain ⟨k, hk, rfl, hE, hB⟩ := hrel
      by_cases hlt : k < l.length
      · have hlt' : k < m.length := by omega
        obtain ⟨b, off, rfl, hb, c0, c1, c2, c3⟩ := places_at h0 k hlt
        obtain ⟨b', off', rfl, hb', d0, d1, d2, d3⟩ := places_at h1 k hlt'
        obtain ⟨hc, hf⟩ := bcell hB
        by_cases heq : l[k] = m[k]
        · have hq : decide (l[k] = m[k]) = true := decide_eq_true heq
          have heq' : Hid (l[k] = m[k]) := heq
          clear heq
          go_wp2_with fail
          go_still_tail 8, (by kernel_rfl)
          change wpList _ _ _ _ _ wr.drew
          go_wp2_with (go_at_call 47; refine (laws_eqPlace _ _ _).mono ?_; rintro e w1 ⟨rfl, hb1⟩)
          go_roundw
          case rel =>
            have hE' : Hid (l.take (k + 1) = m.take (k + 1)) := by have := hE.out; have h2 := heq'.out; show _ = _; rw [take_succ_get _ _ hlt, take_succ_get _ _ hlt', this, h2]
            have hB' := hB.drew.trans (hb1.mono hB.size)
            first | exact ⟨k + 1, hlt, by go_num, hE', hB'⟩ | ((repeat apply Exists.intro); exact ⟨⟨k + 1, hlt, by go_num, hE', hB'⟩, rfl⟩)
          case measure => simp [intOf]; omega
        · have hq : decide (l[k] = m[k]) = false := decide_eq_false heq
          have heq' : Hid (¬ l[k] = m[k]) := heq
          clear heq
          go_wp2_with fail
          go_still_tail 8, (by kernel_rfl)
          change wpList _ _ _ _ _ wr.drew
          go_wp2_with (go_at_call 47; refine (laws_eqPlace _ _ _).mono ?_; rintro e w1 ⟨rfl, hb1⟩)
          go_ret
          exact ⟨ret_bool (decide_eq_false (by intro h; exact heq'.out (by simp [h]))).symm, hB.drew.trans (hb1.mono hB.size)⟩
      · obtain rfl : k = l.length := by omega
        go_wp2
        go_ret
        exact ⟨ret_bool (decide_eq_true (by have h := hE.out; rw [List.take_length] at h; rw [h]; exact (List.take_of_length_le (by omega)))).symm, hB⟩
  · have hne : ((l.length : Int) != (m.length : Int)) = true := by rw [bne_iff_ne]; omega
    go_enter Tryd.func27, Tryd.ntmps27
    go_wp2
    go_ret
    exact ⟨ret_bool (decide_eq_false (by intro h; exact hlm (by rw [h]))).symm, Below.refl _ _⟩
end Go.Proofs.YtcoomogabicfnaaDoor
