/-
  The walks of the laws' marks: markS writes 1, 2, 3 .. into a list of its caller's, heldS looks whether they are still there.
-/
import Derived.Test.YtpkkkigiiaegfaaFir
namespace Go.Proofs.Ytpkkkigiiaegfaa
open Go.RowKit
set_option linter.unusedVariables false
set_option linter.unusedSimpArgs false

theorem only_setCell {a w : World} {r : Option Nat} (h : a.grownBy w r) {p : Addr} (hp : r = some p.block ∨ a.heap.size ≤ p.block) (u : Value) : a.grownBy (w.setCell p u) r :=
  ⟨h.os, h.tape, h.output, by simpa [World.setCell] using h.size, fun i hi hne => (Below.heap_setCell w p u i (by
    rintro rfl
    rcases hp with hp | hp
    · exact hne hp.symm
    · omega)).trans (h.block i hi hne)⟩
theorem grown_trans' {a b c : World} {r : Option Nat} (h : a.grownBy b r) (k : b.grownBy c r) : a.grownBy c r :=
  ⟨k.os.trans h.os, k.tape.trans h.tape, k.output.trans h.output, Nat.le_trans h.size k.size, fun i hi hn => (k.block i (Nat.lt_of_lt_of_le hi h.size) hn).trans (h.block i hi hn)⟩

def markInt64 (k : Int) (i : Nat) : Int := k + i
def marksInt64 (k : Int) (n : Nat) : List Int := (List.range n).map (markInt64 k)
theorem marksInt64_len (k : Int) (n : Nat) : (marksInt64 k n).length = n := by simp [marksInt64]
theorem marksInt64_get (k : Int) (j n : Nat) (h : j < (marksInt64 k n).length) : (marksInt64 k n)[j] = markInt64 k j := by simp [marksInt64]
theorem marksInt64_step (k : Int) (j : Nat) (l : List Int) (h : j < l.length) : (marksInt64 k j ++ l.drop j).set j (markInt64 k j) = marksInt64 k (j + 1) ++ l.drop (j + 1) := by
  rw [List.set_append_right _ _ (by simp [marksInt64_len])]
  have e : j - (marksInt64 k j).length = 0 := by simp [marksInt64_len]
  rw [e, List.drop_eq_getElem_cons h, List.set_cons_zero]
  simp [marksInt64, List.range_succ]

set_option maxHeartbeats 400000 in
set_option maxRecDepth 100000 in
theorem laws_markInt64S (v : Value) (l : List Int) (k : Int) (base : Nat) (w : World) (h0 : Own intCell 1 2 w base v l) (h1 : l.length ≤ 1048576) (h2 : 0 ≤ k) (h3 : k ≤ 16777216) :
    Calls Try.prog 126 #[v, .int .i64 k] w fun e w' => e = .returned (.int .i64 (k + l.length)) ∧ Own intCell 1 2 w' base v (marksInt64 k l.length) ∧ w.grownBy w' v.ownBlock := by
  obtain ⟨A, c, rfl⟩ := h0.shape
  go_enter Try.func126, Try.ntmps126
  go_wp2
  go_loopw [1, 5] (fun q i wr => ∃ j : Nat, j ≤ l.length ∧ i = .int .i64 j ∧ q = .int .i64 (k + j) ∧ Own intCell 1 2 wr base (.slice A l.length c) (marksInt64 k j ++ l.drop j) ∧ w.grownBy wr (Value.slice A l.length c).ownBlock) (fun _ i _ => l.length - (intOf i).toNat)
  case atStart => exact ⟨0, Nat.zero_le _, rfl, by simp, by simpa [marksInt64] using h0, World.grownBy.refl _ _⟩
  case round =>
    obtain ⟨j, hj, rfl, rfl, hO, hG⟩ := hrel
    by_cases hlt : j < l.length
    · have hlen : j < (marksInt64 k j ++ l.drop j).length := by simp [marksInt64_len]; omega
      obtain ⟨g, c', hA, hb, hg, hfz, hcell⟩ := hO.at_ intCell_len j hlen
      obtain rfl : A = some ⟨g, 0, none⟩ := by injection hA
      clear hA hcell
      obtain ⟨_, _, _, d0⟩ := own_ints_at hO j hlen
      go_wp2
      go_roundw
      case rel =>
        refine ⟨j + 1, hlt, by go_num, by go_num, ?_, (only_setCell (p := ⟨g, j, none⟩) hG (.inl rfl) _)⟩
        have h1 := hO.set1 j hlen (markInt64 k j)
        rw [marksInt64_step _ _ _ hlt] at h1
        exact h1
      case measure => simp [intOf]; omega
    · obtain rfl : j = l.length := by omega
      go_wp2
      go_ret
      exact ⟨rfl, by simpa using hO, hG⟩

set_option maxHeartbeats 400000 in
set_option maxRecDepth 100000 in
theorem laws_heldInt64S (v : Value) (n : Nat) (k : Int) (w : World) (B : Nat) (h0 : Lst intCell 1 w B v (marksInt64 k n)) (h1 : n ≤ 1048576) (h2 : 0 ≤ k) (h3 : k ≤ 16777216) :
    Calls Try.prog 127 #[v, .int .i64 k] w fun e w' => e = .returned (.int .i64 (k + n)) ∧ w = w' := by
  obtain ⟨A, c, rfl⟩ := h0.shape
  rw [marksInt64_len] at h0 ⊢
  go_enter Try.func127, Try.ntmps127
  go_wp2
  go_loop [1, 5] (fun q i => ∃ j : Nat, j ≤ n ∧ i = .int .i64 j ∧ q = .int .i64 (k + j)) (fun _ i => n - (intOf i).toNat)
  case atStart => exact ⟨0, Nat.zero_le _, rfl, by simp⟩
  case round =>
    obtain ⟨j, hj, rfl, rfl⟩ := hrel
    by_cases hlt : j < n
    · obtain ⟨b, off, rfl, hb, d0⟩ := ints_at h0 j (by rw [marksInt64_len]; exact hlt)
      simp only [marksInt64_get, markInt64] at d0
      have hq : ∀ x : Int, (x != x) = false := by simp
      go_wp2
      go_round
      case rel => exact ⟨j + 1, hlt, by go_num, by go_num⟩
      case measure => simp [intOf]; omega
    · obtain rfl : j = n := by omega
      go_wp2
      go_ret
      exact ⟨rfl, rfl⟩

def markFiring (k : Int) (i : Nat) : Firing := ⟨k + i * 3, k + i * 3 + 1, k + i * 3 + 1 + 1⟩
def marksFiring (k : Int) (n : Nat) : List Firing := (List.range n).map (markFiring k)
theorem marksFiring_len (k : Int) (n : Nat) : (marksFiring k n).length = n := by simp [marksFiring]
theorem marksFiring_get (k : Int) (j n : Nat) (h : j < (marksFiring k n).length) : (marksFiring k n)[j] = markFiring k j := by simp [marksFiring]
theorem marksFiring_step (k : Int) (j : Nat) (l : List Firing) (h : j < l.length) : (marksFiring k j ++ l.drop j).set j (markFiring k j) = marksFiring k (j + 1) ++ l.drop (j + 1) := by
  rw [List.set_append_right _ _ (by simp [marksFiring_len])]
  have e : j - (marksFiring k j).length = 0 := by simp [marksFiring_len]
  rw [e, List.drop_eq_getElem_cons h, List.set_cons_zero]
  simp [marksFiring, List.range_succ]

def markPlace (k : Int) (i : Nat) : Place := ⟨k + i * 4, k + i * 4 + 1, k + i * 4 + 1 + 1, k + i * 4 + 1 + 1 + 1⟩
def marksPlace (k : Int) (n : Nat) : List Place := (List.range n).map (markPlace k)
theorem marksPlace_len (k : Int) (n : Nat) : (marksPlace k n).length = n := by simp [marksPlace]
theorem marksPlace_get (k : Int) (j n : Nat) (h : j < (marksPlace k n).length) : (marksPlace k n)[j] = markPlace k j := by simp [marksPlace]
theorem marksPlace_step (k : Int) (j : Nat) (l : List Place) (h : j < l.length) : (marksPlace k j ++ l.drop j).set j (markPlace k j) = marksPlace k (j + 1) ++ l.drop (j + 1) := by
  rw [List.set_append_right _ _ (by simp [marksPlace_len])]
  have e : j - (marksPlace k j).length = 0 := by simp [marksPlace_len]
  rw [e, List.drop_eq_getElem_cons h, List.set_cons_zero]
  simp [marksPlace, List.range_succ]

set_option maxHeartbeats 400000 in
set_option maxRecDepth 100000 in
theorem laws_markPlaceS (v : Value) (l : List Place) (k : Int) (base : Nat) (w : World) (h0 : Own Place.cells 4 65 w base v l) (h1 : l.length ≤ 1048576) (h2 : 0 ≤ k) (h3 : k ≤ 16777216) :
    Calls Try.prog 125 #[v, .int .i64 k] w fun e w' => e = .returned (.int .i64 (k + l.length * 4)) ∧ Own Place.cells 4 65 w' base v (marksPlace k l.length) ∧ w.grownBy w' v.ownBlock := by
  obtain ⟨A, c, rfl⟩ := h0.shape
  go_enter Try.func125, Try.ntmps125
  go_wp2
  go_loopw [1, 5] (fun q i wr => ∃ j : Nat, j ≤ l.length ∧ i = .int .i64 j ∧ q = .int .i64 (k + j * 4) ∧ Own Place.cells 4 65 wr base (.slice A l.length c) (marksPlace k j ++ l.drop j) ∧ w.grownBy wr (Value.slice A l.length c).ownBlock) (fun _ i _ => l.length - (intOf i).toNat)
  case atStart => exact ⟨0, Nat.zero_le _, rfl, by simp, by simpa [marksPlace] using h0, World.grownBy.refl _ _⟩
  case round =>
    obtain ⟨j, hj, rfl, rfl, hO, hG⟩ := hrel
    by_cases hlt : j < l.length
    · have hlen : j < (marksPlace k j ++ l.drop j).length := by simp [marksPlace_len]; omega
      obtain ⟨g, c', hA, hb, hg, hfz, hcell⟩ := hO.at_ Place.cells_len j hlen
      obtain rfl : A = some ⟨g, 0, none⟩ := by injection hA
      clear hA hcell
      obtain ⟨_, _, _, d0, d1, d2, d3⟩ := own_places_at hO j hlen
      go_wp2
      go_roundw
      case rel =>
        refine ⟨j + 1, hlt, by go_num, by go_num, ?_, (only_setCell (p := ⟨g, j * 4 + 3, none⟩) (only_setCell (p := ⟨g, j * 4 + 2, none⟩) (only_setCell (p := ⟨g, j * 4 + 1, none⟩) (only_setCell (p := ⟨g, j * 4, none⟩) hG (.inl rfl) _) (.inl rfl) _) (.inl rfl) _) (.inl rfl) _)⟩
        have h1 := hO.setP j hlen (markPlace k j)
        rw [marksPlace_step _ _ _ hlt] at h1
        exact h1
      case measure => simp [intOf]; omega
    · obtain rfl : j = l.length := by omega
      go_wp2
      go_ret
      exact ⟨rfl, by simpa using hO, hG⟩
end Go.Proofs.Ytpkkkigiiaegfaa
