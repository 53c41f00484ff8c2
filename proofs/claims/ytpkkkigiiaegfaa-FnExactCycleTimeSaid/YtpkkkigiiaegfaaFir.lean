/-
  The walks of the laws' own functions: sizes, copies, comparisons.
-/
import Derived.Test.YtpkkkigiiaegfaaKit
namespace Go.Proofs.Ytpkkkigiiaegfaa
open Go.RowKit
set_option linter.unusedVariables false
set_option linter.unusedSimpArgs false


set_option maxHeartbeats 400000 in
set_option maxRecDepth 100000 in
theorem laws_szPlaceS (v : Value) (B : Nat) (l : List Place) (left : Int) (w : World) (h0 : Lst Place.cells 4 w B v l) (h1 : 0 ≤ left) (h2 : left ≤ 1048576) :
    Calls Try.prog 98 #[v, .int .i64 left] w fun e w' => e = .returned (.int .i64 (if left < l.length then -1 else left - l.length)) ∧ w = w' := by
  obtain ⟨A, c, rfl⟩ := h0.shape
  have hl := h0.len_le
  by_cases h : left < l.length
  · rw [if_pos h]
    go_enter Try.func98, Try.ntmps98
    go_wp2
    go_ret
    exact ⟨rfl, rfl⟩
  · rw [if_neg h]
    go_enter Try.func98, Try.ntmps98
    go_wp2
    go_ret
    exact ⟨rfl, rfl⟩

set_option maxHeartbeats 400000 in
set_option maxRecDepth 100000 in
theorem laws_toPlace (a b c d : Int) (w : World) :
    Calls Try.prog 177 #[.agg #[.int .i64 a, .int .i64 b, .int .i64 c, .int .i64 d]] w fun e w' => e = .returned (.agg #[.int .i64 a, .int .i64 b, .int .i64 c, .int .i64 d]) ∧ Below w.heap.size w w' := by
  go_enter Try.func177, Try.ntmps177
  go_wp2
  refine bodyPost_ret (v := .agg #[.int .i64 a, .int .i64 b, .int .i64 c, .int .i64 d]) (by simp [results, Try.results177, go_sem]) rfl ⟨rfl, ?_⟩
  repeat (first | exact Below.refl _ _ | assumption | refine Below.drew ?_ | refine Below.alloc ?_ (by simp <;> omega) _ | refine Below.setCell ?_ (by simp <;> omega) _)

theorem info_implPlace : (Try.prog.info? 65).map (fun i => (i.zero, i.size, i.bytes)) = some (some (.agg #[.int .i64 0, .int .i64 0, .int .i64 0, .int .i64 0]), 4, 32) := by kernel_rfl
set_option maxHeartbeats 400000 in
set_option maxRecDepth 100000 in
theorem laws_toPlaceS (v : Value) (l : List Place) (w : World) (h0 : Lst Place.cells 4 w w.heap.size v l) (h1 : l.length ≤ 1048576) :
    Calls Try.prog 102 #[v] w (RetOwn Place.cells 4 65 w l) := by
  obtain ⟨A, c, rfl⟩ := h0.shape
  have hmk := run_make_lst (P := Try.prog) Place.cells 4 Place.cells_len (by omega) ⟨0, 0, 0, 0⟩ 30 65 _ 32 Try.underlying30 info_implPlace rfl .i64 .i64 l.length (by omega) (by omega)
  have hm1 := fun w => (hmk w).1
  have hm2 := (hmk w).2 w.heap.size (Nat.le_refl _)
  clear hmk
  go_enter Try.func102, Try.ntmps102
  go_wp2
  clear hm1
  go_loopw [4] (fun i wr => ∃ k : Nat, k ≤ l.length ∧ i = .int .i64 k ∧ Own Place.cells 4 65 wr w.heap.size (.slice (some ⟨w.heap.size, 0, none⟩) l.length l.length) (l.take k ++ List.replicate (l.length - k) ⟨0, 0, 0, 0⟩) ∧ Below w.heap.size w wr) (fun i _ => l.length - (intOf i).toNat)
  case atStart => exact ⟨0, Nat.zero_le _, rfl, by simpa using hm2, (Below.refl _ _).alloc (Nat.le_refl _) _⟩
  case round =>
    clear hm2
    obtain ⟨k, hk, rfl, hO, hB⟩ := hrel
    by_cases hlt : k < l.length
    · obtain ⟨b, off, rfl, hb, c0, c1, c2, c3⟩ := places_at h0 k hlt
      obtain ⟨hc, hf⟩ := bcell hB
      go_wp2_with (go_at_call 177; refine (laws_toPlace _ _ _ _ _).mono ?_; rintro e w1 ⟨rfl, hb1⟩; have hO1 := hO.now hb1; obtain ⟨_, hg, hfz, d0, d1, d2, d3⟩ := own_places_at hO1 k (by rw [fill_len _ _ _ hk]; exact hlt))
      go_roundw
      case rel =>
        refine ⟨k + 1, hlt, by go_num, ?_, ?_⟩
        · have := hO1.setP k (by rw [fill_len _ _ _ hk]; exact hlt) l[k]
          rw [fill_set _ _ _ hlt] at this
          exact this
        · exact (((((hB.trans (hb1.mono (by have := hB.size; omega))).setCell (Nat.le_refl _) _).setCell (Nat.le_refl _) _).setCell (Nat.le_refl _) _).setCell (Nat.le_refl _) _)
      case measure => simp [intOf]; omega
    · obtain rfl : k = l.length := by omega
      go_wp2
      go_ret
      exact ⟨_, rfl, by rw [fill_all] at hO; exact hO, hB⟩

set_option maxHeartbeats 400000 in
set_option maxRecDepth 100000 in
theorem laws_toInt64S (v : Value) (l : List Int) (w : World) (h0 : Lst intCell 1 w w.heap.size v l) (h1 : l.length ≤ 1048576) :
    Calls Try.prog 22 #[v] w (RetOwn intCell 1 2 w l) := by
  obtain ⟨A, c, rfl⟩ := h0.shape
  have hmk := run_make_lst (P := Try.prog) intCell 1 intCell_len (by omega) (0 : Int) 37 2 _ 8 Try.underlying37 info_i64 rfl .i64 .i64 l.length (by omega) (by omega)
  have hm1 := fun w => (hmk w).1
  have hm2 := (hmk w).2 w.heap.size (Nat.le_refl _)
  clear hmk
  go_enter Try.func22, Try.ntmps22
  go_wp2
  clear hm1
  go_loopw [4] (fun i wr => ∃ k : Nat, k ≤ l.length ∧ i = .int .i64 k ∧ Own intCell 1 2 wr w.heap.size (.slice (some ⟨w.heap.size, 0, none⟩) l.length l.length) (l.take k ++ List.replicate (l.length - k) (0 : Int)) ∧ Below w.heap.size w wr) (fun i _ => l.length - (intOf i).toNat)
  case atStart => exact ⟨0, Nat.zero_le _, rfl, by simpa using hm2, (Below.refl _ _).alloc (Nat.le_refl _) _⟩
  case round =>
    clear hm2
    obtain ⟨k, hk, rfl, hO, hB⟩ := hrel
    by_cases hlt : k < l.length
    · obtain ⟨b, off, rfl, hb, c0⟩ := ints_at h0 k hlt
      obtain ⟨hc, hf⟩ := bcell hB
      obtain ⟨_, hg, hfz, d0⟩ := own_ints_at hO k (by rw [fill_len _ _ _ hk]; exact hlt)
      go_wp2
      go_roundw
      case rel =>
        refine ⟨k + 1, hlt, by go_num, ?_, ?_⟩
        · have := hO.set1 k (by rw [fill_len _ _ _ hk]; exact hlt) l[k]
          rw [fill_set _ _ _ hlt] at this
          exact this
        · exact hB.setCell (Nat.le_refl _) _
      case measure => simp [intOf]; omega
    · obtain rfl : k = l.length := by omega
      go_wp2
      go_ret
      exact ⟨_, rfl, by rw [fill_all] at hO; exact hO, hB⟩
set_option maxHeartbeats 400000 in
set_option maxRecDepth 100000 in
theorem laws_eqInt64S (v u : Value) (l m : List Int) (w : World) (h0 : Lst intCell 1 w w.heap.size v l) (h1 : Lst intCell 1 w w.heap.size u m) :
    Calls Try.prog 25 #[v, u] w fun e w' => e = .returned (.bool (decide (l = m))) ∧ Below w.heap.size w w' := by
  obtain ⟨A, c, rfl⟩ := h0.shape
  obtain ⟨C, d, rfl⟩ := h1.shape
  have hl := h0.len_le
  have hm := h1.len_le
  by_cases hlm : l.length = m.length
  · have hne : ((l.length : Int) != (m.length : Int)) = false := by rw [hlm]; simp
    have hlm1 : l.length ≤ m.length := by omega
    have hlm2 : m.length ≤ l.length := by omega
    clear hlm
    go_enter Try.func25, Try.ntmps25
    go_wp2
    go_loopw [5] (fun i wr => ∃ k : Nat, k ≤ l.length ∧ i = .int .i64 k ∧ Hid (l.take k = m.take k) ∧ Below w.heap.size w wr) (fun i _ => l.length - (intOf i).toNat)
    case atStart => exact ⟨0, Nat.zero_le _, rfl, rfl, Below.refl _ _⟩
    case round =>
      obtain ⟨k, hk, rfl, hE, hB⟩ := hrel
      by_cases hlt : k < l.length
      · have hlt' : k < m.length := by omega
        obtain ⟨b, off, rfl, hb, c0⟩ := ints_at h0 k hlt
        obtain ⟨b', off', rfl, hb', c0'⟩ := ints_at h1 k hlt'
        obtain ⟨hc, hf⟩ := bcell hB
        by_cases heq : l[k] = m[k]
        · have hq : (l[k] != m[k]) = false := by simp [heq]
          have heq' : Hid (l[k] = m[k]) := heq
          clear heq
          go_wp2_with fail
          go_quiet (fail)
          go_wp2
          go_roundw
          case rel => exact ⟨k + 1, hlt, by go_num, by have := hE.out; have h2 := heq'.out; show _ = _; rw [take_succ_get _ _ hlt, take_succ_get _ _ hlt', this, h2], below_drewN hB _⟩
          case measure => simp [intOf]; omega
        · have hq : (l[k] != m[k]) = true := by simp [heq]
          go_wp2_with fail
          go_quiet (fail)
          go_wp2
          go_ret
          exact ⟨ret_bool (decide_eq_false (by intro h; exact heq (by simp [h]))).symm, below_drewN hB _⟩
      · obtain rfl : k = l.length := by omega
        go_wp2
        go_ret
        exact ⟨ret_bool (decide_eq_true (by have h := hE.out; rw [List.take_length] at h; rw [h]; exact (List.take_of_length_le (by omega)))).symm, hB⟩
  · have hne : ((l.length : Int) != (m.length : Int)) = true := by rw [bne_iff_ne]; omega
    go_enter Try.func25, Try.ntmps25
    go_wp2
    go_ret
    exact ⟨ret_bool (decide_eq_false (by intro h; exact hlm (by rw [h]))).symm, Below.refl _ _⟩
end Go.Proofs.Ytpkkkigiiaegfaa
