/-
  The walks of the laws' comparisons of structs and of lists of structs.
-/
import Derived.Test.YtpkkkigiiaegfaaFir
namespace Go.Proofs.Ytpkkkigiiaegfaa
open Go.RowKit
set_option linter.unusedVariables false
set_option linter.unusedSimpArgs false

set_option maxHeartbeats 400000 in
set_option maxRecDepth 100000 in
theorem laws_eqPlace (x y : Place) (w : World) :
    Calls Try.prog 183 #[.agg #[.int .i64 x.src, .int .i64 x.dst, .int .i64 x.delay, .int .i64 x.tokens], .agg #[.int .i64 y.src, .int .i64 y.dst, .int .i64 y.delay, .int .i64 y.tokens]] w fun e w' => e = .returned (.bool (decide (x = y))) ∧ Below w.heap.size w w' := by
  obtain ⟨x0, x1, x2, x3⟩ := x
  obtain ⟨y0, y1, y2, y3⟩ := y
  by_cases h0 : x0 = y0
  · subst h0
    have e0 : (x0 != x0) = false := by simp
    by_cases h1 : x1 = y1
    · subst h1
      have e1 : (x1 != x1) = false := by simp
      by_cases h2 : x2 = y2
      · subst h2
        have e2 : (x2 != x2) = false := by simp
        by_cases h3 : x3 = y3
        · subst h3
          have e3 : (x3 != x3) = false := by simp
          go_enter Try.func183, Try.ntmps183
          go_wp2
          go_ret
          exact ⟨ret_bool (by simp), (by repeat (first | exact Below.refl _ _ | assumption | refine Below.drew ?_ | refine Below.alloc ?_ (by simp <;> omega) _ | refine Below.setCell ?_ (by simp <;> omega) _))⟩
        · have e3 : (x3 != y3) = true := by simpa using h3
          go_enter Try.func183, Try.ntmps183
          go_wp2
          go_ret
          exact ⟨ret_bool (by simp; intros; simp_all), (by repeat (first | exact Below.refl _ _ | assumption | refine Below.drew ?_ | refine Below.alloc ?_ (by simp <;> omega) _ | refine Below.setCell ?_ (by simp <;> omega) _))⟩
      · have e2 : (x2 != y2) = true := by simpa using h2
        go_enter Try.func183, Try.ntmps183
        go_wp2
        go_ret
        exact ⟨ret_bool (by simp; intros; simp_all), (by repeat (first | exact Below.refl _ _ | assumption | refine Below.drew ?_ | refine Below.alloc ?_ (by simp <;> omega) _ | refine Below.setCell ?_ (by simp <;> omega) _))⟩
    · have e1 : (x1 != y1) = true := by simpa using h1
      go_enter Try.func183, Try.ntmps183
      go_wp2
      go_ret
      exact ⟨ret_bool (by simp; intros; simp_all), (by repeat (first | exact Below.refl _ _ | assumption | refine Below.drew ?_ | refine Below.alloc ?_ (by simp <;> omega) _ | refine Below.setCell ?_ (by simp <;> omega) _))⟩
  · have e0 : (x0 != y0) = true := by simpa using h0
    go_enter Try.func183, Try.ntmps183
    go_wp2
    go_ret
    exact ⟨ret_bool (by simp; intros; simp_all), (by repeat (first | exact Below.refl _ _ | assumption | refine Below.drew ?_ | refine Below.alloc ?_ (by simp <;> omega) _ | refine Below.setCell ?_ (by simp <;> omega) _))⟩

set_option maxHeartbeats 400000 in
set_option maxRecDepth 100000 in
theorem laws_eqPlaceS (v u : Value) (l m : List Place) (w : World) (h0 : Lst Place.cells 4 w w.heap.size v l) (h1 : Lst Place.cells 4 w w.heap.size u m) :
    Calls Try.prog 105 #[v, u] w fun e w' => e = .returned (.bool (decide (l = m))) ∧ Below w.heap.size w w' := by
  obtain ⟨A, c, rfl⟩ := h0.shape
  obtain ⟨C, d, rfl⟩ := h1.shape
  have hl := h0.len_le
  have hm := h1.len_le
  by_cases hlm : l.length = m.length
  · have hne : ((l.length : Int) != (m.length : Int)) = false := by rw [hlm]; simp
    have hlm1 : l.length ≤ m.length := by omega
    have hlm2 : m.length ≤ l.length := by omega
    clear hlm
    go_enter Try.func105, Try.ntmps105
    go_wp2
    go_loopw [5] (fun i wr => ∃ k : Nat, k ≤ l.length ∧ i = .int .i64 k ∧ Hid (l.take k = m.take k) ∧ Below w.heap.size w wr) (fun i _ => l.length - (intOf i).toNat)
    case atStart => exact ⟨0, Nat.zero_le _, rfl, rfl, Below.refl _ _⟩
    case round =>
      obtain ⟨k, hk, rfl, hE, hB⟩ := hrel
      by_cases hlt : k < l.length
      · have hlt' : k < m.length := by omega
        obtain ⟨b, off, rfl, hb, c0, c1, c2, c3⟩ := places_at h0 k hlt
        obtain ⟨b', off', rfl, hb', d0, d1, d2, d3⟩ := places_at h1 k hlt'
        obtain ⟨hc, hf⟩ := bcell hB
        by_cases heq : l[k] = m[k]
        · have hq : decide (l[k] = m[k]) = true := decide_eq_true heq
          have heq' : Hid (l[k] = m[k]) := heq
          clear heq
          go_wp2_with fail
          go_still_tail 8, (by kernel_rfl)
          change wpList _ _ _ _ _ wr.drew
          go_wp2_with (go_at_call 183; refine (laws_eqPlace _ _ _).mono ?_; rintro e w1 ⟨rfl, hb1⟩)
          go_roundw
          case rel =>
            have hE' : Hid (l.take (k + 1) = m.take (k + 1)) := by have := hE.out; have h2 := heq'.out; show _ = _; rw [take_succ_get _ _ hlt, take_succ_get _ _ hlt', this, h2]
            have hB' := hB.drew.trans (hb1.mono hB.size)
            first | exact ⟨k + 1, hlt, by go_num, hE', hB'⟩ | ((repeat apply Exists.intro); exact ⟨⟨k + 1, hlt, by go_num, hE', hB'⟩, rfl⟩)
          case measure => simp [intOf]; omega
        · have hq : decide (l[k] = m[k]) = false := decide_eq_false heq
          have heq' : Hid (¬ l[k] = m[k]) := heq
          clear heq
          go_wp2_with fail
          go_still_tail 8, (by kernel_rfl)
          change wpList _ _ _ _ _ wr.drew
          go_wp2_with (go_at_call 183; refine (laws_eqPlace _ _ _).mono ?_; rintro e w1 ⟨rfl, hb1⟩)
          go_ret
          exact ⟨ret_bool (decide_eq_false (by intro h; exact heq'.out (by simp [h]))).symm, hB.drew.trans (hb1.mono hB.size)⟩
      · obtain rfl : k = l.length := by omega
        go_wp2
        go_ret
        exact ⟨ret_bool (decide_eq_true (by have h := hE.out; rw [List.take_length] at h; rw [h]; exact (List.take_of_length_le (by omega)))).symm, hB⟩
  · have hne : ((l.length : Int) != (m.length : Int)) = true := by rw [bne_iff_ne]; omega
    go_enter Try.func105, Try.ntmps105
    go_wp2
    go_ret
    exact ⟨ret_bool (decide_eq_false (by intro h; exact hlm (by rw [h]))).symm, Below.refl _ _⟩
end Go.Proofs.Ytpkkkigiiaegfaa
