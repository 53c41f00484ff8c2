/-
  Go's own comparison of two lists of numbers, and its first number that is not 0.
-/
import Derived.Test.YtbdklhahbeiffaaLexP
import Derived.Test.YtbdklhahbeiffaaLoad
namespace Go.Proofs.Ytbdklhahbeiffaa
open Go.RowKit
set_option linter.unusedVariables false
set_option linter.unusedSimpArgs false
theorem cmpL_end {l m : List Int} (h : l.length ≤ m.length) (he : cmpL l m = cmpL (l.drop l.length) (m.drop l.length)) : cmpL l m = if l.length < m.length then -1 else 0 := by
  rw [he, List.drop_length]
  split
  · rename_i hlt
    rw [List.drop_eq_getElem_cons hlt]
    rfl
  · rw [List.drop_of_length_le (by omega)]
    rfl
theorem cmpL_long {l m : List Int} {k : Nat} (hk : k < l.length) (h : m.length ≤ k) (he : cmpL l m = cmpL (l.drop k) (m.drop k)) : cmpL l m = 1 := by
  rw [he, List.drop_of_length_le h, List.drop_eq_getElem_cons hk]
  rfl
theorem cmpL_at {l m : List Int} {k : Nat} (hk : k < l.length) (h : k < m.length) (he : cmpL l m = cmpL (l.drop k) (m.drop k)) :
    cmpL l m = if cmpI l[k] m[k] = 0 then cmpL (l.drop (k + 1)) (m.drop (k + 1)) else cmpI l[k] m[k] := by
  rw [he, List.drop_eq_getElem_cons hk, List.drop_eq_getElem_cons h]
  rfl
theorem cmpI_rng (a b : Int) : cmpI a b = -1 ∨ cmpI a b = 0 ∨ cmpI a b = 1 := by
  unfold cmpI
  split
  · simp
  · split <;> simp
set_option maxHeartbeats 400000 in
set_option maxRecDepth 100000 in
theorem slices_Compare_i64 (v u : Value) (l m : List Int) (w : World) (h0 : Lst intCell 1 w w.heap.size v l) (h1 : Lst intCell 1 w w.heap.size u m) :
    Calls Try.prog 61 #[v, u] w fun e w' => e = .returned (.int .i64 (cmpL l m)) ∧ w = w' := by
  obtain ⟨A, c, rfl⟩ := h0.shape
  obtain ⟨C, d, rfl⟩ := h1.shape
  have hl := h0.len_le
  have hm := h1.len_le
  go_enter Try.func61, Try.ntmps61
  go_wp2
  go_loop [5, 6, 7, 8, 11] (fun _ _ _ _ i => ∃ k : Nat, k ≤ l.length ∧ k ≤ m.length ∧ i = .int .i64 k ∧ Hid (cmpL l m = cmpL (l.drop k) (m.drop k))) (fun _ _ _ _ i => l.length - (intOf i).toNat)
  case atStart => exact ⟨0, Nat.zero_le _, Nat.zero_le _, rfl, rfl⟩
  case round =>
    obtain ⟨k, hk, hk2, rfl, hE⟩ := hrel
    by_cases hlt : k < l.length
    · obtain ⟨b, off, rfl, hb, c0⟩ := ints_at h0 k hlt
      by_cases hlt2 : k < m.length
      · obtain ⟨b', off', rfl, hb', d0⟩ := ints_at h1 k hlt2
        have hstep := cmpL_at hlt hlt2 hE.out
        obtain ⟨x, hx⟩ : ∃ x, l[k] = x := ⟨_, rfl⟩
        obtain ⟨y, hy⟩ : ∃ y, m[k] = y := ⟨_, rfl⟩
        obtain ⟨z, hz⟩ : ∃ z, cmpI x y = z := ⟨_, rfl⟩
        rw [hx, hy, hz] at hstep
        rw [hx] at c0
        rw [hy] at d0
        have hzH := Lib.hid hz
        clear hx hy hE hz
        by_cases h0z : z = 0
        · rw [if_pos h0z] at hstep
          have hE' := Lib.hid hstep
          have q1 : (z != 0) = false := by simp [h0z]
          clear hstep
          go_wp2_with (go_at_call 59; refine (cmp_Compare _ _ _).mono ?_; rintro e w' ⟨rfl, rfl⟩; rw [hzH.out])
          go_round
          case rel => exact ⟨k + 1, hlt, hlt2, by go_num, hE'.out⟩
          case measure => simp [intOf]; omega
        · rw [if_neg h0z] at hstep
          have hF := Lib.hid hstep
          have q1 : (z != 0) = true := by simpa using h0z
          clear hstep
          go_wp2_with (go_at_call 59; refine (cmp_Compare _ _ _).mono ?_; rintro e w' ⟨rfl, rfl⟩; rw [hzH.out])
          go_ret
          exact ⟨ret_int hF.out.symm, rfl⟩
      · have hF := Lib.hid (cmpL_long hlt (by omega) hE.out)
        clear hE
        go_wp2
        go_ret
        exact ⟨ret_int hF.out.symm, rfl⟩
    · obtain rfl : k = l.length := by omega
      have hF := cmpL_end hk2 hE.out
      clear hE
      by_cases h9 : l.length < m.length
      · rw [if_pos h9] at hF
        replace hF := Lib.hid hF
        go_wp2
        go_ret
        exact ⟨ret_int hF.out.symm, rfl⟩
      · rw [if_neg h9] at hF
        replace hF := Lib.hid hF
        go_wp2
        go_ret
        exact ⟨ret_int hF.out.symm, rfl⟩
/-- The first of two numbers that is not 0. -/
def orI (x y : Int) : Int := if x = 0 then y else x
set_option maxHeartbeats 400000 in
set_option maxRecDepth 100000 in
theorem cmp_Or_two (v : Value) (x y : Int) (w : World) (h0 : Lst intCell 1 w w.heap.size v [x, y]) :
    Calls Try.prog 58 #[v] w fun e w' => e = .returned (.int .i64 (orI x y)) ∧ w = w' := by
  obtain ⟨A, c, rfl⟩ := h0.shape
  go_enter Try.func58, Try.ntmps58
  go_wp2
  go_loop [5, 8] (fun _ i => ∃ k : Nat, k ≤ 2 ∧ i = .int .i64 k ∧ Hid ((0 < k → x = 0) ∧ (1 < k → y = 0))) (fun _ i => 2 - (intOf i).toNat)
  case atStart => exact ⟨0, Nat.zero_le _, rfl, ⟨fun h => absurd h (by omega), fun h => absurd h (by omega)⟩⟩
  case round =>
    obtain ⟨k, hk, rfl, hN⟩ := hrel
    by_cases hlt : k < 2
    · obtain ⟨b, off, rfl, hb, c0⟩ := ints_at h0 k (by simpa using hlt)
      obtain ⟨z, hz⟩ : ∃ z, ([x, y] : List Int)[k]'(by simpa using hlt) = z := ⟨_, rfl⟩
      rw [hz] at c0
      have hkz : (k = 0 ∧ z = x) ∨ (k = 1 ∧ z = y) := by
        rcases Nat.lt_or_ge k 1 with h | h
        · obtain rfl : k = 0 := by omega
          exact .inl ⟨rfl, by simpa using hz.symm⟩
        · obtain rfl : k = 1 := by omega
          exact .inr ⟨rfl, by simpa using hz.symm⟩
      have hkH := Lib.hid hkz
      clear hz hkz
      by_cases h0z : z = 0
      · have q1 : (z != 0) = false := by simp [h0z]
        have hN' : Hid ((0 < k + 1 → x = 0) ∧ (1 < k + 1 → y = 0)) := by
          have := hkH.out
          have h2 := hN.out
          refine ⟨fun _ => ?_, fun h => ?_⟩
          · rcases this with h | h
            · omega
            · exact h2.1 (by omega)
          · rcases this with h | h
            · omega
            · omega
        clear h0z
        go_wp2
        go_round
        case rel => exact ⟨k + 1, hlt, by go_num, hN'.out⟩
        case measure => simp [intOf]; omega
      · have q1 : (z != 0) = true := by simpa using h0z
        have hF : Hid (orI x y = z) := by
          have := hkH.out
          have h2 := hN.out
          show _ = _
          unfold orI
          rcases this with h | h
          · rw [if_neg (by omega), h.2]
          · rw [if_pos (h2.1 (by omega)), h.2]
        clear h0z
        go_wp2
        go_ret
        exact ⟨ret_int hF.out.symm, rfl⟩
    · obtain rfl : k = 2 := by omega
      have hF : Hid (orI x y = 0) := by
        have h2 := hN.out
        show _ = _
        unfold orI
        rw [if_pos (h2.1 (by omega)), h2.2 (by omega)]
      go_wp2
      go_ret
      exact ⟨ret_int hF.out.symm, rfl⟩
end Go.Proofs.Ytbdklhahbeiffaa
