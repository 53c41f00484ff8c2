/-
  The laws' search for a number.
-/
import Derived.Test.YtkbhbmoogkjafaaInts
namespace Go.Proofs.Ytkbhbmoogkjafaa
open Go.RowKit
set_option linter.unusedVariables false
set_option linter.unusedSimpArgs false
set_option maxHeartbeats 400000 in
set_option maxRecDepth 100000 in
theorem laws_hasInt (v : Value) (l : List Int) (x : Int) (w : World) (h0 : Lst intCell 1 w w.heap.size v l) :
    Calls Try.prog 37 #[v, .int .i64 x] w fun e w' => e = .returned (.bool (hasI l x)) ∧ w = w' := by
  obtain ⟨A, c, rfl⟩ := h0.shape
  have hl := h0.len_le
  go_enter Try.func37, Try.ntmps37
  go_wp2
  go_loop [5] (fun i => ∃ k : Nat, k ≤ l.length ∧ i = .int .i64 k ∧ Hid (∀ j (hj : j < k) (hl : j < l.length), l[j] ≠ x)) (fun i => l.length - (intOf i).toNat)
  case atStart => exact ⟨0, Nat.zero_le _, rfl, fun j hj => absurd hj (by omega)⟩
  case round =>
    obtain ⟨k, hk, rfl, hN⟩ := hrel
    by_cases hlt : k < l.length
    · obtain ⟨b, off, rfl, hb, c0⟩ := ints_at h0 k hlt
      by_cases heq : l[k] = x
      · have hq : (l[k] == x) = true := by simp [heq]
        have hF := Lib.hid (hasI_hit l x k hlt heq)
        clear heq
        go_wp2
        go_ret
        exact ⟨ret_bool hF.out.symm, rfl⟩
      · have hq : (l[k] == x) = false := by simpa using heq
        have hN' : Hid (∀ j (hj : j < k + 1) (hl : j < l.length), l[j] ≠ x) := by
          intro j hj hl2
          rcases Nat.lt_or_ge j k with h | h
          · exact hN.out j h hl2
          · obtain rfl : j = k := by omega
            exact heq
        clear heq
        go_wp2
        go_round
        case rel => exact ⟨k + 1, hlt, by go_num, hN'⟩
        case measure => simp [intOf]; omega
    · obtain rfl : k = l.length := by omega
      have hF := Lib.hid (hasI_miss l x fun j hj => hN.out j hj hj)
      go_wp2
      go_ret
      exact ⟨ret_bool hF.out.symm, rfl⟩
end Go.Proofs.Ytkbhbmoogkjafaa
