/-
  The walks of the functions that look for a number in a list.
-/
import Derived.Test.YtpkkkigiiaegfaaGraphS
namespace Go.Proofs.Ytpkkkigiiaegfaa
open Go.RowKit
set_option linter.unusedVariables false
set_option linter.unusedSimpArgs false

def findI (l : List Int) (x : Int) : Int := idxP (fun y => decide (y = x)) l
def hasI (l : List Int) (x : Int) : Bool := l.any fun y => decide (y = x)
theorem hasI_iff (l : List Int) (x : Int) : hasI l x = true ↔ x ∈ l := by simp [hasI]
theorem hasI_hit (l : List Int) (x : Int) (k : Nat) (hk : k < l.length) (e : l[k] = x) : hasI l x = true := by rw [hasI_iff, ← e]; exact List.getElem_mem hk
theorem hasI_miss (l : List Int) (x : Int) (h : ∀ j (hj : j < l.length), l[j] ≠ x) : hasI l x = false := by
  cases e : hasI l x
  · rfl
  · obtain ⟨j, hj, e⟩ := List.mem_iff_getElem.1 ((hasI_iff l x).1 e)
    exact absurd e (h j hj)
set_option maxHeartbeats 400000 in
set_option maxRecDepth 100000 in
theorem slices_Index_i64 (v : Value) (l : List Int) (x : Int) (w : World) (h0 : Lst intCell 1 w w.heap.size v l) :
    Calls Try.prog 242 #[v, .int .i64 x] w fun e w' => e = .returned (.int .i64 (findI l x)) ∧ w = w' := by
  obtain ⟨A, c, rfl⟩ := h0.shape
  have hl := h0.len_le
  go_enter Try.func242, Try.ntmps242
  go_wp2
  go_loop [5, 8] (fun _ i => ∃ k : Nat, k ≤ l.length ∧ i = .int .i64 k ∧ Hid (∀ j (hj : j < k) (hl : j < l.length), l[j] ≠ x)) (fun _ i => l.length - (intOf i).toNat)
  case atStart => exact ⟨0, Nat.zero_le _, rfl, fun j hj => absurd hj (by omega)⟩
  case round =>
    obtain ⟨k, hk, rfl, hN⟩ := hrel
    by_cases hlt : k < l.length
    · obtain ⟨b, off, rfl, hb, c0⟩ := ints_at h0 k hlt
      by_cases heq : l[k] = x
      · have hq : (x == l[k]) = true := by simp [heq]
        have hF : Hid (findI l x = k) := idxP_hit _ l k hlt (fun j hj => decide_eq_false (hN.out j hj (by omega))) (decide_eq_true heq)
        clear heq
        go_wp2
        go_ret
        exact ⟨ret_int hF.out.symm, rfl⟩
      · have hq : (x == l[k]) = false := by simpa using fun h => heq h.symm
        have hN' : Hid (∀ j (hj : j < k + 1) (hl : j < l.length), l[j] ≠ x) := by
          intro j hj hl2
          rcases Nat.lt_or_ge j k with h | h
          · exact hN.out j h hl2
          · obtain rfl : j = k := by omega
            exact heq
        clear heq
        go_wp2
        go_round
        case rel => exact ⟨k + 1, hlt, by go_num, hN'⟩
        case measure => simp [intOf]; omega
    · obtain rfl : k = l.length := by omega
      have hF : Hid (findI l x = -1) := idxP_miss _ l fun j hj => decide_eq_false (hN.out j hj hj)
      go_wp2
      go_ret
      exact ⟨ret_int hF.out.symm, rfl⟩
set_option maxHeartbeats 400000 in
set_option maxRecDepth 100000 in
theorem slices_Contains_i64 (v : Value) (l : List Int) (x : Int) (w : World) (h0 : Lst intCell 1 w w.heap.size v l) :
    Calls Try.prog 216 #[v, .int .i64 x] w fun e w' => e = .returned (.bool (hasI l x)) ∧ w = w' := by
  go_enter Try.func216, Try.ntmps216
  go_wp2_with (go_at_call 242; refine (slices_Index_i64 _ _ _ _ h0).mono ?_; rintro e w' ⟨rfl, rfl⟩)
  go_ret
  exact ⟨ret_bool (idxP_any _ _), rfl⟩
set_option maxHeartbeats 400000 in
set_option maxRecDepth 100000 in
theorem spec_l01Has (v : Value) (l : List Int) (x : Int) (w : World) (h0 : Lst intCell 1 w w.heap.size v l) :
    Calls Try.prog 217 #[v, .int .i64 x] w fun e w' => e = .returned (.bool (hasI l x)) ∧ w = w' := by
  obtain ⟨A, c, rfl⟩ := h0.shape
  have hl := h0.len_le
  go_enter Try.func217, Try.ntmps217
  go_wp2
  go_loop [5] (fun i => ∃ k : Nat, k ≤ l.length ∧ i = .int .i64 k ∧ Hid (∀ j (hj : j < k) (hl : j < l.length), l[j] ≠ x)) (fun i => l.length - (intOf i).toNat)
  case atStart => exact ⟨0, Nat.zero_le _, rfl, fun j hj => absurd hj (by omega)⟩
  case round =>
    obtain ⟨k, hk, rfl, hN⟩ := hrel
    by_cases hlt : k < l.length
    · obtain ⟨b, off, rfl, hb, c0⟩ := ints_at h0 k hlt
      by_cases heq : l[k] = x
      · have hq : (l[k] == x) = true := by simp [heq]
        have hF := Lib.hid (hasI_hit l x k hlt heq)
        clear heq
        go_wp2
        go_ret
        exact ⟨ret_bool hF.out.symm, rfl⟩
      · have hq : (l[k] == x) = false := by simpa using heq
        have hN' : Hid (∀ j (hj : j < k + 1) (hl : j < l.length), l[j] ≠ x) := by
          intro j hj hl2
          rcases Nat.lt_or_ge j k with h | h
          · exact hN.out j h hl2
          · obtain rfl : j = k := by omega
            exact heq
        clear heq
        go_wp2
        go_round
        case rel => exact ⟨k + 1, hlt, by go_num, hN'⟩
        case measure => simp [intOf]; omega
    · obtain rfl : k = l.length := by omega
      have hF := Lib.hid (hasI_miss l x fun j hj => hN.out j hj hj)
      go_wp2
      go_ret
      exact ⟨ret_bool hF.out.symm, rfl⟩
end Go.Proofs.Ytpkkkigiiaegfaa
