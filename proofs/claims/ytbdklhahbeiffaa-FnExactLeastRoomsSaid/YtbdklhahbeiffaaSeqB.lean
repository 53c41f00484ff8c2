/-
  SequenceFor, the program's and the reference's.
-/
import Derived.Test.YtbdklhahbeiffaaSeqP
import Derived.Test.YtbdklhahbeiffaaOrdH
namespace Go.Proofs.Ytbdklhahbeiffaa
open Go.RowKit
set_option linter.unusedVariables false
set_option linter.unusedSimpArgs false

set_option maxHeartbeats 1000000 in
set_option maxRecDepth 100000 in
theorem impl_total (v : Value) (l : List Int) (w : World) (h0 : Lst intCell 1 w w.heap.size v l) (hb : Hid (∀ x ∈ l, 0 ≤ x ∧ x ≤ 100)) (hl : l.length ≤ 1000) :
    Calls Try.prog 60 #[v] w fun r w' => r = .returned (.int .i64 (sumI l)) ∧ w = w' := by
  obtain ⟨A, c, rfl⟩ := h0.shape
  go_enter Try.func60, Try.ntmps60
  go_wp2
  go_loop [3, 5, 8] (fun s _ i => ∃ k : Nat, k ≤ l.length ∧ i = .int .i64 k ∧ s = .int .i64 (sumI (l.take k))) (fun _ _ i => l.length - (intOf i).toNat)
  case atStart => exact ⟨0, Nat.zero_le _, rfl, by rw [List.take_zero]; rfl⟩
  case round =>
    obtain ⟨k, hk, rfl, rfl⟩ := hrel
    by_cases hlt : k < l.length
    · obtain ⟨b, off, hA, -, d0⟩ := ints_at h0 k hlt
      cases hA
      have hT := Lib.hid (sumI_take l k hlt)
      have h1 := sumI_bd (l.take k) (fun x hx => hb.out x (List.mem_of_mem_take hx))
      have h2 := hb.out _ (List.getElem_mem hlt)
      rw [List.length_take, Nat.min_eq_left hk] at h1
      generalize sumI (l.take k) = s at *
      go_wp2
      go_round
      case rel => exact ⟨k + 1, hlt, by go_num, by rw [hT.out]⟩
      case measure => simp [intOf]; omega
    · obtain rfl : k = l.length := by omega
      rw [List.take_length]
      go_wp2
      go_ret
      exact ⟨rfl, rfl⟩
set_option maxHeartbeats 1000000 in
set_option maxRecDepth 100000 in
theorem spec_l16Sum (v : Value) (l : List Int) (w : World) (h0 : Lst intCell 1 w w.heap.size v l) (hb : Hid (∀ x ∈ l, 0 ≤ x ∧ x ≤ 100)) (hl : l.length ≤ 1000) :
    Calls Try.prog 111 #[v] w fun r w' => r = .returned (.int .i64 (sumI l)) ∧ w = w' := by
  obtain ⟨A, c, rfl⟩ := h0.shape
  go_enter Try.func111, Try.ntmps111
  go_wp2
  go_loop [3, 4] (fun s i => ∃ k : Nat, k ≤ l.length ∧ i = .int .i64 k ∧ s = .int .i64 (sumI (l.take k))) (fun _ i => l.length - (intOf i).toNat)
  case atStart => exact ⟨0, Nat.zero_le _, rfl, by rw [List.take_zero]; rfl⟩
  case round =>
    obtain ⟨k, hk, rfl, rfl⟩ := hrel
    by_cases hlt : k < l.length
    · obtain ⟨b, off, hA, -, d0⟩ := ints_at h0 k hlt
      cases hA
      have hT := Lib.hid (sumI_take l k hlt)
      have h1 := sumI_bd (l.take k) (fun x hx => hb.out x (List.mem_of_mem_take hx))
      have h2 := hb.out _ (List.getElem_mem hlt)
      rw [List.length_take, Nat.min_eq_left hk] at h1
      generalize sumI (l.take k) = s at *
      go_wp2
      go_round
      case rel => exact ⟨k + 1, hlt, by go_num, by rw [hT.out]⟩
      case measure => simp [intOf]; omega
    · obtain rfl : k = l.length := by omega
      rw [List.take_length]
      go_wp2
      go_ret
      exact ⟨rfl, rfl⟩
end Go.Proofs.Ytbdklhahbeiffaa
