/-
  The walks of TimesIn, the program's and the reference's.
-/
import Derived.Test.YtpkkkigiiaegfaaEqs
namespace Go.Proofs.Ytpkkkigiiaegfaa
open Go.RowKit
set_option linter.unusedVariables false
set_option linter.unusedSimpArgs false

def timesIn (l : List Firing) (e : Int) : List Int := (l.filter fun f => f.event = e).map (·.time)
def timesInF (l : List Firing) (e : Int) : List Int × Int := if l.length ≤ 500 then (timesIn l e, 0) else ([], 2)
theorem timesIn_snoc (l : List Firing) (x : Firing) (e : Int) : timesIn (l ++ [x]) e = timesIn l e ++ if x.event = e then [x.time] else [] := by
  unfold timesIn
  by_cases h : x.event = e <;> simp [List.filter_append, h]
theorem timesIn_len (l : List Firing) (e : Int) : (timesIn l e).length ≤ l.length := by
  unfold timesIn
  simpa using List.length_filter_le _ _
theorem timesInF_len (l : List Firing) (e : Int) : (timesInF l e).1.length ≤ l.length := by
  unfold timesInF
  split
  · exact timesIn_len l e
  · simp

set_option maxHeartbeats 400000 in
set_option maxRecDepth 100000 in
theorem spec_TimesIn (v : Value) (l : List Firing) (ev : Int) (w : World) (h0 : Lst Firing.cells 3 w w.heap.size v l) :
    Calls Try.prog 78 #[v, .int .i64 ev] w (RetOwnI intCell 1 2 w (timesInF l ev).1 (timesInF l ev).2) := by
  obtain ⟨A, c, rfl⟩ := h0.shape
  have hl := h0.len_le
  by_cases h5 : l.length ≤ 500
  · unfold timesInF
    rw [if_pos h5]
    have h5b : decide (500 < (l.length : Int)) = false := by simp; omega
    go_enter Try.func78, Try.ntmps78
    go_wp2
    go_loopw [6, 7] (fun o i wr => ∃ k : Nat, k ≤ l.length ∧ i = .int .i64 k ∧ Own intCell 1 2 wr w.heap.size o (timesIn (l.take k) ev) ∧ Below w.heap.size w wr) (fun _ i _ => l.length - (intOf i).toNat)
    case atStart => exact ⟨0, Nat.zero_le _, rfl, own_new0 _ _ _ _ _ (Nat.le_refl _), (Below.refl _ _).alloc (Nat.le_refl _) _⟩
    case round =>
      obtain ⟨k, hk, rfl, hO, hB⟩ := hrel
      by_cases hlt : k < l.length
      · obtain ⟨b, off, rfl, hb, c0, c1, c2⟩ := firings_at h0 k hlt
        obtain ⟨hc, hf⟩ := bcell hB
        have hts := Lib.hid (timesIn_snoc (l.take k) l[k] ev)
        by_cases heq : l[k].event = ev
        · have hq : (l[k].event == ev) = true := by simp [heq]
          have heq' := Lib.hid heq
          clear heq
          have hlen : (timesIn (l.take k) ev).length + [l[k].time].length ≤ 1099511627776 := by have := timesIn_len (l.take k) ev; simp at this ⊢; omega
          go_wp2_with (at_builtin; refine wpList_append_lst rfl _ _ 37 rfl intCell 1 intCell_one (by omega) w.heap.size 2 _ 8 Try.underlying37 info_i64 rfl _ _ rfl (hO.alloc _) _ _ _ _ [l[k].time] rfl (lst_new1 _ _ intCell_len _ _ _ _ rfl _ (by simp)) hlen (by omega) (Nat.le_trans hB.size (by simp <;> omega)) ?_; intro v' w1 hO1 hG1 hD1)
          go_roundw
          case rel => exact ⟨k + 1, hlt, by go_num, by rw [take_succ_get _ _ hlt, hts.out, if_pos heq'.out]; exact hO1, below_app (hB.alloc hB.size _) (Nat.le_trans hB.size (by simp)) hG1 (hO.alloc _) (Nat.le_refl _)⟩
          case measure => simp [intOf]; omega
        · have hq : (l[k].event == ev) = false := by simp [heq]
          go_wp2
          go_roundw
          case rel => exact ⟨k + 1, hlt, by go_num, by rw [take_succ_get _ _ hlt, hts.out, if_neg heq, List.append_nil]; exact hO, hB⟩
          case measure => simp [intOf]; omega
      · obtain rfl : k = l.length := by omega
        go_wp2
        go_ret2
        exact ⟨_, rfl, by rw [List.take_length] at hO; exact hO, hB⟩
  · unfold timesInF
    rw [if_neg h5]
    have h5b : decide (500 < (l.length : Int)) = true := by simp; omega
    go_enter Try.func78, Try.ntmps78
    go_wp2
    go_ret2
    exact ⟨_, rfl, Own.nil, Below.refl _ _⟩
set_option maxHeartbeats 400000 in
set_option maxRecDepth 100000 in
theorem impl_TimesIn (v : Value) (l : List Firing) (ev : Int) (w : World) (h0 : Lst Firing.cells 3 w w.heap.size v l) :
    Calls Try.prog 77 #[v, .int .i64 ev] w (RetOwnI intCell 1 2 w (timesInF l ev).1 (timesInF l ev).2) := by
  obtain ⟨A, c, rfl⟩ := h0.shape
  have hl := h0.len_le
  by_cases h5 : l.length ≤ 500
  · unfold timesInF
    rw [if_pos h5]
    have h5b : decide (500 < (l.length : Int)) = false := by simp; omega
    go_enter Try.func77, Try.ntmps77
    go_wp2
    go_loopw [6, 14] (fun o i wr => ∃ k : Nat, k ≤ l.length ∧ i = .int .i64 k ∧ Own intCell 1 2 wr w.heap.size o (timesIn (l.take k) ev) ∧ Below w.heap.size w wr) (fun _ i _ => l.length - (intOf i).toNat)
    case atStart => exact ⟨0, Nat.zero_le _, rfl, Own.nil, Below.refl _ _⟩
    case round =>
      obtain ⟨k, hk, rfl, hO, hB⟩ := hrel
      by_cases hlt : k < l.length
      · obtain ⟨b, off, rfl, hb, c0, c1, c2⟩ := firings_at h0 k hlt
        obtain ⟨hc, hf⟩ := bcell hB
        have hts := Lib.hid (timesIn_snoc (l.take k) l[k] ev)
        by_cases heq : l[k].event = ev
        · have hq : (l[k].event == ev) = true := by simp [heq]
          have heq' := Lib.hid heq
          clear heq
          have hlen : (timesIn (l.take k) ev).length + [l[k].time].length ≤ 1099511627776 := by have := timesIn_len (l.take k) ev; simp at this ⊢; omega
          go_wp2_with (at_builtin; refine wpList_append_lst rfl _ _ 37 rfl intCell 1 intCell_one (by omega) w.heap.size 2 _ 8 Try.underlying37 info_i64 rfl _ _ rfl ((hO.alloc _).alloc _) _ _ _ _ [l[k].time] rfl (lst_new1 _ _ intCell_len _ _ _ _ rfl _ (by simp)) hlen (by omega) (Nat.le_trans hB.size (by simp <;> omega)) ?_; intro v' w1 hO1 hG1 hD1)
          go_roundw
          case rel => exact ⟨k + 1, hlt, by go_num, by rw [take_succ_get _ _ hlt, hts.out, if_pos heq'.out]; exact hO1, below_app ((hB.alloc hB.size _).alloc (Nat.le_trans hB.size (by simp)) _) (Nat.le_trans hB.size (by simp; omega)) hG1 ((hO.alloc _).alloc _) (Nat.le_refl _)⟩
          case measure => simp [intOf]; omega
        · have hq : (l[k].event == ev) = false := by simp [heq]
          go_wp2
          go_roundw
          case rel => exact ⟨k + 1, hlt, by go_num, by rw [take_succ_get _ _ hlt, hts.out, if_neg heq, List.append_nil]; exact hO.alloc _, hB.alloc hB.size _⟩
          case measure => simp [intOf]; omega
      · obtain rfl : k = l.length := by omega
        go_wp2
        go_ret2
        exact ⟨_, rfl, by rw [List.take_length] at hO; exact hO, hB⟩
  · unfold timesInF
    rw [if_neg h5]
    have h5b : decide (500 < (l.length : Int)) = true := by simp; omega
    go_enter Try.func77, Try.ntmps77
    go_wp2
    go_ret2
    exact ⟨_, rfl, Own.nil, Below.refl _ _⟩
end Go.Proofs.Ytpkkkigiiaegfaa
