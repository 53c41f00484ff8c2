/-
  The laws' own comparisons of tables, and their dice.
-/
import Derived.Test.YtcoomogabicfnaaBytes
import Derived.Test.YtcoomogabicfnaaMatLaw
namespace Go.Proofs.Ytcoomogabicfnaa
open Go.RowKit
set_option linter.unusedVariables false
set_option linter.unusedSimpArgs false
set_option maxHeartbeats 400000 in
set_option maxRecDepth 100000 in
theorem laws_likeTables9 (v u : Value) (l m : List (List Int)) (w : World) (h0 : LstM w w.heap.size v l) (h1 : LstM w w.heap.size u m) :
    Calls Try.prog 14 #[v, u] w fun e w' => e = .returned (.bool (decide (l = m))) ∧ Below w.heap.size w w' := by
  obtain ⟨A, c, rfl⟩ := h0.shape
  obtain ⟨C, d, rfl⟩ := h1.shape
  have hl := h0.len_le
  have hm := h1.len_le
  by_cases hlm : l.length = m.length
  · have hne : ((l.length : Int) != (m.length : Int)) = false := by rw [hlm]; simp
    have hlm1 : l.length ≤ m.length := by omega
    have hlm2 : m.length ≤ l.length := by omega
    clear hlm
    go_enter Try.func14, Try.ntmps14
    go_wp2
    go_loopw [5] (fun i wr => ∃ k : Nat, k ≤ l.length ∧ i = .int .i64 k ∧ Hid (l.take k = m.take k) ∧ Below w.heap.size w wr) (fun i _ => l.length - (intOf i).toNat)
    case atStart => exact ⟨0, Nat.zero_le _, rfl, rfl, Below.refl _ _⟩
    case round =>
      obtain ⟨k, hk, rfl, hE, hB⟩ := hrel
      by_cases hlt : k < l.length
      · have hlt' : k < m.length := by omega
        obtain ⟨b, off, _, r, hv, hb, c0, hr⟩ := h0.row k hlt
        cases hv
        obtain ⟨b', off', _, r', hv, hb', d0, hr'⟩ := h1.row k hlt'
        cases hv
        obtain ⟨R, rn, rc⟩ := r
        obtain ⟨R', rn', rc'⟩ := r'
        simp only [Ref.val] at c0 d0 hr hr'
        obtain ⟨hc, hf⟩ := bcell hB
        have hd := hB.drew
        by_cases heq : l[k] = m[k]
        · have hq : decide (l[k] = m[k]) = true := decide_eq_true heq
          have heq' : Hid (l[k] = m[k]) := heq
          clear heq
          go_wp2_with fail
          go_still_tail 8, (by kernel_rfl)
          change wpList _ _ _ _ _ wr.drew
          go_wp2_with (go_at_call 37; refine (laws_likeInts _ _ l[k] m[k] _ (hr.now hd) (hr'.now hd)).mono ?_; rintro e w1 ⟨rfl, hb1⟩)
          go_roundw
          case rel =>
            have hE' : Hid (l.take (k + 1) = m.take (k + 1)) := by have := hE.out; have h2 := heq'.out; show _ = _; rw [take_succ_get _ _ hlt, take_succ_get _ _ hlt', this, h2]
            have hB' := hB.drew.trans (hb1.mono hB.size)
            first | exact ⟨k + 1, hlt, by go_num, hE', hB'⟩ | ((repeat apply Exists.intro); exact ⟨⟨k + 1, hlt, by go_num, hE', hB'⟩, rfl⟩)
          case measure => simp [intOf]; omega
        · have hq : decide (l[k] = m[k]) = false := decide_eq_false heq
          have heq' : Hid (¬ l[k] = m[k]) := heq
          clear heq
          go_wp2_with fail
          go_still_tail 8, (by kernel_rfl)
          change wpList _ _ _ _ _ wr.drew
          go_wp2_with (go_at_call 37; refine (laws_likeInts _ _ l[k] m[k] _ (hr.now hd) (hr'.now hd)).mono ?_; rintro e w1 ⟨rfl, hb1⟩)
          go_ret
          exact ⟨ret_bool (decide_eq_false (by intro h; exact heq'.out (by simp [h]))).symm, hB.drew.trans (hb1.mono hB.size)⟩
      · obtain rfl : k = l.length := by omega
        go_wp2
        go_ret
        exact ⟨ret_bool (decide_eq_true (by have h := hE.out; rw [List.take_length] at h; rw [h]; exact (List.take_of_length_le (by omega)))).symm, hB⟩
  · have hne : ((l.length : Int) != (m.length : Int)) = true := by rw [bne_iff_ne]; omega
    go_enter Try.func14, Try.ntmps14
    go_wp2
    go_ret
    exact ⟨ret_bool (decide_eq_false (by intro h; exact hlm (by rw [h]))).symm, Below.refl _ _⟩
end Go.Proofs.Ytcoomogabicfnaa
