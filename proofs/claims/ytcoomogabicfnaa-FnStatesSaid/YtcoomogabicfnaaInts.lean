/-
  The walks of the functions that look for a number in a list.
-/
import Derived.Test.YtcoomogabicfnaaGraph
namespace Go.Proofs.Ytcoomogabicfnaa
open Go.RowKit
set_option linter.unusedVariables false
set_option linter.unusedSimpArgs false

set_option maxHeartbeats 1000000 in
set_option maxRecDepth 100000 in
theorem spec_IsEventGraph (v : Value) (ge : Int) (gp : List Place) (w : World) (h0 : Lst Place.cells 4 w w.heap.size v gp) :
    Calls Try.prog 35 #[.agg #[.int .i64 ge, v]] w fun r w' => r = .returned (.bool (okGraph ge gp)) ∧ Below w.heap.size w w' := by
  obtain ⟨A, c, rfl⟩ := h0.shape
  have hl := h0.len_le
  have hE : Hid (okGraph ge gp = (inB ge 1 10 && decide (gp.length ≤ 30) && gp.all (okPlace ge))) := rfl
  go_enter Try.func35, Try.ntmps35
  go_wp2_with fail
  go_loopw [3] (fun i wr => ∃ k : Nat, k ≤ gp.length ∧ i = .int .i64 k ∧ Hid ((gp.take k).all (okPlace ge) = true) ∧ Below (w.heap.size + 1) (w.alloc (.cells #[.int .i64 ge, .slice A gp.length c] 26)) wr) (fun i _ => gp.length - (intOf i).toNat)
  case atStart => exact ⟨0, Nat.zero_le _, rfl, rfl, Below.refl _ _⟩
  case round =>
    obtain ⟨k, hk, rfl, hA, hB⟩ := hrel
    obtain ⟨hc, hf⟩ := bcell hB
    have hs := hB.size
    simp at hs
    have hBt : Below w.heap.size w wr := ((Below.refl _ _).alloc (Nat.le_refl _) _).trans (hB.mono (by omega))
    by_cases hlt : k < gp.length
    · obtain ⟨b, off, rfl, hb, d0, d1, d2, d3⟩ := places_at (h0.alloc (.cells #[.int .i64 ge, .slice A gp.length c] 26)) k hlt
      have hb' : b < w.heap.size + 1 := by simpa using hb
      cases heq : okPlace ge gp[k]
      · have hF : Hid (okGraph ge gp = false) := by
          have : gp.all (okPlace ge) = false := by rw [List.all_eq_false]; exact ⟨_, List.getElem_mem hlt, by simp [heq]⟩
          show _ = _
          rw [hE.out, this]; simp
        go_wp2_with fail
        go_still_tail 7, (by kernel_rfl)
        change wpList _ _ _ _ _ wr.drew
        go_wp2_with (go_at_call 56; refine (spec_l11Place gp[k].src gp[k].dst gp[k].delay gp[k].tokens _ _).mono ?_; rintro e w1 ⟨rfl, hb1⟩)
        go_ret
        exact ⟨ret_bool hF.out.symm, hBt.drew.trans (hb1.mono hBt.size)⟩
      · have hA' : Hid ((gp.take (k + 1)).all (okPlace ge) = true) := by
          have := hA.out
          show _ = _
          rw [take_succ_get _ _ hlt, List.all_append, this]
          simp [heq]
        go_wp2_with fail
        go_still_tail 7, (by kernel_rfl)
        change wpList _ _ _ _ _ wr.drew
        go_wp2_with (go_at_call 56; refine (spec_l11Place gp[k].src gp[k].dst gp[k].delay gp[k].tokens _ _).mono ?_; rintro e w1 ⟨rfl, hb1⟩)
        go_roundw
        case rel =>
          have hB' := hB.drew.trans (hb1.mono hs)
          first | exact ⟨k + 1, hlt, by go_num, hA', hB'⟩ | ((repeat apply Exists.intro); exact ⟨⟨k + 1, hlt, by go_num, hA', hB'⟩, rfl⟩)
        case measure => simp [intOf]; omega
    · obtain rfl : k = gp.length := by omega
      have hA' : Hid (gp.all (okPlace ge) = true) := by have := hA.out; rw [List.take_length] at this; exact this
      cases h1 : inB ge 1 10
      · go_wp2_with (go_at_call 33; refine (spec_l01In _ _ _ _).mono ?_; rintro e w1 ⟨rfl, rfl⟩)
        go_ret
        exact ⟨ret_bool (by rw [hE.out, h1]; simp), hBt⟩
      · go_wp2_with (go_at_call 33; refine (spec_l01In _ _ _ _).mono ?_; rintro e w1 ⟨rfl, rfl⟩)
        go_ret
        exact ⟨ret_bool (by rw [hE.out, h1, hA'.out, Bool.and_true, Bool.true_and]; exact decide_eq_decide.2 (by omega)), hBt⟩

def allB (l : List Int) (lo hi : Int) : Bool := l.all fun n => inB n lo hi
theorem allB_snoc (l : List Int) (n lo hi : Int) : allB (l ++ [n]) lo hi = (allB l lo hi && inB n lo hi) := by simp [allB]
theorem allB_false (l : List Int) (k : Nat) (hk : k < l.length) (lo hi : Int) (h : inB l[k] lo hi = false) : allB l lo hi = false := by
  unfold allB
  rw [List.all_eq_false]
  exact ⟨_, List.getElem_mem hk, by simp [h]⟩
end Go.Proofs.Ytcoomogabicfnaa
namespace Go.Proofs.Ytcoomogabicfnaa
open Go.RowKit
set_option linter.unusedVariables false
set_option linter.unusedSimpArgs false

def findI (l : List Int) (x : Int) : Int := idxP (fun y => decide (y = x)) l
def hasI (l : List Int) (x : Int) : Bool := l.any fun y => decide (y = x)
theorem hasI_iff (l : List Int) (x : Int) : hasI l x = true ↔ x ∈ l := by simp [hasI]
theorem hasI_hit (l : List Int) (x : Int) (k : Nat) (hk : k < l.length) (e : l[k] = x) : hasI l x = true := by rw [hasI_iff, ← e]; exact List.getElem_mem hk
theorem hasI_miss (l : List Int) (x : Int) (h : ∀ j (hj : j < l.length), l[j] ≠ x) : hasI l x = false := by
  cases e : hasI l x
  · rfl
  · obtain ⟨j, hj, e⟩ := List.mem_iff_getElem.1 ((hasI_iff l x).1 e)
    exact absurd e (h j hj)
set_option maxHeartbeats 400000 in
set_option maxRecDepth 100000 in
theorem slices_Index_i64 (v : Value) (l : List Int) (x : Int) (w : World) (h0 : Lst intCell 1 w w.heap.size v l) :
    Calls Try.prog 95 #[v, .int .i64 x] w fun e w' => e = .returned (.int .i64 (findI l x)) ∧ w = w' := by
  obtain ⟨A, c, rfl⟩ := h0.shape
  have hl := h0.len_le
  go_enter Try.func95, Try.ntmps95
  go_wp2
  go_loop [5, 8] (fun _ i => ∃ k : Nat, k ≤ l.length ∧ i = .int .i64 k ∧ Hid (∀ j (hj : j < k) (hl : j < l.length), l[j] ≠ x)) (fun _ i => l.length - (intOf i).toNat)
  case atStart => exact ⟨0, Nat.zero_le _, rfl, fun j hj => absurd hj (by omega)⟩
  case round =>
    obtain ⟨k, hk, rfl, hN⟩ := hrel
    by_cases hlt : k < l.length
    · obtain ⟨b, off, rfl, hb, c0⟩ := ints_at h0 k hlt
      by_cases heq : l[k] = x
      · have hq : (x == l[k]) = true := by simp [heq]
        have hF : Hid (findI l x = k) := idxP_hit _ l k hlt (fun j hj => decide_eq_false (hN.out j hj (by omega))) (decide_eq_true heq)
        clear heq
        go_wp2
        go_ret
        exact ⟨ret_int hF.out.symm, rfl⟩
      · have hq : (x == l[k]) = false := by simpa using fun h => heq h.symm
        have hN' : Hid (∀ j (hj : j < k + 1) (hl : j < l.length), l[j] ≠ x) := by
          intro j hj hl2
          rcases Nat.lt_or_ge j k with h | h
          · exact hN.out j h hl2
          · obtain rfl : j = k := by omega
            exact heq
        clear heq
        go_wp2
        go_round
        case rel => exact ⟨k + 1, hlt, by go_num, hN'⟩
        case measure => simp [intOf]; omega
    · obtain rfl : k = l.length := by omega
      have hF : Hid (findI l x = -1) := idxP_miss _ l fun j hj => decide_eq_false (hN.out j hj hj)
      go_wp2
      go_ret
      exact ⟨ret_int hF.out.symm, rfl⟩
set_option maxHeartbeats 400000 in
set_option maxRecDepth 100000 in
theorem slices_Contains_i64 (v : Value) (l : List Int) (x : Int) (w : World) (h0 : Lst intCell 1 w w.heap.size v l) :
    Calls Try.prog 73 #[v, .int .i64 x] w fun e w' => e = .returned (.bool (hasI l x)) ∧ w = w' := by
  go_enter Try.func73, Try.ntmps73
  go_wp2_with (go_at_call 95; refine (slices_Index_i64 _ _ _ _ h0).mono ?_; rintro e w' ⟨rfl, rfl⟩)
  go_ret
  exact ⟨ret_bool (idxP_any _ _), rfl⟩
set_option maxHeartbeats 400000 in
set_option maxRecDepth 100000 in
theorem spec_l01Has (v : Value) (l : List Int) (x : Int) (w : World) (h0 : Lst intCell 1 w w.heap.size v l) :
    Calls Try.prog 102 #[v, .int .i64 x] w fun e w' => e = .returned (.bool (hasI l x)) ∧ w = w' := by
  obtain ⟨A, c, rfl⟩ := h0.shape
  have hl := h0.len_le
  go_enter Try.func102, Try.ntmps102
  go_wp2
  go_loop [5] (fun i => ∃ k : Nat, k ≤ l.length ∧ i = .int .i64 k ∧ Hid (∀ j (hj : j < k) (hl : j < l.length), l[j] ≠ x)) (fun i => l.length - (intOf i).toNat)
  case atStart => exact ⟨0, Nat.zero_le _, rfl, fun j hj => absurd hj (by omega)⟩
  case round =>
    obtain ⟨k, hk, rfl, hN⟩ := hrel
    by_cases hlt : k < l.length
    · obtain ⟨b, off, rfl, hb, c0⟩ := ints_at h0 k hlt
      by_cases heq : l[k] = x
      · have hq : (l[k] == x) = true := by simp [heq]
        have hF := Lib.hid (hasI_hit l x k hlt heq)
        clear heq
        go_wp2
        go_ret
        exact ⟨ret_bool hF.out.symm, rfl⟩
      · have hq : (l[k] == x) = false := by simpa using heq
        have hN' : Hid (∀ j (hj : j < k + 1) (hl : j < l.length), l[j] ≠ x) := by
          intro j hj hl2
          rcases Nat.lt_or_ge j k with h | h
          · exact hN.out j h hl2
          · obtain rfl : j = k := by omega
            exact heq
        clear heq
        go_wp2
        go_round
        case rel => exact ⟨k + 1, hlt, by go_num, hN'⟩
        case measure => simp [intOf]; omega
    · obtain rfl : k = l.length := by omega
      have hF := Lib.hid (hasI_miss l x fun j hj => hN.out j hj hj)
      go_wp2
      go_ret
      exact ⟨ret_bool hF.out.symm, rfl⟩
end Go.Proofs.Ytcoomogabicfnaa
