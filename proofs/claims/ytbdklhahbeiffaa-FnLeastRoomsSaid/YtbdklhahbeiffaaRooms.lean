/-
  The walks of RoomsOf, the program's and the reference's, and of what they call.
-/
import Derived.Test.YtbdklhahbeiffaaInts
namespace Go.Proofs.Ytbdklhahbeiffaa
open Go.RowKit
set_option linter.unusedVariables false
set_option linter.unusedSimpArgs false

/-- The code of a graph and the index of a place. -/
def idxCode (ge : Int) (gp : List Place) (i : Int) : Int := if okGraph ge gp = true then (if inB i 0 ((gp.length : Int) - 1) = true then 0 else 2) else 1
set_option maxHeartbeats 400000 in
set_option maxRecDepth 100000 in
theorem spec_l16Rooms (a b c d : Int) (w : World) (hd0 : 0 ≤ d) (hd1 : d ≤ 5) :
    Calls Try.prog 112 #[.agg #[.int .i64 a, .int .i64 b, .int .i64 c, .int .i64 d]] w fun e w' => e = .returned (.tuple #[.int .i64 (max 1 d), .int .i64 (min 8 (d + 5))]) ∧ Below w.heap.size w w' := by
  go_enter Try.func112, Try.ntmps112
  go_wp2_with fail
  go_quiet (fail)
  go_wp2
  all_goals
    go_ret2
    exact ⟨ret_ii (by omega) (by omega), below_drewN (by repeat (first | exact Below.refl _ _ | assumption | refine Below.drew ?_ | refine Below.alloc ?_ (by simp <;> omega) _ | refine Below.setCell ?_ (by simp <;> omega) _)) _⟩
set_option maxHeartbeats 400000 in
set_option maxRecDepth 100000 in
theorem impl_roomsOf (a b c d : Int) (w : World) (hd0 : 0 ≤ d) (hd1 : d ≤ 5) :
    Calls Try.prog 122 #[.agg #[.int .i64 a, .int .i64 b, .int .i64 c, .int .i64 d]] w fun e w' => e = .returned (.tuple #[.int .i64 (max 1 d), .int .i64 (min 8 (d + 5))]) ∧ Below w.heap.size w w' := by
  go_enter Try.func122, Try.ntmps122
  go_wp2_with fail
  go_quiet (fail)
  go_wp2
  all_goals
    go_ret2
    exact ⟨ret_ii (by omega) (by omega), below_drewN (by repeat (first | exact Below.refl _ _ | assumption | refine Below.drew ?_ | refine Below.alloc ?_ (by simp <;> omega) _ | refine Below.setCell ?_ (by simp <;> omega) _)) _⟩

/-- What RoomsOf tells of a place: the least and the greatest room, and the code. -/
def roomsF (ge : Int) (gp : List Place) (i : Int) : Int × Int × Int :=
  if idxCode ge gp i = 0 then (max 1 (gp.getD i.toNat ⟨0, 0, 0, 0⟩).tokens, min 8 ((gp.getD i.toNat ⟨0, 0, 0, 0⟩).tokens + 5), 0) else (0, 0, idxCode ge gp i)
theorem idxCode_zero {ge : Int} {gp : List Place} {i : Int} (h : idxCode ge gp i = 0) : okGraph ge gp = true ∧ 0 ≤ i ∧ i < gp.length := by
  unfold idxCode at h
  split at h
  · split at h
    · rename_i h1 h2
      have := (inB_iff _ _ _).1 h2
      exact ⟨h1, this.1, by omega⟩
    · omega
  · omega

/-- A list of one to three different indices of n places. -/
def bufUp (n : Nat) (l : List Int) (k : Nat) : Bool := (List.range k).all fun j => inB (l.getD j 0) 0 ((n : Int) - 1) && !hasI (l.take j) (l.getD j 0)
def bufOk (n : Nat) (l : List Int) : Bool := inB l.length 1 3 && bufUp n l l.length
theorem bufUp_succ (n : Nat) (l : List Int) (k : Nat) : bufUp n l (k + 1) = (bufUp n l k && (inB (l.getD k 0) 0 ((n : Int) - 1) && !hasI (l.take k) (l.getD k 0))) := by
  simp [bufUp, List.range_succ, List.all_append]
theorem bufUp_false (n : Nat) (l : List Int) (k m : Nat) (hk : k < m) (h : (inB (l.getD k 0) 0 ((n : Int) - 1) && !hasI (l.take k) (l.getD k 0)) = false) : bufUp n l m = false := by
  unfold bufUp
  rw [List.all_eq_false]
  exact ⟨k, List.mem_range.2 hk, by rw [h]; simp⟩
set_option maxHeartbeats 1000000 in
set_option maxRecDepth 100000 in
theorem impl_areBuffers (v : Value) (ge : Int) (gp : List Place) (u : Value) (l : List Int) (w : World) (h0 : Lst Place.cells 4 w w.heap.size v gp) (h1 : Lst intCell 1 w w.heap.size u l) :
    Calls Try.prog 56 #[.agg #[.int .i64 ge, v], u] w fun r w' => r = .returned (.bool (bufOk gp.length l)) ∧ Below w.heap.size w w' := by
  obtain ⟨A, c, rfl⟩ := h0.shape
  obtain ⟨C, d, rfl⟩ := h1.shape
  have hl := h0.len_le
  have hm := h1.len_le
  have hcap : l.length ≤ d := by obtain ⟨_, _, A', c', hv, hc, _⟩ := h1; injection hv with _ _ hcc; omega
  cases h3 : inB l.length 1 3
  · have hE : Hid (bufOk gp.length l = false) := by show _ = _; simp [bufOk, h3]
    go_enter Try.func56, Try.ntmps56
    go_wp2_with (go_at_call 87; refine (impl_within _ _ _ _).mono ?_; rintro e w1 ⟨rfl, rfl⟩)
    go_ret
    exact ⟨ret_bool hE.out.symm, (by repeat (first | exact Below.refl _ _ | assumption | refine Below.drew ?_ | refine Below.alloc ?_ (by simp <;> omega) _ | refine Below.setCell ?_ (by simp <;> omega) _))⟩
  · have hE : Hid (bufOk gp.length l = bufUp gp.length l l.length) := by show _ = _; simp [bufOk, h3]
    go_enter Try.func56, Try.ntmps56
    go_wp2_with (go_at_call 87; refine (impl_within _ _ _ _).mono ?_; rintro e w1 ⟨rfl, rfl⟩)
    go_loop [5, 6, 13] (fun _ _ i => ∃ k : Nat, k ≤ l.length ∧ i = .int .i64 k ∧ Hid (bufUp gp.length l k = true)) (fun _ _ i => l.length - (intOf i).toNat)
    case atStart => exact ⟨0, Nat.zero_le _, rfl, rfl⟩
    case round =>
      obtain ⟨k, hk, rfl, hN⟩ := hrel
      by_cases hlt : k < l.length
      · have h1a := h1.alloc (.cells #[.int .i64 ge, .slice A gp.length c] 32)
        obtain ⟨b, off, rfl, hb, c0⟩ := ints_at h1a k hlt
        have hg : Hid (l.getD k 0 = l[k]) := by show _ = _; simp [List.getD, List.getElem?_eq_getElem hlt]
        have ht := Lst.take intCell_len h1a k (by omega)
        cases hq : inB l[k] 0 ((gp.length : Int) - 1)
        · have hF : Hid (bufUp gp.length l l.length = false) := bufUp_false _ _ k _ hlt (by rw [hg.out, hq]; rfl)
          go_wp2_with (go_at_call 87; refine (impl_within _ _ _ _).mono ?_; rintro e w1 ⟨rfl, rfl⟩)
          go_ret
          exact ⟨ret_bool (by rw [hE.out, hF.out]), (by repeat (first | exact Below.refl _ _ | assumption | refine Below.drew ?_ | refine Below.alloc ?_ (by simp <;> omega) _ | refine Below.setCell ?_ (by simp <;> omega) _))⟩
        · cases hr : hasI (l.take k) l[k]
          · have hN' : Hid (bufUp gp.length l (k + 1) = true) := by show _ = _; rw [bufUp_succ, hN.out, hg.out, hq, hr]; rfl
            go_wp2_with (first | (go_at_call 87; refine (impl_within _ _ _ _).mono ?_; rintro e w1 ⟨rfl, rfl⟩) | (go_at_call 120; refine (slices_Contains_i64 _ _ _ _ ht).mono ?_; rintro e w1 ⟨rfl, rfl⟩))
            go_round
            case rel => exact ⟨k + 1, hlt, by go_num, hN'⟩
            case measure => simp [intOf]; omega
          · have hF : Hid (bufUp gp.length l l.length = false) := bufUp_false _ _ k _ hlt (by rw [hg.out, hq, hr]; rfl)
            go_wp2_with (first | (go_at_call 87; refine (impl_within _ _ _ _).mono ?_; rintro e w1 ⟨rfl, rfl⟩) | (go_at_call 120; refine (slices_Contains_i64 _ _ _ _ ht).mono ?_; rintro e w1 ⟨rfl, rfl⟩))
            go_ret
            exact ⟨ret_bool (by rw [hE.out, hF.out]), (by repeat (first | exact Below.refl _ _ | assumption | refine Below.drew ?_ | refine Below.alloc ?_ (by simp <;> omega) _ | refine Below.setCell ?_ (by simp <;> omega) _))⟩
      · obtain rfl : k = l.length := by omega
        go_wp2
        go_ret
        exact ⟨ret_bool (by rw [hE.out, hN.out]), (by repeat (first | exact Below.refl _ _ | assumption | refine Below.drew ?_ | refine Below.alloc ?_ (by simp <;> omega) _ | refine Below.setCell ?_ (by simp <;> omega) _))⟩
theorem bufOk_one (n : Nat) (i : Int) : bufOk n [i] = inB i 0 ((n : Int) - 1) := by
  simp [bufOk, bufUp, inB, hasI, List.range_succ]
end Go.Proofs.Ytbdklhahbeiffaa
