/-
  The walks of RoomsOf, the program's and the reference's, and of what they call.
-/
import Derived.Test.YtkbhbmoogkjafaaInts
namespace Go.Proofs.Ytkbhbmoogkjafaa
open Go.RowKit
set_option linter.unusedVariables false
set_option linter.unusedSimpArgs false

/-- The code of a graph and the index of a place. -/
def idxCode (ge : Int) (gp : List Place) (i : Int) : Int := if okGraph ge gp = true then (if inB i 0 ((gp.length : Int) - 1) = true then 0 else 2) else 1
set_option maxHeartbeats 400000 in
set_option maxRecDepth 100000 in
theorem spec_l11Index (v : Value) (ge : Int) (gp : List Place) (i : Int) (w : World) (h0 : Lst Place.cells 4 w w.heap.size v gp) :
    Calls Try.prog 139 #[.agg #[.int .i64 ge, v], .int .i64 i] w fun e w' => e = .returned (.int .i64 (idxCode ge gp i)) ∧ Below w.heap.size w w' := by
  obtain ⟨A, c, rfl⟩ := h0.shape
  have hl := h0.len_le
  cases h1 : okGraph ge gp
  · have hE : Hid (idxCode ge gp i = 1) := by show _ = _; simp [idxCode, h1]
    go_enter Try.func139, Try.ntmps139
    go_wp2_with (go_at_call 123; refine (spec_IsEventGraph _ _ _ _ (h0.alloc _)).mono ?_; rintro e w1 ⟨rfl, hB⟩)
    go_ret
    exact ⟨ret_int hE.out.symm, (by repeat (first | exact Below.refl _ _ | refine Below.drew ?_ | refine Below.alloc ?_ (by first | omega | (simp; done) | (simp; omega) | (have q0 := hB.size; simp at q0; omega) | (have q0 := hB.size; simp at q0 ⊢; omega)) _ | refine Below.setCell ?_ (by first | omega | (simp; done) | (simp; omega) | (have q0 := hB.size; simp at q0; omega) | (have q0 := hB.size; simp at q0 ⊢; omega)) _ | refine Below.trans ?_ (Below.mono hB (by first | omega | (simp; done) | (simp; omega) | (have q0 := hB.size; simp at q0; omega) | (have q0 := hB.size; simp at q0 ⊢; omega)))))⟩
  · cases h2 : inB i 0 ((gp.length : Int) - 1)
    · have hE : Hid (idxCode ge gp i = 2) := by show _ = _; simp [idxCode, h1, h2]
      go_enter Try.func139, Try.ntmps139
      go_wp2_with fail
      refine (spec_IsEventGraph _ _ _ _ (h0.alloc _)).mono ?_
      rintro e w1 ⟨rfl, hB⟩
      obtain ⟨hc1, hf1⟩ := bcell hB
      go_wp2_with (go_at_call 108; refine (spec_l01In _ _ _ _).mono ?_; rintro e w2 ⟨rfl, rfl⟩)
      go_ret
      exact ⟨ret_int hE.out.symm, (by repeat (first | exact Below.refl _ _ | refine Below.drew ?_ | refine Below.alloc ?_ (by first | omega | (simp; done) | (simp; omega) | (have q0 := hB.size; simp at q0; omega) | (have q0 := hB.size; simp at q0 ⊢; omega)) _ | refine Below.setCell ?_ (by first | omega | (simp; done) | (simp; omega) | (have q0 := hB.size; simp at q0; omega) | (have q0 := hB.size; simp at q0 ⊢; omega)) _ | refine Below.trans ?_ (Below.mono hB (by first | omega | (simp; done) | (simp; omega) | (have q0 := hB.size; simp at q0; omega) | (have q0 := hB.size; simp at q0 ⊢; omega)))))⟩
    · have hE : Hid (idxCode ge gp i = 0) := by show _ = _; simp [idxCode, h1, h2]
      go_enter Try.func139, Try.ntmps139
      go_wp2_with fail
      refine (spec_IsEventGraph _ _ _ _ (h0.alloc _)).mono ?_
      rintro e w1 ⟨rfl, hB⟩
      obtain ⟨hc1, hf1⟩ := bcell hB
      go_wp2_with (go_at_call 108; refine (spec_l01In _ _ _ _).mono ?_; rintro e w2 ⟨rfl, rfl⟩)
      go_ret
      exact ⟨ret_int hE.out.symm, (by repeat (first | exact Below.refl _ _ | refine Below.drew ?_ | refine Below.alloc ?_ (by first | omega | (simp; done) | (simp; omega) | (have q0 := hB.size; simp at q0; omega) | (have q0 := hB.size; simp at q0 ⊢; omega)) _ | refine Below.setCell ?_ (by first | omega | (simp; done) | (simp; omega) | (have q0 := hB.size; simp at q0; omega) | (have q0 := hB.size; simp at q0 ⊢; omega)) _ | refine Below.trans ?_ (Below.mono hB (by first | omega | (simp; done) | (simp; omega) | (have q0 := hB.size; simp at q0; omega) | (have q0 := hB.size; simp at q0 ⊢; omega)))))⟩
set_option maxHeartbeats 400000 in
set_option maxRecDepth 100000 in
theorem spec_l16Rooms (a b c d : Int) (w : World) (hd0 : 0 ≤ d) (hd1 : d ≤ 5) :
    Calls Try.prog 168 #[.agg #[.int .i64 a, .int .i64 b, .int .i64 c, .int .i64 d]] w fun e w' => e = .returned (.tuple #[.int .i64 (max 1 d), .int .i64 (min 8 (d + 5))]) ∧ Below w.heap.size w w' := by
  go_enter Try.func168, Try.ntmps168
  go_wp2_with fail
  go_quiet (fail)
  go_wp2
  all_goals
    go_ret2
    exact ⟨ret_ii (by omega) (by omega), below_drewN (by repeat (first | exact Below.refl _ _ | assumption | refine Below.drew ?_ | refine Below.alloc ?_ (by simp <;> omega) _ | refine Below.setCell ?_ (by simp <;> omega) _)) _⟩
set_option maxHeartbeats 400000 in
set_option maxRecDepth 100000 in
theorem impl_roomsOf (a b c d : Int) (w : World) (hd0 : 0 ≤ d) (hd1 : d ≤ 5) :
    Calls Try.prog 154 #[.agg #[.int .i64 a, .int .i64 b, .int .i64 c, .int .i64 d]] w fun e w' => e = .returned (.tuple #[.int .i64 (max 1 d), .int .i64 (min 8 (d + 5))]) ∧ Below w.heap.size w w' := by
  go_enter Try.func154, Try.ntmps154
  go_wp2_with fail
  go_quiet (fail)
  go_wp2
  all_goals
    go_ret2
    exact ⟨ret_ii (by omega) (by omega), below_drewN (by repeat (first | exact Below.refl _ _ | assumption | refine Below.drew ?_ | refine Below.alloc ?_ (by simp <;> omega) _ | refine Below.setCell ?_ (by simp <;> omega) _)) _⟩

/-- What RoomsOf tells of a place: the least and the greatest room, and the code. -/
def roomsF (ge : Int) (gp : List Place) (i : Int) : Int × Int × Int :=
  if idxCode ge gp i = 0 then (max 1 (gp.getD i.toNat ⟨0, 0, 0, 0⟩).tokens, min 8 ((gp.getD i.toNat ⟨0, 0, 0, 0⟩).tokens + 5), 0) else (0, 0, idxCode ge gp i)
theorem idxCode_zero {ge : Int} {gp : List Place} {i : Int} (h : idxCode ge gp i = 0) : okGraph ge gp = true ∧ 0 ≤ i ∧ i < gp.length := by
  unfold idxCode at h
  split at h
  · split at h
    · rename_i h1 h2
      have := (inB_iff _ _ _).1 h2
      exact ⟨h1, this.1, by omega⟩
    · omega
  · omega
set_option maxHeartbeats 400000 in
set_option maxRecDepth 100000 in
theorem spec_RoomsOf (v : Value) (ge : Int) (gp : List Place) (i : Int) (w : World) (h0 : Lst Place.cells 4 w w.heap.size v gp) :
    Calls Try.prog 77 #[.agg #[.int .i64 ge, v], .int .i64 i] w fun e w' => e = .returned (.tuple #[.int .i64 (roomsF ge gp i).1, .int .i64 (roomsF ge gp i).2.1, .int .i64 (roomsF ge gp i).2.2]) ∧ Below w.heap.size w w' := by
  obtain ⟨A, c, rfl⟩ := h0.shape
  have hl := h0.len_le
  by_cases hc : idxCode ge gp i = 0
  · obtain ⟨hg, hi0, hi1⟩ := idxCode_zero hc
    obtain ⟨k, rfl⟩ := Int.eq_ofNat_of_zero_le hi0
    have hk : k < gp.length := by omega
    have hp := okGraph_place hg (List.getElem_mem hk)
    have hE : Hid (roomsF ge gp k = (max 1 gp[k].tokens, min 8 (gp[k].tokens + 5), 0)) := by
      show _ = _
      simp [roomsF, hc, List.getD, List.getElem?_eq_getElem hk]
    have hq : (idxCode ge gp k != 0) = false := by simp [hc]
    clear hc hg
    go_enter Try.func77, Try.ntmps77
    go_wp2_with fail
    refine (spec_l11Index _ _ _ _ _ (h0.alloc _)).mono ?_
    rintro e w1 ⟨rfl, hB⟩
    have e1 : w1.cell? ⟨w.heap.size, 1, none⟩ = some (.slice A gp.length c) := cell_keep (by simp) hB
    obtain ⟨b, off, rfl, hb, d0, d1, d2, d3⟩ := places_at h0 k hk
    have hBt : Below w.heap.size w w1 := (by repeat (first | exact Below.refl _ _ | refine Below.drew ?_ | refine Below.alloc ?_ (by first | omega | (simp; done) | (simp; omega) | (have q0 := hB.size; simp at q0; omega) | (have q0 := hB.size; simp at q0 ⊢; omega)) _ | refine Below.setCell ?_ (by first | omega | (simp; done) | (simp; omega) | (have q0 := hB.size; simp at q0; omega) | (have q0 := hB.size; simp at q0 ⊢; omega)) _ | refine Below.trans ?_ (Below.mono hB (by first | omega | (simp; done) | (simp; omega) | (have q0 := hB.size; simp at q0; omega) | (have q0 := hB.size; simp at q0 ⊢; omega)))))
    replace d0 := cell_keep d0 hBt
    replace d1 := cell_keep d1 hBt
    replace d2 := cell_keep d2 hBt
    replace d3 := cell_keep d3 hBt
    go_wp2_with fail
    refine (spec_l16Rooms _ _ _ _ _ hp.2.2.2.1 hp.2.2.2.2).mono ?_
    rintro e w2 ⟨rfl, hB2⟩
    go_wp2
    go_ret3
    exact ⟨ret_iii (by rw [hE.out]) (by rw [hE.out]) (by rw [hE.out]), (by repeat (first | exact Below.refl _ _ | refine Below.drew ?_ | refine Below.alloc ?_ (by first | omega | (simp; done) | (simp; omega) | (have q0 := hB2.size; have q1 := hB.size; simp at q0 q1; omega) | (have q0 := hB2.size; have q1 := hB.size; simp at q0 q1 ⊢; omega)) _ | refine Below.setCell ?_ (by first | omega | (simp; done) | (simp; omega) | (have q0 := hB2.size; have q1 := hB.size; simp at q0 q1; omega) | (have q0 := hB2.size; have q1 := hB.size; simp at q0 q1 ⊢; omega)) _ | refine Below.trans ?_ (Below.mono hB2 (by first | omega | (simp; done) | (simp; omega) | (have q0 := hB2.size; have q1 := hB.size; simp at q0 q1; omega) | (have q0 := hB2.size; have q1 := hB.size; simp at q0 q1 ⊢; omega))) | refine Below.trans ?_ (Below.mono hB (by first | omega | (simp; done) | (simp; omega) | (have q0 := hB2.size; have q1 := hB.size; simp at q0 q1; omega) | (have q0 := hB2.size; have q1 := hB.size; simp at q0 q1 ⊢; omega)))))⟩
  · have hE : Hid (roomsF ge gp i = (0, 0, idxCode ge gp i)) := by show _ = _; simp [roomsF, hc]
    have hq : (idxCode ge gp i != 0) = true := by simpa using hc
    go_enter Try.func77, Try.ntmps77
    go_wp2_with (go_at_call 139; refine (spec_l11Index _ _ _ _ _ (h0.alloc _)).mono ?_; rintro e w1 ⟨rfl, hB⟩)
    go_ret3
    exact ⟨ret_iii (by rw [hE.out]) (by rw [hE.out]) (by rw [hE.out]), (by repeat (first | exact Below.refl _ _ | refine Below.drew ?_ | refine Below.alloc ?_ (by first | omega | (simp; done) | (simp; omega) | (have q0 := hB.size; simp at q0; omega) | (have q0 := hB.size; simp at q0 ⊢; omega)) _ | refine Below.setCell ?_ (by first | omega | (simp; done) | (simp; omega) | (have q0 := hB.size; simp at q0; omega) | (have q0 := hB.size; simp at q0 ⊢; omega)) _ | refine Below.trans ?_ (Below.mono hB (by first | omega | (simp; done) | (simp; omega) | (have q0 := hB.size; simp at q0; omega) | (have q0 := hB.size; simp at q0 ⊢; omega)))))⟩

/-- A list of one to three different indices of n places. -/
def bufUp (n : Nat) (l : List Int) (k : Nat) : Bool := (List.range k).all fun j => inB (l.getD j 0) 0 ((n : Int) - 1) && !hasI (l.take j) (l.getD j 0)
def bufOk (n : Nat) (l : List Int) : Bool := inB l.length 1 3 && bufUp n l l.length
theorem bufUp_succ (n : Nat) (l : List Int) (k : Nat) : bufUp n l (k + 1) = (bufUp n l k && (inB (l.getD k 0) 0 ((n : Int) - 1) && !hasI (l.take k) (l.getD k 0))) := by
  simp [bufUp, List.range_succ, List.all_append]
theorem bufUp_false (n : Nat) (l : List Int) (k m : Nat) (hk : k < m) (h : (inB (l.getD k 0) 0 ((n : Int) - 1) && !hasI (l.take k) (l.getD k 0)) = false) : bufUp n l m = false := by
  unfold bufUp
  rw [List.all_eq_false]
  exact ⟨k, List.mem_range.2 hk, by rw [h]; simp⟩
set_option maxHeartbeats 1000000 in
set_option maxRecDepth 100000 in
theorem impl_areBuffers (v : Value) (ge : Int) (gp : List Place) (u : Value) (l : List Int) (w : World) (h0 : Lst Place.cells 4 w w.heap.size v gp) (h1 : Lst intCell 1 w w.heap.size u l) :
    Calls Try.prog 153 #[.agg #[.int .i64 ge, v], u] w fun r w' => r = .returned (.bool (bufOk gp.length l)) ∧ Below w.heap.size w w' := by
  obtain ⟨A, c, rfl⟩ := h0.shape
  obtain ⟨C, d, rfl⟩ := h1.shape
  have hl := h0.len_le
  have hm := h1.len_le
  have hcap : l.length ≤ d := by obtain ⟨_, _, A', c', hv, hc, _⟩ := h1; injection hv with _ _ hcc; omega
  cases h3 : inB l.length 1 3
  · have hE : Hid (bufOk gp.length l = false) := by show _ = _; simp [bufOk, h3]
    go_enter Try.func153, Try.ntmps153
    go_wp2_with (go_at_call 115; refine (impl_within _ _ _ _).mono ?_; rintro e w1 ⟨rfl, rfl⟩)
    go_ret
    exact ⟨ret_bool hE.out.symm, (by repeat (first | exact Below.refl _ _ | assumption | refine Below.drew ?_ | refine Below.alloc ?_ (by simp <;> omega) _ | refine Below.setCell ?_ (by simp <;> omega) _))⟩
  · have hE : Hid (bufOk gp.length l = bufUp gp.length l l.length) := by show _ = _; simp [bufOk, h3]
    go_enter Try.func153, Try.ntmps153
    go_wp2_with (go_at_call 115; refine (impl_within _ _ _ _).mono ?_; rintro e w1 ⟨rfl, rfl⟩)
    go_loop [5, 6, 13] (fun _ _ i => ∃ k : Nat, k ≤ l.length ∧ i = .int .i64 k ∧ Hid (bufUp gp.length l k = true)) (fun _ _ i => l.length - (intOf i).toNat)
    case atStart => exact ⟨0, Nat.zero_le _, rfl, rfl⟩
    case round =>
      obtain ⟨k, hk, rfl, hN⟩ := hrel
      by_cases hlt : k < l.length
      · have h1a := h1.alloc (.cells #[.int .i64 ge, .slice A gp.length c] 26)
        obtain ⟨b, off, rfl, hb, c0⟩ := ints_at h1a k hlt
        have hg : Hid (l.getD k 0 = l[k]) := by show _ = _; simp [List.getD, List.getElem?_eq_getElem hlt]
        have ht := Lst.take intCell_len h1a k (by omega)
        cases hq : inB l[k] 0 ((gp.length : Int) - 1)
        · have hF : Hid (bufUp gp.length l l.length = false) := bufUp_false _ _ k _ hlt (by rw [hg.out, hq]; rfl)
          go_wp2_with (go_at_call 115; refine (impl_within _ _ _ _).mono ?_; rintro e w1 ⟨rfl, rfl⟩)
          go_ret
          exact ⟨ret_bool (by rw [hE.out, hF.out]), (by repeat (first | exact Below.refl _ _ | assumption | refine Below.drew ?_ | refine Below.alloc ?_ (by simp <;> omega) _ | refine Below.setCell ?_ (by simp <;> omega) _))⟩
        · cases hr : hasI (l.take k) l[k]
          · have hN' : Hid (bufUp gp.length l (k + 1) = true) := by show _ = _; rw [bufUp_succ, hN.out, hg.out, hq, hr]; rfl
            go_wp2_with (first | (go_at_call 115; refine (impl_within _ _ _ _).mono ?_; rintro e w1 ⟨rfl, rfl⟩) | (go_at_call 200; refine (slices_Contains_i64 _ _ _ _ ht).mono ?_; rintro e w1 ⟨rfl, rfl⟩))
            go_round
            case rel => exact ⟨k + 1, hlt, by go_num, hN'⟩
            case measure => simp [intOf]; omega
          · have hF : Hid (bufUp gp.length l l.length = false) := bufUp_false _ _ k _ hlt (by rw [hg.out, hq, hr]; rfl)
            go_wp2_with (first | (go_at_call 115; refine (impl_within _ _ _ _).mono ?_; rintro e w1 ⟨rfl, rfl⟩) | (go_at_call 200; refine (slices_Contains_i64 _ _ _ _ ht).mono ?_; rintro e w1 ⟨rfl, rfl⟩))
            go_ret
            exact ⟨ret_bool (by rw [hE.out, hF.out]), (by repeat (first | exact Below.refl _ _ | assumption | refine Below.drew ?_ | refine Below.alloc ?_ (by simp <;> omega) _ | refine Below.setCell ?_ (by simp <;> omega) _))⟩
      · obtain rfl : k = l.length := by omega
        go_wp2
        go_ret
        exact ⟨ret_bool (by rw [hE.out, hN.out]), (by repeat (first | exact Below.refl _ _ | assumption | refine Below.drew ?_ | refine Below.alloc ?_ (by simp <;> omega) _ | refine Below.setCell ?_ (by simp <;> omega) _))⟩
theorem bufOk_one (n : Nat) (i : Int) : bufOk n [i] = inB i 0 ((n : Int) - 1) := by
  simp [bufOk, bufUp, inB, hasI, List.range_succ]
set_option maxHeartbeats 400000 in
set_option maxRecDepth 100000 in
theorem impl_RoomsOf (v : Value) (ge : Int) (gp : List Place) (i : Int) (w : World) (h0 : Lst Place.cells 4 w w.heap.size v gp) :
    Calls Try.prog 76 #[.agg #[.int .i64 ge, v], .int .i64 i] w fun e w' => e = .returned (.tuple #[.int .i64 (roomsF ge gp i).1, .int .i64 (roomsF ge gp i).2.1, .int .i64 (roomsF ge gp i).2.2]) ∧ Below w.heap.size w w' := by
  obtain ⟨A, c, rfl⟩ := h0.shape
  have hl := h0.len_le
  cases hg : okGraph ge gp
  · have hE : Hid (roomsF ge gp i = (0, 0, 1)) := by show _ = _; simp [roomsF, idxCode, hg]
    go_enter Try.func76, Try.ntmps76
    go_wp2_with (go_at_call 113; refine (impl_IsEventGraph _ _ _ _ (h0.alloc _)).mono ?_; rintro e w1 ⟨rfl, hB⟩)
    go_ret3
    exact ⟨ret_iii (by rw [hE.out]) (by rw [hE.out]) (by rw [hE.out]), (by repeat (first | exact Below.refl _ _ | refine Below.drew ?_ | refine Below.alloc ?_ (by first | omega | (simp; done) | (simp; omega) | (have q0 := hB.size; simp at q0; omega) | (have q0 := hB.size; simp at q0 ⊢; omega)) _ | refine Below.setCell ?_ (by first | omega | (simp; done) | (simp; omega) | (have q0 := hB.size; simp at q0; omega) | (have q0 := hB.size; simp at q0 ⊢; omega)) _ | refine Below.trans ?_ (Below.mono hB (by first | omega | (simp; done) | (simp; omega) | (have q0 := hB.size; simp at q0; omega) | (have q0 := hB.size; simp at q0 ⊢; omega)))))⟩
  · have hbo := Lib.hid (bufOk_one gp.length i)
    cases hi : inB i 0 ((gp.length : Int) - 1)
    · have hE : Hid (roomsF ge gp i = (0, 0, 2)) := by show _ = _; simp [roomsF, idxCode, hg, hi]
      have hbf : bufOk gp.length [i] = false := by rw [hbo.out, hi]
      go_enter Try.func76, Try.ntmps76
      go_wp2_with fail
      refine (impl_IsEventGraph _ _ _ _ (h0.alloc _)).mono ?_
      rintro e w1 ⟨rfl, hB⟩
      obtain ⟨hc1, hf1⟩ := bcell hB
      have hBt : Below w.heap.size w w1 := (by repeat (first | exact Below.refl _ _ | refine Below.drew ?_ | refine Below.alloc ?_ (by first | omega | (simp; done) | (simp; omega) | (have q0 := hB.size; simp at q0; omega) | (have q0 := hB.size; simp at q0 ⊢; omega)) _ | refine Below.setCell ?_ (by first | omega | (simp; done) | (simp; omega) | (have q0 := hB.size; simp at q0; omega) | (have q0 := hB.size; simp at q0 ⊢; omega)) _ | refine Below.trans ?_ (Below.mono hB (by first | omega | (simp; done) | (simp; omega) | (have q0 := hB.size; simp at q0; omega) | (have q0 := hB.size; simp at q0 ⊢; omega)))))
      go_wp2_with fail
      refine (impl_areBuffers _ _ _ _ [i] _ ((h0.now hBt).alloc _) ((lst_new1 intCell 1 intCell_len w1 2 i _ rfl _ rfl).more (by simp))).mono ?_
      rintro e w2 ⟨rfl, hB2⟩
      go_wp2
      go_ret3
      exact ⟨ret_iii (by rw [hE.out]) (by rw [hE.out]) (by rw [hE.out]), (by repeat (first | exact Below.refl _ _ | refine Below.drew ?_ | refine Below.alloc ?_ (by first | omega | (simp; done) | (simp; omega) | (have q0 := hB2.size; have q1 := hB.size; simp at q0 q1; omega) | (have q0 := hB2.size; have q1 := hB.size; simp at q0 q1 ⊢; omega)) _ | refine Below.setCell ?_ (by first | omega | (simp; done) | (simp; omega) | (have q0 := hB2.size; have q1 := hB.size; simp at q0 q1; omega) | (have q0 := hB2.size; have q1 := hB.size; simp at q0 q1 ⊢; omega)) _ | refine Below.trans ?_ (Below.mono hB2 (by first | omega | (simp; done) | (simp; omega) | (have q0 := hB2.size; have q1 := hB.size; simp at q0 q1; omega) | (have q0 := hB2.size; have q1 := hB.size; simp at q0 q1 ⊢; omega))) | refine Below.trans ?_ (Below.mono hB (by first | omega | (simp; done) | (simp; omega) | (have q0 := hB2.size; have q1 := hB.size; simp at q0 q1; omega) | (have q0 := hB2.size; have q1 := hB.size; simp at q0 q1 ⊢; omega)))))⟩
    · have hbf : bufOk gp.length [i] = true := by rw [hbo.out, hi]
      have hin := (inB_iff _ _ _).1 hi
      obtain ⟨k, rfl⟩ := Int.eq_ofNat_of_zero_le hin.1
      have hk : k < gp.length := by omega
      have hp := okGraph_place hg (List.getElem_mem hk)
      have hE : Hid (roomsF ge gp k = (max 1 gp[k].tokens, min 8 (gp[k].tokens + 5), 0)) := by
        show _ = _
        simp [roomsF, idxCode, hg, hi, List.getD, List.getElem?_eq_getElem hk]
      clear hi hbo
      go_enter Try.func76, Try.ntmps76
      go_wp2_with fail
      refine (impl_IsEventGraph _ _ _ _ (h0.alloc _)).mono ?_
      rintro e w1 ⟨rfl, hB⟩
      obtain ⟨hc1, hf1⟩ := bcell hB
      have hBt : Below w.heap.size w w1 := (by repeat (first | exact Below.refl _ _ | refine Below.drew ?_ | refine Below.alloc ?_ (by first | omega | (simp; done) | (simp; omega) | (have q0 := hB.size; simp at q0; omega) | (have q0 := hB.size; simp at q0 ⊢; omega)) _ | refine Below.setCell ?_ (by first | omega | (simp; done) | (simp; omega) | (have q0 := hB.size; simp at q0; omega) | (have q0 := hB.size; simp at q0 ⊢; omega)) _ | refine Below.trans ?_ (Below.mono hB (by first | omega | (simp; done) | (simp; omega) | (have q0 := hB.size; simp at q0; omega) | (have q0 := hB.size; simp at q0 ⊢; omega)))))
      have hs1 := hB.size
      simp at hs1
      go_wp2_with fail
      refine (impl_areBuffers _ _ _ _ [(k : Int)] _ ((h0.now hBt).alloc _) ((lst_new1 intCell 1 intCell_len w1 2 (k : Int) _ rfl _ rfl).more (by simp))).mono ?_
      rintro e w2 ⟨rfl, hB2⟩
      have hBu : Below w.heap.size w w2 := (by repeat (first | exact Below.refl _ _ | refine Below.drew ?_ | refine Below.alloc ?_ (by first | omega | (simp; done) | (simp; omega) | (have q0 := hB2.size; have q1 := hB.size; simp at q0 q1; omega) | (have q0 := hB2.size; have q1 := hB.size; simp at q0 q1 ⊢; omega)) _ | refine Below.setCell ?_ (by first | omega | (simp; done) | (simp; omega) | (have q0 := hB2.size; have q1 := hB.size; simp at q0 q1; omega) | (have q0 := hB2.size; have q1 := hB.size; simp at q0 q1 ⊢; omega)) _ | refine Below.trans ?_ (Below.mono hB2 (by first | omega | (simp; done) | (simp; omega) | (have q0 := hB2.size; have q1 := hB.size; simp at q0 q1; omega) | (have q0 := hB2.size; have q1 := hB.size; simp at q0 q1 ⊢; omega))) | refine Below.trans ?_ (Below.mono hB (by first | omega | (simp; done) | (simp; omega) | (have q0 := hB2.size; have q1 := hB.size; simp at q0 q1; omega) | (have q0 := hB2.size; have q1 := hB.size; simp at q0 q1 ⊢; omega)))))
      have e0 : w2.cell? ⟨w.heap.size, 1, none⟩ = some (.slice A gp.length c) := by
        rw [hB2.cell (by simp; omega), World.cell?_alloc_lt w1 _ _ (by simp; omega), hB.cell (by simp)]
        simp
      obtain ⟨b, off, rfl, hb, d0, d1, d2, d3⟩ := places_at h0 k hk
      replace d0 := cell_keep d0 hBu
      replace d1 := cell_keep d1 hBu
      replace d2 := cell_keep d2 hBu
      replace d3 := cell_keep d3 hBu
      clear hc1 hf1
      go_wp2_with fail
      refine (impl_roomsOf _ _ _ _ _ hp.2.2.2.1 hp.2.2.2.2).mono ?_
      rintro e w3 ⟨rfl, hB3⟩
      go_wp2
      go_ret3
      exact ⟨ret_iii (by rw [hE.out]) (by rw [hE.out]) (by rw [hE.out]), hBu.trans (hB3.mono hBu.size)⟩
end Go.Proofs.Ytkbhbmoogkjafaa
