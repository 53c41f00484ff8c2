/-
  The walks of EnabledIn, the program's and the reference's, and of what they call.
-/
import Derived.Test.YtkbhbmoogkjafaaMarking
import Derived.Test.YtkbhbmoogkjafaaInts
namespace Go.Proofs.Ytkbhbmoogkjafaa
open Go.RowKit
set_option linter.unusedVariables false
set_option linter.unusedSimpArgs false

/-- Of the first k places, each that leads to e has a token. -/
def enK (gp : List Place) (m : List Int) (e : Int) (k : Nat) : Bool := (List.range k).all fun i => decide ((gp.getD i ⟨0, 0, 0, 0⟩).dst ≠ e) || decide (0 < m.getD i 0)
def enB (gp : List Place) (m : List Int) (e : Int) : Bool := enK gp m e gp.length
theorem enK_succ (gp : List Place) (m : List Int) (e : Int) (k : Nat) (h : k < gp.length) (h2 : k < m.length) : enK gp m e (k + 1) = (enK gp m e k && (decide (gp[k].dst ≠ e) || decide (0 < m[k]))) := by
  simp [enK, List.range_succ, List.all_append, List.getD, List.getElem?_eq_getElem h, List.getElem?_eq_getElem h2]
theorem enK_false (gp : List Place) (m : List Int) (e : Int) (k n : Nat) (h : k < gp.length) (h2 : k < m.length) (hn : k < n) (h3 : gp[k].dst = e) (h4 : ¬ 0 < m[k]) : enK gp m e n = false := by
  unfold enK
  rw [List.all_eq_false]
  exact ⟨k, List.mem_range.2 hn, by simp [List.getD, List.getElem?_eq_getElem h, List.getElem?_eq_getElem h2, h3]; omega⟩
/-- The enabled ones of the first n events. -/
def enL (gp : List Place) (m : List Int) (n : Nat) : List Int := ((List.range n).map fun (i : Nat) => (i : Int)).filter (enB gp m)
theorem enL_succ (gp : List Place) (m : List Int) (n : Nat) : enL gp m (n + 1) = enL gp m n ++ if enB gp m n = true then [(n : Int)] else [] := by
  unfold enL
  rw [List.range_succ, List.map_append, List.filter_append]
  by_cases h : enB gp m n = true <;> simp [List.filter_cons, h]
theorem enL_len (gp : List Place) (m : List Int) (n : Nat) : (enL gp m n).length ≤ n := by
  unfold enL
  exact Nat.le_trans (List.length_filter_le _ _) (by simp)
theorem enL_mem (gp : List Place) (m : List Int) (n : Nat) (e : Int) : e ∈ enL gp m n ↔ (0 ≤ e ∧ e < n) ∧ enB gp m e = true := by
  unfold enL
  rw [List.mem_filter, List.mem_map]
  constructor
  · rintro ⟨⟨a, ha, rfl⟩, h⟩
    exact ⟨⟨by omega, by have := List.mem_range.1 ha; omega⟩, h⟩
  · rintro ⟨⟨h0, h1⟩, h⟩
    exact ⟨⟨e.toNat, List.mem_range.2 (by omega), by omega⟩, h⟩
/-- What EnabledIn gives. -/
def enF (ge : Int) (gp : List Place) (m : List Int) : List Int × Int :=
  if okGraph ge gp = false then ([], 1) else if okMarking gp m = false then ([], 2) else (enL gp m ge.toNat, 0)
theorem enF_len (ge : Int) (gp : List Place) (m : List Int) : (enF ge gp m).1.length ≤ 1048576 := by
  unfold enF
  cases hg : okGraph ge gp
  · simp
  · have := okGraph_ev hg
    cases hm : okMarking gp m
    · simp
    · simp only [Bool.true_eq_false, if_false]
      have := enL_len gp m ge.toNat
      omega

theorem okMarking_len {gp : List Place} {m : List Int} (h : okMarking gp m = true) : m.length = gp.length := by
  unfold okMarking at h
  simp only [Bool.and_eq_true, decide_eq_true_eq] at h
  exact h.1
theorem okMarking_in {gp : List Place} {m : List Int} (h : okMarking gp m = true) : ∀ x ∈ m, 0 ≤ x ∧ x ≤ 100 := by
  unfold okMarking allB at h
  simp only [Bool.and_eq_true, decide_eq_true_eq, List.all_eq_true, inB_iff] at h
  exact h.2
theorem okMarking_pos {gp : List Place} {m : List Int} (h : okMarking gp m = true) : ∀ x ∈ m, 0 ≤ x := fun x hx => (okMarking_in h x hx).1
set_option maxHeartbeats 2000000 in
set_option maxRecDepth 100000 in
theorem impl_enabledIn (v : Value) (n : Nat) (gp : List Place) (u : Value) (m : List Int) (w : World) (h0 : Lst Place.cells 4 w w.heap.size v gp) (h1 : Lst intCell 1 w w.heap.size u m) (hlen : m.length = gp.length) (hn : n ≤ 1000) :
    Calls Try.prog 132 #[.agg #[.int .i64 n, v], u] w (RetOwn intCell 1 2 w (enL gp m n)) := by
  obtain ⟨A, c, rfl⟩ := h0.shape
  obtain ⟨C, d, rfl⟩ := h1.shape
  have hl := h0.len_le
  have hlen1 : m.length ≤ gp.length := by omega
  have hlen2 : gp.length ≤ m.length := by omega
  have hB0 := Lib.hid (fun e => show enK gp m e gp.length = enB gp m e from rfl)
  clear hlen
  go_enter Try.func132, Try.ntmps132
  go_wp2
  have hW : Below w.heap.size w (w.alloc (.cells #[.int .i64 n, .slice A gp.length c] 26)) := (Below.refl _ _).alloc (Nat.le_refl _) _; have hb0 : Blk (w.alloc (.cells #[.int .i64 n, .slice A gp.length c] 26)) w.heap.size 26 #[.int .i64 n, .slice A gp.length c] := Blk.new _ _ _; replace h0 := h0.now hW; replace h1 := h1.now hW; generalize (w.alloc (.cells #[.int .i64 n, .slice A gp.length c] 26)) = W at *
  go_loopw [5, 6, 7, 8, 9, 12] (fun ev _ _ _ _ i wr => ∃ k : Nat, k ≤ n ∧ i = .int .i64 k ∧ Own intCell 1 2 wr W.heap.size ev (enL gp m k) ∧ Below W.heap.size W wr) (fun _ _ _ _ _ i _ => n - (intOf i).toNat)
  case atStart => exact ⟨0, Nat.zero_le _, rfl, Own.nil, Below.refl _ _⟩
  case round =>
    obtain ⟨k, hk, rfl, hO, hB⟩ := hrel
    obtain ⟨k0, k1⟩ := (hb0.now hB).c2
    by_cases hlt : k < n
    · go_wp2
      clear k0 k1
      go_loopw [7, 8, 9, 18] (fun en _ _ i w2 => ∃ j : Nat, j ≤ gp.length ∧ i = .int .i64 j ∧ en = .bool (enK gp m k j) ∧ Below wr.heap.size wr w2) (fun _ _ _ i _ => gp.length - (intOf i).toNat)
      case atStart => exact ⟨0, Nat.zero_le _, rfl, rfl, Below.refl _ _⟩
      case round =>
        rename_i w2
        obtain ⟨j, hj, rfl, rfl, hB2⟩ := hrel
        have hBt := hB.trans (hB2.mono hB.size)
        by_cases hlt2 : j < gp.length
        · have hlt3 : j < m.length := by omega
          obtain ⟨k0, k1⟩ := (hb0.now hBt).c2
          obtain ⟨b, off, hb1, hb, d0, d1, d2, d3⟩ := places_at (h0.now hBt) j hlt2
          obtain ⟨b2, off2, hb2, hb3, e0⟩ := ints_at (h1.now hBt) j hlt3
          cases hb1
          cases hb2
          have hS := Lib.hid (enK_succ gp m k j hlt2 hlt3)
          cases hen : enK gp m k j
          · have hS' : Hid (enK gp m k (j + 1) = false) := by show _ = _; rw [hS.out, hen]; rfl
            clear hen
            go_wp2
            go_roundw
            case rel => exact ⟨j + 1, hlt2, by go_num, by rw [hS'.out], hB2.alloc hB2.size _⟩
            case measure => simp [intOf]; omega
          · by_cases hd : gp[j].dst = k
            · have hd1 : (gp[j].dst != (k : Int)) = false := by simp [hd]
              have hS' : Hid (enK gp m k (j + 1) = decide (0 < m[j])) := by show _ = _; rw [hS.out, hen, hd]; simp
              clear hen hd
              go_wp2
              go_roundw
              case rel => exact ⟨j + 1, hlt2, by go_num, by rw [hS'.out], hB2.alloc hB2.size _⟩
              case measure => simp [intOf]; omega
            · have hd1 : (gp[j].dst != (k : Int)) = true := by simpa using hd
              have hS' : Hid (enK gp m k (j + 1) = true) := by show _ = _; rw [hS.out, hen]; simp [hd]
              clear hen hd
              go_wp2
              go_roundw
              case rel => exact ⟨j + 1, hlt2, by go_num, by rw [hS'.out], hB2.alloc hB2.size _⟩
              case measure => simp [intOf]; omega
        · obtain rfl : j = gp.length := by omega
          have hT := Lib.hid (enL_succ gp m k)
          have hEq := hB0.out k
          cases hen : enB gp m k
          · rw [hEq, hen]
            have hT' : Hid (enL gp m (k + 1) = enL gp m k) := by show _ = _; rw [hT.out, hen]; simp
            clear hen hEq
            go_wp2
            go_roundw
            case rel => exact ⟨k + 1, hlt, by go_num, by rw [hT'.out]; exact hO.now hB2, hBt⟩
            case measure => simp [intOf]; omega
          · rw [hEq, hen]
            have hT' : Hid (enL gp m (k + 1) = enL gp m k ++ [(k : Int)]) := by show _ = _; rw [hT.out, hen]; simp
            clear hen hEq
            have hlen : (enL gp m k).length + [(k : Int)].length ≤ 1099511627776 := by have := enL_len gp m k; simp at this ⊢; omega
            have hO2 := hO.now hB2
            go_wp2_with (at_builtin; refine wpList_append_lst rfl _ _ 38 rfl intCell 1 intCell_one (by omega) W.heap.size 2 _ 8 Try.underlying38 info_i64 rfl _ _ rfl (hO2.alloc _) _ _ _ _ [(k : Int)] rfl (lst_new1 _ _ intCell_len _ _ _ _ rfl _ (by simp)) hlen (by omega) (Nat.le_trans hBt.size (by simp <;> omega)) ?_; intro v' w1 hO1 hG1 hD1)
            go_roundw
            case rel => exact ⟨k + 1, hlt, by go_num, by rw [hT'.out]; exact hO1, below_app (hBt.alloc hBt.size _) (Nat.le_trans hBt.size (by simp)) hG1 (hO2.alloc _) (Nat.le_refl _)⟩
            case measure => simp [intOf]; omega
    · obtain rfl : k = n := by omega
      go_wp2
      go_ret
      exact ⟨_, rfl, hO.rebase hW.size, hW.trans (hB.mono hW.size)⟩
set_option maxHeartbeats 2000000 in
set_option maxRecDepth 100000 in
theorem impl_EnabledIn (v : Value) (ge : Int) (gp : List Place) (u : Value) (m : List Int) (w : World) (h0 : Lst Place.cells 4 w w.heap.size v gp) (h1 : Lst intCell 1 w w.heap.size u m) :
    Calls Try.prog 33 #[.agg #[.int .i64 ge, v], u] w (RetOwnI intCell 1 2 w (enF ge gp m).1 (enF ge gp m).2) := by
  obtain ⟨A, c, rfl⟩ := h0.shape
  obtain ⟨C, d, rfl⟩ := h1.shape
  go_enter Try.func33, Try.ntmps33
  go_wp2_with fail
  have hW : Below w.heap.size w (w.alloc (.cells #[.int .i64 ge, .slice A gp.length c] 26)) := (Below.refl _ _).alloc (Nat.le_refl _) _; have hb0 : Blk (w.alloc (.cells #[.int .i64 ge, .slice A gp.length c] 26)) w.heap.size 26 #[.int .i64 ge, .slice A gp.length c] := Blk.new _ _ _; replace h0 := h0.now hW; replace h1 := h1.now hW; generalize (w.alloc (.cells #[.int .i64 ge, .slice A gp.length c] 26)) = W at *
  refine (impl_IsEventGraph _ _ _ _ h0).mono ?_
  rintro e w1 ⟨rfl, hB⟩
  replace hW := hW.trans (hB.mono hW.size); replace h0 := h0.now hB; replace h1 := h1.now hB; replace hb0 := hb0.now hB
  obtain ⟨k0, k1⟩ := hb0.c2
  clear hB
  cases hg : okGraph ge gp
  · have hE : Hid (enF ge gp m = ([], 1)) := by show _ = _; simp [enF, hg]
    clear hg
    go_wp2
    go_ret2
    exact RetOwnI.of hE.out ⟨_, rfl, Own.nil, hW⟩
  · obtain ⟨hge1, hge2⟩ := okGraph_ev hg
    obtain ⟨n, rfl⟩ := Int.eq_ofNat_of_zero_le (show 0 ≤ ge by omega)
    have hg' := Lib.hid hg
    clear hg
    go_wp2_with fail
    refine (impl_isMarking _ _ _ _ _ _ h0 h1).mono ?_
    rintro e w2 ⟨rfl, hB⟩
    replace hW := hW.trans (hB.mono hW.size); replace h0 := h0.now hB; replace h1 := h1.now hB; replace hb0 := hb0.now hB
    obtain ⟨k0, k1⟩ := hb0.c2
    clear hB
    cases hm : okMarking gp m
    · have hE : Hid (enF n gp m = ([], 2)) := by show _ = _; simp [enF, hg'.out, hm]
      clear hm
      go_wp2
      go_ret2
      exact RetOwnI.of hE.out ⟨_, rfl, Own.nil, hW⟩
    · have hE : Hid (enF n gp m = (enL gp m n, 0)) := by show _ = _; simp [enF, hg'.out, hm]
      have hl := Lib.hid (okMarking_len hm)
      clear hm
      go_wp2_with fail
      with_reducible refine (impl_enabledIn _ _ _ _ _ _ h0 h1 hl.out (by omega)).mono ?_
      rintro e w3 ⟨x, rfl, hO, hB⟩
      go_wp2
      go_ret2
      exact RetOwnI.of hE.out ⟨_, rfl, hO.rebase hW.size, hW.trans (hB.mono hW.size)⟩
set_option maxHeartbeats 2000000 in
set_option maxRecDepth 100000 in
theorem spec_l17Enabled (v : Value) (ge : Int) (gp : List Place) (u : Value) (m : List Int) (ev : Int) (w : World) (h0 : Lst Place.cells 4 w w.heap.size v gp) (h1 : Lst intCell 1 w w.heap.size u m) (hlen : m.length = gp.length) (hpos : ∀ x ∈ m, 0 ≤ x) :
    Calls Try.prog 124 #[.agg #[.int .i64 ge, v], u, .int .i64 ev] w fun r w' => r = .returned (.bool (enB gp m ev)) ∧ Below w.heap.size w w' := by
  obtain ⟨A, c, rfl⟩ := h0.shape
  obtain ⟨C, d, rfl⟩ := h1.shape
  have hl := h0.len_le
  have hlen1 : m.length ≤ gp.length := by omega
  have hlen2 : gp.length ≤ m.length := by omega
  have hP := Lib.hid hpos
  clear hlen hpos
  go_enter Try.func124, Try.ntmps124
  go_wp2
  have hW : Below w.heap.size w (w.alloc (.cells #[.int .i64 ge, .slice A gp.length c] 26)) := (Below.refl _ _).alloc (Nat.le_refl _) _; have hb0 : Blk (w.alloc (.cells #[.int .i64 ge, .slice A gp.length c] 26)) w.heap.size 26 #[.int .i64 ge, .slice A gp.length c] := Blk.new _ _ _; replace h0 := h0.now hW; replace h1 := h1.now hW; generalize (w.alloc (.cells #[.int .i64 ge, .slice A gp.length c] 26)) = W at *
  go_loopw [7] (fun i wr => ∃ k : Nat, k ≤ gp.length ∧ i = .int .i64 k ∧ Hid (enK gp m ev k = true) ∧ Below W.heap.size W wr) (fun i _ => gp.length - (intOf i).toNat)
  case atStart => exact ⟨0, Nat.zero_le _, rfl, rfl, Below.refl _ _⟩
  case round =>
    obtain ⟨k, hk, rfl, hA, hB⟩ := hrel
    obtain ⟨k0, k1⟩ := (hb0.now hB).c2
    by_cases hlt : k < gp.length
    · have hlt3 : k < m.length := by omega
      obtain ⟨b, off, hb1, hb, d0, d1, d2, d3⟩ := places_at (h0.now hB) k hlt
      obtain ⟨b2, off2, hb2, hb3, e0⟩ := ints_at (h1.now hB) k hlt3
      cases hb1
      cases hb2
      have hS := Lib.hid (enK_succ gp m ev k hlt hlt3)
      have hp0 := hP.out m[k] (List.getElem_mem hlt3)
      by_cases hd : gp[k].dst = ev
      · have hd1 : (gp[k].dst == ev) = true := by simp [hd]
        by_cases hz : m[k] = 0
        · have hz1 : (m[k] == 0) = true := by simp [hz]
          have hF : Hid (enB gp m ev = false) := enK_false gp m ev k _ hlt hlt3 hlt hd (by omega)
          clear hd hz
          go_wp2
          go_ret
          exact ⟨ret_bool hF.out.symm, hW.trans (hB.mono hW.size)⟩
        · have hz1 : (m[k] == 0) = false := by simpa using hz
          have hS' : Hid (enK gp m ev (k + 1) = true) := by show _ = _; rw [hS.out, hA.out]; simp; omega
          clear hd hz
          go_wp2
          go_roundw
          case rel => exact ⟨k + 1, hlt, by go_num, hS', hB⟩
          case measure => simp [intOf]; omega
      · have hd1 : (gp[k].dst == ev) = false := by simpa using hd
        have hS' : Hid (enK gp m ev (k + 1) = true) := by show _ = _; rw [hS.out, hA.out]; simp [hd]
        clear hd
        go_wp2
        go_roundw
        case rel => exact ⟨k + 1, hlt, by go_num, hS', hB⟩
        case measure => simp [intOf]; omega
    · obtain rfl : k = gp.length := by omega
      go_wp2
      go_ret
      exact ⟨ret_bool hA.out.symm, hW.trans (hB.mono hW.size)⟩
set_option maxHeartbeats 2000000 in
set_option maxRecDepth 100000 in
theorem spec_EnabledIn (v : Value) (ge : Int) (gp : List Place) (u : Value) (m : List Int) (w : World) (h0 : Lst Place.cells 4 w w.heap.size v gp) (h1 : Lst intCell 1 w w.heap.size u m) :
    Calls Try.prog 34 #[.agg #[.int .i64 ge, v], u] w (RetOwnI intCell 1 2 w (enF ge gp m).1 (enF ge gp m).2) := by
  obtain ⟨A, c, rfl⟩ := h0.shape
  obtain ⟨C, d, rfl⟩ := h1.shape
  go_enter Try.func34, Try.ntmps34
  go_wp2_with fail
  have hW : Below w.heap.size w (w.alloc (.cells #[.int .i64 ge, .slice A gp.length c] 26)) := (Below.refl _ _).alloc (Nat.le_refl _) _; have hb0 : Blk (w.alloc (.cells #[.int .i64 ge, .slice A gp.length c] 26)) w.heap.size 26 #[.int .i64 ge, .slice A gp.length c] := Blk.new _ _ _; replace h0 := h0.now hW; replace h1 := h1.now hW; generalize (w.alloc (.cells #[.int .i64 ge, .slice A gp.length c] 26)) = W at *
  refine (spec_l17Code _ _ _ _ _ _ h0 h1).mono ?_
  rintro e w1 ⟨rfl, hB⟩
  replace hW := hW.trans (hB.mono hW.size); replace h0 := h0.now hB; replace h1 := h1.now hB; replace hb0 := hb0.now hB
  obtain ⟨k0, k1⟩ := hb0.c2
  clear hB
  cases hg : okGraph ge gp
  · have hE : Hid (enF ge gp m = ([], 1)) := by show _ = _; simp [enF, hg]
    clear hg
    simp only [if_true]
    go_wp2
    go_ret2
    exact RetOwnI.of hE.out ⟨_, rfl, Own.nil, hW⟩
  · obtain ⟨hge1, hge2⟩ := okGraph_ev hg
    obtain ⟨n, rfl⟩ := Int.eq_ofNat_of_zero_le (show 0 ≤ ge by omega)
    have hg' := Lib.hid hg
    clear hg
    cases hm : okMarking gp m
    · have hE : Hid (enF n gp m = ([], 2)) := by show _ = _; simp [enF, hg'.out, hm]
      clear hm
      simp only [Bool.true_eq_false, if_false, if_true]
      go_wp2
      go_ret2
      exact RetOwnI.of hE.out ⟨_, rfl, Own.nil, hW⟩
    · have hE : Hid (enF n gp m = (enL gp m n, 0)) := by show _ = _; simp [enF, hg'.out, hm]
      have hl := Lib.hid (okMarking_len hm)
      have hP := okMarking_pos hm
      have hP := Lib.hid hP
      clear hm
      simp only [Bool.true_eq_false, if_false]
      go_wp2
      go_loopw [7, 8] (fun o i wr => ∃ k : Nat, k ≤ n ∧ i = .int .i64 k ∧ Own intCell 1 2 wr w1.heap.size o (enL gp m k) ∧ Below w1.heap.size w1 wr) (fun _ i _ => n - (intOf i).toNat)
      case atStart => exact ⟨0, Nat.zero_le _, rfl, own_new0 _ _ _ _ _ (Nat.le_refl _), (Below.refl _ _).alloc (Nat.le_refl _) _⟩
      case round =>
        obtain ⟨k, hk, rfl, hO, hB⟩ := hrel
        obtain ⟨k0, k1⟩ := (hb0.now hB).c2
        have hs := hB.size
        have hT := Lib.hid (enL_succ gp m k)
        by_cases hlt : k < n
        · go_wp2_with fail
          refine (spec_l17Enabled _ _ _ _ _ _ _ (h0.now hB) (h1.now hB) hl.out hP.out).mono ?_
          rintro e w2 ⟨rfl, hB2⟩
          have hBt := hB.trans (hB2.mono hs)
          cases hen : enB gp m k
          · have hT' : Hid (enL gp m (k + 1) = enL gp m k) := by show _ = _; rw [hT.out, hen]; simp
            clear hen
            go_wp2
            go_roundw
            case rel => exact ⟨k + 1, hlt, by go_num, by rw [hT'.out]; exact hO.now hB2, hBt⟩
            case measure => simp [intOf]; omega
          · have hT' : Hid (enL gp m (k + 1) = enL gp m k ++ [(k : Int)]) := by show _ = _; rw [hT.out, hen]; simp
            clear hen
            have hlen : (enL gp m k).length + [(k : Int)].length ≤ 1099511627776 := by have := enL_len gp m k; simp at this ⊢; omega
            have hO2 := hO.now hB2
            go_wp2_with (at_builtin; refine wpList_append_lst rfl _ _ 38 rfl intCell 1 intCell_one (by omega) w1.heap.size 2 _ 8 Try.underlying38 info_i64 rfl _ _ rfl (hO2.alloc _) _ _ _ _ [(k : Int)] rfl (lst_new1 _ _ intCell_len _ _ _ _ rfl _ (by simp)) hlen (by omega) (Nat.le_trans hBt.size (by simp <;> omega)) ?_; intro v' w3 hO1 hG1 hD1)
            go_roundw
            case rel => exact ⟨k + 1, hlt, by go_num, by rw [hT'.out]; exact hO1, below_app (hBt.alloc hBt.size _) (Nat.le_trans hBt.size (by simp)) hG1 (hO2.alloc _) (Nat.le_refl _)⟩
            case measure => simp [intOf]; omega
        · obtain rfl : k = n := by omega
          go_wp2
          go_ret2
          exact RetOwnI.of hE.out ⟨_, rfl, hO.rebase hW.size, hW.trans (hB.mono hW.size)⟩
end Go.Proofs.Ytkbhbmoogkjafaa
