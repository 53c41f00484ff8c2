/-
  The reference's walk of IsCircuit.
-/
import Derived.Test.YtkbhbmoogkjafaaCircuit
namespace Go.Proofs.Ytkbhbmoogkjafaa
open Go.RowKit
set_option linter.unusedVariables false
set_option linter.unusedSimpArgs false

set_option maxHeartbeats 2000000 in
set_option maxRecDepth 100000 in
theorem spec_l15Circuit (v : Value) (ge : Int) (gp : List Place) (u : Value) (m : List Int) (w : World) (h0 : Lst Place.cells 4 w w.heap.size v gp) (h1 : Lst intCell 1 w w.heap.size u m) (hmb : m.length ≤ 1048576) :
    Calls Try.prog 129 #[.agg #[.int .i64 ge, v], u] w fun r w' => r = .returned (.bool (circuitB gp m)) ∧ Below w.heap.size w w' := by
  obtain ⟨A, c, rfl⟩ := h0.shape
  obtain ⟨C, d, rfl⟩ := h1.shape
  have hl := h0.len_le
  have hm := h1.len_le
  have hI := Lib.hid (circuit_iff gp m)
  go_enter Try.func129, Try.ntmps129
  go_wp2
  have hW : Below w.heap.size w (w.alloc (.cells #[.int .i64 ge, .slice A gp.length c] 26)) := (Below.refl _ _).alloc (Nat.le_refl _) _
  have k1 : (w.alloc (.cells #[.int .i64 ge, .slice A gp.length c] 26)).cell? ⟨w.heap.size, 1, none⟩ = some (.slice A gp.length c) := by simp
  replace h0 := h0.alloc (.cells #[.int .i64 ge, .slice A gp.length c] 26)
  replace h1 := h1.alloc (.cells #[.int .i64 ge, .slice A gp.length c] 26)
  have hS : w.heap.size + 1 = (w.alloc (.cells #[.int .i64 ge, .slice A gp.length c] 26)).heap.size := by simp
  try rw [hS]
  generalize (w.alloc (.cells #[.int .i64 ge, .slice A gp.length c] 26)) = W at *
  have hN0 := own_new0 intCell 1 W 2 W.heap.size (Nat.le_refl _)
  have hB0 : Below W.heap.size W (W.alloc (.cells #[] 2)) := (Below.refl _ _).alloc (Nat.le_refl _) _
  go_loopw [6, 7, 8] (fun s i _ wr => ∃ k : Nat, k ≤ m.length ∧ i = .int .i64 k ∧ Own intCell 1 2 wr W.heap.size s (srcs gp m k) ∧ Below W.heap.size W wr ∧ Hid (∀ j (hj : j < m.length), j < k → inB m[j] 0 ((gp.length : Int) - 1) = true) ∧ Hid (∀ j, j < k → ∀ i, i < j → (plc gp m i).src ≠ (plc gp m j).src)) (fun _ i _ _ => m.length - (intOf i).toNat)
  case atStart => exact ⟨0, Nat.zero_le _, rfl, hN0, hB0, fun j hl hj => absurd hj (by omega), fun j hj => absurd hj (by omega)⟩
  case round =>
    clear hN0 hB0
    obtain ⟨k, hk, rfl, hO, hB, hc1, hc2⟩ := hrel
    have hBw : Below w.heap.size w wr := hW.trans (hB.mono hW.size)
    by_cases hlt : k < m.length
    · have e1 := cell_keep k1 hB
      obtain ⟨b2, off2, hb2, hb3, e0⟩ := ints_at h1 k hlt
      cases hb2
      replace e0 := cell_keep e0 hB
      cases hin : inB m[k] 0 ((gp.length : Int) - 1)
      · have hF : Hid (circuitB gp m = false) := circuit_not fun h => by
          have := (hI.out.1 h).2.1
          rw [allB_false m k hlt _ _ hin] at this
          exact Bool.noConfusion this
        go_wp2_with fail
        go_still_tail 8, (by kernel_rfl)
        change wpList _ _ _ _ _ wr.drew
        go_wp2_with (go_at_call 108; refine (spec_l01In _ _ _ _).mono ?_; rintro e w' ⟨rfl, rfl⟩)
        go_ret
        exact ⟨ret_bool hF.out.symm, (by repeat (first | exact Below.refl _ _ | refine Below.drew ?_ | refine Below.alloc ?_ (by first | omega | (simp; done) | (simp; omega) | (have q0 := hBw.size; simp at q0; omega) | (have q0 := hBw.size; simp at q0 ⊢; omega)) _ | refine Below.setCell ?_ (by first | omega | (simp; done) | (simp; omega) | (have q0 := hBw.size; simp at q0; omega) | (have q0 := hBw.size; simp at q0 ⊢; omega)) _ | refine Below.trans ?_ (Below.mono hBw (by first | omega | (simp; done) | (simp; omega) | (have q0 := hBw.size; simp at q0; omega) | (have q0 := hBw.size; simp at q0 ⊢; omega)))))⟩
      · have hin2 : 0 ≤ m[k] ∧ m[k] ≤ (gp.length : Int) - 1 := by simpa [inB] using hin
        obtain ⟨q, hq1⟩ := Int.eq_ofNat_of_zero_le hin2.1
        have hql : q < gp.length := by omega
        have hq3 := Lib.hid (plc_at hlt hq1 hql)
        have hin' := Lib.hid hin
        rw [hq1] at e0 hin
        have hq1' := Lib.hid hq1
        clear hq1 hin2
        obtain ⟨b, off, hb1, hb, d0, d1, d2, d3⟩ := places_at h0 q hql
        cases hb1
        replace d0 := cell_keep (cell_keep d0 hB) ((Below.refl _ _).drew)
        replace d1 := cell_keep (cell_keep d1 hB) ((Below.refl _ _).drew)
        replace d2 := cell_keep (cell_keep d2 hB) ((Below.refl _ _).drew)
        replace d3 := cell_keep (cell_keep d3 hB) ((Below.refl _ _).drew)
        have e0' := cell_keep e0 ((Below.refl _ _).drew)
        have e1' := cell_keep e1 ((Below.refl _ _).drew)
        go_wp2_with fail
        go_still_tail 8, (by kernel_rfl)
        change wpList _ _ _ _ _ wr.drew
        go_wp2_with (go_at_call 108; refine (spec_l01In _ _ _ _).mono ?_; rintro e w' ⟨rfl, rfl⟩)
        have hOD := hO.now (Below.refl _ _).drew
        have hBD := hB.drew
        have hBwD := hBw.drew
        clear hO hB e0 e1 hBw
        generalize wr.drew = V at *
        have hsz := hBD.size
        have z1 := World.block_lt_of_cell? V _ e0'
        have z2 := World.block_lt_of_cell? V _ d0
        have z3 := World.block_lt_of_cell? V _ e1'
        simp only at z1 z2 z3
        cases hh : hasI (srcs gp m k) gp[q].src
        · go_region
          go_wp2_with fail
          have pO := (hOD.alloc (.cells #[.int .i64 gp[q].src, .int .i64 gp[q].dst, .int .i64 gp[q].delay, .int .i64 gp[q].tokens] 45)).now (Below.refl _ _).drew
          have pB := (hBD.alloc hsz (.cells #[.int .i64 gp[q].src, .int .i64 gp[q].dst, .int .i64 gp[q].delay, .int .i64 gp[q].tokens] 45)).drew
          have hn1 : Hid (∀ j (hj : j < m.length), j < k + 1 → inB m[j] 0 ((gp.length : Int) - 1) = true) := by
            intro j hj hjk
            rcases Nat.lt_or_ge j k with h | h
            · exact hc1.out j hj h
            · obtain rfl : j = k := by omega
              exact hin'.out
          have hn2 : Hid (∀ j, j < k + 1 → ∀ i, i < j → (plc gp m i).src ≠ (plc gp m j).src) := by
            intro j hj i hi
            rcases Nat.lt_or_ge j k with h | h
            · exact hc2.out j h i hi
            · obtain rfl : j = k := by omega
              rw [hq3.out]
              exact srcs_hasnt hh i hi
          have hn4 : Hid (srcs gp m k ++ [gp[q].src] = srcs gp m (k + 1)) := by show _ = _; rw [srcs_snoc, hq3.out]
          have hlen : (srcs gp m k).length + [gp[q].src].length ≤ 1099511627776 := by rw [srcs_len]; simp; omega
          refine (spec_l01Has _ _ _ _ pO.lst).mono ?_
          rintro e w2 ⟨rfl, rfl⟩
          have p0 : (V.alloc (.cells #[.int .i64 gp[q].src, .int .i64 gp[q].dst, .int .i64 gp[q].delay, .int .i64 gp[q].tokens] 45)).drew.cell? ⟨V.heap.size, 0, none⟩ = some (.int .i64 gp[q].src) := by simp
          clear d0 d1 d2 d3 e0' e1' hOD hBD hBwD
          generalize (V.alloc (.cells #[.int .i64 gp[q].src, .int .i64 gp[q].dst, .int .i64 gp[q].delay, .int .i64 gp[q].tokens] 45)).drew = U at *
          go_wp2_with (at_builtin; refine wpList_append_lst rfl _ _ 38 rfl intCell 1 intCell_one (by omega) W.heap.size 2 _ 8 Try.underlying38 info_i64 rfl _ _ rfl (pO.alloc _) _ _ _ _ [gp[q].src] rfl (lst_new1 _ _ intCell_len _ _ _ _ rfl _ (by simp)) hlen (by omega) (Nat.le_trans pB.size (by simp <;> omega)) ?_; intro v' w1 hO1 hG1 hD1)
          go_roundw
          case rel =>
            rw [hn4.out] at hO1
            have hB1 := below_app (pB.alloc pB.size _) (Nat.le_trans pB.size (by simp)) hG1 (pO.alloc _) (Nat.le_refl _)
            first | exact ⟨k + 1, hlt, by go_num, hO1, hB1, hn1, hn2⟩ | ((repeat apply Exists.intro); exact ⟨⟨k + 1, hlt, by go_num, hO1, hB1, hn1, hn2⟩, rfl⟩)
          case measure => simp [intOf]; omega
        · have hF : Hid (circuitB gp m = false) := circuit_not fun h => by
            obtain ⟨j, hj, e⟩ := (srcs_has gp m k _).1 hh
            exact (hI.out.1 h).2.2.1 k hlt j hj (by rw [e, hq3.out])
          go_region
          go_wp2_with (go_at_call 201; refine (spec_l01Has _ _ _ _ ((hOD.now (Below.refl _ _).drew).alloc _).lst).mono ?_; rintro e w2 ⟨rfl, rfl⟩)
          go_ret
          exact ⟨ret_bool hF.out.symm, (by repeat (first | exact Below.refl _ _ | refine Below.drew ?_ | refine Below.alloc ?_ (by first | omega | (simp; done) | (simp; omega) | (have q0 := hBwD.size; simp at q0; omega) | (have q0 := hBwD.size; simp at q0 ⊢; omega)) _ | refine Below.setCell ?_ (by first | omega | (simp; done) | (simp; omega) | (have q0 := hBwD.size; simp at q0; omega) | (have q0 := hBwD.size; simp at q0 ⊢; omega)) _ | refine Below.trans ?_ (Below.mono hBwD (by first | omega | (simp; done) | (simp; omega) | (have q0 := hBwD.size; simp at q0; omega) | (have q0 := hBwD.size; simp at q0 ⊢; omega)))))⟩
    · obtain rfl : k = m.length := by omega
      have hA : Hid (allB m 0 ((gp.length : Int) - 1) = true) := by
        show _ = _
        unfold allB
        rw [List.all_eq_true]
        intro x hx
        obtain ⟨j, hj, rfl⟩ := List.mem_iff_getElem.1 hx
        exact hc1.out j hj hj
      have hP := Lib.hid (fun k hk => allB_place hA.out k hk)
      go_wp2
      go_loopw [9] (fun i wr => ∃ k : Nat, k ≤ m.length ∧ i = .int .i64 k ∧ Below W.heap.size W wr ∧ Hid (∀ j, j < k → (plc gp m j).dst = (plc gp m ((j + 1) % m.length)).src)) (fun i _ => m.length - (intOf i).toNat)
      case atStart => exact ⟨0, Nat.zero_le _, rfl, hB, fun j hj => absurd hj (by omega)⟩
      case round =>
        clear hO hB hBw
        rename_i wr0
        obtain ⟨k, hk, rfl, hB, hc3⟩ := hrel
        have hBw : Below w.heap.size w wr := hW.trans (hB.mono hW.size)
        by_cases hlt : k < m.length
        · have hlt2 : (k + 1) % m.length < m.length := Nat.mod_lt _ (by omega)
          obtain ⟨j0, hj0⟩ : ∃ j0, (k + 1) % m.length = j0 := ⟨_, rfl⟩
          rw [hj0] at hlt2
          obtain ⟨q, hq1, hql, hq2⟩ := hP.out k hlt
          obtain ⟨r, hr1, hrl, hr2⟩ := hP.out j0 hlt2
          have hq3 := Lib.hid (hq2 hql)
          have hr3 := Lib.hid (hr2 hrl)
          clear hq2 hr2
          have e1 := cell_keep k1 hB
          obtain ⟨b, off, hb1, hb, d0, d1, d2, d3⟩ := places_at h0 q hql
          cases hb1
          obtain ⟨_, _, hb1, hb', f0, f1, f2, f3⟩ := places_at h0 r hrl
          cases hb1
          obtain ⟨b2, off2, hb2, hb3, e0⟩ := ints_at h1 k hlt
          cases hb2
          obtain ⟨_, _, hb2, hb3', g0⟩ := ints_at h1 j0 hlt2
          cases hb2
          rw [hq1] at e0
          rw [hr1] at g0
          replace e0 := cell_keep e0 hB
          replace g0 := cell_keep g0 hB
          replace d1 := cell_keep d1 hB
          replace f0 := cell_keep f0 hB
          have hq1' := Lib.hid hq1
          have hr1' := Lib.hid hr1
          clear hq1 hr1 d0 d2 d3 f1 f2 f3
          have hrem2 : ((k : Int) + 1) % (m.length : Int) = (j0 : Int) := by rw [← hj0]; simp
          have hrem : Int.tmod ((k : Int) + 1) (m.length : Int) = (j0 : Int) := by
            rw [Int.tmod_eq_emod_of_nonneg (by omega)]; exact hrem2
          have hm1 : (m.length : Int) ≠ 0 := by omega
          have hm2 : ((m.length : Int) == 0) = false := by simp; intro h; subst h; simp at hlt
          have hm3 : m.length ≠ 0 := by omega
          have hm4 : m ≠ [] := by intro h; subst h; simp at hlt
          have hm5 : (1 : Int) ≤ (m.length : Int) := by omega
          have hk0 : (0 : Int) ≤ (k : Int) + 1 := by omega
          by_cases heq : gp[q].dst = gp[r].src
          · have hqe : (gp[q].dst != gp[r].src) = false := by simp [heq]
            have hn3 : Hid (∀ j, j < k + 1 → (plc gp m j).dst = (plc gp m ((j + 1) % m.length)).src) := by
              intro j hj
              rcases Nat.lt_or_ge j k with h | h
              · exact hc3.out j h
              · obtain rfl : j = k := by omega
                rw [hj0, hq3.out, hr3.out]
                exact heq
            clear heq
            go_wp2_with fail
            go_quiet (fail)
            go_wp2
            go_roundw
            case rel => exact ⟨k + 1, hlt, by go_num, below_drewN hB _, hn3⟩
            case measure => simp [intOf]; omega
          · have hqe : (gp[q].dst != gp[r].src) = true := by simp [heq]
            have hF : Hid (circuitB gp m = false) := circuit_not fun h => by
              have := (hI.out.1 h).2.2.2 k hlt
              rw [hj0, hq3.out, hr3.out] at this
              exact heq this
            clear heq
            go_wp2_with fail
            go_quiet (fail)
            go_wp2
            go_ret
            exact ⟨ret_bool hF.out.symm, below_drewN hBw _⟩
        · obtain rfl : k = m.length := by omega
          by_cases hz : 0 < m.length
          · have hz' : decide ((0 : Int) < (m.length : Int)) = true := decide_eq_true (by omega)
            have hT : Hid (circuitB gp m = true) := hI.out.2 ⟨hz, hA.out, fun k hk j hj => hc2.out k hk j hj, fun k hk => hc3.out k hk⟩
            go_wp2
            go_ret
            exact ⟨ret_bool hT.out.symm, (by repeat (first | exact Below.refl _ _ | refine Below.drew ?_ | refine Below.alloc ?_ (by first | omega | (simp; done) | (simp; omega) | (have q0 := hBw.size; simp at q0; omega) | (have q0 := hBw.size; simp at q0 ⊢; omega)) _ | refine Below.setCell ?_ (by first | omega | (simp; done) | (simp; omega) | (have q0 := hBw.size; simp at q0; omega) | (have q0 := hBw.size; simp at q0 ⊢; omega)) _ | refine Below.trans ?_ (Below.mono hBw (by first | omega | (simp; done) | (simp; omega) | (have q0 := hBw.size; simp at q0; omega) | (have q0 := hBw.size; simp at q0 ⊢; omega)))))⟩
          · have hz' : decide ((0 : Int) < (m.length : Int)) = false := decide_eq_false (by omega)
            have hF : Hid (circuitB gp m = false) := circuit_not fun h => absurd (hI.out.1 h).1 hz
            go_wp2
            go_ret
            exact ⟨ret_bool hF.out.symm, (by repeat (first | exact Below.refl _ _ | refine Below.drew ?_ | refine Below.alloc ?_ (by first | omega | (simp; done) | (simp; omega) | (have q0 := hBw.size; simp at q0; omega) | (have q0 := hBw.size; simp at q0 ⊢; omega)) _ | refine Below.setCell ?_ (by first | omega | (simp; done) | (simp; omega) | (have q0 := hBw.size; simp at q0; omega) | (have q0 := hBw.size; simp at q0 ⊢; omega)) _ | refine Below.trans ?_ (Below.mono hBw (by first | omega | (simp; done) | (simp; omega) | (have q0 := hBw.size; simp at q0; omega) | (have q0 := hBw.size; simp at q0 ⊢; omega)))))⟩
set_option maxHeartbeats 400000 in
set_option maxRecDepth 100000 in
theorem spec_IsCircuit (v : Value) (ge : Int) (gp : List Place) (u : Value) (m : List Int) (w : World) (h0 : Lst Place.cells 4 w w.heap.size v gp) (h1 : Lst intCell 1 w w.heap.size u m) (hmb : m.length ≤ 1048576) :
    Calls Try.prog 54 #[.agg #[.int .i64 ge, v], u] w fun r w' => r = .returned (.bool (okGraph ge gp && circuitB gp m)) ∧ Below w.heap.size w w' := by
  cases hq : okGraph ge gp
  · go_enter Try.func54, Try.ntmps54
    go_wp2_with (go_at_call 123; refine (spec_IsEventGraph _ _ _ _ (h0.alloc _)).mono ?_; rintro e w1 ⟨rfl, hB⟩)
    go_ret
    exact ⟨rfl, (by repeat (first | exact Below.refl _ _ | refine Below.drew ?_ | refine Below.alloc ?_ (by first | omega | (simp; done) | (simp; omega) | (have q0 := hB.size; simp at q0; omega) | (have q0 := hB.size; simp at q0 ⊢; omega)) _ | refine Below.setCell ?_ (by first | omega | (simp; done) | (simp; omega) | (have q0 := hB.size; simp at q0; omega) | (have q0 := hB.size; simp at q0 ⊢; omega)) _ | refine Below.trans ?_ (Below.mono hB (by first | omega | (simp; done) | (simp; omega) | (have q0 := hB.size; simp at q0; omega) | (have q0 := hB.size; simp at q0 ⊢; omega)))))⟩
  · go_enter Try.func54, Try.ntmps54
    go_wp2_with fail
    refine (spec_IsEventGraph _ _ _ _ (h0.alloc _)).mono ?_
    rintro e w1 ⟨rfl, hB⟩
    obtain ⟨hc1, hf1⟩ := bcell hB
    have hs1 := hB.size
    go_wp2_with (go_at_call 129; refine (spec_l15Circuit _ _ _ _ _ _ ((h0.alloc _).now hB) ((h1.alloc _).now hB) hmb).mono ?_; rintro e w2 ⟨rfl, hB2⟩)
    go_ret
    exact ⟨rfl, (by repeat (first | exact Below.refl _ _ | refine Below.drew ?_ | refine Below.alloc ?_ (by first | omega | (simp; done) | (simp; omega) | (have q0 := hB2.size; have q1 := hB.size; simp at q0 q1; omega) | (have q0 := hB2.size; have q1 := hB.size; simp at q0 q1 ⊢; omega)) _ | refine Below.setCell ?_ (by first | omega | (simp; done) | (simp; omega) | (have q0 := hB2.size; have q1 := hB.size; simp at q0 q1; omega) | (have q0 := hB2.size; have q1 := hB.size; simp at q0 q1 ⊢; omega)) _ | refine Below.trans ?_ (Below.mono hB2 (by first | omega | (simp; done) | (simp; omega) | (have q0 := hB2.size; have q1 := hB.size; simp at q0 q1; omega) | (have q0 := hB2.size; have q1 := hB.size; simp at q0 q1 ⊢; omega))) | refine Below.trans ?_ (Below.mono hB (by first | omega | (simp; done) | (simp; omega) | (have q0 := hB2.size; have q1 := hB.size; simp at q0 q1; omega) | (have q0 := hB2.size; have q1 := hB.size; simp at q0 q1 ⊢; omega)))))⟩
end Go.Proofs.Ytkbhbmoogkjafaa
