/-
  What IsCircuit decides, and the program's walk of it.
-/
import Derived.Test.YtkbhbmoogkjafaaInts
namespace Go.Proofs.Ytkbhbmoogkjafaa
open Go.RowKit
set_option linter.unusedVariables false
set_option linter.unusedSimpArgs false

/-- The place that the k-th number of a list names. -/
def plc (gp : List Place) (m : List Int) (k : Nat) : Place := gp.getD (m.getD k 0).toNat ⟨0, 0, 0, 0⟩
/-- The list is a circuit: not empty, all places there, no event left twice, each place ends where the next begins. -/
def circuitB (gp : List Place) (m : List Int) : Bool :=
  decide (0 < m.length) && allB m 0 ((gp.length : Int) - 1)
    && ((List.range m.length).all fun k => (List.range k).all fun j => decide ((plc gp m j).src ≠ (plc gp m k).src))
    && (List.range m.length).all fun k => decide ((plc gp m k).dst = (plc gp m ((k + 1) % m.length)).src)
theorem circuit_iff (gp : List Place) (m : List Int) : circuitB gp m = true ↔ 0 < m.length ∧ allB m 0 ((gp.length : Int) - 1) = true
    ∧ (∀ k, k < m.length → ∀ j, j < k → (plc gp m j).src ≠ (plc gp m k).src) ∧ (∀ k, k < m.length → (plc gp m k).dst = (plc gp m ((k + 1) % m.length)).src) := by
  unfold circuitB
  simp only [Bool.and_eq_true, decide_eq_true_eq, List.all_eq_true, List.mem_range, and_assoc]
theorem circuit_not {gp : List Place} {m : List Int} (h : circuitB gp m = true → False) : circuitB gp m = false := by
  cases e : circuitB gp m
  · rfl
  · exact (h e).elim
theorem plc_at {gp : List Place} {m : List Int} {k q : Nat} (hk : k < m.length) (hq : m[k] = (q : Int)) (hl : q < gp.length) : plc gp m k = gp[q] := by
  unfold plc
  rw [List.getD_eq_getElem?_getD, List.getD_eq_getElem?_getD, List.getElem?_eq_getElem hk, Option.getD_some, hq, Int.toNat_natCast, List.getElem?_eq_getElem hl, Option.getD_some]
theorem allB_at {m : List Int} {lo hi : Int} (h : allB m lo hi = true) (k : Nat) (hk : k < m.length) : lo ≤ m[k] ∧ m[k] ≤ hi := by
  unfold allB at h
  rw [List.all_eq_true] at h
  have := h _ (List.getElem_mem hk)
  simpa [inB] using this
theorem allB_place {gp : List Place} {m : List Int} (h : allB m 0 ((gp.length : Int) - 1) = true) (k : Nat) (hk : k < m.length) : ∃ q : Nat, m[k] = (q : Int) ∧ q < gp.length ∧ ∀ hl : q < gp.length, plc gp m k = gp[q] := by
  obtain ⟨h0, h1⟩ := allB_at h k hk
  obtain ⟨q, hq⟩ := Int.eq_ofNat_of_zero_le h0
  exact ⟨q, hq, by omega, fun hl => plc_at hk hq hl⟩
/-- The index before: round the list's end. -/
def prevK (n k : Nat) : Nat := if k = 0 then n - 1 else k - 1
theorem prevK_lt {n k : Nat} (h : k < n) : prevK n k < n := by unfold prevK; split <;> omega
theorem prevK_next {n k : Nat} (h : k < n) : (prevK n k + 1) % n = k := by
  unfold prevK
  split
  · rw [show n - 1 + 1 = n by omega, Nat.mod_self]; omega
  · rw [show k - 1 + 1 = k by omega, Nat.mod_eq_of_lt h]
theorem next_prevK {n k : Nat} (h : k < n) : (k + 1) % n < n ∧ prevK n ((k + 1) % n) = k := by
  rcases Nat.lt_or_ge (k + 1) n with h1 | h1
  · rw [Nat.mod_eq_of_lt h1]; exact ⟨h1, by simp [prevK]⟩
  · have e : k + 1 = n := by omega
    rw [e, Nat.mod_self]
    exact ⟨by omega, by simp [prevK]; omega⟩
def srcs (gp : List Place) (m : List Int) (k : Nat) : List Int := (List.range k).map fun j => (plc gp m j).src
theorem srcs_len (gp : List Place) (m : List Int) (k : Nat) : (srcs gp m k).length = k := by simp [srcs]
theorem srcs_snoc (gp : List Place) (m : List Int) (k : Nat) : srcs gp m (k + 1) = srcs gp m k ++ [(plc gp m k).src] := by simp [srcs, List.range_succ]
theorem srcs_has (gp : List Place) (m : List Int) (k : Nat) (x : Int) : hasI (srcs gp m k) x = true ↔ ∃ j, j < k ∧ (plc gp m j).src = x := by
  rw [hasI_iff]; simp [srcs]
theorem srcs_hasnt {gp : List Place} {m : List Int} {k : Nat} {x : Int} (h : hasI (srcs gp m k) x = false) : ∀ j, j < k → (plc gp m j).src ≠ x := by
  intro j hj e
  have := (srcs_has gp m k x).2 ⟨j, hj, e⟩
  rw [h] at this
  exact Bool.noConfusion this

set_option maxHeartbeats 2000000 in
set_option maxRecDepth 100000 in
theorem impl_isCircuit (v : Value) (ge : Int) (gp : List Place) (u : Value) (m : List Int) (w : World) (h0 : Lst Place.cells 4 w w.heap.size v gp) (h1 : Lst intCell 1 w w.heap.size u m) (hmb : m.length ≤ 1048576) :
    Calls Try.prog 127 #[.agg #[.int .i64 ge, v], u] w fun r w' => r = .returned (.bool (circuitB gp m)) ∧ Below w.heap.size w w' := by
  obtain ⟨A, c, rfl⟩ := h0.shape
  obtain ⟨C, d, rfl⟩ := h1.shape
  have hl := h0.len_le
  have hm := h1.len_le
  have hI := Lib.hid (circuit_iff gp m)
  by_cases hz : m.length = 0
  · have hq : ((m.length : Int) == 0) = true := by simp [hz]
    have hF : Hid (circuitB gp m = false) := circuit_not fun h => by have := (hI.out.1 h).1; omega
    clear hz
    go_enter Try.func127, Try.ntmps127
    go_wp2
    go_ret
    exact ⟨ret_bool hF.out.symm, (by repeat (first | exact Below.refl _ _ | assumption | refine Below.drew ?_ | refine Below.alloc ?_ (by simp <;> omega) _ | refine Below.setCell ?_ (by simp <;> omega) _))⟩
  · have hq : ((m.length : Int) == 0) = false := by simp [hz]
    cases ha : allB m 0 ((gp.length : Int) - 1)
    · have hF : Hid (circuitB gp m = false) := circuit_not fun h => by have := (hI.out.1 h).2.1; rw [ha] at this; exact Bool.noConfusion this
      go_enter Try.func127, Try.ntmps127
      go_wp2_with (go_at_call 135; refine (impl_allWithin _ _ _ _ _ (h1.alloc _)).mono ?_; rintro e w' ⟨rfl, rfl⟩)
      go_ret
      exact ⟨ret_bool hF.out.symm, (by repeat (first | exact Below.refl _ _ | assumption | refine Below.drew ?_ | refine Below.alloc ?_ (by simp <;> omega) _ | refine Below.setCell ?_ (by simp <;> omega) _))⟩
    · have hP := Lib.hid (fun k hk => allB_place ha k hk)
      have hpos : 0 < m.length := by omega
      obtain ⟨q, hq1, hql, hq2⟩ := hP.out (m.length - 1) (by omega)
      have hat : Hid (gp[q].dst = (plc gp m (prevK m.length 0)).dst) := by show _ = _; rw [show prevK m.length 0 = m.length - 1 from rfl, hq2 hql]
      have ha' := Lib.hid ha
      clear hq2
      go_enter Try.func127, Try.ntmps127
      go_wp2_with (go_at_call 135; refine (impl_allWithin _ _ _ _ _ (h1.alloc _)).mono ?_; rintro e w' ⟨rfl, rfl⟩)
      clear ha hz hq
      have hW : Below w.heap.size w (w.alloc (.cells #[.int .i64 ge, .slice A gp.length c] 26)) := (Below.refl _ _).alloc (Nat.le_refl _) _
      have k1 : (w.alloc (.cells #[.int .i64 ge, .slice A gp.length c] 26)).cell? ⟨w.heap.size, 1, none⟩ = some (.slice A gp.length c) := by simp
      replace h0 := h0.alloc (.cells #[.int .i64 ge, .slice A gp.length c] 26)
      replace h1 := h1.alloc (.cells #[.int .i64 ge, .slice A gp.length c] 26)
      generalize (w.alloc (.cells #[.int .i64 ge, .slice A gp.length c] 26)) = W at *
      obtain ⟨b, off, hb1, hb, d0, d1, d2, d3⟩ := places_at h0 q hql
      obtain ⟨b2, off2, hb2, hb3, e0⟩ := ints_at h1 (m.length - 1) (by omega)
      cases hb1
      cases hb2
      rw [hq1] at e0
      have hi1 : ((m.length : Int) - 1) = ((m.length - 1 : Nat) : Int) := by omega
      go_quiet (fail)
      have hD : Below W.heap.size W (W.drewN nq) := below_drewN (Below.refl _ _) nq
      clear d0 d1 d2 d3 e0 hi1 hq1
      go_wp2
      go_loopw [5, 6, 8, 9, 35] (fun x s _ _ i wr => ∃ k : Nat, k ≤ m.length ∧ i = .int .i64 k ∧ x = .int .i64 (plc gp m (prevK m.length k)).dst ∧ Own intCell 1 2 wr W.heap.size s (srcs gp m k) ∧ Below W.heap.size W wr ∧ Hid (∀ j, j < k → (plc gp m (prevK m.length j)).dst = (plc gp m j).src) ∧ Hid (∀ j, j < k → ∀ i, i < j → (plc gp m i).src ≠ (plc gp m j).src)) (fun _ _ _ _ i _ => m.length - (intOf i).toNat)
      case atStart => exact ⟨0, Nat.zero_le _, rfl, by rw [hat.out], Own.nil, hD, fun j hj => absurd hj (by omega), fun j hj => absurd hj (by omega)⟩
      case round =>
        clear hD hat
        obtain ⟨k, hk, rfl, rfl, hO, hB, hc1, hc2⟩ := hrel
        have hBw : Below w.heap.size w _ := hW.trans (hB.mono hW.size)
        by_cases hlt : k < m.length
        · obtain ⟨q, hq1, hql, hq2⟩ := hP.out k hlt
          have hq3 := Lib.hid (hq2 hql)
          clear hq2
          have e1 := cell_keep k1 hB
          obtain ⟨_, _, hb1, hb, d0, d1, d2, d3⟩ := places_at h0 q hql
          obtain ⟨_, _, hb2, hb3, e0⟩ := ints_at h1 k hlt
          cases hb1
          cases hb2
          rw [hq1] at e0
          replace e0 := cell_keep e0 hB
          replace d0 := cell_keep d0 hB
          replace d1 := cell_keep d1 hB
          replace d2 := cell_keep d2 hB
          replace d3 := cell_keep d3 hB
          have hq1' := Lib.hid hq1
          clear hq1
          by_cases heq : gp[q].src = (plc gp m (prevK m.length k)).dst
          · have hqe : (gp[q].src != (plc gp m (prevK m.length k)).dst) = false := by simp [heq]
            have heq' := Lib.hid heq
            clear heq
            cases hh : hasI (srcs gp m k) (plc gp m (prevK m.length k)).dst
            · have hn1 : Hid (∀ j, j < k + 1 → (plc gp m (prevK m.length j)).dst = (plc gp m j).src) := by
                intro j hj
                rcases Nat.lt_or_ge j k with h | h
                · exact hc1.out j h
                · obtain rfl : j = k := by omega
                  rw [hq3.out, heq'.out]
              have hn2 : Hid (∀ j, j < k + 1 → ∀ i, i < j → (plc gp m i).src ≠ (plc gp m j).src) := by
                intro j hj i hi
                rcases Nat.lt_or_ge j k with h | h
                · exact hc2.out j h i hi
                · obtain rfl : j = k := by omega
                  rw [hq3.out, heq'.out]
                  exact srcs_hasnt hh i hi
              have hn3 : Hid ((plc gp m (prevK m.length (k + 1))).dst = gp[q].dst) := by show _ = _; rw [show prevK m.length (k + 1) = k by simp [prevK], hq3.out]
              have hn4 : Hid (srcs gp m k ++ [(plc gp m (prevK m.length k)).dst] = srcs gp m (k + 1)) := by show _ = _; rw [srcs_snoc, hq3.out, heq'.out]
              have hlen : (srcs gp m k).length + [(plc gp m (prevK m.length k)).dst].length ≤ 1099511627776 := by rw [srcs_len]; simp; omega
              have hlt3 := Lib.hid hO.lt
              go_wp2_with fail
              refine (slices_Contains_i64 _ _ _ _ ((hO.alloc _).lst)).mono ?_
              rintro e w2 ⟨rfl, rfl⟩
              have p1 : (wr.alloc (.cells #[.int .i64 gp[q].src, .int .i64 gp[q].dst, .int .i64 gp[q].delay, .int .i64 gp[q].tokens] 45)).cell? ⟨wr.heap.size, 1, none⟩ = some (.int .i64 gp[q].dst) := by simp
              have pB : Below W.heap.size W (wr.alloc (.cells #[.int .i64 gp[q].src, .int .i64 gp[q].dst, .int .i64 gp[q].delay, .int .i64 gp[q].tokens] 45)) := hB.alloc hB.size _
              have pO := hO.alloc (.cells #[.int .i64 gp[q].src, .int .i64 gp[q].dst, .int .i64 gp[q].delay, .int .i64 gp[q].tokens] 45)
              have ps : wr.heap.size < (wr.alloc (.cells #[.int .i64 gp[q].src, .int .i64 gp[q].dst, .int .i64 gp[q].delay, .int .i64 gp[q].tokens] 45)).heap.size := by simp
              have hsz := hB.size
              clear hO d0 d1 d2 d3 e0 e1 hBw hB
              generalize (wr.alloc (.cells #[.int .i64 gp[q].src, .int .i64 gp[q].dst, .int .i64 gp[q].delay, .int .i64 gp[q].tokens] 45)) = V at *
              go_wp2_with (at_builtin; refine wpList_append_lst rfl _ _ 38 rfl intCell 1 intCell_one (by omega) W.heap.size 2 _ 8 Try.underlying38 info_i64 rfl _ _ rfl (pO.alloc _) _ _ _ _ [(plc gp m (prevK m.length k)).dst] rfl (lst_new1 _ _ intCell_len _ _ _ _ rfl _ (by simp)) hlen (by omega) (Nat.le_trans pB.size (by simp <;> omega)) ?_; intro v' w1 hO1 hG1 hD1; have p1' := cell_kept (cell_keep p1 ((Below.refl _ _).alloc (Nat.le_refl _) _)) hG1 (fun hk => absurd (hlt3.out _ hk).2 (Nat.lt_irrefl _)))
              go_roundw
              case rel =>
                rw [hn4.out] at hO1
                have hB1 := below_app (pB.alloc pB.size _) (Nat.le_trans pB.size (by simp)) hG1 (pO.alloc _) (Nat.le_refl _)
                first | exact ⟨k + 1, hlt, by go_num, by rw [hn3.out], hO1, hB1, hn1, hn2⟩ | ((repeat apply Exists.intro); exact ⟨⟨k + 1, hlt, by go_num, by rw [hn3.out], hO1, hB1, hn1, hn2⟩, rfl⟩)
              case measure => simp [intOf]; omega
            · have hF : Hid (circuitB gp m = false) := circuit_not fun h => by
                obtain ⟨j, hj, e⟩ := (srcs_has gp m k _).1 hh
                exact (hI.out.1 h).2.2.1 k hlt j hj (by rw [e, hq3.out, heq'.out])
              go_wp2_with (go_at_call 200; refine (slices_Contains_i64 _ _ _ _ ((hO.alloc _).lst)).mono ?_; rintro e w2 ⟨rfl, rfl⟩)
              go_ret
              exact ⟨ret_bool hF.out.symm, (by repeat (first | exact Below.refl _ _ | refine Below.drew ?_ | refine Below.alloc ?_ (by first | omega | (simp; done) | (simp; omega) | (have q0 := hBw.size; simp at q0; omega) | (have q0 := hBw.size; simp at q0 ⊢; omega)) _ | refine Below.setCell ?_ (by first | omega | (simp; done) | (simp; omega) | (have q0 := hBw.size; simp at q0; omega) | (have q0 := hBw.size; simp at q0 ⊢; omega)) _ | refine Below.trans ?_ (Below.mono hBw (by first | omega | (simp; done) | (simp; omega) | (have q0 := hBw.size; simp at q0; omega) | (have q0 := hBw.size; simp at q0 ⊢; omega)))))⟩
          · have hqe : (gp[q].src != (plc gp m (prevK m.length k)).dst) = true := by simp [heq]
            have hF : Hid (circuitB gp m = false) := circuit_not fun h => by
              have := (hI.out.1 h).2.2.2 (prevK m.length k) (prevK_lt hlt)
              rw [prevK_next hlt, hq3.out] at this
              exact heq this.symm
            clear heq
            go_wp2
            go_ret
            exact ⟨ret_bool hF.out.symm, (by repeat (first | exact Below.refl _ _ | refine Below.drew ?_ | refine Below.alloc ?_ (by first | omega | (simp; done) | (simp; omega) | (have q0 := hBw.size; simp at q0; omega) | (have q0 := hBw.size; simp at q0 ⊢; omega)) _ | refine Below.setCell ?_ (by first | omega | (simp; done) | (simp; omega) | (have q0 := hBw.size; simp at q0; omega) | (have q0 := hBw.size; simp at q0 ⊢; omega)) _ | refine Below.trans ?_ (Below.mono hBw (by first | omega | (simp; done) | (simp; omega) | (have q0 := hBw.size; simp at q0; omega) | (have q0 := hBw.size; simp at q0 ⊢; omega)))))⟩
        · obtain rfl : k = m.length := by omega
          have hT : Hid (circuitB gp m = true) := hI.out.2 ⟨hpos, ha'.out, fun k hk j hj => hc2.out k hk j hj, fun k hk => by
            obtain ⟨h1, h2⟩ := next_prevK hk
            have := hc1.out _ h1
            rw [h2] at this
            exact this⟩
          go_wp2
          go_ret
          exact ⟨ret_bool hT.out.symm, (by repeat (first | exact Below.refl _ _ | refine Below.drew ?_ | refine Below.alloc ?_ (by first | omega | (simp; done) | (simp; omega) | (have q0 := hBw.size; simp at q0; omega) | (have q0 := hBw.size; simp at q0 ⊢; omega)) _ | refine Below.setCell ?_ (by first | omega | (simp; done) | (simp; omega) | (have q0 := hBw.size; simp at q0; omega) | (have q0 := hBw.size; simp at q0 ⊢; omega)) _ | refine Below.trans ?_ (Below.mono hBw (by first | omega | (simp; done) | (simp; omega) | (have q0 := hBw.size; simp at q0; omega) | (have q0 := hBw.size; simp at q0 ⊢; omega)))))⟩
set_option maxHeartbeats 400000 in
set_option maxRecDepth 100000 in
theorem impl_IsCircuit (v : Value) (ge : Int) (gp : List Place) (u : Value) (m : List Int) (w : World) (h0 : Lst Place.cells 4 w w.heap.size v gp) (h1 : Lst intCell 1 w w.heap.size u m) (hmb : m.length ≤ 1048576) :
    Calls Try.prog 53 #[.agg #[.int .i64 ge, v], u] w fun r w' => r = .returned (.bool (okGraph ge gp && circuitB gp m)) ∧ Below w.heap.size w w' := by
  cases hq : okGraph ge gp
  · go_enter Try.func53, Try.ntmps53
    go_wp2_with (go_at_call 113; refine (impl_IsEventGraph _ _ _ _ (h0.alloc _)).mono ?_; rintro e w1 ⟨rfl, hB⟩)
    go_ret
    exact ⟨rfl, (by repeat (first | exact Below.refl _ _ | refine Below.drew ?_ | refine Below.alloc ?_ (by first | omega | (simp; done) | (simp; omega) | (have q0 := hB.size; simp at q0; omega) | (have q0 := hB.size; simp at q0 ⊢; omega)) _ | refine Below.setCell ?_ (by first | omega | (simp; done) | (simp; omega) | (have q0 := hB.size; simp at q0; omega) | (have q0 := hB.size; simp at q0 ⊢; omega)) _ | refine Below.trans ?_ (Below.mono hB (by first | omega | (simp; done) | (simp; omega) | (have q0 := hB.size; simp at q0; omega) | (have q0 := hB.size; simp at q0 ⊢; omega)))))⟩
  · go_enter Try.func53, Try.ntmps53
    go_wp2_with fail
    refine (impl_IsEventGraph _ _ _ _ (h0.alloc _)).mono ?_
    rintro e w1 ⟨rfl, hB⟩
    obtain ⟨hc1, hf1⟩ := bcell hB
    have hs1 := hB.size
    go_wp2_with (go_at_call 127; refine (impl_isCircuit _ _ _ _ _ _ ((h0.alloc _).now hB) ((h1.alloc _).now hB) hmb).mono ?_; rintro e w2 ⟨rfl, hB2⟩)
    go_ret
    exact ⟨rfl, (by repeat (first | exact Below.refl _ _ | refine Below.drew ?_ | refine Below.alloc ?_ (by first | omega | (simp; done) | (simp; omega) | (have q0 := hB2.size; have q1 := hB.size; simp at q0 q1; omega) | (have q0 := hB2.size; have q1 := hB.size; simp at q0 q1 ⊢; omega)) _ | refine Below.setCell ?_ (by first | omega | (simp; done) | (simp; omega) | (have q0 := hB2.size; have q1 := hB.size; simp at q0 q1; omega) | (have q0 := hB2.size; have q1 := hB.size; simp at q0 q1 ⊢; omega)) _ | refine Below.trans ?_ (Below.mono hB2 (by first | omega | (simp; done) | (simp; omega) | (have q0 := hB2.size; have q1 := hB.size; simp at q0 q1; omega) | (have q0 := hB2.size; have q1 := hB.size; simp at q0 q1 ⊢; omega))) | refine Below.trans ?_ (Below.mono hB (by first | omega | (simp; done) | (simp; omega) | (have q0 := hB2.size; have q1 := hB.size; simp at q0 q1; omega) | (have q0 := hB2.size; have q1 := hB.size; simp at q0 q1 ⊢; omega)))))⟩
end Go.Proofs.Ytkbhbmoogkjafaa
