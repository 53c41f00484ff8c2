/-
  The walks of CircuitTokens, the program's and the reference's.
-/
import Derived.Test.YtkbhbmoogkjafaaCircuitS
import Derived.Test.YtkbhbmoogkjafaaMarking
namespace Go.Proofs.Ytkbhbmoogkjafaa
open Go.RowKit
set_option linter.unusedVariables false
set_option linter.unusedSimpArgs false

/-- The sum of a marking's numbers over a list of places. -/
def tokSum (m ci : List Int) : Int := (ci.map fun i => m.getD i.toNat 0).sum
theorem tokSum_snoc (m ci : List Int) (i : Int) : tokSum m (ci ++ [i]) = tokSum m ci + m.getD i.toNat 0 := by simp [tokSum, List.sum_append]
/-- What CircuitTokens gives: the tokens and the code. -/
def circTok (ge : Int) (gp : List Place) (m ci : List Int) : Int × Int :=
  if okGraph ge gp = false then (0, 1) else if okMarking gp m = false then (0, 2) else if circuitB gp ci = false then (0, 4) else (tokSum m ci, 0)
theorem okMarking_at {gp : List Place} {m : List Int} (h : okMarking gp m = true) : m.length = gp.length ∧ ∀ k (hk : k < m.length), 0 ≤ m[k] ∧ m[k] ≤ 100 := by
  unfold okMarking at h
  simp only [Bool.and_eq_true, decide_eq_true_eq] at h
  exact ⟨h.1, fun k hk => allB_at h.2 k hk⟩
/-- One place of a circuit and the marking's number there. -/
theorem circ_at {gp : List Place} {m ci : List Int} (h : circuitB gp ci = true) (hm : okMarking gp m = true) (k : Nat) (hk : k < ci.length) :
    ∃ q : Nat, ci[k] = (q : Int) ∧ ∃ hq : q < m.length, 0 ≤ m[q] ∧ m[q] ≤ 100 ∧ m.getD ci[k].toNat 0 = m[q] := by
  obtain ⟨q, hq, hl, _⟩ := allB_place ((circuit_iff gp ci).1 h).2.1 k hk
  obtain ⟨hlen, hb⟩ := okMarking_at hm
  have hq' : q < m.length := by omega
  refine ⟨q, hq, hq', (hb q hq').1, (hb q hq').2, ?_⟩
  rw [hq, Int.toNat_natCast, List.getD_eq_getElem?_getD, List.getElem?_eq_getElem hq', Option.getD_some]

set_option maxHeartbeats 2000000 in
set_option maxRecDepth 100000 in
theorem impl_CircuitTokens (v : Value) (ge : Int) (gp : List Place) (u : Value) (m : List Int) (t : Value) (ci : List Int) (w : World) (h0 : Lst Place.cells 4 w w.heap.size v gp) (h1 : Lst intCell 1 w w.heap.size u m) (h2 : Lst intCell 1 w w.heap.size t ci) (hmb : ci.length ≤ 1048576) :
    Calls Try.prog 28 #[.agg #[.int .i64 ge, v], u, t] w fun r w' => r = .returned (.tuple #[.int .i64 (circTok ge gp m ci).1, .int .i64 (circTok ge gp m ci).2]) ∧ Below w.heap.size w w' := by
  obtain ⟨A, c, rfl⟩ := h0.shape
  obtain ⟨C, d, rfl⟩ := h1.shape
  obtain ⟨D, f, rfl⟩ := h2.shape
  have hl := h0.len_le
  cases hg : okGraph ge gp
  · have hE : Hid (circTok ge gp m ci = (0, 1)) := by show _ = _; simp [circTok, hg]
    go_enter Try.func28, Try.ntmps28
    go_wp2_with (go_at_call 113; refine (impl_IsEventGraph _ _ _ _ (h0.alloc _)).mono ?_; rintro e w1 ⟨rfl, hB⟩)
    go_ret2
    exact ⟨ret_ii (by rw [hE.out]) (by rw [hE.out]), (by repeat (first | exact Below.refl _ _ | refine Below.drew ?_ | refine Below.alloc ?_ (by first | omega | (simp; done) | (simp; omega) | (have q0 := hB.size; simp at q0; omega) | (have q0 := hB.size; simp at q0 ⊢; omega)) _ | refine Below.setCell ?_ (by first | omega | (simp; done) | (simp; omega) | (have q0 := hB.size; simp at q0; omega) | (have q0 := hB.size; simp at q0 ⊢; omega)) _ | refine Below.trans ?_ (Below.mono hB (by first | omega | (simp; done) | (simp; omega) | (have q0 := hB.size; simp at q0; omega) | (have q0 := hB.size; simp at q0 ⊢; omega)))))⟩
  · cases hm : okMarking gp m
    · have hE : Hid (circTok ge gp m ci = (0, 2)) := by show _ = _; simp [circTok, hg, hm]
      go_enter Try.func28, Try.ntmps28
      go_wp2_with fail
      refine (impl_IsEventGraph _ _ _ _ (h0.alloc _)).mono ?_
      rintro e w1 ⟨rfl, hB⟩
      have k0 : w1.cell? ⟨w.heap.size, 0, none⟩ = some (.int .i64 ge) := cell_keep (by simp) hB
      have k1 : w1.cell? ⟨w.heap.size, 1, none⟩ = some (.slice A gp.length c) := cell_keep (by simp) hB
      have hBt : Below w.heap.size w w1 := (by repeat (first | exact Below.refl _ _ | refine Below.drew ?_ | refine Below.alloc ?_ (by first | omega | (simp; done) | (simp; omega) | (have q0 := hB.size; simp at q0; omega) | (have q0 := hB.size; simp at q0 ⊢; omega)) _ | refine Below.setCell ?_ (by first | omega | (simp; done) | (simp; omega) | (have q0 := hB.size; simp at q0; omega) | (have q0 := hB.size; simp at q0 ⊢; omega)) _ | refine Below.trans ?_ (Below.mono hB (by first | omega | (simp; done) | (simp; omega) | (have q0 := hB.size; simp at q0; omega) | (have q0 := hB.size; simp at q0 ⊢; omega)))))
      clear hB
      go_wp2_with (go_at_call 126; refine (impl_isMarking _ _ _ _ _ _ (h0.now hBt) (h1.now hBt)).mono ?_; rintro e w2 ⟨rfl, hB2⟩)
      go_ret2
      exact ⟨ret_ii (by rw [hE.out]) (by rw [hE.out]), hBt.trans (hB2.mono hBt.size)⟩
    · cases hc : circuitB gp ci
      · have hE : Hid (circTok ge gp m ci = (0, 4)) := by show _ = _; simp [circTok, hg, hm, hc]
        go_enter Try.func28, Try.ntmps28
        go_wp2_with fail
        refine (impl_IsEventGraph _ _ _ _ (h0.alloc _)).mono ?_
        rintro e w1 ⟨rfl, hB⟩
        have k0 : w1.cell? ⟨w.heap.size, 0, none⟩ = some (.int .i64 ge) := cell_keep (by simp) hB
        have k1 : w1.cell? ⟨w.heap.size, 1, none⟩ = some (.slice A gp.length c) := cell_keep (by simp) hB
        have hBt : Below w.heap.size w w1 := (by repeat (first | exact Below.refl _ _ | refine Below.drew ?_ | refine Below.alloc ?_ (by first | omega | (simp; done) | (simp; omega) | (have q0 := hB.size; simp at q0; omega) | (have q0 := hB.size; simp at q0 ⊢; omega)) _ | refine Below.setCell ?_ (by first | omega | (simp; done) | (simp; omega) | (have q0 := hB.size; simp at q0; omega) | (have q0 := hB.size; simp at q0 ⊢; omega)) _ | refine Below.trans ?_ (Below.mono hB (by first | omega | (simp; done) | (simp; omega) | (have q0 := hB.size; simp at q0; omega) | (have q0 := hB.size; simp at q0 ⊢; omega)))))
        clear hB
        go_wp2_with fail
        refine (impl_isMarking _ _ _ _ _ _ (h0.now hBt) (h1.now hBt)).mono ?_
        rintro e w2 ⟨rfl, hB2⟩
        replace k0 := cell_keep k0 hB2
        replace k1 := cell_keep k1 hB2
        replace hBt := hBt.trans (hB2.mono hBt.size)
        clear hB2
        go_wp2_with (go_at_call 127; refine (impl_isCircuit _ _ _ _ _ _ (h0.now hBt) (h2.now hBt) hmb).mono ?_; rintro e w3 ⟨rfl, hB3⟩)
        go_ret2
        exact ⟨ret_ii (by rw [hE.out]) (by rw [hE.out]), hBt.trans (hB3.mono hBt.size)⟩
      · have hE : Hid (circTok ge gp m ci = (tokSum m ci, 0)) := by show _ = _; simp [circTok, hg, hm, hc]
        have hP := Lib.hid (fun k hk => circ_at hc hm k hk)
        go_enter Try.func28, Try.ntmps28
        go_wp2_with fail
        refine (impl_IsEventGraph _ _ _ _ (h0.alloc _)).mono ?_
        rintro e w1 ⟨rfl, hB⟩
        have k0 : w1.cell? ⟨w.heap.size, 0, none⟩ = some (.int .i64 ge) := cell_keep (by simp) hB
        have k1 : w1.cell? ⟨w.heap.size, 1, none⟩ = some (.slice A gp.length c) := cell_keep (by simp) hB
        have hBt : Below w.heap.size w w1 := (by repeat (first | exact Below.refl _ _ | refine Below.drew ?_ | refine Below.alloc ?_ (by first | omega | (simp; done) | (simp; omega) | (have q0 := hB.size; simp at q0; omega) | (have q0 := hB.size; simp at q0 ⊢; omega)) _ | refine Below.setCell ?_ (by first | omega | (simp; done) | (simp; omega) | (have q0 := hB.size; simp at q0; omega) | (have q0 := hB.size; simp at q0 ⊢; omega)) _ | refine Below.trans ?_ (Below.mono hB (by first | omega | (simp; done) | (simp; omega) | (have q0 := hB.size; simp at q0; omega) | (have q0 := hB.size; simp at q0 ⊢; omega)))))
        clear hB
        go_wp2_with fail
        refine (impl_isMarking _ _ _ _ _ _ (h0.now hBt) (h1.now hBt)).mono ?_
        rintro e w2 ⟨rfl, hB2⟩
        replace k0 := cell_keep k0 hB2
        replace k1 := cell_keep k1 hB2
        replace hBt := hBt.trans (hB2.mono hBt.size)
        clear hB2
        go_wp2_with fail
        refine (impl_isCircuit _ _ _ _ _ _ (h0.now hBt) (h2.now hBt) hmb).mono ?_
        rintro e w3 ⟨rfl, hB3⟩
        replace hBt := hBt.trans (hB3.mono hBt.size)
        clear hB3 k0 k1
        replace h1 := h1.now hBt
        replace h2 := h2.now hBt
        go_wp2
        go_loop [8, 10, 24] (fun n _ i => ∃ k : Nat, k ≤ ci.length ∧ i = .int .i64 k ∧ n = .int .i64 (tokSum m (ci.take k)) ∧ 0 ≤ tokSum m (ci.take k) ∧ tokSum m (ci.take k) ≤ 100 * k) (fun _ _ i => ci.length - (intOf i).toNat)
        case atStart => exact ⟨0, Nat.zero_le _, rfl, by simp [tokSum], by simp [tokSum], by simp [tokSum]⟩
        case round =>
          obtain ⟨k, hk, rfl, rfl, hn0, hn1⟩ := hrel
          by_cases hlt : k < ci.length
          · obtain ⟨q, hq, hql, hq0, hq1, hq2⟩ := hP.out k hlt
            have hst := Lib.hid (tokSum_snoc m (ci.take k) ci[k])
            have hq2' := Lib.hid hq2
            obtain ⟨b, off, hb1, hb, e0⟩ := ints_at h2 k hlt
            cases hb1
            obtain ⟨b2, off2, hb2, hb3, d0⟩ := ints_at h1 q hql
            cases hb2
            rw [hq] at e0
            clear hq hq2
            go_wp2
            go_round
            case rel => exact ⟨k + 1, hlt, by go_num, by rw [take_succ_get _ _ hlt, hst.out, hq2'.out], by rw [take_succ_get _ _ hlt, hst.out, hq2'.out]; omega, by rw [take_succ_get _ _ hlt, hst.out, hq2'.out]; omega⟩
            case measure => simp [intOf]; omega
          · obtain rfl : k = ci.length := by omega
            go_wp2
            go_ret2
            exact ⟨ret_ii (by rw [hE.out]) (by rw [hE.out]), hBt⟩
set_option maxHeartbeats 2000000 in
set_option maxRecDepth 100000 in
theorem spec_CircuitTokens (v : Value) (ge : Int) (gp : List Place) (u : Value) (m : List Int) (t : Value) (ci : List Int) (w : World) (h0 : Lst Place.cells 4 w w.heap.size v gp) (h1 : Lst intCell 1 w w.heap.size u m) (h2 : Lst intCell 1 w w.heap.size t ci) (hmb : ci.length ≤ 1048576) :
    Calls Try.prog 29 #[.agg #[.int .i64 ge, v], u, t] w fun r w' => r = .returned (.tuple #[.int .i64 (circTok ge gp m ci).1, .int .i64 (circTok ge gp m ci).2]) ∧ Below w.heap.size w w' := by
  obtain ⟨A, c, rfl⟩ := h0.shape
  obtain ⟨C, d, rfl⟩ := h1.shape
  obtain ⟨D, f, rfl⟩ := h2.shape
  have hl := h0.len_le
  have hcode : Hid (∀ x : Int, x = (if okGraph ge gp = false then 1 else if okMarking gp m = false then 2 else 0) → x = 0 ∧ okGraph ge gp = true ∧ okMarking gp m = true ∨ (x ≠ 0 ∧ circTok ge gp m ci = (0, x))) := by
    intro x hx
    unfold circTok
    cases hg : okGraph ge gp <;> cases hm : okMarking gp m <;> simp [hg, hm] at hx ⊢ <;> simp [hx]
  generalize hx : (if okGraph ge gp = false then (1 : Int) else if okMarking gp m = false then 2 else 0) = x at hcode
  have hcall := fun W (a : Lst Place.cells 4 W W.heap.size (.slice A gp.length c) gp) (b : Lst intCell 1 W W.heap.size (.slice C m.length d) m) => spec_l17Code _ ge gp _ m W a b
  rw [hx] at hcall
  have hcall' := Lib.hid hcall
  have hx' := Lib.hid (hcode.out x rfl)
  clear hcall hcode hx
  rcases hx'.out with ⟨hx0, hg, hm⟩ | ⟨hx0, hE0⟩
  · subst hx0
    clear hx'
    cases hc : circuitB gp ci
    · have hE : Hid (circTok ge gp m ci = (0, 4)) := by show _ = _; simp [circTok, hg, hm, hc]
      clear hg hm
      go_enter Try.func29, Try.ntmps29
      go_wp2_with fail
      refine (hcall'.out _ (h0.alloc _) (h1.alloc _)).mono ?_
      rintro e w1 ⟨rfl, hB⟩
      have k0 : w1.cell? ⟨w.heap.size, 0, none⟩ = some (.int .i64 ge) := cell_keep (by simp) hB
      have k1 : w1.cell? ⟨w.heap.size, 1, none⟩ = some (.slice A gp.length c) := cell_keep (by simp) hB
      have hBt : Below w.heap.size w w1 := (by repeat (first | exact Below.refl _ _ | refine Below.drew ?_ | refine Below.alloc ?_ (by first | omega | (simp; done) | (simp; omega) | (have q0 := hB.size; simp at q0; omega) | (have q0 := hB.size; simp at q0 ⊢; omega)) _ | refine Below.setCell ?_ (by first | omega | (simp; done) | (simp; omega) | (have q0 := hB.size; simp at q0; omega) | (have q0 := hB.size; simp at q0 ⊢; omega)) _ | refine Below.trans ?_ (Below.mono hB (by first | omega | (simp; done) | (simp; omega) | (have q0 := hB.size; simp at q0; omega) | (have q0 := hB.size; simp at q0 ⊢; omega)))))
      clear hB
      go_wp2_with (go_at_call 129; refine (spec_l15Circuit _ _ _ _ _ _ (h0.now hBt) (h2.now hBt) hmb).mono ?_; rintro e w2 ⟨rfl, hB2⟩)
      go_ret2
      exact ⟨ret_ii (by rw [hE.out]) (by rw [hE.out]), hBt.trans (hB2.mono hBt.size)⟩
    · have hE : Hid (circTok ge gp m ci = (tokSum m ci, 0)) := by show _ = _; simp [circTok, hg, hm, hc]
      have hP := Lib.hid (fun k hk => circ_at hc hm k hk)
      clear hg hm
      go_enter Try.func29, Try.ntmps29
      go_wp2_with fail
      refine (hcall'.out _ (h0.alloc _) (h1.alloc _)).mono ?_
      rintro e w1 ⟨rfl, hB⟩
      have k0 : w1.cell? ⟨w.heap.size, 0, none⟩ = some (.int .i64 ge) := cell_keep (by simp) hB
      have k1 : w1.cell? ⟨w.heap.size, 1, none⟩ = some (.slice A gp.length c) := cell_keep (by simp) hB
      have hBt : Below w.heap.size w w1 := (by repeat (first | exact Below.refl _ _ | refine Below.drew ?_ | refine Below.alloc ?_ (by first | omega | (simp; done) | (simp; omega) | (have q0 := hB.size; simp at q0; omega) | (have q0 := hB.size; simp at q0 ⊢; omega)) _ | refine Below.setCell ?_ (by first | omega | (simp; done) | (simp; omega) | (have q0 := hB.size; simp at q0; omega) | (have q0 := hB.size; simp at q0 ⊢; omega)) _ | refine Below.trans ?_ (Below.mono hB (by first | omega | (simp; done) | (simp; omega) | (have q0 := hB.size; simp at q0; omega) | (have q0 := hB.size; simp at q0 ⊢; omega)))))
      clear hB
      go_wp2_with fail
      refine (spec_l15Circuit _ _ _ _ _ _ (h0.now hBt) (h2.now hBt) hmb).mono ?_
      rintro e w2 ⟨rfl, hB2⟩
      replace hBt := hBt.trans (hB2.mono hBt.size)
      clear hB2 k0 k1
      replace h1 := h1.now hBt
      replace h2 := h2.now hBt
      go_wp2
      go_loopw [9, 10] (fun n i wr => ∃ k : Nat, k ≤ ci.length ∧ i = .int .i64 k ∧ n = .int .i64 (tokSum m (ci.take k)) ∧ 0 ≤ tokSum m (ci.take k) ∧ tokSum m (ci.take k) ≤ 100 * k ∧ Below w2.heap.size w2 wr) (fun _ i _ => ci.length - (intOf i).toNat)
      case atStart => exact ⟨0, Nat.zero_le _, rfl, by simp [tokSum], by simp [tokSum], by simp [tokSum], Below.refl _ _⟩
      case round =>
        obtain ⟨k, hk, rfl, rfl, hn0, hn1, hB⟩ := hrel
        by_cases hlt : k < ci.length
        · obtain ⟨q, hq, hql, hq0, hq1, hq2⟩ := hP.out k hlt
          have hst := Lib.hid (tokSum_snoc m (ci.take k) ci[k])
          have hq2' := Lib.hid hq2
          obtain ⟨b, off, hb1, hb, e0⟩ := ints_at h2 k hlt
          cases hb1
          obtain ⟨b2, off2, hb2, hb3, d0⟩ := ints_at h1 q hql
          cases hb2
          rw [hq] at e0
          replace e0 := cell_keep e0 hB
          replace d0 := cell_keep d0 hB
          clear hq hq2
          go_wp2
          go_roundw
          case rel => exact ⟨k + 1, hlt, by go_num, by rw [take_succ_get _ _ hlt, hst.out, hq2'.out], by rw [take_succ_get _ _ hlt, hst.out, hq2'.out]; omega, by rw [take_succ_get _ _ hlt, hst.out, hq2'.out]; omega, hB⟩
          case measure => simp [intOf]; omega
        · obtain rfl : k = ci.length := by omega
          go_wp2
          go_ret2
          exact ⟨ret_ii (by rw [hE.out]; first | rfl | (simp; done) | rw [List.take_length]) (by rw [hE.out]), hBt.trans (hB.mono hBt.size)⟩
  · have hE := Lib.hid hE0
    have hxb : (x != 0) = true := by simpa using hx0
    clear hE0 hx' hx0
    go_enter Try.func29, Try.ntmps29
    go_wp2_with (go_at_call 128; refine (hcall'.out _ (h0.alloc _) (h1.alloc _)).mono ?_; rintro e w1 ⟨rfl, hB⟩)
    go_ret2
    exact ⟨ret_ii (by rw [hE.out]) (by rw [hE.out]), (by repeat (first | exact Below.refl _ _ | refine Below.drew ?_ | refine Below.alloc ?_ (by first | omega | (simp; done) | (simp; omega) | (have q0 := hB.size; simp at q0; omega) | (have q0 := hB.size; simp at q0 ⊢; omega)) _ | refine Below.setCell ?_ (by first | omega | (simp; done) | (simp; omega) | (have q0 := hB.size; simp at q0; omega) | (have q0 := hB.size; simp at q0 ⊢; omega)) _ | refine Below.trans ?_ (Below.mono hB (by first | omega | (simp; done) | (simp; omega) | (have q0 := hB.size; simp at q0; omega) | (have q0 := hB.size; simp at q0 ⊢; omega)))))⟩
end Go.Proofs.Ytkbhbmoogkjafaa
