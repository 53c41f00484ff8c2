/-
  The walks of CircuitRatio, the program's and the reference's.
-/
import Derived.Test.YtcoomogabicfnaaCircuitS
import Derived.Test.YtcoomogabicfnaaRatio
import Derived.Test.YtcoomogabicfnaaMore
namespace Go.Proofs.Ytcoomogabicfnaa
open Go.RowKit
set_option linter.unusedVariables false
set_option linter.unusedSimpArgs false

/-- The sums of the delays and of the tokens of the first k places of a list. -/
def sumD (gp : List Place) (m : List Int) (k : Nat) : Int := ((List.range k).map fun j => (plc gp m j).delay).sum
def sumK (gp : List Place) (m : List Int) (k : Nat) : Int := ((List.range k).map fun j => (plc gp m j).tokens).sum
theorem sumD_succ (gp : List Place) (m : List Int) (k : Nat) : sumD gp m (k + 1) = sumD gp m k + (plc gp m k).delay := by simp [sumD, List.range_succ, List.sum_append]
theorem sumK_succ (gp : List Place) (m : List Int) (k : Nat) : sumK gp m (k + 1) = sumK gp m k + (plc gp m k).tokens := by simp [sumK, List.range_succ, List.sum_append]
theorem sums_le {ge : Int} {gp : List Place} {m : List Int} (hg : okGraph ge gp = true) (hc : allB m 0 ((gp.length : Int) - 1) = true) :
    ∀ k, k ≤ m.length → (0 ≤ sumD gp m k ∧ sumD gp m k ≤ 1000 * k) ∧ (0 ≤ sumK gp m k ∧ sumK gp m k ≤ 5 * k) := by
  intro k
  induction k with
  | zero => intro _; simp [sumD, sumK]
  | succ k ih =>
    intro h
    obtain ⟨h1, h2⟩ := ih (by omega)
    obtain ⟨q, _, hl, hp⟩ := allB_place hc k (by omega)
    have := okGraph_place hg (List.getElem_mem hl)
    rw [sumD_succ, sumK_succ, hp hl]
    omega
/-- What CircuitRatio gives. -/
def circRatio (ge : Int) (gp : List Place) (m : List Int) : Int × Int × Int :=
  if okGraph ge gp = false then (0, 0, 1) else if circuitB gp m = false then (0, 0, 4) else if sumK gp m m.length = 0 then (0, 0, 5)
  else (lowN (sumD gp m m.length).toNat (sumK gp m m.length).toNat, lowD (sumD gp m m.length).toNat (sumK gp m m.length).toNat, 0)
/-- A ratio and a code. -/
theorem retR_of {F : Int × Int × Int} {a b c : Int} {r : Ending} {w w' : World} (hE : F = (a, b, c)) (hr : r = .returned (.tuple #[.agg #[.int .i64 a, .int .i64 b], .int .i64 c])) (hB : Below w.heap.size w w') :
    r = .returned (.tuple #[.agg #[.int .i64 F.1, .int .i64 F.2.1], .int .i64 F.2.2]) ∧ Below w.heap.size w w' := by
  subst hE
  exact ⟨hr, hB⟩
set_option maxHeartbeats 1000000 in
set_option maxRecDepth 100000 in
theorem impl_circuitSums (v : Value) (ge : Int) (gp : List Place) (u : Value) (m : List Int) (w : World) (h0 : Lst Place.cells 4 w w.heap.size v gp) (h1 : Lst intCell 1 w w.heap.size u m) (hg : Hid (okGraph ge gp = true)) (hc : Hid (allB m 0 ((gp.length : Int) - 1) = true)) (hmb : m.length ≤ 1048576) :
    Calls Try.prog 70 #[.agg #[.int .i64 ge, v], u] w fun e w' => e = .returned (.tuple #[.int .i64 (sumD gp m m.length), .int .i64 (sumK gp m m.length)]) ∧ Below w.heap.size w w' := by
  obtain ⟨A, c, rfl⟩ := h0.shape
  obtain ⟨C, d, rfl⟩ := h1.shape
  have hgl := okGraph_len hg.out
  have hL := Lib.hid (sums_le hg.out hc.out)
  go_enter Try.func70, Try.ntmps70
  go_wp2
  have hW : Below w.heap.size w (w.alloc (.cells #[.int .i64 ge, .slice A gp.length c] 26)) := (Below.refl _ _).alloc (Nat.le_refl _) _; have hb0 : Blk (w.alloc (.cells #[.int .i64 ge, .slice A gp.length c] 26)) w.heap.size 26 #[.int .i64 ge, .slice A gp.length c] := Blk.new _ _ _; replace h0 := h0.now hW; replace h1 := h1.now hW; generalize (w.alloc (.cells #[.int .i64 ge, .slice A gp.length c] 26)) = W at *
  go_loopw [6, 7, 9, 12] (fun s t _ i wr => ∃ k : Nat, k ≤ m.length ∧ i = .int .i64 k ∧ s = .int .i64 (sumD gp m k) ∧ t = .int .i64 (sumK gp m k) ∧ Below W.heap.size W wr) (fun _ _ _ i _ => m.length - (intOf i).toNat)
  case atStart => exact ⟨0, Nat.zero_le _, rfl, rfl, rfl, Below.refl _ _⟩
  case round =>
    obtain ⟨k, hk, rfl, rfl, rfl, hB⟩ := hrel
    by_cases hlt : k < m.length
    · obtain ⟨k0, k1⟩ := (hb0.now hB).c2
      obtain ⟨q, hq1, hql, hq2⟩ := allB_place hc.out k hlt
      have hq3 := Lib.hid (hq2 hql)
      clear hq2
      obtain ⟨⟨l1, l2⟩, l3, l4⟩ := hL.out k hk
      have hS := Lib.hid (sumD_succ gp m k)
      have hT := Lib.hid (sumK_succ gp m k)
      have hp := okGraph_place hg.out (List.getElem_mem hql)
      obtain ⟨b, off, hb1, hbb, d0, d1, d2, d3⟩ := places_at (h0.now hB) q hql
      cases hb1
      obtain ⟨b2, off2, hb2, hbb2, e0⟩ := ints_at (h1.now hB) k hlt
      cases hb2
      rw [hq1] at e0
      have hq1' := Lib.hid hq1
      clear hq1
      · skip
        go_wp2
        go_roundw
        case rel => exact ⟨k + 1, hlt, by go_num, by rw [hS.out, hq3.out], by rw [hT.out, hq3.out], hB⟩
        case measure => simp [intOf]; omega
    · obtain rfl : k = m.length := by omega
      go_wp2
      go_ret2
      exact ⟨rfl, hW.trans (hB.mono hW.size)⟩
end Go.Proofs.Ytcoomogabicfnaa
