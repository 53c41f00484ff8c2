/-
  The walk of CompareRatios.
-/
import Derived.Test.YtkbhbmoogkjafaaFnCirP
import Derived.Test.YtkbhbmoogkjafaaDrL
namespace Go.Proofs.Ytkbhbmoogkjafaa
open Go.RowKit
set_option linter.unusedVariables false
set_option linter.unusedSimpArgs false
set_option maxHeartbeats 4000000 in
set_option maxRecDepth 100000 in
theorem impl_CompareRatios (a b c d : Int) (w : World) (ha : 0 ≤ a) (hc : 0 ≤ c) :
    Calls Try.prog 56 #[.agg #[.int .i64 a, .int .i64 b], .agg #[.int .i64 c, .int .i64 d]] w fun e w' => e = .returned (.tuple #[.int .i64 (cmpR a b c d).1, .int .i64 (cmpR a b c d).2]) ∧ Below w.heap.size w w' := by
  go_enter Try.func56, Try.ntmps56
  go_wp2_with fail
  have hW : Below w.heap.size w ((w.alloc (.cells #[.int .i64 a, .int .i64 b] 63)).alloc (.cells #[.int .i64 c, .int .i64 d] 63)) := (by repeat (first | exact Below.refl _ _ | assumption | refine Below.drew ?_ | refine Below.alloc ?_ (by simp <;> omega) _ | refine Below.setCell ?_ (by simp <;> omega) _))
  have hb0 := (Blk.newAt w (t := 63) (cs := #[.int .i64 a, .int .i64 b]) _ rfl).alloc (.cells #[.int .i64 c, .int .i64 d] 63)
  have hb1 := Blk.newAt (w.alloc (.cells #[.int .i64 a, .int .i64 b] 63)) (t := 63) (cs := #[.int .i64 c, .int .i64 d]) (w.heap.size + 1) (by simp)
  generalize (w.alloc (.cells #[.int .i64 a, .int .i64 b] 63)).alloc (.cells #[.int .i64 c, .int .i64 d] 63) = W at *
  refine (impl_IsRatio a b _).mono ?_
  rintro e w1 ⟨rfl, hB⟩
  replace hW := hW.trans (hB.mono hW.size); replace hb0 := hb0.now hB; replace hb1 := hb1.now hB
  clear hB
  obtain ⟨k0, k1⟩ := hb0.c2
  obtain ⟨r0, r1⟩ := hb1.c2
  have l0 := hb0.lt
  have l1 := hb1.lt
  cases hq : ratioOk a b
  · have hE : Hid (cmpR a b c d = (0, 1)) := by show _ = _; simp [cmpR, hq]
    clear hq
    go_wp2
    go_ret2
    exact ⟨ret_ii (congrArg Prod.fst hE.out).symm (congrArg Prod.snd hE.out).symm, hW⟩
  · have hq1 := Lib.hid hq
    clear hq
    go_wp2_with fail
    clear k0 k1 r0 r1 l0 l1
    refine (impl_IsRatio c d _).mono ?_
    rintro e w2 ⟨rfl, hB⟩
    replace hW := hW.trans (hB.mono hW.size); replace hb0 := hb0.now hB; replace hb1 := hb1.now hB
    clear hB
    obtain ⟨k0, k1⟩ := hb0.c2
    obtain ⟨r0, r1⟩ := hb1.c2
    have l0 := hb0.lt
    have l1 := hb1.lt
    cases hq : ratioOk c d
    · have hE : Hid (cmpR a b c d = (0, 1)) := by show _ = _; simp [cmpR, hq]
      clear hq
      go_wp2
      go_ret2
      exact ⟨ret_ii (congrArg Prod.fst hE.out).symm (congrArg Prod.snd hE.out).symm, hW⟩
    · have hE : Hid (cmpR a b c d = (cmpI (a * d) (c * b), 0)) := by show _ = _; unfold cmpR; rw [if_pos ⟨hq1.out, hq⟩]
      have hx := ratioOk_in hq1.out
      have hy := ratioOk_in hq
      clear hq
      go_wp2_with fail
      clear k0 k1 r0 r1 l0 l1
      refine (impl_compareRatios a b c d _ ⟨ha, by omega⟩ ⟨by omega, by omega⟩ ⟨hc, by omega⟩ ⟨by omega, by omega⟩).mono ?_
      rintro e w3 ⟨rfl, hB⟩
      generalize cmpI (a * d) (c * b) = z at *
      go_wp2
      go_ret2
      exact ⟨ret_ii (congrArg Prod.fst hE.out).symm (congrArg Prod.snd hE.out).symm, hW.trans (hB.mono hW.size)⟩
theorem Lst.dropI {w : World} {B : Nat} {l : List Int} {b off n c : Nat} (h : Lst intCell 1 w B (.slice (some ⟨b, off, none⟩) n c) l) (hk : 1 ≤ l.length) : Lst intCell 1 w B (.slice (if c = 1 then some ⟨b, off, none⟩ else some ⟨b, off + 1, none⟩) (n - 1) (c - 1)) (l.drop 1) := by
  split
  · rename_i hc1
    have hd := h.drop1 1 hk
    obtain ⟨h1, h2, A', c', hv, hc, hr⟩ := hd
    injection hv with e1 e2 e3
    exact ⟨h1, h2, some ⟨b, off, none⟩, c', by first | rw [e2, e3] | rw [← e2, ← e3] | (rw [e2]; rw [e3]) | simp_all, hc, fun hp => absurd hp (by omega)⟩
  · exact h.drop1 1 hk
theorem fc_lst {W W' : World} {p : Nat} {x : Int} {r : Option Nat} (h : Lst intCell 1 W W.heap.size (.slice (some ⟨p, 0, none⟩) 1 1) [x]) (hG : W.grownBy W' r) (hne : r ≠ some p) : Lst intCell 1 W' W'.heap.size (.slice (some ⟨p, 0, none⟩) 1 1) [x] := by
  obtain ⟨h1, h2, A', c', hv, hc, hr⟩ := h
  refine ⟨h1, h2, A', c', hv, hc, fun hp => ?_⟩
  obtain ⟨b, off, hA, hb, hcell⟩ := hr hp
  refine ⟨b, off, hA, Nat.lt_of_lt_of_le hb hG.size, fun j u hu => ?_⟩
  have e := hv
  rw [hA] at e
  injection e with e _ _
  injection e with e
  injection e with e _ _
  exact hG.cell (hcell j u hu) (fun e2 => hne (e2.symm.trans (by show some b = some p; rw [e])))
end Go.Proofs.Ytkbhbmoogkjafaa
