/-
  A slice of bytes that is read as data.
-/
import Derived.Test.YtcoomogabicfnaaGreatDoorOpen
import Derived.Test.YtcoomogabicfnaaGreatDoorSrc
namespace Go.Proofs.YtcoomogabicfnaaGreatDoor
open Go.RowKit Go.ChangeShapes Go.WideShapes Go.Deep
set_option linter.unusedVariables false
set_option linter.unusedSimpArgs false
section
variable {H : Type} {enc : TypeId × Value → H} {P : Program} {w : World} {base : Nat} {spare : Nat → Bool} {held : Bool}
theorem open_bytes {t e : TypeId} {fuel : Nat} {v : Value} {x : DataW H × List MemPlace} (ht : P.underlying t = some (.slice e)) (he : P.underlying e = some (.int .u8)) (hC : P.cellsOf e = 1)
    (h : DataW.trod enc P w base spare held fuel t [v] = some x) : ∃ l : List Int, Lst byteCell 1 w w.heap.size v l ∧ Hid (∀ n ∈ l, 0 ≤ n ∧ n ≤ 255) := by
  rcases open_ints ht he hC h with ⟨hcs, _⟩ | ⟨a, len, cap, zs, hcs, _, hl, hm, hz, _, hcell, hwz⟩
  · simp at hcs
    subst hcs
    exact ⟨[], Lst.nil, by show ∀ n ∈ ([] : List Int), _; simp⟩
  · simp at hcs
    subst hcs
    have hzl : len ≤ zs.length := by
      have hz' := hz
      split at hz' <;> omega
    have hlt : (zs.take len).length = len := by simp; omega
    refine ⟨zs.take len, ⟨flat_len byteCell 1 byteCell_len _, by omega, some a, cap, by rw [hlt], by omega, fun hp => ?_⟩, fun n hn => bounds_u8 (hwz n (List.mem_of_mem_take hn))⟩
    have hq := hcell 0 (by omega)
    obtain ⟨b, off, spot⟩ := a
    have hspot : spot = none := by simpa [Addr.add] using World.cell?_spot hq
    subst hspot
    refine ⟨b, off, rfl, ?_, fun j u hu => ?_⟩
    · have := World.block_lt_of_cell? w _ hq
      rw [add_plain] at this
      exact this
    · have hj : j < len := by
        have := (List.getElem?_eq_some_iff.1 hu).1
        rw [flat_len byteCell 1 byteCell_len, hlt] at this
        omega
      have g := flat_get byteCell 1 byteCell_len (zs.take len) j 0 (by omega) (by omega)
      simp only [Nat.mul_one, Nat.add_zero] at g
      rw [g] at hu
      have hc := hcell j (by omega)
      rw [add_plain] at hc
      rw [hc]
      simp [byteCell] at hu
      rw [← hu]
      simp [List.getD, List.getElem?_eq_getElem (show j < zs.length by omega)]
end
set_option maxHeartbeats 400000 in
set_option maxRecDepth 100000 in
theorem laws_big (v : Value) (bs : List Int) (w : World) (h0 : Lst byteCell 1 w w.heap.size v bs) :
    Calls Tryz.prog 4 #[v] w fun e w' => e = .returned (.bool (decide ((4096 : Int) < (bs.length : Int)))) ∧ w = w' := by
  obtain ⟨A, c, rfl⟩ := h0.shape
  go_enter Tryz.func4, Tryz.ntmps4
  go_wp2
  go_ret
  exact ⟨rfl, rfl⟩

end Go.Proofs.YtcoomogabicfnaaGreatDoor
