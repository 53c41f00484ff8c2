/-
  Runs read from texts, the program's side.
-/
import Derived.Test.YtcoomogabicfnaaGreatDoorRead
import Derived.Maps.OwnOps
import Derived.Maps.OwnSet
import Derived.Maps.Views
namespace Go.Proofs.YtcoomogabicfnaaGreatDoor
open Go.RowKit Go.Maps
set_option linter.unusedVariables false
set_option linter.unusedSimpArgs false
/-- The map holds how often each event has fired. -/
def CntD (D : DataW Unit) (y : List Firing) : Prop := ∀ e : Int, D.atKey (.int .i64 e) (.lit (.int .i64 0)) = .lit (.int .i64 ((timesIn y e).length : Int))
theorem CntD.start : CntD (.map []) [] := fun e => rfl
theorem CntD.put {D : DataW Unit} {y : List Firing} (h : CntD D y) (hm : IsMap D) (e n t c : Int) (hc : c = ((timesIn y e).length : Int) + 1) : CntD (D.put (.int .i64 e) (.lit (.int .i64 c))) (y ++ [⟨e, n, t⟩]) := by
  intro e'
  rw [timesIn_snoc]
  by_cases he : e' = e
  · subst he
    rw [atKey_put_same hm (show WideAt.IsKeyLit (.int .i64 e') from trivial), hc]
    simp
  · rw [atKey_put_other (by intro hh; injection hh with _ hh; exact he hh), h e', if_neg (fun hh => he hh.symm)]
    simp
theorem own_map {α : Type} {f : α → List Value} {s : Nat} {e : TypeId} {w : World} {base M n : Nat} {v : Value} {l : List α} {P : Program} {K : TypeId} {R : Value → Option (DataW Unit × List MemPlace)} {D : DataW Unit} (h : Own f s e w base v l) (hM : w.ownsMap P K R M n D) : v.ownBlock ≠ some M := by
  intro hv
  obtain ⟨es, clock, hb, _⟩ := hM
  rcases h.2 with ⟨rfl, _⟩ | ⟨g, cap, cur, rfl, _, hg, _⟩
  · cases hv
  · injection hv with hv
    subst hv
    rw [hg] at hb
    injection hb with hb
    cases hb
theorem own_keptM {α : Type} {f : α → List Value} {s : Nat} {e : TypeId} {w w' : World} {base M : Nat} {v : Value} {l : List α} (h : Own f s e w base v l) (hG : w.grownBy w' (some M)) (hne : v.ownBlock ≠ some M) : Own f s e w' base v l :=
  World.ownsRow.kept h hG (.inr hne)
theorem map_below {w w' : World} {P : Program} {K : TypeId} {R : Value → Option (DataW Unit × List MemPlace)} {M n B : Nat} {D : DataW Unit} (h : w.ownsMap P K R M n D) (hB : Below B w w') (hM : M < B) : w'.ownsMap P K R M n D := by
  obtain ⟨es, clock, hb, r⟩ := h
  exact ⟨es, clock, (hB.block M hM).trans hb, r⟩
theorem cut_sizes (s : ByteArray) : (⟨(Lib.cut s.data.toList [64]).1.toArray⟩ : ByteArray).size ≤ s.size ∧ (⟨(Lib.cut s.data.toList [64]).2.1.toArray⟩ : ByteArray).size ≤ s.size := by
  rw [bsize, bsize ⟨(Lib.cut s.data.toList [64]).2.1.toArray⟩, bsize s]
  simp only [List.toList_toArray]
  unfold Lib.cut
  split
  · simp only [List.length_take, List.length_drop]
    omega
  · simp
theorem keyed64 : Keyed Tryz.prog 2 := int_keyed Tryz.underlying2
theorem zero64 (w : World) : (zeroValue 2).run Tryz.prog w = .ok (.int .i64 0) w := by kernel_rfl
end Go.Proofs.YtcoomogabicfnaaGreatDoor
