/-
  IsRun, the reference's.
-/
import Derived.Test.YtlppfcamlggcnaaDoorRunS
import Derived.Test.YtlppfcamlggcnaaDoorCore
import Derived.IntWalk
namespace Go.Proofs.YtlppfcamlggcnaaDoor
open Go.RowKit
set_option linter.unusedVariables false
set_option linter.unusedSimpArgs false

theorem lastT_take (l : List Firing) (k : Nat) (h : k < l.length) (hk : 0 < k) : lastT (l.take k) = (l[k - 1]'(by omega)).time := by
  obtain ⟨j, rfl⟩ : ∃ j, k = j + 1 := ⟨k - 1, by omega⟩
  rw [take_succ_get _ _ (by omega), lastT_snoc]
  rfl
theorem lst_cap {α : Type} {f : α → List Value} {size : Nat} {w : World} {B : Nat} {A : Option Addr} {n c : Nat} {l : List α} (h : Lst f size w B (.slice A n c) l) : l.length ≤ c := by
  obtain ⟨h1, h2, A', c', hv, hc, hr⟩ := h
  injection hv with _ _ hcc
  omega
end Go.Proofs.YtlppfcamlggcnaaDoor
