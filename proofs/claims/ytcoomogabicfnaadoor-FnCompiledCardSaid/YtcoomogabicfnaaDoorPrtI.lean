/-
  The walks of the program's PrintText.
-/
import Derived.Test.YtcoomogabicfnaaDoorPrtB
namespace Go.Proofs.YtcoomogabicfnaaDoor
open Go.RowKit
set_option linter.unusedVariables false
set_option linter.unusedSimpArgs false
theorem info_int : (Tryd.prog.info? 3).map (fun i => (i.zero, i.size, i.bytes)) = some (some (.int .i64 0), 1, 8) := by kernel_rfl
theorem own_row {α : Type} {f : α → List Value} {s : Nat} {e : TypeId} {w : World} {base g n c : Nat} {l : List α} (h : Own f s e w base (.slice (some ⟨g, 0, none⟩) n c) l) : ∃ cs, w.heap[g]? = some (.cells cs e (0, 0)) := by
  rcases h.2 with ⟨hv, _⟩ | ⟨g', cap, cur, hv, _, hg, _⟩
  · cases hv
  · injection hv with h1 _ _
    injection h1 with h1
    injection h1 with h1
    subst h1
    exact ⟨cur, hg⟩
/-- The first k loops, the rest still nothing. -/
def fillL (gp : List Place) (n k : Nat) : List Int := loopsF gp k ++ List.replicate (n - k) 0
theorem fillL_len {gp : List Place} {n k : Nat} (h : k ≤ n) : (fillL gp n k).length = n := by
  unfold fillL
  rw [List.length_append, loopsF_len, List.length_replicate]
  omega
theorem fillL_set {gp : List Place} {n k : Nat} (h : k < n) : (fillL gp n k).set k (loopF gp k) = fillL gp n (k + 1) := by
  unfold fillL
  have e : (loopsF gp k).length = k := loopsF_len gp k
  rw [List.set_append_right _ _ (by omega), e, Nat.sub_self, show n - k = (n - (k + 1)) + 1 by omega, List.replicate_succ, List.set_cons_zero, loopsF_succ, List.append_assoc]
  rfl
theorem fillL_get {gp : List Place} {n k : Nat} (h : k < n) (h2 : k < (fillL gp n (k + 1)).length) : (fillL gp n (k + 1))[k] = loopF gp k := by
  have e : (fillL gp n (k + 1))[k]? = some (loopF gp k) := by
    unfold fillL
    rw [List.getElem?_append_left (by rw [loopsF_len]; omega)]
    simp [loopsF]
  rw [List.getElem?_eq_getElem h2] at e
  exact Option.some.inj e
theorem fillL_all {gp : List Place} {n : Nat} : fillL gp n n = loopsF gp n := by simp [fillL]
theorem fillL_zero {gp : List Place} {n : Nat} : fillL gp n 0 = List.replicate n 0 := by simp [fillL, loopsF]
end Go.Proofs.YtcoomogabicfnaaDoor
