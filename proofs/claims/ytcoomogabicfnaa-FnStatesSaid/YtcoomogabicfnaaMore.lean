/-
  More words on memory: blocks known whole beside rows of the call's own.
-/
import Derived.Test.YtcoomogabicfnaaReverse
namespace Go.Proofs.Ytcoomogabicfnaa
open Go.RowKit
set_option linter.unusedVariables false
set_option linter.unusedSimpArgs false

/-- A made graph, if it is one; else nothing and the code 3. -/
def checkedF (ge : Int) (gp : List Place) : Int × List Place × Int := if okGraph ge gp = true then (ge, gp, 0) else (0, [], 3)
theorem checkedF_len (ge : Int) (gp : List Place) : (checkedF ge gp).2.1.length ≤ gp.length := by unfold checkedF; split <;> simp
def Place.long (n : Int) (p : Place) : Place := ⟨p.src, p.dst, n * p.delay, p.tokens⟩
def stretchF (ge : Int) (gp : List Place) (n : Int) : Int × List Place × Int :=
  if okGraph ge gp = false then (0, [], 1) else if inB n 1 1000 = false then (0, [], 2) else checkedF ge (gp.map (Place.long n))
theorem stretchF_len (ge : Int) (gp : List Place) (n : Int) : (stretchF ge gp n).2.1.length ≤ gp.length := by
  unfold stretchF
  split
  · simp
  · split
    · simp
    · exact Nat.le_trans (checkedF_len _ _) (by simp)
theorem Own.setP2 {w : World} {e : TypeId} {base : Nat} {l : List Place} {g n c : Nat} (h : Own Place.cells 4 e w base (.slice (some ⟨g, 0, none⟩) n c) l) (k : Nat) (hk : k < l.length) (x : Int) :
    Own Place.cells 4 e (w.setCell ⟨g, k * 4 + 2, none⟩ (.int .i64 x)) base (.slice (some ⟨g, 0, none⟩) n c) (l.set k ⟨l[k].src, l[k].dst, x, l[k].tokens⟩) :=
  h.put Place.cells_len k 2 hk (by omega) _ _ (by simp [Place.cells]) (k * 4 + 2) (by omega)

end Go.Proofs.Ytcoomogabicfnaa
namespace Go.Proofs.Ytcoomogabicfnaa
open Go.RowKit
set_option linter.unusedVariables false
set_option linter.unusedSimpArgs false

theorem Blk.newAt (w : World) {t : TypeId} {cs : Array Value} (g : Nat) (hg : w.heap.size = g) : Blk (w.alloc (.cells cs t)) g t cs := by
  subst hg
  exact Blk.new w t cs
end Go.Proofs.Ytcoomogabicfnaa
