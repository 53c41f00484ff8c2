/-
  The walks of FireEvent, the program's and the reference's, and of what they call.
-/
import Derived.Test.YtbdklhahbeiffaaEnabled
import Derived.Test.YtbdklhahbeiffaaCopy
namespace Go.Proofs.Ytbdklhahbeiffaa
open Go.RowKit
set_option linter.unusedVariables false
set_option linter.unusedSimpArgs false

/-- What one place holds after the event e has fired. -/
def fire1 (p : Place) (x e : Int) : Int := (if p.dst = e then x - 1 else x) + if p.src = e then 1 else 0
def fireM (gp : List Place) (m : List Int) (e : Int) : List Int := List.zipWith (fun p x => fire1 p x e) gp m
theorem fireM_len (gp : List Place) (m : List Int) (e : Int) (h : m.length = gp.length) : (fireM gp m e).length = m.length := by simp [fireM, h]
theorem fireM_get (gp : List Place) (m : List Int) (e : Int) (k : Nat) (h1 : k < gp.length) (h2 : k < m.length) (h : k < (fireM gp m e).length) : (fireM gp m e)[k] = fire1 gp[k] m[k] e := by simp [fireM]
/-- What 'fired' gives: the marking after the event, and the code. -/
def firedF (n : Nat) (gp : List Place) (m : List Int) (e : Int) : List Int × Int :=
  if (inB e 0 ((n : Int) - 1) && enB gp m e) = false then ([], 5) else if okMarking gp (fireM gp m e) = false then ([], 3) else (fireM gp m e, 0)
theorem firedF_len (n : Nat) (gp : List Place) (m : List Int) (e : Int) (h : m.length = gp.length) : (firedF n gp m e).1.length ≤ m.length := by
  unfold firedF
  split
  · simp
  · split
    · simp
    · simp [fireM]; omega
theorem hasI_enL (gp : List Place) (m : List Int) (n : Nat) (e : Int) : hasI (enL gp m n) e = (inB e 0 ((n : Int) - 1) && enB gp m e) := by
  rw [Bool.eq_iff_iff, hasI_iff, enL_mem, Bool.and_eq_true, inB_iff]
  constructor
  · rintro ⟨⟨a, b⟩, c⟩; exact ⟨⟨a, by omega⟩, c⟩
  · rintro ⟨⟨a, b⟩, c⟩; exact ⟨⟨a, by omega⟩, c⟩
/-- What FireEvent gives. -/
def fireF (ge : Int) (gp : List Place) (m : List Int) (e : Int) : List Int × Int :=
  if okGraph ge gp = false then ([], 1) else if okMarking gp m = false then ([], 2) else if inB e 0 (ge - 1) = false then ([], 2) else firedF ge.toNat gp m e
theorem fireF_len (ge : Int) (gp : List Place) (m : List Int) (e : Int) (hn : m.length ≤ 1048576) : (fireF ge gp m e).1.length ≤ 1048576 := by
  unfold fireF
  split
  · simp
  · split
    · simp
    · split
      · simp
      · rename_i h _
        have := firedF_len ge.toNat gp m e (okMarking_len (by simpa using h))
        omega
theorem fire_cases (p : Place) (x e : Int) (hx : 0 ≤ x ∧ x ≤ 100) : -1 ≤ fire1 p x e ∧ fire1 p x e ≤ 101 := by
  unfold fire1
  split <;> split <;> omega

end Go.Proofs.Ytbdklhahbeiffaa
