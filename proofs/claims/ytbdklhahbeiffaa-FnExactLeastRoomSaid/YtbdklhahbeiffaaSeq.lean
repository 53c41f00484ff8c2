/-
  The walks of FireSequence, the program's and the reference's, and of the first marking.
-/
import Derived.Test.YtbdklhahbeiffaaFire
import Derived.IntWalk
import Derived.Test.YtbdklhahbeiffaaCore
namespace Go.Proofs.Ytbdklhahbeiffaa
open Go.RowKit
set_option linter.unusedVariables false
set_option linter.unusedSimpArgs false

def firstF (gp : List Place) : List Int := gp.map (·.tokens)
theorem firstF_len (gp : List Place) : (firstF gp).length = gp.length := by simp [firstF]
theorem firstF_get (gp : List Place) (k : Nat) (h : k < gp.length) (h2 : k < (firstF gp).length) : (firstF gp)[k] = gp[k].tokens := by simp [firstF]
theorem firstF_snoc (gp : List Place) (k : Nat) (h : k < gp.length) : firstF (gp.take (k + 1)) = firstF (gp.take k) ++ [gp[k].tokens] := by
  unfold firstF
  rw [take_succ_get _ _ h, List.map_append]
  rfl
theorem firstF_ok {ge : Int} {gp : List Place} (hok : okGraph ge gp = true) : okMarking gp (firstF gp) = true := by
  unfold okMarking allB
  simp only [Bool.and_eq_true, decide_eq_true_eq, List.all_eq_true, inB_iff]
  refine ⟨firstF_len gp, fun x hx => ?_⟩
  obtain ⟨p, hp, rfl⟩ := List.mem_map.1 hx
  have := (okGraph_place hok hp).2.2.2
  omega
/-- The marking after a list of events, and the code. -/
def seqF (n : Nat) (gp : List Place) : List Int → List Int → List Int × Int
  | m, [] => (m, 0)
  | m, e :: l => if (firedF n gp m e).2 = 0 then seqF n gp (firedF n gp m e).1 l else ([], (firedF n gp m e).2)
theorem seqF_go (n : Nat) (gp : List Place) (m l : List Int) (k : Nat) (h : k < l.length) (hz : (firedF n gp m l[k]).2 = 0) : seqF n gp m (l.drop k) = seqF n gp (firedF n gp m l[k]).1 (l.drop (k + 1)) := by
  rw [List.drop_eq_getElem_cons h]
  simp only [seqF, if_pos hz]
theorem seqF_stop (n : Nat) (gp : List Place) (m l : List Int) (k : Nat) (h : k < l.length) (hz : ¬ (firedF n gp m l[k]).2 = 0) : seqF n gp m (l.drop k) = ([], (firedF n gp m l[k]).2) := by
  rw [List.drop_eq_getElem_cons h]
  simp only [seqF, if_neg hz]
theorem firedF_zero {n : Nat} {gp : List Place} {m : List Int} {e : Int} (h : (firedF n gp m e).2 = 0) : okMarking gp (firedF n gp m e).1 = true := by
  unfold firedF at h ⊢
  split
  · rename_i h1; rw [if_pos h1] at h; cases h
  · rename_i h1
    rw [if_neg h1] at h
    split
    · rename_i h2; rw [if_pos h2] at h; cases h
    · rename_i h2; simpa using h2
theorem seqF_len (n : Nat) (gp : List Place) : ∀ (l m : List Int), m.length ≤ 1048576 → (gp.length = m.length) → (seqF n gp m l).1.length ≤ 1048576 := by
  intro l
  induction l with
  | nil => intro m h _; exact h
  | cons e l ih =>
    intro m h hg
    simp only [seqF]
    split
    · rename_i hz
      have := okMarking_len (firedF_zero hz)
      exact ih _ (by omega) this.symm
    · simp
def fireSeqF (ge : Int) (gp : List Place) (l : List Int) : List Int × Int :=
  if okGraph ge gp = false then ([], 1) else if (decide (l.length ≤ 100) && allB l 0 (ge - 1)) = false then ([], 2) else seqF ge.toNat gp (firstF gp) l
theorem fireSeqF_len (ge : Int) (gp : List Place) (l : List Int) : (fireSeqF ge gp l).1.length ≤ 1048576 := by
  unfold fireSeqF
  split
  · simp
  · rename_i hg
    split
    · simp
    · have := okGraph_len (ge := ge) (gp := gp) (by simpa using hg)
      exact seqF_len _ _ _ _ (by rw [firstF_len]; omega) (firstF_len gp).symm
end Go.Proofs.Ytbdklhahbeiffaa
