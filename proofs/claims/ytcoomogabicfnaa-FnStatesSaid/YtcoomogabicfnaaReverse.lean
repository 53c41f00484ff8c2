/-
  The walks of ReverseGraph, the program's and the reference's, and of the copies of graphs.
-/
import Derived.Test.YtcoomogabicfnaaInts
namespace Go.Proofs.Ytcoomogabicfnaa
open Go.RowKit
set_option linter.unusedVariables false
set_option linter.unusedSimpArgs false

theorem info_place : (Try.prog.info? 46).map (fun i => (i.zero, i.size, i.bytes)) = some (some (.agg #[.int .i64 0, .int .i64 0, .int .i64 0, .int .i64 0]), 4, 32) := by kernel_rfl

def Place.rev (p : Place) : Place := ⟨p.dst, p.src, p.delay, p.tokens⟩
def reverseF (ge : Int) (gp : List Place) : Int × List Place × Int := if okGraph ge gp = true then (ge, gp.map Place.rev, 0) else (0, [], 1)
theorem reverseF_len (ge : Int) (gp : List Place) : (reverseF ge gp).2.1.length ≤ gp.length := by
  unfold reverseF
  split <;> simp
theorem part_len {α : Type} (f : α → α) (l : List α) (k : Nat) (h : k ≤ l.length) : ((l.take k).map f ++ l.drop k).length = l.length := by simp; omega
theorem part_get {α : Type} (f : α → α) (l : List α) (k : Nat) (h : k < l.length) (h2 : k < ((l.take k).map f ++ l.drop k).length) : ((l.take k).map f ++ l.drop k)[k] = l[k] := by
  rw [List.getElem_append_right (by simp; omega)]
  simp [Nat.min_eq_left (Nat.le_of_lt h)]
theorem part_set {α : Type} (f : α → α) (l : List α) (k : Nat) (h : k < l.length) : ((l.take k).map f ++ l.drop k).set k (f l[k]) = (l.take (k + 1)).map f ++ l.drop (k + 1) := by
  rw [List.set_append_right _ _ (by simp; omega)]
  have e : k - ((l.take k).map f).length = 0 := by simp; omega
  rw [e, List.drop_eq_getElem_cons h, List.set_cons_zero, take_succ_get l k h, List.map_append, List.append_assoc]
  rfl
end Go.Proofs.Ytcoomogabicfnaa
