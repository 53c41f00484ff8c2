/-
  The plain data and functions of this seat's proofs: no program in sight.
-/
import Derived.WalkKit
namespace Go.Proofs.Ytdhlhabkonfhfaa
open Go.RowKit
set_option linter.unusedVariables false
set_option linter.unusedSimpArgs false

def inB (n lo hi : Int) : Bool := decide (lo ≤ n) && decide (n ≤ hi)
theorem inB_iff (n lo hi : Int) : inB n lo hi = true ↔ lo ≤ n ∧ n ≤ hi := by simp [inB]

def intCell (n : Int) : List Value := [.int .i64 n]
theorem intCell_len (n : Int) : (intCell n).length = 1 := rfl

structure Firing where
  event : Int
  number : Int
  time : Int
deriving DecidableEq
def Firing.cells (f : Firing) : List Value := [.int .i64 f.event, .int .i64 f.number, .int .i64 f.time]
theorem Firing.cells_len (f : Firing) : f.cells.length = 3 := rfl
def Firing.val (f : Firing) : Value := .agg #[.int .i64 f.event, .int .i64 f.number, .int .i64 f.time]

structure Place where
  src : Int
  dst : Int
  delay : Int
  tokens : Int
deriving DecidableEq
def Place.cells (p : Place) : List Value := [.int .i64 p.src, .int .i64 p.dst, .int .i64 p.delay, .int .i64 p.tokens]
theorem Place.cells_len (p : Place) : p.cells.length = 4 := rfl
def Place.val (p : Place) : Value := .agg #[.int .i64 p.src, .int .i64 p.dst, .int .i64 p.delay, .int .i64 p.tokens]

structure Ratio where
  num : Int
  den : Int
deriving DecidableEq
def Ratio.cells (r : Ratio) : List Value := [.int .i64 r.num, .int .i64 r.den]
theorem Ratio.cells_len (r : Ratio) : r.cells.length = 2 := rfl
def Ratio.val (r : Ratio) : Value := .agg #[.int .i64 r.num, .int .i64 r.den]

theorem ret_bool {a b : Bool} (h : a = b) : Ending.returned (.bool a) = .returned (.bool b) := by rw [h]
theorem ret_int {k : IntKind} {a b : Int} (h : a = b) : Ending.returned (.int k a) = .returned (.int k b) := by rw [h]

/-- A number that fits int64. -/
def i64ok (n : Int) : Prop := -9223372036854775808 ≤ n ∧ n ≤ 9223372036854775807

def Firing.ok (f : Firing) : Prop := i64ok f.event ∧ i64ok f.number ∧ i64ok f.time
def Place.ok (p : Place) : Prop := i64ok p.src ∧ i64ok p.dst ∧ i64ok p.delay ∧ i64ok p.tokens
def Ratio.ok (r : Ratio) : Prop := i64ok r.num ∧ i64ok r.den

theorem take_succ_get {α : Type} (l : List α) (k : Nat) (h : k < l.length) : l.take (k + 1) = l.take k ++ [l[k]] := List.take_succ_eq_append_getElem h

theorem fill_set {α : Type} (l : List α) (z : α) (k : Nat) (h : k < l.length) :
    (l.take k ++ List.replicate (l.length - k) z).set k l[k] = l.take (k + 1) ++ List.replicate (l.length - (k + 1)) z := by
  rw [take_succ_get l k h, List.set_append_right _ _ (by simp; omega)]
  have : k - (l.take k).length = 0 := by simp; omega
  rw [this, show l.length - k = (l.length - (k + 1)) + 1 by omega, List.replicate_succ, List.append_assoc]
  rfl
theorem fill_len {α : Type} (l : List α) (z : α) (k : Nat) (h : k ≤ l.length) : (l.take k ++ List.replicate (l.length - k) z).length = l.length := by simp; omega
theorem fill_all {α : Type} (l : List α) (z : α) : l.take l.length ++ List.replicate (l.length - l.length) z = l := by simp

end Go.Proofs.Ytdhlhabkonfhfaa
