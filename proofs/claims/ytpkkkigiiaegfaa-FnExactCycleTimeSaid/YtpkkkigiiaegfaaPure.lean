/-
  The plain data and functions of this seat's proofs: no program in sight.
-/
import Derived.WalkKit
namespace Go.Proofs.Ytpkkkigiiaegfaa
open Go.RowKit
set_option linter.unusedVariables false
set_option linter.unusedSimpArgs false

def inB (n lo hi : Int) : Bool := decide (lo ≤ n) && decide (n ≤ hi)
theorem inB_iff (n lo hi : Int) : inB n lo hi = true ↔ lo ≤ n ∧ n ≤ hi := by simp [inB]

def intCell (n : Int) : List Value := [.int .i64 n]
theorem intCell_len (n : Int) : (intCell n).length = 1 := rfl

def strCell (s : ByteArray) : List Value := [.string s]
theorem strCell_len (s : ByteArray) : (strCell s).length = 1 := rfl
def sumSz (l : List ByteArray) : Nat := (l.map (·.size)).sum
theorem sumSz_take (l : List ByteArray) (k : Nat) (h : k < l.length) : sumSz (l.take (k + 1)) = sumSz (l.take k) + l[k].size := by
  simp only [sumSz]
  rw [List.take_succ_eq_append_getElem h, List.map_append, List.sum_append]
  simp only [List.map_cons, List.map_nil, List.sum_cons, List.sum_nil, Nat.add_zero]
theorem sumSz_le (l : List ByteArray) (k : Nat) : sumSz (l.take k) ≤ sumSz l := by
  conv => rhs; rw [← List.take_append_drop k l]
  simp only [sumSz, List.map_append, List.sum_append]
  omega
theorem sumSz_mem (l : List ByteArray) (s : ByteArray) (h : s ∈ l) : s.size ≤ sumSz l := by
  induction l with
  | nil => cases h
  | cons a l ih =>
    simp only [sumSz, List.map_cons, List.sum_cons] at ih ⊢
    rcases List.mem_cons.1 h with rfl | h
    · omega
    · have := ih h
      omega

theorem str_inj {s t : ByteArray} (h : s.toList = t.toList) : s = t := by
  rw [Go.ByteArray.toList_eq, Go.ByteArray.toList_eq] at h
  cases s
  cases t
  simp only [ByteArray.mk.injEq]
  exact Array.toList_inj.1 h
theorem str_beq {s t : ByteArray} (h : s = t) : (s.toList == t.toList) = true := by simp [h]
theorem str_bne {s t : ByteArray} (h : ¬ s = t) : (s.toList == t.toList) = false := by
  rw [beq_eq_false_iff_ne]
  exact fun e => h (str_inj e)

structure Firing where
  event : Int
  number : Int
  time : Int
deriving DecidableEq
def Firing.cells (f : Firing) : List Value := [.int .i64 f.event, .int .i64 f.number, .int .i64 f.time]
theorem Firing.cells_len (f : Firing) : f.cells.length = 3 := rfl
def Firing.val (f : Firing) : Value := .agg #[.int .i64 f.event, .int .i64 f.number, .int .i64 f.time]

structure Place where
  src : Int
  dst : Int
  delay : Int
  tokens : Int
deriving DecidableEq
def Place.cells (p : Place) : List Value := [.int .i64 p.src, .int .i64 p.dst, .int .i64 p.delay, .int .i64 p.tokens]
theorem Place.cells_len (p : Place) : p.cells.length = 4 := rfl
def Place.val (p : Place) : Value := .agg #[.int .i64 p.src, .int .i64 p.dst, .int .i64 p.delay, .int .i64 p.tokens]

structure Ratio where
  num : Int
  den : Int
deriving DecidableEq
def Ratio.cells (r : Ratio) : List Value := [.int .i64 r.num, .int .i64 r.den]
theorem Ratio.cells_len (r : Ratio) : r.cells.length = 2 := rfl
def Ratio.val (r : Ratio) : Value := .agg #[.int .i64 r.num, .int .i64 r.den]

theorem ret_bool {a b : Bool} (h : a = b) : Ending.returned (.bool a) = .returned (.bool b) := by rw [h]
theorem ret_int {k : IntKind} {a b : Int} (h : a = b) : Ending.returned (.int k a) = .returned (.int k b) := by rw [h]

theorem ret_ii {a b c d : Int} (h : a = c) (k : b = d) : Ending.returned (.tuple #[.int .i64 a, .int .i64 b]) = .returned (.tuple #[.int .i64 c, .int .i64 d]) := by rw [h, k]
theorem ret_iii {a b c d e f : Int} (h : a = d) (k : b = e) (j : c = f) : Ending.returned (.tuple #[.int .i64 a, .int .i64 b, .int .i64 c]) = .returned (.tuple #[.int .i64 d, .int .i64 e, .int .i64 f]) := by rw [h, k, j]

/-- A number that fits int64. -/
def i64ok (n : Int) : Prop := -9223372036854775808 ≤ n ∧ n ≤ 9223372036854775807

def Firing.ok (f : Firing) : Prop := i64ok f.event ∧ i64ok f.number ∧ i64ok f.time
def Place.ok (p : Place) : Prop := i64ok p.src ∧ i64ok p.dst ∧ i64ok p.delay ∧ i64ok p.tokens
def Ratio.ok (r : Ratio) : Prop := i64ok r.num ∧ i64ok r.den

theorem take_succ_get {α : Type} (l : List α) (k : Nat) (h : k < l.length) : l.take (k + 1) = l.take k ++ [l[k]] := List.take_succ_eq_append_getElem h

theorem fill_set {α : Type} (l : List α) (z : α) (k : Nat) (h : k < l.length) :
    (l.take k ++ List.replicate (l.length - k) z).set k l[k] = l.take (k + 1) ++ List.replicate (l.length - (k + 1)) z := by
  rw [take_succ_get l k h, List.set_append_right _ _ (by simp; omega)]
  have : k - (l.take k).length = 0 := by simp; omega
  rw [this, show l.length - k = (l.length - (k + 1)) + 1 by omega, List.replicate_succ, List.append_assoc]
  rfl
theorem fill_len {α : Type} (l : List α) (z : α) (k : Nat) (h : k ≤ l.length) : (l.take k ++ List.replicate (l.length - k) z).length = l.length := by simp; omega
theorem fill_all {α : Type} (l : List α) (z : α) : l.take l.length ++ List.replicate (l.length - l.length) z = l := by simp

/-- The first k of one list, the rest of another. -/
def mix {α : Type} (z m : List α) (k : Nat) : List α := z.take k ++ m.drop k
theorem mix_len {α : Type} {z m : List α} (h : z.length = m.length) (k : Nat) : (mix z m k).length = m.length := by simp [mix]; omega
theorem mix_get {α : Type} {z m : List α} (h : z.length = m.length) (k : Nat) (hk : k < m.length) (h2 : k < (mix z m k).length) : (mix z m k)[k] = m[k] := by
  show (z.take k ++ m.drop k)[k]'(by simpa [mix] using h2) = m[k]
  rw [List.getElem_append_right (by simp; omega)]
  simp [Nat.min_eq_left (show k ≤ z.length by omega)]
theorem mix_set {α : Type} {z m : List α} (h : z.length = m.length) (k : Nat) (hk : k < m.length) (hz : k < z.length) : (mix z m k).set k z[k] = mix z m (k + 1) := by
  unfold mix
  rw [List.set_append_right _ _ (by simp; omega)]
  have e : k - (z.take k).length = 0 := by simp; omega
  rw [e, List.drop_eq_getElem_cons hk, List.set_cons_zero, take_succ_get z k hz, List.append_assoc]
  rfl
theorem mix_zero {α : Type} (z m : List α) : mix z m 0 = m := by simp [mix]
theorem mix_all {α : Type} {z m : List α} (h : z.length = m.length) : mix z m m.length = z := by simp [mix, ← h]
end Go.Proofs.Ytpkkkigiiaegfaa
