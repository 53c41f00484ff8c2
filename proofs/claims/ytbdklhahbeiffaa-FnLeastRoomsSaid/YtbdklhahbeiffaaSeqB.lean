/-
  SequenceFor, the program's and the reference's.
-/
import Derived.Test.YtbdklhahbeiffaaSeq
import Derived.Test.YtbdklhahbeiffaaOrdH
namespace Go.Proofs.Ytbdklhahbeiffaa
open Go.RowKit
set_option linter.unusedVariables false
set_option linter.unusedSimpArgs false

def sumI : List Int → Int
  | [] => 0
  | x :: l => x + sumI l
theorem sumI_app (l m : List Int) : sumI (l ++ m) = sumI l + sumI m := by
  induction l with
  | nil => simp [sumI]
  | cons x l ih => simp only [List.cons_append, sumI, ih]; omega
theorem sumI_take (l : List Int) (k : Nat) (h : k < l.length) : sumI (l.take (k + 1)) = sumI (l.take k) + l[k] := by
  rw [take_succ_get _ _ h, sumI_app]
  simp [sumI]
theorem sumI_set (l : List Int) : ∀ (e : Nat) (x : Int), e < l.length → sumI (l.set e x) = sumI l - l.getD e 0 + x := by
  induction l with
  | nil => intro e x h; simp at h
  | cons a l ih =>
    intro e x h
    cases e with
    | zero => simp [sumI]; omega
    | succ e =>
      have := ih e x (by simpa using h)
      simp only [List.set_cons_succ, sumI, List.getD_cons_succ, this]
      omega
theorem sumI_bd (l : List Int) (h : ∀ x ∈ l, 0 ≤ x ∧ x ≤ 100) : 0 ≤ sumI l ∧ sumI l ≤ 100 * l.length := by
  induction l with
  | nil => simp [sumI]
  | cons a l ih =>
    have h1 := ih fun x hx => h x (by simp [hx])
    have h2 := h a (by simp)
    simp only [sumI, List.length_cons]
    omega
/-- The least enabled event that has to fire still. -/
def pickF (n : Nat) (gp : List Place) (left m : List Int) : Option Nat := (List.range n).find? fun e => decide (0 < left.getD e 0) && enB gp m (e : Int)
def wantF (left : List Int) (x : Int) : Bool := decide (0 < left.getD x.toNat 0)
theorem pick_find (n : Nat) (gp : List Place) (left m : List Int) : (enL gp m n).find? (wantF left) = (pickF n gp left m).map fun x : Nat => (x : Int) := by
  unfold enL pickF
  rw [List.find?_filter, List.find?_map]
  congr 2
  funext e
  simp [wantF, Bool.and_comm]
theorem pick_none {n : Nat} {gp : List Place} {left m : List Int} (h : pickF n gp left m = none) : idxP (wantF left) (enL gp m n) = -1 := by
  have h1 := pick_find n gp left m
  rw [h] at h1
  unfold idxP
  have h2 : (enL gp m n).findIdx? (wantF left) = none := by
    rw [List.findIdx?_eq_none_iff]
    intro x hx
    have := List.find?_eq_none.1 (by simpa using h1) x hx
    simpa using this
  rw [h2]
theorem pick_some {n : Nat} {gp : List Place} {left m : List Int} {e : Nat} (h : pickF n gp left m = some e) : ∃ (j : Nat) (hj : j < (enL gp m n).length), idxP (wantF left) (enL gp m n) = (j : Int) ∧ (enL gp m n)[j] = (e : Int) := by
  have h1 := pick_find n gp left m
  rw [h] at h1
  obtain ⟨h2, j, hj, h3, h4⟩ := List.find?_eq_some_iff_getElem.1 h1
  refine ⟨j, hj, ?_, h3⟩
  unfold idxP
  have h5 : (enL gp m n).findIdx? (wantF left) = some j := by
    rw [List.findIdx?_eq_some_iff_getElem]
    exact ⟨hj, by rw [h3]; exact h2, fun i hi => by simpa using h4 i hi⟩
  rw [h5]
theorem pick_in {n : Nat} {gp : List Place} {left m : List Int} {e : Nat} (h : pickF n gp left m = some e) : e < n ∧ 0 < left.getD e 0 ∧ enB gp m (e : Int) = true := by
  unfold pickF at h
  have h1 := List.find?_some h
  simp only [Bool.and_eq_true, decide_eq_true_eq] at h1
  exact ⟨List.mem_range.1 (List.mem_of_find?_eq_some h), h1⟩
/-- The events that are fired, and the code. -/
def sfF (n : Nat) (gp : List Place) : Nat → List Int → List Int → List Int → List Int × Int
  | 0, _, _, out => (out, 0)
  | f + 1, left, m, out => match pickF n gp left m with
    | none => ([], 5)
    | some e => if okMarking gp (fireM gp m e) = false then ([], 3) else sfF n gp f (left.set e (left.getD e 0 - 1)) (fireM gp m e) (out ++ [(e : Int)])
theorem sfF_none {n : Nat} {gp : List Place} {f : Nat} {left m out : List Int} (hf : 0 < f) (h : pickF n gp left m = none) : sfF n gp f left m out = ([], 5) := by
  obtain ⟨g, rfl⟩ : ∃ g, f = g + 1 := ⟨f - 1, by omega⟩
  simp [sfF, h]
theorem sfF_bad {n : Nat} {gp : List Place} {f : Nat} {left m out : List Int} {e : Nat} (hf : 0 < f) (h : pickF n gp left m = some e) (h2 : okMarking gp (fireM gp m e) = false) : sfF n gp f left m out = ([], 3) := by
  obtain ⟨g, rfl⟩ : ∃ g, f = g + 1 := ⟨f - 1, by omega⟩
  simp [sfF, h, h2]
theorem sfF_go {n : Nat} {gp : List Place} {left m out : List Int} {e : Nat} (hf : 0 < sumI left) (he : e < left.length) (h : pickF n gp left m = some e) (h2 : okMarking gp (fireM gp m e) = true) :
    sfF n gp (sumI left).toNat left m out = sfF n gp (sumI (left.set e (left.getD e 0 - 1))).toNat (left.set e (left.getD e 0 - 1)) (fireM gp m e) (out ++ [(e : Int)]) := by
  have h3 := sumI_set left e (left.getD e 0 - 1) he
  obtain ⟨g, hg⟩ : ∃ g, (sumI left).toNat = g + 1 := ⟨(sumI left).toNat - 1, by omega⟩
  rw [hg, show (sumI (left.set e (left.getD e 0 - 1))).toNat = g by omega]
  simp [sfF, h, h2]
theorem sfF_len (n : Nat) (gp : List Place) : ∀ (f : Nat) (left m out : List Int), (sfF n gp f left m out).1.length ≤ out.length + f := by
  intro f
  induction f with
  | zero => intro left m out; simp [sfF]
  | succ f ih =>
    intro left m out
    simp only [sfF]
    cases pickF n gp left m with
    | none => simp
    | some e =>
      simp only
      split
      · simp
      · have := ih (left.set e (left.getD e 0 - 1)) (fireM gp m e) (out ++ [(e : Int)])
        simp only [List.length_append, List.length_cons, List.length_nil] at this
        omega
/-- What is left to fire. -/
structure LeftOk (n : Nat) (left : List Int) : Prop where
  len : left.length = n
  bd : ∀ x ∈ left, 0 ≤ x ∧ x ≤ 100
theorem LeftOk.step {n : Nat} {left : List Int} (h : LeftOk n left) (e : Nat) (he : 0 < left.getD e 0) : LeftOk n (left.set e (left.getD e 0 - 1)) := by
  refine ⟨by simp [h.len], fun x hx => ?_⟩
  rcases List.mem_or_eq_of_mem_set hx with hx | rfl
  · exact h.bd x hx
  · by_cases hi : e < left.length
    · have h1 : left.getD e 0 = left[e] := by simp [List.getD, List.getElem?_eq_getElem hi]
      have h2 := h.bd _ (List.getElem_mem hi)
      omega
    · simp [List.getD, List.getElem?_eq_none (Nat.le_of_not_lt hi)] at he
/-- What SequenceFor gives. -/
def seqForF (ge : Int) (gp : List Place) (l : List Int) : List Int × Int :=
  if okGraph ge gp = false then ([], 1) else if (decide ((l.length : Int) = ge) && allB l 0 100 && decide (sumI l ≤ 100)) = false then ([], 2) else sfF ge.toNat gp (sumI l).toNat l (firstF gp) []
theorem seqForF_len (ge : Int) (gp : List Place) (l : List Int) : (seqForF ge gp l).1.length ≤ 1048576 := by
  unfold seqForF
  split
  · simp
  · split
    · simp
    · rename_i h
      have h1 : decide (sumI l ≤ 100) = true := by
        cases hs : decide (sumI l ≤ 100)
        · rw [hs] at h; simp at h
        · rfl
      have h2 := of_decide_eq_true h1
      have := sfF_len ge.toNat gp (sumI l).toNat l (firstF gp) []
      simp only [List.length_nil] at this
      omega
theorem seqForF_go {n : Nat} {gp : List Place} {l : List Int} (hok : okGraph n gp = true) (h : (decide ((l.length : Int) = (n : Int)) && allB l 0 100 && decide (sumI l ≤ 100)) = true) : seqForF n gp l = sfF n gp (sumI l).toNat l (firstF gp) [] ∧ LeftOk n l ∧ sumI l ≤ 100 := by
  refine ⟨?_, ?_, ?_⟩
  · unfold seqForF
    rw [hok, h]
    rfl
  · simp only [Bool.and_eq_true, decide_eq_true_eq] at h
    refine ⟨by omega, fun x hx => ?_⟩
    exact (inB_iff _ _ _).1 (List.all_eq_true.1 h.1.2 x hx)
  · simp only [Bool.and_eq_true, decide_eq_true_eq] at h
    exact h.2
/-- The least of the events from j on that has a property, or -1. -/
def pkF (n : Nat) (P : Nat → Bool) (j : Nat) : Int := match ((List.range n).drop j).find? P with | some e => (e : Int) | none => -1
theorem pkF_end (n : Nat) (P : Nat → Bool) : pkF n P n = -1 := by
  unfold pkF
  rw [List.drop_of_length_le (by simp)]
  rfl
theorem pkF_step (n : Nat) (P : Nat → Bool) (j : Nat) (h : j < n) : pkF n P j = if P j = true then (j : Int) else pkF n P (j + 1) := by
  unfold pkF
  rw [List.drop_eq_getElem_cons (by simpa using h), List.find?_cons]
  simp only [List.getElem_range]
  cases P j <;> simp
theorem pkF_all (n : Nat) (gp : List Place) (left m : List Int) : pkF n (fun e => decide (0 < left.getD e 0) && enB gp m (e : Int)) 0 = match pickF n gp left m with | some e => (e : Int) | none => -1 := by
  unfold pkF pickF
  rw [List.drop_zero]
end Go.Proofs.Ytbdklhahbeiffaa
namespace Go.Proofs.Ytbdklhahbeiffaa
open Go.RowKit
set_option linter.unusedVariables false
set_option linter.unusedSimpArgs false

set_option maxHeartbeats 1000000 in
set_option maxRecDepth 100000 in
theorem impl_total (v : Value) (l : List Int) (w : World) (h0 : Lst intCell 1 w w.heap.size v l) (hb : Hid (∀ x ∈ l, 0 ≤ x ∧ x ≤ 100)) (hl : l.length ≤ 1000) :
    Calls Try.prog 60 #[v] w fun r w' => r = .returned (.int .i64 (sumI l)) ∧ w = w' := by
  obtain ⟨A, c, rfl⟩ := h0.shape
  go_enter Try.func60, Try.ntmps60
  go_wp2
  go_loop [3, 5, 8] (fun s _ i => ∃ k : Nat, k ≤ l.length ∧ i = .int .i64 k ∧ s = .int .i64 (sumI (l.take k))) (fun _ _ i => l.length - (intOf i).toNat)
  case atStart => exact ⟨0, Nat.zero_le _, rfl, by rw [List.take_zero]; rfl⟩
  case round =>
    obtain ⟨k, hk, rfl, rfl⟩ := hrel
    by_cases hlt : k < l.length
    · obtain ⟨b, off, hA, -, d0⟩ := ints_at h0 k hlt
      cases hA
      have hT := Lib.hid (sumI_take l k hlt)
      have h1 := sumI_bd (l.take k) (fun x hx => hb.out x (List.mem_of_mem_take hx))
      have h2 := hb.out _ (List.getElem_mem hlt)
      rw [List.length_take, Nat.min_eq_left hk] at h1
      generalize sumI (l.take k) = s at *
      go_wp2
      go_round
      case rel => exact ⟨k + 1, hlt, by go_num, by rw [hT.out]⟩
      case measure => simp [intOf]; omega
    · obtain rfl : k = l.length := by omega
      rw [List.take_length]
      go_wp2
      go_ret
      exact ⟨rfl, rfl⟩
set_option maxHeartbeats 1000000 in
set_option maxRecDepth 100000 in
theorem spec_l16Sum (v : Value) (l : List Int) (w : World) (h0 : Lst intCell 1 w w.heap.size v l) (hb : Hid (∀ x ∈ l, 0 ≤ x ∧ x ≤ 100)) (hl : l.length ≤ 1000) :
    Calls Try.prog 111 #[v] w fun r w' => r = .returned (.int .i64 (sumI l)) ∧ w = w' := by
  obtain ⟨A, c, rfl⟩ := h0.shape
  go_enter Try.func111, Try.ntmps111
  go_wp2
  go_loop [3, 4] (fun s i => ∃ k : Nat, k ≤ l.length ∧ i = .int .i64 k ∧ s = .int .i64 (sumI (l.take k))) (fun _ i => l.length - (intOf i).toNat)
  case atStart => exact ⟨0, Nat.zero_le _, rfl, by rw [List.take_zero]; rfl⟩
  case round =>
    obtain ⟨k, hk, rfl, rfl⟩ := hrel
    by_cases hlt : k < l.length
    · obtain ⟨b, off, hA, -, d0⟩ := ints_at h0 k hlt
      cases hA
      have hT := Lib.hid (sumI_take l k hlt)
      have h1 := sumI_bd (l.take k) (fun x hx => hb.out x (List.mem_of_mem_take hx))
      have h2 := hb.out _ (List.getElem_mem hlt)
      rw [List.length_take, Nat.min_eq_left hk] at h1
      generalize sumI (l.take k) = s at *
      go_wp2
      go_round
      case rel => exact ⟨k + 1, hlt, by go_num, by rw [hT.out]⟩
      case measure => simp [intOf]; omega
    · obtain rfl : k = l.length := by omega
      rw [List.take_length]
      go_wp2
      go_ret
      exact ⟨rfl, rfl⟩
end Go.Proofs.Ytbdklhahbeiffaa
