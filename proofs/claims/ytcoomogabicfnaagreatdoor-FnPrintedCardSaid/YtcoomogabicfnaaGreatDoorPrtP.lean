/-
  Printed lines, as both sides build them. Plain Lean.
-/
import Derived.Test.YtcoomogabicfnaaGreatDoorLang
namespace Go.Proofs.YtcoomogabicfnaaGreatDoor
open Go.RowKit
set_option linter.unusedVariables false
set_option linter.unusedSimpArgs false
def bSt : ByteArray := ⟨#[115, 116, 97, 116, 105, 111, 110, 32]⟩
theorem line_stat_eq (nm : ByteArray) (p : Place) : ((((((⟨#[115, 116, 97, 116, 105, 111, 110, 32]⟩ : ByteArray) ++ nm) ++ ⟨#[32]⟩) ++ decB p.delay) ++ ⟨#[32]⟩) ++ decB p.tokens) ++ ⟨#[10]⟩ = lineT (statW nm p) := by
  apply bext
  simp only [lineT_data, statW, joinB, List.map_cons, List.map_nil, Lib.join_cons, Lib.joinTail, ByteArray.data_append, Array.toList_append, List.flatten_cons, List.flatten_nil, wStation, List.toList_toArray]
  simp
theorem line_move_eq (N : List ByteArray) (p : Place) (h : p.tokens = 0) : (((((⟨#[109, 111, 118, 101, 32]⟩ : ByteArray) ++ nmAt N p.src) ++ ⟨#[32]⟩) ++ nmAt N p.dst) ++ ⟨#[32]⟩) ++ decB p.delay ++ ⟨#[10]⟩ = lineT (restW N p) := by
  apply bext
  unfold restW
  rw [if_pos h]
  simp only [lineT_data, joinB, List.map_cons, List.map_nil, Lib.join_cons, Lib.joinTail, ByteArray.data_append, Array.toList_append, List.flatten_cons, List.flatten_nil, wMove, List.toList_toArray]
  simp
theorem line_cart_eq (N : List ByteArray) (p : Place) (h : ¬ p.tokens = 0) : (((((((⟨#[99, 97, 114, 116, 32]⟩ : ByteArray) ++ nmAt N p.dst) ++ ⟨#[32]⟩) ++ nmAt N p.src) ++ ⟨#[32]⟩) ++ decB p.delay) ++ ⟨#[32]⟩) ++ decB p.tokens ++ ⟨#[10]⟩ = lineT (restW N p) := by
  apply bext
  unfold restW
  rw [if_neg h]
  simp only [lineT_data, joinB, List.map_cons, List.map_nil, Lib.join_cons, Lib.joinTail, ByteArray.data_append, Array.toList_append, List.flatten_cons, List.flatten_nil, wCart, List.toList_toArray]
  simp
theorem app_assoc (a b c : ByteArray) : a ++ b ++ c = a ++ (b ++ c) := ByteArray.append_assoc
theorem out_stat (o nm : ByteArray) (p : Place) : (((((((o ++ ⟨#[115, 116, 97, 116, 105, 111, 110, 32]⟩) ++ nm) ++ ⟨#[32]⟩) ++ decB p.delay) ++ ⟨#[32]⟩) ++ decB p.tokens) ++ ⟨#[10]⟩) = o ++ lineT (statW nm p) := by
  rw [← line_stat_eq]
  simp only [app_assoc]
theorem out_move (o : ByteArray) (N : List ByteArray) (p : Place) (h : p.tokens = 0) : ((((((o ++ ⟨#[109, 111, 118, 101, 32]⟩) ++ nmAt N p.src) ++ ⟨#[32]⟩) ++ nmAt N p.dst) ++ ⟨#[32]⟩) ++ decB p.delay ++ ⟨#[10]⟩) = o ++ lineT (restW N p) := by
  rw [← line_move_eq N p h]
  simp only [app_assoc]
theorem out_cart (o : ByteArray) (N : List ByteArray) (p : Place) (h : ¬ p.tokens = 0) : ((((((((o ++ ⟨#[99, 97, 114, 116, 32]⟩) ++ nmAt N p.dst) ++ ⟨#[32]⟩) ++ nmAt N p.src) ++ ⟨#[32]⟩) ++ decB p.delay) ++ ⟨#[32]⟩) ++ decB p.tokens ++ ⟨#[10]⟩) = o ++ lineT (restW N p) := by
  rw [← line_cart_eq N p h]
  simp only [app_assoc]
/-- The text behind k stations; behind all stations and k places. -/
def outS (gp : List Place) (N : List ByteArray) (k : Nat) : ByteArray := catB ((statsF gp N k).map lineT)
def outR (gp : List Place) (N : List ByteArray) (k : Nat) : ByteArray := catB ((statsF gp N N.length ++ restsF gp N (loopsF gp N.length) k).map lineT)
theorem statsF_succ (gp : List Place) (N : List ByteArray) (k : Nat) : statsF gp N (k + 1) = statsF gp N k ++ [statW (N.getD k ⟨#[]⟩) (pAt gp (loopF gp k))] := by simp [statsF, List.range_succ]
theorem loopsF_succ (gp : List Place) (k : Nat) : loopsF gp (k + 1) = loopsF gp k ++ [loopF gp k] := by simp [loopsF, List.range_succ]
theorem loopsF_len (gp : List Place) (k : Nat) : (loopsF gp k).length = k := by simp [loopsF]
theorem outS_zero (gp : List Place) (N : List ByteArray) : outS gp N 0 = ⟨#[]⟩ := rfl
theorem outS_succ (gp : List Place) (N : List ByteArray) (k : Nat) : outS gp N (k + 1) = outS gp N k ++ lineT (statW (N.getD k ⟨#[]⟩) (pAt gp (loopF gp k))) := by
  unfold outS
  rw [statsF_succ, List.map_append, List.map_cons, List.map_nil, catB_snoc]
theorem outR_zero (gp : List Place) (N : List ByteArray) : outR gp N 0 = outS gp N N.length := by simp [outR, outS, restsF, othersF]
theorem othersF_succ (gp : List Place) (used : List Int) (k : Nat) : othersF gp used (k + 1) = othersF gp used k ++ if used.contains (k : Int) = true then [] else [gp.getD k ⟨0, 0, 0, 0⟩] := by
  unfold othersF
  rw [List.range_succ, List.filter_append, List.map_append]
  by_cases h : used.contains (k : Int) = true
  · rw [if_pos h, List.filter_cons_of_neg (by rw [h]; simp)]
    rfl
  · rw [if_neg h, List.filter_cons_of_pos (by simpa using h)]
    rfl
theorem outR_used (gp : List Place) (N : List ByteArray) (k : Nat) (h : (loopsF gp N.length).contains (k : Int) = true) : outR gp N (k + 1) = outR gp N k := by
  unfold outR restsF
  rw [othersF_succ, if_pos h, List.append_nil]
theorem outR_next (gp : List Place) (N : List ByteArray) (k : Nat) (hk : k < gp.length) (h : (loopsF gp N.length).contains (k : Int) = false) : outR gp N (k + 1) = outR gp N k ++ lineT (restW N gp[k]) := by
  unfold outR restsF
  rw [othersF_succ, if_neg (by rw [h]; simp), List.map_append (f := restW N), ← List.append_assoc, List.map_append (l₂ := List.map (restW N) [_])]
  rw [List.getD_eq_getElem?_getD, List.getElem?_eq_getElem hk]
  simp only [Option.getD_some, List.map_cons, List.map_nil]
  rw [catB_snoc]
theorem outR_all (gp : List Place) (N : List ByteArray) : outR gp N gp.length = printT gp N := rfl
theorem decN_size {n : Int} {m : Nat} (h0 : 0 ≤ n) (h1 : n ≤ m) : (decB n).size ≤ m + 1 := by
  obtain ⟨u, rfl⟩ := Int.eq_ofNat_of_zero_le h0
  have := decB_size u
  omega
theorem nameOk_size {s : ByteArray} (h : nameOk s = true) : s.size ≤ 8 := by
  unfold nameOk at h
  rw [Bool.and_eq_true, inB_iff] at h
  omega
theorem lineT_stat_size {nm : ByteArray} {p : Place} (h : nm.size ≤ 8) (hd : 0 ≤ p.delay ∧ p.delay ≤ 1000) (ht : 0 ≤ p.tokens ∧ p.tokens ≤ 5) : (lineT (statW nm p)).size ≤ 1100 := by
  rw [← line_stat_eq]
  simp only [ByteArray.size_append]
  have h1 := decN_size (m := 1000) hd.1 hd.2
  have h2 := decN_size (m := 5) ht.1 ht.2
  have e1 : (⟨#[115, 116, 97, 116, 105, 111, 110, 32]⟩ : ByteArray).size = 8 := rfl
  have e2 : (⟨#[32]⟩ : ByteArray).size = 1 := rfl
  have e3 : (⟨#[10]⟩ : ByteArray).size = 1 := rfl
  omega
theorem lineT_rest_size {N : List ByteArray} {p : Place} (h : (nmAt N p.src).size ≤ 8) (h' : (nmAt N p.dst).size ≤ 8) (hd : 0 ≤ p.delay ∧ p.delay ≤ 1000) (ht : 0 ≤ p.tokens ∧ p.tokens ≤ 5) : (lineT (restW N p)).size ≤ 1100 := by
  have h1 := decN_size (m := 1000) hd.1 hd.2
  have h2 := decN_size (m := 5) ht.1 ht.2
  have e2 : (⟨#[32]⟩ : ByteArray).size = 1 := rfl
  have e3 : (⟨#[10]⟩ : ByteArray).size = 1 := rfl
  by_cases h0 : p.tokens = 0
  · rw [← line_move_eq N p h0]
    simp only [ByteArray.size_append]
    have e1 : (⟨#[109, 111, 118, 101, 32]⟩ : ByteArray).size = 5 := rfl
    omega
  · rw [← line_cart_eq N p h0]
    simp only [ByteArray.size_append]
    have e1 : (⟨#[99, 97, 114, 116, 32]⟩ : ByteArray).size = 5 := rfl
    omega
theorem catB_size {l : List ByteArray} {M : Nat} (h : ∀ x ∈ l, x.size ≤ M) : (catB l).size ≤ l.length * M := by
  have key : ∀ (l : List ByteArray) (a : ByteArray), (∀ x ∈ l, x.size ≤ M) → (l.foldl (· ++ ·) a).size ≤ a.size + l.length * M := by
    intro l
    induction l with
    | nil => intro a _; simp
    | cons x l ih =>
      intro a h
      have h1 := ih (a ++ x) (fun y hy => h y (by simp [hy]))
      rw [ByteArray.size_append] at h1
      have h2 := h x (by simp)
      rw [List.foldl_cons, List.length_cons, Nat.add_mul]
      omega
  have h1 := key l ⟨#[]⟩ h
  have e : (⟨#[]⟩ : ByteArray).size = 0 := rfl
  rw [e, Nat.zero_add] at h1
  exact h1
theorem nmAt_size {N : List ByteArray} (h : ∀ s ∈ N, nameOk s = true) (i : Int) : (nmAt N i).size ≤ 8 := by
  unfold nmAt
  rw [List.getD_eq_getElem?_getD]
  cases hg : N[i.toNat]? with
  | none => exact Nat.zero_le _
  | some x => exact nameOk_size (h x (List.mem_of_getElem? hg))
theorem pAt_ok {ge : Int} {gp : List Place} (h : okGraph ge gp = true) (i : Int) : (0 ≤ (pAt gp i).delay ∧ (pAt gp i).delay ≤ 1000) ∧ (0 ≤ (pAt gp i).tokens ∧ (pAt gp i).tokens ≤ 5) := by
  unfold pAt
  rw [List.getD_eq_getElem?_getD]
  cases hg : gp[i.toNat]? with
  | none => simp
  | some x => exact (okGraph_place h (List.mem_of_getElem? hg)).2.2
theorem outR_size {ge : Int} {gp : List Place} {N : List ByteArray} (h : okGraph ge gp = true) (hN : ∀ s ∈ N, nameOk s = true) (hl : N.length ≤ 10) (k : Nat) (hk : k ≤ 30) : (outR gp N k).size ≤ 44000 := by
  unfold outR
  have h1 := catB_size (l := (statsF gp N N.length ++ restsF gp N (loopsF gp N.length) k).map lineT) (M := 1100) (by
    intro x hx
    obtain ⟨ws, hw, rfl⟩ := List.mem_map.1 hx
    rcases List.mem_append.1 hw with hw | hw
    · unfold statsF at hw
      obtain ⟨e, _, rfl⟩ := List.mem_map.1 hw
      have h2 := pAt_ok h (loopF gp e)
      exact lineT_stat_size (by have := nmAt_size hN (e : Int); simpa [nmAt] using this) h2.1 h2.2
    · unfold restsF at hw
      obtain ⟨p, hp, rfl⟩ := List.mem_map.1 hw
      unfold othersF at hp
      obtain ⟨i, _, rfl⟩ := List.mem_map.1 hp
      have h2 := pAt_ok h (i : Int)
      simp only [pAt, Int.toNat_natCast] at h2
      exact lineT_rest_size (nmAt_size hN _) (nmAt_size hN _) h2.1 h2.2)
  have h2 : ((statsF gp N N.length ++ restsF gp N (loopsF gp N.length) k).map lineT).length ≤ 40 := by
    have h3 : (othersF gp (loopsF gp N.length) k).length ≤ k := by
      unfold othersF
      rw [List.length_map]
      exact Nat.le_trans (List.length_filter_le _ _) (by simp)
    simp [statsF, restsF]
    omega
  have := Nat.mul_le_mul_right 1100 h2
  omega
theorem outS_size {ge : Int} {gp : List Place} {N : List ByteArray} (h : okGraph ge gp = true) (hN : ∀ s ∈ N, nameOk s = true) (k : Nat) (hk : k ≤ 10) : (outS gp N k).size ≤ 11000 := by
  unfold outS
  have h1 := catB_size (l := (statsF gp N k).map lineT) (M := 1100) (by
    intro x hx
    obtain ⟨ws, hw, rfl⟩ := List.mem_map.1 hx
    unfold statsF at hw
    obtain ⟨e, _, rfl⟩ := List.mem_map.1 hw
    have h2 := pAt_ok h (loopF gp e)
    exact lineT_stat_size (by have := nmAt_size hN (e : Int); simpa [nmAt] using this) h2.1 h2.2)
  have h2 : ((statsF gp N k).map lineT).length = k := by simp [statsF]
  rw [h2] at h1
  have := Nat.mul_le_mul_right 1100 hk
  omega
/-- The first way in which printing can fail. -/
theorem loops_bad {gp : List Place} {n e : Nat} (he : e < n) (h : loopF gp e < 0) : (loopsF gp n).all (fun i => decide (0 ≤ i)) = false := by
  rw [List.all_eq_false]
  exact ⟨loopF gp e, List.mem_map.2 ⟨e, List.mem_range.2 he, rfl⟩, by simp; omega⟩
theorem loops_good {gp : List Place} {n : Nat} (h : ∀ e, e < n → 0 ≤ loopF gp e) : (loopsF gp n).all (fun i => decide (0 ≤ i)) = true := by
  rw [List.all_eq_true]
  intro x hx
  obtain ⟨e, he, rfl⟩ := List.mem_map.1 hx
  simpa using h e (List.mem_range.1 he)
end Go.Proofs.YtcoomogabicfnaaGreatDoor
