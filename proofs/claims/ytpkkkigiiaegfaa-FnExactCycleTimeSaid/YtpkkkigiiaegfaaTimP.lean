/-
  Firing times, in plain Lean.
-/
import Derived.Test.YtpkkkigiiaegfaaOrdP
namespace Go.Proofs.Ytpkkkigiiaegfaa
open Go.RowKit
set_option linter.unusedVariables false
set_option linter.unusedSimpArgs false

def getT (T : List (List Int)) (i j : Nat) : Int := (T.getD i []).getD j 0
def setT (T : List (List Int)) (i j : Nat) (x : Int) : List (List Int) := T.set i ((T.getD i []).set j x)
theorem getT_eq {T : List (List Int)} {i j : Nat} (h : i < T.length) (h2 : j < T[i].length) : getT T i j = T[i][j] := by
  simp [getT, List.getD, List.getElem?_eq_getElem h, List.getElem?_eq_getElem h2]
theorem setT_eq {T : List (List Int)} {i : Nat} (h : i < T.length) (j : Nat) (x : Int) : setT T i j x = T.set i (T[i].set j x) := by
  simp [setT, List.getD, List.getElem?_eq_getElem h]
/-- One place, for the time of event e in round k. -/
def updT (k e : Nat) (T : List (List Int)) (p : Place) : List (List Int) :=
  if p.dst = (e : Int) ∧ p.tokens ≤ (k : Int) then setT T k e (max (getT T k e) (getT T (k - p.tokens.toNat) p.src.toNat + p.delay)) else T
def eventT (gp : List Place) (k e : Nat) (T : List (List Int)) : List (List Int) := gp.foldl (updT k e) T
def roundT (gp : List Place) (k : Nat) (o : List Int) (T : List (List Int)) : List (List Int) := o.foldl (fun T e => eventT gp k e.toNat T) T
/-- The firing times of the first k rounds. -/
def timT (gp : List Place) (o s : List Int) : Nat → List (List Int)
  | 0 => []
  | k + 1 => roundT gp k o (timT gp o s k ++ [s])
theorem eventT_succ (gp : List Place) (k e : Nat) (T : List (List Int)) (q : Nat) (h : q < gp.length) : eventT (gp.take (q + 1)) k e T = updT k e (eventT (gp.take q) k e T) gp[q] := by
  unfold eventT
  rw [take_succ_get _ _ h, List.foldl_append]
  rfl
theorem roundT_succ (gp : List Place) (k : Nat) (o : List Int) (T : List (List Int)) (i : Nat) (h : i < o.length) : roundT gp k (o.take (i + 1)) T = eventT gp k o[i].toNat (roundT gp k (o.take i) T) := by
  unfold roundT
  rw [take_succ_get _ _ h, List.foldl_append]
  rfl
/-- What a table is known to be: m rows of n numbers from 0 to c. -/
structure TabOk (n m c : Nat) (T : List (List Int)) : Prop where
  len : T.length = m
  row : ∀ r ∈ T, r.length = n
  bd : ∀ r ∈ T, ∀ x ∈ r, 0 ≤ x ∧ x ≤ (c : Int)
theorem TabOk.nil (n c : Nat) : TabOk n 0 c [] := ⟨rfl, by simp, by simp⟩
theorem TabOk.mono {n m c d : Nat} {T : List (List Int)} (h : TabOk n m c T) (hd : c ≤ d) : TabOk n m d T := ⟨h.len, h.row, fun r hr x hx => by have := h.bd r hr x hx; omega⟩
theorem TabOk.push {n m c : Nat} {T : List (List Int)} (h : TabOk n m c T) {s : List Int} (hs : s.length = n) (hb : ∀ x ∈ s, 0 ≤ x ∧ x ≤ (c : Int)) : TabOk n (m + 1) c (T ++ [s]) := by
  refine ⟨by simp [h.len], fun r hr => ?_, fun r hr => ?_⟩
  · rcases List.mem_append.1 hr with hr | hr
    · exact h.row r hr
    · rw [List.mem_singleton.1 hr]; exact hs
  · rcases List.mem_append.1 hr with hr | hr
    · exact h.bd r hr
    · rw [List.mem_singleton.1 hr]; exact hb
theorem TabOk.get {n m c : Nat} {T : List (List Int)} (h : TabOk n m c T) (i j : Nat) : 0 ≤ getT T i j ∧ getT T i j ≤ (c : Int) := by
  unfold getT
  by_cases hi : i < T.length
  · simp only [List.getD, List.getElem?_eq_getElem hi, Option.getD_some]
    by_cases hj : j < T[i].length
    · simp only [List.getElem?_eq_getElem hj, Option.getD_some]
      exact h.bd _ (List.getElem_mem hi) _ (List.getElem_mem hj)
    · simp [List.getElem?_eq_none (Nat.le_of_not_lt hj)]
  · simp [List.getD, List.getElem?_eq_none (Nat.le_of_not_lt hi)]
theorem TabOk.put {n m c d : Nat} {T : List (List Int)} (h : TabOk n m c T) (i j : Nat) (x : Int) (hx : 0 ≤ x ∧ x ≤ (d : Int)) (hd : c ≤ d) : TabOk n m d (setT T i j x) := by
  by_cases hi : i < T.length
  · rw [setT_eq hi]
    refine ⟨by simp [h.len], fun r hr => ?_, fun r hr y hy => ?_⟩
    · rcases List.mem_or_eq_of_mem_set hr with hr | rfl
      · exact h.row r hr
      · rw [List.length_set]; exact h.row _ (List.getElem_mem hi)
    · rcases List.mem_or_eq_of_mem_set hr with hr | rfl
      · have := h.bd r hr y hy; omega
      · rcases List.mem_or_eq_of_mem_set hy with hy | rfl
        · have := h.bd _ (List.getElem_mem hi) y hy; omega
        · exact hx
  · have : setT T i j x = T := by unfold setT; exact List.set_eq_of_length_le (Nat.le_of_not_lt hi)
    rw [this]
    exact h.mono hd
theorem TabOk.upd {n m c : Nat} {T : List (List Int)} (h : TabOk n m c T) (k e : Nat) {p : Place} (hp : 0 ≤ p.delay ∧ p.delay ≤ 1000) : TabOk n m (c + 1000) (updT k e T p) := by
  unfold updT
  have h1 := h.get k e
  have h2 := h.get (k - p.tokens.toNat) p.src.toNat
  split
  · exact h.put _ _ _ (by omega) (by omega)
  · exact h.mono (by omega)
theorem TabOk.event {n m c : Nat} {ge : Int} {gp : List Place} (hok : okGraph ge gp = true) {T : List (List Int)} (h : TabOk n m c T) (k e : Nat) : ∀ q, q ≤ gp.length → TabOk n m (c + 1000 * q) (eventT (gp.take q) k e T) := by
  intro q
  induction q with
  | zero => intro _; exact h
  | succ q ih =>
    intro hq
    rw [eventT_succ _ _ _ _ _ (by omega)]
    exact ((ih (by omega)).upd k e (okGraph_place hok (List.getElem_mem _)).2.2.1).mono (by omega)
theorem TabOk.round {n m c : Nat} {ge : Int} {gp : List Place} (hok : okGraph ge gp = true) (hgl : gp.length ≤ 30) {T : List (List Int)} (h : TabOk n m c T) (k : Nat) (o : List Int) : ∀ i, i ≤ o.length → TabOk n m (c + 30000 * i) (roundT gp k (o.take i) T) := by
  intro i
  induction i with
  | zero => intro _; exact h
  | succ i ih =>
    intro hi
    rw [roundT_succ _ _ _ _ _ (by omega)]
    have := (ih (by omega)).event hok k o[i].toNat gp.length (Nat.le_refl _)
    rw [List.take_length] at this
    exact this.mono (by omega)
theorem TabOk.times {n c : Nat} {ge : Int} {gp : List Place} (hok : okGraph ge gp = true) (hgl : gp.length ≤ 30) {o s : List Int} (ho : o.length ≤ 10) (hs : s.length = n) (hb : ∀ x ∈ s, 0 ≤ x ∧ x ≤ (c : Int)) : ∀ k, TabOk n k (c + 300000 * k) (timT gp o s k) := by
  intro k
  induction k with
  | zero => exact TabOk.nil _ _
  | succ k ih =>
    have h1 := (ih.push hs (fun x hx => by have := hb x hx; omega)).round hok hgl k o o.length (Nat.le_refl _)
    rw [List.take_length] at h1
    exact h1.mono (by omega)
theorem TabOk.lenAt {n m c : Nat} {T : List (List Int)} (h : TabOk n m c T) (i : Nat) (hi : i < T.length) : T[i].length = n := h.row _ (List.getElem_mem hi)
theorem max_if3 (a b : Int) : max a b = if a < b then b else a := by by_cases h : a < b <;> simp [h] <;> omega
theorem updT_yes (k e s tk d : Nat) (del : Int) (T : List (List Int)) (htk : tk ≤ k) (hd : k - tk = d) (hk : k < T.length) :
    updT k e T ⟨(s : Int), (e : Int), del, (tk : Int)⟩ = T.set k (T[k].set e (if getT T k e < getT T d s + del then getT T d s + del else getT T k e)) := by
  unfold updT
  rw [if_pos ⟨rfl, by show (tk : Int) ≤ (k : Int); omega⟩, setT_eq hk, max_if3]
  simp only [Int.toNat_natCast, hd]
theorem updT_no (k e : Nat) (p : Place) (T : List (List Int)) (h : ¬ (p.dst = (e : Int) ∧ p.tokens ≤ (k : Int))) : updT k e T p = T := by
  unfold updT
  rw [if_neg h]
end Go.Proofs.Ytpkkkigiiaegfaa
