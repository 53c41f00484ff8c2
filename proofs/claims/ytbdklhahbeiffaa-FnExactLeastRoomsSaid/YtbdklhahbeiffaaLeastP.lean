/-
  All lists of rooms in lexicographic order, and the best of those that suffice: plain Lean, no program in sight.
-/
import Derived.Test.YtbdklhahbeiffaaSuf
namespace Go.Proofs.Ytbdklhahbeiffaa
open Go.RowKit
set_option linter.unusedVariables false
set_option linter.unusedSimpArgs false
def roomLo (gp : List Place) (i : Int) : Int := max 1 (plAt gp i).tokens
def roomHi (gp : List Place) (i : Int) : Int := min 8 ((plAt gp i).tokens + 5)
def roomN (gp : List Place) (i : Int) : Nat := (roomHi gp i + 1 - roomLo gp i).toNat
/-- All lists of rooms, in lexicographic order. -/
def lexR (gp : List Place) : List Int → List (List Int)
  | [] => [[]]
  | i :: l => (List.range (roomN gp i)).flatMap fun (t : Nat) => (lexR gp l).map fun r => (roomLo gp i + t) :: r
def addL (l : List Int) : Int := l.sum
/-- One list more: the better one of the two. -/
def stepB (suf : List Int → Bool) (best r : List Int) : List Int := if (best = [] ∨ addL r < addL best) ∧ suf r = true then r else best
def leastF (suf : List Int → Bool) (gp : List Place) (l : List Int) : List Int := (lexR gp l).foldl (stepB suf) []
/-- The reference's recursion: the first rooms are given. -/
def leastS (suf : List Int → Bool) (gp : List Place) (p rest best : List Int) : List Int := ((lexR gp rest).map (p ++ ·)).foldl (stepB suf) best
theorem leastS_nil (suf : List Int → Bool) (gp : List Place) (p best : List Int) : leastS suf gp p [] best = stepB suf best p := by simp [leastS, lexR]
theorem leastS_cons (suf : List Int → Bool) (gp : List Place) (p best : List Int) (i : Int) (l : List Int) :
    leastS suf gp p (i :: l) best = (List.range (roomN gp i)).foldl (fun b (t : Nat) => leastS suf gp (p ++ [roomLo gp i + t]) l b) best := by
  unfold leastS
  rw [lexR, List.map_flatMap, List.foldl_flatMap]
  congr 1
  funext b t
  rw [List.map_map]
  congr 1
  apply List.map_congr_left
  intro r _
  simp
theorem leastS_all (suf : List Int → Bool) (gp : List Place) (l : List Int) : leastS suf gp [] l [] = leastF suf gp l := by
  unfold leastS leastF
  congr 1
  simp
theorem lexR_len {gp : List Place} : ∀ {l r : List Int}, r ∈ lexR gp l → r.length = l.length := by
  intro l
  induction l with
  | nil => intro r h; simp [lexR] at h; simp [h]
  | cons i l ih =>
    intro r h
    simp only [lexR, List.mem_flatMap, List.mem_map] at h
    obtain ⟨t, _, q, hq, rfl⟩ := h
    simp [ih hq]
theorem lexR_mem {gp : List Place} : ∀ {l r : List Int}, r ∈ lexR gp l ↔ r.length = l.length ∧ ∀ k (h1 : k < l.length) (h2 : k < r.length), roomLo gp l[k] ≤ r[k] ∧ r[k] ≤ roomHi gp l[k] := by
  intro l
  induction l with
  | nil => intro r; simp [lexR]
  | cons i l ih =>
    intro r
    simp only [lexR, List.mem_flatMap, List.mem_map, List.mem_range]
    constructor
    · rintro ⟨t, ht, q, hq, rfl⟩
      obtain ⟨e, hall⟩ := ih.1 hq
      refine ⟨by simp [e], fun k h1 h2 => ?_⟩
      cases k with
      | zero =>
        simp only [List.getElem_cons_zero]
        unfold roomN at ht
        omega
      | succ k =>
        simp only [List.getElem_cons_succ]
        exact hall k _ _
    · rintro ⟨e, hall⟩
      cases r with
      | nil => simp at e
      | cons x r =>
        have h0 := hall 0 (by simp) (by simp)
        simp only [List.getElem_cons_zero] at h0
        refine ⟨(x - roomLo gp i).toNat, by unfold roomN; omega, r, ih.2 ⟨by simpa using e, fun k h1 h2 => ?_⟩, ?_⟩
        · have := hall (k + 1) (by simpa using h1) (by simpa using h2)
          simpa using this
        · congr 1
          omega
theorem lexR_ok {gp : List Place} {l r : List Int} : r ∈ lexR gp l ↔ roomsOk gp l r = true := by
  rw [lexR_mem]
  unfold roomsOk roomsUp
  rw [Bool.and_eq_true, decide_eq_true_eq, List.all_eq_true]
  constructor
  · rintro ⟨e, h⟩
    refine ⟨e, fun k hk => ?_⟩
    have hk' := List.mem_range.1 hk
    have := h k hk' (by omega)
    rw [inB_iff, List.getD_eq_getElem?_getD, List.getD_eq_getElem?_getD, List.getElem?_eq_getElem hk', List.getElem?_eq_getElem (show k < r.length by omega)]
    exact this
  · rintro ⟨e, h⟩
    refine ⟨e, fun k h1 h2 => ?_⟩
    have := h k (List.mem_range.2 h1)
    rw [inB_iff, List.getD_eq_getElem?_getD, List.getD_eq_getElem?_getD, List.getElem?_eq_getElem h1, List.getElem?_eq_getElem h2] at this
    exact this
/-- What a fold of steps leaves. -/
theorem stepB_fold (suf : List Int → Bool) : ∀ (L : List (List Int)) (b0 : List Int), (∀ r ∈ L, r ≠ []) →
    let b := L.foldl (stepB suf) b0
    (b = b0 ∨ b ∈ L ∧ suf b = true) ∧ (b0 ≠ [] → b ≠ [] ∧ addL b ≤ addL b0) ∧ (b = [] → ∀ r ∈ L, suf r = false) ∧ (b ≠ [] → ∀ r ∈ L, suf r = true → addL b ≤ addL r) := by
  intro L
  induction L with
  | nil => intro b0 _; simp
  | cons r L ih =>
    intro b0 hne
    have hr := hne r (by simp)
    obtain ⟨h1, h2, h3, h4⟩ := ih (stepB suf b0 r) (fun q hq => hne q (by simp [hq]))
    simp only [List.foldl_cons]
    generalize hb : L.foldl (stepB suf) (stepB suf b0 r) = b at *
    by_cases hc : (b0 = [] ∨ addL r < addL b0) ∧ suf r = true
    · have e : stepB suf b0 r = r := by unfold stepB; rw [if_pos hc]
      rw [e] at h1 h2
      obtain ⟨p1, p2⟩ := h2 hr
      refine ⟨?_, fun hb0 => ⟨p1, ?_⟩, fun hb0 => absurd hb0 p1, fun _ q hq hs => ?_⟩
      · rcases h1 with h1 | ⟨h1, hs⟩
        · exact .inr ⟨by rw [h1]; simp, by rw [h1]; exact hc.2⟩
        · exact .inr ⟨by simp [h1], hs⟩
      · rcases hc.1 with h | h
        · exact absurd h hb0
        · omega
      · rcases List.mem_cons.1 hq with rfl | hq
        · exact p2
        · exact h4 p1 q hq hs
    · have e : stepB suf b0 r = b0 := by unfold stepB; rw [if_neg hc]
      rw [e] at h1 h2
      refine ⟨?_, h2, fun hb0 q hq => ?_, fun hb1 q hq hs => ?_⟩
      · rcases h1 with h1 | ⟨h1, hs⟩
        · exact .inl h1
        · exact .inr ⟨by simp [h1], hs⟩
      · rcases List.mem_cons.1 hq with rfl | hq
        · cases hs : suf q with
          | false => rfl
          | true =>
            have hb00 : b0 ≠ [] := fun h => hc ⟨.inl h, hs⟩
            exact absurd hb0 (h2 hb00).1
        · exact h3 hb0 q hq
      · rcases List.mem_cons.1 hq with rfl | hq
        · have hb00 : b0 ≠ [] := fun h => hc ⟨.inl h, hs⟩
          have hle : addL b0 ≤ addL q := Int.not_lt.1 fun hlt => hc ⟨.inr hlt, hs⟩
          have := (h2 hb00).2
          omega
        · exact h4 hb1 q hq hs
/-- The best list suffices, is one of the lists, and has the least sum. -/
theorem leastF_best {suf : List Int → Bool} {gp : List Place} {l : List Int} (hl : l ≠ []) :
    (leastF suf gp l = [] → ∀ r, roomsOk gp l r = true → suf r = false) ∧
    (leastF suf gp l ≠ [] → roomsOk gp l (leastF suf gp l) = true ∧ suf (leastF suf gp l) = true ∧ ∀ r, roomsOk gp l r = true → suf r = true → addL (leastF suf gp l) ≤ addL r) := by
  have hne : ∀ r ∈ lexR gp l, r ≠ [] := fun r hr h => by
    have := lexR_len hr
    rw [h] at this
    exact hl (List.eq_nil_of_length_eq_zero this.symm)
  obtain ⟨h1, -, h3, h4⟩ := stepB_fold suf (lexR gp l) [] hne
  refine ⟨fun h r hr => h3 h r (lexR_ok.2 hr), fun h => ?_⟩
  rcases h1 with h1 | ⟨h1, hs⟩
  · exact absurd h1 h
  · exact ⟨lexR_ok.1 h1, hs, fun r hr hsr => h4 h r (lexR_ok.2 hr) hsr⟩
theorem addL_set : ∀ (l : List Int) (k : Nat) (h : k < l.length) (x : Int), addL (l.set k x) = addL l - l[k] + x := by
  intro l
  induction l with
  | nil => intro k h; simp at h
  | cons y l ih =>
    intro k h x
    cases k with
    | zero => simp [addL]; omega
    | succ k =>
      have := ih k (by simpa using h) x
      simp only [addL, List.set_cons_succ, List.sum_cons, List.getElem_cons_succ] at this ⊢
      omega
/-- With one less in one of the least rooms they do not suffice any more. -/
theorem least_less {suf : List Int → Bool} {gp : List Place} {l : List Int} (hl : l ≠ []) (hne : leastF suf gp l ≠ []) (k : Nat) (hk : k < (leastF suf gp l).length)
    (hr : roomsOk gp l ((leastF suf gp l).set k ((leastF suf gp l)[k] - 1)) = true) : suf ((leastF suf gp l).set k ((leastF suf gp l)[k] - 1)) = false := by
  cases hs : suf ((leastF suf gp l).set k ((leastF suf gp l)[k] - 1)) with
  | false => rfl
  | true =>
    have h := ((leastF_best hl).2 hne).2.2 _ hr hs
    rw [addL_set _ k hk] at h
    omega
end Go.Proofs.Ytbdklhahbeiffaa
