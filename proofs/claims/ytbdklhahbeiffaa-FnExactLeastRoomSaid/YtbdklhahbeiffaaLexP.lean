/-
  The lists of rooms come in lexicographic order, each is followed by its next one, and passing over what is no better finds the best: plain Lean, no program in sight.
-/
import Derived.Test.YtbdklhahbeiffaaLeastP
import Derived.Test.YtbdklhahbeiffaaLoad
namespace Go.Proofs.Ytbdklhahbeiffaa
open Go.RowKit
set_option linter.unusedVariables false
set_option linter.unusedSimpArgs false
/-- Comparison of two lists in lexicographic order. -/
def cmpL : List Int → List Int → Int
  | [], [] => 0
  | [], _ :: _ => -1
  | _ :: _, [] => 1
  | a :: l, b :: m => if cmpI a b = 0 then cmpL l m else cmpI a b
theorem cmpI_self (a : Int) : cmpI a a = 0 := by simp [cmpI]
/-- The lists of rooms come in lexicographic order. -/
theorem lexR_sorted (gp : List Place) : ∀ l : List Int, (lexR gp l).Pairwise fun a b => cmpL b a = 1 := by
  intro l
  induction l with
  | nil => simp [lexR]
  | cons i l ih =>
    rw [lexR, List.pairwise_flatMap]
    refine ⟨fun t _ => ?_, ?_⟩
    · rw [List.pairwise_map]
      refine ih.imp fun {a b} h => ?_
      simpa [cmpL, cmpI_self] using h
    · refine List.pairwise_lt_range.imp fun {s t} hst x hx y hy => ?_
      simp only [List.mem_map] at hx hy
      obtain ⟨p, _, rfl⟩ := hx
      obtain ⟨q, _, rfl⟩ := hy
      have h1 : cmpI (roomLo gp i + (t : Int)) (roomLo gp i + (s : Int)) = 1 := by
        unfold cmpI
        rw [if_neg (by omega), if_pos (by omega)]
      simp [cmpL, h1]
theorem cmpL_self : ∀ l : List Int, cmpL l l = 0 := by
  intro l
  induction l with
  | nil => rfl
  | cons x l ih => simp [cmpL, cmpI_self, ih]
/-- How many lists come behind this one. -/
def leftR (gp : List Place) (l x : List Int) : Nat := (lexR gp l).length - ((lexR gp l).takeWhile fun y => decide (y ≠ x)).length
theorem leftR_eq {gp : List Place} {l x : List Int} {pre : List (List Int)} (hp : pre ++ [x] <+: lexR gp l) : leftR gp l x = (lexR gp l).length - pre.length ∧ pre.length < (lexR gp l).length := by
  have hs := (lexR_sorted gp l)
  obtain ⟨post, e⟩ := hp
  unfold leftR
  rw [← e] at hs ⊢
  rw [List.append_assoc, List.pairwise_append] at hs
  have h1 : (pre ++ [x] ++ post).takeWhile (fun y => decide (y ≠ x)) = pre := by
    rw [List.append_assoc, List.takeWhile_append_of_pos]
    · simp
    · intro y hy
      have := hs.2.2 y hy x (by simp)
      rw [decide_eq_true_eq]
      rintro rfl
      rw [cmpL_self] at this
      omega
  rw [h1]
  refine ⟨rfl, by simp⟩
/-- What the program does with one list more: it passes over one that is no better. -/
def skipB (best r : List Int) : Bool := decide (best ≠ []) && decide (0 ≤ if cmpI (addL r) (addL best) = 0 then cmpL r best else cmpI (addL r) (addL best))
theorem fold_mem (suf : List Int → Bool) : ∀ (L : List (List Int)) (b : List Int), L.foldl (stepB suf) b = b ∨ L.foldl (stepB suf) b ∈ L := by
  intro L
  induction L with
  | nil => intro b; simp
  | cons r L ih =>
    intro b
    simp only [List.foldl_cons]
    rcases ih (stepB suf b r) with h | h
    · rw [h]
      unfold stepB
      split
      · simp
      · simp
    · simp [h]
theorem skipB_eq {suf : List Int → Bool} {gp : List Place} {l : List Int} {pre : List (List Int)} {x : List Int} (hp : pre ++ [x] <+: lexR gp l) :
    skipB (pre.foldl (stepB suf) []) x = !decide (pre.foldl (stepB suf) [] = [] ∨ addL x < addL (pre.foldl (stepB suf) [])) := by
  have hs := (lexR_sorted gp l).sublist hp.sublist
  rw [List.pairwise_append] at hs
  have hm := fold_mem suf pre []
  generalize pre.foldl (stepB suf) [] = b at *
  unfold skipB
  by_cases hb : b = []
  · subst hb
    simp
  · have hc : 0 ≤ cmpL x b := by have := hs.2.2 b (hm.resolve_left hb) x (by simp); omega
    simp only [hb, not_false_eq_true, decide_true, Bool.true_and, ne_eq, false_or]
    by_cases h1 : addL x < addL b
    · have : cmpI (addL x) (addL b) = -1 := by simp [cmpI, h1]
      simp [this, h1]
    · by_cases h2 : addL b < addL x
      · have : cmpI (addL x) (addL b) = 1 := by simp [cmpI, h1, h2]
        simp [this, h1]
      · have : cmpI (addL x) (addL b) = 0 := by simp [cmpI, h1, h2]
        simp [this, h1, hc]
theorem fold_snoc (suf : List Int → Bool) (pre : List (List Int)) (x : List Int) : (pre ++ [x]).foldl (stepB suf) [] = stepB suf (pre.foldl (stepB suf) []) x := by simp
/-- The next list of rooms: the last one that can grow grows, those behind it begin anew. -/
def succR (gp : List Place) : List Int → List Int → Option (List Int)
  | i :: l, x :: r => match succR gp l r with
    | some r' => some (x :: r')
    | none => if x < roomHi gp i then some ((x + 1) :: l.map (roomLo gp)) else none
  | _, _ => none
theorem succ_pre {gp : List Place} {ls rs q : List Int} (h : succR gp ls rs = some q) : ∀ {lp rp : List Int}, lp.length = rp.length → succR gp (lp ++ ls) (rp ++ rs) = some (rp ++ q) := by
  intro lp
  induction lp with
  | nil =>
    intro rp e
    obtain rfl : rp = [] := List.eq_nil_of_length_eq_zero e.symm
    simpa using h
  | cons i lp ih =>
    intro rp e
    cases rp with
    | nil => simp at e
    | cons x rp =>
      have := ih (rp := rp) (by simpa using e)
      simp [succR, this]
/-- Each list of rooms is followed by its next one. -/
def ChS (gp : List Place) (l : List Int) : List (List Int) → Prop
  | [] => True
  | [r] => succR gp l r = none
  | r :: r' :: L => succR gp l r = some r' ∧ ChS gp l (r' :: L)
theorem ChS_at {gp : List Place} {l : List Int} : ∀ {pre : List (List Int)} {r : List Int} {post : List (List Int)}, ChS gp l (pre ++ r :: post) → succR gp l r = post.head? := by
  intro pre
  induction pre with
  | nil =>
    intro r post h
    cases post with
    | nil => exact h
    | cons r' post => exact h.1
  | cons a pre ih =>
    intro r post h
    refine ih (post := post) ?_
    cases pre with
    | nil => exact h.2
    | cons b pre => exact h.2
theorem ChS_block {gp : List Place} {i : Int} {l : List Int} {x : Int} {R : List (List Int)} (h0 : R = [] → ¬ x < roomHi gp i) (h1 : ∀ y R', R = y :: R' → x < roomHi gp i ∧ y = (x + 1) :: l.map (roomLo gp)) (h2 : ChS gp (i :: l) R) :
    ∀ L : List (List Int), ChS gp l L → ChS gp (i :: l) (L.map (x :: ·) ++ R) := by
  intro L
  induction L with
  | nil => intro _; simpa using h2
  | cons r L ih =>
    intro h
    cases L with
    | nil =>
      have h' : succR gp l r = none := h
      cases R with
      | nil => simp [ChS, succR, h', h0 rfl]
      | cons y R =>
        obtain ⟨a, b⟩ := h1 y R rfl
        refine ⟨?_, h2⟩
        simp [succR, h', a, b]
    | cons r' L =>
      have h' := ih h.2
      refine ⟨?_, h'⟩
      simp [succR, h.1]
theorem lexR_head {gp : List Place} : ∀ {l : List Int}, (∀ i ∈ l, 1 ≤ roomN gp i) → ∃ L, lexR gp l = l.map (roomLo gp) :: L := by
  intro l
  induction l with
  | nil => intro _; exact ⟨[], rfl⟩
  | cons i l ih =>
    intro h
    obtain ⟨L, hL⟩ := ih fun j hj => h j (by simp [hj])
    have h1 := h i (by simp)
    obtain ⟨n, hn⟩ : ∃ n, roomN gp i = n + 1 := ⟨roomN gp i - 1, by omega⟩
    rw [lexR, hn, List.range_succ_eq_map, List.flatMap_cons, hL]
    exact ⟨_, by simp; rfl⟩
theorem lexR_chain {gp : List Place} : ∀ {l : List Int}, (∀ i ∈ l, 1 ≤ roomN gp i) → ChS gp l (lexR gp l) := by
  intro l
  induction l with
  | nil => intro _; simp [lexR, ChS, succR]
  | cons i l ih =>
    intro h
    have hl := ih fun j hj => h j (by simp [hj])
    obtain ⟨L, hL⟩ := lexR_head (gp := gp) (l := l) fun j hj => h j (by simp [hj])
    have h1 := h i (by simp)
    rw [lexR, List.range_eq_range']
    suffices H : ∀ n s, s + n = roomN gp i → ChS gp (i :: l) ((List.range' s n).flatMap fun (t : Nat) => (lexR gp l).map fun r => (roomLo gp i + t) :: r) from H _ 0 (by omega)
    intro n
    induction n with
    | zero => intro s _; simp [ChS]
    | succ n ihn =>
      intro s hs
      rw [List.range'_succ, List.flatMap_cons]
      refine ChS_block ?_ ?_ (ihn (s + 1) (by omega)) _ hl
      · intro e
        cases n with
        | zero => unfold roomN at hs; omega
        | succ n =>
          rw [List.range'_succ, List.flatMap_cons, hL] at e
          simp at e
      · intro y R' e
        cases n with
        | zero => simp at e
        | succ n =>
          rw [List.range'_succ, List.flatMap_cons, hL] at e
          simp only [List.map_cons, List.cons_append, List.cons.injEq] at e
          refine ⟨by unfold roomN at hs; omega, ?_⟩
          rw [← e.1]
          congr 1
          omega
/-- What is handed out next. -/
theorem lexR_next {gp : List Place} {l r q : List Int} {pre : List (List Int)} (h : ∀ i ∈ l, 1 ≤ roomN gp i) (hp : pre ++ [r] <+: lexR gp l) (hq : succR gp l r = some q) : pre ++ [r] ++ [q] <+: lexR gp l := by
  obtain ⟨post, e⟩ := hp
  have hc := lexR_chain h
  rw [← e, List.append_assoc] at hc
  have := ChS_at (post := post) (by simpa using hc)
  rw [hq] at this
  cases post with
  | nil => simp at this
  | cons y post =>
    simp at this
    subst this
    exact ⟨post, by rw [← e]; simp⟩
theorem lexR_last {gp : List Place} {l r : List Int} {pre : List (List Int)} (h : ∀ i ∈ l, 1 ≤ roomN gp i) (hp : pre ++ [r] <+: lexR gp l) (hq : succR gp l r = none) : pre ++ [r] = lexR gp l := by
  obtain ⟨post, e⟩ := hp
  have hc := lexR_chain h
  rw [← e, List.append_assoc] at hc
  have := ChS_at (post := post) (by simpa using hc)
  rw [hq] at this
  cases post with
  | nil => simpa using e
  | cons y post => simp at this
/-- The search from behind: the rooms behind place k are at their greatest, and begin anew. -/
def ResetFrom (gp : List Place) (l r : List Int) (k : Nat) : Prop := succR gp (l.drop k) (r.drop k) = none
def resetR (gp : List Place) (l r : List Int) (k : Nat) : List Int := r.take k ++ (l.drop k).map (roomLo gp)
theorem reset_start {gp : List Place} {l r : List Int} (e : r.length = l.length) : ResetFrom gp l r l.length ∧ resetR gp l r l.length = r := by
  constructor
  · unfold ResetFrom
    rw [List.drop_length, ← e, List.drop_length]
    simp [succR]
  · simp [resetR, ← e]
theorem reset_step {gp : List Place} {l r : List Int} {k : Nat} (e : r.length = l.length) (hk : k < l.length) (h : ResetFrom gp l r (k + 1)) (hx : ¬ r[k]'(by omega) < roomHi gp l[k]) :
    ResetFrom gp l r k ∧ resetR gp l r k = (resetR gp l r (k + 1)).set k (roomLo gp l[k]) := by
  have hkr : k < r.length := by omega
  constructor
  · unfold ResetFrom at h ⊢
    rw [List.drop_eq_getElem_cons hk, List.drop_eq_getElem_cons hkr]
    simp [succR, h, hx]
  · unfold resetR
    rw [List.drop_eq_getElem_cons hk, List.take_succ_eq_append_getElem hkr, List.append_assoc, List.set_append_right _ _ (by simp; omega)]
    have : k - (r.take k).length = 0 := by simp; omega
    rw [this]
    rfl
theorem reset_grow {gp : List Place} {l r : List Int} {k : Nat} (e : r.length = l.length) (hk : k < l.length) (h : ResetFrom gp l r (k + 1)) (hx : r[k]'(by omega) < roomHi gp l[k]) :
    succR gp l r = some ((resetR gp l r (k + 1)).set k (r[k]'(by omega) + 1)) := by
  have hkr : k < r.length := by omega
  unfold ResetFrom at h
  have h1 : succR gp (l.drop k) (r.drop k) = some ((r[k] + 1) :: (l.drop (k + 1)).map (roomLo gp)) := by
    rw [List.drop_eq_getElem_cons hk, List.drop_eq_getElem_cons hkr]
    simp [succR, h, hx]
  have h2 := succ_pre h1 (lp := l.take k) (rp := r.take k) (by simp; omega)
  rw [List.take_append_drop, List.take_append_drop] at h2
  rw [h2]
  unfold resetR
  rw [List.take_succ_eq_append_getElem hkr, List.append_assoc, List.set_append_right _ _ (by simp; omega)]
  have : k - (r.take k).length = 0 := by simp; omega
  rw [this]
  simp
theorem reset_get {gp : List Place} {l r : List Int} {k : Nat} (e : r.length = l.length) (hk : k < l.length) : (resetR gp l r (k + 1)).length = l.length ∧ ∀ h : k < (resetR gp l r (k + 1)).length, (resetR gp l r (k + 1))[k] = r[k]'(by omega) := by
  have hkr : k < r.length := by omega
  constructor
  · simp [resetR]; omega
  · intro h
    have h' : (resetR gp l r (k + 1))[k]? = r[k]? := by
      unfold resetR
      rw [List.getElem?_append_left (by simp; omega), List.getElem?_take_of_lt (by omega)]
    rw [List.getElem?_eq_getElem h, List.getElem?_eq_getElem hkr] at h'
    simpa using h'
end Go.Proofs.Ytbdklhahbeiffaa
