/-
  Go's own comparison of two lists of numbers, and its first number that is not 0.
-/
import Derived.Test.YtbdklhahbeiffaaSuf
import Derived.Test.YtbdklhahbeiffaaLoad
namespace Go.Proofs.Ytbdklhahbeiffaa
open Go.RowKit
set_option linter.unusedVariables false
set_option linter.unusedSimpArgs false
def roomLo (gp : List Place) (i : Int) : Int := max 1 (plAt gp i).tokens
def roomHi (gp : List Place) (i : Int) : Int := min 8 ((plAt gp i).tokens + 5)
def roomN (gp : List Place) (i : Int) : Nat := (roomHi gp i + 1 - roomLo gp i).toNat
/-- All lists of rooms, in lexicographic order. -/
def lexR (gp : List Place) : List Int → List (List Int)
  | [] => [[]]
  | i :: l => (List.range (roomN gp i)).flatMap fun (t : Nat) => (lexR gp l).map fun r => (roomLo gp i + t) :: r
def addL (l : List Int) : Int := l.sum
/-- One list more: the better one of the two. -/
def stepB (suf : List Int → Bool) (best r : List Int) : List Int := if (best = [] ∨ addL r < addL best) ∧ suf r = true then r else best
def leastF (suf : List Int → Bool) (gp : List Place) (l : List Int) : List Int := (lexR gp l).foldl (stepB suf) []
/-- The reference's recursion: the first rooms are given. -/
def leastS (suf : List Int → Bool) (gp : List Place) (p rest best : List Int) : List Int := ((lexR gp rest).map (p ++ ·)).foldl (stepB suf) best
theorem leastS_nil (suf : List Int → Bool) (gp : List Place) (p best : List Int) : leastS suf gp p [] best = stepB suf best p := by simp [leastS, lexR]
theorem leastS_cons (suf : List Int → Bool) (gp : List Place) (p best : List Int) (i : Int) (l : List Int) :
    leastS suf gp p (i :: l) best = (List.range (roomN gp i)).foldl (fun b (t : Nat) => leastS suf gp (p ++ [roomLo gp i + t]) l b) best := by
  unfold leastS
  rw [lexR, List.map_flatMap, List.foldl_flatMap]
  congr 1
  funext b t
  rw [List.map_map]
  congr 1
  apply List.map_congr_left
  intro r _
  simp
theorem leastS_all (suf : List Int → Bool) (gp : List Place) (l : List Int) : leastS suf gp [] l [] = leastF suf gp l := by
  unfold leastS leastF
  congr 1
  simp
theorem lexR_len {gp : List Place} : ∀ {l r : List Int}, r ∈ lexR gp l → r.length = l.length := by
  intro l
  induction l with
  | nil => intro r h; simp [lexR] at h; simp [h]
  | cons i l ih =>
    intro r h
    simp only [lexR, List.mem_flatMap, List.mem_map] at h
    obtain ⟨t, _, q, hq, rfl⟩ := h
    simp [ih hq]
theorem lexR_mem {gp : List Place} : ∀ {l r : List Int}, r ∈ lexR gp l ↔ r.length = l.length ∧ ∀ k (h1 : k < l.length) (h2 : k < r.length), roomLo gp l[k] ≤ r[k] ∧ r[k] ≤ roomHi gp l[k] := by
  intro l
  induction l with
  | nil => intro r; simp [lexR]
  | cons i l ih =>
    intro r
    simp only [lexR, List.mem_flatMap, List.mem_map, List.mem_range]
    constructor
    · rintro ⟨t, ht, q, hq, rfl⟩
      obtain ⟨e, hall⟩ := ih.1 hq
      refine ⟨by simp [e], fun k h1 h2 => ?_⟩
      cases k with
      | zero =>
        simp only [List.getElem_cons_zero]
        unfold roomN at ht
        omega
      | succ k =>
        simp only [List.getElem_cons_succ]
        exact hall k _ _
    · rintro ⟨e, hall⟩
      cases r with
      | nil => simp at e
      | cons x r =>
        have h0 := hall 0 (by simp) (by simp)
        simp only [List.getElem_cons_zero] at h0
        refine ⟨(x - roomLo gp i).toNat, by unfold roomN; omega, r, ih.2 ⟨by simpa using e, fun k h1 h2 => ?_⟩, ?_⟩
        · have := hall (k + 1) (by simpa using h1) (by simpa using h2)
          simpa using this
        · congr 1
          omega
theorem lexR_ok {gp : List Place} {l r : List Int} : r ∈ lexR gp l ↔ roomsOk gp l r = true := by
  rw [lexR_mem]
  unfold roomsOk roomsUp
  rw [Bool.and_eq_true, decide_eq_true_eq, List.all_eq_true]
  constructor
  · rintro ⟨e, h⟩
    refine ⟨e, fun k hk => ?_⟩
    have hk' := List.mem_range.1 hk
    have := h k hk' (by omega)
    rw [inB_iff, List.getD_eq_getElem?_getD, List.getD_eq_getElem?_getD, List.getElem?_eq_getElem hk', List.getElem?_eq_getElem (show k < r.length by omega)]
    exact this
  · rintro ⟨e, h⟩
    refine ⟨e, fun k h1 h2 => ?_⟩
    have := h k (List.mem_range.2 h1)
    rw [inB_iff, List.getD_eq_getElem?_getD, List.getD_eq_getElem?_getD, List.getElem?_eq_getElem h1, List.getElem?_eq_getElem h2] at this
    exact this
/-- What a fold of steps leaves. -/
theorem stepB_fold (suf : List Int → Bool) : ∀ (L : List (List Int)) (b0 : List Int), (∀ r ∈ L, r ≠ []) →
    let b := L.foldl (stepB suf) b0
    (b = b0 ∨ b ∈ L ∧ suf b = true) ∧ (b0 ≠ [] → b ≠ [] ∧ addL b ≤ addL b0) ∧ (b = [] → ∀ r ∈ L, suf r = false) ∧ (b ≠ [] → ∀ r ∈ L, suf r = true → addL b ≤ addL r) := by
  intro L
  induction L with
  | nil => intro b0 _; simp
  | cons r L ih =>
    intro b0 hne
    have hr := hne r (by simp)
    obtain ⟨h1, h2, h3, h4⟩ := ih (stepB suf b0 r) (fun q hq => hne q (by simp [hq]))
    simp only [List.foldl_cons]
    generalize hb : L.foldl (stepB suf) (stepB suf b0 r) = b at *
    by_cases hc : (b0 = [] ∨ addL r < addL b0) ∧ suf r = true
    · have e : stepB suf b0 r = r := by unfold stepB; rw [if_pos hc]
      rw [e] at h1 h2
      obtain ⟨p1, p2⟩ := h2 hr
      refine ⟨?_, fun hb0 => ⟨p1, ?_⟩, fun hb0 => absurd hb0 p1, fun _ q hq hs => ?_⟩
      · rcases h1 with h1 | ⟨h1, hs⟩
        · exact .inr ⟨by rw [h1]; simp, by rw [h1]; exact hc.2⟩
        · exact .inr ⟨by simp [h1], hs⟩
      · rcases hc.1 with h | h
        · exact absurd h hb0
        · omega
      · rcases List.mem_cons.1 hq with rfl | hq
        · exact p2
        · exact h4 p1 q hq hs
    · have e : stepB suf b0 r = b0 := by unfold stepB; rw [if_neg hc]
      rw [e] at h1 h2
      refine ⟨?_, h2, fun hb0 q hq => ?_, fun hb1 q hq hs => ?_⟩
      · rcases h1 with h1 | ⟨h1, hs⟩
        · exact .inl h1
        · exact .inr ⟨by simp [h1], hs⟩
      · rcases List.mem_cons.1 hq with rfl | hq
        · cases hs : suf q with
          | false => rfl
          | true =>
            have hb00 : b0 ≠ [] := fun h => hc ⟨.inl h, hs⟩
            exact absurd hb0 (h2 hb00).1
        · exact h3 hb0 q hq
      · rcases List.mem_cons.1 hq with rfl | hq
        · have hb00 : b0 ≠ [] := fun h => hc ⟨.inl h, hs⟩
          have hle : addL b0 ≤ addL q := Int.not_lt.1 fun hlt => hc ⟨.inr hlt, hs⟩
          have := (h2 hb00).2
          omega
        · exact h4 hb1 q hq hs
/-- The best list suffices, is one of the lists, and has the least sum. -/
theorem leastF_best {suf : List Int → Bool} {gp : List Place} {l : List Int} (hl : l ≠ []) :
    (leastF suf gp l = [] → ∀ r, roomsOk gp l r = true → suf r = false) ∧
    (leastF suf gp l ≠ [] → roomsOk gp l (leastF suf gp l) = true ∧ suf (leastF suf gp l) = true ∧ ∀ r, roomsOk gp l r = true → suf r = true → addL (leastF suf gp l) ≤ addL r) := by
  have hne : ∀ r ∈ lexR gp l, r ≠ [] := fun r hr h => by
    have := lexR_len hr
    rw [h] at this
    exact hl (List.eq_nil_of_length_eq_zero this.symm)
  obtain ⟨h1, -, h3, h4⟩ := stepB_fold suf (lexR gp l) [] hne
  refine ⟨fun h r hr => h3 h r (lexR_ok.2 hr), fun h => ?_⟩
  rcases h1 with h1 | ⟨h1, hs⟩
  · exact absurd h1 h
  · exact ⟨lexR_ok.1 h1, hs, fun r hr hsr => h4 h r (lexR_ok.2 hr) hsr⟩
theorem addL_set : ∀ (l : List Int) (k : Nat) (h : k < l.length) (x : Int), addL (l.set k x) = addL l - l[k] + x := by
  intro l
  induction l with
  | nil => intro k h; simp at h
  | cons y l ih =>
    intro k h x
    cases k with
    | zero => simp [addL]; omega
    | succ k =>
      have := ih k (by simpa using h) x
      simp only [addL, List.set_cons_succ, List.sum_cons, List.getElem_cons_succ] at this ⊢
      omega
/-- With one less in one of the least rooms they do not suffice any more. -/
theorem least_less {suf : List Int → Bool} {gp : List Place} {l : List Int} (hl : l ≠ []) (hne : leastF suf gp l ≠ []) (k : Nat) (hk : k < (leastF suf gp l).length)
    (hr : roomsOk gp l ((leastF suf gp l).set k ((leastF suf gp l)[k] - 1)) = true) : suf ((leastF suf gp l).set k ((leastF suf gp l)[k] - 1)) = false := by
  cases hs : suf ((leastF suf gp l).set k ((leastF suf gp l)[k] - 1)) with
  | false => rfl
  | true =>
    have h := ((leastF_best hl).2 hne).2.2 _ hr hs
    rw [addL_set _ k hk] at h
    omega
end Go.Proofs.Ytbdklhahbeiffaa
namespace Go.Proofs.Ytbdklhahbeiffaa
open Go.RowKit
set_option linter.unusedVariables false
set_option linter.unusedSimpArgs false
/-- Comparison of two lists in lexicographic order. -/
def cmpL : List Int → List Int → Int
  | [], [] => 0
  | [], _ :: _ => -1
  | _ :: _, [] => 1
  | a :: l, b :: m => if cmpI a b = 0 then cmpL l m else cmpI a b
theorem cmpI_self (a : Int) : cmpI a a = 0 := by simp [cmpI]
/-- The lists of rooms come in lexicographic order. -/
theorem lexR_sorted (gp : List Place) : ∀ l : List Int, (lexR gp l).Pairwise fun a b => cmpL b a = 1 := by
  intro l
  induction l with
  | nil => simp [lexR]
  | cons i l ih =>
    rw [lexR, List.pairwise_flatMap]
    refine ⟨fun t _ => ?_, ?_⟩
    · rw [List.pairwise_map]
      refine ih.imp fun {a b} h => ?_
      simpa [cmpL, cmpI_self] using h
    · refine List.pairwise_lt_range.imp fun {s t} hst x hx y hy => ?_
      simp only [List.mem_map] at hx hy
      obtain ⟨p, _, rfl⟩ := hx
      obtain ⟨q, _, rfl⟩ := hy
      have h1 : cmpI (roomLo gp i + (t : Int)) (roomLo gp i + (s : Int)) = 1 := by
        unfold cmpI
        rw [if_neg (by omega), if_pos (by omega)]
      simp [cmpL, h1]
theorem cmpL_self : ∀ l : List Int, cmpL l l = 0 := by
  intro l
  induction l with
  | nil => rfl
  | cons x l ih => simp [cmpL, cmpI_self, ih]
/-- How many lists come behind this one. -/
def leftR (gp : List Place) (l x : List Int) : Nat := (lexR gp l).length - ((lexR gp l).takeWhile fun y => decide (y ≠ x)).length
theorem leftR_eq {gp : List Place} {l x : List Int} {pre : List (List Int)} (hp : pre ++ [x] <+: lexR gp l) : leftR gp l x = (lexR gp l).length - pre.length ∧ pre.length < (lexR gp l).length := by
  have hs := (lexR_sorted gp l)
  obtain ⟨post, e⟩ := hp
  unfold leftR
  rw [← e] at hs ⊢
  rw [List.append_assoc, List.pairwise_append] at hs
  have h1 : (pre ++ [x] ++ post).takeWhile (fun y => decide (y ≠ x)) = pre := by
    rw [List.append_assoc, List.takeWhile_append_of_pos]
    · simp
    · intro y hy
      have := hs.2.2 y hy x (by simp)
      rw [decide_eq_true_eq]
      rintro rfl
      rw [cmpL_self] at this
      omega
  rw [h1]
  refine ⟨rfl, by simp⟩
/-- What the program does with one list more: it passes over one that is no better. -/
def skipB (best r : List Int) : Bool := decide (best ≠ []) && decide (0 ≤ if cmpI (addL r) (addL best) = 0 then cmpL r best else cmpI (addL r) (addL best))
theorem fold_mem (suf : List Int → Bool) : ∀ (L : List (List Int)) (b : List Int), L.foldl (stepB suf) b = b ∨ L.foldl (stepB suf) b ∈ L := by
  intro L
  induction L with
  | nil => intro b; simp
  | cons r L ih =>
    intro b
    simp only [List.foldl_cons]
    rcases ih (stepB suf b r) with h | h
    · rw [h]
      unfold stepB
      split
      · simp
      · simp
    · simp [h]
theorem skipB_eq {suf : List Int → Bool} {gp : List Place} {l : List Int} {pre : List (List Int)} {x : List Int} (hp : pre ++ [x] <+: lexR gp l) :
    skipB (pre.foldl (stepB suf) []) x = !decide (pre.foldl (stepB suf) [] = [] ∨ addL x < addL (pre.foldl (stepB suf) [])) := by
  have hs := (lexR_sorted gp l).sublist hp.sublist
  rw [List.pairwise_append] at hs
  have hm := fold_mem suf pre []
  generalize pre.foldl (stepB suf) [] = b at *
  unfold skipB
  by_cases hb : b = []
  · subst hb
    simp
  · have hc : 0 ≤ cmpL x b := by have := hs.2.2 b (hm.resolve_left hb) x (by simp); omega
    simp only [hb, not_false_eq_true, decide_true, Bool.true_and, ne_eq, false_or]
    by_cases h1 : addL x < addL b
    · have : cmpI (addL x) (addL b) = -1 := by simp [cmpI, h1]
      simp [this, h1]
    · by_cases h2 : addL b < addL x
      · have : cmpI (addL x) (addL b) = 1 := by simp [cmpI, h1, h2]
        simp [this, h1]
      · have : cmpI (addL x) (addL b) = 0 := by simp [cmpI, h1, h2]
        simp [this, h1, hc]
theorem fold_snoc (suf : List Int → Bool) (pre : List (List Int)) (x : List Int) : (pre ++ [x]).foldl (stepB suf) [] = stepB suf (pre.foldl (stepB suf) []) x := by simp
/-- The next list of rooms: the last one that can grow grows, those behind it begin anew. -/
def succR (gp : List Place) : List Int → List Int → Option (List Int)
  | i :: l, x :: r => match succR gp l r with
    | some r' => some (x :: r')
    | none => if x < roomHi gp i then some ((x + 1) :: l.map (roomLo gp)) else none
  | _, _ => none
theorem succ_pre {gp : List Place} {ls rs q : List Int} (h : succR gp ls rs = some q) : ∀ {lp rp : List Int}, lp.length = rp.length → succR gp (lp ++ ls) (rp ++ rs) = some (rp ++ q) := by
  intro lp
  induction lp with
  | nil =>
    intro rp e
    obtain rfl : rp = [] := List.eq_nil_of_length_eq_zero e.symm
    simpa using h
  | cons i lp ih =>
    intro rp e
    cases rp with
    | nil => simp at e
    | cons x rp =>
      have := ih (rp := rp) (by simpa using e)
      simp [succR, this]
/-- Each list of rooms is followed by its next one. -/
def ChS (gp : List Place) (l : List Int) : List (List Int) → Prop
  | [] => True
  | [r] => succR gp l r = none
  | r :: r' :: L => succR gp l r = some r' ∧ ChS gp l (r' :: L)
theorem ChS_at {gp : List Place} {l : List Int} : ∀ {pre : List (List Int)} {r : List Int} {post : List (List Int)}, ChS gp l (pre ++ r :: post) → succR gp l r = post.head? := by
  intro pre
  induction pre with
  | nil =>
    intro r post h
    cases post with
    | nil => exact h
    | cons r' post => exact h.1
  | cons a pre ih =>
    intro r post h
    refine ih (post := post) ?_
    cases pre with
    | nil => exact h.2
    | cons b pre => exact h.2
theorem ChS_block {gp : List Place} {i : Int} {l : List Int} {x : Int} {R : List (List Int)} (h0 : R = [] → ¬ x < roomHi gp i) (h1 : ∀ y R', R = y :: R' → x < roomHi gp i ∧ y = (x + 1) :: l.map (roomLo gp)) (h2 : ChS gp (i :: l) R) :
    ∀ L : List (List Int), ChS gp l L → ChS gp (i :: l) (L.map (x :: ·) ++ R) := by
  intro L
  induction L with
  | nil => intro _; simpa using h2
  | cons r L ih =>
    intro h
    cases L with
    | nil =>
      have h' : succR gp l r = none := h
      cases R with
      | nil => simp [ChS, succR, h', h0 rfl]
      | cons y R =>
        obtain ⟨a, b⟩ := h1 y R rfl
        refine ⟨?_, h2⟩
        simp [succR, h', a, b]
    | cons r' L =>
      have h' := ih h.2
      refine ⟨?_, h'⟩
      simp [succR, h.1]
theorem lexR_head {gp : List Place} : ∀ {l : List Int}, (∀ i ∈ l, 1 ≤ roomN gp i) → ∃ L, lexR gp l = l.map (roomLo gp) :: L := by
  intro l
  induction l with
  | nil => intro _; exact ⟨[], rfl⟩
  | cons i l ih =>
    intro h
    obtain ⟨L, hL⟩ := ih fun j hj => h j (by simp [hj])
    have h1 := h i (by simp)
    obtain ⟨n, hn⟩ : ∃ n, roomN gp i = n + 1 := ⟨roomN gp i - 1, by omega⟩
    rw [lexR, hn, List.range_succ_eq_map, List.flatMap_cons, hL]
    exact ⟨_, by simp; rfl⟩
theorem lexR_chain {gp : List Place} : ∀ {l : List Int}, (∀ i ∈ l, 1 ≤ roomN gp i) → ChS gp l (lexR gp l) := by
  intro l
  induction l with
  | nil => intro _; simp [lexR, ChS, succR]
  | cons i l ih =>
    intro h
    have hl := ih fun j hj => h j (by simp [hj])
    obtain ⟨L, hL⟩ := lexR_head (gp := gp) (l := l) fun j hj => h j (by simp [hj])
    have h1 := h i (by simp)
    rw [lexR, List.range_eq_range']
    suffices H : ∀ n s, s + n = roomN gp i → ChS gp (i :: l) ((List.range' s n).flatMap fun (t : Nat) => (lexR gp l).map fun r => (roomLo gp i + t) :: r) from H _ 0 (by omega)
    intro n
    induction n with
    | zero => intro s _; simp [ChS]
    | succ n ihn =>
      intro s hs
      rw [List.range'_succ, List.flatMap_cons]
      refine ChS_block ?_ ?_ (ihn (s + 1) (by omega)) _ hl
      · intro e
        cases n with
        | zero => unfold roomN at hs; omega
        | succ n =>
          rw [List.range'_succ, List.flatMap_cons, hL] at e
          simp at e
      · intro y R' e
        cases n with
        | zero => simp at e
        | succ n =>
          rw [List.range'_succ, List.flatMap_cons, hL] at e
          simp only [List.map_cons, List.cons_append, List.cons.injEq] at e
          refine ⟨by unfold roomN at hs; omega, ?_⟩
          rw [← e.1]
          congr 1
          omega
/-- What is handed out next. -/
theorem lexR_next {gp : List Place} {l r q : List Int} {pre : List (List Int)} (h : ∀ i ∈ l, 1 ≤ roomN gp i) (hp : pre ++ [r] <+: lexR gp l) (hq : succR gp l r = some q) : pre ++ [r] ++ [q] <+: lexR gp l := by
  obtain ⟨post, e⟩ := hp
  have hc := lexR_chain h
  rw [← e, List.append_assoc] at hc
  have := ChS_at (post := post) (by simpa using hc)
  rw [hq] at this
  cases post with
  | nil => simp at this
  | cons y post =>
    simp at this
    subst this
    exact ⟨post, by rw [← e]; simp⟩
theorem lexR_last {gp : List Place} {l r : List Int} {pre : List (List Int)} (h : ∀ i ∈ l, 1 ≤ roomN gp i) (hp : pre ++ [r] <+: lexR gp l) (hq : succR gp l r = none) : pre ++ [r] = lexR gp l := by
  obtain ⟨post, e⟩ := hp
  have hc := lexR_chain h
  rw [← e, List.append_assoc] at hc
  have := ChS_at (post := post) (by simpa using hc)
  rw [hq] at this
  cases post with
  | nil => simpa using e
  | cons y post => simp at this
/-- The search from behind: the rooms behind place k are at their greatest, and begin anew. -/
def ResetFrom (gp : List Place) (l r : List Int) (k : Nat) : Prop := succR gp (l.drop k) (r.drop k) = none
def resetR (gp : List Place) (l r : List Int) (k : Nat) : List Int := r.take k ++ (l.drop k).map (roomLo gp)
theorem reset_start {gp : List Place} {l r : List Int} (e : r.length = l.length) : ResetFrom gp l r l.length ∧ resetR gp l r l.length = r := by
  constructor
  · unfold ResetFrom
    rw [List.drop_length, ← e, List.drop_length]
    simp [succR]
  · simp [resetR, ← e]
theorem reset_step {gp : List Place} {l r : List Int} {k : Nat} (e : r.length = l.length) (hk : k < l.length) (h : ResetFrom gp l r (k + 1)) (hx : ¬ r[k]'(by omega) < roomHi gp l[k]) :
    ResetFrom gp l r k ∧ resetR gp l r k = (resetR gp l r (k + 1)).set k (roomLo gp l[k]) := by
  have hkr : k < r.length := by omega
  constructor
  · unfold ResetFrom at h ⊢
    rw [List.drop_eq_getElem_cons hk, List.drop_eq_getElem_cons hkr]
    simp [succR, h, hx]
  · unfold resetR
    rw [List.drop_eq_getElem_cons hk, List.take_succ_eq_append_getElem hkr, List.append_assoc, List.set_append_right _ _ (by simp; omega)]
    have : k - (r.take k).length = 0 := by simp; omega
    rw [this]
    rfl
theorem reset_grow {gp : List Place} {l r : List Int} {k : Nat} (e : r.length = l.length) (hk : k < l.length) (h : ResetFrom gp l r (k + 1)) (hx : r[k]'(by omega) < roomHi gp l[k]) :
    succR gp l r = some ((resetR gp l r (k + 1)).set k (r[k]'(by omega) + 1)) := by
  have hkr : k < r.length := by omega
  unfold ResetFrom at h
  have h1 : succR gp (l.drop k) (r.drop k) = some ((r[k] + 1) :: (l.drop (k + 1)).map (roomLo gp)) := by
    rw [List.drop_eq_getElem_cons hk, List.drop_eq_getElem_cons hkr]
    simp [succR, h, hx]
  have h2 := succ_pre h1 (lp := l.take k) (rp := r.take k) (by simp; omega)
  rw [List.take_append_drop, List.take_append_drop] at h2
  rw [h2]
  unfold resetR
  rw [List.take_succ_eq_append_getElem hkr, List.append_assoc, List.set_append_right _ _ (by simp; omega)]
  have : k - (r.take k).length = 0 := by simp; omega
  rw [this]
  simp
theorem reset_get {gp : List Place} {l r : List Int} {k : Nat} (e : r.length = l.length) (hk : k < l.length) : (resetR gp l r (k + 1)).length = l.length ∧ ∀ h : k < (resetR gp l r (k + 1)).length, (resetR gp l r (k + 1))[k] = r[k]'(by omega) := by
  have hkr : k < r.length := by omega
  constructor
  · simp [resetR]; omega
  · intro h
    have h' : (resetR gp l r (k + 1))[k]? = r[k]? := by
      unfold resetR
      rw [List.getElem?_append_left (by simp; omega), List.getElem?_take_of_lt (by omega)]
    rw [List.getElem?_eq_getElem h, List.getElem?_eq_getElem hkr] at h'
    simpa using h'
end Go.Proofs.Ytbdklhahbeiffaa
namespace Go.Proofs.Ytbdklhahbeiffaa
open Go.RowKit
set_option linter.unusedVariables false
set_option linter.unusedSimpArgs false
theorem cmpL_end {l m : List Int} (h : l.length ≤ m.length) (he : cmpL l m = cmpL (l.drop l.length) (m.drop l.length)) : cmpL l m = if l.length < m.length then -1 else 0 := by
  rw [he, List.drop_length]
  split
  · rename_i hlt
    rw [List.drop_eq_getElem_cons hlt]
    rfl
  · rw [List.drop_of_length_le (by omega)]
    rfl
theorem cmpL_long {l m : List Int} {k : Nat} (hk : k < l.length) (h : m.length ≤ k) (he : cmpL l m = cmpL (l.drop k) (m.drop k)) : cmpL l m = 1 := by
  rw [he, List.drop_of_length_le h, List.drop_eq_getElem_cons hk]
  rfl
theorem cmpL_at {l m : List Int} {k : Nat} (hk : k < l.length) (h : k < m.length) (he : cmpL l m = cmpL (l.drop k) (m.drop k)) :
    cmpL l m = if cmpI l[k] m[k] = 0 then cmpL (l.drop (k + 1)) (m.drop (k + 1)) else cmpI l[k] m[k] := by
  rw [he, List.drop_eq_getElem_cons hk, List.drop_eq_getElem_cons h]
  rfl
theorem cmpI_rng (a b : Int) : cmpI a b = -1 ∨ cmpI a b = 0 ∨ cmpI a b = 1 := by
  unfold cmpI
  split
  · simp
  · split <;> simp
set_option maxHeartbeats 400000 in
set_option maxRecDepth 100000 in
theorem slices_Compare_i64 (v u : Value) (l m : List Int) (w : World) (h0 : Lst intCell 1 w w.heap.size v l) (h1 : Lst intCell 1 w w.heap.size u m) :
    Calls Try.prog 61 #[v, u] w fun e w' => e = .returned (.int .i64 (cmpL l m)) ∧ w = w' := by
  obtain ⟨A, c, rfl⟩ := h0.shape
  obtain ⟨C, d, rfl⟩ := h1.shape
  have hl := h0.len_le
  have hm := h1.len_le
  go_enter Try.func61, Try.ntmps61
  go_wp2
  go_loop [5, 6, 7, 8, 11] (fun _ _ _ _ i => ∃ k : Nat, k ≤ l.length ∧ k ≤ m.length ∧ i = .int .i64 k ∧ Hid (cmpL l m = cmpL (l.drop k) (m.drop k))) (fun _ _ _ _ i => l.length - (intOf i).toNat)
  case atStart => exact ⟨0, Nat.zero_le _, Nat.zero_le _, rfl, rfl⟩
  case round =>
    obtain ⟨k, hk, hk2, rfl, hE⟩ := hrel
    by_cases hlt : k < l.length
    · obtain ⟨b, off, rfl, hb, c0⟩ := ints_at h0 k hlt
      by_cases hlt2 : k < m.length
      · obtain ⟨b', off', rfl, hb', d0⟩ := ints_at h1 k hlt2
        have hstep := cmpL_at hlt hlt2 hE.out
        obtain ⟨x, hx⟩ : ∃ x, l[k] = x := ⟨_, rfl⟩
        obtain ⟨y, hy⟩ : ∃ y, m[k] = y := ⟨_, rfl⟩
        obtain ⟨z, hz⟩ : ∃ z, cmpI x y = z := ⟨_, rfl⟩
        rw [hx, hy, hz] at hstep
        rw [hx] at c0
        rw [hy] at d0
        have hzH := Lib.hid hz
        clear hx hy hE hz
        by_cases h0z : z = 0
        · rw [if_pos h0z] at hstep
          have hE' := Lib.hid hstep
          have q1 : (z != 0) = false := by simp [h0z]
          clear hstep
          go_wp2_with (go_at_call 59; refine (cmp_Compare _ _ _).mono ?_; rintro e w' ⟨rfl, rfl⟩; rw [hzH.out])
          go_round
          case rel => exact ⟨k + 1, hlt, hlt2, by go_num, hE'.out⟩
          case measure => simp [intOf]; omega
        · rw [if_neg h0z] at hstep
          have hF := Lib.hid hstep
          have q1 : (z != 0) = true := by simpa using h0z
          clear hstep
          go_wp2_with (go_at_call 59; refine (cmp_Compare _ _ _).mono ?_; rintro e w' ⟨rfl, rfl⟩; rw [hzH.out])
          go_ret
          exact ⟨ret_int hF.out.symm, rfl⟩
      · have hF := Lib.hid (cmpL_long hlt (by omega) hE.out)
        clear hE
        go_wp2
        go_ret
        exact ⟨ret_int hF.out.symm, rfl⟩
    · obtain rfl : k = l.length := by omega
      have hF := cmpL_end hk2 hE.out
      clear hE
      by_cases h9 : l.length < m.length
      · rw [if_pos h9] at hF
        replace hF := Lib.hid hF
        go_wp2
        go_ret
        exact ⟨ret_int hF.out.symm, rfl⟩
      · rw [if_neg h9] at hF
        replace hF := Lib.hid hF
        go_wp2
        go_ret
        exact ⟨ret_int hF.out.symm, rfl⟩
/-- The first of two numbers that is not 0. -/
def orI (x y : Int) : Int := if x = 0 then y else x
set_option maxHeartbeats 400000 in
set_option maxRecDepth 100000 in
theorem cmp_Or_two (v : Value) (x y : Int) (w : World) (h0 : Lst intCell 1 w w.heap.size v [x, y]) :
    Calls Try.prog 58 #[v] w fun e w' => e = .returned (.int .i64 (orI x y)) ∧ w = w' := by
  obtain ⟨A, c, rfl⟩ := h0.shape
  go_enter Try.func58, Try.ntmps58
  go_wp2
  go_loop [5, 8] (fun _ i => ∃ k : Nat, k ≤ 2 ∧ i = .int .i64 k ∧ Hid ((0 < k → x = 0) ∧ (1 < k → y = 0))) (fun _ i => 2 - (intOf i).toNat)
  case atStart => exact ⟨0, Nat.zero_le _, rfl, ⟨fun h => absurd h (by omega), fun h => absurd h (by omega)⟩⟩
  case round =>
    obtain ⟨k, hk, rfl, hN⟩ := hrel
    by_cases hlt : k < 2
    · obtain ⟨b, off, rfl, hb, c0⟩ := ints_at h0 k (by simpa using hlt)
      obtain ⟨z, hz⟩ : ∃ z, ([x, y] : List Int)[k]'(by simpa using hlt) = z := ⟨_, rfl⟩
      rw [hz] at c0
      have hkz : (k = 0 ∧ z = x) ∨ (k = 1 ∧ z = y) := by
        rcases Nat.lt_or_ge k 1 with h | h
        · obtain rfl : k = 0 := by omega
          exact .inl ⟨rfl, by simpa using hz.symm⟩
        · obtain rfl : k = 1 := by omega
          exact .inr ⟨rfl, by simpa using hz.symm⟩
      have hkH := Lib.hid hkz
      clear hz hkz
      by_cases h0z : z = 0
      · have q1 : (z != 0) = false := by simp [h0z]
        have hN' : Hid ((0 < k + 1 → x = 0) ∧ (1 < k + 1 → y = 0)) := by
          have := hkH.out
          have h2 := hN.out
          refine ⟨fun _ => ?_, fun h => ?_⟩
          · rcases this with h | h
            · omega
            · exact h2.1 (by omega)
          · rcases this with h | h
            · omega
            · omega
        clear h0z
        go_wp2
        go_round
        case rel => exact ⟨k + 1, hlt, by go_num, hN'.out⟩
        case measure => simp [intOf]; omega
      · have q1 : (z != 0) = true := by simpa using h0z
        have hF : Hid (orI x y = z) := by
          have := hkH.out
          have h2 := hN.out
          show _ = _
          unfold orI
          rcases this with h | h
          · rw [if_neg (by omega), h.2]
          · rw [if_pos (h2.1 (by omega)), h.2]
        clear h0z
        go_wp2
        go_ret
        exact ⟨ret_int hF.out.symm, rfl⟩
    · obtain rfl : k = 2 := by omega
      have hF : Hid (orI x y = 0) := by
        have h2 := hN.out
        show _ = _
        unfold orI
        rw [if_pos (h2.1 (by omega)), h2.2 (by omega)]
      go_wp2
      go_ret
      exact ⟨ret_int hF.out.symm, rfl⟩
end Go.Proofs.Ytbdklhahbeiffaa
