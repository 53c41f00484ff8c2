/-
  Firing times, in plain Lean.
-/
import Derived.Test.YtcoomogabicfnaaGraph
namespace Go.Proofs.Ytcoomogabicfnaa
open Go.RowKit
set_option linter.unusedVariables false
set_option linter.unusedSimpArgs false

/-- A list without repetition of numbers below n is not longer than n. -/
theorem nodup_len : ∀ (n : Nat) (l : List Nat), l.Nodup → (∀ x ∈ l, x < n) → l.length ≤ n := by
  intro n
  induction n with
  | zero =>
    intro l _ h
    cases l with
    | nil => simp
    | cons a l => exact absurd (h a (by simp)) (by omega)
  | succ n ih =>
    intro l hd h
    have h1 := ih (l.erase n) (hd.erase n) (fun x hx => by
      have h2 := (hd.mem_erase_iff).1 hx
      have h3 := h x h2.2
      have h4 := h2.1
      omega)
    have h2 := List.length_erase (a := n) (l := l)
    split at h2 <;> omega

/-- A closed walk of length L: a function with period L that follows arcs. -/
def Closed (arc : Nat → Nat → Prop) (n L : Nat) (c : Nat → Nat) : Prop := 0 < L ∧ (∀ i, c (i + L) = c i) ∧ (∀ i, c i < n) ∧ ∀ i, arc (c i) (c (i + 1))

theorem Closed.shift {arc : Nat → Nat → Prop} {n L : Nat} {c : Nat → Nat} (h : Closed arc n L c) (s : Nat) : Closed arc n L (fun i => c (i + s)) := by
  obtain ⟨h1, h2, h3, h4⟩ := h
  refine ⟨h1, fun i => ?_, fun i => h3 _, fun i => ?_⟩
  · show c (i + L + s) = c (i + s)
    rw [show i + L + s = i + s + L by omega]
    exact h2 _
  · show arc (c (i + s)) (c (i + 1 + s))
    rw [show i + 1 + s = i + s + 1 by omega]
    exact h4 _
theorem mod_step (k d : Nat) (hd : 0 < d) : (k + 1) % d = k % d + 1 ∨ (k % d + 1 = d ∧ (k + 1) % d = 0) := by
  have h1 := Nat.mod_lt k hd
  by_cases h : k % d + 1 = d
  · right
    refine ⟨h, ?_⟩
    rw [Nat.add_mod]
    by_cases h2 : d = 1
    · subst h2; exact Nat.mod_one _
    · rw [Nat.mod_eq_of_lt (show 1 < d by omega), h, Nat.mod_self]
  · left
    have h2 : (k + 1) % d = (k % d + 1) % d := by rw [Nat.add_mod]; by_cases h2 : d = 1
                                                  · subst h2; simp [Nat.mod_one]
                                                  · rw [Nat.mod_eq_of_lt (show 1 < d by omega)]
    rw [h2]
    exact Nat.mod_eq_of_lt (by omega)
/-- A repetition cuts out a shorter closed walk. -/
theorem Closed.cut {arc : Nat → Nat → Prop} {n : Nat} {c : Nat → Nat} (hc : ∀ i, c i < n) (ha : ∀ i, arc (c i) (c (i + 1))) (i d : Nat) (hd : 0 < d) (he : c i = c (i + d)) : Closed arc n d (fun k => c (i + k % d)) := by
  refine ⟨hd, fun k => ?_, fun k => hc _, fun k => ?_⟩
  · show c (i + (k + d) % d) = c (i + k % d)
    rw [Nat.add_mod_right]
  · show arc (c (i + k % d)) (c (i + (k + 1) % d))
    rcases mod_step k d hd with h | ⟨h1, h2⟩
    · rw [h]; exact ha _
    · rw [h2, Nat.add_zero, he]
      have := ha (i + k % d)
      rw [show i + k % d + 1 = i + d by omega] at this
      exact this
/-- The shortest closed walk. -/
theorem exists_min {P : Nat → Prop} (h : ∃ n, P n) : ∃ n, P n ∧ ∀ m, m < n → ¬ P m := by
  obtain ⟨n, hn⟩ := h
  induction n using Nat.strongRecOn with
  | ind n ih =>
    by_cases h : ∃ m, m < n ∧ P m
    · obtain ⟨m, hm, hp⟩ := h
      exact ih m hm hp
    · exact ⟨n, hn, fun m hm hp => h ⟨m, hm, hp⟩⟩
theorem Closed.simple {arc : Nat → Nat → Prop} {n L : Nat} {c : Nat → Nat} (h : Closed arc n L c) : ∃ L' c', Closed arc n L' c' ∧ (∀ i j, i < j → j < L' → c' i ≠ c' j) ∧ ∀ j, c' 0 ≤ c' j := by
  obtain ⟨L', ⟨c1, h1⟩, hmin⟩ := exists_min (P := fun L => ∃ c, Closed arc n L c) ⟨L, c, h⟩
  obtain ⟨m, ⟨s, hs⟩, hm⟩ := exists_min (P := fun m => ∃ s, c1 s = m) ⟨c1 0, 0, rfl⟩
  have h2 := h1.shift s
  refine ⟨L', _, h2, fun i j hij hj he => ?_, fun j => ?_⟩
  · have h3 := Closed.cut (arc := arc) h2.2.2.1 h2.2.2.2 i (j - i) (by omega) (by rw [show i + (j - i) = j by omega]; exact he)
    exact hmin (j - i) (by omega) ⟨_, h3⟩
  · show c1 (0 + s) ≤ c1 (j + s)
    rw [Nat.zero_add, hs]
    rcases Nat.lt_or_ge (c1 (j + s)) m with h | h
    · exact absurd ⟨_, rfl⟩ (hm _ h)
    · exact h
/-- A repetition among many numbers below n. -/
theorem repeats (n : Nat) (f : Nat → Nat) (hf : ∀ i, f i < n) : ∃ i j, i < j ∧ f i = f j := by
  apply Classical.byContradiction
  intro h
  have hd : ((List.range (n + 1)).map f).Nodup := by
    rw [List.nodup_iff_pairwise_ne, List.pairwise_iff_getElem]
    intro i j hi hj hij he
    simp only [List.getElem_map, List.getElem_range] at he
    exact h ⟨i, j, hij, he⟩
  have := nodup_len n _ hd (fun x hx => by obtain ⟨i, _, rfl⟩ := List.mem_map.1 hx; exact hf i)
  simp at this
  omega
/-- Each element of a set has a predecessor in it: there is a closed walk. -/
theorem closed_of_preds {arc : Nat → Nat → Prop} {n : Nat} (S : Nat → Prop) (hS : ∀ x, S x → x < n) (hp : ∀ x, S x → ∃ y, S y ∧ arc y x) (hx : ∃ x, S x) : ∃ L c, Closed arc n L c := by
  obtain ⟨x0, h0⟩ := hx
  let p : {x // S x} → {x // S x} := fun x => ⟨Classical.choose (hp x.1 x.2), (Classical.choose_spec (hp x.1 x.2)).1⟩
  have hpa : ∀ x, arc (p x).1 x.1 := fun x => (Classical.choose_spec (hp x.1 x.2)).2
  let it : Nat → {x // S x} := fun k => Nat.rec ⟨x0, h0⟩ (fun _ y => p y) k
  have hit : ∀ k, it (k + 1) = p (it k) := fun k => rfl
  obtain ⟨i, j, hij, he⟩ := repeats n (fun k => (it k).1) (fun k => hS _ (it k).2)
  -- backwards from j
  have ha : ∀ k, arc (it (k + 1)).1 (it k).1 := fun k => by rw [hit]; exact hpa _
  refine ⟨j - i, fun k => (it (i + (j - i - k % (j - i)))).1, by omega, fun k => ?_, fun k => hS _ (it _).2, fun k => ?_⟩
  · show (it (i + (j - i - (k + (j - i)) % (j - i)))).1 = _
    rw [Nat.add_mod_right]
  · show arc (it (i + (j - i - k % (j - i)))).1 (it (i + (j - i - (k + 1) % (j - i)))).1
    have hlt := Nat.mod_lt k (show 0 < j - i by omega)
    rcases mod_step k (j - i) (by omega) with h | ⟨h1, h2⟩
    · rw [h]
      have := ha (i + (j - i - (k % (j - i) + 1)))
      rw [show i + (j - i - (k % (j - i) + 1)) + 1 = i + (j - i - k % (j - i)) by omega] at this
      exact this
    · rw [h2, show i + (j - i - 0) = j by omega, show i + (j - i - k % (j - i)) = i + 1 by omega]
      have := ha i
      have he' : (it i).1 = (it j).1 := he
      rw [he'] at this
      exact this
/-- A path without repetition from its least element. -/
def Good (arc : Nat → Nat → Prop) (n : Nat) (l : List Nat) : Prop := l.Nodup ∧ (∀ x ∈ l, x < n) ∧ (∀ x ∈ l.tail, l.headD 0 < x) ∧ ∀ i (h : i + 1 < l.length), arc (l[i]'(by omega)) l[i + 1]
theorem good_of_closed {arc : Nat → Nat → Prop} {n L : Nat} {c : Nat → Nat} (h : Closed arc n L c) : ∃ l, l ≠ [] ∧ Good arc n l ∧ arc (l.getLastD 0) (l.headD 0) := by
  obtain ⟨L, c, ⟨h1, h2, h3, h4⟩, hinj, hmin⟩ := h.simple
  have hd : ((List.range L).map c).Nodup := by
    rw [List.nodup_iff_pairwise_ne, List.pairwise_iff_getElem]
    intro i j hi hj hij he
    simp only [List.getElem_map, List.getElem_range] at he
    simp at hj
    exact hinj i j hij hj he
  obtain ⟨M, rfl⟩ : ∃ M, L = M + 1 := ⟨L - 1, by omega⟩
  have hh : ((List.range (M + 1)).map c).headD 0 = c 0 := by simp [List.range_succ_eq_map]
  refine ⟨(List.range (M + 1)).map c, by simp, ⟨hd, fun x hx => ?_, fun x hx => ?_, fun i hi => ?_⟩, ?_⟩
  · obtain ⟨i, _, rfl⟩ := List.mem_map.1 hx; exact h3 i
  · rw [hh]
    have ht : ((List.range (M + 1)).map c).tail = ((List.range M).map Nat.succ).map c := by simp [List.range_succ_eq_map]
    rw [ht] at hx
    obtain ⟨i, hi, rfl⟩ := List.mem_map.1 hx
    obtain ⟨k, hk, rfl⟩ := List.mem_map.1 hi
    have hk := List.mem_range.1 hk
    have q1 := hmin (k + 1)
    have q2 := hinj 0 (k + 1) (by omega) (by omega)
    show c 0 < c (k + 1)
    omega
  · simp only [List.getElem_map, List.getElem_range]; exact h4 i
  · rw [hh]
    have hl : ((List.range (M + 1)).map c).getLastD 0 = c M := by simp [List.range_succ]
    rw [hl]
    have := h4 M
    have e := h2 0
    rw [Nat.zero_add] at e
    rw [e] at this
    exact this
/-- A list without repetition whose elements lie in another one is not longer. -/
theorem sub_len {α : Type} [DecidableEq α] : ∀ (l m : List α), l.Nodup → (∀ x ∈ l, x ∈ m) → l.length ≤ m.length := by
  intro l
  induction l with
  | nil => intro m _ _; simp
  | cons a l ih =>
    intro m hd hm
    rw [List.nodup_cons] at hd
    have h1 := ih (m.erase a) hd.2 fun x hx => by
      have hne : x ≠ a := by rintro rfl; exact hd.1 hx
      exact (List.mem_erase_of_ne hne).2 (hm x (by simp [hx]))
    have h2 : a ∈ m := hm a (by simp)
    have h3 := List.length_erase_of_mem h2
    have h4 := List.length_pos_of_mem h2
    simp only [List.length_cons]
    omega
def arcG (gp : List Place) (u v : Nat) : Prop := ∃ p ∈ gp, p.src = (u : Int) ∧ p.dst = (v : Int) ∧ p.tokens = 0
def waitsO (gp : List Place) (o : List Int) (e : Int) : Bool := gp.any fun p => p.dst == e && p.tokens == 0 && !o.contains p.src
def readyO (gp : List Place) (o : List Int) (e : Int) : Bool := !o.contains e && !waitsO gp o e
def nextO (n : Nat) (gp : List Place) (o : List Int) : Option Nat := (List.range n).find? fun e => readyO gp o (e : Int)
/-- The order's first k events, if it has as many. -/
def orderK (n : Nat) (gp : List Place) : Nat → Option (List Int)
  | 0 => some []
  | k + 1 => (orderK n gp k).bind fun o => (nextO n gp o).map fun e => o ++ [(e : Int)]
def orderF (n : Nat) (gp : List Place) : Option (List Int) := orderK n gp n
theorem nextO_lt {n : Nat} {gp : List Place} {o : List Int} {e : Nat} (h : nextO n gp o = some e) : e < n ∧ readyO gp o e = true := by
  unfold nextO at h
  have h2 := List.find?_some h
  exact ⟨List.mem_range.1 (List.mem_of_find?_eq_some h), by simpa using h2⟩
theorem readyO_of {gp : List Place} {o : List Int} {e : Int} (h : readyO gp o e = true) : e ∉ o ∧ ∀ p ∈ gp, p.dst = e → p.tokens = 0 → p.src ∈ o := by
  unfold readyO waitsO at h
  simp only [Bool.and_eq_true, Bool.not_eq_true', List.any_eq_false] at h
  refine ⟨by simpa using h.1, fun p hp h1 h2 => ?_⟩
  have := h.2 p hp
  simpa [h1, h2] using this
theorem not_readyO {gp : List Place} {o : List Int} {e : Int} (h : readyO gp o e = false) (he : e ∉ o) : ∃ p ∈ gp, p.dst = e ∧ p.tokens = 0 ∧ p.src ∉ o := by
  unfold readyO at h
  have h1 : o.contains e = false := by simpa using he
  rw [h1] at h
  have h2 : waitsO gp o e = true := by simpa using h
  unfold waitsO at h2
  obtain ⟨p, hp, hq⟩ := List.any_eq_true.1 h2
  simp only [Bool.and_eq_true, beq_iff_eq, Bool.not_eq_true'] at hq
  exact ⟨p, hp, hq.1.1, hq.1.2, by simpa using hq.2⟩
/-- What an order is known to be. -/
structure OrdOk (n : Nat) (gp : List Place) (k : Nat) (o : List Int) : Prop where
  len : o.length = k
  nodup : o.Nodup
  rng : ∀ x ∈ o, 0 ≤ x ∧ x < (n : Int)
  ord : ∀ i (h : i < o.length), ∀ p ∈ gp, p.dst = o[i] → p.tokens = 0 → p.src ∈ o.take i
theorem OrdOk.nil (n : Nat) (gp : List Place) : OrdOk n gp 0 [] := ⟨rfl, List.nodup_nil, by simp, by intro i h; simp at h⟩
theorem OrdOk.snoc {n : Nat} {gp : List Place} {k : Nat} {o : List Int} (h : OrdOk n gp k o) {e : Nat} (he : e < n) (hr : readyO gp o e = true) : OrdOk n gp (k + 1) (o ++ [(e : Int)]) := by
  obtain ⟨h1, h2⟩ := readyO_of hr
  refine ⟨by simp [h.len], ?_, fun x hx => ?_, fun i hi p hp hd ht => ?_⟩
  · rw [List.nodup_append]
    refine ⟨h.nodup, by simp, fun a ha b hb => ?_⟩
    rw [List.mem_singleton.1 hb]
    rintro rfl
    exact h1 ha
  · rcases List.mem_append.1 hx with hx | hx
    · exact h.rng x hx
    · rw [List.mem_singleton.1 hx]; omega
  · by_cases hlt : i < o.length
    · rw [List.getElem_append_left hlt] at hd
      rw [List.take_append_of_le_length (by omega)]
      exact h.ord i hlt p hp hd ht
    · obtain rfl : i = o.length := by simp at hi; omega
      have hd' : p.dst = (e : Int) := by simpa using hd
      have := h2 p hp hd' ht
      simpa using this
theorem orderK_ok {n : Nat} {gp : List Place} : ∀ (k : Nat) (o : List Int), orderK n gp k = some o → OrdOk n gp k o := by
  intro k
  induction k with
  | zero => intro o h; cases h; exact OrdOk.nil n gp
  | succ k ih =>
    intro o h
    simp only [orderK] at h
    cases h1 : orderK n gp k with
    | none => rw [h1] at h; cases h
    | some o1 =>
      rw [h1] at h
      cases h2 : nextO n gp o1 with
      | none => rw [Option.bind_some, h2] at h; cases h
      | some e =>
        rw [Option.bind_some, h2] at h
        cases h
        obtain ⟨q1, q2⟩ := nextO_lt h2
        exact (ih o1 h1).snoc q1 q2
theorem orderK_none {n : Nat} {gp : List Place} (k m : Nat) (hk : orderK n gp k = none) (h : k ≤ m) : orderK n gp m = none := by
  induction m with
  | zero => obtain rfl : k = 0 := by omega
            exact hk
  | succ m ih =>
    by_cases e : k = m + 1
    · subst e; exact hk
    · simp only [orderK, ih (by omega)]; rfl
theorem OrdOk.all {n : Nat} {gp : List Place} {o : List Int} (h : OrdOk n gp n o) (e : Nat) (he : e < n) : (e : Int) ∈ o := by
  apply Classical.byContradiction
  intro hc
  have h1 := sub_len ((e : Int) :: o) ((List.range n).map fun i : Nat => (i : Int)) (by rw [List.nodup_cons]; exact ⟨hc, h.nodup⟩) (fun x hx => by
    have hr : 0 ≤ x ∧ x < (n : Int) := by
      rcases List.mem_cons.1 hx with rfl | hx
      · omega
      · exact h.rng x hx
    exact List.mem_map.2 ⟨x.toNat, by simp; omega, by omega⟩)
  simp [h.len] at h1
  omega
/-- A closed walk's list: what the reference's search returns. -/
def Cyc (gp : List Place) (n : Nat) (l : List Nat) : Prop := l ≠ [] ∧ (∀ x ∈ l, x < n) ∧ (∀ i (h : i + 1 < l.length), arcG gp (l[i]'(by omega)) l[i + 1]) ∧ arcG gp (l.getLastD 0) (l.headD 0)
theorem idx_take {l : List Int} {x y : Int} {i : Nat} (hd : l.Nodup) (hx : x ∈ l.take i) (hi : i < l.length) (hy : l[i] = y) : l.idxOf x < l.idxOf y := by
  obtain ⟨j, hj, hjx⟩ := List.mem_iff_getElem.1 hx
  rw [List.length_take] at hj
  rw [List.getElem_take] at hjx
  subst hjx
  subst hy
  rw [hd.idxOf_getElem, hd.idxOf_getElem]
  omega
theorem order_of_cyc {gp : List Place} {n : Nat} {l : List Nat} (h : Cyc gp n l) : orderF n gp = none := by
  cases ho : orderF n gp with
  | none => rfl
  | some o =>
    exfalso
    have hk := orderK_ok n o ho
    obtain ⟨h1, h2, h3, h4⟩ := h
    have step : ∀ u v, v < n → arcG gp u v → o.idxOf (u : Int) < o.idxOf (v : Int) := by
      intro u v hv ⟨p, hp, e1, e2, e3⟩
      obtain ⟨i, hi, hiv⟩ := List.mem_iff_getElem.1 (hk.all v hv)
      have := hk.ord i hi p hp (by rw [e2, hiv]) e3
      rw [e1] at this
      exact idx_take hk.nodup this hi hiv
    have mono : ∀ i (hi : i < l.length), o.idxOf ((l[0]'(by omega) : Nat) : Int) ≤ o.idxOf ((l[i] : Nat) : Int) := by
      intro i
      induction i with
      | zero => intro hi; exact Nat.le_refl _
      | succ i ih =>
        intro hi
        have q1 := ih (by omega)
        have q2 := step _ _ (h2 _ (List.getElem_mem hi)) (h3 i hi)
        omega
    cases l with
    | nil => exact h1 rfl
    | cons a l =>
      have hlast : (a :: l).getLastD 0 = (a :: l)[l.length]'(by simp) := by
        rw [List.getLastD_eq_getLast?, List.getLast?_eq_getElem?]
        simp
      have q := mono l.length (by simp)
      have q2 := step _ _ (h2 a (by simp)) h4
      rw [hlast] at q2
      rw [List.getElem_cons_zero] at q
      omega
theorem order_of_none {gp : List Place} {n : Nat} (hok : okGraph n gp = true) (h : ∀ l, l ≠ [] → Good (arcG gp) n l → ¬ arcG gp (l.getLastD 0) (l.headD 0)) : ∃ o, orderF n gp = some o := by
  suffices hs : ∀ k, k ≤ n → ∃ o, orderK n gp k = some o from hs n (Nat.le_refl _)
  intro k
  induction k with
  | zero => intro _; exact ⟨[], rfl⟩
  | succ k ih =>
    intro hk
    obtain ⟨o, ho⟩ := ih (by omega)
    have hO := orderK_ok k o ho
    cases hn : nextO n gp o with
    | some e => exact ⟨_, by simp only [orderK, ho, Option.bind_some, hn]; rfl⟩
    | none =>
      exfalso
      have hno : ∀ e, e < n → readyO gp o (e : Int) = false := by
        intro e he
        have := List.find?_eq_none.1 hn e (List.mem_range.2 he)
        simpa using this
      have hout : ∃ e, e < n ∧ (e : Int) ∉ o := by
        apply Classical.byContradiction
        intro hc
        have h1 := sub_len ((List.range n).map fun i : Nat => (i : Int)) o (by
          rw [List.nodup_iff_pairwise_ne, List.pairwise_iff_getElem]
          intro i j hi hj hij
          simp only [List.getElem_map, List.getElem_range]
          omega) (fun x hx => by
          obtain ⟨i, hi, rfl⟩ := List.mem_map.1 hx
          apply Classical.byContradiction
          intro hc2
          exact hc ⟨i, List.mem_range.1 hi, hc2⟩)
        simp [hO.len] at h1
        omega
      obtain ⟨L, c, hC⟩ := closed_of_preds (arc := arcG gp) (n := n) (fun x => x < n ∧ (x : Int) ∉ o) (fun x hx => hx.1) (fun x ⟨hx1, hx2⟩ => by
        obtain ⟨p, hp, e1, e2, e3⟩ := not_readyO (hno x hx1) hx2
        have hr := okGraph_place hok hp
        refine ⟨p.src.toNat, ⟨by omega, ?_⟩, p, hp, by omega, e1, e2⟩
        rw [show ((p.src.toNat : Nat) : Int) = p.src by omega]
        exact e3) hout
      obtain ⟨l, hl1, hl2, hl3⟩ := good_of_closed hC
      exact h l hl1 hl2 hl3
/-! ### what the reference's search of cycles finds -/
def Shuts (gp : List Place) (l : List Nat) : Prop := arcG gp (l.getLastD 0) (l.headD 0)
/-- No path that begins with this one can be closed. -/
def Barren (gp : List Place) (n : Nat) (path : List Nat) : Prop := ∀ ext, Good (arcG gp) n (path ++ ext) → ¬ Shuts gp (path ++ ext)
def Found (gp : List Place) (n : Nat) (path out : List Nat) : Prop := (out = [] → Barren gp n path) ∧ (out ≠ [] → Cyc gp n out)
theorem good_one {arc : Nat → Nat → Prop} {n v : Nat} (h : v < n) : Good arc n [v] := ⟨by simp, by simpa using h, by simp, fun i hi => by simp at hi⟩
theorem last_get {l : List Nat} (h : l ≠ []) : l.getLastD 0 = l[l.length - 1]'(by have := List.length_pos_iff.2 h; omega) := by
  rw [List.getLastD_eq_getLast?, List.getLast?_eq_getElem?, List.getElem?_eq_getElem (by have := List.length_pos_iff.2 h; omega)]
  rfl
theorem head_get {l : List Nat} (h : l ≠ []) : l.headD 0 = l[0]'(List.length_pos_iff.2 h) := by
  cases l with
  | nil => exact absurd rfl h
  | cons a l => rfl
theorem cyc_of_good {gp : List Place} {n : Nat} {path : List Nat} (hne : path ≠ []) (hg : Good (arcG gp) n path) (hc : Shuts gp path) : Cyc gp n path := ⟨hne, hg.2.1, hg.2.2.2, hc⟩
theorem Good.snoc {arc : Nat → Nat → Prop} {n u : Nat} {path : List Nat} (hne : path ≠ []) (hg : Good arc n path) (h1 : path.headD 0 < u) (h2 : u < n) (h3 : u ∉ path) (h4 : arc (path.getLastD 0) u) : Good arc n (path ++ [u]) := by
  obtain ⟨g1, g2, g3, g4⟩ := hg
  refine ⟨?_, ?_, ?_, fun i hi => ?_⟩
  · rw [List.nodup_append]
    refine ⟨g1, by simp, fun a ha b hb => ?_⟩
    rw [List.mem_singleton.1 hb]
    rintro rfl
    exact h3 ha
  · intro x hx
    rcases List.mem_append.1 hx with hx | hx
    · exact g2 x hx
    · rw [List.mem_singleton.1 hx]; exact h2
  · cases path with
    | nil => exact absurd rfl hne
    | cons a l =>
      intro x hx
      simp only [List.cons_append, List.tail_cons] at hx
      rcases List.mem_append.1 hx with hx | hx
      · exact g3 x hx
      · rw [List.mem_singleton.1 hx]; exact h1
  · by_cases hlt : i + 1 < path.length
    · rw [List.getElem_append_left hlt, List.getElem_append_left (by omega)]
      exact g4 i hlt
    · have hp := List.length_pos_iff.2 hne
      have hi2 : i = path.length - 1 := by simp at hi; omega
      subst hi2
      rw [List.getElem_append_left (by omega)]
      have e1 : (path ++ [u])[path.length - 1 + 1]'hi = u := by
        rw [List.getElem_append_right (by omega)]
        simp
      rw [e1, ← last_get hne]
      exact h4
/-- What holds of the beginnings of a path. -/
theorem Good.next {arc : Nat → Nat → Prop} {n u : Nat} {path ext : List Nat} (hne : path ≠ []) (hg : Good arc n (path ++ u :: ext)) : path.headD 0 < u ∧ u < n ∧ u ∉ path ∧ arc (path.getLastD 0) u := by
  obtain ⟨g1, g2, g3, g4⟩ := hg
  have hp := List.length_pos_iff.2 hne
  refine ⟨?_, g2 u (by simp), fun hu => ?_, ?_⟩
  · cases path with
    | nil => exact absurd rfl hne
    | cons a l => exact g3 u (by simp)
  · rw [List.nodup_append] at g1
    exact g1.2.2 u hu u (by simp) rfl
  · have := g4 (path.length - 1) (by simp; omega)
    rw [List.getElem_append_left (by omega), List.getElem_append_right (by omega)] at this
    rw [last_get hne]
    have e : path.length - 1 + 1 - path.length = 0 := by omega
    simp only [e, List.getElem_cons_zero] at this
    exact this
theorem barren_of {gp : List Place} {n : Nat} {path : List Nat} (hne : path ≠ []) (hc : ¬ Shuts gp path) (h : ∀ u, path.headD 0 < u → u < n → arcG gp (path.getLastD 0) u → u ∉ path → Barren gp n (path ++ [u])) : Barren gp n path := by
  intro ext hg
  cases ext with
  | nil => simpa using hc
  | cons u ext =>
    obtain ⟨h1, h2, h3, h4⟩ := hg.next hne
    have := h u h1 h2 h4 h3 ext
    simpa using this (by simpa using hg)
theorem all_barren {gp : List Place} {n : Nat} (h : ∀ v, v < n → Barren gp n [v]) : ∀ l, l ≠ [] → Good (arcG gp) n l → ¬ arcG gp (l.getLastD 0) (l.headD 0) := by
  intro l hl hg
  cases l with
  | nil => exact absurd rfl hl
  | cons v l => exact h v (hg.2.1 v (by simp)) l hg
theorem dead_iff {gp : List Place} {n : Nat} (hok : okGraph n gp = true) {out : List Nat} (h1 : out = [] → ∀ v, v < n → Barren gp n [v]) (h2 : out ≠ [] → Cyc gp n out) : (orderF n gp).isNone = decide (0 < out.length) := by
  cases out with
  | nil =>
    obtain ⟨o, ho⟩ := order_of_none hok (all_barren (h1 rfl))
    rw [ho]
    rfl
  | cons a l =>
    rw [order_of_cyc (h2 (by simp))]
    rfl
end Go.Proofs.Ytcoomogabicfnaa
namespace Go.Proofs.Ytcoomogabicfnaa
open Go.RowKit
set_option linter.unusedVariables false
set_option linter.unusedSimpArgs false

def getT (T : List (List Int)) (i j : Nat) : Int := (T.getD i []).getD j 0
def setT (T : List (List Int)) (i j : Nat) (x : Int) : List (List Int) := T.set i ((T.getD i []).set j x)
theorem getT_eq {T : List (List Int)} {i j : Nat} (h : i < T.length) (h2 : j < T[i].length) : getT T i j = T[i][j] := by
  simp [getT, List.getD, List.getElem?_eq_getElem h, List.getElem?_eq_getElem h2]
theorem setT_eq {T : List (List Int)} {i : Nat} (h : i < T.length) (j : Nat) (x : Int) : setT T i j x = T.set i (T[i].set j x) := by
  simp [setT, List.getD, List.getElem?_eq_getElem h]
/-- One place, for the time of event e in round k. -/
def updT (k e : Nat) (T : List (List Int)) (p : Place) : List (List Int) :=
  if p.dst = (e : Int) ∧ p.tokens ≤ (k : Int) then setT T k e (max (getT T k e) (getT T (k - p.tokens.toNat) p.src.toNat + p.delay)) else T
def eventT (gp : List Place) (k e : Nat) (T : List (List Int)) : List (List Int) := gp.foldl (updT k e) T
def roundT (gp : List Place) (k : Nat) (o : List Int) (T : List (List Int)) : List (List Int) := o.foldl (fun T e => eventT gp k e.toNat T) T
/-- The firing times of the first k rounds. -/
def timT (gp : List Place) (o s : List Int) : Nat → List (List Int)
  | 0 => []
  | k + 1 => roundT gp k o (timT gp o s k ++ [s])
theorem eventT_succ (gp : List Place) (k e : Nat) (T : List (List Int)) (q : Nat) (h : q < gp.length) : eventT (gp.take (q + 1)) k e T = updT k e (eventT (gp.take q) k e T) gp[q] := by
  unfold eventT
  rw [take_succ_get _ _ h, List.foldl_append]
  rfl
theorem roundT_succ (gp : List Place) (k : Nat) (o : List Int) (T : List (List Int)) (i : Nat) (h : i < o.length) : roundT gp k (o.take (i + 1)) T = eventT gp k o[i].toNat (roundT gp k (o.take i) T) := by
  unfold roundT
  rw [take_succ_get _ _ h, List.foldl_append]
  rfl
/-- What a table is known to be: m rows of n numbers from 0 to c. -/
structure TabOk (n m c : Nat) (T : List (List Int)) : Prop where
  len : T.length = m
  row : ∀ r ∈ T, r.length = n
  bd : ∀ r ∈ T, ∀ x ∈ r, 0 ≤ x ∧ x ≤ (c : Int)
theorem TabOk.nil (n c : Nat) : TabOk n 0 c [] := ⟨rfl, by simp, by simp⟩
theorem TabOk.mono {n m c d : Nat} {T : List (List Int)} (h : TabOk n m c T) (hd : c ≤ d) : TabOk n m d T := ⟨h.len, h.row, fun r hr x hx => by have := h.bd r hr x hx; omega⟩
theorem TabOk.push {n m c : Nat} {T : List (List Int)} (h : TabOk n m c T) {s : List Int} (hs : s.length = n) (hb : ∀ x ∈ s, 0 ≤ x ∧ x ≤ (c : Int)) : TabOk n (m + 1) c (T ++ [s]) := by
  refine ⟨by simp [h.len], fun r hr => ?_, fun r hr => ?_⟩
  · rcases List.mem_append.1 hr with hr | hr
    · exact h.row r hr
    · rw [List.mem_singleton.1 hr]; exact hs
  · rcases List.mem_append.1 hr with hr | hr
    · exact h.bd r hr
    · rw [List.mem_singleton.1 hr]; exact hb
theorem TabOk.get {n m c : Nat} {T : List (List Int)} (h : TabOk n m c T) (i j : Nat) : 0 ≤ getT T i j ∧ getT T i j ≤ (c : Int) := by
  unfold getT
  by_cases hi : i < T.length
  · simp only [List.getD, List.getElem?_eq_getElem hi, Option.getD_some]
    by_cases hj : j < T[i].length
    · simp only [List.getElem?_eq_getElem hj, Option.getD_some]
      exact h.bd _ (List.getElem_mem hi) _ (List.getElem_mem hj)
    · simp [List.getElem?_eq_none (Nat.le_of_not_lt hj)]
  · simp [List.getD, List.getElem?_eq_none (Nat.le_of_not_lt hi)]
theorem TabOk.put {n m c d : Nat} {T : List (List Int)} (h : TabOk n m c T) (i j : Nat) (x : Int) (hx : 0 ≤ x ∧ x ≤ (d : Int)) (hd : c ≤ d) : TabOk n m d (setT T i j x) := by
  by_cases hi : i < T.length
  · rw [setT_eq hi]
    refine ⟨by simp [h.len], fun r hr => ?_, fun r hr y hy => ?_⟩
    · rcases List.mem_or_eq_of_mem_set hr with hr | rfl
      · exact h.row r hr
      · rw [List.length_set]; exact h.row _ (List.getElem_mem hi)
    · rcases List.mem_or_eq_of_mem_set hr with hr | rfl
      · have := h.bd r hr y hy; omega
      · rcases List.mem_or_eq_of_mem_set hy with hy | rfl
        · have := h.bd _ (List.getElem_mem hi) y hy; omega
        · exact hx
  · have : setT T i j x = T := by unfold setT; exact List.set_eq_of_length_le (Nat.le_of_not_lt hi)
    rw [this]
    exact h.mono hd
theorem TabOk.upd {n m c : Nat} {T : List (List Int)} (h : TabOk n m c T) (k e : Nat) {p : Place} (hp : 0 ≤ p.delay ∧ p.delay ≤ 1000) : TabOk n m (c + 1000) (updT k e T p) := by
  unfold updT
  have h1 := h.get k e
  have h2 := h.get (k - p.tokens.toNat) p.src.toNat
  split
  · exact h.put _ _ _ (by omega) (by omega)
  · exact h.mono (by omega)
theorem TabOk.event {n m c : Nat} {ge : Int} {gp : List Place} (hok : okGraph ge gp = true) {T : List (List Int)} (h : TabOk n m c T) (k e : Nat) : ∀ q, q ≤ gp.length → TabOk n m (c + 1000 * q) (eventT (gp.take q) k e T) := by
  intro q
  induction q with
  | zero => intro _; exact h
  | succ q ih =>
    intro hq
    rw [eventT_succ _ _ _ _ _ (by omega)]
    exact ((ih (by omega)).upd k e (okGraph_place hok (List.getElem_mem _)).2.2.1).mono (by omega)
theorem TabOk.round {n m c : Nat} {ge : Int} {gp : List Place} (hok : okGraph ge gp = true) (hgl : gp.length ≤ 30) {T : List (List Int)} (h : TabOk n m c T) (k : Nat) (o : List Int) : ∀ i, i ≤ o.length → TabOk n m (c + 30000 * i) (roundT gp k (o.take i) T) := by
  intro i
  induction i with
  | zero => intro _; exact h
  | succ i ih =>
    intro hi
    rw [roundT_succ _ _ _ _ _ (by omega)]
    have := (ih (by omega)).event hok k o[i].toNat gp.length (Nat.le_refl _)
    rw [List.take_length] at this
    exact this.mono (by omega)
theorem TabOk.times {n c : Nat} {ge : Int} {gp : List Place} (hok : okGraph ge gp = true) (hgl : gp.length ≤ 30) {o s : List Int} (ho : o.length ≤ 10) (hs : s.length = n) (hb : ∀ x ∈ s, 0 ≤ x ∧ x ≤ (c : Int)) : ∀ k, TabOk n k (c + 300000 * k) (timT gp o s k) := by
  intro k
  induction k with
  | zero => exact TabOk.nil _ _
  | succ k ih =>
    have h1 := (ih.push hs (fun x hx => by have := hb x hx; omega)).round hok hgl k o o.length (Nat.le_refl _)
    rw [List.take_length] at h1
    exact h1.mono (by omega)
theorem TabOk.lenAt {n m c : Nat} {T : List (List Int)} (h : TabOk n m c T) (i : Nat) (hi : i < T.length) : T[i].length = n := h.row _ (List.getElem_mem hi)
theorem max_if3 (a b : Int) : max a b = if a < b then b else a := by by_cases h : a < b <;> simp [h] <;> omega
theorem updT_yes (k e s tk d : Nat) (del : Int) (T : List (List Int)) (htk : tk ≤ k) (hd : k - tk = d) (hk : k < T.length) :
    updT k e T ⟨(s : Int), (e : Int), del, (tk : Int)⟩ = T.set k (T[k].set e (if getT T k e < getT T d s + del then getT T d s + del else getT T k e)) := by
  unfold updT
  rw [if_pos ⟨rfl, by show (tk : Int) ≤ (k : Int); omega⟩, setT_eq hk, max_if3]
  simp only [Int.toNat_natCast, hd]
theorem updT_no (k e : Nat) (p : Place) (T : List (List Int)) (h : ¬ (p.dst = (e : Int) ∧ p.tokens ≤ (k : Int))) : updT k e T p = T := by
  unfold updT
  rw [if_neg h]
end Go.Proofs.Ytcoomogabicfnaa
