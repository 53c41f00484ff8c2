/-
  Simplified places: plain Lean, no program in sight.
-/
import Derived.Test.YtcoomogabicfnaaGreatDoorGraph
import Derived.Test.YtcoomogabicfnaaGreatDoorEqs
namespace Go.Proofs.YtcoomogabicfnaaGreatDoor
open Go.RowKit
set_option linter.unusedVariables false
set_option linter.unusedSimpArgs false
theorem sub_lenQ {α : Type} [DecidableEq α] : ∀ (l m : List α), l.Nodup → (∀ x ∈ l, x ∈ m) → l.length ≤ m.length := by
  intro l
  induction l with
  | nil => intro m _ _; simp
  | cons a l ih =>
    intro m hd hm
    rw [List.nodup_cons] at hd
    have h1 := ih (m.erase a) hd.2 fun x hx => by
      have hne : x ≠ a := by rintro rfl; exact hd.1 hx
      exact (List.mem_erase_of_ne hne).2 (hm x (by simp [hx]))
    have h2 : a ∈ m := hm a (by simp)
    have h3 := List.length_erase_of_mem h2
    have h4 := List.length_pos_of_mem h2
    simp only [List.length_cons]
    omega
/-- The order of places by From, To and Tokens. -/
def keyLt (p q : Place) : Bool := decide (p.src < q.src) || (decide (p.src = q.src) && (decide (p.dst < q.dst) || (decide (p.dst = q.dst) && decide (p.tokens < q.tokens))))
def keyEq (p q : Place) : Bool := decide (p.src = q.src) && (decide (p.dst = q.dst) && decide (p.tokens = q.tokens))
theorem keyLt_iff (p q : Place) : keyLt p q = true ↔ p.src < q.src ∨ (p.src = q.src ∧ (p.dst < q.dst ∨ (p.dst = q.dst ∧ p.tokens < q.tokens))) := by simp [keyLt]
theorem keyEq_iff (p q : Place) : keyEq p q = true ↔ p.src = q.src ∧ p.dst = q.dst ∧ p.tokens = q.tokens := by simp [keyEq]
theorem keyEq_comm (p q : Place) : keyEq p q = keyEq q p := by
  rw [Bool.eq_iff_iff, keyEq_iff, keyEq_iff]
  omega
theorem place_ext {p q : Place} (h : keyEq p q = true) (hd : p.delay = q.delay) : p = q := by
  rw [keyEq_iff] at h
  cases p
  cases q
  simp_all
/-- Of all places with one key the one with the greatest delay, in the order of the keys. -/
def IsSimp (gp S : List Place) : Prop := S.Pairwise (fun p q => keyLt p q = true) ∧ ∀ p, p ∈ S ↔ p ∈ gp ∧ ∀ q ∈ gp, keyEq q p = true → q.delay ≤ p.delay
theorem isSimp_unique {gp S T : List Place} (h : IsSimp gp S) (k : IsSimp gp T) : S = T := by
  have hmem : ∀ p, p ∈ S ↔ p ∈ T := fun p => by rw [h.2, k.2]
  have hS := h.1
  have hT := k.1
  clear h k
  induction S generalizing T with
  | nil =>
    cases T with
    | nil => rfl
    | cons b T => exact absurd ((hmem b).2 (by simp)) (by simp)
  | cons a S ih =>
    cases T with
    | nil => exact absurd ((hmem a).1 (by simp)) (by simp)
    | cons b T =>
      rw [List.pairwise_cons] at hS hT
      have irr : ∀ x y : Place, keyLt x y = true → keyLt y x = true → False := fun x y h1 h2 => by
        rw [keyLt_iff] at h1 h2
        omega
      have hab : a = b := by
        have h1 := (hmem a).1 (by simp)
        have h2 := (hmem b).2 (by simp)
        rcases List.mem_cons.1 h1 with h1 | h1
        · exact h1
        · rcases List.mem_cons.1 h2 with h2 | h2
          · exact h2.symm
          · exact (irr _ _ (hT.1 _ h1) (hS.1 _ h2)).elim
      subst hab
      congr 1
      refine ih (fun p => ?_) hS.2 hT.2
      have := hmem p
      simp only [List.mem_cons] at this
      have e1 : p ∈ S → p ≠ a := fun hp e => irr a p (hS.1 p hp) (by rw [e]; exact e ▸ hS.1 p hp)
      have e2 : p ∈ T → p ≠ a := fun hp e => irr a p (hT.1 p hp) (by rw [e]; exact e ▸ hT.1 p hp)
      constructor
      · intro hp
        exact (this.1 (.inr hp)).resolve_left (e1 hp)
      · intro hp
        exact (this.2 (.inr hp)).resolve_left (e2 hp)
theorem isSimp_again {gp S : List Place} (h : IsSimp gp S) : IsSimp S S := by
  refine ⟨h.1, fun p => ⟨fun hp => ⟨hp, fun q hq he => ?_⟩, fun hp => hp.1⟩⟩
  have h1 := (h.2 p).1 hp
  have h2 := (h.2 q).1 hq
  exact h1.2 q h2.1 he
/-! ### the reference's way: one place after the other -/
/-- How many places of a sorted list come before p. -/
def befN (S : List Place) (p : Place) : Nat := (S.takeWhile fun q => keyLt q p).length
def insP (S : List Place) (p : Place) : List Place :=
  match S[befN S p]? with
  | some q => if keyLt p q = true then S.take (befN S p) ++ p :: S.drop (befN S p) else S.set (befN S p) { q with delay := max q.delay p.delay }
  | none => S.take (befN S p) ++ p :: S.drop (befN S p)
def simpF (gp : List Place) : List Place := gp.foldl insP []
theorem befN_le (S : List Place) (p : Place) : befN S p ≤ S.length := by
  unfold befN
  have := List.takeWhile_prefix (l := S) (fun q => keyLt q p)
  exact this.length_le
theorem befN_before {S : List Place} {p : Place} {k : Nat} (h : k < befN S p) (hk : k < S.length) : keyLt S[k] p = true := by
  have hpre := List.takeWhile_prefix (l := S) (fun q => keyLt q p)
  have hm : (S.takeWhile fun q => keyLt q p)[k]'h ∈ S.takeWhile fun q => keyLt q p := List.getElem_mem _
  have := List.all_eq_true.1 (List.all_takeWhile (l := S) (p := fun q => keyLt q p)) _ hm
  rw [hpre.getElem h] at this
  exact this
/-- A sorted list, cut where p belongs. -/
theorem ins_cut {S : List Place} (hS : S.Pairwise fun p q => keyLt p q = true) (p : Place) :
    ∃ A B, S = A ++ B ∧ A.length = befN S p ∧ (∀ q ∈ A, keyLt q p = true) ∧ (∀ q ∈ B, keyLt q p = false) := by
  refine ⟨S.takeWhile fun q => keyLt q p, S.dropWhile fun q => keyLt q p, List.takeWhile_append_dropWhile.symm, rfl, fun q hq => List.all_eq_true.1 (List.all_takeWhile (l := S) (p := fun q => keyLt q p)) q hq, ?_⟩
  have h1 : (S.dropWhile fun q => keyLt q p).Pairwise fun p q => keyLt p q = true := hS.sublist (List.dropWhile_sublist _)
  cases hB : S.dropWhile fun q => keyLt q p with
  | nil => intro q hq; cases hq
  | cons b B =>
    have hb : keyLt b p = false := by
      have hne : S.dropWhile (fun q => keyLt q p) ≠ [] := by rw [hB]; simp
      have h2 := List.head_dropWhile_not (fun q => keyLt q p) hne
      have h3 : (S.dropWhile (fun q => keyLt q p)).head hne = b := by
        have : (S.dropWhile fun q => keyLt q p).head? = some b := by rw [hB]; rfl
        rw [List.head?_eq_some_head hne] at this
        simpa using this
      rw [h3] at h2
      simpa using h2
    rw [hB, List.pairwise_cons] at h1
    intro q hq
    rcases List.mem_cons.1 hq with rfl | hq
    · exact hb
    · have h4 := h1.1 q hq
      cases h5 : keyLt q p with
      | false => rfl
      | true =>
        rw [keyLt_iff] at h4 h5
        have : ¬ keyLt b p = true := by rw [hb]; simp
        rw [keyLt_iff] at this
        omega
theorem insP_eq {p : Place} {A B : List Place} (hA : A.length = befN (A ++ B) p) :
    insP (A ++ B) p = match B with
      | [] => A ++ [p]
      | q :: B' => if keyLt p q = true then A ++ p :: q :: B' else A ++ { q with delay := max q.delay p.delay } :: B' := by
  unfold insP
  rw [← hA]
  cases B with
  | nil => simp
  | cons q B' =>
    rw [List.getElem?_append_right (Nat.le_refl _)]
    simp only [Nat.sub_self, List.getElem?_cons_zero, List.take_left', List.drop_left']
    split
    · rfl
    · rw [List.set_append_right _ _ (Nat.le_refl _)]
      simp
theorem insP_simp {gp S : List Place} (h : IsSimp gp S) (p : Place) : IsSimp (gp ++ [p]) (insP S p) := by
  obtain ⟨A, B, e, hA, hAp, hBp⟩ := ins_cut h.1 p
  have e0 : insP S p = insP (A ++ B) p := by rw [e]
  rw [e0, insP_eq (by rw [← e]; exact hA)]
  clear e0
  have hm := h.2
  have hs := h.1
  have hf : ∀ q, keyLt q p = false ↔ ¬ keyLt q p = true := fun q => by simp
  have hAB : ∀ x, x ∈ S ↔ x ∈ A ∨ x ∈ B := fun x => by rw [e]; simp
  rw [e, List.pairwise_append] at hs
  obtain ⟨sA, sB, sAB⟩ := hs
  -- no place of S has p's key, unless it is the first of B
  have new : (∀ q ∈ B, keyLt p q = true) → IsSimp (gp ++ [p]) (A ++ p :: B) := by
    intro hB
    refine ⟨?_, fun x => ?_⟩
    · rw [List.pairwise_append, List.pairwise_cons]
      refine ⟨sA, ⟨hB, sB⟩, fun a ha b hb => ?_⟩
      rcases List.mem_cons.1 hb with rfl | hb
      · exact hAp a ha
      · exact sAB a ha b hb
    · have hnk : ∀ q ∈ S, keyEq q p = true → False := fun q hq he => by
        rw [keyEq_iff] at he
        rcases (hAB q).1 hq with hq | hq
        · have := hAp q hq
          rw [keyLt_iff] at this
          omega
        · have := hB q hq
          rw [keyLt_iff] at this
          omega
      have hng : ∀ q ∈ gp, keyEq q p = true → False := fun q hq he => by
        -- the greatest of that key in gp lies in S
        have : ∃ m ∈ gp, keyEq m p = true ∧ ∀ r ∈ gp, keyEq r p = true → r.delay ≤ m.delay := by
          have key : ∀ l : List Place, (∃ q ∈ l, keyEq q p = true) → ∃ m ∈ l, keyEq m p = true ∧ ∀ r ∈ l, keyEq r p = true → r.delay ≤ m.delay := by
            intro l
            induction l with
            | nil => rintro ⟨q, hq, _⟩; cases hq
            | cons a l ih =>
              rintro ⟨q, hq, hqe⟩
              by_cases hl : ∃ q ∈ l, keyEq q p = true
              · obtain ⟨m, hml, hme, hmx⟩ := ih hl
                by_cases ha : keyEq a p = true ∧ m.delay < a.delay
                · refine ⟨a, by simp, ha.1, fun r hr hre => ?_⟩
                  rcases List.mem_cons.1 hr with rfl | hr
                  · omega
                  · have := hmx r hr hre
                    omega
                · refine ⟨m, by simp [hml], hme, fun r hr hre => ?_⟩
                  rcases List.mem_cons.1 hr with rfl | hr
                  · have : ¬ m.delay < r.delay := fun hlt => ha ⟨hre, hlt⟩
                    omega
                  · exact hmx r hr hre
              · have hqa : q = a := (List.mem_cons.1 hq).resolve_right fun hql => hl ⟨q, hql, hqe⟩
                subst hqa
                refine ⟨q, by simp, hqe, fun r hr hre => ?_⟩
                rcases List.mem_cons.1 hr with rfl | hr
                · omega
                · exact absurd ⟨r, hr, hre⟩ hl
          exact key gp ⟨q, hq, he⟩
        obtain ⟨m, hm1, hm2, hm3⟩ := this
        refine hnk m ((hm m).2 ⟨hm1, fun r hr hre => hm3 r hr ?_⟩) hm2
        rw [keyEq_iff] at hre hm2 ⊢
        omega
      simp only [List.mem_append, List.mem_cons, List.not_mem_nil, or_false]
      constructor
      · intro hx
        replace hx : x = p ∨ x ∈ S := by
          rcases hx with hx | hx | hx
          · exact .inr ((hAB x).2 (.inl hx))
          · exact .inl hx
          · exact .inr ((hAB x).2 (.inr hx))
        rcases hx with rfl | hx
        · refine ⟨.inr rfl, fun q hq he => ?_⟩
          rcases hq with hq | rfl
          · exact (hng q hq he).elim
          · exact Int.le_refl _
        · obtain ⟨h1, h2⟩ := (hm x).1 hx
          refine ⟨.inl h1, fun q hq he => ?_⟩
          rcases hq with hq | rfl
          · exact h2 q hq he
          · exact (hnk x hx (by rw [keyEq_comm]; exact he)).elim
      · rintro ⟨hx, h2⟩
        rcases hx with hx | rfl
        · have hxS := (hm x).2 ⟨hx, fun q hq he => h2 q (.inl hq) he⟩
          rcases (hAB x).1 hxS with hx | hx
          · exact .inl hx
          · exact .inr (.inr hx)
        · exact .inr (.inl rfl)
  cases B with
  | nil => exact new (by simp)
  | cons b B' =>
    rw [List.pairwise_cons] at sB
    simp only
    split
    · rename_i hpb
      refine new fun q hq => ?_
      rcases List.mem_cons.1 hq with rfl | hq
      · exact hpb
      · have := sB.1 q hq
        rw [keyLt_iff] at this hpb ⊢
        omega
    · rename_i hpb
      have hbp := hBp b (by simp)
      have hbk : keyEq b p = true := by
        rw [hf] at hbp
        rw [keyLt_iff] at hbp hpb
        rw [keyEq_iff]
        omega
      have hbk' := (keyEq_iff _ _).1 hbk
      have hkey : ∀ (q : Place) (d : Int), (keyLt q { b with delay := d } = keyLt q b) ∧ (keyLt { b with delay := d } q = keyLt b q) := fun q d => by simp [keyLt]
      refine ⟨?_, fun x => ?_⟩
      · rw [List.pairwise_append, List.pairwise_cons]
        refine ⟨sA, ⟨fun q hq => by rw [(hkey q _).2]; exact sB.1 q hq, sB.2⟩, fun a ha q hq => ?_⟩
        rcases List.mem_cons.1 hq with rfl | hq
        · rw [(hkey a _).1]
          exact sAB a ha b (by simp)
        · exact sAB a ha q (by simp [hq])
      · have hbS : b ∈ S := (hAB b).2 (.inr (by simp))
        obtain ⟨hb1, hb2⟩ := (hm b).1 hbS
        have hnk : ∀ q ∈ S, keyEq q p = true → q = b := fun q hq he => by
          rw [keyEq_iff] at he
          rcases (hAB q).1 hq with hq | hq
          · have := hAp q hq
            rw [keyLt_iff] at this
            omega
          · rcases List.mem_cons.1 hq with hq | hq
            · exact hq
            · have := sB.1 q hq
              rw [keyLt_iff] at this
              omega
        simp only [List.mem_append, List.mem_cons, List.not_mem_nil, or_false]
        constructor
        · intro hx
          by_cases hxe : x = { b with delay := max b.delay p.delay }
          · subst hxe
            constructor
            · by_cases hle : p.delay ≤ b.delay
              · left
                have : ({ b with delay := max b.delay p.delay } : Place) = b := by cases b; simp at hle ⊢; omega
                rw [this]
                exact hb1
              · right
                refine place_ext (by rw [keyEq_iff]; simpa using hbk') ?_
                simp
                omega
            · intro q hq he
              have he' : keyEq q b = true := by rw [keyEq_iff] at he ⊢; simpa using he
              simp only
              rcases hq with hq | rfl
              · have := hb2 q hq he'
                omega
              · omega
          · have hxS : x ∈ S ∧ x ≠ b := by
              rcases hx with hx | hx | hx
              · refine ⟨(hAB x).2 (.inl hx), fun e => ?_⟩
                have := sAB x hx b (by simp)
                rw [e, keyLt_iff] at this
                omega
              · exact absurd hx hxe
              · refine ⟨(hAB x).2 (.inr (by simp [hx])), fun e => ?_⟩
                have := sB.1 x hx
                rw [e, keyLt_iff] at this
                omega
            obtain ⟨h1, h2⟩ := (hm x).1 hxS.1
            refine ⟨.inl h1, fun q hq he => ?_⟩
            rcases hq with hq | rfl
            · exact h2 q hq he
            · exact absurd (hnk x hxS.1 (by rw [keyEq_comm]; exact he)) hxS.2
        · rintro ⟨hx, h2⟩
          by_cases hxk : keyEq x p = true
          · right; left
            have hxk' := (keyEq_iff _ _).1 hxk
            refine place_ext (by rw [keyEq_iff]; simp; omega) ?_
            simp only
            have h3 := h2 b (.inl hb1) (by rw [keyEq_iff]; omega)
            have h4 := h2 p (.inr rfl) (by rw [keyEq_comm]; exact hxk)
            rcases hx with hx | rfl
            · have := hb2 x hx (by rw [keyEq_iff]; omega)
              omega
            · omega
          · have hxg : x ∈ gp := hx.resolve_right fun e => hxk (by rw [e, keyEq_iff]; simp)
            have hxS := (hm x).2 ⟨hxg, fun q hq he => h2 q (.inl hq) he⟩
            rcases (hAB x).1 hxS with hx | hx
            · exact .inl hx
            · rcases List.mem_cons.1 hx with rfl | hx
              · exact absurd hbk hxk
              · exact .inr (.inr hx)
theorem simpF_isSimp (gp : List Place) : IsSimp gp (simpF gp) := by
  have key : ∀ (l pre S : List Place), IsSimp pre S → IsSimp (pre ++ l) (l.foldl insP S) := by
    intro l
    induction l with
    | nil => intro pre S h; simpa using h
    | cons p l ih =>
      intro pre S h
      have := ih (pre ++ [p]) (insP S p) (insP_simp h p)
      simpa using this
  have := key gp [] [] ⟨List.Pairwise.nil, fun p => by simp⟩
  simpa [simpF] using this
theorem simpF_twice (gp : List Place) : simpF (simpF gp) = simpF gp :=
  isSimp_unique (simpF_isSimp (simpF gp)) (isSimp_again (simpF_isSimp gp))
/-! ### the program's way: sort, and keep the first of each key -/
/-- The order by which the program sorts: the greater delay first. -/
def placeLt (p q : Place) : Bool := keyLt p q || (keyEq p q && decide (q.delay < p.delay))
/-- Keeping the first of each run of one key. -/
def compA : Place → List Place → List Place
  | _, [] => []
  | p, q :: l => if keyEq q p = true then compA q l else q :: compA q l
def cmpaF : List Place → List Place
  | [] => []
  | p :: l => p :: compA p l
theorem placeLt_iff (p q : Place) : placeLt p q = true ↔ keyLt p q = true ∨ (keyEq p q = true ∧ q.delay < p.delay) := by simp [placeLt]
theorem cmpaF_simp : ∀ (l : List Place) (p : Place), (p :: l).Pairwise (fun p q => placeLt q p = false) → IsSimp (p :: l) (cmpaF (p :: l)) := by
  intro l
  induction l with
  | nil =>
    intro p _
    refine ⟨by simp [cmpaF, compA], fun x => ?_⟩
    simp only [cmpaF, compA, List.mem_singleton]
    constructor
    · rintro rfl
      exact ⟨rfl, fun q hq _ => by rw [hq]; exact Int.le_refl _⟩
    · exact fun h => h.1
  | cons q l ih =>
    intro p hs
    rw [List.pairwise_cons] at hs
    have hS := ih q hs.2
    have hqp := hs.1 q (by simp)
    have hqp' : ¬ placeLt q p = true := by rw [hqp]; simp
    rw [placeLt_iff] at hqp'
    have hm := hS.2
    have hst := hS.1
    simp only [cmpaF] at hm hst
    rw [List.pairwise_cons] at hst
    simp only [cmpaF, compA]
    by_cases hk : keyEq q p = true
    · rw [if_pos hk]
      have hk' := (keyEq_iff _ _).1 hk
      have hd : q.delay ≤ p.delay := by
        have : ¬ p.delay < q.delay := fun h => hqp' (.inr ⟨hk, h⟩)
        omega
      have hlt : ∀ x, keyLt q x = keyLt p x := fun x => by
        rw [Bool.eq_iff_iff, keyLt_iff, keyLt_iff]
        omega
      have hql := (hm q).1 (by simp)
      refine ⟨?_, fun x => ?_⟩
      · rw [List.pairwise_cons]
        exact ⟨fun x hx => by rw [← hlt]; exact hst.1 x hx, hst.2⟩
      · constructor
        · intro hx
          rcases List.mem_cons.1 hx with rfl | hx
          · refine ⟨by simp, fun r hr he => ?_⟩
            rcases List.mem_cons.1 hr with rfl | hr
            · exact Int.le_refl _
            · have := hql.2 r hr (by rw [keyEq_iff] at he ⊢; omega)
              omega
          · have h1 := (hm x).1 (by simp [hx])
            have h2 := hst.1 x hx
            refine ⟨by simp [h1.1], fun r hr he => ?_⟩
            rcases List.mem_cons.1 hr with rfl | hr
            · rw [keyLt_iff] at h2
              rw [keyEq_iff] at he
              omega
            · exact h1.2 r hr he
        · rintro ⟨hx, h2⟩
          rcases List.mem_cons.1 hx with rfl | hx
          · simp
          · have h3 := (hm x).2 ⟨hx, fun r hr he => h2 r (by simp [hr]) he⟩
            rcases List.mem_cons.1 h3 with rfl | h3
            · have h4 := h2 p (by simp) (by rw [keyEq_iff]; omega)
              have : x = p := place_ext (by rw [keyEq_iff]; omega) (by omega)
              simp [this]
            · simp [h3]
    · rw [if_neg hk]
      have hlt : keyLt p q = true := by
        have h1 : ¬ keyLt q p = true := fun h => hqp' (.inl h)
        rw [keyLt_iff] at h1 ⊢
        rw [keyEq_iff] at hk
        omega
      have hall : ∀ x ∈ q :: compA q l, keyLt p x = true := fun x hx => by
        rcases List.mem_cons.1 hx with rfl | hx
        · exact hlt
        · have := hst.1 x hx
          rw [keyLt_iff] at this hlt ⊢
          omega
      have hgl : ∀ x ∈ q :: l, keyEq x p = true → False := fun x hx he => by
        have h1 := hs.1 x hx
        rw [List.pairwise_cons] at hs
        rcases List.mem_cons.1 hx with rfl | hx
        · exact hk he
        · have h2 := hs.2.1 x hx
          have h2' : ¬ placeLt x q = true := by rw [h2]; simp
          rw [placeLt_iff, keyLt_iff] at h2'
          rw [keyLt_iff] at hlt
          rw [keyEq_iff] at he
          omega
      refine ⟨?_, fun x => ?_⟩
      · rw [List.pairwise_cons, List.pairwise_cons]
        exact ⟨hall, hst⟩
      · constructor
        · intro hx
          rcases List.mem_cons.1 hx with rfl | hx
          · refine ⟨by simp, fun r hr he => ?_⟩
            rcases List.mem_cons.1 hr with rfl | hr
            · exact Int.le_refl _
            · exact (hgl r hr he).elim
          · have h1 := (hm x).1 hx
            have h2 := hall x hx
            refine ⟨by simp only [List.mem_cons]; exact .inr (List.mem_cons.1 h1.1), fun r hr he => ?_⟩
            rcases List.mem_cons.1 hr with rfl | hr
            · rw [keyLt_iff] at h2
              rw [keyEq_iff] at he
              omega
            · exact h1.2 r hr he
        · rintro ⟨hx, h2⟩
          rcases List.mem_cons.1 hx with rfl | hx
          · simp
          · have h3 := (hm x).2 ⟨hx, fun r hr he => h2 r (List.mem_cons_of_mem _ hr) he⟩
            exact List.mem_cons_of_mem _ h3
theorem isSimp_perm {gp gq S : List Place} (h : IsSimp gp S) (hm : ∀ p, p ∈ gp ↔ p ∈ gq) : IsSimp gq S := by
  refine ⟨h.1, fun p => ?_⟩
  rw [h.2, hm]
  constructor
  · exact fun ⟨a, b⟩ => ⟨a, fun q hq => b q ((hm q).2 hq)⟩
  · exact fun ⟨a, b⟩ => ⟨a, fun q hq => b q ((hm q).1 hq)⟩
/-- Sorted and compacted: the simplified places. -/
theorem cmpaF_eq {gp l : List Place} (hm : ∀ p, p ∈ l ↔ p ∈ gp) (hs : l.Pairwise (fun p q => placeLt q p = false)) : cmpaF l = simpF gp := by
  refine isSimp_unique (gp := gp) ?_ (simpF_isSimp gp)
  cases l with
  | nil =>
    refine isSimp_perm (gp := []) ⟨List.Pairwise.nil, fun p => by simp [cmpaF]⟩ hm
  | cons p l => exact isSimp_perm (cmpaF_simp l p hs) hm
theorem isSimp_perm_eq {gp gq : List Place} (hm : ∀ p, p ∈ gp ↔ p ∈ gq) : simpF gp = simpF gq :=
  isSimp_unique (isSimp_perm (simpF_isSimp gp) hm) (simpF_isSimp gq)
/-! ### firing times of a simplified graph -/
theorem isSimp_sub {gp S : List Place} (h : IsSimp gp S) {p : Place} (hp : p ∈ S) : p ∈ gp := ((h.2 p).1 hp).1
/-- Each place has one that stands for it. -/
theorem isSimp_for {gp S : List Place} (h : IsSimp gp S) {p : Place} (hp : p ∈ gp) : ∃ q ∈ S, keyEq q p = true ∧ p.delay ≤ q.delay := by
  have key : ∀ l : List Place, (∃ q ∈ l, keyEq q p = true) → ∃ m ∈ l, keyEq m p = true ∧ ∀ r ∈ l, keyEq r p = true → r.delay ≤ m.delay := by
    intro l
    induction l with
    | nil => rintro ⟨q, hq, _⟩; cases hq
    | cons a l ih =>
      rintro ⟨q, hq, hqe⟩
      by_cases hl : ∃ q ∈ l, keyEq q p = true
      · obtain ⟨m, hml, hme, hmx⟩ := ih hl
        by_cases ha : keyEq a p = true ∧ m.delay < a.delay
        · refine ⟨a, by simp, ha.1, fun r hr hre => ?_⟩
          rcases List.mem_cons.1 hr with rfl | hr
          · omega
          · have := hmx r hr hre
            omega
        · refine ⟨m, by simp [hml], hme, fun r hr hre => ?_⟩
          rcases List.mem_cons.1 hr with rfl | hr
          · have : ¬ m.delay < r.delay := fun hlt => ha ⟨hre, hlt⟩
            omega
          · exact hmx r hr hre
      · have hqa : q = a := (List.mem_cons.1 hq).resolve_right fun hql => hl ⟨q, hql, hqe⟩
        subst hqa
        refine ⟨q, by simp, hqe, fun r hr hre => ?_⟩
        rcases List.mem_cons.1 hr with rfl | hr
        · omega
        · exact absurd ⟨r, hr, hre⟩ hl
  obtain ⟨m, h1, h2, h3⟩ := key gp ⟨p, hp, by rw [keyEq_iff]; simp⟩
  refine ⟨m, (h.2 m).2 ⟨h1, fun q hq he => h3 q hq ?_⟩, h2, h3 p hp (by rw [keyEq_iff]; simp)⟩
  rw [keyEq_iff] at he h2 ⊢
  omega
theorem simpF_ok {ge : Int} {gp : List Place} (h : okGraph ge gp = true) : okGraph ge (simpF gp) = true := by
  have hS := simpF_isSimp gp
  unfold okGraph at h ⊢
  rw [Bool.and_eq_true, Bool.and_eq_true, List.all_eq_true] at h ⊢
  refine ⟨⟨h.1.1, ?_⟩, fun p hp => h.2 p (isSimp_sub hS hp)⟩
  have h1 := h.1.2
  have hl : (simpF gp).length ≤ gp.length := sub_lenQ _ _ (hS.1.imp fun {a b} hab e => by subst e; rw [keyLt_iff] at hab; omega) (fun x hx => isSimp_sub hS hx)
  rw [decide_eq_true_eq] at h1 ⊢
  omega
end Go.Proofs.YtcoomogabicfnaaGreatDoor
