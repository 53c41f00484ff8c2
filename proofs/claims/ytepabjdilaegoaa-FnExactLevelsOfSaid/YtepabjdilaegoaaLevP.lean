/-
  Levels, in plain Lean: the greatest over the places is the greatest over the events before.
-/
import Derived.Test.YtepabjdilaegoaaOrdH
namespace Go.Proofs.Ytepabjdilaegoaa
open Go.RowKit
set_option linter.unusedVariables false
set_option linter.unusedSimpArgs false

/-- One place, for the level of event e. -/
def lvI (e : Nat) (L : List Int) (p : Place) : List Int := if p.dst = (e : Int) ∧ p.tokens = 0 then L.set e (max (L.getD e 0) (L.getD p.src.toNat 0 + 1)) else L
def levI (gp : List Place) (e : Nat) (L : List Int) : List Int := gp.foldl (lvI e) L
/-- One event before, for the level of event e. -/
def lvS (F : Nat → Nat → Int) (e : Nat) (L : List Int) (k : Nat) : List Int := if F e k = 0 then L.set e (max (L.getD e 0) (L.getD k 0 + 1)) else L
def levS (F : Nat → Nat → Int) (e n : Nat) (L : List Int) : List Int := (List.range n).foldl (lvS F e) L
def levs (gp : List Place) (o : List Int) (L : List Int) : List Int := o.foldl (fun L e => levI gp e.toNat L) L
theorem levI_succ (gp : List Place) (e : Nat) (L : List Int) (q : Nat) (h : q < gp.length) : levI (gp.take (q + 1)) e L = lvI e (levI (gp.take q) e L) gp[q] := by
  unfold levI
  rw [take_succ_get _ _ h, List.foldl_append]
  rfl
theorem levS_succ (F : Nat → Nat → Int) (e n : Nat) (L : List Int) : levS F e (n + 1) L = lvS F e (levS F e n L) n := by
  unfold levS
  rw [List.range_succ, List.foldl_append]
  rfl
theorem levs_succ (gp : List Place) (o : List Int) (L : List Int) (i : Nat) (h : i < o.length) : levs gp (o.take (i + 1)) L = levI gp o[i].toNat (levs gp (o.take i) L) := by
  unfold levs
  rw [take_succ_get _ _ h, List.foldl_append]
  rfl
/-- What a list of levels is known to be. -/
structure LevOk (n c : Nat) (L : List Int) : Prop where
  len : L.length = n
  bd : ∀ x ∈ L, 0 ≤ x ∧ x ≤ (c : Int)
theorem LevOk.get {n c : Nat} {L : List Int} (h : LevOk n c L) (i : Nat) : 0 ≤ L.getD i 0 ∧ L.getD i 0 ≤ (c : Int) := by
  by_cases hi : i < L.length
  · simp only [List.getD, List.getElem?_eq_getElem hi, Option.getD_some]
    exact h.bd _ (List.getElem_mem hi)
  · simp [List.getD, List.getElem?_eq_none (Nat.le_of_not_lt hi)]
theorem LevOk.set {n c d : Nat} {L : List Int} (h : LevOk n c L) (i : Nat) (x : Int) (hx : 0 ≤ x ∧ x ≤ (d : Int)) (hd : c ≤ d) : LevOk n d (L.set i x) := by
  refine ⟨by simp [h.len], fun y hy => ?_⟩
  rcases List.mem_or_eq_of_mem_set hy with hy | rfl
  · have := h.bd y hy; omega
  · exact hx
theorem LevOk.mono {n c d : Nat} {L : List Int} (h : LevOk n c L) (hd : c ≤ d) : LevOk n d L := ⟨h.len, fun x hx => by have := h.bd x hx; omega⟩
theorem LevOk.upI {n c : Nat} {L : List Int} (h : LevOk n c L) (e : Nat) (p : Place) : LevOk n (c + 1) (lvI e L p) := by
  unfold lvI
  have h1 := h.get e
  have h2 := h.get p.src.toNat
  split
  · exact h.set _ _ (by omega) (by omega)
  · exact h.mono (by omega)
theorem LevOk.evI {n c : Nat} {gp : List Place} {L : List Int} (h : LevOk n c L) (e : Nat) : ∀ q, q ≤ gp.length → LevOk n (c + q) (levI (gp.take q) e L) := by
  intro q
  induction q with
  | zero => intro _; exact h
  | succ q ih =>
    intro hq
    rw [levI_succ _ _ _ _ (by omega)]
    exact (ih (by omega)).upI e _
theorem LevOk.upS {n c : Nat} {L : List Int} (F : Nat → Nat → Int) (h : LevOk n c L) (e k : Nat) : LevOk n (c + 1) (lvS F e L k) := by
  unfold lvS
  have h1 := h.get e
  have h2 := h.get k
  split
  · exact h.set _ _ (by omega) (by omega)
  · exact h.mono (by omega)
theorem LevOk.evS {n c : Nat} (F : Nat → Nat → Int) {L : List Int} (h : LevOk n c L) (e : Nat) : ∀ q, LevOk n (c + q) (levS F e q L) := by
  intro q
  induction q with
  | zero => exact h
  | succ q ih => rw [levS_succ]; exact ih.upS F e _
theorem LevOk.all {n c : Nat} {gp : List Place} (hgl : gp.length ≤ 30) {L : List Int} (h : LevOk n c L) (o : List Int) : ∀ i, i ≤ o.length → LevOk n (c + 30 * i) (levs gp (o.take i) L) := by
  intro i
  induction i with
  | zero => intro _; exact h
  | succ i ih =>
    intro hi
    rw [levs_succ _ _ _ _ (by omega)]
    have := (ih (by omega)).evI (gp := gp) o[i].toNat gp.length (Nat.le_refl _)
    rw [List.take_length] at this
    exact this.mono (by omega)
theorem getD_set_self (L : List Int) (e : Nat) (x : Int) (h : e < L.length) : (L.set e x).getD e 0 = x := by simp [List.getD, h]
theorem getD_set_ne (L : List Int) (e k : Nat) (x : Int) (h : k ≠ e) : (L.set e x).getD k 0 = L.getD k 0 := by simp [List.getD, List.getElem?_set_ne (Ne.symm h)]
/-- The program's fold is one store of a greatest value. -/
theorem levI_form {ge : Int} {gp : List Place} (hok : okGraph ge gp = true) {e : Nat} (hself : ¬ arcG gp e e) (L : List Int) (he : e < L.length) : ∀ q, q ≤ gp.length →
    ∃ m, levI (gp.take q) e L = L.set e m ∧ ∀ c, m ≤ c ↔ (L.getD e 0 ≤ c ∧ ∀ p ∈ gp.take q, p.dst = (e : Int) → p.tokens = 0 → L.getD p.src.toNat 0 + 1 ≤ c) := by
  intro q
  induction q with
  | zero =>
    intro _
    refine ⟨L.getD e 0, ?_, fun c => by simp⟩
    show L = _
    simp [List.getD, List.getElem?_eq_getElem he]
  | succ q ih =>
    intro hq
    have hlt : q < gp.length := by omega
    obtain ⟨m, hm, hc⟩ := ih (by omega)
    rw [levI_succ _ _ _ _ hlt, hm]
    unfold lvI
    by_cases hp : gp[q].dst = (e : Int) ∧ gp[q].tokens = 0
    · rw [if_pos hp]
      have hr := okGraph_place hok (List.getElem_mem hlt)
      have hne : gp[q].src.toNat ≠ e := by
        intro h
        exact hself ⟨gp[q], List.getElem_mem hlt, by omega, hp.1, hp.2⟩
      rw [getD_set_self _ _ _ he, getD_set_ne _ _ _ _ hne, List.set_set]
      refine ⟨_, rfl, fun c => ?_⟩
      have h1 : ∀ a b : Int, max a b ≤ c ↔ a ≤ c ∧ b ≤ c := fun a b => by omega
      rw [h1, hc c, take_succ_get _ _ hlt]
      constructor
      · rintro ⟨⟨h2, h3⟩, h4⟩
        refine ⟨h2, fun p hp2 h5 h6 => ?_⟩
        rcases List.mem_append.1 hp2 with hp2 | hp2
        · exact h3 p hp2 h5 h6
        · rw [List.mem_singleton.1 hp2]; exact h4
      · rintro ⟨h2, h3⟩
        exact ⟨⟨h2, fun p hp2 => h3 p (List.mem_append_left _ hp2)⟩, h3 gp[q] (List.mem_append_right _ (List.mem_singleton.2 rfl)) hp.1 hp.2⟩
    · rw [if_neg hp]
      refine ⟨m, rfl, fun c => ?_⟩
      rw [hc c, take_succ_get _ _ hlt]
      constructor
      · rintro ⟨h2, h3⟩
        refine ⟨h2, fun p hp2 h5 h6 => ?_⟩
        rcases List.mem_append.1 hp2 with hp2 | hp2
        · exact h3 p hp2 h5 h6
        · rw [List.mem_singleton.1 hp2] at h5 h6; exact absurd ⟨h5, h6⟩ hp
      · rintro ⟨h2, h3⟩
        exact ⟨h2, fun p hp2 => h3 p (List.mem_append_left _ hp2)⟩
theorem levS_form (F : Nat → Nat → Int) {e : Nat} (hself : ¬ F e e = 0) (L : List Int) (he : e < L.length) : ∀ q, ∃ m, levS F e q L = L.set e m ∧ ∀ c, m ≤ c ↔ (L.getD e 0 ≤ c ∧ ∀ k, k < q → F e k = 0 → L.getD k 0 + 1 ≤ c) := by
  intro q
  induction q with
  | zero =>
    refine ⟨L.getD e 0, ?_, fun c => by simp⟩
    show L = _
    simp [List.getD, List.getElem?_eq_getElem he]
  | succ q ih =>
    obtain ⟨m, hm, hc⟩ := ih
    rw [levS_succ, hm]
    unfold lvS
    by_cases hp : F e q = 0
    · rw [if_pos hp]
      have hne : q ≠ e := by rintro rfl; exact hself hp
      rw [getD_set_self _ _ _ he, getD_set_ne _ _ _ _ hne, List.set_set]
      refine ⟨_, rfl, fun c => ?_⟩
      have h1 : ∀ a b : Int, max a b ≤ c ↔ a ≤ c ∧ b ≤ c := fun a b => by omega
      rw [h1, hc c]
      constructor
      · rintro ⟨⟨h2, h3⟩, h4⟩
        refine ⟨h2, fun k hk h5 => ?_⟩
        by_cases ek : k = q
        · subst ek; exact h4
        · exact h3 k (by omega) h5
      · rintro ⟨h2, h3⟩
        exact ⟨⟨h2, fun k hk => h3 k (by omega)⟩, h3 q (by omega) hp⟩
    · rw [if_neg hp]
      refine ⟨m, rfl, fun c => ?_⟩
      rw [hc c]
      constructor
      · rintro ⟨h2, h3⟩
        refine ⟨h2, fun k hk h5 => ?_⟩
        by_cases ek : k = q
        · subst ek; exact absurd h5 hp
        · exact h3 k (by omega) h5
      · rintro ⟨h2, h3⟩
        exact ⟨h2, fun k hk => h3 k (by omega)⟩
theorem lev_same {n : Nat} {gp : List Place} (hok : okGraph n gp = true) {e : Nat} (hself : ¬ arcG gp e e) (L : List Int) (he : e < L.length) : levS (freeF gp) e n L = levI gp e L := by
  have hb : bot ≠ 0 := by decide
  have hs : ¬ freeF gp e e = 0 := by
    rcases freeF_arc hok e e with ⟨h, _⟩ | ⟨_, h⟩
    · exact absurd h hself
    · rw [h]; exact hb
  obtain ⟨m1, h1, c1⟩ := levI_form hok hself L he gp.length (Nat.le_refl _)
  obtain ⟨m2, h2, c2⟩ := levS_form (freeF gp) hs L he n
  rw [List.take_length] at h1 c1
  rw [h1, h2]
  have hiff : ∀ c, m1 ≤ c ↔ m2 ≤ c := by
    intro c
    rw [c1 c, c2 c]
    refine and_congr Iff.rfl ⟨fun h k hk hf => ?_, fun h p hp hd ht => ?_⟩
    · rcases freeF_arc hok e k with ⟨⟨p, hp, e1, e2, e3⟩, _⟩ | ⟨_, h3⟩
      · have := h p hp e2 e3
        rw [e1, Int.toNat_natCast] at this
        exact this
      · rw [h3] at hf; exact absurd hf hb
    · have hr := okGraph_place hok hp
      refine h p.src.toNat (by omega) ?_
      rcases freeF_arc hok e p.src.toNat with ⟨_, h3⟩ | ⟨h3, _⟩
      · exact h3
      · exact absurd ⟨p, hp, by omega, hd, ht⟩ h3
  have e1 := (hiff m1).1 (Int.le_refl _)
  have e2 := (hiff m2).2 (Int.le_refl _)
  rw [show m1 = m2 by omega]
theorem live_noself {n : Nat} {gp : List Place} {o : List Int} (h : OrdOk n gp n o) {e : Nat} (he : e < n) : ¬ arcG gp e e := by
  rintro ⟨p, hp, h1, h2, h3⟩
  obtain ⟨i, hi, hie⟩ := List.mem_iff_getElem.1 (h.all e he)
  have := h.ord i hi p hp (by rw [h2, hie]) h3
  rw [h1] at this
  have := idx_take h.nodup this hi hie
  omega
theorem max_if4 (a b : Int) : max a b = if a < b then b else a := by by_cases h : a < b <;> simp [h] <;> omega
/-- What LevelsOf gives. -/
def levF (ge : Int) (gp : List Place) : List Int × Int :=
  if okGraph ge gp = false then ([], 1) else match orderF ge.toNat gp with | some o => (levs gp o (List.replicate ge.toNat 0), 0) | none => ([], 5)
theorem levs_ok {n : Nat} {gp : List Place} (hgl : gp.length ≤ 30) (o : List Int) (i : Nat) (hi : i ≤ o.length) : LevOk n (30 * i) (levs gp (o.take i) (List.replicate n 0)) := by
  have h0 : LevOk n 0 (List.replicate n (0 : Int)) := ⟨by simp, fun x hx => by rw [List.eq_of_mem_replicate hx]; omega⟩
  have := h0.all hgl o i hi
  rwa [Nat.zero_add] at this
theorem levF_len (ge : Int) (gp : List Place) : (levF ge gp).1.length ≤ 1048576 := by
  unfold levF
  cases hg : okGraph ge gp
  · simp
  · have := okGraph_ev hg
    simp only [Bool.true_eq_false, if_false]
    cases ho : orderF ge.toNat gp with
    | none => simp
    | some o =>
      have h1 := (levs_ok (n := ge.toNat) (okGraph_len hg) o o.length (Nat.le_refl _)).len
      rw [List.take_length] at h1
      show (levs gp o (List.replicate ge.toNat 0)).length ≤ 1048576
      omega
end Go.Proofs.Ytepabjdilaegoaa
