/-
  Slices of slices of integers: an outer row of the call's own whose cells are slices, each a row of the call's own, no two in one block.
-/
import Derived.Test.YtcoomogabicfnaaMore
namespace Go.Proofs.Ytcoomogabicfnaa
open Go.RowKit
set_option linter.unusedVariables false
set_option linter.unusedSimpArgs false

/-- A slice value as it lies in a cell. -/
structure Ref where
  A : Option Addr
  n : Nat
  c : Nat
def Ref.val (r : Ref) : Value := .slice r.A r.n r.c
def Ref.cells (r : Ref) : List Value := [r.val]
theorem Ref.cells_len (r : Ref) : r.cells.length = 1 := rfl
theorem Ref.cells_one : ∀ x, ∀ u ∈ Ref.cells x, u.oneCell' = true := by intro x u hu; simp [Ref.cells] at hu; subst hu; rfl
/-- What is at most m blocks from the call's own. -/
def OwnM (w : World) (base : Nat) (u : Value) (M : List (List Int)) : Prop :=
  ∃ rs : List Ref, rs.length = M.length ∧ Own Ref.cells 1 50 w base u rs ∧ (∀ i (h1 : i < rs.length) (h2 : i < M.length), Own intCell 1 2 w base rs[i].val M[i]) ∧
    ∀ i j (hi : i < rs.length) (hj : j < rs.length), i ≠ j → ∀ k, rs[i].val.ownBlock = some k → rs[j].val.ownBlock = some k → False
/-- The slice value u reads as the lists M. -/
def LstM (w : World) (B : Nat) (u : Value) (M : List (List Int)) : Prop :=
  ∃ rs : List Ref, rs.length = M.length ∧ Lst Ref.cells 1 w B u rs ∧ ∀ i (h1 : i < rs.length) (h2 : i < M.length), Lst intCell 1 w B rs[i].val M[i]
section
variable {w w' : World} {B base base' : Nat} {u : Value} {M : List (List Int)}
theorem OwnM.shape (h : OwnM w base u M) : ∃ A c, u = .slice A M.length c := by
  obtain ⟨rs, hl, hO, _⟩ := h
  obtain ⟨A, c, rfl⟩ := hO.shape
  exact ⟨A, c, by rw [hl]⟩
theorem LstM.shape (h : LstM w B u M) : ∃ A c, u = .slice A M.length c := by
  obtain ⟨rs, hl, hO, _⟩ := h
  obtain ⟨A, c, rfl⟩ := hO.shape
  exact ⟨A, c, by rw [hl]⟩
theorem LstM.len_le (h : LstM w B u M) : M.length ≤ 9223372036854775807 := by
  obtain ⟨rs, hl, hO, _⟩ := h
  rw [← hl]
  exact hO.len_le
theorem OwnM.lst (h : OwnM w base u M) : LstM w w.heap.size u M := by
  obtain ⟨rs, hl, hO, hR, _⟩ := h
  exact ⟨rs, hl, hO.lst, fun i h1 h2 => (hR i h1 h2).lst⟩
theorem LstM.now (h : LstM w w.heap.size u M) (hb : Below w.heap.size w w') : LstM w' w'.heap.size u M := by
  obtain ⟨rs, hl, hO, hR⟩ := h
  exact ⟨rs, hl, hO.now hb, fun i h1 h2 => (hR i h1 h2).now hb⟩
theorem OwnM.now (h : OwnM w base u M) (hb : Below w.heap.size w w') : OwnM w' base u M := by
  obtain ⟨rs, hl, hO, hR, hD⟩ := h
  exact ⟨rs, hl, hO.now hb, fun i h1 h2 => (hR i h1 h2).now hb, hD⟩
theorem OwnM.rebase (h : OwnM w base u M) (hb : base' ≤ base) : OwnM w base' u M := by
  obtain ⟨rs, hl, hO, hR, hD⟩ := h
  exact ⟨rs, hl, hO.rebase hb, fun i h1 h2 => (hR i h1 h2).rebase hb, hD⟩
/-- All its blocks lie between base and a bound. -/
theorem OwnM.below {B : Nat} (h : OwnM w base u M) (hB : w.heap.size ≤ B) (hb : Below B w' w') (he : ∀ g, g < B → w'.heap[g]? = w.heap[g]?) : OwnM w' base u M := by
  obtain ⟨rs, hl, hO, hR, hD⟩ := h
  have keep : ∀ {α : Type} {f : α → List Value} {size : Nat} {e : TypeId} {v : Value} {l : List α}, Own f size e w base v l → Own f size e w' base v l := by
    intro α f size e v l h
    refine ⟨h.1, ?_⟩
    rcases h.2 with hn | ⟨g, cap, cur, rfl, hbase, hgg, rest⟩
    · exact .inl hn
    · exact .inr ⟨g, cap, cur, rfl, hbase, (he g (Nat.lt_of_lt_of_le (Array.getElem?_eq_some_iff.1 hgg).1 hB)).trans hgg, rest⟩
  exact ⟨rs, hl, keep hO, fun i h1 h2 => keep (hR i h1 h2), hD⟩
/-- One row, to be read and written. -/
theorem OwnM.row (h : OwnM w base u M) (i : Nat) (hi : i < M.length) :
    ∃ g c r, u = .slice (some ⟨g, 0, none⟩) M.length c ∧ base ≤ g ∧ g < w.heap.size ∧ (∀ j, w.frozen? ⟨g, j, none⟩ = false) ∧ w.cell? ⟨g, i, none⟩ = some (Ref.val r) ∧ Own intCell 1 2 w base r.val M[i] ∧ r.val.ownBlock ≠ some g ∧
      (∀ w2 l, Own intCell 1 2 w2 base r.val l → w.grownBy w2 r.val.ownBlock → OwnM w2 base u (M.set i l)) ∧
      (∀ (r2 : Ref) l, Own intCell 1 2 w base r2.val l → (∀ k, r2.val.ownBlock = some k → r.val.ownBlock = some k ∨ ∀ j (hj : j < M.length), j ≠ i → ∀ q, (∃ x, w.cell? ⟨g, j, none⟩ = some x ∧ x.ownBlock = some q) → q ≠ k) → (∀ k, r2.val.ownBlock = some k → k ≠ g) → OwnM (w.setCell ⟨g, i, none⟩ r2.val) base u (M.set i l)) := by
  obtain ⟨rs, hl, hO, hR, hD⟩ := h
  have hi' : i < rs.length := by omega
  obtain ⟨g, c, hu, hb, hg, hfz, hc⟩ := hO.at_ Ref.cells_len i hi'
  subst hu
  have hne : ∀ j (hj : j < rs.length), rs[j].val.ownBlock ≠ some g := by
    intro j hj hk
    obtain ⟨k', cap, cur, hv, _, hgb, _⟩ : ∃ k cap cur, Value.slice (some ⟨g, 0, none⟩) rs.length c = .slice (some ⟨k, 0, none⟩) rs.length cap ∧ base ≤ k ∧ w.heap[k]? = some (.cells cur 50 (0, 0)) ∧ True := by
      rcases hO.2 with ⟨h0, _⟩ | ⟨k, cap, cur, hv, h1, h2, _⟩
      · cases h0
      · exact ⟨k, cap, cur, hv, h1, h2, trivial⟩
    injection hv with hv _ _
    injection hv with hv
    injection hv with hv _ _
    subst hv
    exact (hR j hj (by omega)).ne_blk (t := 50) (cs := cur) hgb (by decide) hk
  refine ⟨g, c, rs[i], by rw [hl], hb, hg, hfz, by simpa using hc 0 _ (by omega) rfl, hR i hi' hi, hne i hi', fun w2 l hO2 hG => ?_, fun r2 l hO2 hd hg2 => ?_⟩
  · refine ⟨rs, by simpa using hl, own_kept hO hG (fun k h1 h2 => ?_), fun j h1 h2 => ?_, hD⟩
    · injection h1 with h1
      subst h1
      exact hne i hi' h2
    · by_cases hij : i = j
      · subst hij
        simpa using hO2
      · rw [List.getElem_set_ne hij]
        exact own_kept (hR j h1 (by simpa using h2)) hG (fun k a b => hD j i h1 hi' (Ne.symm hij) k a b)
  · have hO3 := hO.put Ref.cells_len i 0 hi' (by omega) r2 r2.val rfl i (by omega)
    refine ⟨rs.set i r2, by simpa using hl, by simpa using hO3, fun j h1 h2 => ?_, fun j m hj hm hjm k a b => ?_⟩
    · by_cases hij : i = j
      · subst hij
        simp only [List.getElem_set_self]
        exact own_far hO2 (p := ⟨g, i, none⟩) (fun h => hg2 g h rfl) _
      · simp only [List.getElem_set_ne hij]
        have h1' : j < rs.length := by simpa using h1
        exact own_far (hR j h1' (by simpa using h2)) (p := ⟨g, i, none⟩) (hne j h1') _
    · have hj' : j < rs.length := by simpa using hj
      have hm' : m < rs.length := by simpa using hm
      have cell : ∀ q (hq : q < rs.length), w.cell? ⟨g, q, none⟩ = some rs[q].val := by
        intro q hq
        obtain ⟨g', c', hu', _, _, _, hc'⟩ := hO.at_ Ref.cells_len q hq
        injection hu' with hu' _ _
        injection hu' with hu'
        injection hu' with hu' _ _
        subst hu'
        simpa using hc' 0 _ (by omega) rfl
      by_cases e1 : i = j
      · subst e1
        simp only [List.getElem_set_self] at a
        rw [List.getElem_set_ne hjm] at b
        rcases hd k a with h | h
        · exact hD i m hi' hm' hjm k h b
        · exact h m (by omega) (Ne.symm hjm) k ⟨_, cell m hm', b⟩ rfl
      · rw [List.getElem_set_ne e1] at a
        by_cases e2 : i = m
        · subst e2
          simp only [List.getElem_set_self] at b
          rcases hd k b with h | h
          · exact hD j i hj' hi' hjm k a h
          · exact h j (by omega) hjm k ⟨_, cell j hj', a⟩ rfl
        · rw [List.getElem_set_ne e2] at b
          exact hD j m hj' hm' hjm k a b
theorem LstM.row (h : LstM w B u M) (i : Nat) (hi : i < M.length) : ∃ b off c r, u = .slice (some ⟨b, off, none⟩) M.length c ∧ b < B ∧ w.cell? ⟨b, off + i, none⟩ = some (Ref.val r) ∧ Lst intCell 1 w B r.val M[i] := by
  obtain ⟨rs, hl, hO, hR⟩ := h
  obtain ⟨b, off, c, hu, hb, hc⟩ := hO.at_ Ref.cells_len i (by omega)
  subst hu
  exact ⟨b, off, c, rs[i], by rw [hl], hb, by simpa using hc 0 _ (by omega) rfl, hR i (by omega) hi⟩
/-- Rows of zeros that are not there yet. -/
theorem OwnM.made {n : Nat} (h : Own Ref.cells 1 50 w base u (List.replicate n ⟨none, 0, 0⟩)) : OwnM w base u (List.replicate n []) := by
  refine ⟨_, by simp, h, fun i h1 h2 => ?_, fun i j hi hj _ k a _ => ?_⟩
  · simp only [List.getElem_replicate]
    exact Own.nil
  · simp only [List.getElem_replicate] at a
    cases a
theorem OwnM.new0 (w : World) (base : Nat) (hb : base ≤ w.heap.size) : OwnM (w.alloc (.cells #[] 50)) base (.slice (some ⟨w.heap.size, 0, none⟩) 0 0) [] :=
  ⟨[], rfl, own_new0 Ref.cells 1 w _ base hb, fun i h1 => absurd h1 (by simp), fun i j hi => absurd hi (by simp)⟩
theorem OwnM.nil : OwnM w base (.slice none 0 0) [] := ⟨[], rfl, Own.nil, fun i h1 => absurd h1 (by simp), fun i j hi => absurd hi (by simp)⟩
/-- A new row at the end: what the append of one row leaves. -/
theorem OwnM.push (h : OwnM w base u M) (r : Ref) (l : List Int) (b0 : Nat) (hr : Own intCell 1 2 w b0 r.val l) (hb0 : base ≤ b0) (hlt : ∀ j x g, j < M.length → w.cell? ⟨g, j, none⟩ = some x → u.ownBlock = some g → ∀ k, x.ownBlock = some k → k < b0) (u' : Value)
    (hG : w.grownBy w' u.ownBlock) (hO' : ∀ rs : List Ref, Own Ref.cells 1 50 w base u rs → Own Ref.cells 1 50 w' base u' (rs ++ [r])) : OwnM w' base u' (M ++ [l]) := by
  obtain ⟨rs, hl, hO, hR, hD⟩ := h
  have hneU : ∀ {v : Value} {m : List Int} {b1 : Nat}, Own intCell 1 2 w b1 v m → ∀ k, v.ownBlock = some k → u.ownBlock = some k → False := by
    intro v m b1 hv k a b
    rcases hO.2 with ⟨rfl, _⟩ | ⟨g, cap, cur, rfl, _, hg, _⟩
    · cases b
    · injection b with b
      subst b
      exact hv.ne_blk (t := 50) (cs := cur) hg (by decide) a
  have hrow : ∀ i (hi : i < rs.length) k, rs[i].val.ownBlock = some k → k < b0 := by
    intro i hi k hk
    obtain ⟨g, c, hu, _, _, _, hc⟩ := hO.at_ Ref.cells_len i hi
    subst hu
    exact hlt i rs[i].val g (by omega) (by simpa using hc 0 _ (by omega) rfl) rfl k hk
  refine ⟨rs ++ [r], by simp [hl], hO' rs hO, fun i h1 h2 => ?_, fun i j hi hj hij k a b => ?_⟩
  · by_cases hlt2 : i < rs.length
    · rw [List.getElem_append_left hlt2, List.getElem_append_left (by omega)]
      exact own_kept (hR i hlt2 (by omega)) hG (fun k a b => hneU (hR i hlt2 (by omega)) k a b)
    · obtain rfl : i = rs.length := by simp at h1; omega
      have e1 : (rs ++ [r])[rs.length] = r := by simp
      have e2 : (M ++ [l])[rs.length] = l := by simp [hl]
      rw [e1, e2]
      exact (own_kept hr hG (fun k a b => hneU hr k a b)).rebase hb0
  · simp at hi hj
    by_cases h1 : i < rs.length
    · rw [List.getElem_append_left h1] at a
      by_cases h2 : j < rs.length
      · rw [List.getElem_append_left h2] at b
        exact hD i j h1 h2 hij k a b
      · obtain rfl : j = rs.length := by omega
        have e1 : (rs ++ [r])[rs.length] = r := by simp
        rw [e1] at b
        have := hrow i h1 k a
        have := (hr.lt k b).1
        omega
    · obtain rfl : i = rs.length := by omega
      have e1 : (rs ++ [r])[rs.length] = r := by simp
      rw [e1] at a
      by_cases h2 : j < rs.length
      · rw [List.getElem_append_left h2] at b
        have := hrow j h2 k b
        have := (hr.lt k a).1
        omega
      · omega
/-- The same, the outer row's cells in hand. -/
theorem OwnM.push2 {rs : List Ref} (hl : rs.length = M.length) (hO : Own Ref.cells 1 50 w base u rs) (hR : ∀ i (h1 : i < rs.length) (h2 : i < M.length), Own intCell 1 2 w base rs[i].val M[i])
    (hD : ∀ i j (hi : i < rs.length) (hj : j < rs.length), i ≠ j → ∀ k, rs[i].val.ownBlock = some k → rs[j].val.ownBlock = some k → False)
    (r : Ref) (l : List Int) (b0 : Nat) (hr : Own intCell 1 2 w b0 r.val l) (hb0 : base ≤ b0) (hlt : ∀ i (hi : i < rs.length) k, rs[i].val.ownBlock = some k → k < b0) (u' : Value)
    (hG : w.grownBy w' u.ownBlock) (hO' : Own Ref.cells 1 50 w' base u' (rs ++ [r])) : OwnM w' base u' (M ++ [l]) := by
  have hneU : ∀ {v : Value} {m : List Int} {b1 : Nat}, Own intCell 1 2 w b1 v m → ∀ k, v.ownBlock = some k → u.ownBlock = some k → False := by
    intro v m b1 hv k a b
    rcases hO.2 with ⟨rfl, _⟩ | ⟨g, cap, cur, rfl, _, hg, _⟩
    · cases b
    · injection b with b
      subst b
      exact hv.ne_blk (t := 50) (cs := cur) hg (by decide) a
  refine ⟨rs ++ [r], by simp [hl], hO', fun i h1 h2 => ?_, fun i j hi hj hij k a b => ?_⟩
  · by_cases hlt2 : i < rs.length
    · rw [List.getElem_append_left hlt2, List.getElem_append_left (by omega)]
      exact own_kept (hR i hlt2 (by omega)) hG (fun k a b => hneU (hR i hlt2 (by omega)) k a b)
    · obtain rfl : i = rs.length := by simp at h1; omega
      have e1 : (rs ++ [r])[rs.length] = r := by simp
      have e2 : (M ++ [l])[rs.length] = l := by simp [hl]
      rw [e1, e2]
      exact (own_kept hr hG (fun k a b => hneU hr k a b)).rebase hb0
  · simp at hi hj
    by_cases h1 : i < rs.length
    · rw [List.getElem_append_left h1] at a
      by_cases h2 : j < rs.length
      · rw [List.getElem_append_left h2] at b
        exact hD i j h1 h2 hij k a b
      · obtain rfl : j = rs.length := by omega
        have e1 : (rs ++ [r])[rs.length] = r := by simp
        rw [e1] at b
        have := hlt i h1 k a
        have := (hr.lt k b).1
        omega
    · obtain rfl : i = rs.length := by omega
      have e1 : (rs ++ [r])[rs.length] = r := by simp
      rw [e1] at a
      by_cases h2 : j < rs.length
      · rw [List.getElem_append_left h2] at b
        have := hlt j h2 k b
        have := (hr.lt k a).1
        omega
      · omega
theorem OwnM.lt (h : OwnM w base u M) {g j q : Nat} {x : Value} (hj : j < M.length) (hu : u.ownBlock = some g) (hc : w.cell? ⟨g, j, none⟩ = some x) (hq : x.ownBlock = some q) : base ≤ q ∧ q < w.heap.size := by
  obtain ⟨g2, c, r, rfl, _, _, _, hc2, hr, _⟩ := h.row j hj
  injection hu with hu
  subst hu
  rw [hc2] at hc
  injection hc with hc
  subst hc
  exact hr.lt q hq
/-- A row that has been made since is laid into the place of an old one. -/
theorem OwnM.setNew (h : OwnM w base u M) {w2 : World} (hb : Below w.heap.size w w2) (i : Nat) (hi : i < M.length) (r2 : Ref) (l : List Int) (hr : Own intCell 1 2 w2 w.heap.size r2.val l) (hbase : base ≤ w.heap.size)
    {g n c : Nat} (hu : u = .slice (some ⟨g, 0, none⟩) n c) : OwnM (w2.setCell ⟨g, i, none⟩ r2.val) base u (M.set i l) := by
  obtain ⟨g2, c2, r, hu2, hb2, hg2, _, hc, _, _, _, hset⟩ := (h.now hb).row i hi
  have hgw : g2 < w.heap.size := by
    obtain ⟨g3, _, _, hu3, _, hg3, _⟩ := h.row i hi
    rw [hu2] at hu3
    injection hu3 with hu3 _ _
    injection hu3 with hu3
    injection hu3 with hu3 _ _
    omega
  rw [hu] at hu2
  injection hu2 with hu2 _ _
  injection hu2 with hu2
  injection hu2 with hu2 _ _
  subst hu2
  refine hset r2 l (hr.rebase hbase) (fun k hk => .inr fun j hj hji q hq => ?_) (fun k hk => ?_)
  · obtain ⟨x, hx, hxq⟩ := hq
    have hx' : w.cell? ⟨g, j, none⟩ = some x := (hb.cell (p := ⟨g, j, none⟩) hgw).symm.trans hx
    have h1 := h.lt hj (by rw [hu]; rfl) hx' hxq
    have h2 := hr.lt k hk
    omega
  · have h2 := hr.lt k hk
    omega
/-- What an append of one row to a list of rows is asked for, and what it leaves. -/
theorem OwnM.grown {w' : World} {b0 : Nat} (h : OwnM w base u M) (hG : w.grownBy w' (some b0)) (hb : b0 < base) : OwnM w' base u M := by
  obtain ⟨rs, hl, hO, hR, hD⟩ := h
  have keep : ∀ {α : Type} {f : α → List Value} {size : Nat} {e : TypeId} {v : Value} {l : List α}, Own f size e w base v l → Own f size e w' base v l := by
    intro α f size e v l h
    refine ⟨h.1, ?_⟩
    rcases h.2 with hn | ⟨g, cap, cur, rfl, hbase, hgg, rest⟩
    · exact .inl hn
    · exact .inr ⟨g, cap, cur, rfl, hbase, (hG.block g (Array.getElem?_eq_some_iff.1 hgg).1 (by simp; omega)).trans hgg, rest⟩
  exact ⟨rs, hl, keep hO, fun i h1 h2 => keep (hR i h1 h2), hD⟩
/-- A row has been appended to (in w2), and the longer row is laid into its place. -/
theorem OwnM.app {rs : List Ref} (hl : rs.length = M.length) (hO : Own Ref.cells 1 50 w base u rs) (hR : ∀ i (h1 : i < rs.length) (h2 : i < M.length), Own intCell 1 2 w base rs[i].val M[i])
    (hD : ∀ i j (hi : i < rs.length) (hj : j < rs.length), i ≠ j → ∀ k, rs[i].val.ownBlock = some k → rs[j].val.ownBlock = some k → False)
    (i : Nat) (hi : i < rs.length) {w2 : World} (r2 : Ref) (l2 : List Int) (hr2 : Own intCell 1 2 w2 base r2.val l2) (hG : w.grownBy w2 rs[i].val.ownBlock)
    (hb : r2.val.ownBlock = rs[i].val.ownBlock ∨ r2.val.ownBlock = some w.heap.size) {g n c : Nat} (hu : u = .slice (some ⟨g, 0, none⟩) n c) : OwnM (w2.setCell ⟨g, i, none⟩ r2.val) base u (M.set i l2) := by
  have hgb : g < w.heap.size := by
    obtain ⟨g', c', hu', _, hg, _, _⟩ := hO.at_ Ref.cells_len i hi
    rw [hu] at hu'
    injection hu' with hu' _ _
    injection hu' with hu'
    injection hu' with hu' _ _
    omega
  have hne : ∀ j (hj : j < rs.length), rs[j].val.ownBlock ≠ some g := by
    intro j hj hk
    obtain ⟨k', cap, cur, hv, _, hgb, _⟩ : ∃ k cap cur, u = .slice (some ⟨k, 0, none⟩) rs.length cap ∧ base ≤ k ∧ w.heap[k]? = some (.cells cur 50 (0, 0)) ∧ True := by
      rcases hO.2 with ⟨h0, _⟩ | ⟨k, cap, cur, hv, h1, h2, _⟩
      · rw [hu] at h0; cases h0
      · exact ⟨k, cap, cur, hv, h1, h2, trivial⟩
    rw [hu] at hv
    injection hv with hv _ _
    injection hv with hv
    injection hv with hv _ _
    subst hv
    exact (hR j hj (by omega)).ne_blk (t := 50) (cs := cur) hgb (by decide) hk
  have hne2 : r2.val.ownBlock ≠ some g := by
    rcases hb with h | h
    · rw [h]; exact hne i hi
    · rw [h]; intro e; injection e with e; omega
  have hO1 := own_kept hO hG (fun k a b => by subst hu; injection a with a; exact hne i hi (by rw [b]; exact congrArg some a.symm))
  subst hu
  have hO3 := hO1.put Ref.cells_len i 0 hi (by omega) r2 r2.val rfl i (by omega)
  refine ⟨rs.set i r2, by simpa using hl, by simpa using hO3, fun j h1 h2 => ?_, fun j m hj hm hjm k a b => ?_⟩
  · by_cases hij : i = j
    · subst hij
      simp only [List.getElem_set_self]
      exact own_far hr2 (p := ⟨g, i, none⟩) hne2 _
    · simp only [List.getElem_set_ne hij]
      have h1' : j < rs.length := by simpa using h1
      exact own_far (own_kept (hR j h1' (by simpa using h2)) hG (fun k a b => hD j i h1' hi (Ne.symm hij) k a b)) (p := ⟨g, i, none⟩) (hne j h1') _
  · have hj' : j < rs.length := by simpa using hj
    have hm' : m < rs.length := by simpa using hm
    by_cases e1 : i = j
    · subst e1
      simp only [List.getElem_set_self] at a
      rw [List.getElem_set_ne hjm] at b
      rcases hb with h | h
      · exact hD i m hi hm' hjm k (by rw [← h]; exact a) b
      · have := ((hR m hm' (by omega)).lt k b).2
        rw [h] at a
        injection a with a
        omega
    · rw [List.getElem_set_ne e1] at a
      by_cases e2 : i = m
      · subst e2
        simp only [List.getElem_set_self] at b
        rcases hb with h | h
        · exact hD j i hj' hi hjm k a (by rw [← h]; exact b)
        · have := ((hR j hj' (by omega)).lt k a).2
          rw [h] at b
          injection b with b
          omega
      · rw [List.getElem_set_ne e2] at b
        exact hD j m hj' hm' hjm k a b
end
theorem grown_of_below {w w' : World} {r : Option Nat} (h : Below w.heap.size w w') : w.grownBy w' r := ⟨h.os, h.tape, h.output, h.size, fun k hk _ => h.block k hk⟩
theorem grown_set {a w : World} {r : Option Nat} (h : a.grownBy w r) {p : Addr} (hp : r = some p.block) (u : Value) : a.grownBy (w.setCell p u) r :=
  ⟨h.os, h.tape, h.output, by simpa [World.setCell] using h.size, fun i hi hne => (Below.heap_setCell w p u i (by rintro rfl; exact hne hp.symm)).trans (h.block i hi hne)⟩
/-- The call returned a matrix of its own. -/
def RetM (w : World) (M : List (List Int)) (r : Ending) (w' : World) : Prop := ∃ v, r = .returned v ∧ OwnM w' w.heap.size v M ∧ Below w.heap.size w w'
def RetMI (w : World) (M : List (List Int)) (code : Int) (r : Ending) (w' : World) : Prop := ∃ v, r = .returned (.tuple #[v, .int .i64 code]) ∧ OwnM w' w.heap.size v M ∧ Below w.heap.size w w'
theorem RetMI.of {w w' : World} {F : List (List Int) × Int} {M : List (List Int)} {c : Int} {r : Ending} (hE : F = (M, c)) (h : RetMI w M c r w') : RetMI w F.1 F.2 r w' := by
  subst hE
  exact h
/-- A row is in no block of the outer row. -/
theorem own_ref_ne {w : World} {base b g n c : Nat} {rs : List Ref} {v : Value} {l : List Int} (hO : Own Ref.cells 1 50 w base (.slice (some ⟨g, 0, none⟩) n c) rs) (hr : Own intCell 1 2 w b v l) : v.ownBlock ≠ some g := by
  rcases hO.2 with ⟨h0, _⟩ | ⟨k, cap, cur, hv, h1, h2, _⟩
  · cases h0
  · injection hv with hv _ _
    injection hv with hv
    injection hv with hv _ _
    subst hv
    exact hr.ne_blk (t := 50) (cs := cur) h2 (by decide)
theorem info_ref : (Try.prog.info? 50).map (fun i => (i.zero, i.size, i.bytes)) = some (some (.slice none 0 0), 1, 24) := by kernel_rfl
/-- m rows of n numbers each. -/
def matF (n : Nat) (F : Nat → Nat → Int) (m : Nat) : List (List Int) := (List.range m).map fun i => (List.range n).map fun j => F i j
/-- One row, the first j numbers of which are there. -/
def rowF (n : Nat) (f : Nat → Int) (j : Nat) : List Int := (List.range j).map f ++ List.replicate (n - j) 0
theorem rowF_len (n : Nat) (f : Nat → Int) (j : Nat) (h : j ≤ n) : (rowF n f j).length = n := by simp [rowF]; omega
theorem rowF_set (n : Nat) (f : Nat → Int) (j : Nat) (h : j < n) : (rowF n f j).set j (f j) = rowF n f (j + 1) := by
  unfold rowF
  rw [List.set_append_right _ _ (by simp)]
  have e : j - ((List.range j).map f).length = 0 := by simp
  rw [e, show n - j = (n - (j + 1)) + 1 by omega, List.replicate_succ, List.set_cons_zero, List.range_succ, List.map_append, List.append_assoc]
  rfl
theorem rowF_all (n : Nat) (f : Nat → Int) : rowF n f n = (List.range n).map f := by simp [rowF]
theorem rowF_zero (n : Nat) (f : Nat → Int) : rowF n f 0 = List.replicate n 0 := by simp [rowF]
theorem matF_len (n m : Nat) (F : Nat → Nat → Int) : (matF n F m).length = m := by simp [matF]
theorem matF_next (n m k : Nat) (F : Nat → Nat → Int) (h : k < m) : (matF n F k ++ List.replicate (m - k) []).set k ((List.range n).map (F k)) = matF n F (k + 1) ++ List.replicate (m - (k + 1)) [] := by
  rw [List.set_append_right _ _ (by rw [matF_len]; omega)]
  have e : k - (matF n F k).length = 0 := by rw [matF_len]; omega
  rw [e, show m - k = (m - (k + 1)) + 1 by omega, List.replicate_succ, List.set_cons_zero]
  simp [matF, List.range_succ]
theorem matF_succ (n m : Nat) (F : Nat → Nat → Int) : matF n F (m + 1) = matF n F m ++ [(List.range n).map fun j => F m j] := by simp [matF, List.range_succ]
end Go.Proofs.Ytcoomogabicfnaa
