/-
  A matrix of the call's own and, beside it, a list of its own in a block of none of its rows.
-/
import Derived.Test.YtpkkkigiiaegfaaMat
namespace Go.Proofs.Ytpkkkigiiaegfaa
open Go.RowKit
set_option linter.unusedVariables false
set_option linter.unusedSimpArgs false

def OwnX (w : World) (base : Nat) (u : Value) (M : List (List Int)) (o : Value) (m : List Int) : Prop :=
  ∃ rs : List Ref, rs.length = M.length ∧ Own Ref.cells 1 37 w base u rs ∧ (∀ i (h1 : i < rs.length) (h2 : i < M.length), Own intCell 1 2 w base rs[i].val M[i]) ∧
    (∀ i j (hi : i < rs.length) (hj : j < rs.length), i ≠ j → ∀ k, rs[i].val.ownBlock = some k → rs[j].val.ownBlock = some k → False) ∧
    Own intCell 1 2 w base o m ∧ ∀ i (hi : i < rs.length) k, rs[i].val.ownBlock = some k → o.ownBlock = some k → False
section
variable {w w' w2 : World} {base : Nat} {u o v' : Value} {M : List (List Int)} {m m' : List Int}
theorem OwnX.mat (h : OwnX w base u M o m) : OwnM w base u M := by
  obtain ⟨rs, hl, hO, hR, hD, _⟩ := h
  exact ⟨rs, hl, hO, hR, hD⟩
theorem OwnX.own (h : OwnX w base u M o m) : Own intCell 1 2 w base o m := by
  obtain ⟨rs, hl, hO, hR, hD, hQ, _⟩ := h
  exact hQ
theorem OwnX.now (h : OwnX w base u M o m) (hb : Below w.heap.size w w') : OwnX w' base u M o m := by
  obtain ⟨rs, hl, hO, hR, hD, hQ, hX⟩ := h
  exact ⟨rs, hl, hO.now hb, fun i h1 h2 => (hR i h1 h2).now hb, hD, hQ.now hb, hX⟩
theorem OwnX.first (h : OwnM w base u M) : OwnX w base u M (.slice none 0 0) [] := by
  obtain ⟨rs, hl, hO, hR, hD⟩ := h
  exact ⟨rs, hl, hO, hR, hD, Own.nil, fun i hi k _ b => by cases b⟩
theorem ref_ne {b : Nat} {rs : List Ref} {v : Value} {l : List Int} (hO : Own Ref.cells 1 37 w base u rs) (hv : Own intCell 1 2 w b v l) : ∀ k, v.ownBlock = some k → u.ownBlock = some k → False := by
  intro k a b
  rcases hO.2 with ⟨rfl, _⟩ | ⟨g, cap, cur, rfl, _, hg, _⟩
  · cases b
  · injection b with b
    subst b
    exact hv.ne_blk (t := 37) (cs := cur) hg (by decide) a
/-- The list beside has been appended to. -/
theorem OwnX.res (h : OwnX w base u M o m) (hr : Own intCell 1 2 w2 base v' m') (hG : w.grownBy w2 o.ownBlock) (hb : v'.ownBlock = o.ownBlock ∨ v'.ownBlock = some w.heap.size) : OwnX w2 base u M v' m' := by
  obtain ⟨rs, hl, hO, hR, hD, hQ, hX⟩ := h
  refine ⟨rs, hl, own_kept hO hG (fun k a b => ref_ne hO hQ k b a), fun i h1 h2 => own_kept (hR i h1 h2) hG (fun k a b => hX i h1 k a b), hD, hr, fun i hi k a b => ?_⟩
  rcases hb with h | h
  · rw [h] at b
    exact hX i hi k a b
  · rw [h] at b
    injection b with b
    have := ((hR i hi (by omega)).lt k a).2
    omega
/-- A row has been appended to, and the longer row is laid into its place. -/
theorem OwnX.app {rs : List Ref} (hl : rs.length = M.length) (hO : Own Ref.cells 1 37 w base u rs) (hR : ∀ i (h1 : i < rs.length) (h2 : i < M.length), Own intCell 1 2 w base rs[i].val M[i])
    (hD : ∀ i j (hi : i < rs.length) (hj : j < rs.length), i ≠ j → ∀ k, rs[i].val.ownBlock = some k → rs[j].val.ownBlock = some k → False)
    (hQ : Own intCell 1 2 w base o m) (hX : ∀ i (hi : i < rs.length) k, rs[i].val.ownBlock = some k → o.ownBlock = some k → False)
    (i : Nat) (hi : i < rs.length) (r2 : Ref) (l2 : List Int) (hr2 : Own intCell 1 2 w2 base r2.val l2) (hG : w.grownBy w2 rs[i].val.ownBlock)
    (hb : r2.val.ownBlock = rs[i].val.ownBlock ∨ r2.val.ownBlock = some w.heap.size) {g n c : Nat} (hu : u = .slice (some ⟨g, 0, none⟩) n c) : OwnX (w2.setCell ⟨g, i, none⟩ r2.val) base u (M.set i l2) o m := by
  obtain ⟨rs', hl', hO', hR', hD'⟩ := OwnM.app hl hO hR hD i hi r2 l2 hr2 hG hb hu
  subst hu
  have hog : o.ownBlock ≠ some g := fun h => ref_ne hO hQ g h rfl
  refine ⟨rs', hl', hO', hR', hD', own_far (own_kept hQ hG (fun k a b => hX i hi k b a)) (p := ⟨g, i, none⟩) hog _, fun j hj k a b => ?_⟩
  have hjr : j < rs.length := by have := hl'; rw [List.length_set] at this; omega
  have hO1 := own_kept hO hG (fun k a b => ref_ne hO (hR i hi (by omega)) k b a)
  have hO3 := hO1.put Ref.cells_len i 0 hi (by omega) r2 r2.val rfl i (by omega)
  obtain ⟨g1, c1, hu1, _, _, _, hc1⟩ := hO'.at_ Ref.cells_len j hj
  obtain ⟨g2, c2, hu2, _, _, _, hc2⟩ := hO3.at_ Ref.cells_len j (by simpa using hjr)
  injection hu1 with hu1 _ _
  injection hu1 with hu1
  injection hu1 with hu1 _ _
  injection hu2 with hu2 _ _
  injection hu2 with hu2
  injection hu2 with hu2 _ _
  subst hu1
  subst hu2
  have e1 := hc1 0 _ (by omega) rfl
  have e2 := hc2 0 _ (by omega) rfl
  have e3 : rs'[j].val = (rs.set i r2)[j].val := by
    have := e1.symm.trans (by simpa using e2)
    simpa using this
  rw [e3] at a
  by_cases hij : i = j
  · subst hij
    simp only [List.getElem_set_self] at a
    rcases hb with h | h
    · rw [h] at a
      exact hX i hi k a b
    · rw [h] at a
      injection a with a
      have := (hQ.lt k b).2
      omega
  · rw [List.getElem_set_ne hij] at a
    exact hX j hjr k a b
end
end Go.Proofs.Ytpkkkigiiaegfaa
