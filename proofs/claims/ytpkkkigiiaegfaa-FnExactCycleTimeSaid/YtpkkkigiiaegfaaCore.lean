/-
  Words for memory that all proofs of this seat use: a slice that reads as a list, a row of the call's own, worlds below a block; plain Lean over the model, no program in sight.
-/
import Derived.WalkKit
import Derived.WalkSpells
import Derived.WalkLawsBesides
import Derived.Deep.AppendLies
import Derived.Deep.Draws
import Derived.Lib.Hide
namespace Go.Proofs.Ytpkkkigiiaegfaa
open Go.RowKit
set_option linter.unusedVariables false
set_option linter.unusedSimpArgs false

/-! ### flattened lists -/

theorem flat_len {α : Type} (f : α → List Value) (s : Nat) (hf : ∀ x, (f x).length = s) (l : List α) : (l.flatMap f).length = l.length * s := by
  induction l with
  | nil => simp
  | cons a l ih => simp [List.flatMap_cons, ih, hf, Nat.add_mul, Nat.add_comm]

theorem flat_get {α : Type} (f : α → List Value) (s : Nat) (hf : ∀ x, (f x).length = s) : ∀ (l : List α) (k j : Nat) (hk : k < l.length), j < s → (l.flatMap f)[k * s + j]? = (f l[k])[j]?
  | [], _, _, hk, _ => absurd hk (by simp)
  | a :: l, 0, j, _, hj => by
    simp only [List.flatMap_cons, Nat.zero_mul, Nat.zero_add, List.getElem_cons_zero]
    rw [List.getElem?_append_left (by rw [hf]; exact hj)]
  | a :: l, k + 1, j, hk, hj => by
    simp only [List.flatMap_cons, List.getElem_cons_succ]
    rw [List.getElem?_append_right (by rw [hf, Nat.add_mul]; omega), hf]
    rw [show (k + 1) * s + j - s = k * s + j by rw [Nat.add_mul]; omega]
    exact flat_get f s hf l k j (by simpa using hk) hj

theorem flat_snoc {α : Type} (f : α → List Value) (l : List α) (x : α) : (l ++ [x]).flatMap f = l.flatMap f ++ f x := by simp

/-- One cell of a flattened list turned is one part of one element turned. -/
theorem flat_set_cell {α : Type} (f : α → List Value) (s : Nat) (hf : ∀ x, (f x).length = s) (l : List α) (k j : Nat) (hk : k < l.length) (hj : j < s) (x : α) (u : Value) (hx : f x = (f l[k]).set j u) :
    (l.set k x).flatMap f = (l.flatMap f).set (k * s + j) u := by
  refine List.ext_getElem? fun i => ?_
  have hl := flat_len f s hf l
  have hl' := flat_len f s hf (l.set k x)
  have hks : k * s + s ≤ l.length * s := by
    have := Nat.mul_le_mul_right s (show k + 1 ≤ l.length by omega)
    rw [Nat.add_mul] at this; omega
  by_cases hi : i < l.length * s
  · have hs : 0 < s := by omega
    have hq : i / s < l.length := (Nat.div_lt_iff_lt_mul hs).2 hi
    have hr : i % s < s := Nat.mod_lt _ hs
    have he : i = i / s * s + i % s := by rw [Nat.mul_comm]; exact (Nat.div_add_mod i s).symm
    generalize i / s = q at *
    generalize i % s = r at *
    subst he
    rw [flat_get f s hf _ q r (by simpa using hq) hr]
    by_cases hqk : q = k
    · subst hqk
      rw [List.getElem_set_self, hx]
      by_cases hrj : r = j
      · subst hrj
        rw [List.getElem?_set_self (by rw [hf]; exact hr), List.getElem?_set_self (by rw [hl]; omega)]
      · rw [List.getElem?_set_ne (by omega), List.getElem?_set_ne (by omega)]
        exact (flat_get f s hf l q r hq hr).symm
    · rw [List.getElem_set_ne (Ne.symm hqk), List.getElem?_set_ne]
      · exact (flat_get f s hf l q r hq hr).symm
      · intro e
        rcases Nat.lt_or_gt_of_ne hqk with h | h
        · have := Nat.mul_le_mul_right s (show q + 1 ≤ k by omega)
          rw [Nat.add_mul] at this; omega
        · have := Nat.mul_le_mul_right s (show k + 1 ≤ q by omega)
          rw [Nat.add_mul] at this; omega
  · rw [List.getElem?_eq_none (by rw [hl', List.length_set]; omega), List.getElem?_eq_none (by rw [List.length_set, hl]; omega)]

/-! ### a slice that reads as a list of cells -/

/-- The slice value v has n elements of 'size' cells each, which are xs; they lie below block B. -/
def Row (w : World) (B size : Nat) (v : Value) (n : Nat) (xs : List Value) : Prop :=
  xs.length = n * size ∧ n ≤ maxLen ∧ ∃ A c, v = .slice A n c ∧ n ≤ c ∧ (0 < n → ∃ b off, A = some ⟨b, off, none⟩ ∧ b < B ∧ ∀ j u, xs[j]? = some u → w.cell? ⟨b, off + j, none⟩ = some u)

section
variable {w w' : World} {B B' size n : Nat} {v : Value} {xs : List Value}
theorem Row.keep (h : Row w B size v n xs) (hk : ∀ b o, b < B → w'.cell? ⟨b, o, none⟩ = w.cell? ⟨b, o, none⟩) : Row w' B size v n xs := by
  obtain ⟨h1, h2, A, c, hv, hc, hr⟩ := h
  refine ⟨h1, h2, A, c, hv, hc, fun hn => ?_⟩
  obtain ⟨b, off, hA, hb, hcell⟩ := hr hn
  exact ⟨b, off, hA, hb, fun j u hu => (hk _ _ hb).trans (hcell j u hu)⟩
theorem Row.more (h : Row w B size v n xs) (hB : B ≤ B') : Row w B' size v n xs := by
  obtain ⟨h1, h2, A, c, hv, hc, hr⟩ := h
  refine ⟨h1, h2, A, c, hv, hc, fun hn => ?_⟩
  obtain ⟨b, off, hA, hb, hcell⟩ := hr hn
  exact ⟨b, off, hA, by omega, hcell⟩
theorem Row.below (h : Row w B size v n xs) (hb : Below B' w w') (hB : B ≤ B') : Row w' B size v n xs := h.keep fun b o hlt => hb.cell (p := ⟨b, o, none⟩) (by simpa using Nat.lt_of_lt_of_le hlt hB)
theorem Row.now (h : Row w w.heap.size size v n xs) (hb : Below w.heap.size w w') : Row w' w'.heap.size size v n xs := (h.below hb (Nat.le_refl _)).more hb.size
theorem Row.len_le (h : Row w B size v n xs) : n ≤ maxLen := h.2.1
theorem Row.nil : Row w B size (.slice none 0 0) 0 [] := ⟨by simp, by simp [maxLen], none, 0, rfl, by omega, fun h => absurd h (by omega)⟩
theorem Row.of_own {base : Nat} {e : TypeId} (h : w.ownsRow base e size v n xs) : Row w w.heap.size size v n xs := by
  refine ⟨h.1, ?_⟩
  rcases h.2 with ⟨rfl, rfl⟩ | ⟨g, cap, cur, rfl, hb, hg, hn, hc, hs, ht⟩
  · exact ⟨by simp [maxLen], none, 0, rfl, by omega, fun h => absurd h (by omega)⟩
  · refine ⟨by omega, some ⟨g, 0, none⟩, cap, rfl, hn, fun _ => ⟨g, 0, rfl, (Array.getElem?_eq_some_iff.1 hg).1, fun j u hu => ?_⟩⟩
    rw [cell_of_row w g (0 + j) cur e (0, 0) hg]
    rw [← ht, List.getElem?_take] at hu
    split at hu
    · simpa using hu
    · cases hu
end

/-- What is below a block: its cells read as before, its marks too. -/
theorem bcell {B : Nat} {W w1 : World} (hb : Below B W w1) : (∀ b o, b < B → w1.cell? ⟨b, o, none⟩ = W.cell? ⟨b, o, none⟩) ∧ (∀ b o, b < B → w1.frozen? ⟨b, o, none⟩ = W.frozen? ⟨b, o, none⟩) :=
  ⟨fun b o h => hb.cell (p := ⟨b, o, none⟩) h, fun b o h => hb.frozen (p := ⟨b, o, none⟩) h⟩

theorem below_drewN {B : Nat} {a w : World} (h : Below B a w) (n : Nat) : Below B a (w.drewN n) := ⟨h.os, h.tape, h.output, h.size, h.block⟩

theorem cell_keep {w w' : World} {a : Addr} {v : Value} (h : w.cell? a = some v) (hb : Below w.heap.size w w') : w'.cell? a = some v := (hb.cell (World.block_lt_of_cell? w a h)).trans h
theorem cell_kept {w w' : World} {a : Addr} {v u : Value} (h : w.cell? a = some v) (hG : w.grownBy w' u.ownBlock) (hne : u.ownBlock = some a.block → False) : w'.cell? a = some v := hG.cell h (fun e => hne e.symm)

/-! ### a block that is known whole -/

def Blk (w : World) (g : Nat) (t : TypeId) (cs : Array Value) : Prop := w.heap[g]? = some (.cells cs t (0, 0))
section
variable {w w' : World} {g : Nat} {t : TypeId} {cs : Array Value}
theorem Blk.lt (h : Blk w g t cs) : g < w.heap.size := (Array.getElem?_eq_some_iff.1 h).1
theorem Blk.cell (h : Blk w g t cs) (i : Nat) : w.cell? ⟨g, i, none⟩ = cs[i]? := cell_of_row w g i cs t (0, 0) h
theorem Blk.frozen (h : Blk w g t cs) (i : Nat) : w.frozen? ⟨g, i, none⟩ = false := by
  unfold Blk at h
  simp [World.frozen?, h]
theorem Blk.new (w : World) (t : TypeId) (cs : Array Value) : Blk (w.alloc (.cells cs t)) w.heap.size t cs := heap_alloc_new w _
theorem Blk.alloc (h : Blk w g t cs) (o : Obj) : Blk (w.alloc o) g t cs := (Below.heap_alloc w o g h.lt).trans h
theorem Blk.set_ (h : Blk w g t cs) (i : Nat) (u : Value) : Blk (w.setCell ⟨g, i, none⟩ u) g t (cs.setIfInBounds i u) := by
  unfold Blk at h ⊢
  simp [World.setCell, Array.getElem?_modify, h]
theorem Blk.far (h : Blk w g t cs) {p : Addr} (hp : g ≠ p.block) (u : Value) : Blk (w.setCell p u) g t cs := (Below.heap_setCell w p u g hp).trans h
theorem Blk.below {B : Nat} (h : Blk w g t cs) (hb : Below B w w') (hg : g < B) : Blk w' g t cs := (hb.block g hg).trans h
theorem Blk.now (h : Blk w g t cs) (hb : Below w.heap.size w w') : Blk w' g t cs := h.below hb h.lt
theorem Blk.c2 {a b : Value} (h : Blk w g t #[a, b]) : w.cell? ⟨g, 0, none⟩ = some a ∧ w.cell? ⟨g, 1, none⟩ = some b := ⟨by simpa using h.cell 0, by simpa using h.cell 1⟩
theorem Blk.c3 {a b c : Value} (h : Blk w g t #[a, b, c]) : w.cell? ⟨g, 0, none⟩ = some a ∧ w.cell? ⟨g, 1, none⟩ = some b ∧ w.cell? ⟨g, 2, none⟩ = some c := ⟨by simpa using h.cell 0, by simpa using h.cell 1, by simpa using h.cell 2⟩
theorem Blk.c4 {a b c d : Value} (h : Blk w g t #[a, b, c, d]) : w.cell? ⟨g, 0, none⟩ = some a ∧ w.cell? ⟨g, 1, none⟩ = some b ∧ w.cell? ⟨g, 2, none⟩ = some c ∧ w.cell? ⟨g, 3, none⟩ = some d := ⟨by simpa using h.cell 0, by simpa using h.cell 1, by simpa using h.cell 2, by simpa using h.cell 3⟩
theorem Blk.f2 (h : Blk w g t cs) : w.frozen? ⟨g, 0, none⟩ = false ∧ w.frozen? ⟨g, 1, none⟩ = false := ⟨h.frozen 0, h.frozen 1⟩
theorem Blk.set2a {a b u : Value} (h : Blk w g t #[a, b]) : Blk (w.setCell ⟨g, 0, none⟩ u) g t #[u, b] := by simpa using h.set_ 0 u
theorem Blk.set2b {a b u : Value} (h : Blk w g t #[a, b]) : Blk (w.setCell ⟨g, 1, none⟩ u) g t #[a, u] := by simpa using h.set_ 1 u
theorem Blk.grown {row : Option Nat} (h : Blk w g t cs) (hb : w.grownBy w' row) (hg : some g ≠ row) : Blk w' g t cs := (hb.block g h.lt hg).trans h
end

/-! ### rows of the call's own -/

section
variable {w w' : World} {base base' size n : Nat} {e : TypeId} {v : Value} {xs : List Value}
theorem own_below {B : Nat} (h : w.ownsRow base e size v n xs) (hb : Below B w w') (hB : ∀ g, v.ownBlock = some g → g < B) : w'.ownsRow base e size v n xs := by
  refine ⟨h.1, ?_⟩
  rcases h.2 with hn | ⟨g, cap, cur, rfl, hbase, hgg, rest⟩
  · exact .inl hn
  · exact .inr ⟨g, cap, cur, rfl, hbase, (hb.block g (hB g rfl)).trans hgg, rest⟩
theorem own_now (h : w.ownsRow base e size v n xs) (hb : Below w.heap.size w w') : w'.ownsRow base e size v n xs := own_below h hb fun g hg => (h.lt g hg).2
theorem own_base (h : w.ownsRow base e size v n xs) (hb : base' ≤ base) : w.ownsRow base' e size v n xs := by
  refine ⟨h.1, ?_⟩
  rcases h.2 with hn | ⟨g, cap, cur, rfl, hbase, rest⟩
  · exact .inl hn
  · exact .inr ⟨g, cap, cur, rfl, by omega, rest⟩
theorem own_far (h : w.ownsRow base e size v n xs) {p : Addr} (hp : v.ownBlock ≠ some p.block) (u : Value) : (w.setCell p u).ownsRow base e size v n xs := by
  refine ⟨h.1, ?_⟩
  rcases h.2 with hn | ⟨g, cap, cur, rfl, hbase, hgg, rest⟩
  · exact .inl hn
  · refine .inr ⟨g, cap, cur, rfl, hbase, ?_, rest⟩
    rw [Below.heap_setCell _ _ _ _ (by intro e; exact hp (by simp [Value.ownBlock, e]))]; exact hgg
/-- The form of a row that has an element. -/
theorem own_form (h : w.ownsRow base e size v n xs) (hn : 0 < n) : ∃ g cap, v = .slice (some ⟨g, 0, none⟩) n cap ∧ base ≤ g ∧ g < w.heap.size := by
  rcases h.2 with ⟨_, h0⟩ | ⟨g, cap, cur, hv, hb, hg, _⟩
  · omega
  · exact ⟨g, cap, hv, hb, (Array.getElem?_eq_some_iff.1 hg).1⟩
theorem own_shape (h : w.ownsRow base e size v n xs) : ∃ A cap, v = .slice A n cap := by
  rcases h.2 with ⟨rfl, h0⟩ | ⟨g, cap, cur, hv, hb, hg, _⟩
  · exact ⟨none, 0, by rw [h0]⟩
  · exact ⟨_, _, hv⟩
end
end Go.Proofs.Ytpkkkigiiaegfaa
