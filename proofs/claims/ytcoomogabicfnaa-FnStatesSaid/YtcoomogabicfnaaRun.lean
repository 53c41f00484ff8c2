/-
  What single operations of the model do to the words of Core: make, append, stores into a row of the call's own.
-/
import Derived.Test.YtcoomogabicfnaaCore
import Derived.Maps.AppendAt
namespace Go.Proofs.Ytcoomogabicfnaa
open Go.RowKit
set_option linter.unusedVariables false
set_option linter.unusedSimpArgs false

/-! ### elements of a flattened row -/
section
variable {α : Type} {w w' : World} {B base size : Nat} {e : TypeId} {v : Value}

/-- The slice value v reads as the list l, each element f x. -/
def Lst (f : α → List Value) (size : Nat) (w : World) (B : Nat) (v : Value) (l : List α) : Prop := Row w B size v l.length (l.flatMap f)
/-- The slice value v is a row of the call's own and holds l. -/
def Own (f : α → List Value) (size : Nat) (e : TypeId) (w : World) (base : Nat) (v : Value) (l : List α) : Prop := w.ownsRow base e size v l.length (l.flatMap f)

theorem Lst.at_ {f : α → List Value} (hf : ∀ x, (f x).length = size) {l : List α} (h : Lst f size w B v l) (k : Nat) (hk : k < l.length) :
    ∃ b off c, v = .slice (some ⟨b, off, none⟩) l.length c ∧ b < B ∧ ∀ j u, j < size → (f l[k])[j]? = some u → w.cell? ⟨b, off + (k * size + j), none⟩ = some u := by
  obtain ⟨h1, h2, A, c, hv, hc, hr⟩ := h
  obtain ⟨b, off, rfl, hb, hcell⟩ := hr (by omega)
  exact ⟨b, off, c, hv, hb, fun j u hj hu => hcell _ u (by rw [flat_get f size hf l k j hk hj]; exact hu)⟩
theorem Lst.shape {f : α → List Value} {l : List α} (h : Lst f size w B v l) : ∃ A c, v = .slice A l.length c := by
  obtain ⟨h1, h2, A, c, hv, hc, hr⟩ := h
  exact ⟨A, c, hv⟩
theorem Lst.len_le {f : α → List Value} {l : List α} (h : Lst f size w B v l) : l.length ≤ 9223372036854775807 := by
  have := h.2.1
  unfold maxLen at this
  omega
theorem Lst.now {f : α → List Value} {l : List α} (h : Lst f size w w.heap.size v l) (hb : Below w.heap.size w w') : Lst f size w' w'.heap.size v l := Row.now h hb
theorem Lst.below {f : α → List Value} {l : List α} {B' : Nat} (h : Lst f size w B v l) (hb : Below B' w w') (hB : B ≤ B') : Lst f size w' B v l := Row.below h hb hB
theorem Lst.more {f : α → List Value} {l : List α} {B' : Nat} (h : Lst f size w B v l) (hB : B ≤ B') : Lst f size w B' v l := Row.more h hB
theorem Lst.take {f : α → List Value} (hf : ∀ x, (f x).length = size) {l : List α} {A : Option Addr} {n c : Nat} (h : Lst f size w B (.slice A n c) l) (k : Nat) (hk : k ≤ l.length) : Lst f size w B (.slice A k c) (l.take k) := by
  obtain ⟨h1, h2, A', c', hv, hc, hr⟩ := h
  injection hv with hA hn hcc
  subst hA
  subst hcc
  have hl : (l.take k).length = k := by simp; omega
  refine ⟨flat_len f size hf _, by omega, A, c, by rw [hl], by omega, fun hp => ?_⟩
  obtain ⟨b, off, hA, hb, hcell⟩ := hr (by omega)
  refine ⟨b, off, hA, hb, fun j u hu => hcell j u ?_⟩
  have e : l.flatMap f = (l.take k).flatMap f ++ (l.drop k).flatMap f := by rw [← List.flatMap_append, List.take_append_drop]
  rw [e, List.getElem?_append_left (List.getElem?_eq_some_iff.1 hu).1]
  exact hu
theorem Lst.nil {f : α → List Value} : Lst f size w B (.slice none 0 0) [] := Row.nil
theorem Own.lst {f : α → List Value} {l : List α} (h : Own f size e w base v l) : Lst f size w w.heap.size v l := Row.of_own h
theorem Own.now {f : α → List Value} {l : List α} (h : Own f size e w base v l) (hb : Below w.heap.size w w') : Own f size e w' base v l := own_now h hb
theorem Own.below {f : α → List Value} {l : List α} {B : Nat} (h : Own f size e w base v l) (hb : Below B w w') (hB : ∀ g, v.ownBlock = some g → g < B) : Own f size e w' base v l := own_below h hb hB
theorem Own.rebase {base' : Nat} {f : α → List Value} {l : List α} (h : Own f size e w base v l) (hb : base' ≤ base) : Own f size e w base' v l := own_base h hb
theorem Own.nil {f : α → List Value} : Own f size e w base (.slice none 0 0) [] := World.ownsRow_nil _ _ _ _
theorem Own.alloc {f : α → List Value} {l : List α} (h : Own f size e w base v l) (o : Obj) : Own f size e (w.alloc o) base v l := World.ownsRow.alloc h o
theorem Own.far {f : α → List Value} {l : List α} (h : Own f size e w base v l) {p : Addr} (hp : p.block < base) (u : Value) : Own f size e (w.setCell p u) base v l := ownsRow_setCell_below h hp u
theorem Own.lt {f : α → List Value} {l : List α} (h : Own f size e w base v l) : ∀ k, v.ownBlock = some k → base ≤ k ∧ k < w.heap.size := World.ownsRow.lt h
theorem Own.shape {f : α → List Value} {l : List α} (h : Own f size e w base v l) : ∃ A cap, v = .slice A l.length cap := own_shape h
/-- The k-th element's cells, to be read and written. -/
theorem Own.at_ {f : α → List Value} (hf : ∀ x, (f x).length = size) {l : List α} (h : Own f size e w base v l) (k : Nat) (hk : k < l.length) :
    ∃ g c, v = .slice (some ⟨g, 0, none⟩) l.length c ∧ base ≤ g ∧ g < w.heap.size ∧ (∀ j, w.frozen? ⟨g, j, none⟩ = false) ∧
      ∀ j u, j < size → (f l[k])[j]? = some u → w.cell? ⟨g, k * size + j, none⟩ = some u := by
  obtain ⟨g, c, rfl, hb, hg⟩ := own_form h (by omega)
  refine ⟨g, c, rfl, hb, hg, fun j => World.ownsRow.frozenAt h j, fun j u hj hu => ?_⟩
  have hl := h.1
  have hks : k * size + size ≤ l.length * size := by
    have := Nat.mul_le_mul_right size (show k + 1 ≤ l.length by omega)
    rw [Nat.add_mul] at this; omega
  rw [World.ownsRow.cellAt h _ (by omega), flat_get f size hf l k j hk hj]
  exact hu
/-- One cell of the k-th element is written. -/
theorem Own.set {f : α → List Value} (hf : ∀ x, (f x).length = size) {l : List α} {g c : Nat} (h : Own f size e w base (.slice (some ⟨g, 0, none⟩) l.length c) l) (k j : Nat) (hk : k < l.length) (hj : j < size)
    (x : α) (u : Value) (hx : f x = (f l[k]).set j u) (i : Nat) (hi : i = k * size + j) : Own f size e (w.setCell ⟨g, i, none⟩ u) base (.slice (some ⟨g, 0, none⟩) l.length c) (l.set k x) := by
  subst hi
  unfold Own
  rw [flat_set_cell f size hf l k j hk hj x u hx, List.length_set]
  exact (World.ownsRow.stored h _ u).1
end

/-! ### cells one by one -/
section
variable {w : World} {B base : Nat} {e : TypeId}
theorem ints_at {l : List Int} {A : Option Addr} {n c : Nat} (h : Lst intCell 1 w B (.slice A n c) l) (k : Nat) (hk : k < l.length) :
    ∃ b off, A = some ⟨b, off, none⟩ ∧ b < B ∧ w.cell? ⟨b, off + k, none⟩ = some (.int .i64 l[k]) := by
  obtain ⟨b, off, c', hv, hb, hc⟩ := h.at_ intCell_len k hk
  injection hv with hA _ _
  exact ⟨b, off, hA, hb, by simpa using hc 0 _ (by omega) rfl⟩
theorem own_ints_at {l : List Int} {g n c : Nat} (h : Own intCell 1 e w base (.slice (some ⟨g, 0, none⟩) n c) l) (k : Nat) (hk : k < l.length) :
    base ≤ g ∧ g < w.heap.size ∧ (∀ j, w.frozen? ⟨g, j, none⟩ = false) ∧ w.cell? ⟨g, k, none⟩ = some (.int .i64 l[k]) := by
  obtain ⟨g', c', hv, hb, hg, hfz, hc⟩ := h.at_ intCell_len k hk
  injection hv with hA _ _
  obtain rfl : g = g' := by injection hA with hA; injection hA
  exact ⟨hb, hg, hfz, by simpa using hc 0 _ (by omega) rfl⟩
theorem firings_at {l : List Firing} {A : Option Addr} {n c : Nat} (h : Lst Firing.cells 3 w B (.slice A n c) l) (k : Nat) (hk : k < l.length) :
    ∃ b off, A = some ⟨b, off, none⟩ ∧ b < B ∧ w.cell? ⟨b, off + k * 3, none⟩ = some (.int .i64 l[k].event) ∧ w.cell? ⟨b, off + k * 3 + 1, none⟩ = some (.int .i64 l[k].number) ∧ w.cell? ⟨b, off + k * 3 + 2, none⟩ = some (.int .i64 l[k].time) := by
  obtain ⟨b, off, c', hv, hb, hc⟩ := h.at_ Firing.cells_len k hk
  injection hv with hA _ _
  exact ⟨b, off, hA, hb, by simpa using hc 0 _ (by omega) rfl, by simpa [Nat.add_assoc] using hc 1 _ (by omega) rfl, by simpa [Nat.add_assoc] using hc 2 _ (by omega) rfl⟩
theorem own_firings_at {l : List Firing} {g n c : Nat} (h : Own Firing.cells 3 e w base (.slice (some ⟨g, 0, none⟩) n c) l) (k : Nat) (hk : k < l.length) :
    base ≤ g ∧ g < w.heap.size ∧ (∀ j, w.frozen? ⟨g, j, none⟩ = false) ∧ w.cell? ⟨g, k * 3, none⟩ = some (.int .i64 l[k].event) ∧ w.cell? ⟨g, k * 3 + 1, none⟩ = some (.int .i64 l[k].number) ∧ w.cell? ⟨g, k * 3 + 2, none⟩ = some (.int .i64 l[k].time) := by
  obtain ⟨g', c', hv, hb, hg, hfz, hc⟩ := h.at_ Firing.cells_len k hk
  injection hv with hA _ _
  obtain rfl : g = g' := by injection hA with hA; injection hA
  exact ⟨hb, hg, hfz, by simpa using hc 0 _ (by omega) rfl, by simpa using hc 1 _ (by omega) rfl, by simpa using hc 2 _ (by omega) rfl⟩
theorem places_at {l : List Place} {A : Option Addr} {n c : Nat} (h : Lst Place.cells 4 w B (.slice A n c) l) (k : Nat) (hk : k < l.length) :
    ∃ b off, A = some ⟨b, off, none⟩ ∧ b < B ∧ w.cell? ⟨b, off + k * 4, none⟩ = some (.int .i64 l[k].src) ∧ w.cell? ⟨b, off + k * 4 + 1, none⟩ = some (.int .i64 l[k].dst) ∧ w.cell? ⟨b, off + k * 4 + 2, none⟩ = some (.int .i64 l[k].delay) ∧ w.cell? ⟨b, off + k * 4 + 3, none⟩ = some (.int .i64 l[k].tokens) := by
  obtain ⟨b, off, c', hv, hb, hc⟩ := h.at_ Place.cells_len k hk
  injection hv with hA _ _
  exact ⟨b, off, hA, hb, by simpa using hc 0 _ (by omega) rfl, by simpa [Nat.add_assoc] using hc 1 _ (by omega) rfl, by simpa [Nat.add_assoc] using hc 2 _ (by omega) rfl, by simpa [Nat.add_assoc] using hc 3 _ (by omega) rfl⟩
theorem own_places_at {l : List Place} {g n c : Nat} (h : Own Place.cells 4 e w base (.slice (some ⟨g, 0, none⟩) n c) l) (k : Nat) (hk : k < l.length) :
    base ≤ g ∧ g < w.heap.size ∧ (∀ j, w.frozen? ⟨g, j, none⟩ = false) ∧ w.cell? ⟨g, k * 4, none⟩ = some (.int .i64 l[k].src) ∧ w.cell? ⟨g, k * 4 + 1, none⟩ = some (.int .i64 l[k].dst) ∧ w.cell? ⟨g, k * 4 + 2, none⟩ = some (.int .i64 l[k].delay) ∧ w.cell? ⟨g, k * 4 + 3, none⟩ = some (.int .i64 l[k].tokens) := by
  obtain ⟨g', c', hv, hb, hg, hfz, hc⟩ := h.at_ Place.cells_len k hk
  injection hv with hA _ _
  obtain rfl : g = g' := by injection hA with hA; injection hA
  exact ⟨hb, hg, hfz, by simpa using hc 0 _ (by omega) rfl, by simpa using hc 1 _ (by omega) rfl, by simpa using hc 2 _ (by omega) rfl, by simpa using hc 3 _ (by omega) rfl⟩

theorem strs_at {l : List ByteArray} {A : Option Addr} {n c : Nat} (h : Lst strCell 1 w B (.slice A n c) l) (k : Nat) (hk : k < l.length) :
    ∃ b off, A = some ⟨b, off, none⟩ ∧ b < B ∧ w.cell? ⟨b, off + k, none⟩ = some (.string l[k]) := by
  obtain ⟨b, off, c', hv, hb, hc⟩ := h.at_ strCell_len k hk
  injection hv with hA _ _
  exact ⟨b, off, hA, hb, by simpa using hc 0 _ (by omega) rfl⟩
theorem own_strs_at {l : List ByteArray} {g n c : Nat} (h : Own strCell 1 e w base (.slice (some ⟨g, 0, none⟩) n c) l) (k : Nat) (hk : k < l.length) :
    base ≤ g ∧ g < w.heap.size ∧ (∀ j, w.frozen? ⟨g, j, none⟩ = false) ∧ w.cell? ⟨g, k, none⟩ = some (.string l[k]) := by
  obtain ⟨g', c', hv, hb, hg, hfz, hc⟩ := h.at_ strCell_len k hk
  injection hv with hA _ _
  obtain rfl : g = g' := by injection hA with hA; injection hA
  exact ⟨hb, hg, hfz, by simpa using hc 0 _ (by omega) rfl⟩

theorem own_len {α : Type} {f : α → List Value} {size : Nat} {l : List α} {A : Option Addr} {n c : Nat} (h : Own f size e w base (.slice A n c) l) : n = l.length := by
  obtain ⟨_, _, hv⟩ := h.shape
  injection hv
theorem lst_len {α : Type} {f : α → List Value} {size : Nat} {l : List α} {A : Option Addr} {n c : Nat} (h : Lst f size w B (.slice A n c) l) : n = l.length := by
  obtain ⟨_, _, hv⟩ := h.shape
  injection hv
theorem lst_none {α : Type} {f : α → List Value} {size : Nat} {l : List α} {n c : Nat} (h : Lst f size w B (.slice none n c) l) : l = [] := by
  obtain rfl := lst_len h
  obtain ⟨_, _, A, c', hv, _, hr⟩ := h
  injection hv with hA _ _
  subst hA
  rcases Nat.eq_zero_or_pos l.length with h0 | h0
  · exact List.eq_nil_of_length_eq_zero h0
  · obtain ⟨_, _, hA, _⟩ := hr h0
    cases hA
theorem Own.put {α : Type} {f : α → List Value} {size : Nat} (hf : ∀ x, (f x).length = size) {l : List α} {g n c : Nat} (h : Own f size e w base (.slice (some ⟨g, 0, none⟩) n c) l) (k j : Nat) (hk : k < l.length) (hj : j < size)
    (x : α) (u : Value) (hx : f x = (f l[k]).set j u) (i : Nat) (hi : i = k * size + j) : Own f size e (w.setCell ⟨g, i, none⟩ u) base (.slice (some ⟨g, 0, none⟩) n c) (l.set k x) := by
  obtain rfl := own_len h
  exact h.set hf k j hk hj x u hx i hi
theorem Own.set1 {l : List Int} {g n c : Nat} (h : Own intCell 1 e w base (.slice (some ⟨g, 0, none⟩) n c) l) (k : Nat) (hk : k < l.length) (x : Int) : Own intCell 1 e (w.setCell ⟨g, k, none⟩ (.int .i64 x)) base (.slice (some ⟨g, 0, none⟩) n c) (l.set k x) :=
  h.put intCell_len k 0 hk (by omega) x _ rfl k (by omega)
theorem Own.setS {l : List ByteArray} {g n c : Nat} (h : Own strCell 1 e w base (.slice (some ⟨g, 0, none⟩) n c) l) (k : Nat) (hk : k < l.length) (x : ByteArray) : Own strCell 1 e (w.setCell ⟨g, k, none⟩ (.string x)) base (.slice (some ⟨g, 0, none⟩) n c) (l.set k x) :=
  h.put strCell_len k 0 hk (by omega) x _ rfl k (by omega)
theorem Own.setF {l : List Firing} {g n c : Nat} (h : Own Firing.cells 3 e w base (.slice (some ⟨g, 0, none⟩) n c) l) (k : Nat) (hk : k < l.length) (x : Firing) :
    Own Firing.cells 3 e (((w.setCell ⟨g, k * 3, none⟩ (.int .i64 x.event)).setCell ⟨g, k * 3 + 1, none⟩ (.int .i64 x.number)).setCell ⟨g, k * 3 + 2, none⟩ (.int .i64 x.time)) base (.slice (some ⟨g, 0, none⟩) n c) (l.set k x) := by
  have h1 := h.put Firing.cells_len k 0 hk (by omega) ⟨x.event, l[k].number, l[k].time⟩ (.int .i64 x.event) rfl (k * 3) (by omega)
  have h2 := h1.put Firing.cells_len k 1 (by simpa using hk) (by omega) ⟨x.event, x.number, l[k].time⟩ (.int .i64 x.number) (by simp [Firing.cells]) (k * 3 + 1) (by omega)
  have h3 := h2.put Firing.cells_len k 2 (by simpa using hk) (by omega) x (.int .i64 x.time) (by simp [Firing.cells]) (k * 3 + 2) (by omega)
  simpa using h3
theorem Own.setP01 {l : List Place} {g n c : Nat} (h : Own Place.cells 4 e w base (.slice (some ⟨g, 0, none⟩) n c) l) (k : Nat) (hk : k < l.length) (x y : Int) :
    Own Place.cells 4 e ((w.setCell ⟨g, k * 4, none⟩ (.int .i64 x)).setCell ⟨g, k * 4 + 1, none⟩ (.int .i64 y)) base (.slice (some ⟨g, 0, none⟩) n c) (l.set k ⟨x, y, l[k].delay, l[k].tokens⟩) := by
  have h1 := h.put Place.cells_len k 0 hk (by omega) ⟨x, l[k].dst, l[k].delay, l[k].tokens⟩ (.int .i64 x) rfl (k * 4) (by omega)
  have h2 := h1.put Place.cells_len k 1 (by simpa using hk) (by omega) ⟨x, y, l[k].delay, l[k].tokens⟩ (.int .i64 y) (by simp [Place.cells]) (k * 4 + 1) (by omega)
  simpa using h2
theorem Own.setP {l : List Place} {g n c : Nat} (h : Own Place.cells 4 e w base (.slice (some ⟨g, 0, none⟩) n c) l) (k : Nat) (hk : k < l.length) (x : Place) :
    Own Place.cells 4 e ((((w.setCell ⟨g, k * 4, none⟩ (.int .i64 x.src)).setCell ⟨g, k * 4 + 1, none⟩ (.int .i64 x.dst)).setCell ⟨g, k * 4 + 2, none⟩ (.int .i64 x.delay)).setCell ⟨g, k * 4 + 3, none⟩ (.int .i64 x.tokens)) base (.slice (some ⟨g, 0, none⟩) n c) (l.set k x) := by
  have h1 := h.put Place.cells_len k 0 hk (by omega) ⟨x.src, l[k].dst, l[k].delay, l[k].tokens⟩ (.int .i64 x.src) rfl (k * 4) (by omega)
  have h2 := h1.put Place.cells_len k 1 (by simpa using hk) (by omega) ⟨x.src, x.dst, l[k].delay, l[k].tokens⟩ (.int .i64 x.dst) (by simp [Place.cells]) (k * 4 + 1) (by omega)
  have h3 := h2.put Place.cells_len k 2 (by simpa using hk) (by omega) ⟨x.src, x.dst, x.delay, l[k].tokens⟩ (.int .i64 x.delay) (by simp [Place.cells]) (k * 4 + 2) (by omega)
  have h4 := h3.put Place.cells_len k 3 (by simpa using hk) (by omega) x (.int .i64 x.tokens) (by simp [Place.cells]) (k * 4 + 3) (by omega)
  simpa using h4
end

/-! ### make -/
theorem madeCells_flat {α : Type} (f : α → List Value) (size : Nat) (hf : ∀ x, (f x).length = size) (z : α) (hs : 0 < size) (n : Nat) :
    (madeCells (f z).toArray (n * size)).toList = (List.replicate n z).flatMap f := by
  refine List.ext_getElem? fun i => ?_
  have hl : ((List.replicate n z).flatMap f).length = n * size := by rw [flat_len f size hf]; simp
  by_cases hi : i < n * size
  · have hq : i / size < n := (Nat.div_lt_iff_lt_mul hs).2 hi
    have hr : i % size < size := Nat.mod_lt _ hs
    have he : i / size * size + i % size = i := by rw [Nat.mul_comm]; exact Nat.div_add_mod i size
    have h1 := flat_get f size hf (List.replicate n z) (i / size) (i % size) (by simpa using hq) hr
    rw [he] at h1
    rw [h1]
    have hsz : (f z).toArray.size = size := by simpa using hf z
    simp only [madeCells, Array.toList_map, Array.toList_range, List.getElem?_map, List.getElem?_range hi, Option.map_some, List.getElem_replicate, hsz]
    rw [getElem!_pos _ _ (by simpa [hf] using hr)]
    rw [List.getElem?_eq_getElem (by rw [hf]; exact hr)]
    simp
  · rw [List.getElem?_eq_none (by simp [madeCells]; omega), List.getElem?_eq_none (by omega)]

theorem run_make_lst {P : Program} {α : Type} (f : α → List Value) (size : Nat) (hf : ∀ x, (f x).length = size) (hs : 0 < size) (z : α) (t e : TypeId) (zv : Value) (bytes : Nat) (ht : P.underlying t = some (.slice e))
    (hinfo : (P.info? e).map (fun i => (i.zero, i.size, i.bytes)) = some (some zv, size, bytes)) (hz : zv.cells = (f z).toArray)
    (kl kc : IntKind) (n : Nat) (hbytes : bytes * n ≤ 281474976710656) (h63 : n ≤ 9223372036854775807) (w : World) :
    (Instr.makeSlice t (.int kl (n : Int)) (.int kc (n : Int))).run P w = .ok (.slice (some ⟨w.heap.size, 0, none⟩) n n) (w.alloc (.cells (madeCells (f z).toArray (n * size)) e)) ∧
      ∀ base, base ≤ w.heap.size → Own f size e (w.alloc (.cells (madeCells (f z).toArray (n * size)) e)) base (.slice (some ⟨w.heap.size, 0, none⟩) n n) (List.replicate n z) := by
  obtain ⟨i, hi, hz0, hz1, hz2⟩ := info_parts hinfo
  constructor
  · have hb : (i.bytes : Int) * (n : Int) ≤ 281474976710656 := by
      rw [hz2]
      have h : ((bytes * n : Nat) : Int) ≤ 281474976710656 := by omega
      rwa [Int.natCast_mul] at h
    have hr := run_make (P := P) w t e i zv ht hi hz0 kl kc n n (by omega) (by omega) hb (by omega)
    simp only [Int.toNat_natCast] at hr
    rw [hr, hz, hz1]
  · intro base hbase
    refine ⟨by rw [flat_len f size hf], .inr ⟨w.heap.size, n, madeCells (f z).toArray (n * size), by simp, hbase, heap_alloc_new w _, by simp, by unfold maxLen; omega, size_madeCells _ _, ?_⟩⟩
    rw [madeCells_flat f size hf z hs, List.take_of_length_le (by rw [flat_len f size hf]; simp)]

/-! ### append -/
theorem add_plain (b o j : Nat) : (⟨b, o, none⟩ : Addr).add j = ⟨b, o + j, none⟩ := by
  unfold Addr.add
  split <;> simp_all
section
variable {P : Program} {α : Type}
theorem run_append_none (w : World) (base : Nat) (t ty e : TypeId) (i : TypeInfo) (size : Nat) (ht : P.underlying t = some (.slice e)) (hi : P.info? e = some i)
    (v : Value) (n : Nat) (xs : List Value) (hown : w.ownsRow base e size v n xs) (A : Option Addr) (c : Nat) (hA : A = none ∨ ∃ b off, A = some ⟨b, off, none⟩) : (Builtin.append_ #[t, t] ty #[v, .slice A 0 c]).run P w = .ok v w ∨ A ≠ none := by
  rcases hA with rfl | ⟨b, off, rfl⟩
  · refine .inl ?_
    rcases hown.2 with ⟨rfl, rfl⟩ | ⟨g, cap, cur, rfl, _, _, hnc, _⟩
    · simp [Builtin.append_, run_underlying ht, sizeOf, typeInfo, hi, Builtin.lenOf, Builtin.firstCells]
    · simp [Builtin.append_, run_underlying ht, sizeOf, typeInfo, hi, Builtin.lenOf, Builtin.firstCells, hnc, storeCells]
  · exact .inr (by simp)

theorem run_append_lst (f : α → List Value) (size : Nat) (hone : ∀ x, ∀ u ∈ f x, u.oneCell' = true) (hs : 0 < size) (w : World) (base : Nat) (t ty e : TypeId) (zv : Value) (bytes : Nat) (ht : P.underlying t = some (.slice e))
    (hinfo : (P.info? e).map (fun i => (i.zero, i.size, i.bytes)) = some (some zv, size, bytes)) (hzs : zv.cells.size = size)
    (v : Value) (l : List α) (hown : Own f size e w base v l) (B : Nat) (A : Option Addr) (m c : Nat) (news : List α) (hr : Lst f size w B (.slice A m c) news)
    (h63 : l.length + news.length ≤ 1099511627776) (hbytes : bytes ≤ 64) (hbase : base ≤ w.heap.size) :
    ∃ v' w', (Builtin.append_ #[t, t] ty #[v, .slice A m c]).run P w = .ok v' w' ∧ Own f size e w' base v' (l ++ news) ∧ w.grownBy w' v.ownBlock ∧ (v'.ownBlock = v.ownBlock ∨ v'.ownBlock = some w.heap.size) := by
  obtain ⟨i, hi, hz0, hz1, hz2⟩ := info_parts hinfo
  obtain rfl := lst_len hr
  obtain ⟨h1, h2, A', c', hv, hc, hcell⟩ := hr
  injection hv with hA _ hc'
  subst hA
  subst hc'
  have hle : (l.length + news.length) * bytes ≤ 140737488355328 := Nat.le_trans (Nat.mul_le_mul_left _ hbytes) (by omega)
  rcases A with _ | a
  · have h0 : news.length = 0 := by
      rcases Nat.eq_zero_or_pos news.length with h0 | h0
      · exact h0
      · obtain ⟨b, off, hA, _⟩ := hcell h0
        cases hA
    have hn : news = [] := List.eq_nil_of_length_eq_zero h0
    subst hn
    rcases run_append_none (P := P) w base t ty e i size ht hi v l.length _ hown none c (.inl rfl) with h | h
    · exact ⟨v, w, h, by simpa using hown, World.grownBy.refl w _, .inl rfl⟩
    · exact absurd rfl h
  · have hcells : ∀ j u, (news.flatMap f)[j]? = some u → w.cell? (a.add j) = some u := by
      intro j u hu
      rcases Nat.eq_zero_or_pos news.length with h0 | h0
      · have hn : news = [] := List.eq_nil_of_length_eq_zero h0
        subst hn
        simp at hu
      · obtain ⟨b, off, hA, hb, hcs⟩ := hcell h0
        injection hA with hA
        subst hA
        rw [add_plain]
        exact hcs j u hu
    obtain ⟨v', w', hrun, k1, k2, _, k3⟩ := run_append_own_at (P := P) w base t ty e i zv size bytes ht hi hz0 hz1 hz2 hzs hs v l.length _ hown a news.length c (news.flatMap f) h1
      hcells (fun u hu => by obtain ⟨x, _, hx⟩ := List.mem_flatMap.1 hu; exact hone x u hx) (by unfold maxLen; omega) hle hbase
    refine ⟨v', w', hrun, ?_, k2, k3⟩
    unfold Own
    rw [List.length_append, List.flatMap_append]
    exact k1

theorem wp_append_lst {o : Oper} {a : Act} {K : Act → World → Prop} {Q : Exit → Act → World → Prop} {w : World} (s x : Operand) (t : TypeId)
    (ho : o.op = .call { callee := .builtin .append, args := #[s, x], argTypes := #[t, t] })
    (f : α → List Value) (size : Nat) (hone : ∀ x, ∀ u ∈ f x, u.oneCell' = true) (hs : 0 < size) (base : Nat) (e : TypeId) (zv : Value) (bytes : Nat) (ht : P.underlying t = some (.slice e))
    (hinfo : (P.info? e).map (fun i => (i.zero, i.size, i.bytes)) = some (some zv, size, bytes)) (hzs : zv.cells.size = size)
    (v : Value) (l : List α) (hsv : a.eval s = v) (hown : Own f size e w base v l) (B : Nat) (A : Option Addr) (m c : Nat) (news : List α) (hx : a.eval x = .slice A m c) (hr : Lst f size w B (.slice A m c) news)
    (h63 : l.length + news.length ≤ 1099511627776) (hbytes : bytes ≤ 64) (hbase : base ≤ w.heap.size)
    (h : ∀ v' w', Own f size e w' base v' (l ++ news) → w.grownBy w' v.ownBlock → (v'.ownBlock = v.ownBlock ∨ v'.ownBlock = some w.heap.size) → K (a.put o.dst v') w') : o.wp P a w K Q := by
  obtain ⟨v', w', hrun, h2, h3, h4⟩ := run_append_lst (P := P) f size hone hs w base t o.type e zv bytes ht hinfo hzs v l hown B A m c news hr h63 hbytes hbase
  unfold Oper.wp execOp
  simp only [ho, resolve, invoke, builtin, Sem.run_bind, Sem.run_pure, Result.andThen_ok, List.map_toArray, List.map_cons, List.map_nil, hsv, hx, hrun]
  exact h v' w' h2 h3 h4

theorem wpList_append_lst {ops : Array Oper} {rest : List Oper} {o : Oper} {a : Act} {Q : Exit → Act → World → Prop} {w : World} (hgd : o.guard = none) (s x : Operand) (t : TypeId)
    (ho : o.op = .call { callee := .builtin .append, args := #[s, x], argTypes := #[t, t] })
    (f : α → List Value) (size : Nat) (hone : ∀ x, ∀ u ∈ f x, u.oneCell' = true) (hs : 0 < size) (base : Nat) (e : TypeId) (zv : Value) (bytes : Nat) (ht : P.underlying t = some (.slice e))
    (hinfo : (P.info? e).map (fun i => (i.zero, i.size, i.bytes)) = some (some zv, size, bytes)) (hzs : zv.cells.size = size)
    (v : Value) (l : List α) (hsv : a.eval s = v) (hown : Own f size e w base v l) (B : Nat) (A : Option Addr) (m c : Nat) (news : List α) (hx : a.eval x = .slice A m c) (hr : Lst f size w B (.slice A m c) news)
    (h63 : l.length + news.length ≤ 1099511627776) (hbytes : bytes ≤ 64) (hbase : base ≤ w.heap.size)
    (h : ∀ v' w', Own f size e w' base v' (l ++ news) → w.grownBy w' v.ownBlock → (v'.ownBlock = v.ownBlock ∨ v'.ownBlock = some w.heap.size) → wpList P ops Q rest (a.put o.dst v') w') : wpList P ops Q (o :: rest) a w :=
  wpList_plain hgd fun _ hK => wp_append_lst s x t ho f size hone hs base e zv bytes ht hinfo hzs v l hsv hown B A m c news hx hr h63 hbytes hbase fun v' w' h2 h3 h4 => hK _ _ (h v' w' h2 h3 h4)

/-- At a step of a region that draws its order. -/
theorem step_append_lst {ops : Array Oper} {o : Oper} {a : Act} {K : Act → World → Prop} {Q : Exit → Act → World → Prop} {w : World} {E : Prop} (hgd : o.guard = none) (s x : Operand) (t : TypeId)
    (ho : o.op = .call { callee := .builtin .append, args := #[s, x], argTypes := #[t, t] })
    (f : α → List Value) (size : Nat) (hone : ∀ x, ∀ u ∈ f x, u.oneCell' = true) (hs : 0 < size) (base : Nat) (e : TypeId) (zv : Value) (bytes : Nat) (ht : P.underlying t = some (.slice e))
    (hinfo : (P.info? e).map (fun i => (i.zero, i.size, i.bytes)) = some (some zv, size, bytes)) (hzs : zv.cells.size = size)
    (v : Value) (l : List α) (hsv : a.eval s = v) (hown : Own f size e w base v l) (B : Nat) (A : Option Addr) (m c : Nat) (news : List α) (hx : a.eval x = .slice A m c) (hr : Lst f size w B (.slice A m c) news)
    (h63 : l.length + news.length ≤ 1099511627776) (hbytes : bytes ≤ 64) (hbase : base ≤ w.heap.size)
    (h : ∀ v' w', Own f size e w' base v' (l ++ news) → w.grownBy w' v.ownBlock → (v'.ownBlock = v.ownBlock ∨ v'.ownBlock = some w.heap.size) → K (a.put o.dst v') w') :
    if Region.wanted o (yielded ops a.tmps) = true then Oper.wp P o a w K Q else E := by
  have hw : Region.wanted o (yielded ops a.tmps) = true := by simp [Region.wanted, hgd]
  rw [if_pos hw]
  exact wp_append_lst s x t ho f size hone hs base e zv bytes ht hinfo hzs v l hsv hown B A m c news hx hr h63 hbytes hbase h
end
/-- A new block of one element, as a slice. -/
theorem lst_new1 {α : Type} (f : α → List Value) (size : Nat) (hf : ∀ x, (f x).length = size) (w : World) (e : TypeId) (x : α) (cs : Array Value) (hcs : cs = (f x).toArray) (g : Nat) (hg : w.heap.size = g) :
    Lst f size (w.alloc (.cells cs e)) (g + 1) (.slice (some ⟨g, 0, none⟩) 1 1) [x] := by
  subst hcs
  subst hg
  refine ⟨by simp [hf], by simp [maxLen], some ⟨w.heap.size, 0, none⟩, 1, rfl, by simp, fun _ => ⟨w.heap.size, 0, rfl, by omega, fun j u hu => ?_⟩⟩
  rw [cell_of_row _ _ _ _ _ _ (heap_alloc_new w _)]
  simpa using hu
theorem own_kept {α : Type} {f : α → List Value} {size : Nat} {e : TypeId} {w w' : World} {base : Nat} {v u : Value} {l : List α} (h : Own f size e w base v l) (hG : w.grownBy w' u.ownBlock) (hne : ∀ k, v.ownBlock = some k → u.ownBlock = some k → False) : Own f size e w' base v l :=
  World.ownsRow.kept h hG (by
    cases hv : v.ownBlock with
    | none => exact .inl rfl
    | some k => exact .inr fun e => hne k hv e.symm)
theorem below_app {α : Type} {f : α → List Value} {size : Nat} {e : TypeId} {w wr w1 : World} {B base : Nat} {v : Value} {l : List α} (hB : Below B w wr) (hs : B ≤ wr.heap.size) (hG : wr.grownBy w1 v.ownBlock)
    (hO : Own f size e wr base v l) (hb : B ≤ base) : Below B w w1 := hB.grown hG hs fun g hg => Nat.le_trans hb (hO.lt g hg).1
/-- A literal of no elements. -/
theorem own_new0 {α : Type} (f : α → List Value) (size : Nat) (w : World) (e : TypeId) (base : Nat) (hb : base ≤ w.heap.size) : Own f size e (w.alloc (.cells #[] e)) base (.slice (some ⟨w.heap.size, 0, none⟩) 0 0) ([] : List α) :=
  ⟨by simp, .inr ⟨w.heap.size, 0, #[], rfl, hb, heap_alloc_new w _, Nat.le_refl _, by simp [maxLen], by simp, by simp⟩⟩
theorem intCell_one : ∀ x, ∀ u ∈ intCell x, u.oneCell' = true := by intro x u hu; simp [intCell] at hu; subst hu; rfl
theorem strCell_one : ∀ x, ∀ u ∈ strCell x, u.oneCell' = true := by intro x u hu; simp [strCell] at hu; subst hu; rfl
theorem Firing.cells_one : ∀ x, ∀ u ∈ Firing.cells x, u.oneCell' = true := by intro x u hu; simp [Firing.cells] at hu; rcases hu with rfl | rfl | rfl <;> rfl
theorem Place.cells_one : ∀ x, ∀ u ∈ Place.cells x, u.oneCell' = true := by intro x u hu; simp [Place.cells] at hu; rcases hu with rfl | rfl | rfl | rfl <;> rfl
theorem Ratio.cells_one : ∀ x, ∀ u ∈ Ratio.cells x, u.oneCell' = true := by intro x u hu; simp [Ratio.cells] at hu; rcases hu with rfl | rfl <;> rfl

/-- The call returned a row of its own that holds l; nothing that was there has turned. -/
def RetOwn {α : Type} (f : α → List Value) (size : Nat) (e : TypeId) (w : World) (l : List α) (r : Ending) (w' : World) : Prop :=
  ∃ v, r = .returned v ∧ Own f size e w' w.heap.size v l ∧ Below w.heap.size w w'
/-- The same beside a second result, a code. -/
def RetOwnI {α : Type} (f : α → List Value) (size : Nat) (e : TypeId) (w : World) (l : List α) (code : Int) (r : Ending) (w' : World) : Prop :=
  ∃ v, r = .returned (.tuple #[v, .int .i64 code]) ∧ Own f size e w' w.heap.size v l ∧ Below w.heap.size w w'
/-- The same beside a second result, a bool. -/
def RetOwnB {α : Type} (f : α → List Value) (size : Nat) (e : TypeId) (w : World) (l : List α) (b : Bool) (r : Ending) (w' : World) : Prop :=
  ∃ v, r = .returned (.tuple #[v, .bool b]) ∧ Own f size e w' w.heap.size v l ∧ Below w.heap.size w w'
/-- The call returned a graph whose places lie in a row of its own. -/
def RetG (t : TypeId) (w : World) (ge : Int) (gp : List Place) (r : Ending) (w' : World) : Prop :=
  ∃ v, r = .returned (.agg #[.int .i64 ge, v]) ∧ Own Place.cells 4 t w' w.heap.size v gp ∧ Below w.heap.size w w'
def RetGI (t : TypeId) (w : World) (ge : Int) (gp : List Place) (code : Int) (r : Ending) (w' : World) : Prop :=
  ∃ v, r = .returned (.tuple #[.agg #[.int .i64 ge, v], .int .i64 code]) ∧ Own Place.cells 4 t w' w.heap.size v gp ∧ Below w.heap.size w w'
theorem RetOwnI.of {α : Type} {f : α → List Value} {size : Nat} {e : TypeId} {w w' : World} {F : List α × Int} {l : List α} {c : Int} {r : Ending} (hE : F = (l, c)) (h : RetOwnI f size e w l c r w') : RetOwnI f size e w F.1 F.2 r w' := by
  subst hE
  exact h
theorem RetGI.of {t : TypeId} {w w' : World} {F : Int × List Place × Int} {ge : Int} {l : List Place} {c : Int} {r : Ending} (hE : F = (ge, l, c)) (h : RetGI t w ge l c r w') : RetGI t w F.1 F.2.1 F.2.2 r w' := by
  subst hE
  exact h
theorem Lst.alloc {α : Type} {f : α → List Value} {size : Nat} {w : World} {v : Value} {l : List α} (h : Lst f size w w.heap.size v l) (o : Obj) : Lst f size (w.alloc o) (w.alloc o).heap.size v l :=
  h.now ((Below.refl _ _).alloc (Nat.le_refl _) o)
theorem Own.ne_blk {α : Type} {f : α → List Value} {size : Nat} {e t : TypeId} {w : World} {base g : Nat} {v : Value} {l : List α} {cs : Array Value} (h : Own f size e w base v l) (hb : Blk w g t cs) (hne : e ≠ t) : v.ownBlock ≠ some g := by
  intro hk
  rcases h.2 with ⟨rfl, _⟩ | ⟨g', cap, cur, rfl, _, hg, _⟩
  · cases hk
  · obtain rfl : g' = g := by injection hk
    unfold Blk at hb
    rw [hb] at hg
    injection hg with hg
    injection hg with _ h2 _
    exact hne h2.symm
theorem own_shape_n {α : Type} {f : α → List Value} {size : Nat} {e : TypeId} {w : World} {base n : Nat} {v : Value} {l : List α} (h : Own f size e w base v l) (hn : l.length = n) : ∃ A cap, v = .slice A n cap := by
  subst hn
  exact h.shape
end Go.Proofs.Ytcoomogabicfnaa
