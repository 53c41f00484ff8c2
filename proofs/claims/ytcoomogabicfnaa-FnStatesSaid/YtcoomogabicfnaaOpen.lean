/-
  What an argument that is read as data is in memory: a slice of integers, of structs of integers, of strings; a struct with such a slice.
-/
import Derived.Test.YtcoomogabicfnaaRun
import Derived.ProofKit
import Derived.Lib.SmallJoins
import Derived.Deep.Slices
import Derived.Deep.Fields
import Derived.OpenShut
import Derived.SliceStrings
namespace Go.Proofs.Ytcoomogabicfnaa
open Go.RowKit Go.ChangeShapes Go.WideShapes Go.Deep
set_option linter.unusedVariables false
set_option linter.unusedSimpArgs false

section
variable {H : Type} {enc : TypeId × Value → H} {P : Program} {w : World} {base : Nat} {spare : Nat → Bool} {held : Bool}

/-- Rows of m integers each, as a slice of structs of m integers holds them. -/
def Rows' (w : World) (m : Nat) (v : Value) (len : Nat) (z : Nat → Nat → Int) : Prop :=
  len ≤ maxLen ∧ (∃ A c, v = .slice A len c ∧ len ≤ c ∧ (0 < len → ∃ b off, A = some ⟨b, off, none⟩ ∧ b < w.heap.size ∧ ∀ i j, i < len → j < m → w.cell? ⟨b, off + (i * m + j), none⟩ = some (.int .i64 (z i j)))) ∧ ∀ i j, i < len → j < m → i64ok (z i j)

theorem wf_i64ok {n : Int} (h : (Lit.int .i64 n).wf = true) : i64ok n := by
  have := bounds_i64 h
  exact this

theorem open_structs {t e : TypeId} {fs : Array Field} {fuel : Nat} {v : Value} {x : DataW H × List MemPlace} (ht : P.underlying t = some (.slice e)) (he : P.underlying e = some (.struct fs))
    (hone : oneCellFields P fs = true) (hC : P.cellsOf e = fs.size) (hpos : 0 < fs.size) (hall : ∀ (j : Nat) (f : Field), fs[j]? = some f → P.underlying f.type = some (.int .i64)) (h : DataW.trod enc P w base spare held fuel t [v] = some x) :
    ∃ len z, Rows' w fs.size v len z := by
  rcases open_slice ht h with ⟨hcs, _⟩ | ⟨a, len, cap, m, n, D, Pl, hcs, hb, hl, hm, hmm, hx, hi⟩
  · simp at hcs
    subst hcs
    exact ⟨0, fun _ _ => 0, by simp [maxLen], ⟨none, 0, rfl, Nat.le_refl _, fun h => absurd h (by omega)⟩, fun i j hi => absurd hi (by omega)⟩
  · simp at hcs
    subst hcs
    have hmlen : len ≤ m := by rw [hmm]; split <;> omega
    have key : ∀ i j, i < len → j < fs.size → ∃ q : Int, w.cell? (a.add (i * fs.size + j)) = some (.int .i64 q) ∧ i64ok q := by
      intro i j hil hj
      obtain ⟨cs', hc, ht'⟩ := hi i (by omega)
      rw [hC] at hc
      obtain ⟨ys, n', hn', hy, hlen, hyl, hf⟩ := DataW.trod_struct he ht'
      obtain ⟨_, hcl, hat⟩ := World.cells?_some hc
      have hfj : fs[j]? = some fs[j] := Array.getElem?_eq_getElem hj
      obtain ⟨ho, hk⟩ := hone_of hone j _ hfj
      have hcell := hat j hj
      have hv : cs'[j]? = some (cs'[j]'(by omega)) := List.getElem?_eq_getElem (by omega)
      have h1 := hf j _ hfj
      rw [ho, hk] at h1
      have hone' : (cs'.drop j).take 1 = [cs'[j]'(by omega)] := by
        rw [List.drop_eq_getElem_cons (by omega)]
        rfl
      rw [hone'] at h1
      have hys : ys[j]? = some (ys[j]'(by omega)) := List.getElem?_eq_getElem (by omega)
      obtain ⟨q, e0, _, wq⟩ := DataW.trod_int (hall j _ hfj) (h1.trans hys)
      refine ⟨q, ?_, wf_i64ok wq⟩
      simp at e0
      rw [← Go.Deep.add_add, hcell, hv, e0]
    obtain ⟨z, hz⟩ : ∃ z : Nat → Nat → Int, ∀ i j, i < len → j < fs.size → w.cell? (a.add (i * fs.size + j)) = some (.int .i64 (z i j)) ∧ i64ok (z i j) := by
      refine ⟨fun i j => if hij : i < len ∧ j < fs.size then (key i j hij.1 hij.2).choose else 0, fun i j hi hj => ?_⟩
      simp only [hi, hj, and_self, dite_true]
      exact (key i j hi hj).choose_spec
    clear key
    refine ⟨len, z, by omega, ⟨some a, cap, rfl, hl, fun hpl => ?_⟩, fun i j hi hj => (hz i j hi hj).2⟩
    have hq := (hz 0 0 hpl hpos).1
    obtain ⟨b, off, spot⟩ := a
    have hspot : spot = none := by simpa [Addr.add] using World.cell?_spot hq
    subst hspot
    refine ⟨b, off, rfl, ?_, fun i j hi hj => ?_⟩
    · have := World.block_lt_of_cell? w _ hq
      rw [add_plain] at this
      exact this
    · have hc := (hz i j hi hj).1
      rw [add_plain] at hc
      exact hc

/-- Rows as a list of records. -/
theorem rows_lst {α : Type} {m : Nat} {v : Value} {len : Nat} {z : Nat → Nat → Int} (f : α → List Value) (hf : ∀ x, (f x).length = m) (mk : Nat → α) (hmk : ∀ i j, j < m → (f (mk i))[j]? = some (.int .i64 (z i j))) (h : Rows' w m v len z) :
    Lst f m w w.heap.size v ((List.range len).map mk) := by
  obtain ⟨h1, ⟨A, c, hv, hc, hr⟩, _⟩ := h
  have hlen : ((List.range len).map mk).length = len := by simp
  refine ⟨flat_len f m hf _, by omega, A, c, by rw [hlen]; exact hv, by omega, fun hp => ?_⟩
  obtain ⟨b, off, hA, hb, hcell⟩ := hr (by omega)
  refine ⟨b, off, hA, hb, fun q u hu => ?_⟩
  have hq : q < len * m := by
    have := (List.getElem?_eq_some_iff.1 hu).1
    rw [flat_len f m hf, hlen] at this
    exact this
  have hm : 0 < m := by
    rcases Nat.eq_zero_or_pos m with h0 | h0
    · subst h0; omega
    · exact h0
  have e : q / m * m + q % m = q := by rw [Nat.mul_comm]; exact Nat.div_add_mod q m
  have h2 : q / m < len := (Nat.div_lt_iff_lt_mul hm).2 hq
  have h3 : q % m < m := Nat.mod_lt _ hm
  have g := flat_get f m hf ((List.range len).map mk) (q / m) (q % m) (by rw [hlen]; exact h2) h3
  rw [e] at g
  rw [g] at hu
  simp only [List.getElem_map, List.getElem_range] at hu
  rw [hmk _ _ h3] at hu
  have := hcell (q / m) (q % m) h2 h3
  rw [e] at this
  rw [this]
  exact hu

theorem open_i64s {t e : TypeId} {fuel : Nat} {v : Value} {x : DataW H × List MemPlace} (ht : P.underlying t = some (.slice e)) (he : P.underlying e = some (.int .i64)) (hC : P.cellsOf e = 1)
    (h : DataW.trod enc P w base spare held fuel t [v] = some x) : ∃ l : List Int, Lst intCell 1 w w.heap.size v l ∧ ∀ n ∈ l, i64ok n := by
  rcases open_ints ht he hC h with ⟨hcs, _⟩ | ⟨a, len, cap, zs, hcs, _, hl, hm, hz, _, hcell, hwz⟩
  · simp at hcs
    subst hcs
    exact ⟨[], Lst.nil, by simp⟩
  · simp at hcs
    subst hcs
    have hzl : len ≤ zs.length := by
      have hz' := hz
      split at hz' <;> omega
    have hlt : (zs.take len).length = len := by simp; omega
    refine ⟨zs.take len, ⟨flat_len intCell 1 intCell_len _, by omega, some a, cap, by rw [hlt], by omega, fun hp => ?_⟩, fun n hn => wf_i64ok (hwz n (List.mem_of_mem_take hn))⟩
    have hq := hcell 0 (by omega)
    obtain ⟨b, off, spot⟩ := a
    have hspot : spot = none := by simpa [Addr.add] using World.cell?_spot hq
    subst hspot
    refine ⟨b, off, rfl, ?_, fun j u hu => ?_⟩
    · have := World.block_lt_of_cell? w _ hq
      rw [add_plain] at this
      exact this
    · have hj : j < len := by
        have := (List.getElem?_eq_some_iff.1 hu).1
        rw [flat_len intCell 1 intCell_len, hlt] at this
        omega
      have g := flat_get intCell 1 intCell_len (zs.take len) j 0 (by omega) (by omega)
      simp only [Nat.mul_one, Nat.add_zero] at g
      rw [g] at hu
      have hc := hcell j (by omega)
      rw [add_plain] at hc
      rw [hc]
      simp [intCell] at hu
      rw [← hu]
      simp [List.getD, List.getElem?_eq_getElem (show j < zs.length by omega)]
theorem open_strs {t e : TypeId} {fuel : Nat} {v : Value} {x : DataW H × List MemPlace} (ht : P.underlying t = some (.slice e)) (he : P.underlying e = some .string) (hC : P.cellsOf e = 1)
    (h : DataW.trod enc P w base spare held fuel t [v] = some x) : ∃ l : List ByteArray, Lst strCell 1 w w.heap.size v l ∧ ∀ s ∈ l, s.size ≤ maxLen := by
  rcases open_strings ht he hC h with ⟨hcs, _⟩ | ⟨a, len, cap, zs, hcs, _, hl, hm, hz, _, hcell, hwz⟩
  · simp at hcs
    subst hcs
    exact ⟨[], Lst.nil, by simp⟩
  · simp at hcs
    subst hcs
    have hzl : len ≤ zs.length := by
      have hz' := hz
      split at hz' <;> omega
    have hlt : (zs.take len).length = len := by simp; omega
    refine ⟨zs.take len, ⟨flat_len strCell 1 strCell_len _, by omega, some a, cap, by rw [hlt], by omega, fun hp => ?_⟩, fun n hn => hwz n (List.mem_of_mem_take hn)⟩
    have hq := hcell 0 (by omega)
    obtain ⟨b, off, spot⟩ := a
    have hspot : spot = none := by simpa [Addr.add] using World.cell?_spot hq
    subst hspot
    refine ⟨b, off, rfl, ?_, fun j u hu => ?_⟩
    · have := World.block_lt_of_cell? w _ hq
      rw [add_plain] at this
      exact this
    · have hj : j < len := by
        have := (List.getElem?_eq_some_iff.1 hu).1
        rw [flat_len strCell 1 strCell_len, hlt] at this
        omega
      have g := flat_get strCell 1 strCell_len (zs.take len) j 0 (by omega) (by omega)
      simp only [Nat.mul_one, Nat.add_zero] at g
      rw [g] at hu
      have hc := hcell j (by omega)
      rw [add_plain] at hc
      rw [hc]
      simp [strCell] at hu
      rw [← hu]
      simp [List.getD, List.getElem?_eq_getElem (show j < zs.length by omega)]
end
end Go.Proofs.Ytcoomogabicfnaa
