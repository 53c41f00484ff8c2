/-
  Texts of runs, the program's side.
-/
import Derived.Test.YtcoomogabicfnaaGreatDoorTxt
import Derived.Test.YtcoomogabicfnaaGreatDoorName
import Derived.Shelf.Strings.OnBuilder
namespace Go.Proofs.YtcoomogabicfnaaGreatDoor
open Go.RowKit
set_option linter.unusedVariables false
set_option linter.unusedSimpArgs false
/-- The elements of a list of texts, joined. -/
def joinB (l : List ByteArray) (sep : ByteArray) : ByteArray := ⟨(Lib.join (l.map (·.data.toList)) sep.data.toList).toArray⟩
/-- The text of a firing. -/
def partT (f : Firing) : ByteArray := (decB f.event ++ ⟨#[64]⟩) ++ decB f.time
def okT (f : Firing) : Bool := inB f.event 0 1000000 && inB f.time 0 1000000
def runTextF (l : List Firing) : ByteArray := if l.length ≤ 500 ∧ l.all okT = true then joinB (l.map partT) ⟨#[32]⟩ else ⟨#[]⟩
theorem decB_sizeI {n : Int} (h0 : 0 ≤ n) (h1 : n ≤ 1000000) : (decB n).size ≤ 1000001 := by
  obtain ⟨m, rfl⟩ := Int.eq_ofNat_of_zero_le h0
  have := decB_size m
  omega
theorem okT_in {f : Firing} (h : okT f = true) : (0 ≤ f.event ∧ f.event ≤ 1000000) ∧ 0 ≤ f.time ∧ f.time ≤ 1000000 := by
  simpa [okT, inB] using h
theorem partT_size {f : Firing} (h : okT f = true) : (partT f).size ≤ 2000003 := by
  obtain ⟨⟨h1, h2⟩, h3, h4⟩ := okT_in h
  have := decB_sizeI h1 h2
  have := decB_sizeI h3 h4
  have e : (partT f).size = (decB f.event).size + 1 + (decB f.time).size := by simp [partT, ByteArray.size_append]; rfl
  omega
theorem bsz (b : ByteArray) : b.size = b.data.toList.length := by rw [Array.length_toList]; rfl
theorem joinTail_len (sep : List UInt8) (N : Nat) (hs : sep.length = 1) : ∀ (r : List (List UInt8)), (∀ x ∈ r, x.length ≤ N) → (Lib.joinTail sep r).length ≤ r.length * (N + 1)
  | [], _ => by simp [Lib.joinTail]
  | x :: r, h => by
    have ih := joinTail_len sep N hs r (fun y hy => h y (by simp [hy]))
    have hx := h x (by simp)
    simp only [Lib.joinTail, List.map_cons, List.flatten_cons, List.length_append, hs, List.length_cons] at ih ⊢
    rw [Nat.add_mul]
    omega
theorem join_size {l : List ByteArray} {sep : ByteArray} {N : Nat} (hs : sep.size = 1) (h : ∀ x ∈ l, x.size ≤ N) : (joinB l sep).size ≤ l.length * (N + 1) := by
  cases l with
  | nil => exact Nat.zero_le _
  | cons a l =>
    have h1 : ∀ x ∈ l.map (·.data.toList), x.length ≤ N := by
      intro x hx
      obtain ⟨y, hy, rfl⟩ := List.mem_map.1 hx
      have := h y (by simp [hy])
      rwa [bsz] at this
    have h2 := joinTail_len sep.data.toList N (by rw [← bsz]; exact hs) (l.map (·.data.toList)) h1
    have h3 : a.data.toList.length ≤ N := by have := h a (by simp); rwa [bsz] at this
    have e : (joinB (a :: l) sep).size = (a.data.toList ++ Lib.joinTail sep.data.toList (l.map (·.data.toList))).length := by
      rw [bsz]
      simp only [joinB, List.map_cons, Lib.join_cons]
    rw [e, List.length_append, List.length_cons]
    rw [List.length_map] at h2
    rw [Nat.add_mul]
    omega
end Go.Proofs.YtcoomogabicfnaaGreatDoor
