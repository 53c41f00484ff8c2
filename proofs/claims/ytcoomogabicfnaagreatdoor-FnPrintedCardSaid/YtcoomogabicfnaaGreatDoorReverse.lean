/-
  The walks of ReverseGraph, the program's and the reference's, and of the copies of graphs.
-/
import Derived.Test.YtcoomogabicfnaaGreatDoorInts
namespace Go.Proofs.YtcoomogabicfnaaGreatDoor
open Go.RowKit
set_option linter.unusedVariables false
set_option linter.unusedSimpArgs false

theorem info_place : (Tryz.prog.info? 57).map (fun i => (i.zero, i.size, i.bytes)) = some (some (.agg #[.int .i64 0, .int .i64 0, .int .i64 0, .int .i64 0]), 4, 32) := by kernel_rfl
set_option maxHeartbeats 1000000 in
set_option maxRecDepth 100000 in
theorem slices_Clone_Place (v : Value) (gp : List Place) (w : World) (h0 : Lst Place.cells 4 w w.heap.size v gp) (h1 : gp.length ≤ 1048576) :
    Calls Tryz.prog 80 #[v] w (RetOwn Place.cells 4 57 w gp) := by
  obtain ⟨A, c, rfl⟩ := h0.shape
  have hn := fun w => Lib.run_eql_slice_nil (P := Tryz.prog) w 24 57 A gp.length c 0 0 Tryz.underlying24
  cases A with
  | none =>
    obtain rfl := lst_none h0
    simp only [List.length_nil] at hn
    go_enter Tryz.func80, Tryz.ntmps80
    go_wp2
    go_ret
    exact ⟨_, rfl, Own.nil, Below.refl _ _⟩
  | some a =>
    go_enter Tryz.func80, Tryz.ntmps80
    have hlen : ([] : List Place).length + gp.length ≤ 1099511627776 := by simp; omega
    go_wp2_with (at_builtin; refine wpList_append_lst rfl _ _ 24 rfl Place.cells 4 Place.cells_one (by omega) w.heap.size 57 _ 32 Tryz.underlying24 info_place rfl _ [] rfl (own_new0 _ _ _ _ _ (Nat.le_refl _)) _ _ _ _ gp rfl (h0.alloc _) hlen (by omega) (by simp) ?_; intro v' w1 hO1 hG1 hD1)
    go_ret
    exact ⟨_, rfl, hO1, below_app ((Below.refl _ _).alloc (Nat.le_refl _) _) (by simp) hG1 (own_new0 Place.cells 4 w 57 w.heap.size (Nat.le_refl _)) (Nat.le_refl _)⟩
set_option maxHeartbeats 1000000 in
set_option maxRecDepth 100000 in
theorem impl_cloneGraph (v : Value) (ge : Int) (gp : List Place) (w : World) (h0 : Lst Place.cells 4 w w.heap.size v gp) (h1 : gp.length ≤ 1048576) :
    Calls Tryz.prog 64 #[.agg #[.int .i64 ge, v]] w (RetG 57 w ge gp) := by
  obtain ⟨A, c, rfl⟩ := h0.shape
  go_enter Tryz.func64, Tryz.ntmps64
  go_wp2_with fail
  have k0 : ((w.alloc (.cells #[.int .i64 ge, .slice A gp.length c] 26)).alloc (.cells #[.int .i64 0, .slice none 0 0] 26)).cell? ⟨w.heap.size, 0, none⟩ = some (.int .i64 ge) := by simp
  have k1 : ((w.alloc (.cells #[.int .i64 ge, .slice A gp.length c] 26)).alloc (.cells #[.int .i64 0, .slice none 0 0] 26)).cell? ⟨w.heap.size, 1, none⟩ = some (.slice A gp.length c) := by simp
  have hB0 : Below w.heap.size w ((w.alloc (.cells #[.int .i64 ge, .slice A gp.length c] 26)).alloc (.cells #[.int .i64 0, .slice none 0 0] 26)) := (by repeat (first | exact Below.refl _ _ | assumption | refine Below.drew ?_ | refine Below.alloc ?_ (by simp <;> omega) _ | refine Below.setCell ?_ (by simp <;> omega) _))
  have h0' := (h0.alloc (.cells #[.int .i64 ge, .slice A gp.length c] 26)).alloc (.cells #[.int .i64 0, .slice none 0 0] 26)
  have c0 : ((w.alloc (.cells #[.int .i64 ge, .slice A gp.length c] 26)).alloc (.cells #[.int .i64 0, .slice none 0 0] 26)).cell? ⟨w.heap.size + 1, 0, none⟩ = some (.int .i64 0) := by simp
  have c1 : ((w.alloc (.cells #[.int .i64 ge, .slice A gp.length c] 26)).alloc (.cells #[.int .i64 0, .slice none 0 0] 26)).cell? ⟨w.heap.size + 1, 1, none⟩ = some (.slice none 0 0) := by simp
  have f0 : ((w.alloc (.cells #[.int .i64 ge, .slice A gp.length c] 26)).alloc (.cells #[.int .i64 0, .slice none 0 0] 26)).frozen? ⟨w.heap.size + 1, 0, none⟩ = false := by simp
  have f1 : ((w.alloc (.cells #[.int .i64 ge, .slice A gp.length c] 26)).alloc (.cells #[.int .i64 0, .slice none 0 0] 26)).frozen? ⟨w.heap.size + 1, 1, none⟩ = false := by simp
  have hz : ((w.alloc (.cells #[.int .i64 ge, .slice A gp.length c] 26)).alloc (.cells #[.int .i64 0, .slice none 0 0] 26)).heap.size = w.heap.size + 2 := by simp
  generalize (w.alloc (.cells #[.int .i64 ge, .slice A gp.length c] 26)).alloc (.cells #[.int .i64 0, .slice none 0 0] 26) = W at *
  have hz1 : w.heap.size + 1 < W.heap.size := by omega
  have hz2 : w.heap.size ≤ W.heap.size := by omega
  have hz' := Lib.hid hz
  clear hz
  go_region_held3 (fun w' => w'.cell? ⟨w.heap.size, 0, none⟩ = some (.int .i64 ge) ∧ w'.cell? ⟨w.heap.size, 1, none⟩ = some (.slice A gp.length c)) (first | exact ⟨k0, k1⟩ | go_keep) (first | (go_at_call 80; refine (slices_Clone_Place _ _ _ (show Lst Place.cells 4 W.drew W.drew.heap.size _ _ from h0') h1).mono ?_; rintro e w1 ⟨v1, rfl, hO, hB⟩; obtain ⟨A1, c1', rfl⟩ := hO.shape; replace k0 := cell_keep (w := W.drew) k0 hB; replace k1 := cell_keep (w := W.drew) k1 hB; replace c0 := cell_keep (w := W.drew) c0 hB; replace c1 := cell_keep (w := W.drew) c1 hB; replace f0 := (hB.frozen (p := ⟨w.heap.size + 1, 0, none⟩) hz1).trans f0; replace f1 := (hB.frozen (p := ⟨w.heap.size + 1, 1, none⟩) hz1).trans f1))
  go_wp2
  refine bodyPost_ret (v := .agg #[.int .i64 ge, .slice A1 gp.length c1']) (by simp [results, Tryz.results64, go_sem, c0, c1]) rfl ⟨_, rfl, ?_, ?_⟩
  · exact ((hO.far (p := ⟨w.heap.size + 1, 0, none⟩) hz1 _).far (p := ⟨w.heap.size + 1, 1, none⟩) hz1 _).rebase hz2
  · exact (((hB0.drew.trans (hB.mono hz2)).setCell (Nat.le_succ _) _).setCell (Nat.le_succ _) _)

def Place.rev (p : Place) : Place := ⟨p.dst, p.src, p.delay, p.tokens⟩
def reverseF (ge : Int) (gp : List Place) : Int × List Place × Int := if okGraph ge gp = true then (ge, gp.map Place.rev, 0) else (0, [], 1)
theorem reverseF_len (ge : Int) (gp : List Place) : (reverseF ge gp).2.1.length ≤ gp.length := by
  unfold reverseF
  split <;> simp
theorem part_len {α : Type} (f : α → α) (l : List α) (k : Nat) (h : k ≤ l.length) : ((l.take k).map f ++ l.drop k).length = l.length := by simp; omega
theorem part_get {α : Type} (f : α → α) (l : List α) (k : Nat) (h : k < l.length) (h2 : k < ((l.take k).map f ++ l.drop k).length) : ((l.take k).map f ++ l.drop k)[k] = l[k] := by
  rw [List.getElem_append_right (by simp; omega)]
  simp [Nat.min_eq_left (Nat.le_of_lt h)]
theorem part_set {α : Type} (f : α → α) (l : List α) (k : Nat) (h : k < l.length) : ((l.take k).map f ++ l.drop k).set k (f l[k]) = (l.take (k + 1)).map f ++ l.drop (k + 1) := by
  rw [List.set_append_right _ _ (by simp; omega)]
  have e : k - ((l.take k).map f).length = 0 := by simp; omega
  rw [e, List.drop_eq_getElem_cons h, List.set_cons_zero, take_succ_get l k h, List.map_append, List.append_assoc]
  rfl
end Go.Proofs.YtcoomogabicfnaaGreatDoor
