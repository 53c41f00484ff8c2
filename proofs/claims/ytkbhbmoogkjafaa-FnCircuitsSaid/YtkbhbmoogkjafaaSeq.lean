/-
  The walks of FireSequence, the program's and the reference's, and of the first marking.
-/
import Derived.Test.YtkbhbmoogkjafaaFire
import Derived.IntWalk
import Derived.Test.YtkbhbmoogkjafaaCore
namespace Go.Proofs.Ytkbhbmoogkjafaa
open Go.RowKit
set_option linter.unusedVariables false
set_option linter.unusedSimpArgs false

def firstF (gp : List Place) : List Int := gp.map (·.tokens)
theorem firstF_len (gp : List Place) : (firstF gp).length = gp.length := by simp [firstF]
theorem firstF_get (gp : List Place) (k : Nat) (h : k < gp.length) (h2 : k < (firstF gp).length) : (firstF gp)[k] = gp[k].tokens := by simp [firstF]
theorem firstF_snoc (gp : List Place) (k : Nat) (h : k < gp.length) : firstF (gp.take (k + 1)) = firstF (gp.take k) ++ [gp[k].tokens] := by
  unfold firstF
  rw [take_succ_get _ _ h, List.map_append]
  rfl
theorem firstF_ok {ge : Int} {gp : List Place} (hok : okGraph ge gp = true) : okMarking gp (firstF gp) = true := by
  unfold okMarking allB
  simp only [Bool.and_eq_true, decide_eq_true_eq, List.all_eq_true, inB_iff]
  refine ⟨firstF_len gp, fun x hx => ?_⟩
  obtain ⟨p, hp, rfl⟩ := List.mem_map.1 hx
  have := (okGraph_place hok hp).2.2.2
  omega
/-- The marking after a list of events, and the code. -/
def seqF (n : Nat) (gp : List Place) : List Int → List Int → List Int × Int
  | m, [] => (m, 0)
  | m, e :: l => if (firedF n gp m e).2 = 0 then seqF n gp (firedF n gp m e).1 l else ([], (firedF n gp m e).2)
theorem seqF_go (n : Nat) (gp : List Place) (m l : List Int) (k : Nat) (h : k < l.length) (hz : (firedF n gp m l[k]).2 = 0) : seqF n gp m (l.drop k) = seqF n gp (firedF n gp m l[k]).1 (l.drop (k + 1)) := by
  rw [List.drop_eq_getElem_cons h]
  simp only [seqF, if_pos hz]
theorem seqF_stop (n : Nat) (gp : List Place) (m l : List Int) (k : Nat) (h : k < l.length) (hz : ¬ (firedF n gp m l[k]).2 = 0) : seqF n gp m (l.drop k) = ([], (firedF n gp m l[k]).2) := by
  rw [List.drop_eq_getElem_cons h]
  simp only [seqF, if_neg hz]
theorem firedF_zero {n : Nat} {gp : List Place} {m : List Int} {e : Int} (h : (firedF n gp m e).2 = 0) : okMarking gp (firedF n gp m e).1 = true := by
  unfold firedF at h ⊢
  split
  · rename_i h1; rw [if_pos h1] at h; cases h
  · rename_i h1
    rw [if_neg h1] at h
    split
    · rename_i h2; rw [if_pos h2] at h; cases h
    · rename_i h2; simpa using h2
theorem seqF_len (n : Nat) (gp : List Place) : ∀ (l m : List Int), m.length ≤ 1048576 → (gp.length = m.length) → (seqF n gp m l).1.length ≤ 1048576 := by
  intro l
  induction l with
  | nil => intro m h _; exact h
  | cons e l ih =>
    intro m h hg
    simp only [seqF]
    split
    · rename_i hz
      have := okMarking_len (firedF_zero hz)
      exact ih _ (by omega) this.symm
    · simp
def fireSeqF (ge : Int) (gp : List Place) (l : List Int) : List Int × Int :=
  if okGraph ge gp = false then ([], 1) else if (decide (l.length ≤ 100) && allB l 0 (ge - 1)) = false then ([], 2) else seqF ge.toNat gp (firstF gp) l
theorem fireSeqF_len (ge : Int) (gp : List Place) (l : List Int) : (fireSeqF ge gp l).1.length ≤ 1048576 := by
  unfold fireSeqF
  split
  · simp
  · rename_i hg
    split
    · simp
    · have := okGraph_len (ge := ge) (gp := gp) (by simpa using hg)
      exact seqF_len _ _ _ _ (by rw [firstF_len]; omega) (firstF_len gp).symm
set_option maxHeartbeats 2000000 in
set_option maxRecDepth 100000 in
theorem impl_firstMarking (v : Value) (ge : Int) (gp : List Place) (w : World) (h0 : Lst Place.cells 4 w w.heap.size v gp) (hgl : gp.length ≤ 30) :
    Calls Try.prog 136 #[.agg #[.int .i64 ge, v]] w (RetOwn intCell 1 2 w (firstF gp)) := by
  obtain ⟨A, c, rfl⟩ := h0.shape
  have hmk := run_make_lst (P := Try.prog) intCell 1 intCell_len (by omega) 0 38 2 _ 8 Try.underlying38 info_i64 rfl .i64 .i64 gp.length (by omega) (by omega)
  have hm1 := fun w => (hmk w).1
  have hm2 := Lib.hid fun (w : World) => (hmk w).2 w.heap.size (Nat.le_refl _)
  clear hmk
  have hz := Lib.hid (firstF_len gp)
  go_enter Try.func136, Try.ntmps136
  go_wp2
  have hW : Below w.heap.size w (w.alloc (.cells #[.int .i64 ge, .slice A gp.length c] 26)) := (Below.refl _ _).alloc (Nat.le_refl _) _
  have hO0 := hm2.out (w.alloc (.cells #[.int .i64 ge, .slice A gp.length c] 26))
  have hs0 : Hid ((w.alloc (.cells #[.int .i64 ge, .slice A gp.length c] 26)).heap.size = w.heap.size + 1) := by show _ = _; simp
  have hN : Below (w.heap.size + 1) (w.alloc (.cells #[.int .i64 ge, .slice A gp.length c] 26)) ((w.alloc (.cells #[.int .i64 ge, .slice A gp.length c] 26)).alloc (.cells (madeCells (intCell 0).toArray (gp.length * 1)) 2)) := (Below.refl _ _).alloc (by rw [hs0.out]; exact Nat.le_refl _) _
  rw [hs0.out] at hO0
  replace h0 := h0.now hW
  simp only [Nat.mul_one] at hO0 hN
  clear hm1 hm2
  generalize w.alloc (.cells #[.int .i64 ge, .slice A gp.length c] 26) = W at *
  go_loopw [4, 5, 13] (fun _ _ i wr => ∃ k : Nat, k ≤ gp.length ∧ i = .int .i64 k ∧ Own intCell 1 2 wr (w.heap.size + 1) (.slice (some ⟨w.heap.size + 1, 0, none⟩) gp.length gp.length) ((firstF gp).take k ++ List.replicate ((firstF gp).length - k) 0) ∧ Below (w.heap.size + 1) W wr) (fun _ _ i _ => gp.length - (intOf i).toNat)
  case atStart => exact ⟨0, Nat.zero_le _, rfl, by rw [hz.out]; simpa using hO0, hN⟩
  case round =>
    clear hO0 hN
    obtain ⟨k, hk, rfl, hO, hB0⟩ := hrel
    have hB : Below W.heap.size W wr := by rw [hs0.out]; exact hB0
    have hs := hB.size
    by_cases hlt : k < gp.length
    · obtain ⟨b, off, hb1, hb, d0, d1, d2, d3⟩ := places_at (h0.now hB) k hlt
      cases hb1
      have hlen : k < ((firstF gp).take k ++ List.replicate ((firstF gp).length - k) 0).length := by rw [fill_len _ _ _ (by rw [hz.out]; exact hk), hz.out]; exact hlt
      obtain ⟨_, hgl2, hfz, e0⟩ := own_ints_at hO k hlen
      have hw1 : wr.heap.size ≠ w.heap.size + 1 := by omega
      have hw2 : w.heap.size + 1 ≠ wr.heap.size := by omega
      have hS : Hid (((firstF gp).take k ++ List.replicate ((firstF gp).length - k) 0).set k gp[k].tokens = (firstF gp).take (k + 1) ++ List.replicate ((firstF gp).length - (k + 1)) 0) := by
        show _ = _
        rw [← firstF_get gp k hlt (by rw [hz.out]; exact hlt)]
        exact fill_set _ _ _ _
      have hO1 := hO.set1 k hlen gp[k].tokens
      rw [hS.out] at hO1
      have hB1 := (hB0.setCell (p := ⟨w.heap.size + 1, k, none⟩) (Nat.le_refl _) (.int .i64 gp[k].tokens)).alloc (by simp; omega) (.cells #[.int .i64 gp[k].src, .int .i64 gp[k].dst, .int .i64 gp[k].delay, .int .i64 gp[k].tokens] 45)
      go_wp2
      go_roundw
      case rel => exact ⟨k + 1, hlt, by go_num, hO1.alloc _, hB1⟩
      case measure => simp [intOf]; omega
    · obtain rfl : k = gp.length := by omega
      have hF : Hid ((firstF gp).take gp.length ++ List.replicate ((firstF gp).length - gp.length) 0 = firstF gp) := by show _ = _; rw [← hz.out]; exact fill_all _ _
      rw [hF.out] at hO
      go_wp2
      go_ret
      exact ⟨_, rfl, hO.rebase (by omega), hW.trans (hB0.mono (by omega))⟩
set_option maxHeartbeats 2000000 in
set_option maxRecDepth 100000 in
theorem spec_l17FirstW (v : Value) (ge : Int) (gp : List Place) (w : World) (h0 : Lst Place.cells 4 w w.heap.size v gp) (hgl : gp.length ≤ 1000) :
    Calls Try.prog 122 #[.agg #[.int .i64 ge, v]] w (RetOwn intCell 1 2 w (firstF gp)) := by
  obtain ⟨A, c, rfl⟩ := h0.shape
  go_enter Try.func122, Try.ntmps122
  go_wp2
  have hW : Below w.heap.size w (w.alloc (.cells #[.int .i64 ge, .slice A gp.length c] 26)) := (Below.refl _ _).alloc (Nat.le_refl _) _
  have hb0 : Blk (w.alloc (.cells #[.int .i64 ge, .slice A gp.length c] 26)) w.heap.size 26 #[.int .i64 ge, .slice A gp.length c] := Blk.new _ _ _
  have hs0 : Hid ((w.alloc (.cells #[.int .i64 ge, .slice A gp.length c] 26)).heap.size = w.heap.size + 1) := by show _ = _; simp
  have hO0 := own_new0 intCell 1 (w.alloc (.cells #[.int .i64 ge, .slice A gp.length c] 26)) 2 (w.heap.size + 1) (by rw [hs0.out]; exact Nat.le_refl _)
  rw [hs0.out] at hO0
  replace h0 := h0.now hW
  generalize w.alloc (.cells #[.int .i64 ge, .slice A gp.length c] 26) = W at *
  have hWs := hW.size
  go_loopw [3, 4] (fun o i wr => ∃ k : Nat, k ≤ gp.length ∧ i = .int .i64 k ∧ Own intCell 1 2 wr W.heap.size o (firstF (gp.take k)) ∧ Below W.heap.size W wr) (fun _ i _ => gp.length - (intOf i).toNat)
  case atStart => exact ⟨0, Nat.zero_le _, rfl, by rw [hs0.out]; exact hO0, (Below.refl _ _).alloc (Nat.le_refl _) _⟩
  case round =>
    obtain ⟨k, hk, rfl, hO, hB⟩ := hrel
    have hs := hB.size
    obtain ⟨k0, k1⟩ := (hb0.now hB).c2
    by_cases hlt : k < gp.length
    · obtain ⟨b, off, hb1, hb, d0, d1, d2, d3⟩ := places_at (h0.now hB) k hlt
      cases hb1
      have hlen : (firstF (gp.take k)).length + [gp[k].tokens].length ≤ 1099511627776 := by rw [firstF_len, List.length_take]; simp; omega
      have hT := Lib.hid (firstF_snoc gp k hlt)
      go_wp2_with (at_builtin; refine wpList_append_lst rfl _ _ 38 rfl intCell 1 intCell_one (by omega) W.heap.size 2 _ 8 Try.underlying38 info_i64 rfl _ _ rfl (hO.alloc _) _ _ _ _ [gp[k].tokens] rfl (lst_new1 _ _ intCell_len _ _ _ _ rfl _ (by simp)) hlen (by omega) (Nat.le_trans hs (by simp <;> omega)) ?_; intro v' w1 hO1 hG1 hD1)
      go_roundw
      case rel => exact ⟨k + 1, hlt, by go_num, by rw [hT.out]; exact hO1, below_app (hB.alloc hs _) (Nat.le_trans hs (by simp)) hG1 (hO.alloc _) (Nat.le_refl _)⟩
      case measure => simp [intOf]; omega
    · obtain rfl : k = gp.length := by omega
      rw [List.take_length] at hO
      go_wp2
      go_ret
      exact ⟨_, rfl, hO.rebase hWs, hW.trans (hB.mono hWs)⟩
theorem spec_l17First (v : Value) (ge : Int) (gp : List Place) (w : World) (h0 : Lst Place.cells 4 w w.heap.size v gp) (hgl : gp.length ≤ 30) :
    Calls Try.prog 122 #[.agg #[.int .i64 ge, v]] w (RetOwn intCell 1 2 w (firstF gp)) := spec_l17FirstW v ge gp w h0 (by omega)
end Go.Proofs.Ytkbhbmoogkjafaa
