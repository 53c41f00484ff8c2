/-
  The walks of DelayMatrix, the program's and the reference's.
-/
import Derived.Test.YtilfjfjoppecgaaMatBy
import Derived.Test.YtilfjfjoppecgaaMarking
namespace Go.Proofs.Ytilfjfjoppecgaa
open Go.RowKit
set_option linter.unusedVariables false
set_option linter.unusedSimpArgs false

def bot : Int := -1000000000000000
def updF (F : Nat → Nat → Int) (d s : Nat) (x : Int) : Nat → Nat → Int := fun i j => if i = d ∧ j = s then x else F i j
def delF (m : Int) (l : List Place) : Nat → Nat → Int :=
  l.foldl (fun F p => if p.tokens = m then updF F p.dst.toNat p.src.toNat (max (F p.dst.toNat p.src.toNat) p.delay) else F) (fun _ _ => bot)
theorem delF_succ (m : Int) (l : List Place) (k : Nat) (h : k < l.length) :
    delF m (l.take (k + 1)) = if l[k].tokens = m then updF (delF m (l.take k)) l[k].dst.toNat l[k].src.toNat (max (delF m (l.take k) l[k].dst.toNat l[k].src.toNat) l[k].delay) else delF m (l.take k) := by
  unfold delF
  rw [take_succ_get _ _ h, List.foldl_append]
  rfl
theorem matF_get (n m : Nat) (F : Nat → Nat → Int) (d : Nat) (h : d < (matF n F m).length) : (matF n F m)[d] = (List.range n).map (F d) := by simp [matF]
theorem matF_upd (n m : Nat) (F : Nat → Nat → Int) (d s : Nat) (x : Int) : (matF n F m).set d (((List.range n).map (F d)).set s x) = matF n (updF F d s x) m := by
  refine List.ext_getElem (by simp [matF]) fun i h1 h2 => ?_
  have hi : i < m := by simpa [matF] using h2
  have h3 : (matF n (updF F d s x) m)[i] = (List.range n).map (updF F d s x i) := matF_get _ _ _ _ _
  rw [h3]
  by_cases e : d = i
  · subst e
    rw [List.getElem_set_self]
    refine List.ext_getElem (by simp) fun j h3 h4 => ?_
    by_cases e2 : s = j
    · subst e2; simp [updF]
    · rw [List.getElem_set_ne e2]; simp [updF, Ne.symm e2]
  · rw [List.getElem_set_ne e]
    have h4 : (matF n F m)[i]'(by simpa [matF] using hi) = (List.range n).map (F i) := matF_get _ _ _ _ _
    rw [h4]
    refine List.map_congr_left fun j _ => ?_
    simp [updF, Ne.symm e]
theorem max_if (a b : Int) : max a b = if a < b then b else a := by by_cases h : a < b <;> simp [h] <;> omega
def delayM (n : Nat) (gp : List Place) (m : Int) : List (List Int) := matF n (delF m gp) n
def delayF (ge : Int) (gp : List Place) (m : Int) : List (List Int) × Int :=
  if okGraph ge gp = false then ([], 1) else if inB m 0 5 = false then ([], 2) else (delayM ge.toNat gp m, 0)
theorem matB_succ (n k : Nat) : matF n (fun _ _ => bot) (k + 1) = matF n (fun _ _ => bot) k ++ [List.replicate n (-1000000000000000)] := by
  rw [matF_succ]
  simp [bot, List.map_const']
set_option maxHeartbeats 4000000 in
set_option maxRecDepth 100000 in
theorem l02Bottom (m n : Nat) (w : World) (hm : m ≤ 1000) (hn : n ≤ 1000) :
    Calls Try.prog 164 #[.int .i64 m, .int .i64 n] w (RetM w (matF n (fun _ _ => bot) m)) := by
  go_enter Try.func164, Try.ntmps164
  go_wp2
  go_loopw [5, 6, 7, 8] (fun o i _ _ wr => ∃ k : Nat, k ≤ m ∧ i = .int .i64 k ∧ OwnM wr w.heap.size o (matF n (fun _ _ => bot) k) ∧ Below w.heap.size w wr) (fun _ i _ _ _ => m - (intOf i).toNat)
  case atStart => exact ⟨0, Nat.zero_le _, rfl, OwnM.new0 _ _ (Nat.le_refl _), (Below.refl _ _).alloc (Nat.le_refl _) _⟩
  case round =>
    obtain ⟨k, hk, rfl, hM, hB⟩ := hrel
    have hs := hB.size
    by_cases hlt : k < m
    · obtain ⟨rs, hl, hO, hR, hD⟩ := hM
      rw [matF_len] at hl
      have hrlt : Hid (∀ i (hi : i < rs.length) q, rs[i].val.ownBlock = some q → q < wr.heap.size) := fun i hi q hq => ((hR i hi (by rw [matF_len]; omega)).lt q hq).2
      have hR' := Lib.hid hR
      have hD' := Lib.hid hD
      obtain ⟨A, c, rfl⟩ := own_shape_n hO hl
      have hl' := Lib.hid hl
      clear hR hD hl
      go_wp2
      obtain ⟨wo, rfl⟩ : ∃ wo : World, wo = wr := ⟨_, rfl⟩
      go_loopw [7, 8] (fun r i w2 => ∃ j : Nat, j ≤ n ∧ i = .int .i64 j ∧ Own intCell 1 2 w2 wo.heap.size r (List.replicate j (-1000000000000000)) ∧ Below wo.heap.size wo w2) (fun _ i _ => n - (intOf i).toNat)
      case atStart => exact ⟨0, Nat.zero_le _, rfl, own_new0 _ _ _ _ _ (Nat.le_refl _), (Below.refl _ _).alloc (Nat.le_refl _) _⟩
      case round =>
        obtain ⟨j, hj, rfl, hr, hb⟩ := hrel
        obtain ⟨R, cr, rfl⟩ := own_shape_n hr List.length_replicate
        by_cases hlt2 : j < n
        · have hlen : (List.replicate j (-1000000000000000 : Int)).length + [(-1000000000000000 : Int)].length ≤ 1099511627776 := by simp; omega
          go_wp2_with (at_builtin; refine wpList_append_lst rfl _ _ 27 rfl intCell 1 intCell_one (by omega) wo.heap.size 2 _ 8 Try.underlying27 info_i64 rfl _ _ rfl (hr.alloc _) _ _ _ _ [(-1000000000000000 : Int)] rfl (lst_new1 _ _ intCell_len _ _ _ _ rfl _ (by simp)) hlen (by omega) (Nat.le_trans hb.size (by simp <;> omega)) ?_; intro v' w3 hO1 hG1 hD1)
          go_roundw
          case rel => exact ⟨j + 1, hlt2, by go_num, by rw [List.replicate_succ']; exact hO1, below_app (hb.alloc (Nat.le_trans (Nat.le_refl _) hb.size) _) (Nat.le_trans hb.size (by simp)) hG1 (hr.alloc _) (Nat.le_refl _)⟩
          case measure => simp [intOf]; omega
        · obtain rfl : j = n := by omega
          have hlen : rs.length + [(⟨R, j, cr⟩ : Ref)].length ≤ 1099511627776 := by rw [hl'.out]; simp; omega
          have hOn := hO.now hb
          have hbs := hb.size
          go_wp2_with (at_builtin; refine wpList_append_lst rfl _ _ 36 rfl Ref.cells 1 Ref.cells_one (by omega) w.heap.size 27 _ 24 Try.underlying36 info_ref rfl _ _ rfl (hOn.alloc _) _ _ _ _ [(⟨R, j, cr⟩ : Ref)] rfl (lst_new1 _ _ Ref.cells_len _ _ _ _ rfl _ (by simp)) hlen (by omega) (Nat.le_trans hs (Nat.le_trans hbs (by simp <;> omega))) ?_; intro v' w3 hO1 hG1 hD1)
          go_roundw
          case rel =>
            refine ⟨k + 1, hlt, by go_num, ?_, below_app ((hB.trans (hb.mono hs)).alloc (Nat.le_trans hs hbs) _) (Nat.le_trans hs (Nat.le_trans hbs (by simp))) hG1 (hOn.alloc _) (Nat.le_refl _)⟩
            rw [matB_succ]
            exact OwnM.push2 (by rw [matF_len]; exact hl'.out) (hOn.alloc _) (fun i h1 h2 => ((hR'.out i h1 h2).now hb).alloc _) hD'.out ⟨R, j, cr⟩ _ wo.heap.size (hr.alloc _) hs hrlt.out _ hG1 hO1
          case measure => simp [intOf]; omega
    · obtain rfl : k = m := by omega
      go_wp2
      go_ret
      exact ⟨_, rfl, hM, hB⟩
end Go.Proofs.Ytilfjfjoppecgaa
