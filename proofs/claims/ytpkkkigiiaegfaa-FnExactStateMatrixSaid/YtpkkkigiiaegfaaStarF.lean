/-
  The walks of ClosedMatrix, the program's and the reference's.
-/
import Derived.Test.YtpkkkigiiaegfaaStarT
import Derived.Test.YtpkkkigiiaegfaaStarB
import Derived.Test.YtpkkkigiiaegfaaTimT
namespace Go.Proofs.Ytpkkkigiiaegfaa
open Go.RowKit
set_option linter.unusedVariables false
set_option linter.unusedSimpArgs false
theorem delF_from (m : Int) (gp : List Place) : ∀ k, k ≤ gp.length → ∀ i j, delF m (gp.take k) i j = bot ∨ ∃ p ∈ gp, p.dst.toNat = i ∧ p.src.toNat = j ∧ p.tokens = m ∧ delF m (gp.take k) i j = p.delay := by
  intro k
  induction k with
  | zero => intro _ i j; exact .inl rfl
  | succ k ih =>
    intro hk i j
    rw [delF_succ m gp k (by omega)]
    have h1 := ih (by omega)
    split
    · rename_i ht
      unfold updF
      split
      · rename_i hij
        by_cases hle : delF m (gp.take k) gp[k].dst.toNat gp[k].src.toNat ≤ gp[k].delay
        · exact .inr ⟨gp[k], List.getElem_mem _, hij.1.symm, hij.2.symm, ht, by omega⟩
        · rcases h1 gp[k].dst.toNat gp[k].src.toNat with e | ⟨p, hp, e1, e2, e3, e4⟩
          · exact .inl (by omega)
          · exact .inr ⟨p, hp, by omega, by omega, e3, by omega⟩
      · exact h1 i j
    · exact h1 i j
theorem delF_fin {ge : Int} {gp : List Place} (hg : okGraph ge gp = true) (m : Int) (n : Nat) : finM n 1000 (delF m gp) := by
  intro i j _ _
  have h := delF_from m gp gp.length (Nat.le_refl _) i j
  rw [List.take_length] at h
  rcases h with h | ⟨p, hp, _, _, _, e⟩
  · exact .inl h
  · have := okGraph_place hg hp
    exact .inr (by rw [e]; omega)
theorem bnd_of_fin {n : Nat} {W : Int} {F : Nat → Nat → Int} (h : finM n W F) (hW : W ≤ 5000000000000) : bnd n F := fun i j hi hj => by
  rcases h i j hi hj with h | h
  · exact .inr h
  · exact .inl (by omega)
/-- A graph that is live has a potential for its places without tokens. -/
theorem live_pot {n : Nat} {gp : List Place} {o : List Int} (hg : okGraph n gp = true) (ho : orderF n gp = some o) : Pot n (delF 0 gp) (fun i => 1000 * (o.idxOf (i : Int) : Int)) := by
  have hk := orderK_ok n o ho
  intro i j hi hj hne
  have h := delF_from 0 gp gp.length (Nat.le_refl _) i j
  rw [List.take_length] at h
  rcases h with h | ⟨p, hp, e1, e2, e3, e4⟩
  · exact absurd h hne
  · have hb := okGraph_place hg hp
    obtain ⟨q, hq, hqv⟩ := List.mem_iff_getElem.1 (hk.all i hi)
    have h1 := hk.ord q hq p hp (by rw [hqv]; omega) e3
    have e5 : p.src = (j : Int) := by omega
    rw [e5] at h1
    have h2 := idx_take hk.nodup h1 hq hqv
    show delF 0 gp i j + 1000 * (o.idxOf (j : Int) : Int) ≤ 1000 * (o.idxOf (i : Int) : Int)
    rw [e4]
    omega
def closedM (n : Nat) (gp : List Place) (m : Int) : List (List Int) := matF n (mulF n (itF n (delF 0 gp) n) (delF m gp)) n
def closF (ge : Int) (gp : List Place) (m : Int) : List (List Int) × Int :=
  if timC ge gp (inB m 1 5) = 0 then (closedM ge.toNat gp m, 0) else ([], timC ge gp (inB m 1 5))
theorem matF_offs (n m : Nat) (F : Nat → Nat → Int) (hn : n ≤ 10) (hm : m ≤ 10) : offs (matF n F m) (matF n F m).length ≤ 1048576 := by
  have h := offs_rows (matF n F m) n (fun r hr => by
    unfold matF at hr
    obtain ⟨i, _, rfl⟩ := List.mem_map.1 hr
    simp) _ (Nat.le_refl _)
  rw [matF_len] at h ⊢
  exact Nat.le_trans h (Nat.le_trans (Nat.mul_le_mul hm hn) (by decide))
theorem closF_offs (ge : Int) (gp : List Place) (m : Int) : offs (closF ge gp m).1 (closF ge gp m).1.length ≤ 1048576 := by
  unfold closF
  split
  · rename_i h
    obtain ⟨hg, _, _⟩ := timC_zero h
    obtain ⟨h1, h2⟩ := okGraph_ev hg
    exact matF_offs _ _ _ (by omega) (by omega)
  · simp [offs]
set_option maxHeartbeats 4000000 in
set_option maxRecDepth 100000 in
theorem impl_closedMatrix (v : Value) (n : Nat) (gp : List Place) (m : Int) (w : World) (h0 : Lst Place.cells 4 w w.heap.size v gp) (hg : Hid (okGraph n gp = true)) (hlv : Hid (∃ o, orderF n gp = some o)) :
    Calls Try.prog 122 #[.agg #[.int .i64 n, v], .int .i64 m] w (RetM w (closedM n gp m)) := by
  obtain ⟨A, c, rfl⟩ := h0.shape
  obtain ⟨hn1, hn2⟩ := okGraph_ev hg.out
  have hF := Lib.hid (delF_fin hg.out 0 n)
  have hit : Hid (itOk n (delF 0 gp)) := by
    obtain ⟨o, ho⟩ := hlv.out
    exact itOk_of_pot hF.out (by omega) (by omega) (by omega) (live_pot hg.out ho)
  go_enter Try.func122, Try.ntmps122
  go_wp2_with fail
  have hW : Below w.heap.size w (w.alloc (.cells #[.int .i64 (n:Int), .slice A gp.length c] 32)) := (Below.refl _ _).alloc (Nat.le_refl _) _; have hb0 : Blk (w.alloc (.cells #[.int .i64 (n:Int), .slice A gp.length c] 32)) w.heap.size 32 #[.int .i64 (n:Int), .slice A gp.length c] := Blk.new _ _ _; replace h0 := h0.now hW; generalize (w.alloc (.cells #[.int .i64 (n:Int), .slice A gp.length c] 32)) = W at *
  obtain ⟨k0, k1⟩ := hb0.c2
  go_wp2_with fail
  refine (impl_delayMatrix _ n gp 0 W h0 hg.out).mono ?_
  rintro e w1 ⟨u1, rfl, hM, hB1⟩
  unfold delayM at hM
  obtain ⟨A1, c1, rfl⟩ := hM.shape
  rw [matF_len] at hM ⊢
  clear k0 k1
  go_wp2_with fail
  refine (impl_starOf _ n _ 1000 w1 hM.lst (by omega) (by omega) hF (by omega) (by omega)).mono ?_
  rintro e w2 ⟨u2, ok, rfl, hiff, hS, hB2⟩
  have hB12 := hB1.trans (hB2.mono hB1.size)
  have hfw : fwOk n (delF 0 gp) := (star_ok hF.out (by omega) (by omega) (by omega)).2 hit.out
  have hO := hS (hiff.2 hfw)
  rw [matF_congr (n := n) (m := n) (star_eq hF.out (by omega) (by omega) (by omega) hit.out)] at hO
  obtain ⟨A2, c2, rfl⟩ := hO.shape
  rw [matF_len] at hO ⊢
  clear hiff hS hfw
  have hbS : Hid (bnd n (itF n (delF 0 gp) n)) := it_bnd hF.out (by omega) (by omega) (by omega) n (by omega)
  have hbD : Hid (bnd n (delF m gp)) := bnd_of_fin (delF_fin hg.out m n) (by omega)
  have hb2 := hb0.now hB12
  obtain ⟨k0, k1⟩ := hb2.c2
  have l0 := hb2.lt
  go_wp2_with fail
  refine (impl_delayMatrix _ n gp m w2 (h0.now hB12) hg.out).mono ?_
  rintro e w3 ⟨u3, rfl, hD, hB3⟩
  unfold delayM at hD
  obtain ⟨A3, c3, rfl⟩ := hD.shape
  rw [matF_len] at hD ⊢
  clear k0 k1 l0
  go_wp2_with fail
  refine (impl_multiply _ _ n _ _ w3 (hO.now hB3).lst hD.lst hbS hbD (by omega) (by omega)).mono ?_
  rintro e w4 ⟨u4, rfl, hP, hB4⟩
  go_wp2
  go_ret
  have hBt := hB12.trans ((hB3.trans (hB4.mono hB3.size)).mono hB12.size)
  exact ⟨_, rfl, hP.rebase (Nat.le_trans hW.size (Nat.le_trans hB12.size hB3.size)), hW.trans (hBt.mono hW.size)⟩
set_option maxHeartbeats 4000000 in
set_option maxRecDepth 100000 in
theorem spec_l13Closed (v : Value) (n : Nat) (gp : List Place) (m : Int) (w : World) (h0 : Lst Place.cells 4 w w.heap.size v gp) (hg : Hid (okGraph n gp = true)) :
    Calls Try.prog 121 #[.agg #[.int .i64 n, v], .int .i64 m] w (RetM w (closedM n gp m)) := by
  obtain ⟨A, c, rfl⟩ := h0.shape
  obtain ⟨hn1, hn2⟩ := okGraph_ev hg.out
  have hF := Lib.hid (delF_fin hg.out 0 n)
  go_enter Try.func121, Try.ntmps121
  go_wp2_with fail
  have hW : Below w.heap.size w (w.alloc (.cells #[.int .i64 (n:Int), .slice A gp.length c] 32)) := (Below.refl _ _).alloc (Nat.le_refl _) _; have hb0 : Blk (w.alloc (.cells #[.int .i64 (n:Int), .slice A gp.length c] 32)) w.heap.size 32 #[.int .i64 (n:Int), .slice A gp.length c] := Blk.new _ _ _; replace h0 := h0.now hW; generalize (w.alloc (.cells #[.int .i64 (n:Int), .slice A gp.length c] 32)) = W at *
  obtain ⟨k0, k1⟩ := hb0.c2
  go_wp2_with fail
  refine (l13Delays _ n gp 0 W h0 hg.out).mono ?_
  rintro e w1 ⟨u1, rfl, hM, hB1⟩
  unfold delayM at hM
  obtain ⟨A1, c1, rfl⟩ := hM.shape
  rw [matF_len] at hM ⊢
  clear k0 k1
  go_wp2_with fail
  refine (spec_l03Star _ n _ 1000 w1 hM.lst (by omega) (by omega) hF (by omega) (by omega)).mono ?_
  rintro e w2 ⟨u2, ok, rfl, hiff, hO, hB2⟩
  have hB12 := hB1.trans (hB2.mono hB1.size)
  obtain ⟨A2, c2, rfl⟩ := hO.shape
  rw [matF_len] at hO ⊢
  clear hiff
  have hbS : Hid (bnd n (itF n (delF 0 gp) n)) := it_bnd hF.out (by omega) (by omega) (by omega) n (by omega)
  have hbD : Hid (bnd n (delF m gp)) := bnd_of_fin (delF_fin hg.out m n) (by omega)
  have hb2 := hb0.now hB12
  obtain ⟨k0, k1⟩ := hb2.c2
  have l0 := hb2.lt
  go_wp2_with fail
  refine (l13Delays _ n gp m w2 (h0.now hB12) hg.out).mono ?_
  rintro e w3 ⟨u3, rfl, hD, hB3⟩
  unfold delayM at hD
  obtain ⟨A3, c3, rfl⟩ := hD.shape
  rw [matF_len] at hD ⊢
  clear k0 k1 l0
  go_wp2_with fail
  refine (spec_l02Multiply _ _ n _ _ w3 (hO.now hB3).lst hD.lst hbS hbD (by omega) (by omega)).mono ?_
  rintro e w4 ⟨u4, rfl, hP, hB4⟩
  go_wp2
  go_ret
  have hBt := hB12.trans ((hB3.trans (hB4.mono hB3.size)).mono hB12.size)
  exact ⟨_, rfl, hP.rebase (Nat.le_trans hW.size (Nat.le_trans hB12.size hB3.size)), hW.trans (hBt.mono hW.size)⟩
end Go.Proofs.Ytpkkkigiiaegfaa
