/-
  The walks of the draws of ratios, and of rooms that are to suffice.
-/
import Derived.Test.YtbdklhahbeiffaaDrN
import Derived.Test.YtbdklhahbeiffaaFnCirP
import Derived.Test.YtbdklhahbeiffaaCirS
import Derived.Test.YtbdklhahbeiffaaPotA
import Derived.Test.YtbdklhahbeiffaaLimitA
namespace Go.Proofs.Ytbdklhahbeiffaa
open Go.RowKit
set_option linter.unusedVariables false
set_option linter.unusedSimpArgs false
/-- A ratio of small numbers, whichever. -/
def RqRet (w w' : World) (e : Ending) : Prop := ∃ x y : Int, e = .returned (.agg #[.int .i64 x, .int .i64 y]) ∧ (-2000000000 ≤ x ∧ x ≤ 2000000000) ∧ (-2000000000 ≤ y ∧ y ≤ 2000000000) ∧ Below w.heap.size w w'
theorem tdiv_bd {a M : Int} {g : Nat} (hg : 0 < g) (h : -M ≤ a ∧ a ≤ M) : -M ≤ a.tdiv (g : Int) ∧ a.tdiv (g : Int) ≤ M := by
  have h1 : (a.tdiv (g : Int)).natAbs = a.natAbs / (g : Int).natAbs := Int.natAbs_tdiv a g
  have h2 := Nat.div_le_self a.natAbs (g : Int).natAbs
  omega
theorem ediv_bd {b M : Int} {g : Nat} (hg : 0 < g) (h : 1 ≤ b ∧ b ≤ M) : 0 ≤ b / (g : Int) ∧ b / (g : Int) ≤ M := by
  have h1 := Int.ediv_le_self (g : Int) (show 0 ≤ b by omega)
  have h2 := Int.ediv_nonneg (show 0 ≤ b by omega) (show (0 : Int) ≤ (g : Int) by omega)
  omega
set_option maxHeartbeats 400000 in
set_option maxRecDepth 100000 in
theorem spec_l01RatioZ (a b : Int) (w : World) (ha : -1000000000 ≤ a ∧ a ≤ 1000000000) (hb : 1 ≤ b ∧ b ≤ 1000000000) :
    Calls Try.prog 71 #[.int .i64 a, .int .i64 b] w fun e w' => RqRet w w' e := by
  have h1 : ¬ b < 0 := by omega
  have hg1 : 0 < Nat.gcd a.natAbs b.natAbs := Nat.gcd_pos_of_pos_right _ (by omega)
  have hg2 : Nat.gcd a.natAbs b.natAbs ≤ 2000000000 := Nat.le_trans (Nat.gcd_le_right _ (by omega)) (by omega)
  go_enter Try.func71, Try.ntmps71
  go_wp2_with fail
  refine (spec_l01DivisorI a b _ (by omega) (by omega) (by omega) (by omega)).mono ?_
  rintro e w1 ⟨rfl, hB⟩
  obtain ⟨g, hg⟩ : ∃ g, Nat.gcd a.natAbs b.natAbs = g := ⟨_, rfl⟩
  rw [hg] at hg1 hg2 ⊢
  clear hg
  have hb0 := (Blk.new w 34 #[.int .i64 0, .int .i64 0]).now hB
  obtain ⟨k0, k1⟩ := hb0.c2
  obtain ⟨z0, z1⟩ := hb0.f2
  have hW : Below w.heap.size w w1 := ((Below.refl _ _).alloc (Nat.le_refl _) _).trans (hB.mono (by simp))
  have hm1 : (g : Int) ≠ 0 := by omega
  have hm2 : ((g : Int) == 0) = false := by simp; omega
  have hm3 : g ≠ 0 := by omega
  have hm5 : (1 : Int) ≤ (g : Int) := by omega
  clear hB hb0
  go_wp2_with fail
  go_region
  have hx := tdiv_bd hg1 ha
  have hy := ediv_bd hg1 hb
  obtain ⟨x, hxd⟩ : ∃ x, a.tdiv (g : Int) = x := ⟨_, rfl⟩
  obtain ⟨y, hyd⟩ : ∃ y, b / (g : Int) = y := ⟨_, rfl⟩
  rw [hxd] at hx ⊢
  rw [hyd] at hy ⊢
  have hD := ((hW.setCell (p := ⟨w.heap.size, 0, none⟩) (by simp) (.int .i64 x)).setCell (p := ⟨w.heap.size, 1, none⟩) (by simp) (.int .i64 y)).drew
  clear hxd hyd
  go_wp2
  exact bodyPost_ret (v := .agg #[.int .i64 x, .int .i64 y]) (by simp [results, Try.results71, go_sem, k0, k1]) rfl ⟨x, y, rfl, by omega, by omega, hD⟩
theorem gr_bel {a b : World} {B : Nat} (row : Option Nat) (hB : a.heap.size ≤ B) (h : Below B a b) : a.grownBy b row := ⟨h.os, h.tape, h.output, h.size, fun i hi _ => h.block i (Nat.lt_of_lt_of_le hi hB)⟩
theorem gr_new {w0 W W' : World} {g : Nat} {r : Option Nat} (h : w0.grownBy W (some g)) (hG : W.grownBy W' r) (hr : ∀ k, r = some k → w0.heap.size ≤ k) : w0.grownBy W' (some g) :=
  ⟨hG.os.trans h.os, hG.tape.trans h.tape, hG.output.trans h.output, Nat.le_trans h.size hG.size, fun i hi hn => (hG.block i (Nat.lt_of_lt_of_le hi h.size) (fun e => by have := hr i e.symm; omega)).trans (h.block i hi hn)⟩
/-- What a draw in its own function has: the source, what has turned, a box of its own. -/
structure Dq (w W : World) (g b : Nat) (t : TypeId) (cs : Array Value) : Prop where
  src : Src W g
  gr : w.grownBy W (some g)
  blk : Blk W b t cs
  hb : w.heap.size ≤ b
  hg : g < w.heap.size
theorem Dq.draw {w W W' : World} {g b : Nat} {t : TypeId} {cs : Array Value} (h : Dq w W g b t cs) (ht : t ≠ 136) (hN : Drawn W g W') : Dq w W' g b t cs := ⟨hN.1, grown_trans h.gr hN.2, blk_draw h.blk ht h.src hN, h.hb, h.hg⟩
theorem Dq.now {w W W' : World} {g b : Nat} {t : TypeId} {cs : Array Value} (h : Dq w W g b t cs) (hB : Below W.heap.size W W') : Dq w W' g b t cs := ⟨h.src.now hB, grown_trans h.gr (gr_bel _ (Nat.le_refl _) hB), h.blk.now hB, h.hb, h.hg⟩
theorem Dq.fin2 {w W : World} {g b : Nat} {t : TypeId} {x y : Value} (h : Dq w W g b t #[x, y]) (ht : t ≠ 136) (u v : Value) : Drawn w g ((W.setCell ⟨b, 0, none⟩ u).setCell ⟨b, 1, none⟩ v) := by
  have h1 : W.grownBy ((W.setCell ⟨b, 0, none⟩ u).setCell ⟨b, 1, none⟩ v) (some b) := grown_trans (grown_setC W ⟨b, 0, none⟩ u) (grown_setC _ ⟨b, 1, none⟩ v)
  have hbg := h.hb
  have hgg := h.hg
  exact ⟨h.src.kept h1 (fun k e => by cases e; omega), gr_new h.gr h1 (fun k e => by cases e; omega)⟩
set_option maxHeartbeats 8000000 in
set_option maxRecDepth 100000 in
theorem spec_l01DrawRatio (g : Nat) (w : World) (h : Src w g) :
    Calls Try.prog 70 #[.pointer (some ⟨g, 0, none⟩)] w fun e w' => ∃ x y, e = .returned (.agg #[.int .i64 x, .int .i64 y]) ∧ (-5000000000 ≤ x ∧ x ≤ 5000000000) ∧ (-5000000000 ≤ y ∧ y ≤ 5000000000) ∧ Drawn w g w' := by
  have hgw := h.lt
  go_enter Try.func70, Try.ntmps70
  go_wp2_with fail
  have hA : Below w.heap.size w (w.alloc (.cells #[.int .i64 0, .int .i64 0] 34)) := (Below.refl _ _).alloc (Nat.le_refl _) _
  have hr0 := Blk.newAt w (t := 34) (cs := #[.int .i64 0, .int .i64 0]) _ rfl
  have hS0 := h.now hA
  have hsz : (w.alloc (.cells #[.int .i64 0, .int .i64 0] 34)).heap.size = w.heap.size + 1 := by simp
  have hD : Dq w (w.alloc (.cells #[.int .i64 0, .int .i64 0] 34)) g w.heap.size 34 #[.int .i64 0, .int .i64 0] := ⟨hS0, gr_bel _ (Nat.le_refl _) hA, hr0, Nat.le_refl _, hgw⟩
  refine (spec_l01Next g 80 _ hS0 (by omega)).mono ?_
  rintro e w1 ⟨x1, rfl, hx1, hN1⟩
  replace hD := hD.draw (by decide) hN1
  have hb1 : 0 ≤ x1 ∧ x1 < 80 := ⟨hx1.1, hx1.2.1 (by omega)⟩
  clear hN1 hx1 hS0 hr0 hA hsz
  go_wp2_with fail
  refine (spec_l01Next g 9 _ hD.src (by omega)).mono ?_
  rintro e w2 ⟨x2, rfl, hx2, hN2⟩
  replace hD := hD.draw (by decide) hN2
  have hb2 : 0 ≤ x2 ∧ x2 < 9 := ⟨hx2.1, hx2.2.1 (by omega)⟩
  clear hN2 hx2
  go_wp2_with fail
  refine (spec_l01RatioZ _ _ _ (by omega) (by omega)).mono ?_
  rintro e w3 ⟨x, y, rfl, hx, hy, hB3⟩
  replace hD := hD.now hB3
  have hA3 : Below w3.heap.size w3 (w3.alloc (.cells #[.int .i64 x, .int .i64 y] 34)) := (Below.refl _ _).alloc (Nat.le_refl _) _
  have hr := Blk.newAt w3 (t := 34) (cs := #[.int .i64 x, .int .i64 y]) _ rfl
  clear hB3
  go_wp2_with fail
  replace hD := hD.now hA3
  clear hA3
  generalize w3.alloc (.cells #[.int .i64 x, .int .i64 y] 34) = w4 at *
  generalize w3.heap.size = b3 at *
  refine (spec_l01Next g 24 _ hD.src (by omega)).mono ?_
  rintro e w5 ⟨x5, rfl, hx5, hN5⟩
  replace hr := blk_draw hr (by decide) hD.src hN5
  replace hD := hD.draw (by decide) hN5
  clear hN5 hx5
  have f0 := hD.blk.frozen 0
  have f1 := hD.blk.frozen 1
  have l0 := hD.blk.lt
  obtain ⟨q0, q1⟩ := hD.blk.c2
  obtain ⟨p0, p1⟩ := hr.c2
  have l3 := hr.lt
  by_cases h0 : x5 = 0
  · subst h0
    have hfin := hD.fin2 (by decide) (.int .i64 (2 * x)) (.int .i64 (2 * y))
    go_wp2
    exact bodyPost_ret (v := .agg #[.int .i64 (2 * x), .int .i64 (2 * y)]) (by simp [results, Try.results70, go_sem, q0, q1]) rfl ⟨2 * x, 2 * y, rfl, by omega, by omega, hfin⟩
  · have h0' : (x5 == 0) = false := by simpa using h0
    by_cases h1 : x5 = 1
    · subst h1
      clear q0 q1 p0 p1 f0 f1 l0 l3
      go_wp2_with fail
      have hA6 : Below w5.heap.size w5 (w5.alloc (.cells (intVals [1000000, 1000001, -1000000]) 2)) := (Below.refl _ _).alloc (Nat.le_refl _) _
      refine (spec_l01Pick g w5.heap.size [1000000, 1000001, -1000000] _ (hD.now hA6).src (Blk.newAt _ _ rfl) (by simp) (by simp)).mono ?_
      rintro e w6 ⟨a, ha, rfl, hN⟩
      replace hD := (hD.now hA6).draw (by decide) hN
      have hab : -1000000 ≤ a ∧ a ≤ 1000001 := by simp at ha; omega
      clear ha hN hA6 hr
      go_wp2_with fail
      have hA7 : Below w6.heap.size w6 (w6.alloc (.cells (intVals [1, 1000000, 0, -1]) 2)) := (Below.refl _ _).alloc (Nat.le_refl _) _
      refine (spec_l01Pick g w6.heap.size [1, 1000000, 0, -1] _ (hD.now hA7).src (Blk.newAt _ _ rfl) (by simp) (by simp)).mono ?_
      rintro e w7 ⟨b, hb, rfl, hN⟩
      replace hD := (hD.now hA7).draw (by decide) hN
      have hbb : -1 ≤ b ∧ b ≤ 1000000 := by simp at hb; omega
      clear hb hN hA7
      have f0 := hD.blk.frozen 0
      have f1 := hD.blk.frozen 1
      have l0 := hD.blk.lt
      obtain ⟨q0, q1⟩ := hD.blk.c2
      have hfin := hD.fin2 (by decide) (.int .i64 a) (.int .i64 b)
      go_wp2
      exact bodyPost_ret (v := .agg #[.int .i64 a, .int .i64 b]) (by simp [results, Try.results70, go_sem, q0, q1]) rfl ⟨a, b, rfl, by omega, by omega, hfin⟩
    · have h1' : (x5 == 1) = false := by simpa using h1
      have hfin := hD.fin2 (by decide) (.int .i64 x) (.int .i64 y)
      clear h0 h1
      go_wp2
      exact bodyPost_ret (v := .agg #[.int .i64 x, .int .i64 y]) (by simp [results, Try.results70, go_sem, q0, q1]) rfl ⟨x, y, rfl, by omega, by omega, hfin⟩
/-- What DrawLeastRoom gives. -/
def LrRet (w : World) (e : Ending) (w' : World) : Prop := ∃ ge gp v n x y, e = .returned (.tuple #[.agg #[.int .i64 ge, v], .int .i64 n, .agg #[.int .i64 x, .int .i64 y]]) ∧ 0 ≤ ge ∧ ge ≤ 11 ∧ gp.length ≤ 40 ∧ Own Place.cells 4 101 w' w.heap.size v gp ∧ Below w.heap.size w w'
set_option maxHeartbeats 4000000 in
set_option maxRecDepth 100000 in
theorem spec_DrawLeastRoom (cv : Value) (bs : List Int) (w : World) (h0 : Lst byteCell 1 w w.heap.size cv bs) (hbv : Hid (∀ b ∈ bs, 0 ≤ b ∧ b ≤ 255)) :
    Calls Try.prog 23 #[cv] w (LrRet w) := by
  go_enter Try.func23, Try.ntmps23
  go_wp2_with fail
  have hA : Below w.heap.size w ((w.alloc (.cells #[.int .i64 0, .slice none 0 0] 32)).alloc (.cells #[.int .i64 0, .int .i64 0] 34)) := ((Below.refl _ _).alloc (Nat.le_refl _) _).alloc (by simp) _
  have hres : Blk ((w.alloc (.cells #[.int .i64 0, .slice none 0 0] 32)).alloc (.cells #[.int .i64 0, .int .i64 0] 34)) w.heap.size 32 #[.int .i64 0, .slice none 0 0] := (Blk.newAt w _ rfl).alloc _
  have hst : Blk ((w.alloc (.cells #[.int .i64 0, .slice none 0 0] 32)).alloc (.cells #[.int .i64 0, .int .i64 0] 34)) (w.heap.size + 1) 34 #[.int .i64 0, .int .i64 0] := Blk.newAt _ _ (by simp)
  have hszA : ((w.alloc (.cells #[.int .i64 0, .slice none 0 0] 32)).alloc (.cells #[.int .i64 0, .int .i64 0] 34)).heap.size = w.heap.size + 1 + 1 := by simp
  refine (spec_l01From _ bs _ (h0.now hA) hbv).mono ?_
  rintro e w1 ⟨rfl, hS, hB1⟩
  rw [hszA] at hS hB1 ⊢
  have hB : Below w.heap.size w w1 := hA.trans (hB1.mono (by omega))
  replace hres := hres.below hB1 (by omega)
  replace hst := hst.below hB1 (by omega)
  obtain ⟨b4, hb4⟩ : ∃ b4, w.heap.size + 1 = b4 := ⟨_, rfl⟩
  rw [hb4] at hst hS ⊢
  obtain ⟨b2, hb2⟩ : ∃ b2, w.heap.size = b2 := ⟨_, rfl⟩
  obtain ⟨g, hg⟩ : ∃ g, b4 + 1 = g := ⟨_, rfl⟩
  have hgb : w.heap.size ≤ g := by omega
  rw [hg] at hS ⊢
  rw [hb2] at hres
  rw [show (Value.pointer (some ⟨w.heap.size, 0, none⟩)) = .pointer (some ⟨b2, 0, none⟩) by rw [hb2]]
  have hb2w : w.heap.size ≤ b2 := by omega
  have hb4w : w.heap.size ≤ b4 := by omega
  have hne24 : b2 ≠ b4 := by omega
  have hs1 := hB.size
  clear hA hszA hB1 hb2 hg hb4
  go_wp2_with fail
  refine (spec_l11DrawIndex g _ hS).mono ?_
  rintro e w2 ⟨ge, gp, v, n, rfl, hg0, hg1, hlen, hn1, hn2, hO, hN⟩
  obtain ⟨A, c, rfl⟩ := hO.shape
  have hcl : gp.length ≤ c := own_cap hO
  replace hO := hO.rebase hs1
  replace hres := blk_draw hres (by decide) hS hN
  replace hst := blk_draw hst (by decide) hS hN
  replace hB := below_draw hB hs1 hgb hN
  replace hS := hN.1
  have hs2 := hB.size
  have hgw2 := hS.lt
  clear hN hs1
  have hne : b2 ≠ w2.heap.size := by have := hres.lt; omega
  have hne4 : b4 ≠ w2.heap.size := by have := hst.lt; omega
  have hb0 := Blk.newAt w2 (t := 32) (cs := #[.int .i64 ge, .slice A gp.length c]) _ rfl
  have l0 := hb0.lt
  obtain ⟨e0, e1⟩ := hb0.c2
  have q0 := hb0.frozen 0
  have q1 := hb0.frozen 1
  by_cases h9 : 9 < gp.length
  · have h9I : (9 : Int) < (gp.length : Int) := by omega
    have h9c : (9 : Int) ≤ (c : Int) := by omega
    have h9c2 : 9 ≤ c := by omega
    have hlt9 : (gp.take 9).length ≤ 40 := by simp; omega
    go_wp2_with fail
    clear l0 e0 e1 q0 q1 hb0
    have hA2 : Below w2.heap.size w2 (w2.alloc (.cells #[.int .i64 ge, .slice A 9 c] 32)) := (Below.refl _ _).alloc (Nat.le_refl _) _
    have hbox := Blk.newAt w2 (t := 32) (cs := #[.int .i64 ge, .slice A 9 c]) _ rfl
    replace hO := own_take Place.cells_len hO 9 (by omega)
    replace hO := hO.now hA2
    replace hres := hres.now hA2
    replace hst := hst.now hA2
    replace hB := hB.trans (hA2.mono hs2)
    replace hS := hS.now hA2
    clear hA2
    obtain ⟨bg, hbg⟩ : ∃ bg, w2.heap.size = bg := ⟨_, rfl⟩
    have hbgw : w.heap.size ≤ bg := by omega
    rw [hbg] at hbox hne hne4 ⊢
    generalize w2.alloc (.cells #[.int .i64 ge, .slice A 9 c] 32) = wa at *
    clear hbg hs2 hgw2
    have hBd : Below wa.heap.size wa wa.drew := Below.drew (Below.refl _ wa)
    replace hO := hO.now hBd
    replace hres := hres.now hBd
    replace hst := hst.now hBd
    replace hbox := hbox.now hBd
    replace hB := hB.trans (hBd.mono hB.size)
    replace hS := hS.now hBd
    obtain ⟨e0, e1⟩ := hbox.c2
    have lbg := hbox.lt
    clear hBd
    go_wp2_with fail
    refine wp_region_held_drew (S := fun w' => w'.cell? ⟨bg, 0, none⟩ = some (.int .i64 ge) ∧ w'.cell? ⟨bg, 1, none⟩ = some (.slice A 9 c)) (by kernel_rfl) ⟨e0, e1⟩ (fun hH => ?_)
    generalize wa.drew = Va at *
    refine tkH 0 (v := ?_) rfl (fun _ _ _ h => h) (Or.inl ⟨by rfl, ?_⟩) hH ?_
    rotate_left
    · intro w9 hSw
      try dsimp only at hSw
      obtain ⟨s0, s1⟩ := hSw
      go_simp
      try with_reducible rfl
    try simp only [Act.put, List.setIfInBounds_toArray, List.set_cons_zero, List.set_cons_succ]
    refine tkH 1 (v := ?_) rfl (fun _ _ _ h => h) (Or.inl ⟨by rfl, ?_⟩) hH ?_
    rotate_left
    · intro w9 hSw
      try dsimp only at hSw
      obtain ⟨s0, s1⟩ := hSw
      go_simp
      try with_reducible rfl
    try simp only [Act.put, List.setIfInBounds_toArray, List.set_cons_zero, List.set_cons_succ]
    refine tkH 2 (v := ?_) rfl (fun _ _ _ h => h) (Or.inl ⟨by rfl, ?_⟩) hH ?_
    rotate_left
    · intro w9 hSw
      try dsimp only at hSw
      obtain ⟨s0, s1⟩ := hSw
      go_simp
      try with_reducible rfl
    try simp only [Act.put, List.setIfInBounds_toArray, List.set_cons_zero, List.set_cons_succ]
    refine wpAnyH_ready (rs := [3]) (by kernel_rfl) (by simp) ?_
    refine AllReadyH.cons rfl (fun K hK => ?_) AllReadyH.nil
    go_simp
    go_at_call 69
    refine (spec_l01Next g 40 _ hS (by omega)).mono ?_
    rintro e vb ⟨kk, rfl, hkk, hN⟩
    replace hO := own_draw hO (by decide) hS hN
    replace hres := blk_draw hres (by decide) hS hN
    replace hst := blk_draw hst (by decide) hS hN
    replace hbox := blk_draw hbox (by decide) hS hN
    replace hB := below_draw hB hB.size hgb hN
    replace hS := hN.1
    clear hN
    clear hkk e0 e1 lbg
    obtain ⟨e0, e1⟩ := hbox.c2
    refine hK.out _ _ ⟨e0, e1⟩ (fun hH => ?_)
    clear hK K
    try simp only [Act.put, List.setIfInBounds_toArray, List.set_cons_zero, List.set_cons_succ]
    refine tkH 4 (v := ?_) rfl (fun _ _ _ h => h) (Or.inl ⟨by rfl, ?_⟩) hH ?_
    rotate_left
    · intro w9 hSw
      try dsimp only at hSw
      obtain ⟨s0, s1⟩ := hSw
      go_simp
      try with_reducible rfl
    try simp only [Act.put, List.setIfInBounds_toArray, List.set_cons_zero, List.set_cons_succ]
    have f0 := hres.frozen 0
    have f1 := hres.frozen 1
    have lb2 := hres.lt
    obtain ⟨r0, r1⟩ := hres.c2
    have hst2 := (hst.far (p := ⟨b2, 0, none⟩) (Ne.symm hne24) (.int .i64 ge)).far (p := ⟨b2, 1, none⟩) (Ne.symm hne24) (.slice A 9 c)
    have f02 := hst2.frozen 0
    have f12 := hst2.frozen 1
    have lb4 := hst2.lt
    obtain ⟨r02, r12⟩ := hst2.c2
    have hbx := (hbox.far (p := ⟨b2, 0, none⟩) (Ne.symm hne) (.int .i64 ge)).far (p := ⟨b2, 1, none⟩) (Ne.symm hne) (.slice A 9 c)
    obtain ⟨x0, x1⟩ := hbx.c2
    have hbx2 := (hbx.far (p := ⟨b4, 0, none⟩) (Ne.symm hne4) (.int .i64 kk)).far (p := ⟨b4, 1, none⟩) (Ne.symm hne4) (.int .i64 1)
    obtain ⟨y0, y1⟩ := hbx2.c2
    have hq1 := Lib.hid (own_far (own_far (own_far (own_far hO (p := ⟨b2, 0, none⟩) (hO.ne_blk hres (by decide)) (.int .i64 ge)) (p := ⟨b2, 1, none⟩) (hO.ne_blk hres (by decide)) (.slice A 9 c)) (p := ⟨b4, 0, none⟩) (hO.ne_blk hst (by decide)) (.int .i64 kk)) (p := ⟨b4, 1, none⟩) (hO.ne_blk hst (by decide)) (.int .i64 1))
    have hq3 := Lib.hid ((((hB.setCell (p := ⟨b2, 0, none⟩) hb2w (.int .i64 ge)).setCell (p := ⟨b2, 1, none⟩) hb2w (.slice A 9 c)).setCell (p := ⟨b4, 0, none⟩) hb4w (.int .i64 kk)).setCell (p := ⟨b4, 1, none⟩) hb4w (.int .i64 1))
    refine wpAnyH_ready (rs := [5]) (by kernel_rfl) (by simp) ?_
    refine AllReadyH.cons rfl (fun K hK => ?_) AllReadyH.nil
    go_simp
    refine hK.out _ _ ⟨x0, x1⟩ (fun hH => ?_)
    clear hK K
    try simp only [Act.put, List.setIfInBounds_toArray, List.set_cons_zero, List.set_cons_succ]
    refine tkH 6 (v := ?_) rfl (fun _ _ _ h => h) (Or.inl ⟨by rfl, ?_⟩) hH ?_
    rotate_left
    · intro w9 hSw
      try dsimp only at hSw
      obtain ⟨s0, s1⟩ := hSw
      go_simp
      try with_reducible rfl
    try simp only [Act.put, List.setIfInBounds_toArray, List.set_cons_zero, List.set_cons_succ]
    refine wpAnyH_ready (rs := [7]) (by kernel_rfl) (by simp) ?_
    refine AllReadyH.cons rfl (fun K hK => ?_) AllReadyH.nil
    go_simp
    refine hK.out _ _ ⟨y0, y1⟩ (fun hH => ?_)
    clear hK K
    try simp only [Act.put, List.setIfInBounds_toArray, List.set_cons_zero, List.set_cons_succ]
    refine wpAnyH_done (by kernel_rfl) ?_ _
    clear hH hbx hbx2 hst2 x0 x1 y0 y1 e0 e1 hO hres hst hbox hB hS
    have hln := Lib.hid hlt9
    go_wp2
    refine bodyPost_ret (v := .tuple #[.agg #[.int .i64 ge, .slice A 9 c], .int .i64 n, .agg #[.int .i64 kk, .int .i64 1]]) (by simp [results, Try.results23, go_sem, r0, r1, r02, r12, hne24, Ne.symm hne24]) rfl ⟨ge, gp.take 9, _, n, kk, 1, rfl, by omega, by omega, hln.out, hq1.out, hq3.out⟩
  · have h9I : ¬ (9 : Int) < (gp.length : Int) := by omega
    go_wp2_with fail
    clear l0 e0 e1 q0 q1 hb0
    have hA2 : Below w2.heap.size w2 (w2.alloc (.cells #[.int .i64 ge, .slice A gp.length c] 32)) := (Below.refl _ _).alloc (Nat.le_refl _) _
    have hbox := Blk.newAt w2 (t := 32) (cs := #[.int .i64 ge, .slice A gp.length c]) _ rfl
    replace hO := hO.now hA2
    replace hres := hres.now hA2
    replace hst := hst.now hA2
    replace hB := hB.trans (hA2.mono hs2)
    replace hS := hS.now hA2
    clear hA2
    obtain ⟨bg, hbg⟩ : ∃ bg, w2.heap.size = bg := ⟨_, rfl⟩
    have hbgw : w.heap.size ≤ bg := by omega
    rw [hbg] at hbox hne hne4 ⊢
    generalize w2.alloc (.cells #[.int .i64 ge, .slice A gp.length c] 32) = wa at *
    clear hbg hs2 hgw2
    have hBd : Below wa.heap.size wa wa.drew := Below.drew (Below.refl _ wa)
    replace hO := hO.now hBd
    replace hres := hres.now hBd
    replace hst := hst.now hBd
    replace hbox := hbox.now hBd
    replace hB := hB.trans (hBd.mono hB.size)
    replace hS := hS.now hBd
    obtain ⟨e0, e1⟩ := hbox.c2
    have lbg := hbox.lt
    clear hBd
    go_wp2_with fail
    refine wp_region_held_drew (S := fun w' => w'.cell? ⟨bg, 0, none⟩ = some (.int .i64 ge) ∧ w'.cell? ⟨bg, 1, none⟩ = some (.slice A gp.length c)) (by kernel_rfl) ⟨e0, e1⟩ (fun hH => ?_)
    generalize wa.drew = Va at *
    refine tkH 0 (v := ?_) rfl (fun _ _ _ h => h) (Or.inl ⟨by rfl, ?_⟩) hH ?_
    rotate_left
    · intro w9 hSw
      try dsimp only at hSw
      obtain ⟨s0, s1⟩ := hSw
      go_simp
      try with_reducible rfl
    try simp only [Act.put, List.setIfInBounds_toArray, List.set_cons_zero, List.set_cons_succ]
    refine tkH 1 (v := ?_) rfl (fun _ _ _ h => h) (Or.inl ⟨by rfl, ?_⟩) hH ?_
    rotate_left
    · intro w9 hSw
      try dsimp only at hSw
      obtain ⟨s0, s1⟩ := hSw
      go_simp
      try with_reducible rfl
    try simp only [Act.put, List.setIfInBounds_toArray, List.set_cons_zero, List.set_cons_succ]
    refine tkH 2 (v := ?_) rfl (fun _ _ _ h => h) (Or.inl ⟨by rfl, ?_⟩) hH ?_
    rotate_left
    · intro w9 hSw
      try dsimp only at hSw
      obtain ⟨s0, s1⟩ := hSw
      go_simp
      try with_reducible rfl
    try simp only [Act.put, List.setIfInBounds_toArray, List.set_cons_zero, List.set_cons_succ]
    refine wpAnyH_ready (rs := [3]) (by kernel_rfl) (by simp) ?_
    refine AllReadyH.cons rfl (fun K hK => ?_) AllReadyH.nil
    go_simp
    go_at_call 69
    refine (spec_l01Next g 40 _ hS (by omega)).mono ?_
    rintro e vb ⟨kk, rfl, hkk, hN⟩
    replace hO := own_draw hO (by decide) hS hN
    replace hres := blk_draw hres (by decide) hS hN
    replace hst := blk_draw hst (by decide) hS hN
    replace hbox := blk_draw hbox (by decide) hS hN
    replace hB := below_draw hB hB.size hgb hN
    replace hS := hN.1
    clear hN
    clear hkk e0 e1 lbg
    obtain ⟨e0, e1⟩ := hbox.c2
    refine hK.out _ _ ⟨e0, e1⟩ (fun hH => ?_)
    clear hK K
    try simp only [Act.put, List.setIfInBounds_toArray, List.set_cons_zero, List.set_cons_succ]
    refine tkH 4 (v := ?_) rfl (fun _ _ _ h => h) (Or.inl ⟨by rfl, ?_⟩) hH ?_
    rotate_left
    · intro w9 hSw
      try dsimp only at hSw
      obtain ⟨s0, s1⟩ := hSw
      go_simp
      try with_reducible rfl
    try simp only [Act.put, List.setIfInBounds_toArray, List.set_cons_zero, List.set_cons_succ]
    have f0 := hres.frozen 0
    have f1 := hres.frozen 1
    have lb2 := hres.lt
    obtain ⟨r0, r1⟩ := hres.c2
    have hst2 := (hst.far (p := ⟨b2, 0, none⟩) (Ne.symm hne24) (.int .i64 ge)).far (p := ⟨b2, 1, none⟩) (Ne.symm hne24) (.slice A gp.length c)
    have f02 := hst2.frozen 0
    have f12 := hst2.frozen 1
    have lb4 := hst2.lt
    obtain ⟨r02, r12⟩ := hst2.c2
    have hbx := (hbox.far (p := ⟨b2, 0, none⟩) (Ne.symm hne) (.int .i64 ge)).far (p := ⟨b2, 1, none⟩) (Ne.symm hne) (.slice A gp.length c)
    obtain ⟨x0, x1⟩ := hbx.c2
    have hbx2 := (hbx.far (p := ⟨b4, 0, none⟩) (Ne.symm hne4) (.int .i64 kk)).far (p := ⟨b4, 1, none⟩) (Ne.symm hne4) (.int .i64 1)
    obtain ⟨y0, y1⟩ := hbx2.c2
    have hq1 := Lib.hid (own_far (own_far (own_far (own_far hO (p := ⟨b2, 0, none⟩) (hO.ne_blk hres (by decide)) (.int .i64 ge)) (p := ⟨b2, 1, none⟩) (hO.ne_blk hres (by decide)) (.slice A gp.length c)) (p := ⟨b4, 0, none⟩) (hO.ne_blk hst (by decide)) (.int .i64 kk)) (p := ⟨b4, 1, none⟩) (hO.ne_blk hst (by decide)) (.int .i64 1))
    have hq3 := Lib.hid ((((hB.setCell (p := ⟨b2, 0, none⟩) hb2w (.int .i64 ge)).setCell (p := ⟨b2, 1, none⟩) hb2w (.slice A gp.length c)).setCell (p := ⟨b4, 0, none⟩) hb4w (.int .i64 kk)).setCell (p := ⟨b4, 1, none⟩) hb4w (.int .i64 1))
    refine wpAnyH_ready (rs := [5]) (by kernel_rfl) (by simp) ?_
    refine AllReadyH.cons rfl (fun K hK => ?_) AllReadyH.nil
    go_simp
    refine hK.out _ _ ⟨x0, x1⟩ (fun hH => ?_)
    clear hK K
    try simp only [Act.put, List.setIfInBounds_toArray, List.set_cons_zero, List.set_cons_succ]
    refine tkH 6 (v := ?_) rfl (fun _ _ _ h => h) (Or.inl ⟨by rfl, ?_⟩) hH ?_
    rotate_left
    · intro w9 hSw
      try dsimp only at hSw
      obtain ⟨s0, s1⟩ := hSw
      go_simp
      try with_reducible rfl
    try simp only [Act.put, List.setIfInBounds_toArray, List.set_cons_zero, List.set_cons_succ]
    refine wpAnyH_ready (rs := [7]) (by kernel_rfl) (by simp) ?_
    refine AllReadyH.cons rfl (fun K hK => ?_) AllReadyH.nil
    go_simp
    refine hK.out _ _ ⟨y0, y1⟩ (fun hH => ?_)
    clear hK K
    try simp only [Act.put, List.setIfInBounds_toArray, List.set_cons_zero, List.set_cons_succ]
    refine wpAnyH_done (by kernel_rfl) ?_ _
    clear hH hbx hbx2 hst2 x0 x1 y0 y1 e0 e1 hO hres hst hbox hB hS
    have hln := Lib.hid hlen
    go_wp2
    refine bodyPost_ret (v := .tuple #[.agg #[.int .i64 ge, .slice A gp.length c], .int .i64 n, .agg #[.int .i64 kk, .int .i64 1]]) (by simp [results, Try.results23, go_sem, r0, r1, r02, r12, hne24, Ne.symm hne24]) rfl ⟨ge, gp, _, n, kk, 1, rfl, by omega, by omega, hln.out, hq1.out, hq3.out⟩
theorem ct_le {ge : Int} {gp : List Place} {a b : Int} (h : ctF ge gp = (a, b, 0)) : (0 ≤ a ∧ a ≤ 10000) ∧ 1 ≤ b ∧ b ≤ 50 := by
  have hr := ct_res ge gp
  rw [h] at hr
  cases hg : okGraph ge gp
  · have := (hr.bad hg).2.2
    simp at this
  · have hge := okGraph_ev hg
    obtain ⟨n, rfl⟩ := Int.eq_ofNat_of_zero_le (show 0 ≤ ge by omega)
    cases ho : orderF (n : Int).toNat gp with
    | none =>
      have := (hr.dead hg ho).2.2
      simp at this
    | some o =>
      by_cases hm : ∃ m, circuitB gp m = true
      · have h1 := (hr.some hg ⟨o, ho⟩ hm).1
        have h2 := h1.le hg ⟨o, by simpa using ho⟩
        have h3 := h1.1
        have h4 := h1.2.1
        simp only at h2 h3 h4
        omega
      · have := (hr.none hg ⟨o, ho⟩ hm).2.2
        simp at this
/-- What DrawLeastRooms gives. -/
def LsRet (w : World) (e : Ending) (w' : World) : Prop := ∃ ge gp v u x y, e = .returned (.tuple #[.agg #[.int .i64 ge, v], u, .agg #[.int .i64 x, .int .i64 y]]) ∧ 0 ≤ ge ∧ ge ≤ 11 ∧ gp.length ≤ 40 ∧ Own Place.cells 4 101 w' w.heap.size v gp ∧ RmRet w.heap.size w' u ∧ Below w.heap.size w w'
set_option maxHeartbeats 8000000 in
set_option maxRecDepth 100000 in
theorem spec_DrawLeastRooms (cv : Value) (bs : List Int) (w : World) (h0 : Lst byteCell 1 w w.heap.size cv bs) (hbv : Hid (∀ b ∈ bs, 0 ≤ b ∧ b ≤ 255)) :
    Calls Try.prog 22 #[cv] w (LsRet w) := by
  go_enter Try.func22, Try.ntmps22
  go_wp2_with fail
  have hA : Below w.heap.size w ((w.alloc (.cells #[.int .i64 0, .slice none 0 0] 32)).alloc (.cells #[.int .i64 0, .int .i64 0] 34)) := ((Below.refl _ _).alloc (Nat.le_refl _) _).alloc (by simp) _
  have hres : Blk ((w.alloc (.cells #[.int .i64 0, .slice none 0 0] 32)).alloc (.cells #[.int .i64 0, .int .i64 0] 34)) w.heap.size 32 #[.int .i64 0, .slice none 0 0] := (Blk.newAt w _ rfl).alloc _
  have hst : Blk ((w.alloc (.cells #[.int .i64 0, .slice none 0 0] 32)).alloc (.cells #[.int .i64 0, .int .i64 0] 34)) (w.heap.size + 1) 34 #[.int .i64 0, .int .i64 0] := Blk.newAt _ _ (by simp)
  have hszA : ((w.alloc (.cells #[.int .i64 0, .slice none 0 0] 32)).alloc (.cells #[.int .i64 0, .int .i64 0] 34)).heap.size = w.heap.size + 1 + 1 := by simp
  refine (spec_l01From _ bs _ (h0.now hA) hbv).mono ?_
  rintro e w1 ⟨rfl, hS, hB1⟩
  rw [hszA] at hS hB1 ⊢
  have hB : Below w.heap.size w w1 := hA.trans (hB1.mono (by omega))
  replace hres := hres.below hB1 (by omega)
  replace hst := hst.below hB1 (by omega)
  obtain ⟨b4, hb4⟩ : ∃ b4, w.heap.size + 1 = b4 := ⟨_, rfl⟩
  rw [hb4] at hst hS ⊢
  obtain ⟨b2, hb2⟩ : ∃ b2, w.heap.size = b2 := ⟨_, rfl⟩
  obtain ⟨g, hg⟩ : ∃ g, b4 + 1 = g := ⟨_, rfl⟩
  have hgb : w.heap.size ≤ g := by omega
  rw [hg] at hS ⊢
  rw [hb2] at hres
  rw [show (Value.pointer (some ⟨w.heap.size, 0, none⟩)) = .pointer (some ⟨b2, 0, none⟩) by rw [hb2]]
  have hb2w : w.heap.size ≤ b2 := by omega
  have hb4w : w.heap.size ≤ b4 := by omega
  have hne24 : b2 ≠ b4 := by omega
  have hs1 := hB.size
  clear hA hszA hB1 hb2 hg hb4
  go_wp2_with fail
  refine (spec_l16Draw g 2 _ hS (by omega)).mono ?_
  rintro e w2 ⟨ge, gp, v, u, rfl, hg0, hg1, hlen, hO, ⟨l, hll, hU⟩, hN⟩
  obtain ⟨A, c, rfl⟩ := hO.shape
  obtain ⟨Y, cy, rfl⟩ := hU.shape
  replace hO := hO.rebase hs1
  replace hU := hU.rebase hs1
  replace hres := blk_draw hres (by decide) hS hN
  replace hst := blk_draw hst (by decide) hS hN
  replace hB := below_draw hB hs1 hgb hN
  replace hS := hN.1
  have hs2 := hB.size
  clear hN hs1
  have hne : b2 ≠ w2.heap.size := by have := hres.lt; omega
  have hne4 : b4 ≠ w2.heap.size := by have := hst.lt; omega
  have hA2 : Below w2.heap.size w2 (w2.alloc (.cells #[.int .i64 ge, .slice A gp.length c] 32)) := (Below.refl _ _).alloc (Nat.le_refl _) _
  have hbox := Blk.newAt w2 (t := 32) (cs := #[.int .i64 ge, .slice A gp.length c]) _ rfl
  go_wp2_with fail
  replace hO := hO.now hA2
  replace hU := hU.now hA2
  replace hres := hres.now hA2
  replace hst := hst.now hA2
  replace hB := hB.trans (hA2.mono hs2)
  replace hS := hS.now hA2
  clear hA2
  obtain ⟨bg, hbg⟩ : ∃ bg, w2.heap.size = bg := ⟨_, rfl⟩
  have hbgw : w.heap.size ≤ bg := by omega
  rw [hbg] at hbox hne hne4 ⊢
  generalize w2.alloc (.cells #[.int .i64 ge, .slice A gp.length c] 32) = wx at *
  clear hbg hs2
  obtain ⟨ra, rb, rc, hct⟩ : ∃ ra rb rc, ctF ge gp = (ra, rb, rc) := ⟨_, _, _, rfl⟩
  have hctH := Lib.hid hct
  refine (spec_CycleTime _ ge gp _ hO.lst).mono ?_
  rintro e w3 ⟨rfl, hB3⟩
  rw [hct]
  replace hO := hO.now hB3
  replace hU := hU.now hB3
  replace hres := hres.now hB3
  replace hst := hst.now hB3
  replace hbox := hbox.now hB3
  replace hB := hB.trans (hB3.mono hB.size)
  replace hS := hS.now hB3
  have hs3 := hB.size
  clear hB3 hct
  have hne2r : b2 ≠ w3.heap.size := by have := hres.lt; omega
  have hne4r : b4 ≠ w3.heap.size := by have := hst.lt; omega
  have hA3 : Below w3.heap.size w3 (w3.alloc (.cells #[.int .i64 ra, .int .i64 rb] 34)) := (Below.refl _ _).alloc (Nat.le_refl _) _
  have hbr := Blk.newAt w3 (t := 34) (cs := #[.int .i64 ra, .int .i64 rb]) _ rfl
  replace hO := hO.now hA3
  replace hU := hU.now hA3
  replace hres := hres.now hA3
  replace hst := hst.now hA3
  replace hbox := hbox.now hA3
  replace hB := hB.trans (hA3.mono hs3)
  replace hS := hS.now hA3
  by_cases hrc : rc = 0
  · subst hrc
    have hcb := ct_le hctH.out
    go_wp2_with fail
    clear hA3 hs3
    obtain ⟨br, hbr0⟩ : ∃ br, w3.heap.size = br := ⟨_, rfl⟩
    rw [hbr0] at hbr hne2r hne4r ⊢
    generalize w3.alloc (.cells #[.int .i64 ra, .int .i64 rb] 34) = w4 at *
    clear hbr0
    refine (spec_l01Next g 3 _ hS (by omega)).mono ?_
    rintro e wa ⟨x4, rfl, hx4, hN⟩
    replace hO := own_draw hO (by decide) hS hN
    replace hU := own_draw hU (by decide) hS hN
    replace hres := blk_draw hres (by decide) hS hN
    replace hst := blk_draw hst (by decide) hS hN
    replace hbox := blk_draw hbox (by decide) hS hN
    replace hbr := blk_draw hbr (by decide) hS hN
    replace hB := below_draw hB hB.size hgb hN
    replace hS := hN.1
    clear hN hx4
    by_cases h0x : x4 = 0
    · subst h0x
      clear hbr
      have hBd : Below wa.heap.size wa wa.drew := Below.drew (Below.refl _ wa)
      replace hO := hO.now hBd
      replace hU := hU.now hBd
      replace hres := hres.now hBd
      replace hst := hst.now hBd
      replace hbox := hbox.now hBd
      replace hB := hB.trans (hBd.mono hB.size)
      replace hS := hS.now hBd
      obtain ⟨e0, e1⟩ := hbox.c2
      have lbg := hbox.lt
      clear hBd
      go_wp2_with fail
      refine wp_region_held_drew (S := fun w' => w'.cell? ⟨bg, 0, none⟩ = some (.int .i64 ge) ∧ w'.cell? ⟨bg, 1, none⟩ = some (.slice A gp.length c)) (by kernel_rfl) ⟨e0, e1⟩ (fun hH => ?_)
      generalize wa.drew = Va at *
      refine tkH 0 (v := ?_) rfl (fun _ _ _ h => h) (Or.inl ⟨by rfl, ?_⟩) hH ?_
      rotate_left
      · intro w9 hSw
        try dsimp only at hSw
        obtain ⟨s0, s1⟩ := hSw
        go_simp
        try with_reducible rfl
      try simp only [Act.put, List.setIfInBounds_toArray, List.set_cons_zero, List.set_cons_succ]
      refine tkH 1 (v := ?_) rfl (fun _ _ _ h => h) (Or.inl ⟨by rfl, ?_⟩) hH ?_
      rotate_left
      · intro w9 hSw
        try dsimp only at hSw
        obtain ⟨s0, s1⟩ := hSw
        go_simp
        try with_reducible rfl
      try simp only [Act.put, List.setIfInBounds_toArray, List.set_cons_zero, List.set_cons_succ]
      refine tkH 2 (v := ?_) rfl (fun _ _ _ h => h) (Or.inl ⟨by rfl, ?_⟩) hH ?_
      rotate_left
      · intro w9 hSw
        try dsimp only at hSw
        obtain ⟨s0, s1⟩ := hSw
        go_simp
        try with_reducible rfl
      try simp only [Act.put, List.setIfInBounds_toArray, List.set_cons_zero, List.set_cons_succ]
      refine wpAnyH_ready (rs := [3]) (by kernel_rfl) (by simp) ?_
      refine AllReadyH.cons rfl (fun K hK => ?_) AllReadyH.nil
      go_simp
      go_at_call 70
      refine (spec_l01DrawRatio g _ hS).mono ?_
      rintro e vb ⟨kk, kd, rfl, hkk, hkd, hN⟩
      replace hO := own_draw hO (by decide) hS hN
      replace hU := own_draw hU (by decide) hS hN
      replace hres := blk_draw hres (by decide) hS hN
      replace hst := blk_draw hst (by decide) hS hN
      replace hbox := blk_draw hbox (by decide) hS hN
      replace hB := below_draw hB hB.size hgb hN
      replace hS := hN.1
      clear hN
      clear e0 e1 lbg
      obtain ⟨e0, e1⟩ := hbox.c2
      refine hK.out _ _ ⟨e0, e1⟩ (fun hH => ?_)
      clear hK K
      try simp only [Act.put, List.setIfInBounds_toArray, List.set_cons_zero, List.set_cons_succ]
      have f0 := hres.frozen 0
      have f1 := hres.frozen 1
      have lb2 := hres.lt
      obtain ⟨r0, r1⟩ := hres.c2
      have hst2 := (hst.far (p := ⟨b2, 0, none⟩) (Ne.symm hne24) (.int .i64 ge)).far (p := ⟨b2, 1, none⟩) (Ne.symm hne24) (.slice A gp.length c)
      have f02 := hst2.frozen 0
      have f12 := hst2.frozen 1
      have lb4 := hst2.lt
      obtain ⟨r02, r12⟩ := hst2.c2
      have hbx := (hbox.far (p := ⟨b2, 0, none⟩) (Ne.symm hne) (.int .i64 ge)).far (p := ⟨b2, 1, none⟩) (Ne.symm hne) (.slice A gp.length c)
      obtain ⟨x0, x1⟩ := hbx.c2
      have hbx2 := (hbx.far (p := ⟨b4, 0, none⟩) (Ne.symm hne4) (.int .i64 kk)).far (p := ⟨b4, 1, none⟩) (Ne.symm hne4) (.int .i64 kd)
      obtain ⟨y0, y1⟩ := hbx2.c2
      have hq1 := Lib.hid (own_far (own_far (own_far (own_far hO (p := ⟨b2, 0, none⟩) (hO.ne_blk hres (by decide)) (.int .i64 ge)) (p := ⟨b2, 1, none⟩) (hO.ne_blk hres (by decide)) (.slice A gp.length c)) (p := ⟨b4, 0, none⟩) (hO.ne_blk hst (by decide)) (.int .i64 kk)) (p := ⟨b4, 1, none⟩) (hO.ne_blk hst (by decide)) (.int .i64 kd))
      have hq3 := Lib.hid ((((hB.setCell (p := ⟨b2, 0, none⟩) hb2w (.int .i64 ge)).setCell (p := ⟨b2, 1, none⟩) hb2w (.slice A gp.length c)).setCell (p := ⟨b4, 0, none⟩) hb4w (.int .i64 kk)).setCell (p := ⟨b4, 1, none⟩) hb4w (.int .i64 kd))
      have hq2 := Lib.hid (own_far (own_far (own_far (own_far hU (p := ⟨b2, 0, none⟩) (hU.ne_blk hres (by decide)) (.int .i64 ge)) (p := ⟨b2, 1, none⟩) (hU.ne_blk hres (by decide)) (.slice A gp.length c)) (p := ⟨b4, 0, none⟩) (hU.ne_blk hst (by decide)) (.int .i64 kk)) (p := ⟨b4, 1, none⟩) (hU.ne_blk hst (by decide)) (.int .i64 kd))
      refine wpAnyH_ready (rs := [4]) (by kernel_rfl) (by simp) ?_
      refine AllReadyH.cons rfl (fun K hK => ?_) AllReadyH.nil
      go_simp
      refine hK.out _ _ ⟨x0, x1⟩ (fun hH => ?_)
      clear hK K
      try simp only [Act.put, List.setIfInBounds_toArray, List.set_cons_zero, List.set_cons_succ]
      refine tkH 5 (v := ?_) rfl (fun _ _ _ h => h) (Or.inl ⟨by rfl, ?_⟩) hH ?_
      rotate_left
      · intro w9 hSw
        try dsimp only at hSw
        obtain ⟨s0, s1⟩ := hSw
        go_simp
        try with_reducible rfl
      try simp only [Act.put, List.setIfInBounds_toArray, List.set_cons_zero, List.set_cons_succ]
      refine wpAnyH_ready (rs := [6]) (by kernel_rfl) (by simp) ?_
      refine AllReadyH.cons rfl (fun K hK => ?_) AllReadyH.nil
      go_simp
      refine hK.out _ _ ⟨y0, y1⟩ (fun hH => ?_)
      clear hK K
      try simp only [Act.put, List.setIfInBounds_toArray, List.set_cons_zero, List.set_cons_succ]
      refine wpAnyH_done (by kernel_rfl) ?_ _
      clear hH hbx hbx2 hst2 x0 x1 y0 y1 e0 e1 hO hU hres hst hbox hB hS
      have hln := Lib.hid hlen
      go_wp2
      refine bodyPost_ret (v := .tuple #[.agg #[.int .i64 ge, .slice A gp.length c], .slice Y l.length cy, .agg #[.int .i64 kk, .int .i64 kd]]) (by simp [results, Try.results22, go_sem, r0, r1, r02, r12, hne24, Ne.symm hne24]) rfl ⟨ge, gp, _, _, kk, kd, rfl, by omega, by omega, hln.out, hq1.out, ⟨l, hll, hq2.out⟩, hq3.out⟩
    · have q4 : (x4 == 0) = false := by simpa using h0x
      clear h0x
      have hBd : Below wa.heap.size wa wa.drew := Below.drew (Below.refl _ wa)
      replace hO := hO.now hBd
      replace hU := hU.now hBd
      replace hres := hres.now hBd
      replace hst := hst.now hBd
      replace hbox := hbox.now hBd
      replace hbr := hbr.now hBd
      replace hB := hB.trans (hBd.mono hB.size)
      replace hS := hS.now hBd
      obtain ⟨e0, e1⟩ := hbox.c2
      obtain ⟨d0, d1⟩ := hbr.c2
      have lbg := hbox.lt
      have lbr := hbr.lt
      clear hBd
      go_wp2_with fail
      refine wp_region_held_drew (S := fun w' => w'.cell? ⟨bg, 0, none⟩ = some (.int .i64 ge) ∧ w'.cell? ⟨bg, 1, none⟩ = some (.slice A gp.length c) ∧ w'.cell? ⟨br, 0, none⟩ = some (.int .i64 ra) ∧ w'.cell? ⟨br, 1, none⟩ = some (.int .i64 rb)) (by kernel_rfl) ⟨e0, e1, d0, d1⟩ (fun hH => ?_)
      generalize wa.drew = Va at *
      refine tkH 0 (v := ?_) rfl (fun _ _ _ h => h) (Or.inl ⟨by rfl, ?_⟩) hH ?_
      rotate_left
      · intro w9 hSw
        try dsimp only at hSw
        obtain ⟨s0, s1, s2, s3⟩ := hSw
        go_simp
        try with_reducible rfl
      try simp only [Act.put, List.setIfInBounds_toArray, List.set_cons_zero, List.set_cons_succ]
      refine tkH 1 (v := ?_) rfl (fun _ _ _ h => h) (Or.inl ⟨by rfl, ?_⟩) hH ?_
      rotate_left
      · intro w9 hSw
        try dsimp only at hSw
        obtain ⟨s0, s1, s2, s3⟩ := hSw
        go_simp
        try with_reducible rfl
      try simp only [Act.put, List.setIfInBounds_toArray, List.set_cons_zero, List.set_cons_succ]
      refine tkH 2 (v := ?_) rfl (fun _ _ _ h => h) (Or.inl ⟨by rfl, ?_⟩) hH ?_
      rotate_left
      · intro w9 hSw
        try dsimp only at hSw
        obtain ⟨s0, s1, s2, s3⟩ := hSw
        go_simp
        try with_reducible rfl
      try simp only [Act.put, List.setIfInBounds_toArray, List.set_cons_zero, List.set_cons_succ]
      refine tkH 3 (v := ?_) rfl (fun _ _ _ h => h) (Or.inl ⟨by rfl, ?_⟩) hH ?_
      rotate_left
      · intro w9 hSw
        try dsimp only at hSw
        obtain ⟨s0, s1, s2, s3⟩ := hSw
        go_simp
        try with_reducible rfl
      try simp only [Act.put, List.setIfInBounds_toArray, List.set_cons_zero, List.set_cons_succ]
      refine tkH 4 (v := ?_) rfl (fun _ _ _ h => h) (Or.inl ⟨by rfl, ?_⟩) hH ?_
      rotate_left
      · intro w9 hSw
        try dsimp only at hSw
        obtain ⟨s0, s1, s2, s3⟩ := hSw
        go_simp
        try with_reducible rfl
      try simp only [Act.put, List.setIfInBounds_toArray, List.set_cons_zero, List.set_cons_succ]
      refine tkH 7 (v := ?_) rfl (fun _ _ _ h => h) (Or.inl ⟨by rfl, ?_⟩) hH ?_
      rotate_left
      · intro w9 hSw
        try dsimp only at hSw
        obtain ⟨s0, s1, s2, s3⟩ := hSw
        go_simp
        try with_reducible rfl
      try simp only [Act.put, List.setIfInBounds_toArray, List.set_cons_zero, List.set_cons_succ]
      refine tkH 8 (v := ?_) rfl (fun _ _ _ h => h) (Or.inl ⟨by rfl, ?_⟩) hH ?_
      rotate_left
      · intro w9 hSw
        try dsimp only at hSw
        obtain ⟨s0, s1, s2, s3⟩ := hSw
        go_simp
        try with_reducible rfl
      try simp only [Act.put, List.setIfInBounds_toArray, List.set_cons_zero, List.set_cons_succ]
      refine wpAnyH_ready (rs := [5]) (by kernel_rfl) (by simp) ?_
      refine AllReadyH.cons rfl (fun K hK => ?_) AllReadyH.nil
      go_simp
      go_at_call 69
      refine (spec_l01Next g 4 _ hS (by omega)).mono ?_
      rintro e va ⟨nx, rfl, hnx, hN⟩
      have hnx4 : 0 ≤ nx ∧ nx < 4 := ⟨hnx.1, hnx.2.1 (by omega)⟩
      have wn : IntKind.i64.wrap (ra + nx) = ra + nx := IntWalk.i64_in _ (by omega)
      clear hnx
      replace hO := own_draw hO (by decide) hS hN
      replace hU := own_draw hU (by decide) hS hN
      replace hres := blk_draw hres (by decide) hS hN
      replace hst := blk_draw hst (by decide) hS hN
      replace hbox := blk_draw hbox (by decide) hS hN
      replace hbr := blk_draw hbr (by decide) hS hN
      replace hB := below_draw hB hB.size hgb hN
      replace hS := hN.1
      clear hN
      clear e0 e1 d0 d1 lbg lbr
      obtain ⟨e0, e1⟩ := hbox.c2
      obtain ⟨d0, d1⟩ := hbr.c2
      refine hK.out _ _ ⟨e0, e1, d0, d1⟩ (fun hH => ?_)
      clear hK K
      try simp only [Act.put, List.setIfInBounds_toArray, List.set_cons_zero, List.set_cons_succ]
      refine tkH 6 (v := ?_) rfl (fun _ _ _ h => h) (Or.inl ⟨by rfl, ?_⟩) hH ?_
      rotate_left
      · intro w9 hSw
        try dsimp only at hSw
        obtain ⟨s0, s1, s2, s3⟩ := hSw
        go_simp
        try with_reducible rfl
      try simp only [Act.put, List.setIfInBounds_toArray, List.set_cons_zero, List.set_cons_succ]
      refine wpAnyH_ready (rs := [9]) (by kernel_rfl) (by simp) ?_
      refine AllReadyH.cons rfl (fun K hK => ?_) AllReadyH.nil
      go_simp
      go_at_call 71
      refine (spec_l01RatioZ _ _ _ (by omega) (by omega)).mono ?_
      rintro e vb ⟨kk, kd, rfl, hkk, hkd, hB9⟩
      replace hO := hO.now hB9
      replace hU := hU.now hB9
      replace hres := hres.now hB9
      replace hst := hst.now hB9
      replace hbox := hbox.now hB9
      replace hbr := hbr.now hB9
      replace hB := hB.trans (hB9.mono hB.size)
      replace hS := hS.now hB9
      clear hB9 e0 e1 d0 d1
      obtain ⟨e0, e1⟩ := hbox.c2
      obtain ⟨d0, d1⟩ := hbr.c2
      refine hK.out _ _ ⟨e0, e1, d0, d1⟩ (fun hH => ?_)
      clear hK K
      try simp only [Act.put, List.setIfInBounds_toArray, List.set_cons_zero, List.set_cons_succ]
      have f0 := hres.frozen 0
      have f1 := hres.frozen 1
      have lb2 := hres.lt
      obtain ⟨r0, r1⟩ := hres.c2
      have hst2 := (hst.far (p := ⟨b2, 0, none⟩) (Ne.symm hne24) (.int .i64 ge)).far (p := ⟨b2, 1, none⟩) (Ne.symm hne24) (.slice A gp.length c)
      have f02 := hst2.frozen 0
      have f12 := hst2.frozen 1
      have lb4 := hst2.lt
      obtain ⟨r02, r12⟩ := hst2.c2
      have hbx := (hbox.far (p := ⟨b2, 0, none⟩) (Ne.symm hne) (.int .i64 ge)).far (p := ⟨b2, 1, none⟩) (Ne.symm hne) (.slice A gp.length c)
      obtain ⟨x0, x1⟩ := hbx.c2
      have hbx2 := (hbx.far (p := ⟨b4, 0, none⟩) (Ne.symm hne4) (.int .i64 kk)).far (p := ⟨b4, 1, none⟩) (Ne.symm hne4) (.int .i64 kd)
      obtain ⟨y0, y1⟩ := hbx2.c2
      have hq1 := Lib.hid (own_far (own_far (own_far (own_far hO (p := ⟨b2, 0, none⟩) (hO.ne_blk hres (by decide)) (.int .i64 ge)) (p := ⟨b2, 1, none⟩) (hO.ne_blk hres (by decide)) (.slice A gp.length c)) (p := ⟨b4, 0, none⟩) (hO.ne_blk hst (by decide)) (.int .i64 kk)) (p := ⟨b4, 1, none⟩) (hO.ne_blk hst (by decide)) (.int .i64 kd))
      have hq3 := Lib.hid ((((hB.setCell (p := ⟨b2, 0, none⟩) hb2w (.int .i64 ge)).setCell (p := ⟨b2, 1, none⟩) hb2w (.slice A gp.length c)).setCell (p := ⟨b4, 0, none⟩) hb4w (.int .i64 kk)).setCell (p := ⟨b4, 1, none⟩) hb4w (.int .i64 kd))
      have hq2 := Lib.hid (own_far (own_far (own_far (own_far hU (p := ⟨b2, 0, none⟩) (hU.ne_blk hres (by decide)) (.int .i64 ge)) (p := ⟨b2, 1, none⟩) (hU.ne_blk hres (by decide)) (.slice A gp.length c)) (p := ⟨b4, 0, none⟩) (hU.ne_blk hst (by decide)) (.int .i64 kk)) (p := ⟨b4, 1, none⟩) (hU.ne_blk hst (by decide)) (.int .i64 kd))
      have hbr2 := (hbr.far (p := ⟨b2, 0, none⟩) (Ne.symm hne2r) (.int .i64 ge)).far (p := ⟨b2, 1, none⟩) (Ne.symm hne2r) (.slice A gp.length c)
      obtain ⟨p0, p1⟩ := hbr2.c2
      have hbr3 := (hbr2.far (p := ⟨b4, 0, none⟩) (Ne.symm hne4r) (.int .i64 kk)).far (p := ⟨b4, 1, none⟩) (Ne.symm hne4r) (.int .i64 kd)
      obtain ⟨p2, p3⟩ := hbr3.c2
      refine wpAnyH_ready (rs := [10]) (by kernel_rfl) (by simp) ?_
      refine AllReadyH.cons rfl (fun K hK => ?_) AllReadyH.nil
      go_simp
      refine hK.out _ _ ⟨x0, x1, p0, p1⟩ (fun hH => ?_)
      clear hK K
      try simp only [Act.put, List.setIfInBounds_toArray, List.set_cons_zero, List.set_cons_succ]
      refine tkH 11 (v := ?_) rfl (fun _ _ _ h => h) (Or.inl ⟨by rfl, ?_⟩) hH ?_
      rotate_left
      · intro w9 hSw
        try dsimp only at hSw
        obtain ⟨s0, s1, s2, s3⟩ := hSw
        go_simp
        try with_reducible rfl
      try simp only [Act.put, List.setIfInBounds_toArray, List.set_cons_zero, List.set_cons_succ]
      refine wpAnyH_ready (rs := [12]) (by kernel_rfl) (by simp) ?_
      refine AllReadyH.cons rfl (fun K hK => ?_) AllReadyH.nil
      go_simp
      refine hK.out _ _ ⟨y0, y1, p2, p3⟩ (fun hH => ?_)
      clear hK K
      try simp only [Act.put, List.setIfInBounds_toArray, List.set_cons_zero, List.set_cons_succ]
      refine wpAnyH_done (by kernel_rfl) ?_ _
      clear hH hbx hbx2 hst2 x0 x1 y0 y1 e0 e1 d0 d1 hO hU hres hst hbox hB hS hbr hbr2 hbr3 p0 p1 p2 p3
      have hln := Lib.hid hlen
      go_wp2
      refine bodyPost_ret (v := .tuple #[.agg #[.int .i64 ge, .slice A gp.length c], .slice Y l.length cy, .agg #[.int .i64 kk, .int .i64 kd]]) (by simp [results, Try.results22, go_sem, r0, r1, r02, r12, hne24, Ne.symm hne24]) rfl ⟨ge, gp, _, _, kk, kd, rfl, by omega, by omega, hln.out, hq1.out, ⟨l, hll, hq2.out⟩, hq3.out⟩
  · have q3 : (rc != 0) = true := by simpa using hrc
    clear hrc
    clear hbr hs3 hne2r hne4r hA3
    go_wp2_with fail
    generalize w3.alloc (.cells #[.int .i64 ra, .int .i64 rb] 34) = wa at *
    have hBd : Below wa.heap.size wa wa.drew := Below.drew (Below.refl _ wa)
    replace hO := hO.now hBd
    replace hU := hU.now hBd
    replace hres := hres.now hBd
    replace hst := hst.now hBd
    replace hbox := hbox.now hBd
    replace hB := hB.trans (hBd.mono hB.size)
    replace hS := hS.now hBd
    obtain ⟨e0, e1⟩ := hbox.c2
    have lbg := hbox.lt
    clear hBd
    go_wp2_with fail
    refine wp_region_held_drew (S := fun w' => w'.cell? ⟨bg, 0, none⟩ = some (.int .i64 ge) ∧ w'.cell? ⟨bg, 1, none⟩ = some (.slice A gp.length c)) (by kernel_rfl) ⟨e0, e1⟩ (fun hH => ?_)
    generalize wa.drew = Va at *
    refine tkH 0 (v := ?_) rfl (fun _ _ _ h => h) (Or.inl ⟨by rfl, ?_⟩) hH ?_
    rotate_left
    · intro w9 hSw
      try dsimp only at hSw
      obtain ⟨s0, s1⟩ := hSw
      go_simp
      try with_reducible rfl
    try simp only [Act.put, List.setIfInBounds_toArray, List.set_cons_zero, List.set_cons_succ]
    refine tkH 1 (v := ?_) rfl (fun _ _ _ h => h) (Or.inl ⟨by rfl, ?_⟩) hH ?_
    rotate_left
    · intro w9 hSw
      try dsimp only at hSw
      obtain ⟨s0, s1⟩ := hSw
      go_simp
      try with_reducible rfl
    try simp only [Act.put, List.setIfInBounds_toArray, List.set_cons_zero, List.set_cons_succ]
    refine tkH 2 (v := ?_) rfl (fun _ _ _ h => h) (Or.inl ⟨by rfl, ?_⟩) hH ?_
    rotate_left
    · intro w9 hSw
      try dsimp only at hSw
      obtain ⟨s0, s1⟩ := hSw
      go_simp
      try with_reducible rfl
    try simp only [Act.put, List.setIfInBounds_toArray, List.set_cons_zero, List.set_cons_succ]
    refine wpAnyH_ready (rs := [3]) (by kernel_rfl) (by simp) ?_
    refine AllReadyH.cons rfl (fun K hK => ?_) AllReadyH.nil
    go_simp
    go_at_call 70
    refine (spec_l01DrawRatio g _ hS).mono ?_
    rintro e vb ⟨kk, kd, rfl, hkk, hkd, hN⟩
    replace hO := own_draw hO (by decide) hS hN
    replace hU := own_draw hU (by decide) hS hN
    replace hres := blk_draw hres (by decide) hS hN
    replace hst := blk_draw hst (by decide) hS hN
    replace hbox := blk_draw hbox (by decide) hS hN
    replace hB := below_draw hB hB.size hgb hN
    replace hS := hN.1
    clear hN
    clear e0 e1 lbg
    obtain ⟨e0, e1⟩ := hbox.c2
    refine hK.out _ _ ⟨e0, e1⟩ (fun hH => ?_)
    clear hK K
    try simp only [Act.put, List.setIfInBounds_toArray, List.set_cons_zero, List.set_cons_succ]
    have f0 := hres.frozen 0
    have f1 := hres.frozen 1
    have lb2 := hres.lt
    obtain ⟨r0, r1⟩ := hres.c2
    have hst2 := (hst.far (p := ⟨b2, 0, none⟩) (Ne.symm hne24) (.int .i64 ge)).far (p := ⟨b2, 1, none⟩) (Ne.symm hne24) (.slice A gp.length c)
    have f02 := hst2.frozen 0
    have f12 := hst2.frozen 1
    have lb4 := hst2.lt
    obtain ⟨r02, r12⟩ := hst2.c2
    have hbx := (hbox.far (p := ⟨b2, 0, none⟩) (Ne.symm hne) (.int .i64 ge)).far (p := ⟨b2, 1, none⟩) (Ne.symm hne) (.slice A gp.length c)
    obtain ⟨x0, x1⟩ := hbx.c2
    have hbx2 := (hbx.far (p := ⟨b4, 0, none⟩) (Ne.symm hne4) (.int .i64 kk)).far (p := ⟨b4, 1, none⟩) (Ne.symm hne4) (.int .i64 kd)
    obtain ⟨y0, y1⟩ := hbx2.c2
    have hq1 := Lib.hid (own_far (own_far (own_far (own_far hO (p := ⟨b2, 0, none⟩) (hO.ne_blk hres (by decide)) (.int .i64 ge)) (p := ⟨b2, 1, none⟩) (hO.ne_blk hres (by decide)) (.slice A gp.length c)) (p := ⟨b4, 0, none⟩) (hO.ne_blk hst (by decide)) (.int .i64 kk)) (p := ⟨b4, 1, none⟩) (hO.ne_blk hst (by decide)) (.int .i64 kd))
    have hq3 := Lib.hid ((((hB.setCell (p := ⟨b2, 0, none⟩) hb2w (.int .i64 ge)).setCell (p := ⟨b2, 1, none⟩) hb2w (.slice A gp.length c)).setCell (p := ⟨b4, 0, none⟩) hb4w (.int .i64 kk)).setCell (p := ⟨b4, 1, none⟩) hb4w (.int .i64 kd))
    have hq2 := Lib.hid (own_far (own_far (own_far (own_far hU (p := ⟨b2, 0, none⟩) (hU.ne_blk hres (by decide)) (.int .i64 ge)) (p := ⟨b2, 1, none⟩) (hU.ne_blk hres (by decide)) (.slice A gp.length c)) (p := ⟨b4, 0, none⟩) (hU.ne_blk hst (by decide)) (.int .i64 kk)) (p := ⟨b4, 1, none⟩) (hU.ne_blk hst (by decide)) (.int .i64 kd))
    refine wpAnyH_ready (rs := [4]) (by kernel_rfl) (by simp) ?_
    refine AllReadyH.cons rfl (fun K hK => ?_) AllReadyH.nil
    go_simp
    refine hK.out _ _ ⟨x0, x1⟩ (fun hH => ?_)
    clear hK K
    try simp only [Act.put, List.setIfInBounds_toArray, List.set_cons_zero, List.set_cons_succ]
    refine tkH 5 (v := ?_) rfl (fun _ _ _ h => h) (Or.inl ⟨by rfl, ?_⟩) hH ?_
    rotate_left
    · intro w9 hSw
      try dsimp only at hSw
      obtain ⟨s0, s1⟩ := hSw
      go_simp
      try with_reducible rfl
    try simp only [Act.put, List.setIfInBounds_toArray, List.set_cons_zero, List.set_cons_succ]
    refine wpAnyH_ready (rs := [6]) (by kernel_rfl) (by simp) ?_
    refine AllReadyH.cons rfl (fun K hK => ?_) AllReadyH.nil
    go_simp
    refine hK.out _ _ ⟨y0, y1⟩ (fun hH => ?_)
    clear hK K
    try simp only [Act.put, List.setIfInBounds_toArray, List.set_cons_zero, List.set_cons_succ]
    refine wpAnyH_done (by kernel_rfl) ?_ _
    clear hH hbx hbx2 hst2 x0 x1 y0 y1 e0 e1 hO hU hres hst hbox hB hS
    have hln := Lib.hid hlen
    go_wp2
    refine bodyPost_ret (v := .tuple #[.agg #[.int .i64 ge, .slice A gp.length c], .slice Y l.length cy, .agg #[.int .i64 kk, .int .i64 kd]]) (by simp [results, Try.results22, go_sem, r0, r1, r02, r12, hne24, Ne.symm hne24]) rfl ⟨ge, gp, _, _, kk, kd, rfl, by omega, by omega, hln.out, hq1.out, ⟨l, hll, hq2.out⟩, hq3.out⟩
/-- What DrawRoomsSuffice gives. -/
def SfRet (w : World) (e : Ending) (w' : World) : Prop := ∃ ge gp v u1 u2 x y, e = .returned (.tuple #[.agg #[.int .i64 ge, v], u1, u2, .agg #[.int .i64 x, .int .i64 y]]) ∧ 0 ≤ ge ∧ ge ≤ 11 ∧ gp.length ≤ 40 ∧ Own Place.cells 4 101 w' w.heap.size v gp ∧ RmRet w.heap.size w' u1 ∧ RmRet2 w.heap.size w' u2 ∧ Below w.heap.size w w'
set_option maxHeartbeats 8000000 in
set_option maxRecDepth 100000 in
theorem spec_DrawRoomsSuffice (cv : Value) (bs : List Int) (w : World) (h0 : Lst byteCell 1 w w.heap.size cv bs) (hbv : Hid (∀ b ∈ bs, 0 ≤ b ∧ b ≤ 255)) :
    Calls Try.prog 24 #[cv] w (SfRet w) := by
  go_enter Try.func24, Try.ntmps24
  go_wp2_with fail
  have hA : Below w.heap.size w ((w.alloc (.cells #[.int .i64 0, .slice none 0 0] 32)).alloc (.cells #[.int .i64 0, .int .i64 0] 34)) := ((Below.refl _ _).alloc (Nat.le_refl _) _).alloc (by simp) _
  have hres : Blk ((w.alloc (.cells #[.int .i64 0, .slice none 0 0] 32)).alloc (.cells #[.int .i64 0, .int .i64 0] 34)) w.heap.size 32 #[.int .i64 0, .slice none 0 0] := (Blk.newAt w _ rfl).alloc _
  have hst : Blk ((w.alloc (.cells #[.int .i64 0, .slice none 0 0] 32)).alloc (.cells #[.int .i64 0, .int .i64 0] 34)) (w.heap.size + 1) 34 #[.int .i64 0, .int .i64 0] := Blk.newAt _ _ (by simp)
  have hszA : ((w.alloc (.cells #[.int .i64 0, .slice none 0 0] 32)).alloc (.cells #[.int .i64 0, .int .i64 0] 34)).heap.size = w.heap.size + 1 + 1 := by simp
  refine (spec_l01From _ bs _ (h0.now hA) hbv).mono ?_
  rintro e w1 ⟨rfl, hS, hB1⟩
  rw [hszA] at hS hB1 ⊢
  have hB : Below w.heap.size w w1 := hA.trans (hB1.mono (by omega))
  replace hres := hres.below hB1 (by omega)
  replace hst := hst.below hB1 (by omega)
  obtain ⟨b4, hb4⟩ : ∃ b4, w.heap.size + 1 = b4 := ⟨_, rfl⟩
  rw [hb4] at hst hS ⊢
  obtain ⟨b2, hb2⟩ : ∃ b2, w.heap.size = b2 := ⟨_, rfl⟩
  obtain ⟨g, hg⟩ : ∃ g, b4 + 1 = g := ⟨_, rfl⟩
  have hgb : w.heap.size ≤ g := by omega
  rw [hg] at hS ⊢
  rw [hb2] at hres
  rw [show (Value.pointer (some ⟨w.heap.size, 0, none⟩)) = .pointer (some ⟨b2, 0, none⟩) by rw [hb2]]
  have hb2w : w.heap.size ≤ b2 := by omega
  have hb4w : w.heap.size ≤ b4 := by omega
  have hne24 : b2 ≠ b4 := by omega
  have hs1 := hB.size
  clear hA hszA hB1 hb2 hg hb4
  go_wp2_with fail
  refine (spec_l16DrawRooms g _ hS).mono ?_
  rintro e w2 ⟨ge, gp, v, u1, u2, rfl, hg0, hg1, hlen, hO, ⟨l, hll, hU⟩, ⟨R, hRl, hR⟩, hN⟩
  obtain ⟨A, c, rfl⟩ := hO.shape
  obtain ⟨Y, cy, rfl⟩ := hU.shape
  obtain ⟨Z, cz, rfl⟩ := hR.shape
  replace hO := hO.rebase hs1
  replace hU := hU.rebase hs1
  replace hR := hR.rebase hs1
  replace hres := blk_draw hres (by decide) hS hN
  replace hst := blk_draw hst (by decide) hS hN
  replace hB := below_draw hB hs1 hgb hN
  replace hS := hN.1
  have hs2 := hB.size
  clear hN hs1
  have hne : b2 ≠ w2.heap.size := by have := hres.lt; omega
  have hne4 : b4 ≠ w2.heap.size := by have := hst.lt; omega
  have hA2 : Below w2.heap.size w2 (w2.alloc (.cells #[.int .i64 ge, .slice A gp.length c] 32)) := (Below.refl _ _).alloc (Nat.le_refl _) _
  have hbox := Blk.newAt w2 (t := 32) (cs := #[.int .i64 ge, .slice A gp.length c]) _ rfl
  go_wp2_with fail
  replace hO := hO.now hA2
  replace hU := hU.now hA2
  replace hR := hR.now hA2
  replace hres := hres.now hA2
  replace hst := hst.now hA2
  replace hB := hB.trans (hA2.mono hB.size)
  replace hS := hS.now hA2
  clear hA2
  obtain ⟨bg, hbg⟩ : ∃ bg, w2.heap.size = bg := ⟨_, rfl⟩
  have hbgw : w.heap.size ≤ bg := by omega
  rw [hbg] at hbox hne hne4 ⊢
  generalize w2.alloc (.cells #[.int .i64 ge, .slice A gp.length c] 32) = wx at *
  clear hbg hs2
  obtain ⟨he, hp, hc, hlm⟩ : ∃ he hp hc, limF ge gp l R = (he, hp, hc) := ⟨_, _, _, rfl⟩
  refine (spec_LimitPlaces _ ge gp _ l _ R _ hO.lst hU.lst hR.lst).mono ?_
  rintro e w3 ⟨xv, rfl, hX, hB3⟩
  rw [hlm] at hX ⊢
  obtain ⟨XA, xc, rfl⟩ := hX.shape
  replace hO := hO.now hB3
  replace hU := hU.now hB3
  replace hR := hR.now hB3
  replace hres := hres.now hB3
  replace hst := hst.now hB3
  replace hbox := hbox.now hB3
  replace hB := hB.trans (hB3.mono hB.size)
  replace hS := hS.now hB3
  have hs3 := hB.size
  clear hB3 hlm
  have hA3 : Below w3.heap.size w3 (w3.alloc (.cells #[.int .i64 he, .slice XA hp.length xc] 32)) := (Below.refl _ _).alloc (Nat.le_refl _) _
  have hbh := Blk.newAt w3 (t := 32) (cs := #[.int .i64 he, .slice XA hp.length xc]) _ rfl
  replace hO := hO.now hA3
  replace hU := hU.now hA3
  replace hR := hR.now hA3
  replace hres := hres.now hA3
  replace hst := hst.now hA3
  replace hbox := hbox.now hA3
  replace hB := hB.trans (hA3.mono hB.size)
  replace hS := hS.now hA3
  replace hX := hX.now hA3
  by_cases hcc : hc = 0
  · subst hcc
    go_wp2_with fail
    clear hA3 hs3
    generalize w3.alloc (.cells #[.int .i64 he, .slice XA hp.length xc] 32) = w4 at *
    generalize w3.heap.size = bh at *
    refine (spec_l01Next g 3 _ hS (by omega)).mono ?_
    rintro e wa ⟨x4, rfl, hx4, hN⟩
    replace hO := own_draw hO (by decide) hS hN
    replace hX := own_draw hX (by decide) hS hN
    replace hU := own_draw hU (by decide) hS hN
    replace hR := own_draw hR (by decide) hS hN
    replace hres := blk_draw hres (by decide) hS hN
    replace hst := blk_draw hst (by decide) hS hN
    replace hbox := blk_draw hbox (by decide) hS hN
    replace hbh := blk_draw hbh (by decide) hS hN
    replace hB := below_draw hB hB.size hgb hN
    replace hS := hN.1
    clear hN hx4
    by_cases h0x : 0 < x4
    · obtain ⟨k0, k1⟩ := hbh.c2
      go_wp2_with fail
      clear k0 k1 hbh h0x
      obtain ⟨ra, rb, rc, hct⟩ : ∃ ra rb rc, ctF he hp = (ra, rb, rc) := ⟨_, _, _, rfl⟩
      have hctH := Lib.hid hct
      refine (spec_CycleTime _ he hp _ hX.lst).mono ?_
      rintro e w5 ⟨rfl, hB5⟩
      rw [hct]
      replace hO := hO.now hB5
      replace hU := hU.now hB5
      replace hR := hR.now hB5
      replace hres := hres.now hB5
      replace hst := hst.now hB5
      replace hbox := hbox.now hB5
      replace hB := hB.trans (hB5.mono hB.size)
      replace hS := hS.now hB5
      have hs5 := hB.size
      clear hB5 hct hX
      have hne2r : b2 ≠ w5.heap.size := by have := hres.lt; omega
      have hne4r : b4 ≠ w5.heap.size := by have := hst.lt; omega
      have hA5 : Below w5.heap.size w5 (w5.alloc (.cells #[.int .i64 ra, .int .i64 rb] 34)) := (Below.refl _ _).alloc (Nat.le_refl _) _
      have hbr := Blk.newAt w5 (t := 34) (cs := #[.int .i64 ra, .int .i64 rb]) _ rfl
      replace hO := hO.now hA5
      replace hU := hU.now hA5
      replace hR := hR.now hA5
      replace hres := hres.now hA5
      replace hst := hst.now hA5
      replace hbox := hbox.now hA5
      replace hB := hB.trans (hA5.mono hB.size)
      replace hS := hS.now hA5
      by_cases hrc : rc = 0
      · subst hrc
        have hcb := ct_le hctH.out
        go_wp2_with fail
        clear hA5 hs5
        obtain ⟨br, hbr0⟩ : ∃ br, w5.heap.size = br := ⟨_, rfl⟩
        rw [hbr0] at hbr hne2r hne4r ⊢
        generalize w5.alloc (.cells #[.int .i64 ra, .int .i64 rb] 34) = wa at *
        clear hbr0
        have hBd : Below wa.heap.size wa wa.drew := Below.drew (Below.refl _ wa)
        replace hO := hO.now hBd
        replace hU := hU.now hBd
        replace hR := hR.now hBd
        replace hres := hres.now hBd
        replace hst := hst.now hBd
        replace hbox := hbox.now hBd
        replace hbr := hbr.now hBd
        replace hB := hB.trans (hBd.mono hB.size)
        replace hS := hS.now hBd
        obtain ⟨e0, e1⟩ := hbox.c2
        obtain ⟨d0, d1⟩ := hbr.c2
        have lbg := hbox.lt
        have lbr := hbr.lt
        clear hBd
        go_wp2_with fail
        refine wp_region_held_drew (S := fun w' => w'.cell? ⟨bg, 0, none⟩ = some (.int .i64 ge) ∧ w'.cell? ⟨bg, 1, none⟩ = some (.slice A gp.length c) ∧ w'.cell? ⟨br, 0, none⟩ = some (.int .i64 ra) ∧ w'.cell? ⟨br, 1, none⟩ = some (.int .i64 rb)) (by kernel_rfl) ⟨e0, e1, d0, d1⟩ (fun hH => ?_)
        generalize wa.drew = Va at *
        refine tkH 0 (v := ?_) rfl (fun _ _ _ h => h) (Or.inl ⟨by rfl, ?_⟩) hH ?_
        rotate_left
        · intro w9 hSw
          try dsimp only at hSw
          obtain ⟨s0, s1, s2, s3⟩ := hSw
          go_simp
          try with_reducible rfl
        try simp only [Act.put, List.setIfInBounds_toArray, List.set_cons_zero, List.set_cons_succ]
        refine tkH 1 (v := ?_) rfl (fun _ _ _ h => h) (Or.inl ⟨by rfl, ?_⟩) hH ?_
        rotate_left
        · intro w9 hSw
          try dsimp only at hSw
          obtain ⟨s0, s1, s2, s3⟩ := hSw
          go_simp
          try with_reducible rfl
        try simp only [Act.put, List.setIfInBounds_toArray, List.set_cons_zero, List.set_cons_succ]
        refine tkH 2 (v := ?_) rfl (fun _ _ _ h => h) (Or.inl ⟨by rfl, ?_⟩) hH ?_
        rotate_left
        · intro w9 hSw
          try dsimp only at hSw
          obtain ⟨s0, s1, s2, s3⟩ := hSw
          go_simp
          try with_reducible rfl
        try simp only [Act.put, List.setIfInBounds_toArray, List.set_cons_zero, List.set_cons_succ]
        refine tkH 3 (v := ?_) rfl (fun _ _ _ h => h) (Or.inl ⟨by rfl, ?_⟩) hH ?_
        rotate_left
        · intro w9 hSw
          try dsimp only at hSw
          obtain ⟨s0, s1, s2, s3⟩ := hSw
          go_simp
          try with_reducible rfl
        try simp only [Act.put, List.setIfInBounds_toArray, List.set_cons_zero, List.set_cons_succ]
        refine tkH 4 (v := ?_) rfl (fun _ _ _ h => h) (Or.inl ⟨by rfl, ?_⟩) hH ?_
        rotate_left
        · intro w9 hSw
          try dsimp only at hSw
          obtain ⟨s0, s1, s2, s3⟩ := hSw
          go_simp
          try with_reducible rfl
        try simp only [Act.put, List.setIfInBounds_toArray, List.set_cons_zero, List.set_cons_succ]
        refine tkH 5 (v := ?_) rfl (fun _ _ _ h => h) (Or.inl ⟨by rfl, ?_⟩) hH ?_
        rotate_left
        · intro w9 hSw
          try dsimp only at hSw
          obtain ⟨s0, s1, s2, s3⟩ := hSw
          go_simp
          try with_reducible rfl
        try simp only [Act.put, List.setIfInBounds_toArray, List.set_cons_zero, List.set_cons_succ]
        refine tkH 9 (v := ?_) rfl (fun _ _ _ h => h) (Or.inl ⟨by rfl, ?_⟩) hH ?_
        rotate_left
        · intro w9 hSw
          try dsimp only at hSw
          obtain ⟨s0, s1, s2, s3⟩ := hSw
          go_simp
          try with_reducible rfl
        try simp only [Act.put, List.setIfInBounds_toArray, List.set_cons_zero, List.set_cons_succ]
        refine tkH 10 (v := ?_) rfl (fun _ _ _ h => h) (Or.inl ⟨by rfl, ?_⟩) hH ?_
        rotate_left
        · intro w9 hSw
          try dsimp only at hSw
          obtain ⟨s0, s1, s2, s3⟩ := hSw
          go_simp
          try with_reducible rfl
        try simp only [Act.put, List.setIfInBounds_toArray, List.set_cons_zero, List.set_cons_succ]
        refine wpAnyH_ready (rs := [6]) (by kernel_rfl) (by simp) ?_
        refine AllReadyH.cons rfl (fun K hK => ?_) AllReadyH.nil
        go_simp
        go_at_call 69
        refine (spec_l01Next g 3 _ hS (by omega)).mono ?_
        rintro e va ⟨nx, rfl, hnx, hN⟩
        have hnx4 : 0 ≤ nx ∧ nx < 3 := ⟨hnx.1, hnx.2.1 (by omega)⟩
        have wn : IntKind.i64.wrap (ra + nx) = ra + nx := IntWalk.i64_in _ (by omega)
        have wn2 : IntKind.i64.wrap (ra + nx - 1) = ra + nx - 1 := IntWalk.i64_in _ (by omega)
        clear hnx
        replace hO := own_draw hO (by decide) hS hN
        replace hU := own_draw hU (by decide) hS hN
        replace hR := own_draw hR (by decide) hS hN
        replace hres := blk_draw hres (by decide) hS hN
        replace hst := blk_draw hst (by decide) hS hN
        replace hbox := blk_draw hbox (by decide) hS hN
        replace hbr := blk_draw hbr (by decide) hS hN
        replace hB := below_draw hB hB.size hgb hN
        replace hS := hN.1
        clear hN
        clear e0 e1 d0 d1 lbg lbr
        obtain ⟨e0, e1⟩ := hbox.c2
        obtain ⟨d0, d1⟩ := hbr.c2
        refine hK.out _ _ ⟨e0, e1, d0, d1⟩ (fun hH => ?_)
        clear hK K
        try simp only [Act.put, List.setIfInBounds_toArray, List.set_cons_zero, List.set_cons_succ]
        refine tkH 7 (v := ?_) rfl (fun _ _ _ h => h) (Or.inl ⟨by rfl, ?_⟩) hH ?_
        rotate_left
        · intro w9 hSw
          try dsimp only at hSw
          obtain ⟨s0, s1, s2, s3⟩ := hSw
          go_simp
          try with_reducible rfl
        try simp only [Act.put, List.setIfInBounds_toArray, List.set_cons_zero, List.set_cons_succ]
        refine tkH 8 (v := ?_) rfl (fun _ _ _ h => h) (Or.inl ⟨by rfl, ?_⟩) hH ?_
        rotate_left
        · intro w9 hSw
          try dsimp only at hSw
          obtain ⟨s0, s1, s2, s3⟩ := hSw
          go_simp
          try with_reducible rfl
        try simp only [Act.put, List.setIfInBounds_toArray, List.set_cons_zero, List.set_cons_succ]
        refine wpAnyH_ready (rs := [11]) (by kernel_rfl) (by simp) ?_
        refine AllReadyH.cons rfl (fun K hK => ?_) AllReadyH.nil
        go_simp
        go_at_call 71
        refine (spec_l01RatioZ _ _ _ (by omega) (by omega)).mono ?_
        rintro e vb ⟨kk, kd, rfl, hkk, hkd, hB9⟩
        replace hO := hO.now hB9
        replace hU := hU.now hB9
        replace hR := hR.now hB9
        replace hres := hres.now hB9
        replace hst := hst.now hB9
        replace hbox := hbox.now hB9
        replace hbr := hbr.now hB9
        replace hB := hB.trans (hB9.mono hB.size)
        replace hS := hS.now hB9
        clear hB9 e0 e1 d0 d1
        obtain ⟨e0, e1⟩ := hbox.c2
        obtain ⟨d0, d1⟩ := hbr.c2
        refine hK.out _ _ ⟨e0, e1, d0, d1⟩ (fun hH => ?_)
        clear hK K
        try simp only [Act.put, List.setIfInBounds_toArray, List.set_cons_zero, List.set_cons_succ]
        have f0 := hres.frozen 0
        have f1 := hres.frozen 1
        have lb2 := hres.lt
        obtain ⟨r0, r1⟩ := hres.c2
        have hst2 := (hst.far (p := ⟨b2, 0, none⟩) (Ne.symm hne24) (.int .i64 ge)).far (p := ⟨b2, 1, none⟩) (Ne.symm hne24) (.slice A gp.length c)
        have f02 := hst2.frozen 0
        have f12 := hst2.frozen 1
        have lb4 := hst2.lt
        obtain ⟨r02, r12⟩ := hst2.c2
        have hbx := (hbox.far (p := ⟨b2, 0, none⟩) (Ne.symm hne) (.int .i64 ge)).far (p := ⟨b2, 1, none⟩) (Ne.symm hne) (.slice A gp.length c)
        obtain ⟨x0, x1⟩ := hbx.c2
        have hbx2 := (hbx.far (p := ⟨b4, 0, none⟩) (Ne.symm hne4) (.int .i64 kk)).far (p := ⟨b4, 1, none⟩) (Ne.symm hne4) (.int .i64 kd)
        obtain ⟨y0, y1⟩ := hbx2.c2
        have hq1 := Lib.hid (own_far (own_far (own_far (own_far hO (p := ⟨b2, 0, none⟩) (hO.ne_blk hres (by decide)) (.int .i64 ge)) (p := ⟨b2, 1, none⟩) (hO.ne_blk hres (by decide)) (.slice A gp.length c)) (p := ⟨b4, 0, none⟩) (hO.ne_blk hst (by decide)) (.int .i64 kk)) (p := ⟨b4, 1, none⟩) (hO.ne_blk hst (by decide)) (.int .i64 kd))
        have hq3 := Lib.hid ((((hB.setCell (p := ⟨b2, 0, none⟩) hb2w (.int .i64 ge)).setCell (p := ⟨b2, 1, none⟩) hb2w (.slice A gp.length c)).setCell (p := ⟨b4, 0, none⟩) hb4w (.int .i64 kk)).setCell (p := ⟨b4, 1, none⟩) hb4w (.int .i64 kd))
        have hq2 := Lib.hid (own_far (own_far (own_far (own_far hU (p := ⟨b2, 0, none⟩) (hU.ne_blk hres (by decide)) (.int .i64 ge)) (p := ⟨b2, 1, none⟩) (hU.ne_blk hres (by decide)) (.slice A gp.length c)) (p := ⟨b4, 0, none⟩) (hU.ne_blk hst (by decide)) (.int .i64 kk)) (p := ⟨b4, 1, none⟩) (hU.ne_blk hst (by decide)) (.int .i64 kd))
        have hbr2 := (hbr.far (p := ⟨b2, 0, none⟩) (Ne.symm hne2r) (.int .i64 ge)).far (p := ⟨b2, 1, none⟩) (Ne.symm hne2r) (.slice A gp.length c)
        obtain ⟨p0, p1⟩ := hbr2.c2
        have hbr3 := (hbr2.far (p := ⟨b4, 0, none⟩) (Ne.symm hne4r) (.int .i64 kk)).far (p := ⟨b4, 1, none⟩) (Ne.symm hne4r) (.int .i64 kd)
        obtain ⟨p2, p3⟩ := hbr3.c2
        have hq4 := Lib.hid (own_far (own_far (own_far (own_far hR (p := ⟨b2, 0, none⟩) (hR.ne_blk hres (by decide)) (.int .i64 ge)) (p := ⟨b2, 1, none⟩) (hR.ne_blk hres (by decide)) (.slice A gp.length c)) (p := ⟨b4, 0, none⟩) (hR.ne_blk hst (by decide)) (.int .i64 kk)) (p := ⟨b4, 1, none⟩) (hR.ne_blk hst (by decide)) (.int .i64 kd))
        refine wpAnyH_ready (rs := [12]) (by kernel_rfl) (by simp) ?_
        refine AllReadyH.cons rfl (fun K hK => ?_) AllReadyH.nil
        go_simp
        refine hK.out _ _ ⟨x0, x1, p0, p1⟩ (fun hH => ?_)
        clear hK K
        try simp only [Act.put, List.setIfInBounds_toArray, List.set_cons_zero, List.set_cons_succ]
        refine tkH 13 (v := ?_) rfl (fun _ _ _ h => h) (Or.inl ⟨by rfl, ?_⟩) hH ?_
        rotate_left
        · intro w9 hSw
          try dsimp only at hSw
          obtain ⟨s0, s1, s2, s3⟩ := hSw
          go_simp
          try with_reducible rfl
        try simp only [Act.put, List.setIfInBounds_toArray, List.set_cons_zero, List.set_cons_succ]
        refine tkH 14 (v := ?_) rfl (fun _ _ _ h => h) (Or.inl ⟨by rfl, ?_⟩) hH ?_
        rotate_left
        · intro w9 hSw
          try dsimp only at hSw
          obtain ⟨s0, s1, s2, s3⟩ := hSw
          go_simp
          try with_reducible rfl
        try simp only [Act.put, List.setIfInBounds_toArray, List.set_cons_zero, List.set_cons_succ]
        refine wpAnyH_ready (rs := [15]) (by kernel_rfl) (by simp) ?_
        refine AllReadyH.cons rfl (fun K hK => ?_) AllReadyH.nil
        go_simp
        refine hK.out _ _ ⟨y0, y1, p2, p3⟩ (fun hH => ?_)
        clear hK K
        try simp only [Act.put, List.setIfInBounds_toArray, List.set_cons_zero, List.set_cons_succ]
        refine wpAnyH_done (by kernel_rfl) ?_ _
        clear hH hbx hbx2 hst2 x0 x1 y0 y1 e0 e1 d0 d1 hO hU hR hres hst hbox hB hS hbr hbr2 hbr3 p0 p1 p2 p3
        have hln := Lib.hid hlen
        go_wp2
        refine bodyPost_ret (v := .tuple #[.agg #[.int .i64 ge, .slice A gp.length c], .slice Y l.length cy, .slice Z R.length cz, .agg #[.int .i64 kk, .int .i64 kd]]) (by simp [results, Try.results24, go_sem, r0, r1, r02, r12, hne24, Ne.symm hne24]) rfl ⟨ge, gp, _, _, _, kk, kd, rfl, by omega, by omega, hln.out, hq1.out, ⟨l, hll, hq2.out⟩, ⟨R, hRl, hq4.out⟩, hq3.out⟩
      · have q3 : (rc == 0) = false := by simpa using hrc
        clear hrc hbr hs5 hne2r hne4r hA5
        go_wp2_with fail
        generalize w5.alloc (.cells #[.int .i64 ra, .int .i64 rb] 34) = wa at *
        have hBd : Below wa.heap.size wa wa.drew := Below.drew (Below.refl _ wa)
        replace hO := hO.now hBd
        replace hU := hU.now hBd
        replace hR := hR.now hBd
        replace hres := hres.now hBd
        replace hst := hst.now hBd
        replace hbox := hbox.now hBd
        replace hB := hB.trans (hBd.mono hB.size)
        replace hS := hS.now hBd
        obtain ⟨e0, e1⟩ := hbox.c2
        have lbg := hbox.lt
        clear hBd
        go_wp2_with fail
        refine wp_region_held_drew (S := fun w' => w'.cell? ⟨bg, 0, none⟩ = some (.int .i64 ge) ∧ w'.cell? ⟨bg, 1, none⟩ = some (.slice A gp.length c)) (by kernel_rfl) ⟨e0, e1⟩ (fun hH => ?_)
        generalize wa.drew = Va at *
        refine tkH 0 (v := ?_) rfl (fun _ _ _ h => h) (Or.inl ⟨by rfl, ?_⟩) hH ?_
        rotate_left
        · intro w9 hSw
          try dsimp only at hSw
          obtain ⟨s0, s1⟩ := hSw
          go_simp
          try with_reducible rfl
        try simp only [Act.put, List.setIfInBounds_toArray, List.set_cons_zero, List.set_cons_succ]
        refine tkH 1 (v := ?_) rfl (fun _ _ _ h => h) (Or.inl ⟨by rfl, ?_⟩) hH ?_
        rotate_left
        · intro w9 hSw
          try dsimp only at hSw
          obtain ⟨s0, s1⟩ := hSw
          go_simp
          try with_reducible rfl
        try simp only [Act.put, List.setIfInBounds_toArray, List.set_cons_zero, List.set_cons_succ]
        refine tkH 2 (v := ?_) rfl (fun _ _ _ h => h) (Or.inl ⟨by rfl, ?_⟩) hH ?_
        rotate_left
        · intro w9 hSw
          try dsimp only at hSw
          obtain ⟨s0, s1⟩ := hSw
          go_simp
          try with_reducible rfl
        try simp only [Act.put, List.setIfInBounds_toArray, List.set_cons_zero, List.set_cons_succ]
        refine tkH 3 (v := ?_) rfl (fun _ _ _ h => h) (Or.inl ⟨by rfl, ?_⟩) hH ?_
        rotate_left
        · intro w9 hSw
          try dsimp only at hSw
          obtain ⟨s0, s1⟩ := hSw
          go_simp
          try with_reducible rfl
        try simp only [Act.put, List.setIfInBounds_toArray, List.set_cons_zero, List.set_cons_succ]
        refine wpAnyH_ready (rs := [4]) (by kernel_rfl) (by simp) ?_
        refine AllReadyH.cons rfl (fun K hK => ?_) AllReadyH.nil
        go_simp
        go_at_call 70
        refine (spec_l01DrawRatio g _ hS).mono ?_
        rintro e vb ⟨kk, kd, rfl, hkk, hkd, hN⟩
        replace hO := own_draw hO (by decide) hS hN
        replace hU := own_draw hU (by decide) hS hN
        replace hR := own_draw hR (by decide) hS hN
        replace hres := blk_draw hres (by decide) hS hN
        replace hst := blk_draw hst (by decide) hS hN
        replace hbox := blk_draw hbox (by decide) hS hN
        replace hB := below_draw hB hB.size hgb hN
        replace hS := hN.1
        clear hN
        clear e0 e1 lbg
        obtain ⟨e0, e1⟩ := hbox.c2
        refine hK.out _ _ ⟨e0, e1⟩ (fun hH => ?_)
        clear hK K
        try simp only [Act.put, List.setIfInBounds_toArray, List.set_cons_zero, List.set_cons_succ]
        have f0 := hres.frozen 0
        have f1 := hres.frozen 1
        have lb2 := hres.lt
        obtain ⟨r0, r1⟩ := hres.c2
        have hst2 := (hst.far (p := ⟨b2, 0, none⟩) (Ne.symm hne24) (.int .i64 ge)).far (p := ⟨b2, 1, none⟩) (Ne.symm hne24) (.slice A gp.length c)
        have f02 := hst2.frozen 0
        have f12 := hst2.frozen 1
        have lb4 := hst2.lt
        obtain ⟨r02, r12⟩ := hst2.c2
        have hbx := (hbox.far (p := ⟨b2, 0, none⟩) (Ne.symm hne) (.int .i64 ge)).far (p := ⟨b2, 1, none⟩) (Ne.symm hne) (.slice A gp.length c)
        obtain ⟨x0, x1⟩ := hbx.c2
        have hbx2 := (hbx.far (p := ⟨b4, 0, none⟩) (Ne.symm hne4) (.int .i64 kk)).far (p := ⟨b4, 1, none⟩) (Ne.symm hne4) (.int .i64 kd)
        obtain ⟨y0, y1⟩ := hbx2.c2
        have hq1 := Lib.hid (own_far (own_far (own_far (own_far hO (p := ⟨b2, 0, none⟩) (hO.ne_blk hres (by decide)) (.int .i64 ge)) (p := ⟨b2, 1, none⟩) (hO.ne_blk hres (by decide)) (.slice A gp.length c)) (p := ⟨b4, 0, none⟩) (hO.ne_blk hst (by decide)) (.int .i64 kk)) (p := ⟨b4, 1, none⟩) (hO.ne_blk hst (by decide)) (.int .i64 kd))
        have hq3 := Lib.hid ((((hB.setCell (p := ⟨b2, 0, none⟩) hb2w (.int .i64 ge)).setCell (p := ⟨b2, 1, none⟩) hb2w (.slice A gp.length c)).setCell (p := ⟨b4, 0, none⟩) hb4w (.int .i64 kk)).setCell (p := ⟨b4, 1, none⟩) hb4w (.int .i64 kd))
        have hq2 := Lib.hid (own_far (own_far (own_far (own_far hU (p := ⟨b2, 0, none⟩) (hU.ne_blk hres (by decide)) (.int .i64 ge)) (p := ⟨b2, 1, none⟩) (hU.ne_blk hres (by decide)) (.slice A gp.length c)) (p := ⟨b4, 0, none⟩) (hU.ne_blk hst (by decide)) (.int .i64 kk)) (p := ⟨b4, 1, none⟩) (hU.ne_blk hst (by decide)) (.int .i64 kd))
        have hq4 := Lib.hid (own_far (own_far (own_far (own_far hR (p := ⟨b2, 0, none⟩) (hR.ne_blk hres (by decide)) (.int .i64 ge)) (p := ⟨b2, 1, none⟩) (hR.ne_blk hres (by decide)) (.slice A gp.length c)) (p := ⟨b4, 0, none⟩) (hR.ne_blk hst (by decide)) (.int .i64 kk)) (p := ⟨b4, 1, none⟩) (hR.ne_blk hst (by decide)) (.int .i64 kd))
        refine wpAnyH_ready (rs := [5]) (by kernel_rfl) (by simp) ?_
        refine AllReadyH.cons rfl (fun K hK => ?_) AllReadyH.nil
        go_simp
        refine hK.out _ _ ⟨x0, x1⟩ (fun hH => ?_)
        clear hK K
        try simp only [Act.put, List.setIfInBounds_toArray, List.set_cons_zero, List.set_cons_succ]
        refine tkH 6 (v := ?_) rfl (fun _ _ _ h => h) (Or.inl ⟨by rfl, ?_⟩) hH ?_
        rotate_left
        · intro w9 hSw
          try dsimp only at hSw
          obtain ⟨s0, s1⟩ := hSw
          go_simp
          try with_reducible rfl
        try simp only [Act.put, List.setIfInBounds_toArray, List.set_cons_zero, List.set_cons_succ]
        refine tkH 7 (v := ?_) rfl (fun _ _ _ h => h) (Or.inl ⟨by rfl, ?_⟩) hH ?_
        rotate_left
        · intro w9 hSw
          try dsimp only at hSw
          obtain ⟨s0, s1⟩ := hSw
          go_simp
          try with_reducible rfl
        try simp only [Act.put, List.setIfInBounds_toArray, List.set_cons_zero, List.set_cons_succ]
        refine wpAnyH_ready (rs := [8]) (by kernel_rfl) (by simp) ?_
        refine AllReadyH.cons rfl (fun K hK => ?_) AllReadyH.nil
        go_simp
        refine hK.out _ _ ⟨y0, y1⟩ (fun hH => ?_)
        clear hK K
        try simp only [Act.put, List.setIfInBounds_toArray, List.set_cons_zero, List.set_cons_succ]
        refine wpAnyH_done (by kernel_rfl) ?_ _
        clear hH hbx hbx2 hst2 x0 x1 y0 y1 e0 e1 hO hU hR hres hst hbox hB hS
        have hln := Lib.hid hlen
        go_wp2
        refine bodyPost_ret (v := .tuple #[.agg #[.int .i64 ge, .slice A gp.length c], .slice Y l.length cy, .slice Z R.length cz, .agg #[.int .i64 kk, .int .i64 kd]]) (by simp [results, Try.results24, go_sem, r0, r1, r02, r12, hne24, Ne.symm hne24]) rfl ⟨ge, gp, _, _, _, kk, kd, rfl, by omega, by omega, hln.out, hq1.out, ⟨l, hll, hq2.out⟩, ⟨R, hRl, hq4.out⟩, hq3.out⟩
    · clear hbh hX
      have hBd : Below wa.heap.size wa wa.drew := Below.drew (Below.refl _ wa)
      replace hO := hO.now hBd
      replace hU := hU.now hBd
      replace hR := hR.now hBd
      replace hres := hres.now hBd
      replace hst := hst.now hBd
      replace hbox := hbox.now hBd
      replace hB := hB.trans (hBd.mono hB.size)
      replace hS := hS.now hBd
      obtain ⟨e0, e1⟩ := hbox.c2
      have lbg := hbox.lt
      clear hBd
      go_wp2_with fail
      refine wp_region_held_drew (S := fun w' => w'.cell? ⟨bg, 0, none⟩ = some (.int .i64 ge) ∧ w'.cell? ⟨bg, 1, none⟩ = some (.slice A gp.length c)) (by kernel_rfl) ⟨e0, e1⟩ (fun hH => ?_)
      generalize wa.drew = Va at *
      refine tkH 0 (v := ?_) rfl (fun _ _ _ h => h) (Or.inl ⟨by rfl, ?_⟩) hH ?_
      rotate_left
      · intro w9 hSw
        try dsimp only at hSw
        obtain ⟨s0, s1⟩ := hSw
        go_simp
        try with_reducible rfl
      try simp only [Act.put, List.setIfInBounds_toArray, List.set_cons_zero, List.set_cons_succ]
      refine tkH 1 (v := ?_) rfl (fun _ _ _ h => h) (Or.inl ⟨by rfl, ?_⟩) hH ?_
      rotate_left
      · intro w9 hSw
        try dsimp only at hSw
        obtain ⟨s0, s1⟩ := hSw
        go_simp
        try with_reducible rfl
      try simp only [Act.put, List.setIfInBounds_toArray, List.set_cons_zero, List.set_cons_succ]
      refine tkH 2 (v := ?_) rfl (fun _ _ _ h => h) (Or.inl ⟨by rfl, ?_⟩) hH ?_
      rotate_left
      · intro w9 hSw
        try dsimp only at hSw
        obtain ⟨s0, s1⟩ := hSw
        go_simp
        try with_reducible rfl
      try simp only [Act.put, List.setIfInBounds_toArray, List.set_cons_zero, List.set_cons_succ]
      refine tkH 3 (v := ?_) rfl (fun _ _ _ h => h) (Or.inl ⟨by rfl, ?_⟩) hH ?_
      rotate_left
      · intro w9 hSw
        try dsimp only at hSw
        obtain ⟨s0, s1⟩ := hSw
        go_simp
        try with_reducible rfl
      try simp only [Act.put, List.setIfInBounds_toArray, List.set_cons_zero, List.set_cons_succ]
      refine wpAnyH_ready (rs := [4]) (by kernel_rfl) (by simp) ?_
      refine AllReadyH.cons rfl (fun K hK => ?_) AllReadyH.nil
      go_simp
      go_at_call 70
      refine (spec_l01DrawRatio g _ hS).mono ?_
      rintro e vb ⟨kk, kd, rfl, hkk, hkd, hN⟩
      replace hO := own_draw hO (by decide) hS hN
      replace hU := own_draw hU (by decide) hS hN
      replace hR := own_draw hR (by decide) hS hN
      replace hres := blk_draw hres (by decide) hS hN
      replace hst := blk_draw hst (by decide) hS hN
      replace hbox := blk_draw hbox (by decide) hS hN
      replace hB := below_draw hB hB.size hgb hN
      replace hS := hN.1
      clear hN
      clear e0 e1 lbg
      obtain ⟨e0, e1⟩ := hbox.c2
      refine hK.out _ _ ⟨e0, e1⟩ (fun hH => ?_)
      clear hK K
      try simp only [Act.put, List.setIfInBounds_toArray, List.set_cons_zero, List.set_cons_succ]
      have f0 := hres.frozen 0
      have f1 := hres.frozen 1
      have lb2 := hres.lt
      obtain ⟨r0, r1⟩ := hres.c2
      have hst2 := (hst.far (p := ⟨b2, 0, none⟩) (Ne.symm hne24) (.int .i64 ge)).far (p := ⟨b2, 1, none⟩) (Ne.symm hne24) (.slice A gp.length c)
      have f02 := hst2.frozen 0
      have f12 := hst2.frozen 1
      have lb4 := hst2.lt
      obtain ⟨r02, r12⟩ := hst2.c2
      have hbx := (hbox.far (p := ⟨b2, 0, none⟩) (Ne.symm hne) (.int .i64 ge)).far (p := ⟨b2, 1, none⟩) (Ne.symm hne) (.slice A gp.length c)
      obtain ⟨x0, x1⟩ := hbx.c2
      have hbx2 := (hbx.far (p := ⟨b4, 0, none⟩) (Ne.symm hne4) (.int .i64 kk)).far (p := ⟨b4, 1, none⟩) (Ne.symm hne4) (.int .i64 kd)
      obtain ⟨y0, y1⟩ := hbx2.c2
      have hq1 := Lib.hid (own_far (own_far (own_far (own_far hO (p := ⟨b2, 0, none⟩) (hO.ne_blk hres (by decide)) (.int .i64 ge)) (p := ⟨b2, 1, none⟩) (hO.ne_blk hres (by decide)) (.slice A gp.length c)) (p := ⟨b4, 0, none⟩) (hO.ne_blk hst (by decide)) (.int .i64 kk)) (p := ⟨b4, 1, none⟩) (hO.ne_blk hst (by decide)) (.int .i64 kd))
      have hq3 := Lib.hid ((((hB.setCell (p := ⟨b2, 0, none⟩) hb2w (.int .i64 ge)).setCell (p := ⟨b2, 1, none⟩) hb2w (.slice A gp.length c)).setCell (p := ⟨b4, 0, none⟩) hb4w (.int .i64 kk)).setCell (p := ⟨b4, 1, none⟩) hb4w (.int .i64 kd))
      have hq2 := Lib.hid (own_far (own_far (own_far (own_far hU (p := ⟨b2, 0, none⟩) (hU.ne_blk hres (by decide)) (.int .i64 ge)) (p := ⟨b2, 1, none⟩) (hU.ne_blk hres (by decide)) (.slice A gp.length c)) (p := ⟨b4, 0, none⟩) (hU.ne_blk hst (by decide)) (.int .i64 kk)) (p := ⟨b4, 1, none⟩) (hU.ne_blk hst (by decide)) (.int .i64 kd))
      have hq4 := Lib.hid (own_far (own_far (own_far (own_far hR (p := ⟨b2, 0, none⟩) (hR.ne_blk hres (by decide)) (.int .i64 ge)) (p := ⟨b2, 1, none⟩) (hR.ne_blk hres (by decide)) (.slice A gp.length c)) (p := ⟨b4, 0, none⟩) (hR.ne_blk hst (by decide)) (.int .i64 kk)) (p := ⟨b4, 1, none⟩) (hR.ne_blk hst (by decide)) (.int .i64 kd))
      refine wpAnyH_ready (rs := [5]) (by kernel_rfl) (by simp) ?_
      refine AllReadyH.cons rfl (fun K hK => ?_) AllReadyH.nil
      go_simp
      refine hK.out _ _ ⟨x0, x1⟩ (fun hH => ?_)
      clear hK K
      try simp only [Act.put, List.setIfInBounds_toArray, List.set_cons_zero, List.set_cons_succ]
      refine tkH 6 (v := ?_) rfl (fun _ _ _ h => h) (Or.inl ⟨by rfl, ?_⟩) hH ?_
      rotate_left
      · intro w9 hSw
        try dsimp only at hSw
        obtain ⟨s0, s1⟩ := hSw
        go_simp
        try with_reducible rfl
      try simp only [Act.put, List.setIfInBounds_toArray, List.set_cons_zero, List.set_cons_succ]
      refine tkH 7 (v := ?_) rfl (fun _ _ _ h => h) (Or.inl ⟨by rfl, ?_⟩) hH ?_
      rotate_left
      · intro w9 hSw
        try dsimp only at hSw
        obtain ⟨s0, s1⟩ := hSw
        go_simp
        try with_reducible rfl
      try simp only [Act.put, List.setIfInBounds_toArray, List.set_cons_zero, List.set_cons_succ]
      refine wpAnyH_ready (rs := [8]) (by kernel_rfl) (by simp) ?_
      refine AllReadyH.cons rfl (fun K hK => ?_) AllReadyH.nil
      go_simp
      refine hK.out _ _ ⟨y0, y1⟩ (fun hH => ?_)
      clear hK K
      try simp only [Act.put, List.setIfInBounds_toArray, List.set_cons_zero, List.set_cons_succ]
      refine wpAnyH_done (by kernel_rfl) ?_ _
      clear hH hbx hbx2 hst2 x0 x1 y0 y1 e0 e1 hO hU hR hres hst hbox hB hS
      have hln := Lib.hid hlen
      go_wp2
      refine bodyPost_ret (v := .tuple #[.agg #[.int .i64 ge, .slice A gp.length c], .slice Y l.length cy, .slice Z R.length cz, .agg #[.int .i64 kk, .int .i64 kd]]) (by simp [results, Try.results24, go_sem, r0, r1, r02, r12, hne24, Ne.symm hne24]) rfl ⟨ge, gp, _, _, _, kk, kd, rfl, by omega, by omega, hln.out, hq1.out, ⟨l, hll, hq2.out⟩, ⟨R, hRl, hq4.out⟩, hq3.out⟩
  · have q3 : (hc == 0) = false := by simpa using hcc
    clear hcc hX hbh hs3 hA3
    go_wp2_with fail
    generalize w3.alloc (.cells #[.int .i64 he, .slice XA hp.length xc] 32) = wa at *
    have hBd : Below wa.heap.size wa wa.drew := Below.drew (Below.refl _ wa)
    replace hO := hO.now hBd
    replace hU := hU.now hBd
    replace hR := hR.now hBd
    replace hres := hres.now hBd
    replace hst := hst.now hBd
    replace hbox := hbox.now hBd
    replace hB := hB.trans (hBd.mono hB.size)
    replace hS := hS.now hBd
    obtain ⟨e0, e1⟩ := hbox.c2
    have lbg := hbox.lt
    clear hBd
    go_wp2_with fail
    refine wp_region_held_drew (S := fun w' => w'.cell? ⟨bg, 0, none⟩ = some (.int .i64 ge) ∧ w'.cell? ⟨bg, 1, none⟩ = some (.slice A gp.length c)) (by kernel_rfl) ⟨e0, e1⟩ (fun hH => ?_)
    generalize wa.drew = Va at *
    refine tkH 0 (v := ?_) rfl (fun _ _ _ h => h) (Or.inl ⟨by rfl, ?_⟩) hH ?_
    rotate_left
    · intro w9 hSw
      try dsimp only at hSw
      obtain ⟨s0, s1⟩ := hSw
      go_simp
      try with_reducible rfl
    try simp only [Act.put, List.setIfInBounds_toArray, List.set_cons_zero, List.set_cons_succ]
    refine tkH 1 (v := ?_) rfl (fun _ _ _ h => h) (Or.inl ⟨by rfl, ?_⟩) hH ?_
    rotate_left
    · intro w9 hSw
      try dsimp only at hSw
      obtain ⟨s0, s1⟩ := hSw
      go_simp
      try with_reducible rfl
    try simp only [Act.put, List.setIfInBounds_toArray, List.set_cons_zero, List.set_cons_succ]
    refine tkH 2 (v := ?_) rfl (fun _ _ _ h => h) (Or.inl ⟨by rfl, ?_⟩) hH ?_
    rotate_left
    · intro w9 hSw
      try dsimp only at hSw
      obtain ⟨s0, s1⟩ := hSw
      go_simp
      try with_reducible rfl
    try simp only [Act.put, List.setIfInBounds_toArray, List.set_cons_zero, List.set_cons_succ]
    refine tkH 3 (v := ?_) rfl (fun _ _ _ h => h) (Or.inl ⟨by rfl, ?_⟩) hH ?_
    rotate_left
    · intro w9 hSw
      try dsimp only at hSw
      obtain ⟨s0, s1⟩ := hSw
      go_simp
      try with_reducible rfl
    try simp only [Act.put, List.setIfInBounds_toArray, List.set_cons_zero, List.set_cons_succ]
    refine wpAnyH_ready (rs := [4]) (by kernel_rfl) (by simp) ?_
    refine AllReadyH.cons rfl (fun K hK => ?_) AllReadyH.nil
    go_simp
    go_at_call 70
    refine (spec_l01DrawRatio g _ hS).mono ?_
    rintro e vb ⟨kk, kd, rfl, hkk, hkd, hN⟩
    replace hO := own_draw hO (by decide) hS hN
    replace hU := own_draw hU (by decide) hS hN
    replace hR := own_draw hR (by decide) hS hN
    replace hres := blk_draw hres (by decide) hS hN
    replace hst := blk_draw hst (by decide) hS hN
    replace hbox := blk_draw hbox (by decide) hS hN
    replace hB := below_draw hB hB.size hgb hN
    replace hS := hN.1
    clear hN
    clear e0 e1 lbg
    obtain ⟨e0, e1⟩ := hbox.c2
    refine hK.out _ _ ⟨e0, e1⟩ (fun hH => ?_)
    clear hK K
    try simp only [Act.put, List.setIfInBounds_toArray, List.set_cons_zero, List.set_cons_succ]
    have f0 := hres.frozen 0
    have f1 := hres.frozen 1
    have lb2 := hres.lt
    obtain ⟨r0, r1⟩ := hres.c2
    have hst2 := (hst.far (p := ⟨b2, 0, none⟩) (Ne.symm hne24) (.int .i64 ge)).far (p := ⟨b2, 1, none⟩) (Ne.symm hne24) (.slice A gp.length c)
    have f02 := hst2.frozen 0
    have f12 := hst2.frozen 1
    have lb4 := hst2.lt
    obtain ⟨r02, r12⟩ := hst2.c2
    have hbx := (hbox.far (p := ⟨b2, 0, none⟩) (Ne.symm hne) (.int .i64 ge)).far (p := ⟨b2, 1, none⟩) (Ne.symm hne) (.slice A gp.length c)
    obtain ⟨x0, x1⟩ := hbx.c2
    have hbx2 := (hbx.far (p := ⟨b4, 0, none⟩) (Ne.symm hne4) (.int .i64 kk)).far (p := ⟨b4, 1, none⟩) (Ne.symm hne4) (.int .i64 kd)
    obtain ⟨y0, y1⟩ := hbx2.c2
    have hq1 := Lib.hid (own_far (own_far (own_far (own_far hO (p := ⟨b2, 0, none⟩) (hO.ne_blk hres (by decide)) (.int .i64 ge)) (p := ⟨b2, 1, none⟩) (hO.ne_blk hres (by decide)) (.slice A gp.length c)) (p := ⟨b4, 0, none⟩) (hO.ne_blk hst (by decide)) (.int .i64 kk)) (p := ⟨b4, 1, none⟩) (hO.ne_blk hst (by decide)) (.int .i64 kd))
    have hq3 := Lib.hid ((((hB.setCell (p := ⟨b2, 0, none⟩) hb2w (.int .i64 ge)).setCell (p := ⟨b2, 1, none⟩) hb2w (.slice A gp.length c)).setCell (p := ⟨b4, 0, none⟩) hb4w (.int .i64 kk)).setCell (p := ⟨b4, 1, none⟩) hb4w (.int .i64 kd))
    have hq2 := Lib.hid (own_far (own_far (own_far (own_far hU (p := ⟨b2, 0, none⟩) (hU.ne_blk hres (by decide)) (.int .i64 ge)) (p := ⟨b2, 1, none⟩) (hU.ne_blk hres (by decide)) (.slice A gp.length c)) (p := ⟨b4, 0, none⟩) (hU.ne_blk hst (by decide)) (.int .i64 kk)) (p := ⟨b4, 1, none⟩) (hU.ne_blk hst (by decide)) (.int .i64 kd))
    have hq4 := Lib.hid (own_far (own_far (own_far (own_far hR (p := ⟨b2, 0, none⟩) (hR.ne_blk hres (by decide)) (.int .i64 ge)) (p := ⟨b2, 1, none⟩) (hR.ne_blk hres (by decide)) (.slice A gp.length c)) (p := ⟨b4, 0, none⟩) (hR.ne_blk hst (by decide)) (.int .i64 kk)) (p := ⟨b4, 1, none⟩) (hR.ne_blk hst (by decide)) (.int .i64 kd))
    refine wpAnyH_ready (rs := [5]) (by kernel_rfl) (by simp) ?_
    refine AllReadyH.cons rfl (fun K hK => ?_) AllReadyH.nil
    go_simp
    refine hK.out _ _ ⟨x0, x1⟩ (fun hH => ?_)
    clear hK K
    try simp only [Act.put, List.setIfInBounds_toArray, List.set_cons_zero, List.set_cons_succ]
    refine tkH 6 (v := ?_) rfl (fun _ _ _ h => h) (Or.inl ⟨by rfl, ?_⟩) hH ?_
    rotate_left
    · intro w9 hSw
      try dsimp only at hSw
      obtain ⟨s0, s1⟩ := hSw
      go_simp
      try with_reducible rfl
    try simp only [Act.put, List.setIfInBounds_toArray, List.set_cons_zero, List.set_cons_succ]
    refine tkH 7 (v := ?_) rfl (fun _ _ _ h => h) (Or.inl ⟨by rfl, ?_⟩) hH ?_
    rotate_left
    · intro w9 hSw
      try dsimp only at hSw
      obtain ⟨s0, s1⟩ := hSw
      go_simp
      try with_reducible rfl
    try simp only [Act.put, List.setIfInBounds_toArray, List.set_cons_zero, List.set_cons_succ]
    refine wpAnyH_ready (rs := [8]) (by kernel_rfl) (by simp) ?_
    refine AllReadyH.cons rfl (fun K hK => ?_) AllReadyH.nil
    go_simp
    refine hK.out _ _ ⟨y0, y1⟩ (fun hH => ?_)
    clear hK K
    try simp only [Act.put, List.setIfInBounds_toArray, List.set_cons_zero, List.set_cons_succ]
    refine wpAnyH_done (by kernel_rfl) ?_ _
    clear hH hbx hbx2 hst2 x0 x1 y0 y1 e0 e1 hO hU hR hres hst hbox hB hS
    have hln := Lib.hid hlen
    go_wp2
    refine bodyPost_ret (v := .tuple #[.agg #[.int .i64 ge, .slice A gp.length c], .slice Y l.length cy, .slice Z R.length cz, .agg #[.int .i64 kk, .int .i64 kd]]) (by simp [results, Try.results24, go_sem, r0, r1, r02, r12, hne24, Ne.symm hne24]) rfl ⟨ge, gp, _, _, _, kk, kd, rfl, by omega, by omega, hln.out, hq1.out, ⟨l, hll, hq2.out⟩, ⟨R, hRl, hq4.out⟩, hq3.out⟩
end Go.Proofs.Ytbdklhahbeiffaa
