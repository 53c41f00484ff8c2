/-
  FnStates returns true for every input: the cycle mean of the state matrix is the cycle time, and a closed matrix satisfies its equation.
  Conditions: none beyond the statement's own.
-/
import Derived.Test.YtcoomogabicfnaaCycP
import Derived.Test.YtcoomogabicfnaaDrJ
import Derived.Test.YtcoomogabicfnaaStarF
import Derived.Test.YtcoomogabicfnaaDelayB
import Derived.Test.YtcoomogabicfnaaCirI
import Derived.Test.YtcoomogabicfnaaLike
import Derived.Test.YtcoomogabicfnaaOpen
namespace Go.Proofs.Ytcoomogabicfnaa
open Go.RowKit Go.ChangeShapes Go.WideShapes Go.ChangeAt Go.Deep
set_option linter.unusedVariables false
set_option linter.unusedSimpArgs false
theorem bnd_fin {n : Nat} {B : Int} {F : Nat → Nat → Int} (h : finM n B F) (hB : B ≤ 1000000) : bnd n F := by
  intro i j hi hj
  rcases h i j hi hj with e | e
  · exact .inr e
  · left; omega
theorem st_facts {ge : Int} {gp : List Place} {M : List (List Int)} (h : stF ge gp = (M, 0)) : ∃ n V : Nat, ge = n ∧ StG n V gp ∧ M = matF (V * n) (stK n gp) (V * n) ∧ 1 ≤ V * n ∧ V * n ≤ 10 := by
  unfold stF at h
  by_cases hl : liveC ge gp = 0
  · rw [if_pos hl] at h
    obtain ⟨hg, -⟩ := liveC_zeroK hl
    obtain ⟨n, rfl⟩ := Int.eq_ofNat_of_zero_le (show 0 ≤ ge by have := okGraph_ev hg; omega)
    by_cases hs : 10 < vmaxF gp * n
    · rw [if_pos hs] at h
      injection h with _ h
      omega
    · rw [if_neg hs] at h
      obtain ⟨G, e⟩ := st_of hl hs
      injection h with h _
      rw [e, Int.toNat_natCast, Int.toNat_natCast] at h
      exact ⟨n, _, rfl, G, h.symm, Nat.le_trans G.pos (Nat.le_mul_of_pos_left n G.vpos), G.small⟩
  · rw [if_neg hl] at h
    injection h with _ h
    exact absurd h hl
theorem mean_facts {n V : Nat} {gp : List Place} {A B C : Int} (G : StG n V gp) (hCT : ctF n gp = (A, B, C)) :
    ∀ a b f, MeanS (V * n) (stK n gp) (V * n) a b f → (f = false ∧ A = 0 ∧ B = 0 ∧ C = 4) ∨ (f = true ∧ A = a ∧ B = b ∧ C = 0 ∧ ratioOk a b = true) := by
  intro a b f h
  rcases G.mean h with ⟨h1, h2⟩ | ⟨h1, h2, h3⟩
  · rw [hCT] at h2
    injection h2 with h4 h5
    injection h5 with h5 h6
    exact .inl ⟨h1, h4, h5, h6⟩
  · rw [hCT] at h2
    injection h2 with h4 h5
    injection h5 with h5 h6
    exact .inr ⟨h1, h4, h5, h6, h3⟩
theorem inB_05 {m : Int} (h : inB m 1 5 = true) : inB m 0 5 = true := by
  unfold inB at *
  simp at *
  omega
theorem clos_facts {he : Int} {hp : List Place} {m : Int} {M : List (List Int)} (h : closF he hp m = (M, 0)) :
    ∃ n : Nat, he = n ∧ 1 ≤ n ∧ n ≤ 10 ∧ M = matF n (closK n hp m) n ∧ delayF n hp 0 = (matF n (delF 0 hp) n, 0) ∧ delayF n hp m = (matF n (delF m hp) n, 0) ∧
      finM n 1000 (delF 0 hp) ∧ finM n 1000 (delF m hp) ∧ finM n 11000 (closK n hp m) ∧ finM n 12000 (mulF n (delF 0 hp) (closK n hp m)) ∧
      matF n (maxF (delF m hp) (mulF n (delF 0 hp) (closK n hp m))) n = matF n (closK n hp m) n := by
  unfold closF at h
  by_cases ht : timC he hp (inB m 1 5) = 0
  · rw [if_pos ht] at h
    obtain ⟨hg, hm, hl⟩ := timC_zero ht
    have hge := okGraph_ev hg
    obtain ⟨n, rfl⟩ := Int.eq_ofNat_of_zero_le (show 0 ≤ he by omega)
    rw [Int.toNat_natCast] at hl
    injection h with h _
    have hI := finM_it (delF_fin hg 0 n) (by omega) (by omega) n (by omega)
    have hC : finM n 11000 (closK n hp m) := by
      intro i j hi hj
      refine fin_sumT n _ fun k hk => (fin_tms ((hI i k hi hk).mono (show (n : Int) * 1000 ≤ 10000 by omega)) (delF_fin hg m n k j hk hj) (by omega) (by omega)).mono (by omega)
    refine ⟨n, rfl, by omega, by omega, h.symm, ?_, ?_, delF_fin hg 0 n, delF_fin hg m n, hC, ?_, closed_eq hg hl m⟩
    · unfold delayF
      rw [if_neg (by rw [hg]; simp), if_neg (by decide)]
      rfl
    · unfold delayF
      rw [if_neg (by rw [hg]; simp), if_neg (by rw [inB_05 hm]; simp)]
      rfl
    · intro i j hi hj
      refine fin_sumT n _ fun k hk => (fin_tms (delF_fin hg 0 n i k hi hk) (hC k j hk hj) (by omega) (by omega)).mono (by omega)
  · rw [if_neg ht] at h
    injection h with _ h
    exact absurd h ht
set_option maxHeartbeats 32000000 in
set_option maxRecDepth 100000 in
theorem law_FnStates (cv : Value) (bs : List Int) (w : World) (a0 : Lst byteCell 1 w w.heap.size cv bs) (o0 : Hid (∀ b ∈ bs, 0 ≤ b ∧ b ≤ 255)) :
    Calls Try.prog 3 #[cv] w fun e w' => e = .returned (.bool true) ∧ Below w.heap.size w w' := by
  obtain ⟨CA, cc, rfl⟩ := a0.shape
  by_cases hbig : (4096 : Int) < (bs.length : Int)
  · have hq : Hid (decide ((4096 : Int) < (bs.length : Int)) = true) := decide_eq_true hbig
    clear hbig
    go_enter Try.func3, Try.ntmps3
    go_wp2_with (go_at_call 4; refine (laws_big _ _ _ a0).mono ?_; rintro e w1 ⟨rfl, rfl⟩; rw [hq.out])
    go_ret
    exact ⟨rfl, Below.refl _ _⟩
  · have hq : Hid (decide ((4096 : Int) < (bs.length : Int)) = false) := decide_eq_false hbig
    clear hbig
    go_enter Try.func3, Try.ntmps3
    go_wp2_with fail
    refine (laws_big _ _ _ a0).mono ?_
    rintro e w1 ⟨rfl, rfl⟩
    rw [hq.out]
    go_wp2_with fail
    refine (spec_DrawStateMatrix _ bs w a0 o0).mono ?_
    rintro e w0 ⟨ge, gp, v, rfl, hglen, hO, hB⟩
    obtain ⟨GA, gc, rfl⟩ := hO.shape
    have hA : Below w0.heap.size w0 (w0.alloc (.cells #[.int .i64 ge, .slice GA gp.length gc] 26)) := (Below.refl _ _).alloc (Nat.le_refl _) _
    have hx1 : Blk (w0.alloc (.cells #[.int .i64 ge, .slice GA gp.length gc] 26)) w0.heap.size 26 #[.int .i64 ge, .slice GA gp.length gc] := Blk.newAt w0 _ rfl
    go_wp2_with fail
    replace hO := hO.now hA
    replace hB := hB.trans (hA.mono hB.size)
    clear hA
    generalize (w0.alloc (.cells #[.int .i64 ge, .slice GA gp.length gc] 26)) = wa at *
    generalize w0.heap.size = b1 at *
    obtain ⟨SM, sc, hSF⟩ : ∃ a b, stF ge gp = (a, b) := ⟨_, _, rfl⟩
    have hSFH := Lib.hid hSF
    refine (impl_StateMatrix _ ge gp _ hO.lst).mono ?_
    rintro e w1 ⟨s1, rfl, hS1, hB2⟩
    rw [hSF] at hS1 ⊢
    dsimp only at hS1 ⊢
    replace hO := hO.now hB2
    replace hx1 := hx1.now hB2
    replace hB := hB.trans (hB2.mono hB.size)
    clear hB2
    obtain ⟨khx10, khx11⟩ := hx1.c2
    have lhx1 := hx1.lt
    go_wp2_with fail
    clear khx10 khx11 lhx1
    refine (spec_StateMatrix _ ge gp _ hO.lst).mono ?_
    rintro e w2 ⟨s2, rfl, hS2, hB2⟩
    rw [hSF] at hS2 ⊢
    dsimp only at hS2 ⊢
    clear hSF
    replace hO := hO.now hB2
    replace hx1 := hx1.now hB2
    replace hS1 := hS1.now hB2
    replace hB := hB.trans (hB2.mono hB.size)
    clear hB2
    have a1 := a0.now hB
    go_wp2_with fail
    refine (spec_DrawClosedMatrix _ bs _ a1 o0).mono ?_
    rintro e w3 ⟨he, hp, hv, m, rfl, hhl, hH, hB2⟩
    obtain ⟨HA, hc, rfl⟩ := hH.shape
    replace hO := hO.now hB2
    replace hx1 := hx1.now hB2
    replace hS1 := hS1.now hB2
    replace hS2 := hS2.now hB2
    replace hB := hB.trans (hB2.mono hB.size)
    clear hB2
    clear a1
    have hA : Below w3.heap.size w3 (w3.alloc (.cells #[.int .i64 he, .slice HA hp.length hc] 26)) := (Below.refl _ _).alloc (Nat.le_refl _) _
    have hx2 : Blk (w3.alloc (.cells #[.int .i64 he, .slice HA hp.length hc] 26)) w3.heap.size 26 #[.int .i64 he, .slice HA hp.length hc] := Blk.newAt w3 _ rfl
    go_wp2_with fail
    replace hO := hO.now hA
    replace hx1 := hx1.now hA
    replace hS1 := hS1.now hA
    replace hS2 := hS2.now hA
    replace hH := hH.now hA
    replace hB := hB.trans (hA.mono hB.size)
    clear hA
    generalize (w3.alloc (.cells #[.int .i64 he, .slice HA hp.length hc] 26)) = wb at *
    generalize w3.heap.size = b2 at *
    obtain ⟨CM, cd, hCF⟩ : ∃ a b, closF he hp m = (a, b) := ⟨_, _, rfl⟩
    have hCFH := Lib.hid hCF
    refine (impl_ClosedMatrix _ he hp m _ hH.lst).mono ?_
    rintro e w4 ⟨c1, rfl, hC1, hB2⟩
    rw [hCF] at hC1 ⊢
    dsimp only at hC1 ⊢
    replace hO := hO.now hB2
    replace hx1 := hx1.now hB2
    replace hS1 := hS1.now hB2
    replace hS2 := hS2.now hB2
    replace hH := hH.now hB2
    replace hx2 := hx2.now hB2
    replace hB := hB.trans (hB2.mono hB.size)
    clear hB2
    obtain ⟨khx20, khx21⟩ := hx2.c2
    have lhx2 := hx2.lt
    go_wp2_with fail
    clear khx20 khx21 lhx2
    refine (spec_ClosedMatrix _ he hp m _ hH.lst).mono ?_
    rintro e w5 ⟨c2, rfl, hC2, hB2⟩
    rw [hCF] at hC2 ⊢
    dsimp only at hC2 ⊢
    clear hCF
    replace hO := hO.now hB2
    replace hx1 := hx1.now hB2
    replace hS1 := hS1.now hB2
    replace hS2 := hS2.now hB2
    replace hH := hH.now hB2
    replace hx2 := hx2.now hB2
    replace hC1 := hC1.now hB2
    replace hB := hB.trans (hB2.mono hB.size)
    clear hB2
    have a1 := a0.now hB
    go_wp2_with fail
    refine (spec_DrawDelayMatrix _ bs _ a1 o0).mono ?_
    rintro e w6 ⟨ke, kp, kv, km, rfl, hkl, hK, hB2⟩
    obtain ⟨KA, kc, rfl⟩ := hK.shape
    replace hO := hO.now hB2
    replace hx1 := hx1.now hB2
    replace hS1 := hS1.now hB2
    replace hS2 := hS2.now hB2
    replace hH := hH.now hB2
    replace hx2 := hx2.now hB2
    replace hC1 := hC1.now hB2
    replace hC2 := hC2.now hB2
    replace hB := hB.trans (hB2.mono hB.size)
    clear hB2
    clear a1
    have hA : Below w6.heap.size w6 (w6.alloc (.cells #[.int .i64 ke, .slice KA kp.length kc] 26)) := (Below.refl _ _).alloc (Nat.le_refl _) _
    have hx3 : Blk (w6.alloc (.cells #[.int .i64 ke, .slice KA kp.length kc] 26)) w6.heap.size 26 #[.int .i64 ke, .slice KA kp.length kc] := Blk.newAt w6 _ rfl
    go_wp2_with fail
    replace hO := hO.now hA
    replace hx1 := hx1.now hA
    replace hS1 := hS1.now hA
    replace hS2 := hS2.now hA
    replace hH := hH.now hA
    replace hx2 := hx2.now hA
    replace hC1 := hC1.now hA
    replace hC2 := hC2.now hA
    replace hK := hK.now hA
    replace hB := hB.trans (hA.mono hB.size)
    clear hA
    generalize (w6.alloc (.cells #[.int .i64 ke, .slice KA kp.length kc] 26)) = wc at *
    generalize w6.heap.size = b3 at *
    obtain ⟨DM, dc, hDF⟩ : ∃ a b, delayF ke kp km = (a, b) := ⟨_, _, rfl⟩
    refine (impl_DelayMatrix _ ke kp km _ hK.lst).mono ?_
    rintro e w7 ⟨d1, rfl, hD1, hB2⟩
    rw [hDF] at hD1 ⊢
    dsimp only at hD1 ⊢
    replace hO := hO.now hB2
    replace hx1 := hx1.now hB2
    replace hS1 := hS1.now hB2
    replace hS2 := hS2.now hB2
    replace hH := hH.now hB2
    replace hx2 := hx2.now hB2
    replace hC1 := hC1.now hB2
    replace hC2 := hC2.now hB2
    replace hK := hK.now hB2
    replace hx3 := hx3.now hB2
    replace hB := hB.trans (hB2.mono hB.size)
    clear hB2
    obtain ⟨khx30, khx31⟩ := hx3.c2
    have lhx3 := hx3.lt
    go_wp2_with fail
    clear khx30 khx31 lhx3
    refine (spec_DelayMatrix _ ke kp km _ hK.lst).mono ?_
    rintro e w8 ⟨d2, rfl, hD2, hB2⟩
    rw [hDF] at hD2 ⊢
    dsimp only at hD2 ⊢
    clear hDF
    replace hO := hO.now hB2
    replace hx1 := hx1.now hB2
    replace hS1 := hS1.now hB2
    replace hS2 := hS2.now hB2
    replace hH := hH.now hB2
    replace hx2 := hx2.now hB2
    replace hC1 := hC1.now hB2
    replace hC2 := hC2.now hB2
    replace hK := hK.now hB2
    replace hx3 := hx3.now hB2
    replace hD1 := hD1.now hB2
    replace hB := hB.trans (hB2.mono hB.size)
    clear hB2
    have q1 : (sc != sc) = false := by simp
    have q2 : (cd != cd) = false := by simp
    have q3 : (dc != dc) = false := by simp
    go_wp2_with fail
    refine (laws_likeTables9 _ _ SM SM _ hS1.lst hS2.lst).mono ?_
    rintro e v0 ⟨rfl, hB2⟩
    rw [show decide (SM = SM) = true from decide_eq_true rfl]
    replace hO := hO.now hB2
    replace hx1 := hx1.now hB2
    replace hS1 := hS1.now hB2
    replace hS2 := hS2.now hB2
    replace hH := hH.now hB2
    replace hx2 := hx2.now hB2
    replace hC1 := hC1.now hB2
    replace hC2 := hC2.now hB2
    replace hK := hK.now hB2
    replace hx3 := hx3.now hB2
    replace hD1 := hD1.now hB2
    replace hD2 := hD2.now hB2
    replace hB := hB.trans (hB2.mono hB.size)
    clear hB2
    go_wp2_with fail
    refine (laws_likeTables9 _ _ CM CM _ hC1.lst hC2.lst).mono ?_
    rintro e v1 ⟨rfl, hB2⟩
    rw [show decide (CM = CM) = true from decide_eq_true rfl]
    replace hO := hO.now hB2
    replace hx1 := hx1.now hB2
    replace hS1 := hS1.now hB2
    replace hS2 := hS2.now hB2
    replace hH := hH.now hB2
    replace hx2 := hx2.now hB2
    replace hC1 := hC1.now hB2
    replace hC2 := hC2.now hB2
    replace hK := hK.now hB2
    replace hx3 := hx3.now hB2
    replace hD1 := hD1.now hB2
    replace hD2 := hD2.now hB2
    replace hB := hB.trans (hB2.mono hB.size)
    clear hB2
    go_wp2_with fail
    refine (laws_likeTables9 _ _ DM DM _ hD1.lst hD2.lst).mono ?_
    rintro e v2 ⟨rfl, hB2⟩
    rw [show decide (DM = DM) = true from decide_eq_true rfl]
    replace hO := hO.now hB2
    replace hx1 := hx1.now hB2
    replace hS1 := hS1.now hB2
    replace hS2 := hS2.now hB2
    replace hH := hH.now hB2
    replace hx2 := hx2.now hB2
    replace hC1 := hC1.now hB2
    replace hC2 := hC2.now hB2
    replace hK := hK.now hB2
    replace hx3 := hx3.now hB2
    replace hD1 := hD1.now hB2
    replace hD2 := hD2.now hB2
    replace hB := hB.trans (hB2.mono hB.size)
    clear hB2
    clear q1 q2 q3
    clear hS2 hC2 hD1 hD2 hK hx3
    by_cases hcc : cd = 0
    · subst hcc
      obtain ⟨n, rfl, hn1, hn2, hM, hd0, hdm, f1, f2, f3, f4, heq⟩ := clos_facts hCFH.out
      clear hCFH
      have p1 := mat_vals f1 (by omega)
      have p2 := mat_vals f2 (by omega)
      have p3 := mat_vals f3 (by omega)
      have p4 := mat_vals f4 (by omega)
      have bF : Hid (bnd n (delF 0 hp)) := bnd_fin f1 (by omega)
      have bG : Hid (bnd n (closK n hp m)) := bnd_fin f3 (by omega)
      have hd0H := Lib.hid hd0
      have hdmH := Lib.hid hdm
      have heqH := Lib.hid heq
      clear f1 f2 f3 f4 hd0 hdm heq
      rw [hM] at hC1
      clear hM
      obtain ⟨khx20, khx21⟩ := hx2.c2
      have lhx2 := hx2.lt
      go_wp2_with fail
      clear khx20 khx21 lhx2
      refine (impl_DelayMatrix _ n hp 0 _ hH.lst).mono ?_
      rintro e x1 ⟨fr, rfl, hF1, hB2⟩
      rw [hd0H.out] at hF1 ⊢
      dsimp only at hF1 ⊢
      replace hO := hO.now hB2
      replace hx1 := hx1.now hB2
      replace hS1 := hS1.now hB2
      replace hH := hH.now hB2
      replace hx2 := hx2.now hB2
      replace hC1 := hC1.now hB2
      replace hB := hB.trans (hB2.mono hB.size)
      clear hB2
      obtain ⟨khx20, khx21⟩ := hx2.c2
      have lhx2 := hx2.lt
      go_wp2_with fail
      clear khx20 khx21 lhx2
      refine (impl_DelayMatrix _ n hp m _ hH.lst).mono ?_
      rintro e x2 ⟨ow, rfl, hW1, hB2⟩
      rw [hdmH.out] at hW1 ⊢
      dsimp only at hW1 ⊢
      replace hO := hO.now hB2
      replace hx1 := hx1.now hB2
      replace hS1 := hS1.now hB2
      replace hH := hH.now hB2
      replace hx2 := hx2.now hB2
      replace hC1 := hC1.now hB2
      replace hF1 := hF1.now hB2
      replace hB := hB.trans (hB2.mono hB.size)
      clear hB2
      clear hH hx2
      go_wp2_with fail
      refine (impl_MultiplyMatricesV _ _ n (delF 0 hp) (closK n hp m) _ hF1.lst hC1.lst hn1 hn2 bF bG p1 p3 p4).mono ?_
      rintro e x3 ⟨pr, rfl, hP1, hB2⟩
      replace hO := hO.now hB2
      replace hx1 := hx1.now hB2
      replace hS1 := hS1.now hB2
      replace hC1 := hC1.now hB2
      replace hF1 := hF1.now hB2
      replace hW1 := hW1.now hB2
      replace hB := hB.trans (hB2.mono hB.size)
      clear hB2
      clear hF1
      go_wp2_with fail
      refine (impl_AddMatricesV _ _ n (delF m hp) (mulF n (delF 0 hp) (closK n hp m)) _ hW1.lst hP1.lst hn1 hn2 p2 p4).mono ?_
      rintro e x4 ⟨rs, rfl, hR1, hB2⟩
      replace hO := hO.now hB2
      replace hx1 := hx1.now hB2
      replace hS1 := hS1.now hB2
      replace hC1 := hC1.now hB2
      replace hW1 := hW1.now hB2
      replace hP1 := hP1.now hB2
      replace hB := hB.trans (hB2.mono hB.size)
      clear hB2
      clear hW1 hP1
      go_wp2_with fail
      refine (laws_likeTables9 _ _ _ _ _ hR1.lst hC1.lst).mono ?_
      rintro e x5 ⟨rfl, hB2⟩
      rw [decide_eq_true heqH.out]
      replace hO := hO.now hB2
      replace hx1 := hx1.now hB2
      replace hS1 := hS1.now hB2
      replace hC1 := hC1.now hB2
      replace hR1 := hR1.now hB2
      replace hB := hB.trans (hB2.mono hB.size)
      clear hB2
      clear hR1 hC1
      clear p1 p2 p3 p4 bF bG hd0H hdmH heqH hn1 hn2
      by_cases hsc : sc = 0
      · subst hsc
        obtain ⟨n, V, rfl, hGG, rfl, hN1, hN2⟩ := st_facts hSFH.out
        clear hSFH
        obtain ⟨A, B, C, hCT⟩ : ∃ a b c, ctF n gp = (a, b, c) := ⟨_, _, _, rfl⟩
        have hMG : Hid (∀ a b f, MeanS (V * n) (stK n gp) (V * n) a b f → (f = false ∧ A = 0 ∧ B = 0 ∧ C = 4) ∨ (f = true ∧ A = a ∧ B = b ∧ C = 0 ∧ ratioOk a b = true)) := Lib.hid (mean_facts hGG hCT)
        have hFin : Hid (finM (V * n) 11000 (stK n gp)) := Lib.hid hGG.fin
        have hCTH := Lib.hid hCT
        clear hGG hCT
        go_wp2_with fail
        refine (impl_CycleMean _ (V * n) (stK n gp) A B C _ hS1.lst hN1 hN2 hFin hMG).mono ?_
        rintro e y1 ⟨rfl, hB2⟩
        replace hO := hO.now hB2
        replace hx1 := hx1.now hB2
        replace hS1 := hS1.now hB2
        replace hB := hB.trans (hB2.mono hB.size)
        clear hB2
        clear hS1
        clear hFin hMG hN1 hN2
        have hA : Below y1.heap.size y1 (y1.alloc (.cells #[.int .i64 A, .int .i64 B] 37)) := (Below.refl _ _).alloc (Nat.le_refl _) _
        have hr1 : Blk (y1.alloc (.cells #[.int .i64 A, .int .i64 B] 37)) y1.heap.size 37 #[.int .i64 A, .int .i64 B] := Blk.newAt y1 _ rfl
        obtain ⟨khx10, khx11⟩ := hx1.c2
        have lhx1 := hx1.lt
        go_wp2_with fail
        clear khx10 khx11 lhx1
        replace hO := hO.now hA
        replace hx1 := hx1.now hA
        replace hB := hB.trans (hA.mono hB.size)
        clear hA
        generalize (y1.alloc (.cells #[.int .i64 A, .int .i64 B] 37)) = yb at *
        generalize y1.heap.size = b4 at *
        refine (impl_CycleTime _ n gp _ hO.lst).mono ?_
        rintro e y2 ⟨rfl, hB2⟩
        rw [hCTH.out]
        dsimp only
        replace hO := hO.now hB2
        replace hx1 := hx1.now hB2
        replace hr1 := hr1.now hB2
        replace hB := hB.trans (hB2.mono hB.size)
        clear hB2
        clear hO hx1
        have q1 : (C == C) = true := by simp
        have q2 : (A == A) = true := by simp
        have q3 : (B == B) = true := by simp
        have hA : Below y2.heap.size y2 (y2.alloc (.cells #[.int .i64 A, .int .i64 B] 37)) := (Below.refl _ _).alloc (Nat.le_refl _) _
        have hr2 : Blk (y2.alloc (.cells #[.int .i64 A, .int .i64 B] 37)) y2.heap.size 37 #[.int .i64 A, .int .i64 B] := Blk.newAt y2 _ rfl
        obtain ⟨ky0, ky1⟩ := hr1.c2
        have ly := hr1.lt
        replace hr1 := hr1.now hA
        replace hB := hB.trans (hA.mono hB.size)
        clear hA
        obtain ⟨kr0, kr1⟩ := hr1.c2
        have lr1 := hr1.lt
        obtain ⟨ks0, ks1⟩ := hr2.c2
        have lr2 := hr2.lt
        go_wp2
        go_ret
        exact ⟨rfl, hB⟩
      · have n1 : (sc != 0) = true := by simpa using hsc
        clear hsc hSFH
        go_wp2
        go_ret
        exact ⟨rfl, hB⟩
    · have n0 : (cd == 0) = false := by simpa using hcc
      clear hcc hCFH
      clear hH hx2 hC1
      by_cases hsc : sc = 0
      · subst hsc
        obtain ⟨n, V, rfl, hGG, rfl, hN1, hN2⟩ := st_facts hSFH.out
        clear hSFH
        obtain ⟨A, B, C, hCT⟩ : ∃ a b c, ctF n gp = (a, b, c) := ⟨_, _, _, rfl⟩
        have hMG : Hid (∀ a b f, MeanS (V * n) (stK n gp) (V * n) a b f → (f = false ∧ A = 0 ∧ B = 0 ∧ C = 4) ∨ (f = true ∧ A = a ∧ B = b ∧ C = 0 ∧ ratioOk a b = true)) := Lib.hid (mean_facts hGG hCT)
        have hFin : Hid (finM (V * n) 11000 (stK n gp)) := Lib.hid hGG.fin
        have hCTH := Lib.hid hCT
        clear hGG hCT
        go_wp2_with fail
        refine (impl_CycleMean _ (V * n) (stK n gp) A B C _ hS1.lst hN1 hN2 hFin hMG).mono ?_
        rintro e y1 ⟨rfl, hB2⟩
        replace hO := hO.now hB2
        replace hx1 := hx1.now hB2
        replace hS1 := hS1.now hB2
        replace hB := hB.trans (hB2.mono hB.size)
        clear hB2
        clear hS1
        clear hFin hMG hN1 hN2
        have hA : Below y1.heap.size y1 (y1.alloc (.cells #[.int .i64 A, .int .i64 B] 37)) := (Below.refl _ _).alloc (Nat.le_refl _) _
        have hr1 : Blk (y1.alloc (.cells #[.int .i64 A, .int .i64 B] 37)) y1.heap.size 37 #[.int .i64 A, .int .i64 B] := Blk.newAt y1 _ rfl
        obtain ⟨khx10, khx11⟩ := hx1.c2
        have lhx1 := hx1.lt
        go_wp2_with fail
        clear khx10 khx11 lhx1
        replace hO := hO.now hA
        replace hx1 := hx1.now hA
        replace hB := hB.trans (hA.mono hB.size)
        clear hA
        generalize (y1.alloc (.cells #[.int .i64 A, .int .i64 B] 37)) = yb at *
        generalize y1.heap.size = b4 at *
        refine (impl_CycleTime _ n gp _ hO.lst).mono ?_
        rintro e y2 ⟨rfl, hB2⟩
        rw [hCTH.out]
        dsimp only
        replace hO := hO.now hB2
        replace hx1 := hx1.now hB2
        replace hr1 := hr1.now hB2
        replace hB := hB.trans (hB2.mono hB.size)
        clear hB2
        clear hO hx1
        have q1 : (C == C) = true := by simp
        have q2 : (A == A) = true := by simp
        have q3 : (B == B) = true := by simp
        have hA : Below y2.heap.size y2 (y2.alloc (.cells #[.int .i64 A, .int .i64 B] 37)) := (Below.refl _ _).alloc (Nat.le_refl _) _
        have hr2 : Blk (y2.alloc (.cells #[.int .i64 A, .int .i64 B] 37)) y2.heap.size 37 #[.int .i64 A, .int .i64 B] := Blk.newAt y2 _ rfl
        obtain ⟨ky0, ky1⟩ := hr1.c2
        have ly := hr1.lt
        replace hr1 := hr1.now hA
        replace hB := hB.trans (hA.mono hB.size)
        clear hA
        obtain ⟨kr0, kr1⟩ := hr1.c2
        have lr1 := hr1.lt
        obtain ⟨ks0, ks1⟩ := hr2.c2
        have lr2 := hr2.lt
        go_wp2
        go_ret
        exact ⟨rfl, hB⟩
      · have n1 : (sc != 0) = true := by simpa using hsc
        clear hsc hSFH
        go_wp2
        go_ret
        exact ⟨rfl, hB⟩
theorem FnStates_own : ownKnob Try.prog.godebug = none := by kernel_rfl
theorem FnStates_laidOut : laidOutB Try.prog = true := by kernel_rfl
set_option maxRecDepth 100000 in
theorem FnStates_lifted (os : Os) (started : os.Started) (H : Type) (enc : TypeId × Value → H) :
    ReturnsInHanded {} Try.checked os 3 .any (Rows.fnStatesSpec.pre6 enc Try.prog Try.f3 Rows.fnStatesRow.domain false) (Rows.fnStatesSpec.post enc Try.prog Try.f3 false true false false) := by
  refine returnsInHanded_of_change (C := Try.checked) FnStates_own started (by kernel_rfl) Try.func3
    (ChangeSpec.witness6 (enc := enc) (C := Try.checked) false ⟨#[], #[.slice none 0 0], []⟩ 8 (by kernel_rfl) (by kernel_rfl) (by kernel_rfl) (by kernel_rfl)) ?_
  intro W base args ds gs before hval0 hW hcnd _
  have hval : ∀ (j : Nat) t v, Try.f3.params[j]? = some t → args[j]? = some v → Value.okWide Try.prog W .any base t v := hval0
  have hW' := hW
  obtain ⟨p, q, hA0, hV, rfl, hfz, hnd⟩ := hW
  have hA : DataW.TrodAll enc Try.prog W 0 (fun _ => true) true Try.f3.params.toList args.toList ds p := hA0
  rw [Try.params3] at hA hval
  obtain ⟨v0, vs0, d0, ds0, p0, q0, hargs, rfl, rfl, h0, r0⟩ := trodAll_cons hA
  obtain ⟨rfl, rfl, rfl⟩ := trodAll_nil r0
  obtain rfl : args = #[v0] := by cases args; simp_all
  obtain ⟨rfl, rfl⟩ := trodVars_none hV
  have k0 := h0
  have lt0 : ∀ x ∈ p0, x.block < W.heap.size := by obtain ⟨m, hm⟩ := k0; exact DataW.trod_lt m _ _ _ hm
  obtain ⟨A0, n0, c0, rfl⟩ := okWide_slice Try.underlying22 (hval 0 22 v0 rfl rfl)
  obtain ⟨fuel0, hf0⟩ := h0
  obtain ⟨l0, a0, o0⟩ := open_bytes Try.underlying22 Try.underlying5 (by kernel_rfl) (show DataW.trod enc Try.prog W 0 (fun _ => true) true fuel0 22 [_] = _ by simpa [Value.cells] using hf0)
  clear hA0 hval0
  refine (law_FnStates _ _ W a0 o0).mono fun e W' ⟨he, bel⟩ => ?_
  subst he
  exact ⟨_, rfl, _, _, _, [], _, [], hW', trodAll_mk1 (shut_bool Try.underlying4 _), (trodAll_cons_mk (Below.trod FnStates_laidOut (by kernel_rfl) (of_decide_eq_true (by kernel_rfl)) k0 bel lt0) trodAll_mk0), rfl, bel.frame _, fun h => by cases h⟩
theorem FnStates_over : Rows.fnStatesRow.holds Try.pinned (OpenSpec.ofChange Rows.fnStatesSpec) :=
  OpenClaim.holds_of_wide 3 Try.f3 rfl rfl rfl rfl rfl rfl rfl ⟨rfl, rfl, rfl, rfl, rfl⟩ rfl rfl rfl rfl rfl (by kernel_rfl) Try.func3 (by kernel_rfl)
    (of_decide_eq_true (by kernel_rfl)) (by unfold Func.isWrapper; first | (rw [if_pos (by decide +kernel)]; kernel_rfl) | (rw [if_neg (by decide +kernel)]; exact ⟨rfl, rfl⟩))
    (fun os started H enc _ => FnStates_lifted os started H enc)
/-- The given statement. -/
theorem FnStates_proved : Rows.FnStatesSaid := FnStates_over
end Go.Proofs.Ytcoomogabicfnaa
