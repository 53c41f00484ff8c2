/-
  FnLeastRooms returns true for every input: the least rooms suffice, and with one less in one of them they do not.
  Conditions: none beyond the statement's own.
-/
import Derived.Test.YtbdklhahbeiffaaLstR
import Derived.Test.YtbdklhahbeiffaaDrQ
import Derived.Test.YtbdklhahbeiffaaBytes
namespace Go.Proofs.Ytbdklhahbeiffaa
open Go.RowKit Go.ChangeShapes Go.WideShapes Go.ChangeAt Go.Deep
set_option linter.unusedVariables false
set_option linter.unusedSimpArgs false
theorem limCode_of {ge : Int} {gp : List Place} {l r : List Int} (h1 : okGraph ge gp = true) (h2 : bufOk gp.length l = true) (h3 : ¬ 30 < gp.length + l.length) : limCode ge gp l r = if roomsOk gp l r = true then 0 else 2 := by
  rw [limCode_eq]
  have hb : bufCode ge gp l = 0 := by unfold bufCode; rw [h1, h2]; rfl
  rw [hb]
  cases roomsOk gp l r
  · rfl
  · simp [h3]
/-- What the law asks. -/
theorem least_law {ge : Int} {gp : List Place} {l L : List Int} {a b : Int} (h : leastRF ge gp l a b = (L, 0)) :
    sufF ge gp l L a b = (true, 0) ∧ L.length ≤ 3 ∧ (∀ x ∈ L, 0 ≤ x ∧ x ≤ 100) ∧ ∀ k (hk : k < L.length), ¬ ((sufF ge gp l (L.set k (L[k] - 1)) a b).2 = 0 ∧ (sufF ge gp l (L.set k (L[k] - 1)) a b).1 = true) := by
  unfold leastRF at h
  split at h
  · simp at h
  · split at h
    · simp at h
    · split at h
      · simp at h
      · split at h
        · simp at h
        · rename_i h1 h2 h3 h4
          have hg : okGraph ge gp = true := by
            cases hh : okGraph ge gp
            · exact absurd (.inl hh) h1
            · rfl
          have hq : ratioOk a b = true := by
            cases hh : ratioOk a b
            · exact absurd (.inr hh) h1
            · rfl
          have hb : bufOk gp.length l = true := by simpa using h2
          have hl := (bufOk_at hb).1
          have hne : l ≠ [] := by rintro rfl; simp at hl
          have hL : leastF (sufO ge.toNat gp l a b) gp l = L := (Prod.mk.inj h).1
          have hbest := (leastF_best (suf := sufO ge.toNat gp l a b) (gp := gp) hne).2 h4
          have hless := fun k hk hr => least_less (suf := sufO ge.toNat gp l a b) (gp := gp) hne h4 k hk hr
          rw [hL] at hbest
          simp only [hL] at hless
          refine ⟨?_, by have := roomsOk_len hbest.1; omega, fun x hx => ?_, fun k hk => ?_⟩
          · rw [sufF_ok hg hq (by rw [limCode_of hg hb h3, if_pos hbest.1])]
            exact congrArg (fun t => (t, (0 : Int))) hbest.2.1
          · obtain ⟨k, hk, rfl⟩ := List.mem_iff_getElem.1 hx
            have := roomsOk_at hbest.1 k (by have := roomsOk_len hbest.1; omega) hk
            omega
          · cases hr : roomsOk gp l (L.set k (L[k] - 1))
            · rw [sufF_code hg hq (by rw [limCode_of hg hb h3, hr]; simp)]
              simp
            · rw [sufF_ok hg hq (by rw [limCode_of hg hb h3, if_pos hr])]
              have := hless k hk hr
              unfold sufO at this
              simp [this]
set_option maxHeartbeats 32000000 in
set_option maxRecDepth 100000 in
theorem law_FnLeastRooms (cv : Value) (bs : List Int) (w : World) (a0 : Lst byteCell 1 w w.heap.size cv bs) (o0 : Hid (∀ b ∈ bs, 0 ≤ b ∧ b ≤ 255)) :
    Calls Try.prog 5 #[cv] w fun e w' => e = .returned (.bool true) ∧ Below w.heap.size w w' := by
  obtain ⟨CA, cc, rfl⟩ := a0.shape
  by_cases hbig : (4096 : Int) < (bs.length : Int)
  · have hq : Hid (decide ((4096 : Int) < (bs.length : Int)) = true) := decide_eq_true hbig
    clear hbig
    go_enter Try.func5, Try.ntmps5
    go_wp2_with (go_at_call 21; refine (laws_big _ _ _ a0).mono ?_; rintro e w1 ⟨rfl, rfl⟩; rw [hq.out])
    go_ret
    exact ⟨rfl, Below.refl _ _⟩
  · have hq : Hid (decide ((4096 : Int) < (bs.length : Int)) = false) := decide_eq_false hbig
    clear hbig
    go_enter Try.func5, Try.ntmps5
    go_wp2_with fail
    refine (laws_big _ _ _ a0).mono ?_
    rintro e w1 ⟨rfl, rfl⟩
    rw [hq.out]
    go_wp2_with fail
    refine (spec_DrawLeastRooms _ bs w a0 o0).mono ?_
    rintro e w0 ⟨ge, gp, v, u, x, y, rfl, hg0, hg1, hglen, hO1, ⟨l, hll, hU1⟩, hB⟩
    obtain ⟨A1, c1, rfl⟩ := hO1.shape
    obtain ⟨U1, uc1, rfl⟩ := hU1.shape
    have hA : Below w0.heap.size w0 ((w0.alloc (.cells #[.int .i64 ge, .slice A1 gp.length c1] 32)).alloc (.cells #[.int .i64 x, .int .i64 y] 34)) := ((Below.refl _ _).alloc (Nat.le_refl _) _).alloc (by simp) _
    have hx1 : Blk ((w0.alloc (.cells #[.int .i64 ge, .slice A1 gp.length c1] 32)).alloc (.cells #[.int .i64 x, .int .i64 y] 34)) w0.heap.size 32 #[.int .i64 ge, .slice A1 gp.length c1] := (Blk.newAt w0 _ rfl).alloc _
    have hr1 : Blk ((w0.alloc (.cells #[.int .i64 ge, .slice A1 gp.length c1] 32)).alloc (.cells #[.int .i64 x, .int .i64 y] 34)) (w0.heap.size + 1) 34 #[.int .i64 x, .int .i64 y] := Blk.newAt _ _ (by simp)
    go_wp2_with fail
    replace hO1 := hO1.now hA
    replace hU1 := hU1.now hA
    replace hB := hB.trans (hA.mono hB.size)
    clear hA
    generalize ((w0.alloc (.cells #[.int .i64 ge, .slice A1 gp.length c1] 32)).alloc (.cells #[.int .i64 x, .int .i64 y] 34)) = wa at *
    generalize w0.heap.size + 1 = br1 at *
    generalize w0.heap.size = bg1 at *
    obtain ⟨F, cd, hF⟩ : ∃ F cd, leastRF ge gp l x y = (F, cd) := ⟨_, _, rfl⟩
    have hFH := Lib.hid hF
    refine (impl_LeastRooms _ ge gp _ l x y _ hO1.lst hU1.lst).mono ?_
    rintro e w1 ⟨z, rfl, hz, hB2⟩
    rw [hF] at hz ⊢
    obtain ⟨ZA, zc, rfl⟩ := hz.shape
    replace hO1 := hO1.now hB2
    replace hU1 := hU1.now hB2
    replace hx1 := hx1.now hB2
    replace hr1 := hr1.now hB2
    replace hB := hB.trans (hB2.mono hB.size)
    clear hB2
    obtain ⟨khx10, khx11⟩ := hx1.c2
    have lhx1 := hx1.lt
    obtain ⟨khr10, khr11⟩ := hr1.c2
    have lhr1 := hr1.lt
    go_wp2_with fail
    clear khx10 khx11 lhx1 khr10 khr11 lhr1
    refine (spec_LeastRooms _ ge gp _ l x y _ hO1.lst hU1.lst).mono ?_
    rintro e w2 ⟨z, rfl, hy, hB2⟩
    rw [hF] at hy ⊢
    clear hF
    obtain ⟨YA, yc, rfl⟩ := hy.shape
    replace hO1 := hO1.now hB2
    replace hU1 := hU1.now hB2
    replace hx1 := hx1.now hB2
    replace hr1 := hr1.now hB2
    replace hz := hz.now hB2
    replace hB := hB.trans (hB2.mono hB.size)
    clear hB2
    go_wp2_with fail
    refine (spec_DrawLeastRoom _ bs _ (a0.now hB) o0).mono ?_
    rintro e w3 ⟨he, hp, v2, n2, x2, y2, rfl, hh0, hh1, hhlen, hO2, hB2⟩
    obtain ⟨A2, c2, rfl⟩ := hO2.shape
    replace hO1 := hO1.now hB2
    replace hU1 := hU1.now hB2
    replace hx1 := hx1.now hB2
    replace hr1 := hr1.now hB2
    replace hz := hz.now hB2
    replace hy := hy.now hB2
    replace hB := hB.trans (hB2.mono hB.size)
    clear hB2
    have hA : Below w3.heap.size w3 ((w3.alloc (.cells #[.int .i64 he, .slice A2 hp.length c2] 32)).alloc (.cells #[.int .i64 x2, .int .i64 y2] 34)) := ((Below.refl _ _).alloc (Nat.le_refl _) _).alloc (by simp) _
    have hx2 : Blk ((w3.alloc (.cells #[.int .i64 he, .slice A2 hp.length c2] 32)).alloc (.cells #[.int .i64 x2, .int .i64 y2] 34)) w3.heap.size 32 #[.int .i64 he, .slice A2 hp.length c2] := (Blk.newAt w3 _ rfl).alloc _
    have hr2 : Blk ((w3.alloc (.cells #[.int .i64 he, .slice A2 hp.length c2] 32)).alloc (.cells #[.int .i64 x2, .int .i64 y2] 34)) (w3.heap.size + 1) 34 #[.int .i64 x2, .int .i64 y2] := Blk.newAt _ _ (by simp)
    go_wp2_with fail
    replace hO1 := hO1.now hA
    replace hU1 := hU1.now hA
    replace hx1 := hx1.now hA
    replace hr1 := hr1.now hA
    replace hz := hz.now hA
    replace hy := hy.now hA
    replace hO2 := hO2.now hA
    replace hB := hB.trans (hA.mono hB.size)
    clear hA
    generalize ((w3.alloc (.cells #[.int .i64 he, .slice A2 hp.length c2] 32)).alloc (.cells #[.int .i64 x2, .int .i64 y2] 34)) = wb at *
    generalize w3.heap.size + 1 = br2 at *
    generalize w3.heap.size = bg2 at *
    obtain ⟨m1, m2, hM⟩ : ∃ m1 m2, leastOF he hp n2 x2 y2 = (m1, m2) := ⟨_, _, rfl⟩
    refine (impl_LeastRoom _ he hp n2 x2 y2 _ hO2.lst).mono ?_
    rintro e w4 ⟨rfl, hB2⟩
    rw [hM]
    replace hO1 := hO1.now hB2
    replace hU1 := hU1.now hB2
    replace hx1 := hx1.now hB2
    replace hr1 := hr1.now hB2
    replace hz := hz.now hB2
    replace hy := hy.now hB2
    replace hO2 := hO2.now hB2
    replace hx2 := hx2.now hB2
    replace hr2 := hr2.now hB2
    replace hB := hB.trans (hB2.mono hB.size)
    clear hB2
    obtain ⟨khx20, khx21⟩ := hx2.c2
    have lhx2 := hx2.lt
    obtain ⟨khr20, khr21⟩ := hr2.c2
    have lhr2 := hr2.lt
    go_wp2_with fail
    clear khx20 khx21 lhx2 khr20 khr21 lhr2
    refine (spec_LeastRoom _ he hp n2 x2 y2 _ hO2.lst).mono ?_
    rintro e w5 ⟨rfl, hB2⟩
    rw [hM]
    clear hM
    replace hO1 := hO1.now hB2
    replace hU1 := hU1.now hB2
    replace hx1 := hx1.now hB2
    replace hr1 := hr1.now hB2
    replace hz := hz.now hB2
    replace hy := hy.now hB2
    replace hO2 := hO2.now hB2
    replace hx2 := hx2.now hB2
    replace hr2 := hr2.now hB2
    replace hB := hB.trans (hB2.mono hB.size)
    clear hB2
    clear hO2 hx2 hr2
    go_wp2_with fail
    refine (spec_DrawRoomsSuffice _ bs _ (a0.now hB) o0).mono ?_
    rintro e w6 ⟨ke, kp, v3, u1, u2, x3, y3, rfl, hk0, hk1, hklen, hO3, ⟨l3, hl3, hU3⟩, ⟨r3, hr3, hR3⟩, hB2⟩
    obtain ⟨A3, c3, rfl⟩ := hO3.shape
    obtain ⟨UA, uc, rfl⟩ := hU3.shape
    obtain ⟨RA, rc, rfl⟩ := hR3.shape
    replace hO1 := hO1.now hB2
    replace hU1 := hU1.now hB2
    replace hx1 := hx1.now hB2
    replace hr1 := hr1.now hB2
    replace hz := hz.now hB2
    replace hy := hy.now hB2
    replace hB := hB.trans (hB2.mono hB.size)
    clear hB2
    have hA : Below w6.heap.size w6 ((w6.alloc (.cells #[.int .i64 ke, .slice A3 kp.length c3] 32)).alloc (.cells #[.int .i64 x3, .int .i64 y3] 34)) := ((Below.refl _ _).alloc (Nat.le_refl _) _).alloc (by simp) _
    have hx3 : Blk ((w6.alloc (.cells #[.int .i64 ke, .slice A3 kp.length c3] 32)).alloc (.cells #[.int .i64 x3, .int .i64 y3] 34)) w6.heap.size 32 #[.int .i64 ke, .slice A3 kp.length c3] := (Blk.newAt w6 _ rfl).alloc _
    have hq3 : Blk ((w6.alloc (.cells #[.int .i64 ke, .slice A3 kp.length c3] 32)).alloc (.cells #[.int .i64 x3, .int .i64 y3] 34)) (w6.heap.size + 1) 34 #[.int .i64 x3, .int .i64 y3] := Blk.newAt _ _ (by simp)
    go_wp2_with fail
    replace hO1 := hO1.now hA
    replace hU1 := hU1.now hA
    replace hx1 := hx1.now hA
    replace hr1 := hr1.now hA
    replace hz := hz.now hA
    replace hy := hy.now hA
    replace hO3 := hO3.now hA
    replace hU3 := hU3.now hA
    replace hR3 := hR3.now hA
    replace hB := hB.trans (hA.mono hB.size)
    clear hA
    generalize ((w6.alloc (.cells #[.int .i64 ke, .slice A3 kp.length c3] 32)).alloc (.cells #[.int .i64 x3, .int .i64 y3] 34)) = wc at *
    generalize w6.heap.size + 1 = br3 at *
    generalize w6.heap.size = bg3 at *
    obtain ⟨s1, s2, hSf⟩ : ∃ s1 s2, sufF ke kp l3 r3 x3 y3 = (s1, s2) := ⟨_, _, rfl⟩
    refine (impl_RoomsSuffice _ ke kp _ l3 _ r3 x3 y3 _ hO3.lst hU3.lst hR3.lst).mono ?_
    rintro e w7 ⟨rfl, hB2⟩
    rw [hSf]
    replace hO1 := hO1.now hB2
    replace hU1 := hU1.now hB2
    replace hx1 := hx1.now hB2
    replace hr1 := hr1.now hB2
    replace hz := hz.now hB2
    replace hy := hy.now hB2
    replace hO3 := hO3.now hB2
    replace hU3 := hU3.now hB2
    replace hR3 := hR3.now hB2
    replace hx3 := hx3.now hB2
    replace hq3 := hq3.now hB2
    replace hB := hB.trans (hB2.mono hB.size)
    clear hB2
    obtain ⟨khx30, khx31⟩ := hx3.c2
    have lhx3 := hx3.lt
    obtain ⟨khq30, khq31⟩ := hq3.c2
    have lhq3 := hq3.lt
    go_wp2_with fail
    clear khx30 khx31 lhx3 khq30 khq31 lhq3
    refine (spec_RoomsSuffice _ ke kp _ l3 _ r3 x3 y3 _ hO3.lst hU3.lst hR3.lst).mono ?_
    rintro e w8 ⟨rfl, hB2⟩
    rw [hSf]
    clear hSf
    replace hO1 := hO1.now hB2
    replace hU1 := hU1.now hB2
    replace hx1 := hx1.now hB2
    replace hr1 := hr1.now hB2
    replace hz := hz.now hB2
    replace hy := hy.now hB2
    replace hO3 := hO3.now hB2
    replace hU3 := hU3.now hB2
    replace hR3 := hR3.now hB2
    replace hx3 := hx3.now hB2
    replace hq3 := hq3.now hB2
    replace hB := hB.trans (hB2.mono hB.size)
    clear hB2
    clear hO3 hU3 hR3 hx3 hq3
    have e1 : (cd != cd) = false := by simp
    have e2 : (m1 != m1) = false := by simp
    have e3 : (m2 != m2) = false := by simp
    have e4 : (s1 != s1) = false := by simp
    have e5 : (s2 != s2) = false := by simp
    go_wp2_with fail
    refine (laws_likeInts _ _ F F _ hz.lst hy.lst).mono ?_
    rintro e w9 ⟨rfl, hB2⟩
    rw [show decide (F = F) = true from decide_eq_true rfl]
    replace hO1 := hO1.now hB2
    replace hU1 := hU1.now hB2
    replace hx1 := hx1.now hB2
    replace hr1 := hr1.now hB2
    replace hz := hz.now hB2
    replace hy := hy.now hB2
    replace hB := hB.trans (hB2.mono hB.size)
    clear hB2
    clear hy
    by_cases hcd : cd = 0
    · subst hcd
      obtain ⟨lw1, lw2, lw3, lw4⟩ := least_law hFH.out
      have lw4H := Lib.hid lw4
      have hlwH := Lib.hid lw1
      obtain ⟨khx10, khx11⟩ := hx1.c2
      have lhx1 := hx1.lt
      obtain ⟨khr10, khr11⟩ := hr1.c2
      have lhr1 := hr1.lt
      go_wp2_with fail
      clear khx10 khx11 lhx1 khr10 khr11 lhr1
      refine (impl_RoomsSuffice _ ge gp _ l _ F x y _ hO1.lst hU1.lst hz.lst).mono ?_
      rintro e wd ⟨rfl, hB2⟩
      rw [hlwH.out]
      clear lw1 lw4
      replace hO1 := hO1.now hB2
      replace hU1 := hU1.now hB2
      replace hx1 := hx1.now hB2
      replace hr1 := hr1.now hB2
      replace hz := hz.now hB2
      replace hB := hB.trans (hB2.mono hB.size)
      clear hB2
      go_wp2
      go_loopw [27, 28, 29, 30] (fun kv _ _ _ wr => ∃ k : Nat, k ≤ F.length ∧ kv = .int .i64 k ∧ Below wd.heap.size wd wr) (fun kv _ _ _ _ => F.length - (intOf kv).toNat)
      case atStart => exact ⟨0, Nat.zero_le _, rfl, Below.refl _ _⟩
      case round =>
        obtain ⟨k, hk, rfl, hBr⟩ := hrel
        by_cases hlt : k < F.length
        · have hO1' := hO1.now hBr
          have hU1' := hU1.now hBr
          have hz' := hz.now hBr
          have hx1' := hx1.now hBr
          have hr1' := hr1.now hBr
          have i1 : (0 : Int) ≤ (k : Int) := by omega
          have i2 : (k : Int) < (F.length : Int) := by omega
          have hlen : ([] : List Int).length + F.length ≤ 1099511627776 := by simp; omega
          go_wp2_with (at_builtin; refine wpList_append_lst rfl _ _ 38 rfl intCell 1 intCell_one (by omega) wr.heap.size 2 _ 8 Try.underlying38 info_i64 rfl _ [] rfl (own_new0 _ _ _ _ _ (Nat.le_refl _)) _ _ _ _ F rfl (hz'.lst.alloc _) hlen (by omega) (by simp) ?_; intro v' w1 hO1 hG1 hD1)
          simp only [List.nil_append] at hO1
          have hAB := below_app ((Below.refl wr.heap.size wr).alloc (Nat.le_refl _) _) (by simp) hG1 (own_new0 intCell 1 wr 2 wr.heap.size (Nat.le_refl _)) (Nat.le_refl _)
          obtain ⟨sb, sc, rfl, hsb, hsl⟩ := own_form hO1 (by omega)
          obtain ⟨-, -, sf, sk⟩ := own_ints_at hO1 k hlt
          have sfk := sf k
          obtain ⟨f0, hf0⟩ : ∃ f0, F[k] = f0 := ⟨_, rfl⟩
          have wk : IntKind.i64.wrap (f0 - 1) = f0 - 1 := by have := lw3 F[k] (List.getElem_mem _); rw [hf0] at this; exact IntWalk.i64_in _ (by omega)
          have hO2 := hO1.set1 k hlt (f0 - 1)
          have hAS := hAB.setCell (p := ⟨sb, k, none⟩) hsb (.int .i64 (f0 - 1))
          have lH := Lib.hid (lw4H.out k hlt)
          rw [hf0] at sk lH
          clear hf0
          generalize F.set k (f0 - 1) = G at *
          have hGlen : G.length = F.length := by have := own_len hO2; exact this.symm
          clear hG1 hD1 sf hlen
          have hx8 := hx1'.now hAB
          have hr8 := hr1'.now hAB
          have hx9 := hx1'.now hAS
          have hr9 := hr1'.now hAS
          obtain ⟨p0, p1⟩ := hx8.c2
          obtain ⟨p2, p3⟩ := hr8.c2
          obtain ⟨q0, q1⟩ := hx9.c2
          obtain ⟨q2, q3⟩ := hr9.c2
          have l1 := hx8.lt
          have l2 := hr8.lt
          have l3' := hx9.lt
          have l4' := hr9.lt
          obtain ⟨sa, sb', hs9⟩ : ∃ a b, sufF ge gp l G x y = (a, b) := ⟨_, _, rfl⟩
          rw [hs9] at lH
          have hs9H := Lib.hid hs9
          clear hs9
          have hcs : (sb' == 0) = false ∨ (sb' = 0 ∧ sa = false) := by
            by_cases h0 : sb' = 0
            · refine .inr ⟨h0, ?_⟩
              cases sa
              · rfl
              · exact absurd ⟨h0, rfl⟩ lH.out
            · exact .inl (by simpa using h0)
          go_wp2_with fail
          go_simp
          rcases hcs with h1 | ⟨rfl, rfl⟩
          · go_wp2_with (go_at_call 25; refine (impl_RoomsSuffice _ ge gp _ l _ G x y _ (hO1'.now hAS).lst (hU1'.now hAS).lst hO2.lst).mono ?_; rintro e we ⟨rfl, hB2⟩; rw [hs9H.out])
            go_roundw
            case rel => exact ⟨k + 1, hlt, by go_num, hBr.trans ((hAS.trans (hB2.mono hAS.size)).mono hBr.size)⟩
            case measure => simp [intOf]; omega
          · go_wp2_with (go_at_call 25; refine (impl_RoomsSuffice _ ge gp _ l _ G x y _ (hO1'.now hAS).lst (hU1'.now hAS).lst hO2.lst).mono ?_; rintro e we ⟨rfl, hB2⟩; rw [hs9H.out])
            go_roundw
            case rel => exact ⟨k + 1, hlt, by go_num, hBr.trans ((hAS.trans (hB2.mono hAS.size)).mono hBr.size)⟩
            case measure => simp [intOf]; omega
        · obtain rfl : k = F.length := by omega
          have hB' := hB.trans (hBr.mono hB.size)
          go_wp2
          go_ret
          exact ⟨rfl, hB'⟩
    · have q1 : (cd != 0) = true := by simpa using hcd
      clear hcd
      go_wp2
      go_ret
      exact ⟨rfl, hB⟩
theorem FnLeastRooms_own : ownKnob Try.prog.godebug = none := by kernel_rfl
theorem FnLeastRooms_laidOut : laidOutB Try.prog = true := by kernel_rfl
set_option maxRecDepth 100000 in
theorem FnLeastRooms_lifted (os : Os) (started : os.Started) (H : Type) (enc : TypeId × Value → H) :
    ReturnsInHanded {} Try.checked os 5 .any (Rows.fnLeastRoomsSpec.pre6 enc Try.prog Try.f5 Rows.fnLeastRoomsRow.domain false) (Rows.fnLeastRoomsSpec.post enc Try.prog Try.f5 false true false false) := by
  refine returnsInHanded_of_change (C := Try.checked) FnLeastRooms_own started (by kernel_rfl) Try.func5
    (ChangeSpec.witness6 (enc := enc) (C := Try.checked) false ⟨#[], #[.slice none 0 0], []⟩ 8 (by kernel_rfl) (by kernel_rfl) (by kernel_rfl) (by kernel_rfl)) ?_
  intro W base args ds gs before hval0 hW hcnd _
  have hval : ∀ (j : Nat) t v, Try.f5.params[j]? = some t → args[j]? = some v → Value.okWide Try.prog W .any base t v := hval0
  have hW' := hW
  obtain ⟨p, q, hA0, hV, rfl, hfz, hnd⟩ := hW
  have hA : DataW.TrodAll enc Try.prog W 0 (fun _ => true) true Try.f5.params.toList args.toList ds p := hA0
  rw [Try.params5] at hA hval
  obtain ⟨v0, vs0, d0, ds0, p0, q0, hargs, rfl, rfl, h0, r0⟩ := trodAll_cons hA
  obtain ⟨rfl, rfl, rfl⟩ := trodAll_nil r0
  obtain rfl : args = #[v0] := by cases args; simp_all
  obtain ⟨rfl, rfl⟩ := trodVars_none hV
  have k0 := h0
  have lt0 : ∀ x ∈ p0, x.block < W.heap.size := by obtain ⟨m, hm⟩ := k0; exact DataW.trod_lt m _ _ _ hm
  obtain ⟨A0, n0, c0, rfl⟩ := okWide_slice Try.underlying46 (hval 0 46 v0 rfl rfl)
  obtain ⟨fuel0, hf0⟩ := h0
  obtain ⟨l0, a0, o0⟩ := open_bytes Try.underlying46 Try.underlying5 (by kernel_rfl) (show DataW.trod enc Try.prog W 0 (fun _ => true) true fuel0 46 [_] = _ by simpa [Value.cells] using hf0)
  clear hA0 hval0
  refine (law_FnLeastRooms _ _ W a0 o0).mono fun e W' ⟨he, bel⟩ => ?_
  subst he
  exact ⟨_, rfl, _, _, _, [], _, [], hW', trodAll_mk1 (shut_bool Try.underlying4 _), (trodAll_cons_mk (Below.trod FnLeastRooms_laidOut (by kernel_rfl) (of_decide_eq_true (by kernel_rfl)) k0 bel lt0) trodAll_mk0), rfl, bel.frame _, fun h => by cases h⟩
theorem FnLeastRooms_over : Rows.fnLeastRoomsRow.holds Try.pinned (OpenSpec.ofChange Rows.fnLeastRoomsSpec) :=
  OpenClaim.holds_of_wide 5 Try.f5 rfl rfl rfl rfl rfl rfl rfl ⟨rfl, rfl, rfl, rfl, rfl⟩ rfl rfl rfl rfl rfl (by kernel_rfl) Try.func5 (by kernel_rfl)
    (of_decide_eq_true (by kernel_rfl)) (by unfold Func.isWrapper; first | (rw [if_pos (by decide +kernel)]; kernel_rfl) | (rw [if_neg (by decide +kernel)]; exact ⟨rfl, rfl⟩))
    (fun os started H enc _ => FnLeastRooms_lifted os started H enc)
/-- The given statement. -/
theorem FnLeastRooms_proved : Rows.FnLeastRoomsSaid := FnLeastRooms_over
end Go.Proofs.Ytbdklhahbeiffaa
