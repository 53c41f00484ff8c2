/-
  The walks of HoldingOf, both.
-/
import Derived.Test.YtkbhbmoogkjafaaTimT
namespace Go.Proofs.Ytkbhbmoogkjafaa
open Go.RowKit
set_option linter.unusedVariables false
set_option linter.unusedSimpArgs false

/-- The longest holding of a place in its first j rounds. -/
def holdK (T : List (List Int)) (p : Place) : Nat → Int
  | 0 => -1
  | j + 1 => max (holdK T p j) (getT T (p.tokens.toNat + j) p.dst.toNat - getT T j p.src.toNat - p.delay)
def holdL (T : List (List Int)) (N : Nat) (gp : List Place) : List Int := gp.map fun p => holdK T p (N - p.tokens.toNat)
theorem holdL_len (T : List (List Int)) (N : Nat) (gp : List Place) : (holdL T N gp).length = gp.length := by simp [holdL]
theorem holdL_get (T : List (List Int)) (N : Nat) (gp : List Place) (i : Nat) (h : i < gp.length) (h2 : i < (holdL T N gp).length) : (holdL T N gp)[i] = holdK T gp[i] (N - gp[i].tokens.toNat) := by simp [holdL]
theorem holdK_bd {n m c : Nat} {T : List (List Int)} (h : TabOk n m c T) (p : Place) (hp : 0 ≤ p.delay) : ∀ j, -1 ≤ holdK T p j ∧ holdK T p j ≤ (c : Int) := by
  intro j
  induction j with
  | zero =>
    show -1 ≤ (-1 : Int) ∧ (-1 : Int) ≤ _
    omega
  | succ j ih =>
    have h1 := h.get (p.tokens.toNat + j) p.dst.toNat
    have h2 := h.get j p.src.toNat
    simp only [holdK]
    omega
/-- What HoldingOf gives. -/
def holdF (ge : Int) (gp : List Place) (N : Int) : List Int × Int :=
  if timC ge gp (inB N 0 50) = 0 then (holdL (timT gp ((orderF ge.toNat gp).getD []) (zeros ge.toNat) N.toNat) N.toNat gp, 0) else ([], timC ge gp (inB N 0 50))
theorem holdF_len (ge : Int) (gp : List Place) (N : Int) : (holdF ge gp N).1.length ≤ 1048576 := by
  unfold holdF
  split
  · rename_i h
    have := okGraph_len (timC_zero h).1
    show (holdL _ _ _).length ≤ 1048576
    rw [holdL_len]
    omega
  · simp
theorem max_if5 (a b : Int) : max a b = if a < b then b else a := by by_cases h : a < b <;> simp [h] <;> omega
set_option maxHeartbeats 4000000 in
set_option maxRecDepth 100000 in
theorem spec_HoldingOf (v : Value) (ge : Int) (gp : List Place) (N : Int) (w : World) (h0 : Lst Place.cells 4 w w.heap.size v gp) :
    Calls Try.prog 22 #[.agg #[.int .i64 ge, v], .int .i64 N] w (RetOwnI intCell 1 2 w (holdF ge gp N).1 (holdF ge gp N).2) := by
  obtain ⟨A, c, rfl⟩ := h0.shape
  go_enter Try.func22, Try.ntmps22
  go_wp2_with fail
  have hW : Below w.heap.size w (w.alloc (.cells #[.int .i64 ge, .slice A gp.length c] 26)) := (Below.refl _ _).alloc (Nat.le_refl _) _; have hb0 : Blk (w.alloc (.cells #[.int .i64 ge, .slice A gp.length c] 26)) w.heap.size 26 #[.int .i64 ge, .slice A gp.length c] := Blk.new _ _ _; replace h0 := h0.now hW; generalize (w.alloc (.cells #[.int .i64 ge, .slice A gp.length c] 26)) = W at *
  refine (spec_FiringTimes _ _ _ _ _ h0).mono ?_
  rintro e w1 ⟨x, rfl, hM, hB⟩
  replace hW := hW.trans (hB.mono hW.size); replace h0 := h0.now hB; replace hb0 := hb0.now hB
  obtain ⟨k0, k1⟩ := hb0.c2
  have l0 := hb0.lt
  clear hB
  cases hc : timC ge gp (inB N 0 50) == 0
  · have hc' : (timC ge gp (inB N 0 50) != 0) = true := by simp only [bne, hc]; rfl
    have hE : Hid (holdF ge gp N = ([], timC ge gp (inB N 0 50))) := by show _ = _; unfold holdF; rw [if_neg (by simpa using hc)]
    have hF : (timesF ge gp N) = ([], timC ge gp (inB N 0 50)) := by unfold timesF; rw [if_neg (by simpa using hc)]
    rw [hF]
    clear hc hM hF
    generalize timC ge gp (inB N 0 50) = code at *
    go_wp2
    go_ret2
    exact RetOwnI.of hE.out ⟨_, rfl, Own.nil, hW⟩
  · have hc0 : timC ge gp (inB N 0 50) = 0 := by simpa using hc
    obtain ⟨hg, hb, o, ho⟩ := timC_zero hc0
    obtain ⟨hge1, hge2⟩ := okGraph_ev hg
    have hgl := okGraph_len hg
    obtain ⟨n, rfl⟩ := Int.eq_ofNat_of_zero_le (show 0 ≤ ge by omega)
    have hN := (inB_iff _ _ _).1 hb
    obtain ⟨M, rfl⟩ := Int.eq_ofNat_of_zero_le hN.1
    rw [Int.toNat_natCast] at ho
    have hF : timesF n gp M = (timT gp o (zeros n) M, 0) := by unfold timesF; rw [if_pos hc0, Int.toNat_natCast, Int.toNat_natCast, ho]; rfl
    have hE : Hid (holdF n gp M = (holdL (timT gp o (zeros n) M) M gp, 0)) := by show _ = _; unfold holdF; rw [if_pos hc0, Int.toNat_natCast, Int.toNat_natCast, ho]; rfl
    have hTab := Lib.hid (TabOk.times hg hgl (o := o) (s := zeros n) (by have := (orderK_ok n o ho).len; omega) (zeros_len n) (zeros_ok n) M)
    have hg' := Lib.hid hg
    rw [hF] at hM ⊢
    clear hc hc0 hb hg ho hF
    generalize timT gp o (zeros n) M = T at *
    have hTl := hTab.out.len
    have hM2 : OwnM w1 _ x T := hM
    have hL := hM2.lst
    obtain ⟨XA, xc, rfl⟩ := hL.shape
    rw [hTl] at hL ⊢
    clear hM hM2 hTl
    have hHl := Lib.hid (holdL_len T M gp)
    have hHg := Lib.hid (holdL_get T M gp)
    go_wp2
    clear k0 k1 l0
    have hs1 := hW.size
    go_loopw [8, 9, 10, 11, 12] (fun ov i _ _ _ wr => ∃ i' : Nat, i' ≤ gp.length ∧ i = .int .i64 i' ∧ Own intCell 1 2 wr w1.heap.size ov ((holdL T M gp).take i') ∧ Below w1.heap.size w1 wr) (fun _ i _ _ _ _ => gp.length - (intOf i).toNat)
    case atStart => exact ⟨0, Nat.zero_le _, rfl, own_new0 _ _ _ _ _ (Nat.le_refl _), (Below.refl _ _).alloc (Nat.le_refl _) _⟩
    case round =>
      obtain ⟨i', hi, rfl, hO, hB⟩ := hrel
      have hs := hB.size
      obtain ⟨wo, hwo⟩ : ∃ x, x = wr := ⟨_, rfl⟩
      subst hwo
      obtain ⟨k0, k1⟩ := (hb0.now hB).c2
      have l0 := (hb0.now hB).lt
      by_cases hlt : i' < gp.length
      · obtain ⟨b, off, hA0, hbb, d0, d1, d2, d3⟩ := places_at (h0.now hB) i' hlt
        cases hA0
        have hp := okGraph_place hg'.out (List.getElem_mem hlt)
        have hHi := Lib.hid (hHg.out i' hlt (by rw [hHl.out]; exact hlt))
        have hTk := Lib.hid (take_succ_get (holdL T M gp) i' (by rw [hHl.out]; exact hlt))
        obtain ⟨p, hpe⟩ : ∃ p, gp[i'] = p := ⟨_, rfl⟩
        rw [hpe] at d0 d1 d2 d3 hp hHi
        clear hpe
        obtain ⟨sv, dv, del, tk⟩ := p
        simp only at d0 d1 d2 d3 hp
        obtain ⟨⟨p1, p2⟩, ⟨p3, p4⟩, ⟨p5, p6⟩, p7, p8⟩ := hp
        obtain ⟨sr, rfl⟩ := Int.eq_ofNat_of_zero_le p1
        obtain ⟨dr, rfl⟩ := Int.eq_ofNat_of_zero_le p3
        obtain ⟨t, rfl⟩ := Int.eq_ofNat_of_zero_le p7
        have hbd := Lib.hid (holdK_bd hTab.out ⟨sr, dr, del, t⟩ p5)
        have hSt : Hid (∀ j, holdK T ⟨sr, dr, del, t⟩ (j + 1) = if holdK T ⟨sr, dr, del, t⟩ j < getT T (t + j) dr - getT T j sr - del then getT T (t + j) dr - getT T j sr - del else holdK T ⟨sr, dr, del, t⟩ j) := by
          intro j
          show max _ _ = _
          rw [max_if5]
          simp only [Int.toNat_natCast]
        go_wp2
        have hA1 : Below wo.heap.size wo (wo.alloc (.cells #[.int .i64 sr, .int .i64 dr, .int .i64 del, .int .i64 t] 45)) := (Below.refl _ _).alloc (Nat.le_refl _) _
        have hbx := Blk.newAt wo (t := 45) (cs := #[.int .i64 sr, .int .i64 dr, .int .i64 del, .int .i64 t]) _ rfl
        replace hO := hO.now hA1
        replace hB := hB.trans (hA1.mono hs)
        clear d0 d1 d2 d3 hbb k0 k1 l0 hA1
        generalize wo.alloc (.cells #[.int .i64 sr, .int .i64 dr, .int .i64 del, .int .i64 t] 45) = V at *
        generalize wo.heap.size = bx at *
        have hsV := hB.size
        go_loopw [11, 12] (fun mv kv wr => ∃ j : Nat, j ≤ M - t ∧ kv = .int .i64 ((t + 1 + j : Nat) : Int) ∧ mv = .int .i64 (holdK T ⟨sr, dr, del, t⟩ j) ∧ Below V.heap.size V wr) (fun _ kv _ => ((M : Int) + 1 - intOf kv).toNat)
        case atStart => exact ⟨0, Nat.zero_le _, by go_num, rfl, Below.refl _ _⟩
        case round =>
          obtain ⟨j, hj, rfl, rfl, hBj⟩ := hrel
          have hBt := hB.trans (hBj.mono hsV)
          have hst := hBt.size
          have hbxr := hbx.now hBj
          have hbr := hb0.now hBt
          obtain ⟨kk, hkk⟩ : ∃ kk, t + 1 + j = kk := ⟨_, rfl⟩
          rw [hkk]
          by_cases hjl : j < M - t
          · have q0 : decide ((kk : Int) ≤ (M : Int)) = true := by simp; omega
            have hLr := hL.now hBt
            have hTl := hTab.out.len
            obtain ⟨aa, haa⟩ : ∃ aa, t + j = aa := ⟨_, rfl⟩
            have haT : aa < T.length := by omega
            have hjT : j < T.length := by omega
            obtain ⟨g, off, cu, r1, hu, -, hc1, hr1⟩ := hLr.row aa haT
            rw [hTl] at hu
            cases hu
            obtain ⟨g2, off2, cu2, r2, hu2, -, hc2, hr2⟩ := hLr.row j hjT
            rw [hTl] at hu2
            cases hu2
            obtain ⟨R1, rc1, hv1⟩ := hr1.shape
            obtain ⟨R2, rc2, hv2⟩ := hr2.shape
            have hla := hTab.out.lenAt aa haT
            have hlj := hTab.out.lenAt j hjT
            rw [hla] at hv1
            rw [hlj] at hv2
            rw [hv1] at hc1 hr1
            rw [hv2] at hc2 hr2
            obtain ⟨b1, o1, hR1, -, e1⟩ := ints_at hr1 dr (by rw [hla]; omega)
            obtain ⟨b2, o2, hR2, -, e2⟩ := ints_at hr2 sr (by rw [hlj]; omega)
            subst hR1
            subst hR2
            rw [← getT_eq haT (by rw [hla]; omega)] at e1
            rw [← getT_eq hjT (by rw [hlj]; omega)] at e2
            have hS := Lib.hid (hSt.out j)
            rw [haa] at hS
            have g1 := hTab.out.get aa dr
            have g2' := hTab.out.get j sr
            have g3 := hbd.out j
            have hMN : M ≤ 50 := by omega
            generalize holdK T ⟨sr, dr, del, t⟩ j = hv at *
            generalize getT T aa dr = x1 at *
            generalize getT T j sr = x2 at *
            clear hr1 hr2 hv1 hv2 hla hlj hLr hTl
            obtain ⟨c0, c1', c2, c3⟩ := hbxr.c4
            have z0 : wr.drew.cell? ⟨bx, 0, none⟩ = some (.int .i64 sr) := c0
            have z1 : wr.drew.cell? ⟨bx, 1, none⟩ = some (.int .i64 dr) := c1'
            have z2 : wr.drew.cell? ⟨bx, 2, none⟩ = some (.int .i64 del) := c2
            have z3 : wr.drew.cell? ⟨bx, 3, none⟩ = some (.int .i64 t) := c3
            have z4 : wr.drew.cell? ⟨g, off + aa, none⟩ = some (.slice (some ⟨b1, o1, none⟩) n rc1) := hc1
            have z5 : wr.drew.cell? ⟨g, off + j, none⟩ = some (.slice (some ⟨b2, o2, none⟩) n rc2) := hc2
            have z6 : wr.drew.cell? ⟨b1, o1 + dr, none⟩ = some (.int .i64 x1) := e1
            have z7 : wr.drew.cell? ⟨b2, o2 + sr, none⟩ = some (.int .i64 x2) := e2
            have i1 : (0 : Int) ≤ (aa : Int) := by omega
            have i2 : (aa : Int) < (M : Int) := by omega
            have i3 : (0 : Int) ≤ (j : Int) := by omega
            have i4 : (j : Int) < (M : Int) := by omega
            have i5 : (0 : Int) ≤ (dr : Int) := by omega
            have i6 : (dr : Int) < (n : Int) := by omega
            have i7 : (0 : Int) ≤ (sr : Int) := by omega
            have i8 : (sr : Int) < (n : Int) := by omega
            have wa1 : IntKind.i64.wrap ((kk : Int) - 1) = (aa : Int) := (IntWalk.i64_in _ (by omega)).trans (by omega)
            have wa2 : IntKind.i64.wrap ((kk : Int) - (t : Int)) = (j : Int) + 1 := (IntWalk.i64_in _ (by omega)).trans (by omega)
            have wa3 : IntKind.i64.wrap ((j : Int) + 1 - 1) = (j : Int) := (IntWalk.i64_in _ (by omega)).trans (by omega)
            have wa6 : IntKind.i64.wrap ((aa : Int) - (t : Int)) = (j : Int) := (IntWalk.i64_in _ (by omega)).trans (by omega)
            have wa4 : IntKind.i64.wrap (x1 - x2) = x1 - x2 := IntWalk.i64_in _ (by omega)
            have wa5 : IntKind.i64.wrap (x1 - x2 - del) = x1 - x2 - del := IntWalk.i64_in _ (by omega)
            have wa7 : IntKind.i64.wrap (j : Int) = (j : Int) := IntWalk.i64_in _ (by omega)
            clear c0 c1' c2 c3 hc1 hc2 e1 e2
            go_wp2
            refine wp_region_held_drew (S := fun w' => w'.cell? ⟨bx, 0, none⟩ = some (.int .i64 (sr : Nat)) ∧ w'.cell? ⟨bx, 1, none⟩ = some (.int .i64 (dr : Nat)) ∧ w'.cell? ⟨bx, 2, none⟩ = some (.int .i64 del) ∧ w'.cell? ⟨bx, 3, none⟩ = some (.int .i64 (t : Nat)) ∧ w'.cell? ⟨g, off + aa, none⟩ = some (.slice (some ⟨b1, o1, none⟩) n rc1) ∧ w'.cell? ⟨g, off + j, none⟩ = some (.slice (some ⟨b2, o2, none⟩) n rc2) ∧ w'.cell? ⟨b1, o1 + dr, none⟩ = some (.int .i64 x1) ∧ w'.cell? ⟨b2, o2 + sr, none⟩ = some (.int .i64 x2)) (by kernel_rfl) ⟨z0, z1, z2, z3, z4, z5, z6, z7⟩ (fun hH => ?_)
            refine wpAnyH_take (i := 0) (oi := { dst := _, op := _, type := _, pos := _, after := _, guard := _ }) (v := ?_) rfl (by kernel_rfl) (by kernel_rfl) (by kernel_rfl) (fun _ _ _ h => h) (Or.inl ⟨by rfl, ?_⟩) hH ?_
            rotate_left
            · intro w9 hSw
              try dsimp only at hSw
              obtain ⟨s0, s1, s2, s3, s4, s5, s6, s7⟩ := hSw
              go_simp
              try with_reducible rfl
            try simp only [Act.put, List.setIfInBounds_toArray, List.set_cons_zero, List.set_cons_succ]
            refine wpAnyH_take (i := 1) (oi := { dst := _, op := _, type := _, pos := _, after := _, guard := _ }) (v := ?_) rfl (by kernel_rfl) (by kernel_rfl) (by kernel_rfl) (fun _ _ _ h => h) (Or.inl ⟨by rfl, ?_⟩) hH ?_
            rotate_left
            · intro w9 hSw
              try dsimp only at hSw
              obtain ⟨s0, s1, s2, s3, s4, s5, s6, s7⟩ := hSw
              go_simp
              try with_reducible rfl
            try simp only [Act.put, List.setIfInBounds_toArray, List.set_cons_zero, List.set_cons_succ]
            refine wpAnyH_take (i := 2) (oi := { dst := _, op := _, type := _, pos := _, after := _, guard := _ }) (v := ?_) rfl (by kernel_rfl) (by kernel_rfl) (by kernel_rfl) (fun _ _ _ h => h) (Or.inl ⟨by rfl, ?_⟩) hH ?_
            rotate_left
            · intro w9 hSw
              try dsimp only at hSw
              obtain ⟨s0, s1, s2, s3, s4, s5, s6, s7⟩ := hSw
              go_simp
              try with_reducible rfl
            try simp only [Act.put, List.setIfInBounds_toArray, List.set_cons_zero, List.set_cons_succ]
            refine wpAnyH_take (i := 3) (oi := { dst := _, op := _, type := _, pos := _, after := _, guard := _ }) (v := ?_) rfl (by kernel_rfl) (by kernel_rfl) (by kernel_rfl) (fun _ _ _ h => h) (Or.inl ⟨by rfl, ?_⟩) hH ?_
            rotate_left
            · intro w9 hSw
              try dsimp only at hSw
              obtain ⟨s0, s1, s2, s3, s4, s5, s6, s7⟩ := hSw
              go_simp
              try with_reducible rfl
            try simp only [Act.put, List.setIfInBounds_toArray, List.set_cons_zero, List.set_cons_succ]
            refine wpAnyH_take (i := 4) (oi := { dst := _, op := _, type := _, pos := _, after := _, guard := _ }) (v := ?_) rfl (by kernel_rfl) (by kernel_rfl) (by kernel_rfl) (fun _ _ _ h => h) (Or.inl ⟨by rfl, ?_⟩) hH ?_
            rotate_left
            · intro w9 hSw
              try dsimp only at hSw
              obtain ⟨s0, s1, s2, s3, s4, s5, s6, s7⟩ := hSw
              go_simp
              try with_reducible rfl
            try simp only [Act.put, List.setIfInBounds_toArray, List.set_cons_zero, List.set_cons_succ]
            refine wpAnyH_take (i := 5) (oi := { dst := _, op := _, type := _, pos := _, after := _, guard := _ }) (v := ?_) rfl (by kernel_rfl) (by kernel_rfl) (by kernel_rfl) (fun _ _ _ h => h) (Or.inl ⟨by rfl, ?_⟩) hH ?_
            rotate_left
            · intro w9 hSw
              try dsimp only at hSw
              obtain ⟨s0, s1, s2, s3, s4, s5, s6, s7⟩ := hSw
              go_simp
              try with_reducible rfl
            try simp only [Act.put, List.setIfInBounds_toArray, List.set_cons_zero, List.set_cons_succ]
            refine wpAnyH_take (i := 6) (oi := { dst := _, op := _, type := _, pos := _, after := _, guard := _ }) (v := ?_) rfl (by kernel_rfl) (by kernel_rfl) (by kernel_rfl) (fun _ _ _ h => h) (Or.inl ⟨by rfl, ?_⟩) hH ?_
            rotate_left
            · intro w9 hSw
              try dsimp only at hSw
              obtain ⟨s0, s1, s2, s3, s4, s5, s6, s7⟩ := hSw
              go_simp
              try with_reducible rfl
            try simp only [Act.put, List.setIfInBounds_toArray, List.set_cons_zero, List.set_cons_succ]
            refine wpAnyH_take (i := 7) (oi := { dst := _, op := _, type := _, pos := _, after := _, guard := _ }) (v := ?_) rfl (by kernel_rfl) (by kernel_rfl) (by kernel_rfl) (fun _ _ _ h => h) (Or.inl ⟨by rfl, ?_⟩) hH ?_
            rotate_left
            · intro w9 hSw
              try dsimp only at hSw
              obtain ⟨s0, s1, s2, s3, s4, s5, s6, s7⟩ := hSw
              go_simp
              try with_reducible rfl
            try simp only [Act.put, List.setIfInBounds_toArray, List.set_cons_zero, List.set_cons_succ]
            refine wpAnyH_take (i := 8) (oi := { dst := _, op := _, type := _, pos := _, after := _, guard := _ }) (v := ?_) rfl (by kernel_rfl) (by kernel_rfl) (by kernel_rfl) (fun _ _ _ h => h) (Or.inl ⟨by rfl, ?_⟩) hH ?_
            rotate_left
            · intro w9 hSw
              try dsimp only at hSw
              obtain ⟨s0, s1, s2, s3, s4, s5, s6, s7⟩ := hSw
              go_simp
              try with_reducible rfl
            try simp only [Act.put, List.setIfInBounds_toArray, List.set_cons_zero, List.set_cons_succ]
            refine wpAnyH_take (i := 9) (oi := { dst := _, op := _, type := _, pos := _, after := _, guard := _ }) (v := ?_) rfl (by kernel_rfl) (by kernel_rfl) (by kernel_rfl) (fun _ _ _ h => h) (Or.inl ⟨by rfl, ?_⟩) hH ?_
            rotate_left
            · intro w9 hSw
              try dsimp only at hSw
              obtain ⟨s0, s1, s2, s3, s4, s5, s6, s7⟩ := hSw
              go_simp
              try with_reducible rfl
            try simp only [Act.put, List.setIfInBounds_toArray, List.set_cons_zero, List.set_cons_succ]
            refine wpAnyH_take (i := 10) (oi := { dst := _, op := _, type := _, pos := _, after := _, guard := _ }) (v := ?_) rfl (by kernel_rfl) (by kernel_rfl) (by kernel_rfl) (fun _ _ _ h => h) (Or.inl ⟨by rfl, ?_⟩) hH ?_
            rotate_left
            · intro w9 hSw
              try dsimp only at hSw
              obtain ⟨s0, s1, s2, s3, s4, s5, s6, s7⟩ := hSw
              go_simp
              try with_reducible rfl
            try simp only [Act.put, List.setIfInBounds_toArray, List.set_cons_zero, List.set_cons_succ]
            refine wpAnyH_take (i := 11) (oi := { dst := _, op := _, type := _, pos := _, after := _, guard := _ }) (v := ?_) rfl (by kernel_rfl) (by kernel_rfl) (by kernel_rfl) (fun _ _ _ h => h) (Or.inl ⟨by rfl, ?_⟩) hH ?_
            rotate_left
            · intro w9 hSw
              try dsimp only at hSw
              obtain ⟨s0, s1, s2, s3, s4, s5, s6, s7⟩ := hSw
              go_simp
              try with_reducible rfl
            try simp only [Act.put, List.setIfInBounds_toArray, List.set_cons_zero, List.set_cons_succ]
            refine wpAnyH_take (i := 12) (oi := { dst := _, op := _, type := _, pos := _, after := _, guard := _ }) (v := ?_) rfl (by kernel_rfl) (by kernel_rfl) (by kernel_rfl) (fun _ _ _ h => h) (Or.inl ⟨by rfl, ?_⟩) hH ?_
            rotate_left
            · intro w9 hSw
              try dsimp only at hSw
              obtain ⟨s0, s1, s2, s3, s4, s5, s6, s7⟩ := hSw
              go_simp
              try with_reducible rfl
            try simp only [Act.put, List.setIfInBounds_toArray, List.set_cons_zero, List.set_cons_succ]
            refine wpAnyH_take (i := 13) (oi := { dst := _, op := _, type := _, pos := _, after := _, guard := _ }) (v := ?_) rfl (by kernel_rfl) (by kernel_rfl) (by kernel_rfl) (fun _ _ _ h => h) (Or.inl ⟨by rfl, ?_⟩) hH ?_
            rotate_left
            · intro w9 hSw
              try dsimp only at hSw
              obtain ⟨s0, s1, s2, s3, s4, s5, s6, s7⟩ := hSw
              go_simp
              try with_reducible rfl
            try simp only [Act.put, List.setIfInBounds_toArray, List.set_cons_zero, List.set_cons_succ]
            refine wpAnyH_take (i := 14) (oi := { dst := _, op := _, type := _, pos := _, after := _, guard := _ }) (v := ?_) rfl (by kernel_rfl) (by kernel_rfl) (by kernel_rfl) (fun _ _ _ h => h) (Or.inl ⟨by rfl, ?_⟩) hH ?_
            rotate_left
            · intro w9 hSw
              try dsimp only at hSw
              obtain ⟨s0, s1, s2, s3, s4, s5, s6, s7⟩ := hSw
              go_simp
              try with_reducible rfl
            try simp only [Act.put, List.setIfInBounds_toArray, List.set_cons_zero, List.set_cons_succ]
            refine wpAnyH_take (i := 15) (oi := { dst := _, op := _, type := _, pos := _, after := _, guard := _ }) (v := ?_) rfl (by kernel_rfl) (by kernel_rfl) (by kernel_rfl) (fun _ _ _ h => h) (Or.inl ⟨by rfl, ?_⟩) hH ?_
            rotate_left
            · intro w9 hSw
              try dsimp only at hSw
              obtain ⟨s0, s1, s2, s3, s4, s5, s6, s7⟩ := hSw
              go_simp
              try with_reducible rfl
            try simp only [Act.put, List.setIfInBounds_toArray, List.set_cons_zero, List.set_cons_succ]
            refine wpAnyH_take (i := 16) (oi := { dst := _, op := _, type := _, pos := _, after := _, guard := _ }) (v := ?_) rfl (by kernel_rfl) (by kernel_rfl) (by kernel_rfl) (fun _ _ _ h => h) (Or.inl ⟨by rfl, ?_⟩) hH ?_
            rotate_left
            · intro w9 hSw
              try dsimp only at hSw
              obtain ⟨s0, s1, s2, s3, s4, s5, s6, s7⟩ := hSw
              go_simp
              try with_reducible rfl
            try simp only [Act.put, List.setIfInBounds_toArray, List.set_cons_zero, List.set_cons_succ]
            refine wpAnyH_take (i := 17) (oi := { dst := _, op := _, type := _, pos := _, after := _, guard := _ }) (v := ?_) rfl (by kernel_rfl) (by kernel_rfl) (by kernel_rfl) (fun _ _ _ h => h) (Or.inl ⟨by rfl, ?_⟩) hH ?_
            rotate_left
            · intro w9 hSw
              try dsimp only at hSw
              obtain ⟨s0, s1, s2, s3, s4, s5, s6, s7⟩ := hSw
              go_simp
              try with_reducible rfl
            try simp only [Act.put, List.setIfInBounds_toArray, List.set_cons_zero, List.set_cons_succ]
            refine wpAnyH_take (i := 18) (oi := { dst := _, op := _, type := _, pos := _, after := _, guard := _ }) (v := ?_) rfl (by kernel_rfl) (by kernel_rfl) (by kernel_rfl) (fun _ _ _ h => h) (Or.inl ⟨by rfl, ?_⟩) hH ?_
            rotate_left
            · intro w9 hSw
              try dsimp only at hSw
              obtain ⟨s0, s1, s2, s3, s4, s5, s6, s7⟩ := hSw
              go_simp
              try with_reducible rfl
            try simp only [Act.put, List.setIfInBounds_toArray, List.set_cons_zero, List.set_cons_succ]
            refine wpAnyH_take (i := 19) (oi := { dst := _, op := _, type := _, pos := _, after := _, guard := _ }) (v := ?_) rfl (by kernel_rfl) (by kernel_rfl) (by kernel_rfl) (fun _ _ _ h => h) (Or.inl ⟨by rfl, ?_⟩) hH ?_
            rotate_left
            · intro w9 hSw
              try dsimp only at hSw
              obtain ⟨s0, s1, s2, s3, s4, s5, s6, s7⟩ := hSw
              go_simp
              try with_reducible rfl
            try simp only [Act.put, List.setIfInBounds_toArray, List.set_cons_zero, List.set_cons_succ]
            refine wpAnyH_take (i := 20) (oi := { dst := _, op := _, type := _, pos := _, after := _, guard := _ }) (v := ?_) rfl (by kernel_rfl) (by kernel_rfl) (by kernel_rfl) (fun _ _ _ h => h) (Or.inl ⟨by rfl, ?_⟩) hH ?_
            rotate_left
            · intro w9 hSw
              try dsimp only at hSw
              obtain ⟨s0, s1, s2, s3, s4, s5, s6, s7⟩ := hSw
              go_simp
              try with_reducible rfl
            try simp only [Act.put, List.setIfInBounds_toArray, List.set_cons_zero, List.set_cons_succ]
            refine wpAnyH_take (i := 21) (oi := { dst := _, op := _, type := _, pos := _, after := _, guard := _ }) (v := ?_) rfl (by kernel_rfl) (by kernel_rfl) (by kernel_rfl) (fun _ _ _ h => h) (Or.inl ⟨by rfl, ?_⟩) hH ?_
            rotate_left
            · intro w9 hSw
              try dsimp only at hSw
              obtain ⟨s0, s1, s2, s3, s4, s5, s6, s7⟩ := hSw
              go_simp
              try with_reducible rfl
            try simp only [Act.put, List.setIfInBounds_toArray, List.set_cons_zero, List.set_cons_succ]
            refine wpAnyH_take (i := 22) (oi := { dst := _, op := _, type := _, pos := _, after := _, guard := _ }) (v := ?_) rfl (by kernel_rfl) (by kernel_rfl) (by kernel_rfl) (fun _ _ _ h => h) (Or.inl ⟨by rfl, ?_⟩) hH ?_
            rotate_left
            · intro w9 hSw
              try dsimp only at hSw
              obtain ⟨s0, s1, s2, s3, s4, s5, s6, s7⟩ := hSw
              go_simp
              try with_reducible rfl
            try simp only [Act.put, List.setIfInBounds_toArray, List.set_cons_zero, List.set_cons_succ]
            refine wpAnyH_take (i := 23) (oi := { dst := _, op := _, type := _, pos := _, after := _, guard := _ }) (v := ?_) rfl (by kernel_rfl) (by kernel_rfl) (by kernel_rfl) (fun _ _ _ h => h) (Or.inl ⟨by rfl, ?_⟩) hH ?_
            rotate_left
            · intro w9 hSw
              try dsimp only at hSw
              obtain ⟨s0, s1, s2, s3, s4, s5, s6, s7⟩ := hSw
              go_simp
              try with_reducible rfl
            try simp only [Act.put, List.setIfInBounds_toArray, List.set_cons_zero, List.set_cons_succ]
            refine wpAnyH_take (i := 24) (oi := { dst := _, op := _, type := _, pos := _, after := _, guard := _ }) (v := ?_) rfl (by kernel_rfl) (by kernel_rfl) (by kernel_rfl) (fun _ _ _ h => h) (Or.inl ⟨by rfl, ?_⟩) hH ?_
            rotate_left
            · intro w9 hSw
              try dsimp only at hSw
              obtain ⟨s0, s1, s2, s3, s4, s5, s6, s7⟩ := hSw
              go_simp
              try with_reducible rfl
            try simp only [Act.put, List.setIfInBounds_toArray, List.set_cons_zero, List.set_cons_succ]
            refine wpAnyH_take (i := 25) (oi := { dst := _, op := _, type := _, pos := _, after := _, guard := _ }) (v := ?_) rfl (by kernel_rfl) (by kernel_rfl) (by kernel_rfl) (fun _ _ _ h => h) (Or.inl ⟨by rfl, ?_⟩) hH ?_
            rotate_left
            · intro w9 hSw
              try dsimp only at hSw
              obtain ⟨s0, s1, s2, s3, s4, s5, s6, s7⟩ := hSw
              go_simp
              try with_reducible rfl
            try simp only [Act.put, List.setIfInBounds_toArray, List.set_cons_zero, List.set_cons_succ]
            refine wpAnyH_take (i := 26) (oi := { dst := _, op := _, type := _, pos := _, after := _, guard := _ }) (v := ?_) rfl (by kernel_rfl) (by kernel_rfl) (by kernel_rfl) (fun _ _ _ h => h) (Or.inl ⟨by rfl, ?_⟩) hH ?_
            rotate_left
            · intro w9 hSw
              try dsimp only at hSw
              obtain ⟨s0, s1, s2, s3, s4, s5, s6, s7⟩ := hSw
              go_simp
              try with_reducible rfl
            try simp only [Act.put, List.setIfInBounds_toArray, List.set_cons_zero, List.set_cons_succ]
            refine wpAnyH_take (i := 27) (oi := { dst := _, op := _, type := _, pos := _, after := _, guard := _ }) (v := ?_) rfl (by kernel_rfl) (by kernel_rfl) (by kernel_rfl) (fun _ _ _ h => h) (Or.inl ⟨by rfl, ?_⟩) hH ?_
            rotate_left
            · intro w9 hSw
              try dsimp only at hSw
              obtain ⟨s0, s1, s2, s3, s4, s5, s6, s7⟩ := hSw
              go_simp
              try with_reducible rfl
            try simp only [Act.put, List.setIfInBounds_toArray, List.set_cons_zero, List.set_cons_succ]
            refine wpAnyH_done (by kernel_rfl) ?_ _
            have hBn := hBj.trans ((Below.refl _ wr).drew.mono hBj.size)
            have hkn : ((t + 1 + (j + 1) : Nat) : Int) = (kk : Int) + 1 := by omega
            go_wp2
            exact ⟨⟨j + 1, hjl, by rw [hkn], by rw [hS.out], hBn⟩, by simp [intOf]; omega⟩
          · have q0 : decide ((kk : Int) ≤ (M : Int)) = false := by simp; omega
            have hHj : Hid (holdK T ⟨sr, dr, del, t⟩ j = (holdL T M gp)[i']'(by rw [hHl.out]; exact hlt)) := by
              show _ = _
              rw [hHi.out]
              simp only [Int.toNat_natCast]
              rw [show j = M - t by omega]
            rw [hHj.out]
            have hOr := hO.now hBj
            generalize hX : (holdL T M gp)[i']'(by rw [hHl.out]; exact hlt) = hv at *
            have hlen : ((holdL T M gp).take i').length + [hv].length ≤ 1099511627776 := by rw [List.length_take]; simp; omega
            obtain ⟨k0, k1⟩ := hbr.c2
            have l0 := hbr.lt
            have hTkH := hTk
            clear hX hHj
            go_wp2_with (at_builtin; refine wpList_append_lst rfl _ _ 38 rfl intCell 1 intCell_one (by omega) w1.heap.size 2 _ 8 Try.underlying38 info_i64 rfl _ _ rfl (hOr.alloc _) _ _ _ _ [hv] rfl (lst_new1 _ _ intCell_len _ _ _ _ rfl _ (by simp)) hlen (by omega) (Nat.le_trans hst (by simp <;> omega)) ?_; intro v' w7 hO1 hG1 hD1)
            go_roundw
            case rel => exact ⟨i' + 1, hlt, by go_num, by rw [hTkH.out]; exact hO1, below_app (hBt.alloc hst _) (Nat.le_trans hst (by simp)) hG1 (hOr.alloc _) (Nat.le_refl _)⟩
            case measure => simp [intOf]; omega
      · obtain rfl : i' = gp.length := by omega
        have hF : Hid ((holdL T M gp).take gp.length = holdL T M gp) := by show _ = _; rw [← hHl.out, List.take_length]
        rw [hF.out] at hO
        go_wp2
        go_ret2
        exact RetOwnI.of hE.out ⟨_, rfl, hO.rebase hs1, hW.trans (hB.mono hs1)⟩
set_option maxHeartbeats 4000000 in
set_option maxRecDepth 100000 in
theorem impl_HoldingOf (v : Value) (ge : Int) (gp : List Place) (N : Int) (w : World) (h0 : Lst Place.cells 4 w w.heap.size v gp) :
    Calls Try.prog 21 #[.agg #[.int .i64 ge, v], .int .i64 N] w (RetOwnI intCell 1 2 w (holdF ge gp N).1 (holdF ge gp N).2) := by
  obtain ⟨A, c, rfl⟩ := h0.shape
  go_enter Try.func21, Try.ntmps21
  go_wp2_with fail
  have hW : Below w.heap.size w (w.alloc (.cells #[.int .i64 ge, .slice A gp.length c] 26)) := (Below.refl _ _).alloc (Nat.le_refl _) _; have hb0 : Blk (w.alloc (.cells #[.int .i64 ge, .slice A gp.length c] 26)) w.heap.size 26 #[.int .i64 ge, .slice A gp.length c] := Blk.new _ _ _; replace h0 := h0.now hW; generalize (w.alloc (.cells #[.int .i64 ge, .slice A gp.length c] 26)) = W at *
  refine (impl_checkFirings _ _ _ _ _ h0).mono ?_
  rintro e w1 ⟨rfl, hB⟩
  replace hW := hW.trans (hB.mono hW.size); replace h0 := h0.now hB; replace hb0 := hb0.now hB
  obtain ⟨k0, k1⟩ := hb0.c2
  have l0 := hb0.lt
  clear hB
  cases hc : timC ge gp (inB N 0 50) == 0
  · have hc' : (timC ge gp (inB N 0 50) != 0) = true := by simp only [bne, hc]; rfl
    have hE : Hid (holdF ge gp N = ([], timC ge gp (inB N 0 50))) := by show _ = _; unfold holdF; rw [if_neg (by simpa using hc)]
    clear hc
    generalize timC ge gp (inB N 0 50) = code at *
    go_wp2
    go_ret2
    exact RetOwnI.of hE.out ⟨_, rfl, Own.nil, hW⟩
  · have hc0 : timC ge gp (inB N 0 50) = 0 := by simpa using hc
    obtain ⟨hg, hb, o, ho⟩ := timC_zero hc0
    obtain ⟨hge1, hge2⟩ := okGraph_ev hg
    have hgl := okGraph_len hg
    obtain ⟨n, rfl⟩ := Int.eq_ofNat_of_zero_le (show 0 ≤ ge by omega)
    have hN := (inB_iff _ _ _).1 hb
    obtain ⟨M, rfl⟩ := Int.eq_ofNat_of_zero_le hN.1
    rw [Int.toNat_natCast] at ho
    have hE : Hid (holdF n gp M = (holdL (timT gp o (zeros n) M) M gp, 0)) := by show _ = _; unfold holdF; rw [if_pos hc0, Int.toNat_natCast, Int.toNat_natCast, ho]; rfl
    have hTab := Lib.hid (TabOk.times hg hgl (o := o) (s := zeros n) (by have := (orderK_ok n o ho).len; omega) (zeros_len n) (zeros_ok n) M)
    have hg' := Lib.hid hg
    have ho' := Lib.hid ho
    rw [hc0]
    clear hc hc0 hb hg ho
    have hmk := run_make_lst (P := Try.prog) intCell 1 intCell_len (by omega) 0 38 2 _ 8 Try.underlying38 info_i64 rfl .i64 .i64 n (by omega) (by omega)
    have hm1 := fun w => (hmk w).1
    have hm2 := Lib.hid fun (w : World) => (hmk w).2 w.heap.size (Nat.le_refl _)
    clear hmk
    have hBd : Below w1.heap.size w1 w1.drew := Below.drew (Below.refl _ w1)
    have z0 : w1.drew.cell? ⟨w.heap.size, 0, none⟩ = some (.int .i64 n) := k0
    have z1 : w1.drew.cell? ⟨w.heap.size, 1, none⟩ = some (.slice A gp.length c) := k1
    have hZ : Below w1.drew.heap.size w1.drew (w1.drew.alloc (.cells (madeCells (intCell 0).toArray (n * 1)) 2)) := (Below.refl _ _).alloc (Nat.le_refl _) _
    have y0 := cell_keep z0 hZ
    have y1 := cell_keep z1 hZ
    have hO0 := hm2.out w1.drew
    simp only [Nat.mul_one] at hZ y0 y1 hO0
    go_wp2
    refine wp_region_held_drew (S := fun w' => w'.cell? ⟨w.heap.size, 0, none⟩ = some (.int .i64 n) ∧ w'.cell? ⟨w.heap.size, 1, none⟩ = some (.slice A gp.length c)) (by kernel_rfl) ⟨z0, z1⟩ (fun hH => ?_)
    refine wpAnyH_take (i := 0) (oi := { dst := _, op := _, type := _, pos := _, after := _, guard := _ }) (v := ?_) rfl (by kernel_rfl) (by kernel_rfl) (by kernel_rfl) (fun _ _ _ h => h) (Or.inl ⟨by rfl, ?_⟩) hH ?_
    rotate_left
    · intro w9 hSw
      try dsimp only at hSw
      obtain ⟨s0, s1⟩ := hSw
      go_simp
      try with_reducible rfl
    try simp only [Act.put, List.setIfInBounds_toArray, List.set_cons_zero, List.set_cons_succ]
    refine wpAnyH_take (i := 1) (oi := { dst := _, op := _, type := _, pos := _, after := _, guard := _ }) (v := ?_) rfl (by kernel_rfl) (by kernel_rfl) (by kernel_rfl) (fun _ _ _ h => h) (Or.inl ⟨by rfl, ?_⟩) hH ?_
    rotate_left
    · intro w9 hSw
      try dsimp only at hSw
      obtain ⟨s0, s1⟩ := hSw
      go_simp
      try with_reducible rfl
    try simp only [Act.put, List.setIfInBounds_toArray, List.set_cons_zero, List.set_cons_succ]
    refine wpAnyH_take (i := 2) (oi := { dst := _, op := _, type := _, pos := _, after := _, guard := _ }) (v := ?_) rfl (by kernel_rfl) (by kernel_rfl) (by kernel_rfl) (fun _ _ _ h => h) (Or.inl ⟨by rfl, ?_⟩) hH ?_
    rotate_left
    · intro w9 hSw
      try dsimp only at hSw
      obtain ⟨s0, s1⟩ := hSw
      go_simp
      try with_reducible rfl
    try simp only [Act.put, List.setIfInBounds_toArray, List.set_cons_zero, List.set_cons_succ]
    refine wpAnyH_take (i := 3) (oi := { dst := _, op := _, type := _, pos := _, after := _, guard := _ }) (v := ?_) rfl (by kernel_rfl) (by kernel_rfl) (by kernel_rfl) (fun _ _ _ h => h) (Or.inl ⟨by rfl, ?_⟩) hH ?_
    rotate_left
    · intro w9 hSw
      try dsimp only at hSw
      obtain ⟨s0, s1⟩ := hSw
      go_simp
      try with_reducible rfl
    try simp only [Act.put, List.setIfInBounds_toArray, List.set_cons_zero, List.set_cons_succ]
    refine wpAnyH_ready (rs := [4]) (by kernel_rfl) (by simp) ?_
    refine AllReadyH.cons rfl (fun K hK => ?_) AllReadyH.nil
    go_simp
    refine hK.out _ _ ⟨y0, y1⟩ (fun hH => ?_)
    clear hK K
    try simp only [Act.put, List.setIfInBounds_toArray, List.set_cons_zero, List.set_cons_succ]
    refine wpAnyH_ready (rs := [5]) (by kernel_rfl) (by simp) ?_
    refine AllReadyH.cons rfl (fun K hK => ?_) AllReadyH.nil
    go_simp
    go_at_call 106
    refine (impl_firingTimes _ n gp o M _ (zeros n) _ ((h0.now hBd).now hZ) hO0.lst hg' ho' (by omega) (zeros_len n) (Lib.hid (zeros_ok n))).mono ?_
    rintro e8 w2 ⟨x, rfl, hM, hB⟩
    have u0 := cell_keep y0 hB
    have u1 := cell_keep y1 hB
    refine hK.out _ _ ⟨u0, u1⟩ (fun hH => ?_)
    clear hK K
    try simp only [Act.put, List.setIfInBounds_toArray, List.set_cons_zero, List.set_cons_succ]
    refine wpAnyH_take (i := 6) (oi := { dst := _, op := _, type := _, pos := _, after := _, guard := _ }) (v := ?_) rfl (by kernel_rfl) (by kernel_rfl) (by kernel_rfl) (fun _ _ _ h => h) (Or.inl ⟨by rfl, ?_⟩) hH ?_
    rotate_left
    · intro w9 hSw
      try dsimp only at hSw
      obtain ⟨s0, s1⟩ := hSw
      go_simp
      try with_reducible rfl
    try simp only [Act.put, List.setIfInBounds_toArray, List.set_cons_zero, List.set_cons_succ]
    refine wpAnyH_done (by kernel_rfl) ?_ _
    have hBq := hBd.trans (hZ.trans (hB.mono hZ.size))
    replace h0 := h0.now hBq
    replace hb0 := hb0.now hBq
    replace hW := hW.trans (hBq.mono hW.size)
    clear hZ y0 y1 hO0 hm1 hm2 z0 z1 u0 u1 hH hB hBd hBq k0 k1 l0
    generalize timT gp o (zeros n) M = T at *
    have hTl := hTab.out.len
    have hL := hM.lst
    obtain ⟨XA, xc, rfl⟩ := hL.shape
    rw [hTl] at hL ⊢
    clear hM hTl
    generalize w2 = w1 at *
    obtain ⟨k0, k1⟩ := hb0.c2
    have l0 := hb0.lt
    have hHl := Lib.hid (holdL_len T M gp)
    have hHg := Lib.hid (holdL_get T M gp)
    have hmk2 := run_make_lst (P := Try.prog) intCell 1 intCell_len (by omega) 0 38 2 _ 8 Try.underlying38 info_i64 rfl .i64 .i64 gp.length (by omega) (by omega)
    have hm3 := fun w => (hmk2 w).1
    have hm4 := Lib.hid fun (w : World) => (hmk2 w).2 w.heap.size (Nat.le_refl _)
    clear hmk2
    have hQ0 := hm4.out w1
    have hNr : Below w1.heap.size w1 (w1.alloc (.cells (madeCells (intCell 0).toArray (gp.length * 1)) 2)) := (Below.refl _ _).alloc (Nat.le_refl _) _
    simp only [Nat.mul_one] at hQ0 hNr
    go_wp2
    clear k0 k1 l0 hm3 hm4
    have hs1 := hW.size
    go_loopw [9, 10, 11, 31] (fun _ _ _ i wr => ∃ i' : Nat, i' ≤ gp.length ∧ i = .int .i64 i' ∧ Own intCell 1 2 wr w1.heap.size (.slice (some ⟨w1.heap.size, 0, none⟩) gp.length gp.length) ((holdL T M gp).take i' ++ List.replicate ((holdL T M gp).length - i') 0) ∧ Below w1.heap.size w1 wr) (fun _ _ _ i _ => gp.length - (intOf i).toNat)
    case atStart => exact ⟨0, Nat.zero_le _, rfl, by rw [hHl.out]; simpa using hQ0, hNr⟩
    case round =>
      clear hQ0 hNr
      obtain ⟨i', hi, rfl, hO, hB⟩ := hrel
      have hs := hB.size
      obtain ⟨wo, hwo⟩ : ∃ x, x = wr := ⟨_, rfl⟩
      subst hwo
      obtain ⟨k0, k1⟩ := (hb0.now hB).c2
      have l0 := (hb0.now hB).lt
      by_cases hlt : i' < gp.length
      · obtain ⟨b, off, hA0, hbb, d0, d1, d2, d3⟩ := places_at (h0.now hB) i' hlt
        cases hA0
        have hp := okGraph_place hg'.out (List.getElem_mem hlt)
        have hHi := Lib.hid (hHg.out i' hlt (by rw [hHl.out]; exact hlt))
        have hFs := Lib.hid (fill_set (holdL T M gp) 0 i' (by rw [hHl.out]; exact hlt))
        have hjl2 : i' < ((holdL T M gp).take i' ++ List.replicate ((holdL T M gp).length - i') 0).length := by rw [fill_len _ _ _ (by rw [hHl.out]; exact hi), hHl.out]; exact hlt
        generalize hFi : (holdL T M gp).take i' ++ List.replicate ((holdL T M gp).length - i') 0 = Fi at *
        clear hFi
        obtain ⟨_, hg2, hfz, _⟩ := own_ints_at hO i' hjl2
        have hO1 := hO.set1 i' hjl2 (-1)
        have hB1 := hB.setCell (p := ⟨w1.heap.size, i', none⟩) (Nat.le_refl _) (.int .i64 (-1))
        have hs1' : wo.heap.size ≠ w1.heap.size := by omega
        have hs2' : w1.heap.size ≠ wo.heap.size := by omega
        obtain ⟨p, hpe⟩ : ∃ p, gp[i'] = p := ⟨_, rfl⟩
        rw [hpe] at d0 d1 d2 d3 hp hHi
        clear hpe
        obtain ⟨sv, dv, del, tk⟩ := p
        simp only at d0 d1 d2 d3 hp
        obtain ⟨⟨p1, p2⟩, ⟨p3, p4⟩, ⟨p5, p6⟩, p7, p8⟩ := hp
        obtain ⟨sr, rfl⟩ := Int.eq_ofNat_of_zero_le p1
        obtain ⟨dr, rfl⟩ := Int.eq_ofNat_of_zero_le p3
        obtain ⟨t, rfl⟩ := Int.eq_ofNat_of_zero_le p7
        have hbd := Lib.hid (holdK_bd hTab.out ⟨sr, dr, del, t⟩ p5)
        have hSt : Hid (∀ j, holdK T ⟨sr, dr, del, t⟩ (j + 1) = if holdK T ⟨sr, dr, del, t⟩ j < getT T (t + j) dr - getT T j sr - del then getT T (t + j) dr - getT T j sr - del else holdK T ⟨sr, dr, del, t⟩ j) := by
          intro j
          show max _ _ = _
          rw [max_if5]
          simp only [Int.toNat_natCast]
        go_wp2
        have hbx := Blk.newAt (wo.setCell ⟨w1.heap.size, i', none⟩ (.int .i64 (-1))) (t := 45) (cs := #[.int .i64 sr, .int .i64 dr, .int .i64 del, .int .i64 t]) wo.heap.size (by simp)
        replace hO := hO1.alloc (.cells #[.int .i64 sr, .int .i64 dr, .int .i64 del, .int .i64 t] 45)
        have hB2 := hB1.alloc (by simp; omega) (.cells #[.int .i64 sr, .int .i64 dr, .int .i64 del, .int .i64 t] 45)
        clear d0 d1 d2 d3 hbb k0 k1 l0 hO1 hB1 hB hfz
        generalize (wo.setCell ⟨w1.heap.size, i', none⟩ (.int .i64 (-1))).alloc (.cells #[.int .i64 sr, .int .i64 dr, .int .i64 del, .int .i64 t] 45) = V at *
        generalize wo.heap.size = bx at *
        have hB := hB2
        have hsV := hB.size
        go_loopw [11] (fun kv wr => ∃ j : Nat, j ≤ M - t ∧ kv = .int .i64 ((t + 1 + j : Nat) : Int) ∧ Own intCell 1 2 wr w1.heap.size (.slice (some ⟨w1.heap.size, 0, none⟩) gp.length gp.length) (Fi.set i' (holdK T ⟨sr, dr, del, t⟩ j)) ∧ Blk wr bx 45 #[.int .i64 sr, .int .i64 dr, .int .i64 del, .int .i64 t] ∧ Below w1.heap.size w1 wr) (fun kv _ => ((M : Int) + 1 - intOf kv).toNat)
        case atStart => exact ⟨0, Nat.zero_le _, by go_num, hO, hbx, hB⟩
        case round =>
          clear hO hB hB2 hsV hbx
          obtain ⟨j, hj, rfl, hO, hbxr, hBt⟩ := hrel
          have hst := hBt.size
          have hbr := hb0.now hBt
          obtain ⟨kk, hkk⟩ : ∃ kk, t + 1 + j = kk := ⟨_, rfl⟩
          rw [hkk]
          by_cases hjl : j < M - t
          · have q0 : decide ((kk : Int) ≤ (M : Int)) = true := by simp; omega
            have hLr := hL.now hBt
            have hTl := hTab.out.len
            obtain ⟨aa, haa⟩ : ∃ aa, t + j = aa := ⟨_, rfl⟩
            have haT : aa < T.length := by omega
            have hjT : j < T.length := by omega
            obtain ⟨g, off, cu, r1, hu, -, hc1, hr1⟩ := hLr.row aa haT
            rw [hTl] at hu
            cases hu
            obtain ⟨g2, off2, cu2, r2, hu2, -, hc2, hr2⟩ := hLr.row j hjT
            rw [hTl] at hu2
            cases hu2
            obtain ⟨R1, rc1, hv1⟩ := hr1.shape
            obtain ⟨R2, rc2, hv2⟩ := hr2.shape
            have hla := hTab.out.lenAt aa haT
            have hlj := hTab.out.lenAt j hjT
            rw [hla] at hv1
            rw [hlj] at hv2
            rw [hv1] at hc1 hr1
            rw [hv2] at hc2 hr2
            obtain ⟨b1, o1, hR1, -, e1⟩ := ints_at hr1 dr (by rw [hla]; omega)
            obtain ⟨b2, o2, hR2, -, e2⟩ := ints_at hr2 sr (by rw [hlj]; omega)
            subst hR1
            subst hR2
            rw [← getT_eq haT (by rw [hla]; omega)] at e1
            rw [← getT_eq hjT (by rw [hlj]; omega)] at e2
            have hS := Lib.hid (hSt.out j)
            rw [haa] at hS
            have g1 := hTab.out.get aa dr
            have g2' := hTab.out.get j sr
            have g3 := hbd.out j
            have hMN : M ≤ 50 := by omega
            generalize holdK T ⟨sr, dr, del, t⟩ j = hv at *
            generalize getT T aa dr = x1 at *
            generalize getT T j sr = x2 at *
            clear hr1 hr2 hv1 hv2 hla hlj hLr hTl
            obtain ⟨c0, c1', c2, c3⟩ := hbxr.c4
            have z0 : wr.drew.cell? ⟨bx, 0, none⟩ = some (.int .i64 sr) := c0
            have z1 : wr.drew.cell? ⟨bx, 1, none⟩ = some (.int .i64 dr) := c1'
            have z2 : wr.drew.cell? ⟨bx, 2, none⟩ = some (.int .i64 del) := c2
            have z3 : wr.drew.cell? ⟨bx, 3, none⟩ = some (.int .i64 t) := c3
            have z4 : wr.drew.cell? ⟨g, off + aa, none⟩ = some (.slice (some ⟨b1, o1, none⟩) n rc1) := hc1
            have z5 : wr.drew.cell? ⟨g, off + j, none⟩ = some (.slice (some ⟨b2, o2, none⟩) n rc2) := hc2
            have z6 : wr.drew.cell? ⟨b1, o1 + dr, none⟩ = some (.int .i64 x1) := e1
            have z7 : wr.drew.cell? ⟨b2, o2 + sr, none⟩ = some (.int .i64 x2) := e2
            have i1 : (0 : Int) ≤ (aa : Int) := by omega
            have i2 : (aa : Int) < (M : Int) := by omega
            have i3 : (0 : Int) ≤ (j : Int) := by omega
            have i4 : (j : Int) < (M : Int) := by omega
            have i5 : (0 : Int) ≤ (dr : Int) := by omega
            have i6 : (dr : Int) < (n : Int) := by omega
            have i7 : (0 : Int) ≤ (sr : Int) := by omega
            have i8 : (sr : Int) < (n : Int) := by omega
            have wa1 : IntKind.i64.wrap ((kk : Int) - 1) = (aa : Int) := (IntWalk.i64_in _ (by omega)).trans (by omega)
            have wa2 : IntKind.i64.wrap ((kk : Int) - (t : Int)) = (j : Int) + 1 := (IntWalk.i64_in _ (by omega)).trans (by omega)
            have wa3 : IntKind.i64.wrap ((j : Int) + 1 - 1) = (j : Int) := (IntWalk.i64_in _ (by omega)).trans (by omega)
            have wa6 : IntKind.i64.wrap ((aa : Int) - (t : Int)) = (j : Int) := (IntWalk.i64_in _ (by omega)).trans (by omega)
            have wa4 : IntKind.i64.wrap (x1 - x2) = x1 - x2 := IntWalk.i64_in _ (by omega)
            have wa5 : IntKind.i64.wrap (x1 - x2 - del) = x1 - x2 - del := IntWalk.i64_in _ (by omega)
            have wa7 : IntKind.i64.wrap (j : Int) = (j : Int) := IntWalk.i64_in _ (by omega)
            have hBd : Below wr.heap.size wr wr.drew := Below.drew (Below.refl _ wr)
            have hOd := hO.now hBd
            have hil : i' < (Fi.set i' hv).length := by simpa using hjl2
            obtain ⟨-, -, hfz, e9⟩ := own_ints_at hOd i' hil
            rw [List.getElem_set_self] at e9
            have i9 : (0 : Int) ≤ (i' : Int) := by omega
            have i10 : (i' : Int) < (gp.length : Int) := by omega
            clear c0 c1' c2 c3 hc1 hc2 e1 e2
            go_wp2
            refine wp_region_E (fun w' => w'.cell? ⟨bx, 0, none⟩ = some (.int .i64 (sr : Nat)) ∧ w'.cell? ⟨bx, 1, none⟩ = some (.int .i64 (dr : Nat)) ∧ w'.cell? ⟨bx, 2, none⟩ = some (.int .i64 del) ∧ w'.cell? ⟨bx, 3, none⟩ = some (.int .i64 (t : Nat)) ∧ w'.cell? ⟨g, off + aa, none⟩ = some (.slice (some ⟨b1, o1, none⟩) n rc1) ∧ w'.cell? ⟨g, off + j, none⟩ = some (.slice (some ⟨b2, o2, none⟩) n rc2) ∧ w'.cell? ⟨b1, o1 + dr, none⟩ = some (.int .i64 x1) ∧ w'.cell? ⟨b2, o2 + sr, none⟩ = some (.int .i64 x2) ∧ w'.cell? ⟨w1.heap.size, i', none⟩ = some (.int .i64 hv)) 33 (by kernel_rfl) ?_
            have hS0 : (fun w' : World => w'.cell? ⟨bx, 0, none⟩ = some (.int .i64 (sr : Nat)) ∧ w'.cell? ⟨bx, 1, none⟩ = some (.int .i64 (dr : Nat)) ∧ w'.cell? ⟨bx, 2, none⟩ = some (.int .i64 del) ∧ w'.cell? ⟨bx, 3, none⟩ = some (.int .i64 (t : Nat)) ∧ w'.cell? ⟨g, off + aa, none⟩ = some (.slice (some ⟨b1, o1, none⟩) n rc1) ∧ w'.cell? ⟨g, off + j, none⟩ = some (.slice (some ⟨b2, o2, none⟩) n rc2) ∧ w'.cell? ⟨b1, o1 + dr, none⟩ = some (.int .i64 x1) ∧ w'.cell? ⟨b2, o2 + sr, none⟩ = some (.int .i64 x2) ∧ w'.cell? ⟨w1.heap.size, i', none⟩ = some (.int .i64 hv)) wr.drew := ⟨z0, z1, z2, z3, z4, z5, z6, z7, e9⟩
            refine wpAnyE_take (i := 0) (v := ?_) rfl (by kernel_rfl) (by kernel_rfl) (by kernel_rfl) (by kernel_rfl) (by kernel_rfl) (fun _ _ _ h => h) hS0 (by rfl) ?_ ?_
            rotate_left
            · intro w9 hSw
              try dsimp only at hSw
              obtain ⟨s0, s1, s2, s3, s4, s5, s6, s7, s8⟩ := hSw
              go_simp
              try with_reducible rfl
            try simp only [Act.put, List.setIfInBounds_toArray, List.set_cons_zero, List.set_cons_succ]
            refine wpAnyE_take (i := 1) (v := ?_) rfl (by kernel_rfl) (by kernel_rfl) (by kernel_rfl) (by kernel_rfl) (by kernel_rfl) (fun _ _ _ h => h) hS0 (by rfl) ?_ ?_
            rotate_left
            · intro w9 hSw
              try dsimp only at hSw
              obtain ⟨s0, s1, s2, s3, s4, s5, s6, s7, s8⟩ := hSw
              go_simp
              try with_reducible rfl
            try simp only [Act.put, List.setIfInBounds_toArray, List.set_cons_zero, List.set_cons_succ]
            refine wpAnyE_take (i := 2) (v := ?_) rfl (by kernel_rfl) (by kernel_rfl) (by kernel_rfl) (by kernel_rfl) (by kernel_rfl) (fun _ _ _ h => h) hS0 (by rfl) ?_ ?_
            rotate_left
            · intro w9 hSw
              try dsimp only at hSw
              obtain ⟨s0, s1, s2, s3, s4, s5, s6, s7, s8⟩ := hSw
              go_simp
              try with_reducible rfl
            try simp only [Act.put, List.setIfInBounds_toArray, List.set_cons_zero, List.set_cons_succ]
            refine wpAnyE_take (i := 3) (v := ?_) rfl (by kernel_rfl) (by kernel_rfl) (by kernel_rfl) (by kernel_rfl) (by kernel_rfl) (fun _ _ _ h => h) hS0 (by rfl) ?_ ?_
            rotate_left
            · intro w9 hSw
              try dsimp only at hSw
              obtain ⟨s0, s1, s2, s3, s4, s5, s6, s7, s8⟩ := hSw
              go_simp
              try with_reducible rfl
            try simp only [Act.put, List.setIfInBounds_toArray, List.set_cons_zero, List.set_cons_succ]
            refine wpAnyE_take (i := 4) (v := ?_) rfl (by kernel_rfl) (by kernel_rfl) (by kernel_rfl) (by kernel_rfl) (by kernel_rfl) (fun _ _ _ h => h) hS0 (by rfl) ?_ ?_
            rotate_left
            · intro w9 hSw
              try dsimp only at hSw
              obtain ⟨s0, s1, s2, s3, s4, s5, s6, s7, s8⟩ := hSw
              go_simp
              try with_reducible rfl
            try simp only [Act.put, List.setIfInBounds_toArray, List.set_cons_zero, List.set_cons_succ]
            refine wpAnyE_take (i := 5) (v := ?_) rfl (by kernel_rfl) (by kernel_rfl) (by kernel_rfl) (by kernel_rfl) (by kernel_rfl) (fun _ _ _ h => h) hS0 (by rfl) ?_ ?_
            rotate_left
            · intro w9 hSw
              try dsimp only at hSw
              obtain ⟨s0, s1, s2, s3, s4, s5, s6, s7, s8⟩ := hSw
              go_simp
              try with_reducible rfl
            try simp only [Act.put, List.setIfInBounds_toArray, List.set_cons_zero, List.set_cons_succ]
            refine wpAnyE_take (i := 6) (v := ?_) rfl (by kernel_rfl) (by kernel_rfl) (by kernel_rfl) (by kernel_rfl) (by kernel_rfl) (fun _ _ _ h => h) hS0 (by rfl) ?_ ?_
            rotate_left
            · intro w9 hSw
              try dsimp only at hSw
              obtain ⟨s0, s1, s2, s3, s4, s5, s6, s7, s8⟩ := hSw
              go_simp
              try with_reducible rfl
            try simp only [Act.put, List.setIfInBounds_toArray, List.set_cons_zero, List.set_cons_succ]
            refine wpAnyE_take (i := 7) (v := ?_) rfl (by kernel_rfl) (by kernel_rfl) (by kernel_rfl) (by kernel_rfl) (by kernel_rfl) (fun _ _ _ h => h) hS0 (by rfl) ?_ ?_
            rotate_left
            · intro w9 hSw
              try dsimp only at hSw
              obtain ⟨s0, s1, s2, s3, s4, s5, s6, s7, s8⟩ := hSw
              go_simp
              try with_reducible rfl
            try simp only [Act.put, List.setIfInBounds_toArray, List.set_cons_zero, List.set_cons_succ]
            refine wpAnyE_take (i := 8) (v := ?_) rfl (by kernel_rfl) (by kernel_rfl) (by kernel_rfl) (by kernel_rfl) (by kernel_rfl) (fun _ _ _ h => h) hS0 (by rfl) ?_ ?_
            rotate_left
            · intro w9 hSw
              try dsimp only at hSw
              obtain ⟨s0, s1, s2, s3, s4, s5, s6, s7, s8⟩ := hSw
              go_simp
              try with_reducible rfl
            try simp only [Act.put, List.setIfInBounds_toArray, List.set_cons_zero, List.set_cons_succ]
            refine wpAnyE_take (i := 9) (v := ?_) rfl (by kernel_rfl) (by kernel_rfl) (by kernel_rfl) (by kernel_rfl) (by kernel_rfl) (fun _ _ _ h => h) hS0 (by rfl) ?_ ?_
            rotate_left
            · intro w9 hSw
              try dsimp only at hSw
              obtain ⟨s0, s1, s2, s3, s4, s5, s6, s7, s8⟩ := hSw
              go_simp
              try with_reducible rfl
            try simp only [Act.put, List.setIfInBounds_toArray, List.set_cons_zero, List.set_cons_succ]
            refine wpAnyE_take (i := 10) (v := ?_) rfl (by kernel_rfl) (by kernel_rfl) (by kernel_rfl) (by kernel_rfl) (by kernel_rfl) (fun _ _ _ h => h) hS0 (by rfl) ?_ ?_
            rotate_left
            · intro w9 hSw
              try dsimp only at hSw
              obtain ⟨s0, s1, s2, s3, s4, s5, s6, s7, s8⟩ := hSw
              go_simp
              try with_reducible rfl
            try simp only [Act.put, List.setIfInBounds_toArray, List.set_cons_zero, List.set_cons_succ]
            refine wpAnyE_take (i := 11) (v := ?_) rfl (by kernel_rfl) (by kernel_rfl) (by kernel_rfl) (by kernel_rfl) (by kernel_rfl) (fun _ _ _ h => h) hS0 (by rfl) ?_ ?_
            rotate_left
            · intro w9 hSw
              try dsimp only at hSw
              obtain ⟨s0, s1, s2, s3, s4, s5, s6, s7, s8⟩ := hSw
              go_simp
              try with_reducible rfl
            try simp only [Act.put, List.setIfInBounds_toArray, List.set_cons_zero, List.set_cons_succ]
            refine wpAnyE_take (i := 12) (v := ?_) rfl (by kernel_rfl) (by kernel_rfl) (by kernel_rfl) (by kernel_rfl) (by kernel_rfl) (fun _ _ _ h => h) hS0 (by rfl) ?_ ?_
            rotate_left
            · intro w9 hSw
              try dsimp only at hSw
              obtain ⟨s0, s1, s2, s3, s4, s5, s6, s7, s8⟩ := hSw
              go_simp
              try with_reducible rfl
            try simp only [Act.put, List.setIfInBounds_toArray, List.set_cons_zero, List.set_cons_succ]
            refine wpAnyE_take (i := 13) (v := ?_) rfl (by kernel_rfl) (by kernel_rfl) (by kernel_rfl) (by kernel_rfl) (by kernel_rfl) (fun _ _ _ h => h) hS0 (by rfl) ?_ ?_
            rotate_left
            · intro w9 hSw
              try dsimp only at hSw
              obtain ⟨s0, s1, s2, s3, s4, s5, s6, s7, s8⟩ := hSw
              go_simp
              try with_reducible rfl
            try simp only [Act.put, List.setIfInBounds_toArray, List.set_cons_zero, List.set_cons_succ]
            refine wpAnyE_take (i := 14) (v := ?_) rfl (by kernel_rfl) (by kernel_rfl) (by kernel_rfl) (by kernel_rfl) (by kernel_rfl) (fun _ _ _ h => h) hS0 (by rfl) ?_ ?_
            rotate_left
            · intro w9 hSw
              try dsimp only at hSw
              obtain ⟨s0, s1, s2, s3, s4, s5, s6, s7, s8⟩ := hSw
              go_simp
              try with_reducible rfl
            try simp only [Act.put, List.setIfInBounds_toArray, List.set_cons_zero, List.set_cons_succ]
            refine wpAnyE_take (i := 15) (v := ?_) rfl (by kernel_rfl) (by kernel_rfl) (by kernel_rfl) (by kernel_rfl) (by kernel_rfl) (fun _ _ _ h => h) hS0 (by rfl) ?_ ?_
            rotate_left
            · intro w9 hSw
              try dsimp only at hSw
              obtain ⟨s0, s1, s2, s3, s4, s5, s6, s7, s8⟩ := hSw
              go_simp
              try with_reducible rfl
            try simp only [Act.put, List.setIfInBounds_toArray, List.set_cons_zero, List.set_cons_succ]
            refine wpAnyE_take (i := 16) (v := ?_) rfl (by kernel_rfl) (by kernel_rfl) (by kernel_rfl) (by kernel_rfl) (by kernel_rfl) (fun _ _ _ h => h) hS0 (by rfl) ?_ ?_
            rotate_left
            · intro w9 hSw
              try dsimp only at hSw
              obtain ⟨s0, s1, s2, s3, s4, s5, s6, s7, s8⟩ := hSw
              go_simp
              try with_reducible rfl
            try simp only [Act.put, List.setIfInBounds_toArray, List.set_cons_zero, List.set_cons_succ]
            refine wpAnyE_take (i := 17) (v := ?_) rfl (by kernel_rfl) (by kernel_rfl) (by kernel_rfl) (by kernel_rfl) (by kernel_rfl) (fun _ _ _ h => h) hS0 (by rfl) ?_ ?_
            rotate_left
            · intro w9 hSw
              try dsimp only at hSw
              obtain ⟨s0, s1, s2, s3, s4, s5, s6, s7, s8⟩ := hSw
              go_simp
              try with_reducible rfl
            try simp only [Act.put, List.setIfInBounds_toArray, List.set_cons_zero, List.set_cons_succ]
            refine wpAnyE_take (i := 18) (v := ?_) rfl (by kernel_rfl) (by kernel_rfl) (by kernel_rfl) (by kernel_rfl) (by kernel_rfl) (fun _ _ _ h => h) hS0 (by rfl) ?_ ?_
            rotate_left
            · intro w9 hSw
              try dsimp only at hSw
              obtain ⟨s0, s1, s2, s3, s4, s5, s6, s7, s8⟩ := hSw
              go_simp
              try with_reducible rfl
            try simp only [Act.put, List.setIfInBounds_toArray, List.set_cons_zero, List.set_cons_succ]
            refine wpAnyE_take (i := 19) (v := ?_) rfl (by kernel_rfl) (by kernel_rfl) (by kernel_rfl) (by kernel_rfl) (by kernel_rfl) (fun _ _ _ h => h) hS0 (by rfl) ?_ ?_
            rotate_left
            · intro w9 hSw
              try dsimp only at hSw
              obtain ⟨s0, s1, s2, s3, s4, s5, s6, s7, s8⟩ := hSw
              go_simp
              try with_reducible rfl
            try simp only [Act.put, List.setIfInBounds_toArray, List.set_cons_zero, List.set_cons_succ]
            refine wpAnyE_take (i := 20) (v := ?_) rfl (by kernel_rfl) (by kernel_rfl) (by kernel_rfl) (by kernel_rfl) (by kernel_rfl) (fun _ _ _ h => h) hS0 (by rfl) ?_ ?_
            rotate_left
            · intro w9 hSw
              try dsimp only at hSw
              obtain ⟨s0, s1, s2, s3, s4, s5, s6, s7, s8⟩ := hSw
              go_simp
              try with_reducible rfl
            try simp only [Act.put, List.setIfInBounds_toArray, List.set_cons_zero, List.set_cons_succ]
            refine wpAnyE_take (i := 21) (v := ?_) rfl (by kernel_rfl) (by kernel_rfl) (by kernel_rfl) (by kernel_rfl) (by kernel_rfl) (fun _ _ _ h => h) hS0 (by rfl) ?_ ?_
            rotate_left
            · intro w9 hSw
              try dsimp only at hSw
              obtain ⟨s0, s1, s2, s3, s4, s5, s6, s7, s8⟩ := hSw
              go_simp
              try with_reducible rfl
            try simp only [Act.put, List.setIfInBounds_toArray, List.set_cons_zero, List.set_cons_succ]
            refine wpAnyE_take (i := 22) (v := ?_) rfl (by kernel_rfl) (by kernel_rfl) (by kernel_rfl) (by kernel_rfl) (by kernel_rfl) (fun _ _ _ h => h) hS0 (by rfl) ?_ ?_
            rotate_left
            · intro w9 hSw
              try dsimp only at hSw
              obtain ⟨s0, s1, s2, s3, s4, s5, s6, s7, s8⟩ := hSw
              go_simp
              try with_reducible rfl
            try simp only [Act.put, List.setIfInBounds_toArray, List.set_cons_zero, List.set_cons_succ]
            refine wpAnyE_take (i := 23) (v := ?_) rfl (by kernel_rfl) (by kernel_rfl) (by kernel_rfl) (by kernel_rfl) (by kernel_rfl) (fun _ _ _ h => h) hS0 (by rfl) ?_ ?_
            rotate_left
            · intro w9 hSw
              try dsimp only at hSw
              obtain ⟨s0, s1, s2, s3, s4, s5, s6, s7, s8⟩ := hSw
              go_simp
              try with_reducible rfl
            try simp only [Act.put, List.setIfInBounds_toArray, List.set_cons_zero, List.set_cons_succ]
            refine wpAnyE_take (i := 24) (v := ?_) rfl (by kernel_rfl) (by kernel_rfl) (by kernel_rfl) (by kernel_rfl) (by kernel_rfl) (fun _ _ _ h => h) hS0 (by rfl) ?_ ?_
            rotate_left
            · intro w9 hSw
              try dsimp only at hSw
              obtain ⟨s0, s1, s2, s3, s4, s5, s6, s7, s8⟩ := hSw
              go_simp
              try with_reducible rfl
            try simp only [Act.put, List.setIfInBounds_toArray, List.set_cons_zero, List.set_cons_succ]
            refine wpAnyE_take (i := 25) (v := ?_) rfl (by kernel_rfl) (by kernel_rfl) (by kernel_rfl) (by kernel_rfl) (by kernel_rfl) (fun _ _ _ h => h) hS0 (by rfl) ?_ ?_
            rotate_left
            · intro w9 hSw
              try dsimp only at hSw
              obtain ⟨s0, s1, s2, s3, s4, s5, s6, s7, s8⟩ := hSw
              go_simp
              try with_reducible rfl
            try simp only [Act.put, List.setIfInBounds_toArray, List.set_cons_zero, List.set_cons_succ]
            refine wpAnyE_take (i := 26) (v := ?_) rfl (by kernel_rfl) (by kernel_rfl) (by kernel_rfl) (by kernel_rfl) (by kernel_rfl) (fun _ _ _ h => h) hS0 (by rfl) ?_ ?_
            rotate_left
            · intro w9 hSw
              try dsimp only at hSw
              obtain ⟨s0, s1, s2, s3, s4, s5, s6, s7, s8⟩ := hSw
              go_simp
              try with_reducible rfl
            try simp only [Act.put, List.setIfInBounds_toArray, List.set_cons_zero, List.set_cons_succ]
            refine wpAnyE_take (i := 27) (v := ?_) rfl (by kernel_rfl) (by kernel_rfl) (by kernel_rfl) (by kernel_rfl) (by kernel_rfl) (fun _ _ _ h => h) hS0 (by rfl) ?_ ?_
            rotate_left
            · intro w9 hSw
              try dsimp only at hSw
              obtain ⟨s0, s1, s2, s3, s4, s5, s6, s7, s8⟩ := hSw
              go_simp
              try with_reducible rfl
            try simp only [Act.put, List.setIfInBounds_toArray, List.set_cons_zero, List.set_cons_succ]
            refine wpAnyE_take (i := 28) (v := ?_) rfl (by kernel_rfl) (by kernel_rfl) (by kernel_rfl) (by kernel_rfl) (by kernel_rfl) (fun _ _ _ h => h) hS0 (by rfl) ?_ ?_
            rotate_left
            · intro w9 hSw
              try dsimp only at hSw
              obtain ⟨s0, s1, s2, s3, s4, s5, s6, s7, s8⟩ := hSw
              go_simp
              try with_reducible rfl
            try simp only [Act.put, List.setIfInBounds_toArray, List.set_cons_zero, List.set_cons_succ]
            refine wpAnyE_take (i := 29) (v := ?_) rfl (by kernel_rfl) (by kernel_rfl) (by kernel_rfl) (by kernel_rfl) (by kernel_rfl) (fun _ _ _ h => h) hS0 (by rfl) ?_ ?_
            rotate_left
            · intro w9 hSw
              try dsimp only at hSw
              obtain ⟨s0, s1, s2, s3, s4, s5, s6, s7, s8⟩ := hSw
              go_simp
              try with_reducible rfl
            try simp only [Act.put, List.setIfInBounds_toArray, List.set_cons_zero, List.set_cons_succ]
            refine wpAnyE_take (i := 30) (v := ?_) rfl (by kernel_rfl) (by kernel_rfl) (by kernel_rfl) (by kernel_rfl) (by kernel_rfl) (fun _ _ _ h => h) hS0 (by rfl) ?_ ?_
            rotate_left
            · intro w9 hSw
              try dsimp only at hSw
              obtain ⟨s0, s1, s2, s3, s4, s5, s6, s7, s8⟩ := hSw
              go_simp
              try with_reducible rfl
            try simp only [Act.put, List.setIfInBounds_toArray, List.set_cons_zero, List.set_cons_succ]
            refine wpAnyE_take (i := 31) (v := ?_) rfl (by kernel_rfl) (by kernel_rfl) (by kernel_rfl) (by kernel_rfl) (by kernel_rfl) (fun _ _ _ h => h) hS0 (by rfl) ?_ ?_
            rotate_left
            · intro w9 hSw
              try dsimp only at hSw
              obtain ⟨s0, s1, s2, s3, s4, s5, s6, s7, s8⟩ := hSw
              go_simp
              try with_reducible rfl
            try simp only [Act.put, List.setIfInBounds_toArray, List.set_cons_zero, List.set_cons_succ]
            refine wpAnyE_take (i := 32) (v := ?_) rfl (by kernel_rfl) (by kernel_rfl) (by kernel_rfl) (by kernel_rfl) (by kernel_rfl) (fun _ _ _ h => h) hS0 (by rfl) ?_ ?_
            rotate_left
            · intro w9 hSw
              try dsimp only at hSw
              obtain ⟨s0, s1, s2, s3, s4, s5, s6, s7, s8⟩ := hSw
              go_simp
              try with_reducible rfl
            try simp only [Act.put, List.setIfInBounds_toArray, List.set_cons_zero, List.set_cons_succ]
            refine wpAnyE_one (i := 33) rfl (by kernel_rfl) (fun K hK => ?_)
            go_simp
            refine hK.out _ _ (fun h => absurd rfl h) ?_
            clear hK K
            try simp only [Act.put, List.setIfInBounds_toArray, List.set_cons_zero, List.set_cons_succ]
            refine wpAnyE_done (by kernel_rfl) ?_
            have hOn := hOd.set1 i' hil (if hv < x1 - x2 - del then x1 - x2 - del else hv)
            rw [List.set_set, ← hS.out] at hOn
            have hBn := (hBt.trans (hBd.mono hst)).setCell (p := ⟨w1.heap.size, i', none⟩) (Nat.le_refl _) (.int .i64 (if hv < x1 - x2 - del then x1 - x2 - del else hv))
            have hbxn := (hbxr.now hBd).far (p := ⟨w1.heap.size, i', none⟩) hs1' (.int .i64 (if hv < x1 - x2 - del then x1 - x2 - del else hv))
            have hkn : ((t + 1 + (j + 1) : Nat) : Int) = (kk : Int) + 1 := by omega
            go_wp2
            exact ⟨⟨j + 1, hjl, by rw [hkn], by rw [hS.out] at hOn ⊢; exact hOn, hbxn, hBn⟩, by simp [intOf]; omega⟩
          · have q0 : decide ((kk : Int) ≤ (M : Int)) = false := by simp; omega
            have hHj : Hid (holdK T ⟨sr, dr, del, t⟩ j = (holdL T M gp)[i']'(by rw [hHl.out]; exact hlt)) := by
              show _ = _
              rw [hHi.out]
              simp only [Int.toNat_natCast]
              rw [show j = M - t by omega]
            rw [hHj.out, hFs.out] at hO
            go_wp2
            exact ⟨⟨i' + 1, hlt, by go_num, hO, hBt⟩, by simp [intOf]; omega⟩
      · obtain rfl : i' = gp.length := by omega
        have hF : Hid ((holdL T M gp).take gp.length ++ List.replicate ((holdL T M gp).length - gp.length) 0 = holdL T M gp) := by
          show _ = _
          have := fill_all (holdL T M gp) 0
          rwa [hHl.out] at this ⊢
        rw [hF.out] at hO
        go_wp2
        go_ret2
        exact RetOwnI.of hE.out ⟨_, rfl, hO.rebase hs1, hW.trans (hB.mono hs1)⟩
end Go.Proofs.Ytkbhbmoogkjafaa
