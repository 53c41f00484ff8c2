/-
  FnReachable returns true for every input: firing an enabled event leads from each reachable marking to a reachable one, and none is told twice.
  Conditions: none beyond the statement's own.
-/
import Derived.Test.YthamppcpjmnnkaaFnReachP
import Derived.Test.YthamppcpjmnnkaaLike
import Derived.Test.YthamppcpjmnnkaaDice
import Derived.Test.YthamppcpjmnnkaaDrD
import Derived.Test.YthamppcpjmnnkaaReach
import Derived.Test.YthamppcpjmnnkaaFire
namespace Go.Proofs.Ythamppcpjmnnkaa
open Go.RowKit Go.ChangeShapes Go.WideShapes Go.ChangeAt Go.Deep
set_option linter.unusedVariables false
set_option linter.unusedSimpArgs false
set_option maxHeartbeats 8000000 in
set_option maxRecDepth 100000 in
theorem law_FnReachable (cv : Value) (bs : List Int) (w : World) (a0 : Lst byteCell 1 w w.heap.size cv bs) (o0 : Hid (∀ b ∈ bs, 0 ≤ b ∧ b ≤ 255)) :
    Calls Try.prog 3 #[cv] w fun e w' => e = .returned (.bool true) ∧ Below w.heap.size w w' := by
  obtain ⟨CA, cc, rfl⟩ := a0.shape
  by_cases hbig : (4096 : Int) < (bs.length : Int)
  · have hq : Hid (decide ((4096 : Int) < (bs.length : Int)) = true) := decide_eq_true hbig
    clear hbig
    go_enter Try.func3, Try.ntmps3
    go_wp2_with (go_at_call 15; refine (laws_big _ _ _ a0).mono ?_; rintro e w1 ⟨rfl, rfl⟩; rw [hq.out])
    go_ret
    exact ⟨rfl, Below.refl _ _⟩
  · have hq : Hid (decide ((4096 : Int) < (bs.length : Int)) = false) := decide_eq_false hbig
    clear hbig
    go_enter Try.func3, Try.ntmps3
    go_wp2_with fail
    refine (laws_big _ _ _ a0).mono ?_
    rintro e w1 ⟨rfl, rfl⟩
    rw [hq.out]
    go_wp2_with fail
    refine (spec_DrawReachableMarkings _ bs w a0 o0).mono ?_
    rintro e w1 ⟨ge, gp, v, rfl, hg0, hg1, hglen, hO, hB⟩
    obtain ⟨A, c, rfl⟩ := hO.shape
    have hA2 : Below w1.heap.size w1 (w1.alloc (.cells #[.int .i64 ge, .slice A gp.length c] 26)) := (Below.refl _ _).alloc (Nat.le_refl _) _
    have hbox := Blk.newAt w1 (t := 26) (cs := #[.int .i64 ge, .slice A gp.length c]) _ rfl
    go_wp2_with fail
    replace hO := hO.now hA2
    replace hB := hB.trans (hA2.mono hB.size)
    generalize w1.alloc (.cells #[.int .i64 ge, .slice A gp.length c] 26) = W2 at *
    generalize w1.heap.size = bg at *
    clear hA2
    obtain ⟨F, cd, hF⟩ : ∃ F cd, reachF ge gp = (F, cd) := ⟨_, _, rfl⟩
    refine (impl_ReachableMarkings _ ge gp _ hO.lst).mono ?_
    rintro e w2 ⟨x, rfl, hx, hB2⟩
    rw [hF] at hx ⊢
    obtain ⟨X, cx, rfl⟩ := hx.shape
    replace hO := hO.now hB2
    replace hbox := hbox.now hB2
    replace hB := hB.trans (hB2.mono hB.size)
    clear hB2
    have l0 := hbox.lt
    obtain ⟨k0, k1⟩ := hbox.c2
    go_wp2_with fail
    clear k0 k1 l0
    refine (spec_ReachableMarkings _ ge gp _ hO.lst).mono ?_
    rintro e w3 ⟨y, rfl, hy, hB3⟩
    rw [hF] at hy ⊢
    obtain ⟨Y, cy, rfl⟩ := hy.shape
    replace hO := hO.now hB3
    replace hx := hx.now hB3
    replace hbox := hbox.now hB3
    replace hB := hB.trans (hB3.mono hB.size)
    clear hB3
    have hcd : (cd != cd) = false := by simp
    have hFH := Lib.hid hF
    clear hF
    go_wp2_with fail
    refine (laws_likeTables9 _ _ F F _ hx.lst hy.lst).mono ?_
    rintro e w4 ⟨rfl, hB4⟩
    rw [decide_eq_true rfl]
    replace hO := hO.now hB4
    replace hx := hx.now hB4
    replace hbox := hbox.now hB4
    replace hB := hB.trans (hB4.mono hB.size)
    clear hB4 hy hcd
    by_cases hc0 : cd = 0
    · subst hc0
      obtain ⟨hg, hF0, hF3, hall⟩ := reach_law hFH.out
      obtain ⟨hge1, hge2⟩ := okGraph_ev hg
      have hgH := Lib.hid hg
      have hallH := Lib.hid hall
      clear hg hall
      have hF0' : (1 : Int) ≤ (F.length : Int) := by omega
      go_wp2_with fail
      refine (laws_roll _ bs _ _ (a0.now hB) o0).mono ?_
      rintro e w5 ⟨rfl, hD, hB5⟩
      go_wp2_with fail
      refine (laws_below _ (F.length : Int) _ hD (by omega) (by omega)).mono ?_
      rintro e w6 ⟨z, rfl, hz0, hz1, hD6, hG6⟩
      have hB6 : Below w4.heap.size w4 w6 := hB5.grown hG6 hB5.size (fun k e => by injection e with e; omega)
      clear hB5 hG6 hD hD6
      replace hO := hO.now hB6
      replace hx := hx.now hB6
      replace hbox := hbox.now hB6
      replace hB := hB.trans (hB6.mono hB.size)
      clear hB6
      obtain ⟨i, rfl⟩ := Int.eq_ofNat_of_zero_le hz0
      have hiF : i < F.length := by omega
      obtain ⟨okm, hen, hfi⟩ := hallH.out i hiF
      obtain ⟨xb, xo, cx', r, hxv, _, hxc, hr⟩ := hx.lst.row i hiF
      cases hxv
      obtain ⟨R, rn, rc⟩ := r
      simp only [Ref.val] at hxc hr
      obtain ⟨m, hm⟩ : ∃ m, F[i] = m := ⟨_, rfl⟩
      rw [hm] at hr okm hen hfi
      have henH := Lib.hid hen
      have hfiH := Lib.hid hfi
      have hmH := Lib.hid hm
      clear hen hfi hm okm
      have l0 := hbox.lt
      obtain ⟨k0, k1⟩ := hbox.c2
      go_wp2_with fail
      clear k0 k1 l0 hxc
      refine (impl_EnabledIn _ ge gp _ m _ hO.lst hr).mono ?_
      rintro e w7 ⟨en, rfl, hE, hB7⟩
      rw [henH.out] at hE ⊢
      replace hO := hO.now hB7
      replace hx := hx.now hB7
      replace hr := hr.now hB7
      replace hbox := hbox.now hB7
      replace hB := hB.trans (hB7.mono hB.size)
      clear hB7
      obtain ⟨E, hEd⟩ : ∃ E, enL gp m ge.toNat = E := ⟨_, rfl⟩
      rw [hEd] at hE hfiH
      clear henH hEd
      have hEl := hE.lst.len_le
      obtain ⟨EA, ec, rfl⟩ := hE.shape
      go_wp2
      go_loopw [11, 12, 13, 14, 15] (fun i _ _ _ _ wr => ∃ k : Nat, k ≤ E.length ∧ i = .int .i64 k ∧ Below w7.heap.size w7 wr) (fun i _ _ _ _ _ => E.length - (intOf i).toNat)
      case atStart => exact ⟨0, Nat.zero_le _, rfl, Below.refl _ _⟩
      case round =>
        obtain ⟨k, hk, rfl, hBr⟩ := hrel
        by_cases hlt : k < E.length
        · obtain ⟨eb, eo, hEA, _, z0⟩ := ints_at (hE.now hBr).lst k hlt
          cases hEA
          obtain ⟨f1, f2⟩ := hfiH.out _ (List.getElem_mem hlt)
          obtain ⟨ev, hev⟩ : ∃ ev, E[k] = ev := ⟨_, rfl⟩
          rw [hev] at z0 f1 f2
          have f1H := Lib.hid f1
          have f2H := Lib.hid f2
          clear f1 f2 hev
          have hBd : Below wr.heap.size wr wr.drew := Below.drew (Below.refl _ wr)
          obtain ⟨k0, k1⟩ := (hbox.now hBr).c2
          replace z0 := cell_keep z0 hBd
          replace k0 := cell_keep k0 hBd
          replace k1 := cell_keep k1 hBd
          have i1 : (0 : Int) ≤ (k : Int) := by omega
          have i2 : (k : Int) < (E.length : Int) := by omega
          go_wp2_with fail
          refine wp_region_held_drew (S := fun w' => w'.cell? ⟨bg, 0, none⟩ = some (.int .i64 ge) ∧ w'.cell? ⟨bg, 1, none⟩ = some (.slice A gp.length c) ∧ w'.cell? ⟨eb, eo + k, none⟩ = some (.int .i64 ev)) (by kernel_rfl) ⟨k0, k1, z0⟩ (fun hH => ?_)
          refine wpAnyH_take (i := 0) (oi := { dst := _, op := _, type := _, pos := _, after := _, guard := _ }) (v := ?_) rfl (by kernel_rfl) (by kernel_rfl) (by kernel_rfl) (fun _ _ _ h => h) (Or.inl ⟨by rfl, ?_⟩) hH ?_
          rotate_left
          · intro w9 hSw
            try dsimp only at hSw
            obtain ⟨s0, s1, s2⟩ := hSw
            go_simp
            try with_reducible rfl
          try simp only [Act.put, List.setIfInBounds_toArray, List.set_cons_zero, List.set_cons_succ]
          refine wpAnyH_take (i := 1) (oi := { dst := _, op := _, type := _, pos := _, after := _, guard := _ }) (v := ?_) rfl (by kernel_rfl) (by kernel_rfl) (by kernel_rfl) (fun _ _ _ h => h) (Or.inl ⟨by rfl, ?_⟩) hH ?_
          rotate_left
          · intro w9 hSw
            try dsimp only at hSw
            obtain ⟨s0, s1, s2⟩ := hSw
            go_simp
            try with_reducible rfl
          try simp only [Act.put, List.setIfInBounds_toArray, List.set_cons_zero, List.set_cons_succ]
          refine wpAnyH_take (i := 2) (oi := { dst := _, op := _, type := _, pos := _, after := _, guard := _ }) (v := ?_) rfl (by kernel_rfl) (by kernel_rfl) (by kernel_rfl) (fun _ _ _ h => h) (Or.inl ⟨by rfl, ?_⟩) hH ?_
          rotate_left
          · intro w9 hSw
            try dsimp only at hSw
            obtain ⟨s0, s1, s2⟩ := hSw
            go_simp
            try with_reducible rfl
          try simp only [Act.put, List.setIfInBounds_toArray, List.set_cons_zero, List.set_cons_succ]
          refine wpAnyH_take (i := 3) (oi := { dst := _, op := _, type := _, pos := _, after := _, guard := _ }) (v := ?_) rfl (by kernel_rfl) (by kernel_rfl) (by kernel_rfl) (fun _ _ _ h => h) (Or.inl ⟨by rfl, ?_⟩) hH ?_
          rotate_left
          · intro w9 hSw
            try dsimp only at hSw
            obtain ⟨s0, s1, s2⟩ := hSw
            go_simp
            try with_reducible rfl
          try simp only [Act.put, List.setIfInBounds_toArray, List.set_cons_zero, List.set_cons_succ]
          refine wpAnyH_take (i := 4) (oi := { dst := _, op := _, type := _, pos := _, after := _, guard := _ }) (v := ?_) rfl (by kernel_rfl) (by kernel_rfl) (by kernel_rfl) (fun _ _ _ h => h) (Or.inl ⟨by rfl, ?_⟩) hH ?_
          rotate_left
          · intro w9 hSw
            try dsimp only at hSw
            obtain ⟨s0, s1, s2⟩ := hSw
            go_simp
            try with_reducible rfl
          try simp only [Act.put, List.setIfInBounds_toArray, List.set_cons_zero, List.set_cons_succ]
          refine wpAnyH_take (i := 5) (oi := { dst := _, op := _, type := _, pos := _, after := _, guard := _ }) (v := ?_) rfl (by kernel_rfl) (by kernel_rfl) (by kernel_rfl) (fun _ _ _ h => h) (Or.inl ⟨by rfl, ?_⟩) hH ?_
          rotate_left
          · intro w9 hSw
            try dsimp only at hSw
            obtain ⟨s0, s1, s2⟩ := hSw
            go_simp
            try with_reducible rfl
          try simp only [Act.put, List.setIfInBounds_toArray, List.set_cons_zero, List.set_cons_succ]
          refine wpAnyH_ready (rs := [6]) (by kernel_rfl) (by simp) ?_
          refine AllReadyH.cons rfl (fun K hK => ?_) AllReadyH.nil
          go_simp
          go_at_call 23
          refine (impl_FireEvent _ ge gp _ m ev wr.drew ((hO.now hBr).now hBd).lst ((hr.now hBr).now hBd)).mono ?_
          rintro e8 w8 ⟨y, rfl, hOy, hBy⟩
          rw [f1H.out] at hOy ⊢
          have k0a := cell_keep (w := wr.drew) k0 hBy
          have k1a := cell_keep (w := wr.drew) k1 hBy
          have z0a := cell_keep (w := wr.drew) z0 hBy
          refine hK.out _ _ ⟨k0a, k1a, z0a⟩ (fun hH => ?_)
          clear hK K
          try simp only [Act.put, List.setIfInBounds_toArray, List.set_cons_zero, List.set_cons_succ]
          refine wpAnyH_take (i := 7) (oi := { dst := _, op := _, type := _, pos := _, after := _, guard := _ }) (v := ?_) rfl (by kernel_rfl) (by kernel_rfl) (by kernel_rfl) (fun _ _ _ h => h) (Or.inl ⟨by rfl, ?_⟩) hH ?_
          rotate_left
          · intro w9 hSw
            try dsimp only at hSw
            obtain ⟨s0, s1, s2⟩ := hSw
            go_simp
            try with_reducible rfl
          try simp only [Act.put, List.setIfInBounds_toArray, List.set_cons_zero, List.set_cons_succ]
          refine wpAnyH_take (i := 8) (oi := { dst := _, op := _, type := _, pos := _, after := _, guard := _ }) (v := ?_) rfl (by kernel_rfl) (by kernel_rfl) (by kernel_rfl) (fun _ _ _ h => h) (Or.inl ⟨by rfl, ?_⟩) hH ?_
          rotate_left
          · intro w9 hSw
            try dsimp only at hSw
            obtain ⟨s0, s1, s2⟩ := hSw
            go_simp
            try with_reducible rfl
          try simp only [Act.put, List.setIfInBounds_toArray, List.set_cons_zero, List.set_cons_succ]
          refine wpAnyH_take (i := 9) (oi := { dst := _, op := _, type := _, pos := _, after := _, guard := _ }) (v := ?_) rfl (by kernel_rfl) (by kernel_rfl) (by kernel_rfl) (fun _ _ _ h => h) (Or.inl ⟨by rfl, ?_⟩) hH ?_
          rotate_left
          · intro w9 hSw
            try dsimp only at hSw
            obtain ⟨s0, s1, s2⟩ := hSw
            go_simp
            try with_reducible rfl
          try simp only [Act.put, List.setIfInBounds_toArray, List.set_cons_zero, List.set_cons_succ]
          refine wpAnyH_take (i := 10) (oi := { dst := _, op := _, type := _, pos := _, after := _, guard := _ }) (v := ?_) rfl (by kernel_rfl) (by kernel_rfl) (by kernel_rfl) (fun _ _ _ h => h) (Or.inl ⟨by rfl, ?_⟩) hH ?_
          rotate_left
          · intro w9 hSw
            try dsimp only at hSw
            obtain ⟨s0, s1, s2⟩ := hSw
            go_simp
            try with_reducible rfl
          try simp only [Act.put, List.setIfInBounds_toArray, List.set_cons_zero, List.set_cons_succ]
          refine wpAnyH_take (i := 11) (oi := { dst := _, op := _, type := _, pos := _, after := _, guard := _ }) (v := ?_) rfl (by kernel_rfl) (by kernel_rfl) (by kernel_rfl) (fun _ _ _ h => h) (Or.inl ⟨by rfl, ?_⟩) hH ?_
          rotate_left
          · intro w9 hSw
            try dsimp only at hSw
            obtain ⟨s0, s1, s2⟩ := hSw
            go_simp
            try with_reducible rfl
          try simp only [Act.put, List.setIfInBounds_toArray, List.set_cons_zero, List.set_cons_succ]
          refine wpAnyH_done (by kernel_rfl) ?_ _
          clear hH k0 k1 z0 k0a k1a z0a
          obtain ⟨N, hN⟩ : ∃ N, fireM gp m ev = N := ⟨_, rfl⟩
          simp only [hN] at hOy ⊢
          rw [hN] at f2H
          clear hN f1H
          obtain ⟨NA, nc, rfl⟩ := hOy.shape
          have hBy2 : Below wr.heap.size wr w8 := hBd.trans (hBy.mono hBd.size)
          replace hBr := hBr.trans (hBy2.mono hBr.size)
          have hxr := hx.now hBr
          clear hBy hBy2 hBd hE
          go_wp2
          go_loopw [14, 15] (fun cn i wq => ∃ q : Nat, q ≤ F.length ∧ i = .int .i64 q ∧ cn = .int .i64 (cntL F N q : Nat) ∧ Below w8.heap.size w8 wq) (fun _ i _ => F.length - (intOf i).toNat)
          case atStart => exact ⟨0, Nat.zero_le _, rfl, by simp [cntL], Below.refl _ _⟩
          case round =>
            obtain ⟨q, hq, rfl, rfl, hBq⟩ := hrel
            by_cases hlt2 : q < F.length
            · obtain ⟨xb', xo', cx', r', hxv, _, hxc, hr'⟩ := (hxr.now hBq).lst.row q hlt2
              cases hxv
              obtain ⟨R', rn', rc'⟩ := r'
              simp only [Ref.val] at hxc hr'
              have hcs := cntL_succ F N q hlt2
              have hcl : cntL F N q ≤ q := by unfold cntL; exact Nat.le_trans List.countP_le_length (by simp; omega)
              by_cases heq : F[q] = N
              · have hdq : decide (F[q] = N) = true := decide_eq_true heq
                rw [if_pos heq] at hcs
                have hcsH := Lib.hid hcs
                clear heq hcs
                obtain ⟨C, hC⟩ : ∃ C, cntL F N q = C := ⟨_, rfl⟩
                rw [hC] at hcsH hcl ⊢
                clear hC
                go_wp2_with fail
                refine (laws_likeInts _ _ F[q] N _ hr' (hOy.now hBq).lst).mono ?_
                rintro e w9 ⟨rfl, hB9⟩
                rw [hdq]
                clear hdq
                go_wp2
                go_roundw
                case rel => exact ⟨q + 1, hlt2, by go_num, by rw [hcsH.out]; go_num, hBq.trans (hB9.mono hBq.size)⟩
                case measure => simp [intOf]; omega
              · have hdq : decide (F[q] = N) = false := decide_eq_false heq
                rw [if_neg heq] at hcs
                have hcsH := Lib.hid hcs
                clear heq hcs
                obtain ⟨C, hC⟩ : ∃ C, cntL F N q = C := ⟨_, rfl⟩
                rw [hC] at hcsH hcl ⊢
                clear hC
                go_wp2_with fail
                refine (laws_likeInts _ _ F[q] N _ hr' (hOy.now hBq).lst).mono ?_
                rintro e w9 ⟨rfl, hB9⟩
                rw [hdq]
                clear hdq
                go_wp2
                go_roundw
                case rel => exact ⟨q + 1, hlt2, by go_num, by rw [hcsH.out]; go_num, hBq.trans (hB9.mono hBq.size)⟩
                case measure => simp [intOf]; omega
            · obtain rfl : q = F.length := by omega
              rw [f2H.out]
              go_wp2
              go_roundw
              case rel => exact ⟨k + 1, hlt, by go_num, hBr.trans (hBq.mono hBr.size)⟩
              case measure => simp [intOf]; omega
        · obtain rfl : k = E.length := by omega
          go_wp2
          go_ret
          exact ⟨rfl, hB.trans (hBr.mono hB.size)⟩
    · have hq2 : (cd != 0) = true := by simpa using hc0
      clear hc0
      go_wp2
      go_ret
      exact ⟨rfl, hB⟩
theorem FnReachable_own : ownKnob Try.prog.godebug = none := by kernel_rfl
theorem FnReachable_laidOut : laidOutB Try.prog = true := by kernel_rfl
set_option maxRecDepth 100000 in
theorem FnReachable_lifted (os : Os) (started : os.Started) (H : Type) (enc : TypeId × Value → H) :
    ReturnsInHanded {} Try.checked os 3 .any (Rows.fnReachableSpec.pre6 enc Try.prog Try.f3 Rows.fnReachableRow.domain false) (Rows.fnReachableSpec.post enc Try.prog Try.f3 false true false false) := by
  refine returnsInHanded_of_change (C := Try.checked) FnReachable_own started (by kernel_rfl) Try.func3
    (ChangeSpec.witness6 (enc := enc) (C := Try.checked) false ⟨#[], #[.slice none 0 0], []⟩ 8 (by kernel_rfl) (by kernel_rfl) (by kernel_rfl) (by kernel_rfl)) ?_
  intro W base args ds gs before hval0 hW hcnd _
  have hval : ∀ (j : Nat) t v, Try.f3.params[j]? = some t → args[j]? = some v → Value.okWide Try.prog W .any base t v := hval0
  have hW' := hW
  obtain ⟨p, q, hA0, hV, rfl, hfz, hnd⟩ := hW
  have hA : DataW.TrodAll enc Try.prog W 0 (fun _ => true) true Try.f3.params.toList args.toList ds p := hA0
  rw [Try.params3] at hA hval
  obtain ⟨v0, vs0, d0, ds0, p0, q0, hargs, rfl, rfl, h0, r0⟩ := trodAll_cons hA
  obtain ⟨rfl, rfl, rfl⟩ := trodAll_nil r0
  obtain rfl : args = #[v0] := by cases args; simp_all
  obtain ⟨rfl, rfl⟩ := trodVars_none hV
  have k0 := h0
  have lt0 : ∀ x ∈ p0, x.block < W.heap.size := by obtain ⟨m, hm⟩ := k0; exact DataW.trod_lt m _ _ _ hm
  obtain ⟨A0, n0, c0, rfl⟩ := okWide_slice Try.underlying22 (hval 0 22 v0 rfl rfl)
  obtain ⟨fuel0, hf0⟩ := h0
  obtain ⟨l0, a0, o0⟩ := open_bytes Try.underlying22 Try.underlying5 (by kernel_rfl) (show DataW.trod enc Try.prog W 0 (fun _ => true) true fuel0 22 [_] = _ by simpa [Value.cells] using hf0)
  clear hA0 hval0
  refine (law_FnReachable _ _ W a0 o0).mono fun e W' ⟨he, bel⟩ => ?_
  subst he
  exact ⟨_, rfl, _, _, _, [], _, [], hW', trodAll_mk1 (shut_bool Try.underlying4 _), (trodAll_cons_mk (Below.trod FnReachable_laidOut (by kernel_rfl) (of_decide_eq_true (by kernel_rfl)) k0 bel lt0) trodAll_mk0), rfl, bel.frame _, fun h => by cases h⟩
theorem FnReachable_over : Rows.fnReachableRow.holds Try.pinned (OpenSpec.ofChange Rows.fnReachableSpec) :=
  OpenClaim.holds_of_wide 3 Try.f3 rfl rfl rfl rfl rfl rfl rfl ⟨rfl, rfl, rfl, rfl, rfl⟩ rfl rfl rfl rfl rfl (by kernel_rfl) Try.func3 (by kernel_rfl)
    (of_decide_eq_true (by kernel_rfl)) (by unfold Func.isWrapper; first | (rw [if_pos (by decide +kernel)]; kernel_rfl) | (rw [if_neg (by decide +kernel)]; exact ⟨rfl, rfl⟩))
    (fun os started H enc _ => FnReachable_lifted os started H enc)
/-- The given statement. -/
theorem FnReachable_proved : Rows.FnReachableSaid := FnReachable_over
end Go.Proofs.Ythamppcpjmnnkaa
