/-
  The walks of (*impl.compiler).line and impl.CompileText.
-/
import Derived.Test.YtcoomogabicfnaaGreatDoorLin
namespace Go.Proofs.YtcoomogabicfnaaGreatDoor
open Go.RowKit
set_option linter.unusedVariables false
set_option linter.unusedSimpArgs false
/-- The compiler's own variable: events, places, names. -/
structure Cmp (w : World) (base g : Nat) (ev : Int) (A B : Value) (N : List ByteArray) (G : List Place) : Prop where
  hg : base ≤ g
  box : Blk w g 65 #[.int .i64 ev, A, B]
  pls : Own Place.cells 4 57 w base A G
  nms : Own strCell 1 9 w base B N
theorem Cmp.now {w w' : World} {base g : Nat} {ev : Int} {A B : Value} {N : List ByteArray} {G : List Place} (h : Cmp w base g ev A B N G) (hb : Below w.heap.size w w') : Cmp w' base g ev A B N G :=
  ⟨h.hg, h.box.now hb, h.pls.now hb, h.nms.now hb⟩
theorem Cmp.addP {w w' : World} {base g : Nat} {ev : Int} {A B A' : Value} {N : List ByteArray} {G G' : List Place} (h : Cmp w base g ev A B N G) (hG : w.grownBy w' A.ownBlock) (hO : Own Place.cells 4 57 w' base A' G') :
    Cmp (w'.setCell ⟨g, 1, none⟩ A') base g ev A' B N G' := by
  have hb := h.box.grown hG (fun e => h.pls.ne_blk h.box (by decide) e.symm)
  have hn := own_kept h.nms hG (own_apart h.nms h.pls (by decide))
  exact ⟨h.hg, by simpa using hb.set_ 1 A', own_far hO (hO.ne_blk hb (by decide)) _, own_far hn (hn.ne_blk hb (by decide)) _⟩
theorem Cmp.addN {w w' : World} {base g : Nat} {ev : Int} {A B B' : Value} {N N' : List ByteArray} {G : List Place} (h : Cmp w base g ev A B N G) (hG : w.grownBy w' B.ownBlock) (hO : Own strCell 1 9 w' base B' N') :
    Cmp (w'.setCell ⟨g, 2, none⟩ B') base g ev A B' N' G := by
  have hb := h.box.grown hG (fun e => h.nms.ne_blk h.box (by decide) e.symm)
  have hp := own_kept h.pls hG (own_apart h.pls h.nms (by decide))
  exact ⟨h.hg, by simpa using hb.set_ 2 B', own_far hp (hp.ne_blk hb (by decide)) _, own_far hO (hO.ne_blk hb (by decide)) _⟩
theorem Cmp.setE {w : World} {base g : Nat} {ev : Int} {A B : Value} {N : List ByteArray} {G : List Place} (h : Cmp w base g ev A B N G) (x : Int) :
    Cmp (w.setCell ⟨g, 0, none⟩ (.int .i64 x)) base g x A B N G :=
  ⟨h.hg, by simpa using h.box.set_ 0 (.int .i64 x), own_far h.pls (h.pls.ne_blk h.box (by decide)) _, own_far h.nms (h.nms.ne_blk h.box (by decide)) _⟩
theorem step_range {N : List ByteArray} {G : List Place} {x : ByteArray} {ns : List ByteArray} {d t : Int} (h : 1000 < d ∨ 5 < t) : stepF N G x ns d t = (2, N, G) := by unfold stepF; rw [if_pos h]
theorem step_has {N : List ByteArray} {G : List Place} {n0 : ByteArray} {d t : Int} (h : ¬ (1000 < d ∨ 5 < t)) (h1 : 0 ≤ findStr N n0) : stepF N G wStation [n0] d t = (5, N, G) := by
  unfold stepF; rw [if_neg h, if_pos rfl, if_pos (by exact h1)]
theorem step_full {N : List ByteArray} {G : List Place} {n0 : ByteArray} {d t : Int} (h : ¬ (1000 < d ∨ 5 < t)) (h1 : ¬ 0 ≤ findStr N n0) (h2 : N.length = 10 ∨ G.length = 30) : stepF N G wStation [n0] d t = (3, N, G) := by
  unfold stepF; rw [if_neg h, if_pos rfl, if_neg (by exact h1), if_pos h2]
theorem step_new {N : List ByteArray} {G : List Place} {n0 : ByteArray} {d t : Int} (h : ¬ (1000 < d ∨ 5 < t)) (h1 : ¬ 0 ≤ findStr N n0) (h2 : ¬ (N.length = 10 ∨ G.length = 30)) : stepF N G wStation [n0] d t = (0, N ++ [n0], G ++ [⟨N.length, N.length, d, t⟩]) := by
  unfold stepF; rw [if_neg h, if_pos rfl, if_neg (by exact h1), if_neg h2]; rfl
theorem step_unk {N : List ByteArray} {G : List Place} {x n0 n1 : ByteArray} {d t : Int} (h : ¬ (1000 < d ∨ 5 < t)) (hx : ¬ x = wStation) (h1 : findStr N n0 < 0 ∨ findStr N n1 < 0) : stepF N G x [n0, n1] d t = (4, N, G) := by
  unfold stepF; rw [if_neg h, if_neg hx, if_pos (by exact h1)]
theorem step_full2 {N : List ByteArray} {G : List Place} {x n0 n1 : ByteArray} {d t : Int} (h : ¬ (1000 < d ∨ 5 < t)) (hx : ¬ x = wStation) (h1 : ¬ (findStr N n0 < 0 ∨ findStr N n1 < 0)) (h2 : G.length = 30) : stepF N G x [n0, n1] d t = (3, N, G) := by
  unfold stepF; rw [if_neg h, if_neg hx, if_neg (by exact h1), if_pos h2]
theorem step_add {N : List ByteArray} {G : List Place} {x n0 n1 : ByteArray} {d t : Int} (h : ¬ (1000 < d ∨ 5 < t)) (hx : ¬ x = wStation) (h1 : ¬ (findStr N n0 < 0 ∨ findStr N n1 < 0)) (h2 : ¬ G.length = 30) : stepF N G x [n0, n1] d t = (0, N, G ++ [placeF x (findStr N n0) (findStr N n1) d t]) := by
  unfold stepF; rw [if_neg h, if_neg hx, if_neg (by exact h1), if_neg h2]; rfl
/-- The kinds of line, their names and numbers told one by one. -/
theorem words_cases {ws ns : List ByteArray} {xs : List Int} (h : wordsF ws = some (ns, xs)) : (∀ x ∈ xs, 0 ≤ x ∧ x ≤ 9999999999) ∧ ((ws.headD ⟨#[]⟩ = wStation ∧ ∃ n0 a b, ns = [n0] ∧ xs = [a, b]) ∨ (ws.headD ⟨#[]⟩ = wCart ∧ ∃ n0 n1 a b, ns = [n0, n1] ∧ xs = [a, b])
    ∨ (ws.headD ⟨#[]⟩ = wMove ∧ ∃ n0 n1 a, ns = [n0, n1] ∧ xs = [a]) ∨ (ws.headD ⟨#[]⟩ = wBuffer ∧ ∃ n0 n1 a, ns = [n0, n1] ∧ xs = [a])) := by
  obtain ⟨m, n, hf, _, _, _, hl, hx, _, hr⟩ := wordsF_some h
  refine ⟨hr, ?_⟩
  have one : ∀ {α : Type} {l : List α}, l.length = 1 → ∃ a, l = [a] := fun {α l} h => by
    match l, h with
    | [a], _ => exact ⟨a, rfl⟩
  have two : ∀ {α : Type} {l : List α}, l.length = 2 → ∃ a b, l = [a, b] := fun {α l} h => by
    match l, h with
    | [a, b], _ => exact ⟨a, b, rfl⟩
  rcases formF_cases hf with ⟨hw, rfl, rfl⟩ | ⟨hw, rfl, rfl⟩ | ⟨hw, rfl, rfl⟩ | ⟨hw, rfl, rfl⟩
  · obtain ⟨a, rfl⟩ := one hl
    obtain ⟨b, c, rfl⟩ := two hx
    exact .inl ⟨hw, _, _, _, rfl, rfl⟩
  · obtain ⟨a, b, rfl⟩ := two hl
    obtain ⟨c, rfl⟩ := one hx
    exact .inr (.inr (.inl ⟨hw, _, _, _, rfl, rfl⟩))
  · obtain ⟨a, b, rfl⟩ := two hl
    obtain ⟨c, d, rfl⟩ := two hx
    exact .inr (.inl ⟨hw, _, _, _, _, rfl, rfl⟩)
  · obtain ⟨a, b, rfl⟩ := two hl
    obtain ⟨c, rfl⟩ := one hx
    exact .inr (.inr (.inr ⟨hw, _, _, _, rfl, rfl⟩))
theorem lineF_none {N : List ByteArray} {G : List Place} {s : ByteArray} (h : wordsF (splitF 32 s) = none) : lineF N G s = (6, N, G) := by unfold lineF; rw [h]
theorem lineF_some {N : List ByteArray} {G : List Place} {s : ByteArray} {ns : List ByteArray} {xs : List Int} {x : ByteArray} (h : wordsF (splitF 32 s) = some (ns, xs)) (hx : (splitF 32 s).headD ⟨#[]⟩ = x) : lineF N G s = stepF N G x ns (delayF x xs) (tokF x xs) := by unfold lineF; rw [h, hx]
theorem dl_Station (a b : Int) : delayF wStation [a, b] = a ∧ tokF wStation [a, b] = b := ⟨by unfold delayF; rw [if_neg (by decide)]; rfl, by unfold tokF; rw [if_neg (by decide)]; rfl⟩
theorem dl_Cart (a b : Int) : delayF wCart [a, b] = a ∧ tokF wCart [a, b] = b := ⟨by unfold delayF; rw [if_neg (by decide)]; rfl, by unfold tokF; rw [if_neg (by decide)]; rfl⟩
theorem dl_Move (a : Int) : delayF wMove [a] = a ∧ tokF wMove [a] = 0 := ⟨by unfold delayF; rw [if_neg (by decide)]; rfl, by unfold tokF; rw [if_pos rfl]⟩
theorem dl_Buffer (a : Int) : delayF wBuffer [a] = 0 ∧ tokF wBuffer [a] = a := ⟨by unfold delayF; rw [if_pos rfl], by unfold tokF; rw [if_neg (by decide)]; rfl⟩
set_option maxHeartbeats 16000000 in
set_option maxRecDepth 100000 in
theorem impl_line (g base : Nat) (A B : Value) (N : List ByteArray) (G : List Place) (s : ByteArray) (w : World) (hC : Cmp w base g N.length A B N G) (hl10 : N.length ≤ 10) (hl30 : G.length ≤ 30) (hs : s.size ≤ 100000000) (hE : Env w) :
    Calls Tryz.prog 37 #[.pointer (some ⟨g, 0, none⟩), .string s] w fun r w' => r = .returned (.int .i64 (lineF N G s).1) ∧ (∃ A' B', Cmp w' base g (lineF N G s).2.1.length A' B' (lineF N G s).2.1 (lineF N G s).2.2) ∧ Below base w w' := by
  obtain ⟨R, hR⟩ : ∃ R, lineF N G s = R := ⟨_, rfl⟩
  rw [hR]
  have hR := Lib.hid hR
  obtain ⟨PA, pc, rfl⟩ := hC.pls.shape
  obtain ⟨NA, nc, rfl⟩ := hC.nms.shape
  have hBk := Lib.hid fun k (e : (Value.slice NA N.length nc).ownBlock = some k) => (hC.nms.lt k e).2
  have hgw := hC.box.lt
  have hgb := hC.hg
  have hbw : base ≤ w.heap.size := by omega
  have hWs := split_size 32 s
  have hWn := splitF_ne 32 s
  go_enter Tryz.func37, Tryz.ntmps37
  go_wp2_with fail
  refine (strings_Split s 32 _ hs hE).mono ?_
  rintro e w1 ⟨uw, rfl, hW, hB1⟩
  have hlin := lineF_none (N := N) (G := G) (s := s)
  have hlis := fun ns xs => lineF_some (N := N) (G := G) (s := s) (ns := ns) (xs := xs) (x := (splitF 32 s).headD ⟨#[]⟩)
  generalize splitF 32 s = W at *
  obtain ⟨WA, wc, rfl⟩ := hW.shape
  replace hC := hC.now hB1
  go_wp2_with fail
  refine (impl_readLine _ W _ hW.lst hWn (fun x hx => Nat.le_trans (hWs x hx) hs) (hE.now hB1)).mono ?_
  rintro e w2 ⟨u, q, rfl, hU, hQ, hB2, hFr⟩
  replace hW := hW.now hB2
  replace hC := hC.now hB2
  replace hQ := hQ.rebase hB1.size
  replace hB2 := hB1.trans (hB2.mono hB1.size)
  have hB3 := hB2.mono hbw
  clear hB1 hWs
  cases hww : wordsF W with
  | none =>
    have hN := Lib.hid ((hlin hww).symm.trans hR.out)
    clear hww hlin hlis hR
    go_wp2
    go_ret
    exact ⟨by rw [← hN.out]; rfl, by rw [← hN.out]; exact ⟨_, _, hC⟩, hB3⟩
  | some p =>
    obtain ⟨ns, xs⟩ := p
    have hst := (hlis ns xs hww (by trivial)).symm.trans hR.out
    obtain ⟨hxr, hcs⟩ := words_cases hww
    rw [hww] at hU hQ
    obtain ⟨W0, hW0⟩ : ∃ x, W.headD ⟨#[]⟩ = x := ⟨_, rfl⟩
    rw [hW0] at hst hcs
    have hpos : 0 < W.length := List.length_pos_iff.2 hWn
    have hW00 : W[0] = W0 := by rw [← hW0]; cases W with | nil => exact absurd rfl hWn | cons a l => rfl
    obtain ⟨wb, wo, rfl, hwb, cw⟩ := strs_at hW.lst 0 hpos
    rw [hW00, Nat.add_zero] at cw
    clear hww hlin hlis hR hW00 hW0
    have hwbw := (hW.lt wb rfl).1
    have hBw2 := hB2.size
    obtain ⟨UA, uc, rfl⟩ := hU.shape
    obtain ⟨QA, qc, rfl⟩ := hQ.shape
    dsimp only [Option.getD] at hU hQ hFr
    have hw1 : IntKind.i64.wrap 1 = 1 := by decide
    have hw0 : IntKind.i64.wrap 0 = 0 := by decide
    rcases hcs with ⟨hk, n0, d0, l0, hns, hxs⟩ | ⟨hk, n0, n1, d0, l0, hns, hxs⟩ | ⟨hk, n0, n1, d0, hns, hxs⟩ | ⟨hk, n0, n1, d0, hns, hxs⟩
    · skip
      subst hns
      subst hxs
      subst hk
      obtain ⟨qb, qo, hqa, hqb, z0⟩ := ints_at hQ.lst 0 (by simp)
      rw [Nat.add_zero] at z0
      obtain ⟨qb', qo', hqa', _, z1⟩ := ints_at hQ.lst 1 (by simp)
      rw [hqa] at hqa'
      cases hqa'
      obtain ⟨ub, uo, hua, hub, y0⟩ := strs_at hU 0 (by simp)
      rw [Nat.add_zero] at y0
      replace y0 : w2.cell? ⟨ub, uo, none⟩ = some (.string n0) := y0
      subst hqa
      subst hua
      replace z0 : w2.cell? ⟨qb, qo, none⟩ = some (.int .i64 d0) := z0
      replace z1 : w2.cell? ⟨qb, qo + 1, none⟩ = some (.int .i64 l0) := z1
      have hubw : w.heap.size ≤ ub := by
        rcases hFr with h | ⟨b1, o1, n1, c1, o2, n2, c2, h1, h2⟩
        · cases h
        · cases h1
          cases h2
          exact hwbw
      have hrd := hxr d0 (by simp)
      have hrl := hxr l0 (by simp)
      rw [(dl_Station d0 l0).1, (dl_Station d0 l0).2] at hst
      replace hst := Lib.hid hst
      have iW : (0 : Int) < (W.length : Int) := by omega
      clear hxr hFr hwbw hpos hWn hB2
      have eMove : (wStation.toList == [109, 111, 118, 101]) = false := by decide +kernel
      have eBuffer : (wStation.toList == [98, 117, 102, 102, 101, 114]) = false := by decide +kernel
      have eStation : (wStation.toList == [115, 116, 97, 116, 105, 111, 110]) = true := by decide +kernel
      go_wp2
      refine wp_region_held_drew (S := fun w' => w'.cell? ⟨qb, qo, none⟩ = some (.int .i64 d0) ∧ w'.cell? ⟨qb, qo + 1, none⟩ = some (.int .i64 l0)) (by kernel_rfl) ⟨z0, z1⟩ (fun hH => ?_)
      refine tkH 0 (v := ?_) rfl (fun _ _ _ h => h) (Or.inl ⟨by rfl, ?_⟩) hH ?_
      rotate_left
      · intro w9 hSw
        try dsimp only at hSw
        obtain ⟨s0, s1⟩ := hSw
        go_simp
        try with_reducible rfl
      try simp only [Act.put, List.setIfInBounds_toArray, List.set_cons_zero, List.set_cons_succ]
      refine tkH 1 (v := ?_) rfl (fun _ _ _ h => h) (Or.inl ⟨by rfl, ?_⟩) hH ?_
      rotate_left
      · intro w9 hSw
        try dsimp only at hSw
        obtain ⟨s0, s1⟩ := hSw
        go_simp
        try with_reducible rfl
      try simp only [Act.put, List.setIfInBounds_toArray, List.set_cons_zero, List.set_cons_succ]
      refine tkH 2 (v := ?_) rfl (fun _ _ _ h => h) (Or.inl ⟨by rfl, ?_⟩) hH ?_
      rotate_left
      · intro w9 hSw
        try dsimp only at hSw
        obtain ⟨s0, s1⟩ := hSw
        go_simp
        try with_reducible rfl
      try simp only [Act.put, List.setIfInBounds_toArray, List.set_cons_zero, List.set_cons_succ]
      refine tkH 3 (v := ?_) rfl (fun _ _ _ h => h) (Or.inl ⟨by rfl, ?_⟩) hH ?_
      rotate_left
      · intro w9 hSw
        try dsimp only at hSw
        obtain ⟨s0, s1⟩ := hSw
        go_simp
        try with_reducible rfl
      try simp only [Act.put, List.setIfInBounds_toArray, List.set_cons_zero, List.set_cons_succ]
      refine tkH 4 (v := ?_) rfl (fun _ _ _ h => h) (Or.inl ⟨by rfl, ?_⟩) hH ?_
      rotate_left
      · intro w9 hSw
        try dsimp only at hSw
        obtain ⟨s0, s1⟩ := hSw
        go_simp
        try with_reducible rfl
      try simp only [Act.put, List.setIfInBounds_toArray, List.set_cons_zero, List.set_cons_succ]
      refine tkH 5 (v := ?_) rfl (fun _ _ _ h => h) (Or.inl ⟨by rfl, ?_⟩) hH ?_
      rotate_left
      · intro w9 hSw
        try dsimp only at hSw
        obtain ⟨s0, s1⟩ := hSw
        go_simp
        try with_reducible rfl
      try simp only [Act.put, List.setIfInBounds_toArray, List.set_cons_zero, List.set_cons_succ]
      refine tkH 6 (v := ?_) rfl (fun _ _ _ h => h) (Or.inl ⟨by rfl, ?_⟩) hH ?_
      rotate_left
      · intro w9 hSw
        try dsimp only at hSw
        obtain ⟨s0, s1⟩ := hSw
        go_simp
        try with_reducible rfl
      try simp only [Act.put, List.setIfInBounds_toArray, List.set_cons_zero, List.set_cons_succ]
      refine tkH 7 (v := ?_) rfl (fun _ _ _ h => h) (Or.inl ⟨by rfl, ?_⟩) hH ?_
      rotate_left
      · intro w9 hSw
        try dsimp only at hSw
        obtain ⟨s0, s1⟩ := hSw
        go_simp
        try with_reducible rfl
      try simp only [Act.put, List.setIfInBounds_toArray, List.set_cons_zero, List.set_cons_succ]
      refine tkH 8 (v := ?_) rfl (fun _ _ _ h => h) (Or.inl ⟨by rfl, ?_⟩) hH ?_
      rotate_left
      · intro w9 hSw
        try dsimp only at hSw
        obtain ⟨s0, s1⟩ := hSw
        go_simp
        try with_reducible rfl
      try simp only [Act.put, List.setIfInBounds_toArray, List.set_cons_zero, List.set_cons_succ]
      refine tkH 9 (v := ?_) rfl (fun _ _ _ h => h) (Or.inl ⟨by rfl, ?_⟩) hH ?_
      rotate_left
      · intro w9 hSw
        try dsimp only at hSw
        obtain ⟨s0, s1⟩ := hSw
        go_simp
        try with_reducible rfl
      try simp only [Act.put, List.setIfInBounds_toArray, List.set_cons_zero, List.set_cons_succ]
      refine tkH 10 (v := ?_) rfl (fun _ _ _ h => h) (Or.inl ⟨by rfl, ?_⟩) hH ?_
      rotate_left
      · intro w9 hSw
        try dsimp only at hSw
        obtain ⟨s0, s1⟩ := hSw
        go_simp
        try with_reducible rfl
      try simp only [Act.put, List.setIfInBounds_toArray, List.set_cons_zero, List.set_cons_succ]
      refine wpAnyH_done (by kernel_rfl) ?_ _
      have hBd : Below w2.heap.size w2 w2.drew := Below.drew (Below.refl _ _)
      replace hC := hC.now hBd
      replace hB3 := hB3.trans (hBd.mono (Nat.le_trans hbw hBw2))
      replace cw : w2.drew.cell? _ = _ := cw
      replace y0 : w2.drew.cell? _ = _ := y0
      replace hub : ub < w2.drew.heap.size := hub
      replace hwb : wb < w2.drew.heap.size := hwb
      replace hBw2 : w.heap.size ≤ w2.drew.heap.size := hBw2
      clear hH z0 hqb hQ hU hW hBd z1
      generalize w2.drew = X at *
      have hbX : base ≤ X.heap.size := Nat.le_trans hbw hBw2
      by_cases hd1 : 1000 < d0
      · have hN := Lib.hid ((step_range (.inl hd1)).symm.trans hst.out)
        go_wp2
        go_ret
        exact ⟨by rw [← hN.out]; rfl, by rw [← hN.out]; exact ⟨_, _, hC⟩, hB3⟩
      · skip
        by_cases ht1 : 5 < l0
        · have hN := Lib.hid ((step_range (.inr ht1)).symm.trans hst.out)
          go_wp2
          go_ret
          exact ⟨by rw [← hN.out]; rfl, by rw [← hN.out]; exact ⟨_, _, hC⟩, hB3⟩
        · skip
          have hsm : Hid (¬ (1000 < d0 ∨ 5 < l0)) := by show ¬ _; omega
          go_wp2
          have hXd : Below X.heap.size X X.drew := Below.drew (Below.refl _ _)
          obtain ⟨k0, k1, k2⟩ := hC.box.c3
          have hNl := (hC.now hXd).nms.lst
          have hct := slices_Contains_str _ N n0 _ hNl
          obtain ⟨T, hT⟩ : ∃ T, decide (0 ≤ findStr N n0) = T := ⟨_, rfl⟩
          rw [hT] at hct
          refine wp_region_held_drew (S := fun w' => w'.cell? ⟨g, 2, none⟩ = some (.slice NA N.length nc) ∧ w'.cell? ⟨ub, uo, none⟩ = some (.string n0)) (by kernel_rfl) ⟨k2, y0⟩ (fun hH => ?_)
          refine tkH 0 (v := ?_) rfl (fun _ _ _ h => h) (Or.inl ⟨by rfl, ?_⟩) hH ?_
          rotate_left
          · intro w9 hSw
            try dsimp only at hSw
            obtain ⟨s0, s1⟩ := hSw
            go_simp
            try with_reducible rfl
          try simp only [Act.put, List.setIfInBounds_toArray, List.set_cons_zero, List.set_cons_succ]
          refine tkH 1 (v := ?_) rfl (fun _ _ _ h => h) (Or.inl ⟨by rfl, ?_⟩) hH ?_
          rotate_left
          · intro w9 hSw
            try dsimp only at hSw
            obtain ⟨s0, s1⟩ := hSw
            go_simp
            try with_reducible rfl
          try simp only [Act.put, List.setIfInBounds_toArray, List.set_cons_zero, List.set_cons_succ]
          refine tkH 2 (v := ?_) rfl (fun _ _ _ h => h) (Or.inl ⟨by rfl, ?_⟩) hH ?_
          rotate_left
          · intro w9 hSw
            try dsimp only at hSw
            obtain ⟨s0, s1⟩ := hSw
            go_simp
            try with_reducible rfl
          try simp only [Act.put, List.setIfInBounds_toArray, List.set_cons_zero, List.set_cons_succ]
          refine tkH 3 (v := ?_) rfl (fun _ _ _ h => h) (Or.inl ⟨by rfl, ?_⟩) hH ?_
          rotate_left
          · intro w9 hSw
            try dsimp only at hSw
            obtain ⟨s0, s1⟩ := hSw
            go_simp
            try with_reducible rfl
          try simp only [Act.put, List.setIfInBounds_toArray, List.set_cons_zero, List.set_cons_succ]
          refine tkH 4 (v := ?_) rfl (fun _ _ _ h => h) (Or.inl ⟨by rfl, ?_⟩) hH ?_
          rotate_left
          · intro w9 hSw
            try dsimp only at hSw
            obtain ⟨s0, s1⟩ := hSw
            go_simp
            try with_reducible rfl
          try simp only [Act.put, List.setIfInBounds_toArray, List.set_cons_zero, List.set_cons_succ]
          refine tkH 5 (v := ?_) rfl (fun _ _ _ h => h) (Or.inl ⟨by rfl, ?_⟩) hH ?_
          rotate_left
          · intro w9 hSw
            try dsimp only at hSw
            obtain ⟨s0, s1⟩ := hSw
            go_simp
            try with_reducible rfl
          try simp only [Act.put, List.setIfInBounds_toArray, List.set_cons_zero, List.set_cons_succ]
          refine tkH 6 (v := ?_) rfl (fun _ _ _ h => h) (Or.inl ⟨by rfl, ?_⟩) hH ?_
          rotate_left
          · intro w9 hSw
            try dsimp only at hSw
            obtain ⟨s0, s1⟩ := hSw
            go_simp
            try with_reducible rfl
          try simp only [Act.put, List.setIfInBounds_toArray, List.set_cons_zero, List.set_cons_succ]
          refine wpAnyH_ready (rs := [7]) (by kernel_rfl) (by simp) ?_
          refine AllReadyH.cons rfl (fun K hK => ?_) AllReadyH.nil
          go_simp
          go_at_call 22
          refine hct.mono ?_
          rintro e w8 ⟨rfl, rfl⟩
          refine hK.out _ _ ⟨k2, y0⟩ (fun hH => ?_)
          clear hK K
          try simp only [Act.put, List.setIfInBounds_toArray, List.set_cons_zero, List.set_cons_succ]
          refine wpAnyH_done (by kernel_rfl) ?_ _
          replace hC := hC.now hXd
          replace hB3 := hB3.trans (hXd.mono hbX)
          replace cw : X.drew.cell? _ = _ := cw
          replace y0 : X.drew.cell? _ = _ := y0
          replace hub : ub < X.drew.heap.size := hub
          replace hwb : wb < X.drew.heap.size := hwb
          replace hBw2 : w.heap.size ≤ X.drew.heap.size := hBw2
          clear hH hXd hNl hct k0 k1 k2
          generalize X.drew = Y at *
          have hbY : base ≤ Y.heap.size := Nat.le_trans hbw hBw2
          by_cases hf : 0 ≤ findStr N n0
          · obtain rfl : T = true := by rw [← hT]; simpa using hf
            have hN := Lib.hid ((step_has hsm.out hf).symm.trans hst.out)
            go_wp2
            go_ret
            exact ⟨by rw [← hN.out]; rfl, by rw [← hN.out]; exact ⟨_, _, hC⟩, hB3⟩
          · skip
            obtain rfl : T = false := by rw [← hT]; simpa using hf
            obtain ⟨k0, k1, k2⟩ := hC.box.c3
            have l0' := hC.box.lt
            by_cases h10 : N.length = 10
            · have hq : ((N.length : Int) == 10) = true := by simp; omega
              have hN := Lib.hid ((step_full hsm.out hf (.inl h10)).symm.trans hst.out)
              go_wp2
              go_ret
              exact ⟨by rw [← hN.out]; rfl, by rw [← hN.out]; exact ⟨_, _, hC⟩, hB3⟩
            · skip
              have hq : ((N.length : Int) == 10) = false := by simp; omega
              by_cases h30 : G.length = 30
              · have hq3 : ((G.length : Int) == 30) = true := by simp; omega
                have hN := Lib.hid ((step_full hsm.out hf (.inr h30)).symm.trans hst.out)
                go_wp2
                go_ret
                exact ⟨by rw [← hN.out]; rfl, by rw [← hN.out]; exact ⟨_, _, hC⟩, hB3⟩
              · skip
                have hq3 : ((G.length : Int) == 30) = false := by simp; omega
                have hN := Lib.hid ((step_new hsm.out hf (by omega)).symm.trans hst.out)
                have hXd : Below Y.heap.size Y Y.drew := Below.drew (Below.refl _ _)
                have hLL : Hid ((N ++ [n0]).length = N.length + 1) := by show _ = _; simp
                have hLG : Hid ((G ++ [(⟨N.length, N.length, d0, l0⟩ : Place)]).length = G.length + 1) := by show _ = _; simp
                go_wp2
                refine wp_region_E (fun w' => w'.cell? ⟨g, 2, none⟩ = some (.slice NA N.length nc) ∧ w'.cell? ⟨ub, uo, none⟩ = some (.string n0)) 12 (by kernel_rfl) ?_
                have hS0 : (fun w' : World => w'.cell? ⟨g, 2, none⟩ = some (.slice NA N.length nc) ∧ w'.cell? ⟨ub, uo, none⟩ = some (.string n0)) Y.drew := ⟨k2, y0⟩
                clear hS0
                replace hC := hC.now hXd
                replace hB3 := hB3.trans (hXd.mono hbY)
                replace y0 : Y.drew.cell? _ = _ := y0
                replace hbY : base ≤ Y.drew.heap.size := hbY
                clear k0 k1 k2 l0' hXd hub hwb cw
                generalize Y.drew = V0 at *
                have hS0 : (fun w' : World => w'.cell? ⟨g, 2, none⟩ = some (.slice NA N.length nc) ∧ w'.cell? ⟨ub, uo, none⟩ = some (.string n0)) V0 := ⟨hC.box.c3.2.2, y0⟩
                refine wpAnyE_take (i := 0) (v := ?_) rfl (by kernel_rfl) (by kernel_rfl) (by kernel_rfl) (by kernel_rfl) (by kernel_rfl) (fun _ _ _ h => h) hS0 (by rfl) ?_ ?_
                rotate_left
                · intro w9 hSw
                  try dsimp only at hSw
                  obtain ⟨s0, s1⟩ := hSw
                  go_simp
                  try with_reducible rfl
                try simp only [Act.put, List.setIfInBounds_toArray, List.set_cons_zero, List.set_cons_succ]
                refine wpAnyE_take (i := 1) (v := ?_) rfl (by kernel_rfl) (by kernel_rfl) (by kernel_rfl) (by kernel_rfl) (by kernel_rfl) (fun _ _ _ h => h) hS0 (by rfl) ?_ ?_
                rotate_left
                · intro w9 hSw
                  try dsimp only at hSw
                  obtain ⟨s0, s1⟩ := hSw
                  go_simp
                  try with_reducible rfl
                try simp only [Act.put, List.setIfInBounds_toArray, List.set_cons_zero, List.set_cons_succ]
                refine wpAnyE_take (i := 2) (v := ?_) rfl (by kernel_rfl) (by kernel_rfl) (by kernel_rfl) (by kernel_rfl) (by kernel_rfl) (fun _ _ _ h => h) hS0 (by rfl) ?_ ?_
                rotate_left
                · intro w9 hSw
                  try dsimp only at hSw
                  obtain ⟨s0, s1⟩ := hSw
                  go_simp
                  try with_reducible rfl
                try simp only [Act.put, List.setIfInBounds_toArray, List.set_cons_zero, List.set_cons_succ]
                refine wpAnyE_take (i := 3) (v := ?_) rfl (by kernel_rfl) (by kernel_rfl) (by kernel_rfl) (by kernel_rfl) (by kernel_rfl) (fun _ _ _ h => h) hS0 (by rfl) ?_ ?_
                rotate_left
                · intro w9 hSw
                  try dsimp only at hSw
                  obtain ⟨s0, s1⟩ := hSw
                  go_simp
                  try with_reducible rfl
                try simp only [Act.put, List.setIfInBounds_toArray, List.set_cons_zero, List.set_cons_succ]
                refine wpAnyE_take (i := 4) (v := ?_) rfl (by kernel_rfl) (by kernel_rfl) (by kernel_rfl) (by kernel_rfl) (by kernel_rfl) (fun _ _ _ h => h) hS0 (by rfl) ?_ ?_
                rotate_left
                · intro w9 hSw
                  try dsimp only at hSw
                  obtain ⟨s0, s1⟩ := hSw
                  go_simp
                  try with_reducible rfl
                try simp only [Act.put, List.setIfInBounds_toArray, List.set_cons_zero, List.set_cons_succ]
                refine wpAnyE_take (i := 5) (v := ?_) rfl (by kernel_rfl) (by kernel_rfl) (by kernel_rfl) (by kernel_rfl) (by kernel_rfl) (fun _ _ _ h => h) hS0 (by rfl) ?_ ?_
                rotate_left
                · intro w9 hSw
                  try dsimp only at hSw
                  obtain ⟨s0, s1⟩ := hSw
                  go_simp
                  try with_reducible rfl
                try simp only [Act.put, List.setIfInBounds_toArray, List.set_cons_zero, List.set_cons_succ]
                refine wpAnyE_take (i := 6) (v := ?_) rfl (by kernel_rfl) (by kernel_rfl) (by kernel_rfl) (by kernel_rfl) (by kernel_rfl) (fun _ _ _ h => h) hS0 (by rfl) ?_ ?_
                rotate_left
                · intro w9 hSw
                  try dsimp only at hSw
                  obtain ⟨s0, s1⟩ := hSw
                  go_simp
                  try with_reducible rfl
                try simp only [Act.put, List.setIfInBounds_toArray, List.set_cons_zero, List.set_cons_succ]
                refine wpAnyE_take (i := 7) (v := ?_) rfl (by kernel_rfl) (by kernel_rfl) (by kernel_rfl) (by kernel_rfl) (by kernel_rfl) (fun _ _ _ h => h) hS0 (by rfl) ?_ ?_
                rotate_left
                · intro w9 hSw
                  try dsimp only at hSw
                  obtain ⟨s0, s1⟩ := hSw
                  go_simp
                  try with_reducible rfl
                try simp only [Act.put, List.setIfInBounds_toArray, List.set_cons_zero, List.set_cons_succ]
                refine wpAnyE_one (i := 8) rfl (by kernel_rfl) (fun K hK => ?_)
                have hZ : Below V0.heap.size V0 (V0.alloc (.cells #[.string n0] 9)) := (Below.refl _ _).alloc (Nat.le_refl _) _
                have hLst := lst_new1 strCell 1 strCell_len V0 9 n0 _ rfl _ rfl
                replace hC := hC.now hZ
                replace y0 := cell_keep y0 hZ
                replace hB3 := hB3.trans (hZ.mono hbY)
                have hbZ : base ≤ (V0.alloc (.cells #[.string n0] 9)).heap.size := Nat.le_trans hbY hZ.size
                go_simp
                refine hK.out _ _ (fun _ => ⟨hC.box.c3.2.2, y0⟩) ?_
                clear hK K
                try simp only [Act.put, List.setIfInBounds_toArray, List.set_cons_zero, List.set_cons_succ]
                refine wpAnyE_one (i := 9) rfl (by kernel_rfl) (fun K hK => ?_)
                refine step_append_lst rfl _ _ 27 rfl strCell 1 strCell_one (by omega) base 9 _ 16 Tryz.underlying27 info_str rfl (.slice NA N.length nc) N rfl hC.nms _ _ _ _ [n0] rfl hLst (by simp; omega) (by omega) hbZ ?_
                intro v' w9 hO1 hG1 hD1
                obtain ⟨V1, cv1, rfl⟩ := own_shape_n hO1 hLL.out
                have hbx := hC.box.grown hG1 (fun e => hC.nms.ne_blk hC.box (by decide) e.symm)
                have u2 := hbx.c3.2.2
                have f2 := hbx.frozen 2
                have l9 := hbx.lt
                have uy := cell_kept y0 hG1 (fun e => by have := hBk.out _ e; simp only at this; omega)
                refine hK.out _ _ (fun _ => ⟨u2, uy⟩) ?_
                clear hK K
                try simp only [Act.put, List.setIfInBounds_toArray, List.set_cons_zero, List.set_cons_succ]
                refine wpAnyE_one (i := 10) rfl (by kernel_rfl) (fun K hK => ?_)
                go_simp
                refine hK.out _ _ (fun _ => ⟨u2, uy⟩) ?_
                clear hK K
                try simp only [Act.put, List.setIfInBounds_toArray, List.set_cons_zero, List.set_cons_succ]
                refine wpAnyE_one (i := 11) rfl (by kernel_rfl) (fun K hK => ?_)
                go_simp
                refine hK.out _ _ (fun _ => ⟨u2, uy⟩) ?_
                clear hK K
                try simp only [Act.put, List.setIfInBounds_toArray, List.set_cons_zero, List.set_cons_succ]
                refine wpAnyE_one (i := 12) rfl (by kernel_rfl) (fun K hK => ?_)
                go_simp
                refine hK.out _ _ (fun h => absurd rfl h) ?_
                clear hK K
                try simp only [Act.put, List.setIfInBounds_toArray, List.set_cons_zero, List.set_cons_succ]
                refine wpAnyE_done (by kernel_rfl) ?_
                replace hB3 := hB3.grown hG1 hbZ (fun j hj => (hC.nms.lt j hj).1)
                have hb9 : base ≤ w9.heap.size := Nat.le_trans hbZ hG1.size
                have hB4 := Below.setCell (p := ⟨g, 2, none⟩) hB3 hgb (.slice V1 (N.length + 1) cv1)
                have hC2 := hC.addN hG1 hO1
                have hb4 : base ≤ (w9.setCell ⟨g, 2, none⟩ (.slice V1 (N.length + 1) cv1)).heap.size := by simpa using hb9
                clear hC hB3 hO1 hG1 hD1 hbx u2 f2 l9 uy y0 hLst hbZ hbY hS0 hZ hb9
                generalize w9.setCell ⟨g, 2, none⟩ (.slice V1 (N.length + 1) cv1) = Z at *
                obtain ⟨k0, k1, k2⟩ := hC2.box.c3
                have f0 := hC2.box.frozen 0
                have l9 := hC2.box.lt
                have hC3 := hC2.setE ((N.length : Int) + 1)
                have hB5 := Below.setCell (p := ⟨g, 0, none⟩) hB4 hgb (.int .i64 ((N.length : Int) + 1))
                go_wp2_with (at_builtin; go_loud (refine wpList_append_lst rfl _ _ 24 rfl Place.cells 4 Place.cells_one (by omega) base 57 _ 32 Tryz.underlying24 info_place rfl (.slice PA G.length pc) G rfl (hC3.pls.alloc _) _ _ _ _ [(⟨(N.length : Int), (N.length : Int), d0, l0⟩ : Place)] rfl (lst_new1 Place.cells 4 Place.cells_len _ _ (⟨(N.length : Int), (N.length : Int), d0, l0⟩ : Place) _ rfl _ (by simp)) (by simp; omega) (by omega) (Nat.le_trans hb4 (by simp)) ?_; intro v' w9 hO1 hG1 hD1; obtain ⟨V2, cv2, rfl⟩ := own_shape_n hO1 hLG.out; have hbx := (hC3.box.alloc _).grown hG1 (fun e => hC3.pls.ne_blk hC3.box (by decide) e.symm); have f1 := hbx.frozen 1; have l9 := hbx.lt; have u1 := hbx.c3.2.1))
                skip
                have hC5 := (hC3.now ((Below.refl _ _).alloc (Nat.le_refl _) _)).addP hG1 hO1
                have hB6 := (hB5.alloc (Nat.le_trans hb4 (by simp)) _).grown hG1 (Nat.le_trans hb4 (by simp)) (fun j hj => (hC3.pls.lt j hj).1)
                have hB7 := Below.setCell (p := ⟨g, 1, none⟩) hB6 hgb (.slice V2 (G.length + 1) cv2)
                have eN : (((N ++ [n0]).length : Nat) : Int) = (N.length : Int) + 1 := by simp
                go_ret
                exact ⟨by rw [← hN.out]; rfl, by rw [← hN.out]; exact ⟨_, _, by show Cmp _ base g (((N ++ [n0]).length : Nat) : Int) _ _ _ _; rw [eN]; exact hC5⟩, hB7⟩
    · skip
      subst hns
      subst hxs
      subst hk
      obtain ⟨qb, qo, hqa, hqb, z0⟩ := ints_at hQ.lst 0 (by simp)
      rw [Nat.add_zero] at z0
      obtain ⟨qb', qo', hqa', _, z1⟩ := ints_at hQ.lst 1 (by simp)
      rw [hqa] at hqa'
      cases hqa'
      obtain ⟨ub, uo, hua, hub, y0⟩ := strs_at hU 0 (by simp)
      rw [Nat.add_zero] at y0
      replace y0 : w2.cell? ⟨ub, uo, none⟩ = some (.string n0) := y0
      obtain ⟨ub', uo', hua', _, y1⟩ := strs_at hU 1 (by simp)
      rw [hua] at hua'
      cases hua'
      replace y1 : w2.cell? ⟨ub, uo + 1, none⟩ = some (.string n1) := y1
      subst hqa
      subst hua
      replace z0 : w2.cell? ⟨qb, qo, none⟩ = some (.int .i64 d0) := z0
      replace z1 : w2.cell? ⟨qb, qo + 1, none⟩ = some (.int .i64 l0) := z1
      have hubw : w.heap.size ≤ ub := by
        rcases hFr with h | ⟨b1, o1, n1, c1, o2, n2, c2, h1, h2⟩
        · cases h
        · cases h1
          cases h2
          exact hwbw
      have hrd := hxr d0 (by simp)
      have hrl := hxr l0 (by simp)
      rw [(dl_Cart d0 l0).1, (dl_Cart d0 l0).2] at hst
      replace hst := Lib.hid hst
      have iW : (0 : Int) < (W.length : Int) := by omega
      clear hxr hFr hwbw hpos hWn hB2
      have eMove : (wCart.toList == [109, 111, 118, 101]) = false := by decide +kernel
      have eBuffer : (wCart.toList == [98, 117, 102, 102, 101, 114]) = false := by decide +kernel
      have eStation : (wCart.toList == [115, 116, 97, 116, 105, 111, 110]) = false := by decide +kernel
      go_wp2
      refine wp_region_held_drew (S := fun w' => w'.cell? ⟨qb, qo, none⟩ = some (.int .i64 d0) ∧ w'.cell? ⟨qb, qo + 1, none⟩ = some (.int .i64 l0)) (by kernel_rfl) ⟨z0, z1⟩ (fun hH => ?_)
      refine tkH 0 (v := ?_) rfl (fun _ _ _ h => h) (Or.inl ⟨by rfl, ?_⟩) hH ?_
      rotate_left
      · intro w9 hSw
        try dsimp only at hSw
        obtain ⟨s0, s1⟩ := hSw
        go_simp
        try with_reducible rfl
      try simp only [Act.put, List.setIfInBounds_toArray, List.set_cons_zero, List.set_cons_succ]
      refine tkH 1 (v := ?_) rfl (fun _ _ _ h => h) (Or.inl ⟨by rfl, ?_⟩) hH ?_
      rotate_left
      · intro w9 hSw
        try dsimp only at hSw
        obtain ⟨s0, s1⟩ := hSw
        go_simp
        try with_reducible rfl
      try simp only [Act.put, List.setIfInBounds_toArray, List.set_cons_zero, List.set_cons_succ]
      refine tkH 2 (v := ?_) rfl (fun _ _ _ h => h) (Or.inl ⟨by rfl, ?_⟩) hH ?_
      rotate_left
      · intro w9 hSw
        try dsimp only at hSw
        obtain ⟨s0, s1⟩ := hSw
        go_simp
        try with_reducible rfl
      try simp only [Act.put, List.setIfInBounds_toArray, List.set_cons_zero, List.set_cons_succ]
      refine tkH 3 (v := ?_) rfl (fun _ _ _ h => h) (Or.inl ⟨by rfl, ?_⟩) hH ?_
      rotate_left
      · intro w9 hSw
        try dsimp only at hSw
        obtain ⟨s0, s1⟩ := hSw
        go_simp
        try with_reducible rfl
      try simp only [Act.put, List.setIfInBounds_toArray, List.set_cons_zero, List.set_cons_succ]
      refine tkH 4 (v := ?_) rfl (fun _ _ _ h => h) (Or.inl ⟨by rfl, ?_⟩) hH ?_
      rotate_left
      · intro w9 hSw
        try dsimp only at hSw
        obtain ⟨s0, s1⟩ := hSw
        go_simp
        try with_reducible rfl
      try simp only [Act.put, List.setIfInBounds_toArray, List.set_cons_zero, List.set_cons_succ]
      refine tkH 5 (v := ?_) rfl (fun _ _ _ h => h) (Or.inl ⟨by rfl, ?_⟩) hH ?_
      rotate_left
      · intro w9 hSw
        try dsimp only at hSw
        obtain ⟨s0, s1⟩ := hSw
        go_simp
        try with_reducible rfl
      try simp only [Act.put, List.setIfInBounds_toArray, List.set_cons_zero, List.set_cons_succ]
      refine tkH 6 (v := ?_) rfl (fun _ _ _ h => h) (Or.inl ⟨by rfl, ?_⟩) hH ?_
      rotate_left
      · intro w9 hSw
        try dsimp only at hSw
        obtain ⟨s0, s1⟩ := hSw
        go_simp
        try with_reducible rfl
      try simp only [Act.put, List.setIfInBounds_toArray, List.set_cons_zero, List.set_cons_succ]
      refine tkH 7 (v := ?_) rfl (fun _ _ _ h => h) (Or.inl ⟨by rfl, ?_⟩) hH ?_
      rotate_left
      · intro w9 hSw
        try dsimp only at hSw
        obtain ⟨s0, s1⟩ := hSw
        go_simp
        try with_reducible rfl
      try simp only [Act.put, List.setIfInBounds_toArray, List.set_cons_zero, List.set_cons_succ]
      refine tkH 8 (v := ?_) rfl (fun _ _ _ h => h) (Or.inl ⟨by rfl, ?_⟩) hH ?_
      rotate_left
      · intro w9 hSw
        try dsimp only at hSw
        obtain ⟨s0, s1⟩ := hSw
        go_simp
        try with_reducible rfl
      try simp only [Act.put, List.setIfInBounds_toArray, List.set_cons_zero, List.set_cons_succ]
      refine tkH 9 (v := ?_) rfl (fun _ _ _ h => h) (Or.inl ⟨by rfl, ?_⟩) hH ?_
      rotate_left
      · intro w9 hSw
        try dsimp only at hSw
        obtain ⟨s0, s1⟩ := hSw
        go_simp
        try with_reducible rfl
      try simp only [Act.put, List.setIfInBounds_toArray, List.set_cons_zero, List.set_cons_succ]
      refine tkH 10 (v := ?_) rfl (fun _ _ _ h => h) (Or.inl ⟨by rfl, ?_⟩) hH ?_
      rotate_left
      · intro w9 hSw
        try dsimp only at hSw
        obtain ⟨s0, s1⟩ := hSw
        go_simp
        try with_reducible rfl
      try simp only [Act.put, List.setIfInBounds_toArray, List.set_cons_zero, List.set_cons_succ]
      refine wpAnyH_done (by kernel_rfl) ?_ _
      have hBd : Below w2.heap.size w2 w2.drew := Below.drew (Below.refl _ _)
      replace hC := hC.now hBd
      replace hB3 := hB3.trans (hBd.mono (Nat.le_trans hbw hBw2))
      replace cw : w2.drew.cell? _ = _ := cw
      replace y0 : w2.drew.cell? _ = _ := y0
      replace y1 : w2.drew.cell? _ = _ := y1
      replace hub : ub < w2.drew.heap.size := hub
      replace hwb : wb < w2.drew.heap.size := hwb
      replace hBw2 : w.heap.size ≤ w2.drew.heap.size := hBw2
      clear hH z0 hqb hQ hU hW hBd z1
      generalize w2.drew = X at *
      have hbX : base ≤ X.heap.size := Nat.le_trans hbw hBw2
      by_cases hd1 : 1000 < d0
      · have hN := Lib.hid ((step_range (.inl hd1)).symm.trans hst.out)
        go_wp2
        go_ret
        exact ⟨by rw [← hN.out]; rfl, by rw [← hN.out]; exact ⟨_, _, hC⟩, hB3⟩
      · skip
        by_cases ht1 : 5 < l0
        · have hN := Lib.hid ((step_range (.inr ht1)).symm.trans hst.out)
          go_wp2
          go_ret
          exact ⟨by rw [← hN.out]; rfl, by rw [← hN.out]; exact ⟨_, _, hC⟩, hB3⟩
        · skip
          have hsm : Hid (¬ (1000 < d0 ∨ 5 < l0)) := by show ¬ _; omega
          go_wp2
          have hXd : Below X.heap.size X X.drew := Below.drew (Below.refl _ _)
          obtain ⟨k0, k1, k2⟩ := hC.box.c3
          have hNl := (hC.now hXd).nms.lst
          have hi0 := slices_IndexStr _ N n0 _ hNl
          have hi1 := slices_IndexStr _ N n1 _ hNl
          obtain ⟨a0, ha0⟩ : ∃ a0, findStr N n0 = a0 := ⟨_, rfl⟩
          obtain ⟨b0, hb0⟩ : ∃ b0, findStr N n1 = b0 := ⟨_, rfl⟩
          rw [ha0] at hi0
          rw [hb0] at hi1
          refine wp_region_held_drew (S := fun w' => w'.cell? ⟨g, 2, none⟩ = some (.slice NA N.length nc) ∧ w'.cell? ⟨ub, uo, none⟩ = some (.string n0) ∧ w'.cell? ⟨ub, uo + 1, none⟩ = some (.string n1)) (by kernel_rfl) ⟨k2, y0, y1⟩ (fun hH => ?_)
          refine tkH 0 (v := ?_) rfl (fun _ _ _ h => h) (Or.inl ⟨by rfl, ?_⟩) hH ?_
          rotate_left
          · intro w9 hSw
            try dsimp only at hSw
            obtain ⟨s0, s1, s2⟩ := hSw
            go_simp
            try with_reducible rfl
          try simp only [Act.put, List.setIfInBounds_toArray, List.set_cons_zero, List.set_cons_succ]
          refine tkH 1 (v := ?_) rfl (fun _ _ _ h => h) (Or.inl ⟨by rfl, ?_⟩) hH ?_
          rotate_left
          · intro w9 hSw
            try dsimp only at hSw
            obtain ⟨s0, s1, s2⟩ := hSw
            go_simp
            try with_reducible rfl
          try simp only [Act.put, List.setIfInBounds_toArray, List.set_cons_zero, List.set_cons_succ]
          refine tkH 2 (v := ?_) rfl (fun _ _ _ h => h) (Or.inl ⟨by rfl, ?_⟩) hH ?_
          rotate_left
          · intro w9 hSw
            try dsimp only at hSw
            obtain ⟨s0, s1, s2⟩ := hSw
            go_simp
            try with_reducible rfl
          try simp only [Act.put, List.setIfInBounds_toArray, List.set_cons_zero, List.set_cons_succ]
          refine tkH 3 (v := ?_) rfl (fun _ _ _ h => h) (Or.inl ⟨by rfl, ?_⟩) hH ?_
          rotate_left
          · intro w9 hSw
            try dsimp only at hSw
            obtain ⟨s0, s1, s2⟩ := hSw
            go_simp
            try with_reducible rfl
          try simp only [Act.put, List.setIfInBounds_toArray, List.set_cons_zero, List.set_cons_succ]
          refine tkH 4 (v := ?_) rfl (fun _ _ _ h => h) (Or.inl ⟨by rfl, ?_⟩) hH ?_
          rotate_left
          · intro w9 hSw
            try dsimp only at hSw
            obtain ⟨s0, s1, s2⟩ := hSw
            go_simp
            try with_reducible rfl
          try simp only [Act.put, List.setIfInBounds_toArray, List.set_cons_zero, List.set_cons_succ]
          refine tkH 5 (v := ?_) rfl (fun _ _ _ h => h) (Or.inl ⟨by rfl, ?_⟩) hH ?_
          rotate_left
          · intro w9 hSw
            try dsimp only at hSw
            obtain ⟨s0, s1, s2⟩ := hSw
            go_simp
            try with_reducible rfl
          try simp only [Act.put, List.setIfInBounds_toArray, List.set_cons_zero, List.set_cons_succ]
          refine tkH 6 (v := ?_) rfl (fun _ _ _ h => h) (Or.inl ⟨by rfl, ?_⟩) hH ?_
          rotate_left
          · intro w9 hSw
            try dsimp only at hSw
            obtain ⟨s0, s1, s2⟩ := hSw
            go_simp
            try with_reducible rfl
          try simp only [Act.put, List.setIfInBounds_toArray, List.set_cons_zero, List.set_cons_succ]
          refine tkH 8 (v := ?_) rfl (fun _ _ _ h => h) (Or.inl ⟨by rfl, ?_⟩) hH ?_
          rotate_left
          · intro w9 hSw
            try dsimp only at hSw
            obtain ⟨s0, s1, s2⟩ := hSw
            go_simp
            try with_reducible rfl
          try simp only [Act.put, List.setIfInBounds_toArray, List.set_cons_zero, List.set_cons_succ]
          refine tkH 9 (v := ?_) rfl (fun _ _ _ h => h) (Or.inl ⟨by rfl, ?_⟩) hH ?_
          rotate_left
          · intro w9 hSw
            try dsimp only at hSw
            obtain ⟨s0, s1, s2⟩ := hSw
            go_simp
            try with_reducible rfl
          try simp only [Act.put, List.setIfInBounds_toArray, List.set_cons_zero, List.set_cons_succ]
          refine tkH 10 (v := ?_) rfl (fun _ _ _ h => h) (Or.inl ⟨by rfl, ?_⟩) hH ?_
          rotate_left
          · intro w9 hSw
            try dsimp only at hSw
            obtain ⟨s0, s1, s2⟩ := hSw
            go_simp
            try with_reducible rfl
          try simp only [Act.put, List.setIfInBounds_toArray, List.set_cons_zero, List.set_cons_succ]
          refine tkH 11 (v := ?_) rfl (fun _ _ _ h => h) (Or.inl ⟨by rfl, ?_⟩) hH ?_
          rotate_left
          · intro w9 hSw
            try dsimp only at hSw
            obtain ⟨s0, s1, s2⟩ := hSw
            go_simp
            try with_reducible rfl
          try simp only [Act.put, List.setIfInBounds_toArray, List.set_cons_zero, List.set_cons_succ]
          refine tkH 12 (v := ?_) rfl (fun _ _ _ h => h) (Or.inl ⟨by rfl, ?_⟩) hH ?_
          rotate_left
          · intro w9 hSw
            try dsimp only at hSw
            obtain ⟨s0, s1, s2⟩ := hSw
            go_simp
            try with_reducible rfl
          try simp only [Act.put, List.setIfInBounds_toArray, List.set_cons_zero, List.set_cons_succ]
          refine tkH 13 (v := ?_) rfl (fun _ _ _ h => h) (Or.inl ⟨by rfl, ?_⟩) hH ?_
          rotate_left
          · intro w9 hSw
            try dsimp only at hSw
            obtain ⟨s0, s1, s2⟩ := hSw
            go_simp
            try with_reducible rfl
          try simp only [Act.put, List.setIfInBounds_toArray, List.set_cons_zero, List.set_cons_succ]
          refine tkH 14 (v := ?_) rfl (fun _ _ _ h => h) (Or.inl ⟨by rfl, ?_⟩) hH ?_
          rotate_left
          · intro w9 hSw
            try dsimp only at hSw
            obtain ⟨s0, s1, s2⟩ := hSw
            go_simp
            try with_reducible rfl
          try simp only [Act.put, List.setIfInBounds_toArray, List.set_cons_zero, List.set_cons_succ]
          refine wpAnyH_ready (rs := [7]) (by kernel_rfl) (by simp) ?_
          refine AllReadyH.cons rfl (fun K hK => ?_) AllReadyH.nil
          go_simp
          go_at_call 46
          refine hi0.mono ?_
          rintro e w8 ⟨rfl, rfl⟩
          refine hK.out _ _ ⟨k2, y0, y1⟩ (fun hH => ?_)
          clear hK K
          try simp only [Act.put, List.setIfInBounds_toArray, List.set_cons_zero, List.set_cons_succ]
          refine wpAnyH_ready (rs := [15]) (by kernel_rfl) (by simp) ?_
          refine AllReadyH.cons rfl (fun K hK => ?_) AllReadyH.nil
          go_simp
          go_at_call 46
          refine hi1.mono ?_
          rintro e w8 ⟨rfl, rfl⟩
          refine hK.out _ _ ⟨k2, y0, y1⟩ (fun hH => ?_)
          clear hK K
          try simp only [Act.put, List.setIfInBounds_toArray, List.set_cons_zero, List.set_cons_succ]
          refine tkH 16 (v := ?_) rfl (fun _ _ _ h => h) (Or.inl ⟨by rfl, ?_⟩) hH ?_
          rotate_left
          · intro w9 hSw
            try dsimp only at hSw
            obtain ⟨s0, s1, s2⟩ := hSw
            go_simp
            try with_reducible rfl
          try simp only [Act.put, List.setIfInBounds_toArray, List.set_cons_zero, List.set_cons_succ]
          refine tkH 17 (v := ?_) rfl (fun _ _ _ h => h) (Or.inl ⟨by rfl, ?_⟩) hH ?_
          rotate_left
          · intro w9 hSw
            try dsimp only at hSw
            obtain ⟨s0, s1, s2⟩ := hSw
            go_simp
            try with_reducible rfl
          try simp only [Act.put, List.setIfInBounds_toArray, List.set_cons_zero, List.set_cons_succ]
          refine wpAnyH_done (by kernel_rfl) ?_ _
          replace hC := hC.now hXd
          replace hB3 := hB3.trans (hXd.mono hbX)
          replace cw : X.drew.cell? _ = _ := cw
          replace hub : ub < X.drew.heap.size := hub
          replace hwb : wb < X.drew.heap.size := hwb
          replace hbX : base ≤ X.drew.heap.size := hbX
          clear hH hXd hNl hi0 hi1 k0 k1 k2 y0 y1
          generalize X.drew = Y at *
          by_cases hf0 : a0 < 0
          · have hN := Lib.hid ((step_unk hsm.out (by decide) (by rw [ha0]; exact .inl hf0)).symm.trans hst.out)
            go_wp2
            go_ret
            exact ⟨by rw [← hN.out]; rfl, by rw [← hN.out]; exact ⟨_, _, hC⟩, hB3⟩
          · skip
            by_cases hf1 : b0 < 0
            · have hN := Lib.hid ((step_unk hsm.out (by decide) (by rw [hb0]; exact .inr hf1)).symm.trans hst.out)
              go_wp2
              go_ret
              exact ⟨by rw [← hN.out]; rfl, by rw [← hN.out]; exact ⟨_, _, hC⟩, hB3⟩
            · skip
              obtain ⟨k0, k1, k2⟩ := hC.box.c3
              have l0' := hC.box.lt
              by_cases h30 : G.length = 30
              · have hq3 : ((G.length : Int) == 30) = true := by simp; omega
                have hN := Lib.hid ((step_full2 hsm.out (by decide) (by rw [ha0, hb0]; omega) h30).symm.trans hst.out)
                go_wp2
                go_ret
                exact ⟨by rw [← hN.out]; rfl, by rw [← hN.out]; exact ⟨_, _, hC⟩, hB3⟩
              · skip
                have hq3 : ((G.length : Int) == 30) = false := by simp; omega
                have hN : Hid ((0, N, G ++ [(⟨b0, a0, d0, l0⟩ : Place)]) = R) := by
                  show _ = _
                  rw [← hst.out, step_add hsm.out (by decide) (by rw [ha0, hb0]; omega) h30, ha0, hb0]
                  unfold placeF
                  rw [if_neg (by decide)]
                have hLG : Hid ((G ++ [(⟨b0, a0, d0, l0⟩ : Place)]).length = G.length + 1) := by show _ = _; simp
                go_wp2_with (at_builtin; go_loud (refine wpList_append_lst rfl _ _ 24 rfl Place.cells 4 Place.cells_one (by omega) base 57 _ 32 Tryz.underlying24 info_place rfl (.slice PA G.length pc) G rfl (hC.pls.alloc _) _ _ _ _ [(⟨b0, a0, d0, l0⟩ : Place)] rfl (lst_new1 Place.cells 4 Place.cells_len _ _ (⟨b0, a0, d0, l0⟩ : Place) _ rfl _ (by simp)) (by simp; omega) (by omega) (Nat.le_trans hbX (by simp)) ?_; intro v' w9 hO1 hG1 hD1; obtain ⟨V2, cv2, rfl⟩ := own_shape_n hO1 hLG.out; have hbx := (hC.box.alloc _).grown hG1 (fun e => hC.pls.ne_blk hC.box (by decide) e.symm); have f1 := hbx.frozen 1; have l9 := hbx.lt; have u1 := hbx.c3.2.1))
                skip
                have hC5 := (hC.now ((Below.refl _ _).alloc (Nat.le_refl _) _)).addP hG1 hO1
                have hB6 := (hB3.alloc (Nat.le_trans hbX (by simp)) _).grown hG1 (Nat.le_trans hbX (by simp)) (fun j hj => (hC.pls.lt j hj).1)
                have hB7 := Below.setCell (p := ⟨g, 1, none⟩) hB6 hgb (.slice V2 (G.length + 1) cv2)
                go_ret
                exact ⟨by rw [← hN.out]; rfl, by rw [← hN.out]; exact ⟨_, _, hC5⟩, hB7⟩
    · skip
      subst hns
      subst hxs
      subst hk
      obtain ⟨qb, qo, hqa, hqb, z0⟩ := ints_at hQ.lst 0 (by simp)
      rw [Nat.add_zero] at z0
      obtain ⟨ub, uo, hua, hub, y0⟩ := strs_at hU 0 (by simp)
      rw [Nat.add_zero] at y0
      replace y0 : w2.cell? ⟨ub, uo, none⟩ = some (.string n0) := y0
      obtain ⟨ub', uo', hua', _, y1⟩ := strs_at hU 1 (by simp)
      rw [hua] at hua'
      cases hua'
      replace y1 : w2.cell? ⟨ub, uo + 1, none⟩ = some (.string n1) := y1
      subst hqa
      subst hua
      replace z0 : w2.cell? ⟨qb, qo, none⟩ = some (.int .i64 d0) := z0
      have hubw : w.heap.size ≤ ub := by
        rcases hFr with h | ⟨b1, o1, n1, c1, o2, n2, c2, h1, h2⟩
        · cases h
        · cases h1
          cases h2
          exact hwbw
      have hrd := hxr d0 (by simp)
      rw [(dl_Move d0).1, (dl_Move d0).2] at hst
      replace hst := Lib.hid hst
      have iW : (0 : Int) < (W.length : Int) := by omega
      clear hxr hFr hwbw hpos hWn hB2
      have eMove : (wMove.toList == [109, 111, 118, 101]) = true := by decide +kernel
      have eBuffer : (wMove.toList == [98, 117, 102, 102, 101, 114]) = false := by decide +kernel
      have eStation : (wMove.toList == [115, 116, 97, 116, 105, 111, 110]) = false := by decide +kernel
      go_wp2
      refine wp_region_held_drew (S := fun w' => w'.cell? ⟨qb, qo, none⟩ = some (.int .i64 d0)) (by kernel_rfl) z0 (fun hH => ?_)
      refine tkH 0 (v := ?_) rfl (fun _ _ _ h => h) (Or.inl ⟨by rfl, ?_⟩) hH ?_
      rotate_left
      · intro w9 hSw
        try dsimp only at hSw
        obtain s0 := hSw
        go_simp
        try with_reducible rfl
      try simp only [Act.put, List.setIfInBounds_toArray, List.set_cons_zero, List.set_cons_succ]
      refine tkH 1 (v := ?_) rfl (fun _ _ _ h => h) (Or.inl ⟨by rfl, ?_⟩) hH ?_
      rotate_left
      · intro w9 hSw
        try dsimp only at hSw
        obtain s0 := hSw
        go_simp
        try with_reducible rfl
      try simp only [Act.put, List.setIfInBounds_toArray, List.set_cons_zero, List.set_cons_succ]
      refine tkH 2 (v := ?_) rfl (fun _ _ _ h => h) (Or.inl ⟨by rfl, ?_⟩) hH ?_
      rotate_left
      · intro w9 hSw
        try dsimp only at hSw
        obtain s0 := hSw
        go_simp
        try with_reducible rfl
      try simp only [Act.put, List.setIfInBounds_toArray, List.set_cons_zero, List.set_cons_succ]
      refine tkH 3 (v := ?_) rfl (fun _ _ _ h => h) (Or.inl ⟨by rfl, ?_⟩) hH ?_
      rotate_left
      · intro w9 hSw
        try dsimp only at hSw
        obtain s0 := hSw
        go_simp
        try with_reducible rfl
      try simp only [Act.put, List.setIfInBounds_toArray, List.set_cons_zero, List.set_cons_succ]
      refine tkH 4 (v := ?_) rfl (fun _ _ _ h => h) (Or.inl ⟨by rfl, ?_⟩) hH ?_
      rotate_left
      · intro w9 hSw
        try dsimp only at hSw
        obtain s0 := hSw
        go_simp
        try with_reducible rfl
      try simp only [Act.put, List.setIfInBounds_toArray, List.set_cons_zero, List.set_cons_succ]
      refine tkH 5 (v := ?_) rfl (fun _ _ _ h => h) (Or.inl ⟨by rfl, ?_⟩) hH ?_
      rotate_left
      · intro w9 hSw
        try dsimp only at hSw
        obtain s0 := hSw
        go_simp
        try with_reducible rfl
      try simp only [Act.put, List.setIfInBounds_toArray, List.set_cons_zero, List.set_cons_succ]
      refine tkH 6 (v := ?_) rfl (fun _ _ _ h => h) (Or.inl ⟨by rfl, ?_⟩) hH ?_
      rotate_left
      · intro w9 hSw
        try dsimp only at hSw
        obtain s0 := hSw
        go_simp
        try with_reducible rfl
      try simp only [Act.put, List.setIfInBounds_toArray, List.set_cons_zero, List.set_cons_succ]
      refine tkH 7 (v := ?_) rfl (fun _ _ _ h => h) (Or.inl ⟨by rfl, ?_⟩) hH ?_
      rotate_left
      · intro w9 hSw
        try dsimp only at hSw
        obtain s0 := hSw
        go_simp
        try with_reducible rfl
      try simp only [Act.put, List.setIfInBounds_toArray, List.set_cons_zero, List.set_cons_succ]
      refine tkH 8 (v := ?_) rfl (fun _ _ _ h => h) (Or.inl ⟨by rfl, ?_⟩) hH ?_
      rotate_left
      · intro w9 hSw
        try dsimp only at hSw
        obtain s0 := hSw
        go_simp
        try with_reducible rfl
      try simp only [Act.put, List.setIfInBounds_toArray, List.set_cons_zero, List.set_cons_succ]
      refine tkH 9 (v := ?_) rfl (fun _ _ _ h => h) (Or.inl ⟨by rfl, ?_⟩) hH ?_
      rotate_left
      · intro w9 hSw
        try dsimp only at hSw
        obtain s0 := hSw
        go_simp
        try with_reducible rfl
      try simp only [Act.put, List.setIfInBounds_toArray, List.set_cons_zero, List.set_cons_succ]
      refine tkH 10 (v := ?_) rfl (fun _ _ _ h => h) (Or.inl ⟨by rfl, ?_⟩) hH ?_
      rotate_left
      · intro w9 hSw
        try dsimp only at hSw
        obtain s0 := hSw
        go_simp
        try with_reducible rfl
      try simp only [Act.put, List.setIfInBounds_toArray, List.set_cons_zero, List.set_cons_succ]
      refine wpAnyH_done (by kernel_rfl) ?_ _
      have hBd : Below w2.heap.size w2 w2.drew := Below.drew (Below.refl _ _)
      replace hC := hC.now hBd
      replace hB3 := hB3.trans (hBd.mono (Nat.le_trans hbw hBw2))
      replace cw : w2.drew.cell? _ = _ := cw
      replace y0 : w2.drew.cell? _ = _ := y0
      replace y1 : w2.drew.cell? _ = _ := y1
      replace hub : ub < w2.drew.heap.size := hub
      replace hwb : wb < w2.drew.heap.size := hwb
      replace hBw2 : w.heap.size ≤ w2.drew.heap.size := hBw2
      clear hH z0 hqb hQ hU hW hBd
      generalize w2.drew = X at *
      have hbX : base ≤ X.heap.size := Nat.le_trans hbw hBw2
      by_cases hd1 : 1000 < d0
      · have hN := Lib.hid ((step_range (.inl hd1)).symm.trans hst.out)
        go_wp2
        go_ret
        exact ⟨by rw [← hN.out]; rfl, by rw [← hN.out]; exact ⟨_, _, hC⟩, hB3⟩
      · skip
        have hsm : Hid (¬ (1000 < d0 ∨ 5 < (0 : Int))) := by show ¬ _; omega
        go_wp2
        have hXd : Below X.heap.size X X.drew := Below.drew (Below.refl _ _)
        obtain ⟨k0, k1, k2⟩ := hC.box.c3
        have hNl := (hC.now hXd).nms.lst
        have hi0 := slices_IndexStr _ N n0 _ hNl
        have hi1 := slices_IndexStr _ N n1 _ hNl
        obtain ⟨a0, ha0⟩ : ∃ a0, findStr N n0 = a0 := ⟨_, rfl⟩
        obtain ⟨b0, hb0⟩ : ∃ b0, findStr N n1 = b0 := ⟨_, rfl⟩
        rw [ha0] at hi0
        rw [hb0] at hi1
        refine wp_region_held_drew (S := fun w' => w'.cell? ⟨g, 2, none⟩ = some (.slice NA N.length nc) ∧ w'.cell? ⟨ub, uo, none⟩ = some (.string n0) ∧ w'.cell? ⟨ub, uo + 1, none⟩ = some (.string n1)) (by kernel_rfl) ⟨k2, y0, y1⟩ (fun hH => ?_)
        refine tkH 0 (v := ?_) rfl (fun _ _ _ h => h) (Or.inl ⟨by rfl, ?_⟩) hH ?_
        rotate_left
        · intro w9 hSw
          try dsimp only at hSw
          obtain ⟨s0, s1, s2⟩ := hSw
          go_simp
          try with_reducible rfl
        try simp only [Act.put, List.setIfInBounds_toArray, List.set_cons_zero, List.set_cons_succ]
        refine tkH 1 (v := ?_) rfl (fun _ _ _ h => h) (Or.inl ⟨by rfl, ?_⟩) hH ?_
        rotate_left
        · intro w9 hSw
          try dsimp only at hSw
          obtain ⟨s0, s1, s2⟩ := hSw
          go_simp
          try with_reducible rfl
        try simp only [Act.put, List.setIfInBounds_toArray, List.set_cons_zero, List.set_cons_succ]
        refine tkH 2 (v := ?_) rfl (fun _ _ _ h => h) (Or.inl ⟨by rfl, ?_⟩) hH ?_
        rotate_left
        · intro w9 hSw
          try dsimp only at hSw
          obtain ⟨s0, s1, s2⟩ := hSw
          go_simp
          try with_reducible rfl
        try simp only [Act.put, List.setIfInBounds_toArray, List.set_cons_zero, List.set_cons_succ]
        refine tkH 3 (v := ?_) rfl (fun _ _ _ h => h) (Or.inl ⟨by rfl, ?_⟩) hH ?_
        rotate_left
        · intro w9 hSw
          try dsimp only at hSw
          obtain ⟨s0, s1, s2⟩ := hSw
          go_simp
          try with_reducible rfl
        try simp only [Act.put, List.setIfInBounds_toArray, List.set_cons_zero, List.set_cons_succ]
        refine tkH 4 (v := ?_) rfl (fun _ _ _ h => h) (Or.inl ⟨by rfl, ?_⟩) hH ?_
        rotate_left
        · intro w9 hSw
          try dsimp only at hSw
          obtain ⟨s0, s1, s2⟩ := hSw
          go_simp
          try with_reducible rfl
        try simp only [Act.put, List.setIfInBounds_toArray, List.set_cons_zero, List.set_cons_succ]
        refine tkH 5 (v := ?_) rfl (fun _ _ _ h => h) (Or.inl ⟨by rfl, ?_⟩) hH ?_
        rotate_left
        · intro w9 hSw
          try dsimp only at hSw
          obtain ⟨s0, s1, s2⟩ := hSw
          go_simp
          try with_reducible rfl
        try simp only [Act.put, List.setIfInBounds_toArray, List.set_cons_zero, List.set_cons_succ]
        refine tkH 6 (v := ?_) rfl (fun _ _ _ h => h) (Or.inl ⟨by rfl, ?_⟩) hH ?_
        rotate_left
        · intro w9 hSw
          try dsimp only at hSw
          obtain ⟨s0, s1, s2⟩ := hSw
          go_simp
          try with_reducible rfl
        try simp only [Act.put, List.setIfInBounds_toArray, List.set_cons_zero, List.set_cons_succ]
        refine tkH 8 (v := ?_) rfl (fun _ _ _ h => h) (Or.inl ⟨by rfl, ?_⟩) hH ?_
        rotate_left
        · intro w9 hSw
          try dsimp only at hSw
          obtain ⟨s0, s1, s2⟩ := hSw
          go_simp
          try with_reducible rfl
        try simp only [Act.put, List.setIfInBounds_toArray, List.set_cons_zero, List.set_cons_succ]
        refine tkH 9 (v := ?_) rfl (fun _ _ _ h => h) (Or.inl ⟨by rfl, ?_⟩) hH ?_
        rotate_left
        · intro w9 hSw
          try dsimp only at hSw
          obtain ⟨s0, s1, s2⟩ := hSw
          go_simp
          try with_reducible rfl
        try simp only [Act.put, List.setIfInBounds_toArray, List.set_cons_zero, List.set_cons_succ]
        refine tkH 10 (v := ?_) rfl (fun _ _ _ h => h) (Or.inl ⟨by rfl, ?_⟩) hH ?_
        rotate_left
        · intro w9 hSw
          try dsimp only at hSw
          obtain ⟨s0, s1, s2⟩ := hSw
          go_simp
          try with_reducible rfl
        try simp only [Act.put, List.setIfInBounds_toArray, List.set_cons_zero, List.set_cons_succ]
        refine tkH 11 (v := ?_) rfl (fun _ _ _ h => h) (Or.inl ⟨by rfl, ?_⟩) hH ?_
        rotate_left
        · intro w9 hSw
          try dsimp only at hSw
          obtain ⟨s0, s1, s2⟩ := hSw
          go_simp
          try with_reducible rfl
        try simp only [Act.put, List.setIfInBounds_toArray, List.set_cons_zero, List.set_cons_succ]
        refine tkH 12 (v := ?_) rfl (fun _ _ _ h => h) (Or.inl ⟨by rfl, ?_⟩) hH ?_
        rotate_left
        · intro w9 hSw
          try dsimp only at hSw
          obtain ⟨s0, s1, s2⟩ := hSw
          go_simp
          try with_reducible rfl
        try simp only [Act.put, List.setIfInBounds_toArray, List.set_cons_zero, List.set_cons_succ]
        refine tkH 13 (v := ?_) rfl (fun _ _ _ h => h) (Or.inl ⟨by rfl, ?_⟩) hH ?_
        rotate_left
        · intro w9 hSw
          try dsimp only at hSw
          obtain ⟨s0, s1, s2⟩ := hSw
          go_simp
          try with_reducible rfl
        try simp only [Act.put, List.setIfInBounds_toArray, List.set_cons_zero, List.set_cons_succ]
        refine tkH 14 (v := ?_) rfl (fun _ _ _ h => h) (Or.inl ⟨by rfl, ?_⟩) hH ?_
        rotate_left
        · intro w9 hSw
          try dsimp only at hSw
          obtain ⟨s0, s1, s2⟩ := hSw
          go_simp
          try with_reducible rfl
        try simp only [Act.put, List.setIfInBounds_toArray, List.set_cons_zero, List.set_cons_succ]
        refine wpAnyH_ready (rs := [7]) (by kernel_rfl) (by simp) ?_
        refine AllReadyH.cons rfl (fun K hK => ?_) AllReadyH.nil
        go_simp
        go_at_call 46
        refine hi0.mono ?_
        rintro e w8 ⟨rfl, rfl⟩
        refine hK.out _ _ ⟨k2, y0, y1⟩ (fun hH => ?_)
        clear hK K
        try simp only [Act.put, List.setIfInBounds_toArray, List.set_cons_zero, List.set_cons_succ]
        refine wpAnyH_ready (rs := [15]) (by kernel_rfl) (by simp) ?_
        refine AllReadyH.cons rfl (fun K hK => ?_) AllReadyH.nil
        go_simp
        go_at_call 46
        refine hi1.mono ?_
        rintro e w8 ⟨rfl, rfl⟩
        refine hK.out _ _ ⟨k2, y0, y1⟩ (fun hH => ?_)
        clear hK K
        try simp only [Act.put, List.setIfInBounds_toArray, List.set_cons_zero, List.set_cons_succ]
        refine tkH 16 (v := ?_) rfl (fun _ _ _ h => h) (Or.inl ⟨by rfl, ?_⟩) hH ?_
        rotate_left
        · intro w9 hSw
          try dsimp only at hSw
          obtain ⟨s0, s1, s2⟩ := hSw
          go_simp
          try with_reducible rfl
        try simp only [Act.put, List.setIfInBounds_toArray, List.set_cons_zero, List.set_cons_succ]
        refine tkH 17 (v := ?_) rfl (fun _ _ _ h => h) (Or.inl ⟨by rfl, ?_⟩) hH ?_
        rotate_left
        · intro w9 hSw
          try dsimp only at hSw
          obtain ⟨s0, s1, s2⟩ := hSw
          go_simp
          try with_reducible rfl
        try simp only [Act.put, List.setIfInBounds_toArray, List.set_cons_zero, List.set_cons_succ]
        refine wpAnyH_done (by kernel_rfl) ?_ _
        replace hC := hC.now hXd
        replace hB3 := hB3.trans (hXd.mono hbX)
        replace cw : X.drew.cell? _ = _ := cw
        replace hub : ub < X.drew.heap.size := hub
        replace hwb : wb < X.drew.heap.size := hwb
        replace hbX : base ≤ X.drew.heap.size := hbX
        clear hH hXd hNl hi0 hi1 k0 k1 k2 y0 y1
        generalize X.drew = Y at *
        by_cases hf0 : a0 < 0
        · have hN := Lib.hid ((step_unk hsm.out (by decide) (by rw [ha0]; exact .inl hf0)).symm.trans hst.out)
          go_wp2
          go_ret
          exact ⟨by rw [← hN.out]; rfl, by rw [← hN.out]; exact ⟨_, _, hC⟩, hB3⟩
        · skip
          by_cases hf1 : b0 < 0
          · have hN := Lib.hid ((step_unk hsm.out (by decide) (by rw [hb0]; exact .inr hf1)).symm.trans hst.out)
            go_wp2
            go_ret
            exact ⟨by rw [← hN.out]; rfl, by rw [← hN.out]; exact ⟨_, _, hC⟩, hB3⟩
          · skip
            obtain ⟨k0, k1, k2⟩ := hC.box.c3
            have l0' := hC.box.lt
            by_cases h30 : G.length = 30
            · have hq3 : ((G.length : Int) == 30) = true := by simp; omega
              have hN := Lib.hid ((step_full2 hsm.out (by decide) (by rw [ha0, hb0]; omega) h30).symm.trans hst.out)
              go_wp2
              go_ret
              exact ⟨by rw [← hN.out]; rfl, by rw [← hN.out]; exact ⟨_, _, hC⟩, hB3⟩
            · skip
              have hq3 : ((G.length : Int) == 30) = false := by simp; omega
              have hN : Hid ((0, N, G ++ [(⟨a0, b0, d0, 0⟩ : Place)]) = R) := by
                show _ = _
                rw [← hst.out, step_add hsm.out (by decide) (by rw [ha0, hb0]; omega) h30, ha0, hb0]
                unfold placeF
                rw [if_pos rfl]
              have hLG : Hid ((G ++ [(⟨a0, b0, d0, 0⟩ : Place)]).length = G.length + 1) := by show _ = _; simp
              go_wp2_with (at_builtin; go_loud (refine wpList_append_lst rfl _ _ 24 rfl Place.cells 4 Place.cells_one (by omega) base 57 _ 32 Tryz.underlying24 info_place rfl (.slice PA G.length pc) G rfl (hC.pls.alloc _) _ _ _ _ [(⟨a0, b0, d0, 0⟩ : Place)] rfl (lst_new1 Place.cells 4 Place.cells_len _ _ (⟨a0, b0, d0, 0⟩ : Place) _ rfl _ (by simp)) (by simp; omega) (by omega) (Nat.le_trans hbX (by simp)) ?_; intro v' w9 hO1 hG1 hD1; obtain ⟨V2, cv2, rfl⟩ := own_shape_n hO1 hLG.out; have hbx := (hC.box.alloc _).grown hG1 (fun e => hC.pls.ne_blk hC.box (by decide) e.symm); have f1 := hbx.frozen 1; have l9 := hbx.lt; have u1 := hbx.c3.2.1))
              skip
              have hC5 := (hC.now ((Below.refl _ _).alloc (Nat.le_refl _) _)).addP hG1 hO1
              have hB6 := (hB3.alloc (Nat.le_trans hbX (by simp)) _).grown hG1 (Nat.le_trans hbX (by simp)) (fun j hj => (hC.pls.lt j hj).1)
              have hB7 := Below.setCell (p := ⟨g, 1, none⟩) hB6 hgb (.slice V2 (G.length + 1) cv2)
              go_ret
              exact ⟨by rw [← hN.out]; rfl, by rw [← hN.out]; exact ⟨_, _, hC5⟩, hB7⟩
    · skip
      subst hns
      subst hxs
      subst hk
      obtain ⟨qb, qo, hqa, hqb, z0⟩ := ints_at hQ.lst 0 (by simp)
      rw [Nat.add_zero] at z0
      obtain ⟨ub, uo, hua, hub, y0⟩ := strs_at hU 0 (by simp)
      rw [Nat.add_zero] at y0
      replace y0 : w2.cell? ⟨ub, uo, none⟩ = some (.string n0) := y0
      obtain ⟨ub', uo', hua', _, y1⟩ := strs_at hU 1 (by simp)
      rw [hua] at hua'
      cases hua'
      replace y1 : w2.cell? ⟨ub, uo + 1, none⟩ = some (.string n1) := y1
      subst hqa
      subst hua
      replace z0 : w2.cell? ⟨qb, qo, none⟩ = some (.int .i64 d0) := z0
      have hubw : w.heap.size ≤ ub := by
        rcases hFr with h | ⟨b1, o1, n1, c1, o2, n2, c2, h1, h2⟩
        · cases h
        · cases h1
          cases h2
          exact hwbw
      have hrd := hxr d0 (by simp)
      rw [(dl_Buffer d0).1, (dl_Buffer d0).2] at hst
      replace hst := Lib.hid hst
      have iW : (0 : Int) < (W.length : Int) := by omega
      clear hxr hFr hwbw hpos hWn hB2
      have eMove : (wBuffer.toList == [109, 111, 118, 101]) = false := by decide +kernel
      have eBuffer : (wBuffer.toList == [98, 117, 102, 102, 101, 114]) = true := by decide +kernel
      have eStation : (wBuffer.toList == [115, 116, 97, 116, 105, 111, 110]) = false := by decide +kernel
      go_wp2
      refine wp_region_held_drew (S := fun w' => w'.cell? ⟨qb, qo, none⟩ = some (.int .i64 d0)) (by kernel_rfl) z0 (fun hH => ?_)
      refine tkH 0 (v := ?_) rfl (fun _ _ _ h => h) (Or.inl ⟨by rfl, ?_⟩) hH ?_
      rotate_left
      · intro w9 hSw
        try dsimp only at hSw
        obtain s0 := hSw
        go_simp
        try with_reducible rfl
      try simp only [Act.put, List.setIfInBounds_toArray, List.set_cons_zero, List.set_cons_succ]
      refine tkH 1 (v := ?_) rfl (fun _ _ _ h => h) (Or.inl ⟨by rfl, ?_⟩) hH ?_
      rotate_left
      · intro w9 hSw
        try dsimp only at hSw
        obtain s0 := hSw
        go_simp
        try with_reducible rfl
      try simp only [Act.put, List.setIfInBounds_toArray, List.set_cons_zero, List.set_cons_succ]
      refine tkH 2 (v := ?_) rfl (fun _ _ _ h => h) (Or.inl ⟨by rfl, ?_⟩) hH ?_
      rotate_left
      · intro w9 hSw
        try dsimp only at hSw
        obtain s0 := hSw
        go_simp
        try with_reducible rfl
      try simp only [Act.put, List.setIfInBounds_toArray, List.set_cons_zero, List.set_cons_succ]
      refine tkH 3 (v := ?_) rfl (fun _ _ _ h => h) (Or.inl ⟨by rfl, ?_⟩) hH ?_
      rotate_left
      · intro w9 hSw
        try dsimp only at hSw
        obtain s0 := hSw
        go_simp
        try with_reducible rfl
      try simp only [Act.put, List.setIfInBounds_toArray, List.set_cons_zero, List.set_cons_succ]
      refine tkH 4 (v := ?_) rfl (fun _ _ _ h => h) (Or.inl ⟨by rfl, ?_⟩) hH ?_
      rotate_left
      · intro w9 hSw
        try dsimp only at hSw
        obtain s0 := hSw
        go_simp
        try with_reducible rfl
      try simp only [Act.put, List.setIfInBounds_toArray, List.set_cons_zero, List.set_cons_succ]
      refine tkH 5 (v := ?_) rfl (fun _ _ _ h => h) (Or.inl ⟨by rfl, ?_⟩) hH ?_
      rotate_left
      · intro w9 hSw
        try dsimp only at hSw
        obtain s0 := hSw
        go_simp
        try with_reducible rfl
      try simp only [Act.put, List.setIfInBounds_toArray, List.set_cons_zero, List.set_cons_succ]
      refine tkH 6 (v := ?_) rfl (fun _ _ _ h => h) (Or.inl ⟨by rfl, ?_⟩) hH ?_
      rotate_left
      · intro w9 hSw
        try dsimp only at hSw
        obtain s0 := hSw
        go_simp
        try with_reducible rfl
      try simp only [Act.put, List.setIfInBounds_toArray, List.set_cons_zero, List.set_cons_succ]
      refine tkH 7 (v := ?_) rfl (fun _ _ _ h => h) (Or.inl ⟨by rfl, ?_⟩) hH ?_
      rotate_left
      · intro w9 hSw
        try dsimp only at hSw
        obtain s0 := hSw
        go_simp
        try with_reducible rfl
      try simp only [Act.put, List.setIfInBounds_toArray, List.set_cons_zero, List.set_cons_succ]
      refine tkH 8 (v := ?_) rfl (fun _ _ _ h => h) (Or.inl ⟨by rfl, ?_⟩) hH ?_
      rotate_left
      · intro w9 hSw
        try dsimp only at hSw
        obtain s0 := hSw
        go_simp
        try with_reducible rfl
      try simp only [Act.put, List.setIfInBounds_toArray, List.set_cons_zero, List.set_cons_succ]
      refine tkH 9 (v := ?_) rfl (fun _ _ _ h => h) (Or.inl ⟨by rfl, ?_⟩) hH ?_
      rotate_left
      · intro w9 hSw
        try dsimp only at hSw
        obtain s0 := hSw
        go_simp
        try with_reducible rfl
      try simp only [Act.put, List.setIfInBounds_toArray, List.set_cons_zero, List.set_cons_succ]
      refine tkH 10 (v := ?_) rfl (fun _ _ _ h => h) (Or.inl ⟨by rfl, ?_⟩) hH ?_
      rotate_left
      · intro w9 hSw
        try dsimp only at hSw
        obtain s0 := hSw
        go_simp
        try with_reducible rfl
      try simp only [Act.put, List.setIfInBounds_toArray, List.set_cons_zero, List.set_cons_succ]
      refine wpAnyH_done (by kernel_rfl) ?_ _
      have hBd : Below w2.heap.size w2 w2.drew := Below.drew (Below.refl _ _)
      replace hC := hC.now hBd
      replace hB3 := hB3.trans (hBd.mono (Nat.le_trans hbw hBw2))
      replace cw : w2.drew.cell? _ = _ := cw
      replace y0 : w2.drew.cell? _ = _ := y0
      replace y1 : w2.drew.cell? _ = _ := y1
      replace hub : ub < w2.drew.heap.size := hub
      replace hwb : wb < w2.drew.heap.size := hwb
      replace hBw2 : w.heap.size ≤ w2.drew.heap.size := hBw2
      clear hH z0 hqb hQ hU hW hBd
      generalize w2.drew = X at *
      have hbX : base ≤ X.heap.size := Nat.le_trans hbw hBw2
      by_cases ht1 : 5 < d0
      · have hN := Lib.hid ((step_range (.inr ht1)).symm.trans hst.out)
        go_wp2
        go_ret
        exact ⟨by rw [← hN.out]; rfl, by rw [← hN.out]; exact ⟨_, _, hC⟩, hB3⟩
      · skip
        have hsm : Hid (¬ (1000 < (0 : Int) ∨ 5 < d0)) := by show ¬ _; omega
        go_wp2
        have hXd : Below X.heap.size X X.drew := Below.drew (Below.refl _ _)
        obtain ⟨k0, k1, k2⟩ := hC.box.c3
        have hNl := (hC.now hXd).nms.lst
        have hi0 := slices_IndexStr _ N n0 _ hNl
        have hi1 := slices_IndexStr _ N n1 _ hNl
        obtain ⟨a0, ha0⟩ : ∃ a0, findStr N n0 = a0 := ⟨_, rfl⟩
        obtain ⟨b0, hb0⟩ : ∃ b0, findStr N n1 = b0 := ⟨_, rfl⟩
        rw [ha0] at hi0
        rw [hb0] at hi1
        refine wp_region_held_drew (S := fun w' => w'.cell? ⟨g, 2, none⟩ = some (.slice NA N.length nc) ∧ w'.cell? ⟨ub, uo, none⟩ = some (.string n0) ∧ w'.cell? ⟨ub, uo + 1, none⟩ = some (.string n1)) (by kernel_rfl) ⟨k2, y0, y1⟩ (fun hH => ?_)
        refine tkH 0 (v := ?_) rfl (fun _ _ _ h => h) (Or.inl ⟨by rfl, ?_⟩) hH ?_
        rotate_left
        · intro w9 hSw
          try dsimp only at hSw
          obtain ⟨s0, s1, s2⟩ := hSw
          go_simp
          try with_reducible rfl
        try simp only [Act.put, List.setIfInBounds_toArray, List.set_cons_zero, List.set_cons_succ]
        refine tkH 1 (v := ?_) rfl (fun _ _ _ h => h) (Or.inl ⟨by rfl, ?_⟩) hH ?_
        rotate_left
        · intro w9 hSw
          try dsimp only at hSw
          obtain ⟨s0, s1, s2⟩ := hSw
          go_simp
          try with_reducible rfl
        try simp only [Act.put, List.setIfInBounds_toArray, List.set_cons_zero, List.set_cons_succ]
        refine tkH 2 (v := ?_) rfl (fun _ _ _ h => h) (Or.inl ⟨by rfl, ?_⟩) hH ?_
        rotate_left
        · intro w9 hSw
          try dsimp only at hSw
          obtain ⟨s0, s1, s2⟩ := hSw
          go_simp
          try with_reducible rfl
        try simp only [Act.put, List.setIfInBounds_toArray, List.set_cons_zero, List.set_cons_succ]
        refine tkH 3 (v := ?_) rfl (fun _ _ _ h => h) (Or.inl ⟨by rfl, ?_⟩) hH ?_
        rotate_left
        · intro w9 hSw
          try dsimp only at hSw
          obtain ⟨s0, s1, s2⟩ := hSw
          go_simp
          try with_reducible rfl
        try simp only [Act.put, List.setIfInBounds_toArray, List.set_cons_zero, List.set_cons_succ]
        refine tkH 4 (v := ?_) rfl (fun _ _ _ h => h) (Or.inl ⟨by rfl, ?_⟩) hH ?_
        rotate_left
        · intro w9 hSw
          try dsimp only at hSw
          obtain ⟨s0, s1, s2⟩ := hSw
          go_simp
          try with_reducible rfl
        try simp only [Act.put, List.setIfInBounds_toArray, List.set_cons_zero, List.set_cons_succ]
        refine tkH 5 (v := ?_) rfl (fun _ _ _ h => h) (Or.inl ⟨by rfl, ?_⟩) hH ?_
        rotate_left
        · intro w9 hSw
          try dsimp only at hSw
          obtain ⟨s0, s1, s2⟩ := hSw
          go_simp
          try with_reducible rfl
        try simp only [Act.put, List.setIfInBounds_toArray, List.set_cons_zero, List.set_cons_succ]
        refine tkH 6 (v := ?_) rfl (fun _ _ _ h => h) (Or.inl ⟨by rfl, ?_⟩) hH ?_
        rotate_left
        · intro w9 hSw
          try dsimp only at hSw
          obtain ⟨s0, s1, s2⟩ := hSw
          go_simp
          try with_reducible rfl
        try simp only [Act.put, List.setIfInBounds_toArray, List.set_cons_zero, List.set_cons_succ]
        refine tkH 8 (v := ?_) rfl (fun _ _ _ h => h) (Or.inl ⟨by rfl, ?_⟩) hH ?_
        rotate_left
        · intro w9 hSw
          try dsimp only at hSw
          obtain ⟨s0, s1, s2⟩ := hSw
          go_simp
          try with_reducible rfl
        try simp only [Act.put, List.setIfInBounds_toArray, List.set_cons_zero, List.set_cons_succ]
        refine tkH 9 (v := ?_) rfl (fun _ _ _ h => h) (Or.inl ⟨by rfl, ?_⟩) hH ?_
        rotate_left
        · intro w9 hSw
          try dsimp only at hSw
          obtain ⟨s0, s1, s2⟩ := hSw
          go_simp
          try with_reducible rfl
        try simp only [Act.put, List.setIfInBounds_toArray, List.set_cons_zero, List.set_cons_succ]
        refine tkH 10 (v := ?_) rfl (fun _ _ _ h => h) (Or.inl ⟨by rfl, ?_⟩) hH ?_
        rotate_left
        · intro w9 hSw
          try dsimp only at hSw
          obtain ⟨s0, s1, s2⟩ := hSw
          go_simp
          try with_reducible rfl
        try simp only [Act.put, List.setIfInBounds_toArray, List.set_cons_zero, List.set_cons_succ]
        refine tkH 11 (v := ?_) rfl (fun _ _ _ h => h) (Or.inl ⟨by rfl, ?_⟩) hH ?_
        rotate_left
        · intro w9 hSw
          try dsimp only at hSw
          obtain ⟨s0, s1, s2⟩ := hSw
          go_simp
          try with_reducible rfl
        try simp only [Act.put, List.setIfInBounds_toArray, List.set_cons_zero, List.set_cons_succ]
        refine tkH 12 (v := ?_) rfl (fun _ _ _ h => h) (Or.inl ⟨by rfl, ?_⟩) hH ?_
        rotate_left
        · intro w9 hSw
          try dsimp only at hSw
          obtain ⟨s0, s1, s2⟩ := hSw
          go_simp
          try with_reducible rfl
        try simp only [Act.put, List.setIfInBounds_toArray, List.set_cons_zero, List.set_cons_succ]
        refine tkH 13 (v := ?_) rfl (fun _ _ _ h => h) (Or.inl ⟨by rfl, ?_⟩) hH ?_
        rotate_left
        · intro w9 hSw
          try dsimp only at hSw
          obtain ⟨s0, s1, s2⟩ := hSw
          go_simp
          try with_reducible rfl
        try simp only [Act.put, List.setIfInBounds_toArray, List.set_cons_zero, List.set_cons_succ]
        refine tkH 14 (v := ?_) rfl (fun _ _ _ h => h) (Or.inl ⟨by rfl, ?_⟩) hH ?_
        rotate_left
        · intro w9 hSw
          try dsimp only at hSw
          obtain ⟨s0, s1, s2⟩ := hSw
          go_simp
          try with_reducible rfl
        try simp only [Act.put, List.setIfInBounds_toArray, List.set_cons_zero, List.set_cons_succ]
        refine wpAnyH_ready (rs := [7]) (by kernel_rfl) (by simp) ?_
        refine AllReadyH.cons rfl (fun K hK => ?_) AllReadyH.nil
        go_simp
        go_at_call 46
        refine hi0.mono ?_
        rintro e w8 ⟨rfl, rfl⟩
        refine hK.out _ _ ⟨k2, y0, y1⟩ (fun hH => ?_)
        clear hK K
        try simp only [Act.put, List.setIfInBounds_toArray, List.set_cons_zero, List.set_cons_succ]
        refine wpAnyH_ready (rs := [15]) (by kernel_rfl) (by simp) ?_
        refine AllReadyH.cons rfl (fun K hK => ?_) AllReadyH.nil
        go_simp
        go_at_call 46
        refine hi1.mono ?_
        rintro e w8 ⟨rfl, rfl⟩
        refine hK.out _ _ ⟨k2, y0, y1⟩ (fun hH => ?_)
        clear hK K
        try simp only [Act.put, List.setIfInBounds_toArray, List.set_cons_zero, List.set_cons_succ]
        refine tkH 16 (v := ?_) rfl (fun _ _ _ h => h) (Or.inl ⟨by rfl, ?_⟩) hH ?_
        rotate_left
        · intro w9 hSw
          try dsimp only at hSw
          obtain ⟨s0, s1, s2⟩ := hSw
          go_simp
          try with_reducible rfl
        try simp only [Act.put, List.setIfInBounds_toArray, List.set_cons_zero, List.set_cons_succ]
        refine tkH 17 (v := ?_) rfl (fun _ _ _ h => h) (Or.inl ⟨by rfl, ?_⟩) hH ?_
        rotate_left
        · intro w9 hSw
          try dsimp only at hSw
          obtain ⟨s0, s1, s2⟩ := hSw
          go_simp
          try with_reducible rfl
        try simp only [Act.put, List.setIfInBounds_toArray, List.set_cons_zero, List.set_cons_succ]
        refine wpAnyH_done (by kernel_rfl) ?_ _
        replace hC := hC.now hXd
        replace hB3 := hB3.trans (hXd.mono hbX)
        replace cw : X.drew.cell? _ = _ := cw
        replace hub : ub < X.drew.heap.size := hub
        replace hwb : wb < X.drew.heap.size := hwb
        replace hbX : base ≤ X.drew.heap.size := hbX
        clear hH hXd hNl hi0 hi1 k0 k1 k2 y0 y1
        generalize X.drew = Y at *
        by_cases hf0 : a0 < 0
        · have hN := Lib.hid ((step_unk hsm.out (by decide) (by rw [ha0]; exact .inl hf0)).symm.trans hst.out)
          go_wp2
          go_ret
          exact ⟨by rw [← hN.out]; rfl, by rw [← hN.out]; exact ⟨_, _, hC⟩, hB3⟩
        · skip
          by_cases hf1 : b0 < 0
          · have hN := Lib.hid ((step_unk hsm.out (by decide) (by rw [hb0]; exact .inr hf1)).symm.trans hst.out)
            go_wp2
            go_ret
            exact ⟨by rw [← hN.out]; rfl, by rw [← hN.out]; exact ⟨_, _, hC⟩, hB3⟩
          · skip
            obtain ⟨k0, k1, k2⟩ := hC.box.c3
            have l0' := hC.box.lt
            by_cases h30 : G.length = 30
            · have hq3 : ((G.length : Int) == 30) = true := by simp; omega
              have hN := Lib.hid ((step_full2 hsm.out (by decide) (by rw [ha0, hb0]; omega) h30).symm.trans hst.out)
              go_wp2
              go_ret
              exact ⟨by rw [← hN.out]; rfl, by rw [← hN.out]; exact ⟨_, _, hC⟩, hB3⟩
            · skip
              have hq3 : ((G.length : Int) == 30) = false := by simp; omega
              have hN : Hid ((0, N, G ++ [(⟨b0, a0, 0, d0⟩ : Place)]) = R) := by
                show _ = _
                rw [← hst.out, step_add hsm.out (by decide) (by rw [ha0, hb0]; omega) h30, ha0, hb0]
                unfold placeF
                rw [if_neg (by decide)]
              have hLG : Hid ((G ++ [(⟨b0, a0, 0, d0⟩ : Place)]).length = G.length + 1) := by show _ = _; simp
              go_wp2_with (at_builtin; go_loud (refine wpList_append_lst rfl _ _ 24 rfl Place.cells 4 Place.cells_one (by omega) base 57 _ 32 Tryz.underlying24 info_place rfl (.slice PA G.length pc) G rfl (hC.pls.alloc _) _ _ _ _ [(⟨b0, a0, 0, d0⟩ : Place)] rfl (lst_new1 Place.cells 4 Place.cells_len _ _ (⟨b0, a0, 0, d0⟩ : Place) _ rfl _ (by simp)) (by simp; omega) (by omega) (Nat.le_trans hbX (by simp)) ?_; intro v' w9 hO1 hG1 hD1; obtain ⟨V2, cv2, rfl⟩ := own_shape_n hO1 hLG.out; have hbx := (hC.box.alloc _).grown hG1 (fun e => hC.pls.ne_blk hC.box (by decide) e.symm); have f1 := hbx.frozen 1; have l9 := hbx.lt; have u1 := hbx.c3.2.1))
              skip
              have hC5 := (hC.now ((Below.refl _ _).alloc (Nat.le_refl _) _)).addP hG1 hO1
              have hB6 := (hB3.alloc (Nat.le_trans hbX (by simp)) _).grown hG1 (Nat.le_trans hbX (by simp)) (fun j hj => (hC.pls.lt j hj).1)
              have hB7 := Below.setCell (p := ⟨g, 1, none⟩) hB6 hgb (.slice V2 (G.length + 1) cv2)
              go_ret
              exact ⟨by rw [← hN.out]; rfl, by rw [← hN.out]; exact ⟨_, _, hC5⟩, hB7⟩
end Go.Proofs.YtcoomogabicfnaaGreatDoor
