/-
  The walk of the draw of a graph.
-/
import Derived.Test.YtcoomogabicfnaaDr
import Derived.Deep.DeepCutAuto
import Derived.Deep.CutRange
namespace Go.Proofs.Ytcoomogabicfnaa
open Go.RowKit
set_option linter.unusedVariables false
set_option linter.unusedSimpArgs false
set_option maxHeartbeats 8000000 in
set_option maxRecDepth 100000 in
theorem spec_l11Draw (g : Nat) (w : World) (h : Src w g) :
    Calls Try.prog 19 #[.pointer (some ⟨g, 0, none⟩)] w fun e w' => ∃ ge gp v, e = .returned (.agg #[.int .i64 ge, v]) ∧ 0 ≤ ge ∧ ge ≤ 11 ∧ gp.length ≤ 40 ∧ Own Place.cells 4 46 w' w.heap.size v gp ∧ Drawn w g w' := by
  have hgw := h.lt
  go_enter Try.func19, Try.ntmps19
  go_wp2_with fail
  have hA : Below w.heap.size w (w.alloc (.cells #[.int .i64 0, .slice none 0 0] 26)) := (Below.refl _ _).alloc (Nat.le_refl _) _
  refine (spec_l01Next g 5 _ (h.now hA) (by omega)).mono ?_
  rintro e w1 ⟨x, rfl, hx, hN⟩
  have hres := (Blk.new w 26 #[.int .i64 0, .slice none 0 0]).grown hN.2 (fun e => by injection e with e; omega)
  have hG1 := grown_trans (grown_of_below (r := some g) hA) hN.2
  have hs1 := hG1.size
  have hx5 : x < 5 := hx.2.1 (by omega)
  have hx0 := hx.1
  have hsm : IntKind.i64.wrap (1 + x) = 1 + x := IntWalk.i64_in _ (by omega)
  have hlt1 := hres.lt
  go_wp2_with fail
  have hA2 : Below w1.heap.size w1 ((w1.alloc (.cells #[] 46)).alloc (.cells #[.int .i64 (1 + x), .slice (some ⟨w1.heap.size, 0, none⟩) 0 0] 26)) := ((Below.refl _ _).alloc (Nat.le_refl _) _).alloc (by simp) _
  have hD : Dr w g w.heap.size (w1.heap.size + 1) ((w1.alloc (.cells #[] 46)).alloc (.cells #[.int .i64 (1 + x), .slice (some ⟨w1.heap.size, 0, none⟩) 0 0] 26)) (1 + x) (.slice (some ⟨w1.heap.size, 0, none⟩) 0 0) [] :=
    ⟨hN.1.now hA2, grown_trans hG1 (grown_of_below hA2), hres.now hA2, Blk.newAt _ _ (by simp), (own_new0 _ _ _ _ _ hs1).alloc _, Nat.le_refl _, by omega, by omega, hgw⟩
  refine (spec_l01Next g 9 _ hD.src (by omega)).mono ?_
  rintro e w3 ⟨y, rfl, hy, hN2⟩
  replace hD := hD.draw hN2
  have hy9 : y < 9 := hy.2.1 (by omega)
  have hy0 := hy.1
  obtain ⟨ge, hge⟩ : ∃ ge, 1 + x = ge := ⟨_, rfl⟩
  have hge1 : 1 ≤ ge ∧ ge ≤ 5 := by omega
  rw [hge] at hD ⊢
  obtain ⟨bg, hbg⟩ : ∃ bg, w1.heap.size + 1 = bg := ⟨_, rfl⟩
  obtain ⟨b2, hb2⟩ : ∃ b2, w.heap.size = b2 := ⟨_, rfl⟩
  rw [hbg] at hD ⊢
  have hD' : Dr w g b2 bg w3 ge (.slice (some ⟨w1.heap.size, 0, none⟩) 0 0) [] := by rw [← hb2]; exact hD
  rw [show (Value.pointer (some ⟨w.heap.size, 0, none⟩)) = .pointer (some ⟨b2, 0, none⟩) by rw [hb2]]
  clear hN hN2 hres hG1 hs1 hx hy hx5 hx0 hlt1 hA2 hD hge hsm hA
  go_wp2
  go_loopw [4, 5] (fun nv _ wr => ∃ (k : Nat) (v : Value) (gp : List Place), nv = .int .i64 k ∧ gp.length + k ≤ 9 ∧ Dr w g b2 bg wr ge v gp) (fun nv _ _ => (intOf nv).toNat)
  case atStart => exact ⟨y.toNat, _, _, by rw [Int.toNat_of_nonneg hy0], by simp; omega, hD'⟩
  case round =>
    clear hD' hbg hb2
    obtain ⟨k, v, gp, rfl, hlen, hD⟩ := hrel
    obtain ⟨A, c, rfl⟩ := hD.own.shape
    by_cases hpos : 0 < k
    · obtain ⟨j, rfl⟩ : ∃ j, k = j + 1 := ⟨k - 1, by omega⟩
      go_wp2
      go_cut [5] from 14 to 55 (fun pA wx => ∃ (bp : Nat) (x0 x1 x2 : Int), pA = .pointer (some ⟨bp, 0, none⟩) ∧ Blk wx bp 46 #[.int .i64 x0, .int .i64 x1, .int .i64 x2, .int .i64 0] ∧ Dr w g b2 bg wx ge (.slice A gp.length c) gp ∧ w.heap.size ≤ bp ∧ (∀ k, (Value.slice A gp.length c).ownBlock = some k → k ≠ bp))
      case first =>
        have z0 : wr.drew.cell? ⟨bg, 0, none⟩ = some (.int .i64 ge) := hD.evs
        replace hD := hD.below (Below.drew (Below.refl _ wr))
        go_wp2_with fail
        refine wp_region_held_drew (S := fun w' => w'.cell? ⟨bg, 0, none⟩ = some (.int .i64 ge)) (by kernel_rfl) z0 (fun hH => ?_)
        generalize wr.drew = V0 at *
        refine tkH 0 (v := ?_) rfl (fun _ _ _ h => h) (Or.inl ⟨by rfl, ?_⟩) hH ?_
        rotate_left
        · intro w9 hSw
          try dsimp only at hSw
          obtain s0 := hSw
          go_simp
          try with_reducible rfl
        try simp only [Act.put, List.setIfInBounds_toArray, List.set_cons_zero, List.set_cons_succ]
        refine tkH 1 (v := ?_) rfl (fun _ _ _ h => h) (Or.inl ⟨by rfl, ?_⟩) hH ?_
        rotate_left
        · intro w9 hSw
          try dsimp only at hSw
          obtain s0 := hSw
          go_simp
          try with_reducible rfl
        try simp only [Act.put, List.setIfInBounds_toArray, List.set_cons_zero, List.set_cons_succ]
        refine tkH 2 (v := ?_) rfl (fun _ _ _ h => h) (Or.inl ⟨by rfl, ?_⟩) hH ?_
        rotate_left
        · intro w9 hSw
          try dsimp only at hSw
          obtain s0 := hSw
          go_simp
          try with_reducible rfl
        try simp only [Act.put, List.setIfInBounds_toArray, List.set_cons_zero, List.set_cons_succ]
        refine tkH 4 (v := ?_) rfl (fun _ _ _ h => h) (Or.inl ⟨by rfl, ?_⟩) hH ?_
        rotate_left
        · intro w9 hSw
          try dsimp only at hSw
          obtain s0 := hSw
          go_simp
          try with_reducible rfl
        try simp only [Act.put, List.setIfInBounds_toArray, List.set_cons_zero, List.set_cons_succ]
        refine tkH 5 (v := ?_) rfl (fun _ _ _ h => h) (Or.inl ⟨by rfl, ?_⟩) hH ?_
        rotate_left
        · intro w9 hSw
          try dsimp only at hSw
          obtain s0 := hSw
          go_simp
          try with_reducible rfl
        try simp only [Act.put, List.setIfInBounds_toArray, List.set_cons_zero, List.set_cons_succ]
        refine tkH 6 (v := ?_) rfl (fun _ _ _ h => h) (Or.inl ⟨by rfl, ?_⟩) hH ?_
        rotate_left
        · intro w9 hSw
          try dsimp only at hSw
          obtain s0 := hSw
          go_simp
          try with_reducible rfl
        try simp only [Act.put, List.setIfInBounds_toArray, List.set_cons_zero, List.set_cons_succ]
        refine tkH 8 (v := ?_) rfl (fun _ _ _ h => h) (Or.inl ⟨by rfl, ?_⟩) hH ?_
        rotate_left
        · intro w9 hSw
          try dsimp only at hSw
          obtain s0 := hSw
          go_simp
          try with_reducible rfl
        try simp only [Act.put, List.setIfInBounds_toArray, List.set_cons_zero, List.set_cons_succ]
        refine wpAnyH_ready (rs := [3, 11]) (by kernel_rfl) (by simp) ?_
        refine AllReadyH.cons rfl (fun K hK => ?_) (AllReadyH.cons rfl (fun K hK => ?_) AllReadyH.nil)
        · go_simp
          go_at_call 30
          refine (spec_l01Next g ge _ hD.src (by omega)).mono ?_
          rintro e v1 ⟨x0, rfl, hx0, hN⟩
          replace hx0 := Lib.hid hx0
          replace hD := hD.draw hN
          clear hN
          have z0 := hD.evs
          refine hK.out _ _ z0 (fun hH => ?_)
          clear hK K
          try simp only [Act.put, List.setIfInBounds_toArray, List.set_cons_zero, List.set_cons_succ]
          refine wpAnyH_ready (rs := [7, 11]) (by kernel_rfl) (by simp) ?_
          refine AllReadyH.cons rfl (fun K hK => ?_) (AllReadyH.cons rfl (fun K hK => ?_) AllReadyH.nil)
          · go_simp
            go_at_call 30
            refine (spec_l01Next g ge _ hD.src (by omega)).mono ?_
            rintro e v2 ⟨x1, rfl, hx1, hN⟩
            replace hx1 := Lib.hid hx1
            replace hD := hD.draw hN
            clear hN
            have z0 := hD.evs
            refine hK.out _ _ z0 (fun hH => ?_)
            clear hK K
            try simp only [Act.put, List.setIfInBounds_toArray, List.set_cons_zero, List.set_cons_succ]
            refine wpAnyH_ready (rs := [9, 11]) (by kernel_rfl) (by simp) ?_
            refine AllReadyH.cons rfl (fun K hK => ?_) (AllReadyH.cons rfl (fun K hK => ?_) AllReadyH.nil)
            · go_simp
              go_at_call 30
              refine (spec_l01Next g 12 _ hD.src (by omega)).mono ?_
              rintro e v3 ⟨x2, rfl, hx2, hN⟩
              replace hx2 := Lib.hid hx2
              replace hD := hD.draw hN
              clear hN
              have z0 := hD.evs
              refine hK.out _ _ z0 (fun hH => ?_)
              clear hK K
              try simp only [Act.put, List.setIfInBounds_toArray, List.set_cons_zero, List.set_cons_succ]
              refine tkH 10 (v := ?_) rfl (fun _ _ _ h => h) (Or.inl ⟨by rfl, ?_⟩) hH ?_
              rotate_left
              · intro w9 hSw
                try dsimp only at hSw
                obtain s0 := hSw
                go_simp
                try with_reducible rfl
              try simp only [Act.put, List.setIfInBounds_toArray, List.set_cons_zero, List.set_cons_succ]
              have hZ : Below v3.heap.size v3 (v3.alloc (.cells #[.int .i64 0, .int .i64 0, .int .i64 0, .int .i64 0] 46)) := (Below.refl _ _).alloc (Nat.le_refl _) _
              have hDz := hD.below hZ
              have z1 := hDz.evs
              refine wpAnyH_ready (rs := [11]) (by kernel_rfl) (by simp) ?_
              refine AllReadyH.cons rfl (fun K hK => ?_) AllReadyH.nil
              go_simp
              refine hK.out _ _ z1 (fun hH => ?_)
              clear hK K
              try simp only [Act.put, List.setIfInBounds_toArray, List.set_cons_zero, List.set_cons_succ]
              have hZ2 : Below v3.heap.size v3 (v3.alloc (.cells #[.int .i64 x0, .int .i64 x1, .int .i64 x2, .int .i64 0] 46)) := (Below.refl _ _).alloc (Nat.le_refl _) _
              have hDz2 := hD.below hZ2
              have z2 := hDz2.evs
              refine wpAnyH_ready (rs := [12]) (by kernel_rfl) (by simp) ?_
              refine AllReadyH.cons rfl (fun K hK => ?_) AllReadyH.nil
              go_simp
              refine hK.out _ _ z2 (fun hH => ?_)
              clear hK K
              try simp only [Act.put, List.setIfInBounds_toArray, List.set_cons_zero, List.set_cons_succ]
              refine wpAnyH_done (by kernel_rfl) ?_ _
              go_wp2_with fail
              go_meet
              exact ⟨v3.heap.size, x0, x1, x2, rfl, Blk.newAt _ _ rfl, hDz2, hD.grown.size, fun k hk => by have := (hD.own.lt k hk).2; omega⟩
            · have hZ : Below v2.heap.size v2 (v2.alloc (.cells #[.int .i64 0, .int .i64 0, .int .i64 0, .int .i64 0] 46)) := (Below.refl _ _).alloc (Nat.le_refl _) _
              have hfr : ∀ k, (Value.slice A gp.length c).ownBlock = some k → k ≠ v2.heap.size := fun k hk => by have : k < v2.heap.size := (hD.own.lt k hk).2; omega
              have hp : Blk (v2.alloc (.cells #[.int .i64 0, .int .i64 0, .int .i64 0, .int .i64 0] 46)) v2.heap.size 46 #[.int .i64 0, .int .i64 0, .int .i64 0, .int .i64 0] := Blk.newAt _ _ rfl
              have hpg : v2.heap.size ≠ g := by have : g < v2.heap.size := hD.src.lt; omega
              have hpw : w.heap.size ≤ v2.heap.size := hD.grown.size
              replace hD := hD.below hZ
              have z0 := hD.evs
              go_simp
              refine hK.out _ _ z0 (fun hH => ?_)
              clear hK K
              try simp only [Act.put, List.setIfInBounds_toArray, List.set_cons_zero, List.set_cons_succ]
              obtain ⟨W9, hW9⟩ : ∃ W9, (v2.alloc (.cells #[.int .i64 0, .int .i64 0, .int .i64 0, .int .i64 0] 46)) = W9 := ⟨_, rfl⟩
              obtain ⟨bp, hbp⟩ : ∃ bp, v2.heap.size = bp := ⟨_, rfl⟩
              rw [hbp] at hfr hp hpg hpw ⊢
              rw [hW9] at hp hD z0 hH ⊢
              clear hW9 hZ hbp
              refine wpAnyH_ready (rs := [9]) (by kernel_rfl) (by simp) ?_
              refine AllReadyH.cons rfl (fun K hK => ?_) AllReadyH.nil
              go_simp
              go_at_call 30
              refine (spec_l01Next g 12 _ hD.src (by omega)).mono ?_
              rintro e v4 ⟨x2, rfl, hx2, hN⟩
              replace hx2 := Lib.hid hx2
              replace hp := hp.grown hN.2 (fun e => hpg (by injection e))
              replace hD := hD.draw hN
              clear hN
              have z0 := hD.evs
              refine hK.out _ _ z0 (fun hH => ?_)
              clear hK K
              try simp only [Act.put, List.setIfInBounds_toArray, List.set_cons_zero, List.set_cons_succ]
              refine tkH 10 (v := ?_) rfl (fun _ _ _ h => h) (Or.inl ⟨by rfl, ?_⟩) hH ?_
              rotate_left
              · intro w9 hSw
                try dsimp only at hSw
                obtain s0 := hSw
                go_simp
                try with_reducible rfl
              try simp only [Act.put, List.setIfInBounds_toArray, List.set_cons_zero, List.set_cons_succ]
              have hf := hp.frozen
              have hl := hp.lt
              obtain ⟨c0, c1, c2, c3⟩ := hp.c4
              have hf0 := hf 0
              have hf1 := hf 1
              have hf2 := hf 2
              have hf3 := hf 3
              have hn1 : bp ≠ b2 := blk_ne hp hD.res (by decide)
              have hn2 : bp ≠ bg := blk_ne hp hD.box (by decide)
              have hn3 : (Value.slice A gp.length c).ownBlock ≠ some bp := fun e => hfr bp e rfl
              have hD2 := ((((hD.other (p := ⟨bp, 0, none⟩) hpw hn1 hn2 hn3 (.int .i64 x0)).other (p := ⟨bp, 1, none⟩) hpw hn1 hn2 hn3 (.int .i64 x1)).other (p := ⟨bp, 2, none⟩) hpw hn1 hn2 hn3 (.int .i64 x2)).other (p := ⟨bp, 3, none⟩) hpw hn1 hn2 hn3 (.int .i64 0))
              have z0 := Dr.evs hD2
              refine wpAnyH_ready (rs := [12]) (by kernel_rfl) (by simp) ?_
              refine AllReadyH.cons rfl (fun K hK => ?_) AllReadyH.nil
              go_simp
              refine hK.out _ _ z0 (fun hH => ?_)
              clear hK K
              try simp only [Act.put, List.setIfInBounds_toArray, List.set_cons_zero, List.set_cons_succ]
              refine wpAnyH_done (by kernel_rfl) ?_ _
              go_wp2_with fail
              go_meet
              exact ⟨bp, x0, x1, x2, rfl, by simpa using (((hp.set_ 0 (.int .i64 x0)).set_ 1 (.int .i64 x1)).set_ 2 (.int .i64 x2)).set_ 3 (.int .i64 0), hD2, hpw, hfr⟩
          · have hZ : Below v1.heap.size v1 (v1.alloc (.cells #[.int .i64 0, .int .i64 0, .int .i64 0, .int .i64 0] 46)) := (Below.refl _ _).alloc (Nat.le_refl _) _
            have hfr : ∀ k, (Value.slice A gp.length c).ownBlock = some k → k ≠ v1.heap.size := fun k hk => by have : k < v1.heap.size := (hD.own.lt k hk).2; omega
            have hp : Blk (v1.alloc (.cells #[.int .i64 0, .int .i64 0, .int .i64 0, .int .i64 0] 46)) v1.heap.size 46 #[.int .i64 0, .int .i64 0, .int .i64 0, .int .i64 0] := Blk.newAt _ _ rfl
            have hpg : v1.heap.size ≠ g := by have : g < v1.heap.size := hD.src.lt; omega
            have hpw : w.heap.size ≤ v1.heap.size := hD.grown.size
            replace hD := hD.below hZ
            have z0 := hD.evs
            go_simp
            refine hK.out _ _ z0 (fun hH => ?_)
            clear hK K
            try simp only [Act.put, List.setIfInBounds_toArray, List.set_cons_zero, List.set_cons_succ]
            obtain ⟨W9, hW9⟩ : ∃ W9, (v1.alloc (.cells #[.int .i64 0, .int .i64 0, .int .i64 0, .int .i64 0] 46)) = W9 := ⟨_, rfl⟩
            obtain ⟨bp, hbp⟩ : ∃ bp, v1.heap.size = bp := ⟨_, rfl⟩
            rw [hbp] at hfr hp hpg hpw ⊢
            rw [hW9] at hp hD z0 hH ⊢
            clear hW9 hZ hbp
            refine wpAnyH_ready (rs := [7]) (by kernel_rfl) (by simp) ?_
            refine AllReadyH.cons rfl (fun K hK => ?_) AllReadyH.nil
            go_simp
            go_at_call 30
            refine (spec_l01Next g ge _ hD.src (by omega)).mono ?_
            rintro e v5 ⟨x1, rfl, hx1, hN⟩
            replace hx1 := Lib.hid hx1
            replace hp := hp.grown hN.2 (fun e => hpg (by injection e))
            replace hD := hD.draw hN
            clear hN
            have z0 := hD.evs
            refine hK.out _ _ z0 (fun hH => ?_)
            clear hK K
            try simp only [Act.put, List.setIfInBounds_toArray, List.set_cons_zero, List.set_cons_succ]
            refine wpAnyH_ready (rs := [9]) (by kernel_rfl) (by simp) ?_
            refine AllReadyH.cons rfl (fun K hK => ?_) AllReadyH.nil
            go_simp
            go_at_call 30
            refine (spec_l01Next g 12 _ hD.src (by omega)).mono ?_
            rintro e v6 ⟨x2, rfl, hx2, hN⟩
            replace hx2 := Lib.hid hx2
            replace hp := hp.grown hN.2 (fun e => hpg (by injection e))
            replace hD := hD.draw hN
            clear hN
            have z0 := hD.evs
            refine hK.out _ _ z0 (fun hH => ?_)
            clear hK K
            try simp only [Act.put, List.setIfInBounds_toArray, List.set_cons_zero, List.set_cons_succ]
            refine tkH 10 (v := ?_) rfl (fun _ _ _ h => h) (Or.inl ⟨by rfl, ?_⟩) hH ?_
            rotate_left
            · intro w9 hSw
              try dsimp only at hSw
              obtain s0 := hSw
              go_simp
              try with_reducible rfl
            try simp only [Act.put, List.setIfInBounds_toArray, List.set_cons_zero, List.set_cons_succ]
            have hf := hp.frozen
            have hl := hp.lt
            obtain ⟨c0, c1, c2, c3⟩ := hp.c4
            have hf0 := hf 0
            have hf1 := hf 1
            have hf2 := hf 2
            have hf3 := hf 3
            have hn1 : bp ≠ b2 := blk_ne hp hD.res (by decide)
            have hn2 : bp ≠ bg := blk_ne hp hD.box (by decide)
            have hn3 : (Value.slice A gp.length c).ownBlock ≠ some bp := fun e => hfr bp e rfl
            have hD2 := ((((hD.other (p := ⟨bp, 0, none⟩) hpw hn1 hn2 hn3 (.int .i64 x0)).other (p := ⟨bp, 1, none⟩) hpw hn1 hn2 hn3 (.int .i64 x1)).other (p := ⟨bp, 2, none⟩) hpw hn1 hn2 hn3 (.int .i64 x2)).other (p := ⟨bp, 3, none⟩) hpw hn1 hn2 hn3 (.int .i64 0))
            have z0 := Dr.evs hD2
            refine wpAnyH_ready (rs := [12]) (by kernel_rfl) (by simp) ?_
            refine AllReadyH.cons rfl (fun K hK => ?_) AllReadyH.nil
            go_simp
            refine hK.out _ _ z0 (fun hH => ?_)
            clear hK K
            try simp only [Act.put, List.setIfInBounds_toArray, List.set_cons_zero, List.set_cons_succ]
            refine wpAnyH_done (by kernel_rfl) ?_ _
            go_wp2_with fail
            go_meet
            exact ⟨bp, x0, x1, x2, rfl, by simpa using (((hp.set_ 0 (.int .i64 x0)).set_ 1 (.int .i64 x1)).set_ 2 (.int .i64 x2)).set_ 3 (.int .i64 0), hD2, hpw, hfr⟩
        · have hZ : Below V0.heap.size V0 (V0.alloc (.cells #[.int .i64 0, .int .i64 0, .int .i64 0, .int .i64 0] 46)) := (Below.refl _ _).alloc (Nat.le_refl _) _
          have hfr : ∀ k, (Value.slice A gp.length c).ownBlock = some k → k ≠ V0.heap.size := fun k hk => by have : k < V0.heap.size := (hD.own.lt k hk).2; omega
          have hp : Blk (V0.alloc (.cells #[.int .i64 0, .int .i64 0, .int .i64 0, .int .i64 0] 46)) V0.heap.size 46 #[.int .i64 0, .int .i64 0, .int .i64 0, .int .i64 0] := Blk.newAt _ _ rfl
          have hpg : V0.heap.size ≠ g := by have : g < V0.heap.size := hD.src.lt; omega
          have hpw : w.heap.size ≤ V0.heap.size := hD.grown.size
          replace hD := hD.below hZ
          have z0 := hD.evs
          go_simp
          refine hK.out _ _ z0 (fun hH => ?_)
          clear hK K
          try simp only [Act.put, List.setIfInBounds_toArray, List.set_cons_zero, List.set_cons_succ]
          obtain ⟨W9, hW9⟩ : ∃ W9, (V0.alloc (.cells #[.int .i64 0, .int .i64 0, .int .i64 0, .int .i64 0] 46)) = W9 := ⟨_, rfl⟩
          obtain ⟨bp, hbp⟩ : ∃ bp, V0.heap.size = bp := ⟨_, rfl⟩
          rw [hbp] at hfr hp hpg hpw ⊢
          rw [hW9] at hp hD z0 hH ⊢
          clear hW9 hZ hbp
          refine wpAnyH_ready (rs := [3]) (by kernel_rfl) (by simp) ?_
          refine AllReadyH.cons rfl (fun K hK => ?_) AllReadyH.nil
          go_simp
          go_at_call 30
          refine (spec_l01Next g ge _ hD.src (by omega)).mono ?_
          rintro e v7 ⟨x0, rfl, hx0, hN⟩
          replace hx0 := Lib.hid hx0
          replace hp := hp.grown hN.2 (fun e => hpg (by injection e))
          replace hD := hD.draw hN
          clear hN
          have z0 := hD.evs
          refine hK.out _ _ z0 (fun hH => ?_)
          clear hK K
          try simp only [Act.put, List.setIfInBounds_toArray, List.set_cons_zero, List.set_cons_succ]
          refine wpAnyH_ready (rs := [7]) (by kernel_rfl) (by simp) ?_
          refine AllReadyH.cons rfl (fun K hK => ?_) AllReadyH.nil
          go_simp
          go_at_call 30
          refine (spec_l01Next g ge _ hD.src (by omega)).mono ?_
          rintro e v8 ⟨x1, rfl, hx1, hN⟩
          replace hx1 := Lib.hid hx1
          replace hp := hp.grown hN.2 (fun e => hpg (by injection e))
          replace hD := hD.draw hN
          clear hN
          have z0 := hD.evs
          refine hK.out _ _ z0 (fun hH => ?_)
          clear hK K
          try simp only [Act.put, List.setIfInBounds_toArray, List.set_cons_zero, List.set_cons_succ]
          refine wpAnyH_ready (rs := [9]) (by kernel_rfl) (by simp) ?_
          refine AllReadyH.cons rfl (fun K hK => ?_) AllReadyH.nil
          go_simp
          go_at_call 30
          refine (spec_l01Next g 12 _ hD.src (by omega)).mono ?_
          rintro e v9 ⟨x2, rfl, hx2, hN⟩
          replace hx2 := Lib.hid hx2
          replace hp := hp.grown hN.2 (fun e => hpg (by injection e))
          replace hD := hD.draw hN
          clear hN
          have z0 := hD.evs
          refine hK.out _ _ z0 (fun hH => ?_)
          clear hK K
          try simp only [Act.put, List.setIfInBounds_toArray, List.set_cons_zero, List.set_cons_succ]
          refine tkH 10 (v := ?_) rfl (fun _ _ _ h => h) (Or.inl ⟨by rfl, ?_⟩) hH ?_
          rotate_left
          · intro w9 hSw
            try dsimp only at hSw
            obtain s0 := hSw
            go_simp
            try with_reducible rfl
          try simp only [Act.put, List.setIfInBounds_toArray, List.set_cons_zero, List.set_cons_succ]
          have hf := hp.frozen
          have hl := hp.lt
          obtain ⟨c0, c1, c2, c3⟩ := hp.c4
          have hf0 := hf 0
          have hf1 := hf 1
          have hf2 := hf 2
          have hf3 := hf 3
          have hn1 : bp ≠ b2 := blk_ne hp hD.res (by decide)
          have hn2 : bp ≠ bg := blk_ne hp hD.box (by decide)
          have hn3 : (Value.slice A gp.length c).ownBlock ≠ some bp := fun e => hfr bp e rfl
          have hD2 := ((((hD.other (p := ⟨bp, 0, none⟩) hpw hn1 hn2 hn3 (.int .i64 x0)).other (p := ⟨bp, 1, none⟩) hpw hn1 hn2 hn3 (.int .i64 x1)).other (p := ⟨bp, 2, none⟩) hpw hn1 hn2 hn3 (.int .i64 x2)).other (p := ⟨bp, 3, none⟩) hpw hn1 hn2 hn3 (.int .i64 0))
          have z0 := Dr.evs hD2
          refine wpAnyH_ready (rs := [12]) (by kernel_rfl) (by simp) ?_
          refine AllReadyH.cons rfl (fun K hK => ?_) AllReadyH.nil
          go_simp
          refine hK.out _ _ z0 (fun hH => ?_)
          clear hK K
          try simp only [Act.put, List.setIfInBounds_toArray, List.set_cons_zero, List.set_cons_succ]
          refine wpAnyH_done (by kernel_rfl) ?_ _
          go_wp2_with fail
          go_meet
          exact ⟨bp, x0, x1, x2, rfl, by simpa using (((hp.set_ 0 (.int .i64 x0)).set_ 1 (.int .i64 x1)).set_ 2 (.int .i64 x2)).set_ 3 (.int .i64 0), hD2, hpw, hfr⟩
      case rest =>
        obtain ⟨bp, x0, x1, x2, rfl, hp, hD, hpw, hfr⟩ := hcut
        obtain ⟨wq, rfl⟩ : ∃ wq : World, wq = wc := ⟨_, rfl⟩
        have hpg : bp ≠ g := by have := hD.hg; omega
        obtain ⟨p0, p1, p2, p3⟩ := hp.c4
        have lbp := hp.lt
        by_cases hge : x1 ≤ x0
        · have hq0 : decide (x1 ≤ x0) = true := decide_eq_true hge
          go_wp2_with fail
          clear p0 p1 p2 p3 lbp hq0 hge
          refine (spec_l01Next g 2 _ hD.src (by omega)).mono ?_
          rintro e wb ⟨ya, rfl, hya, hN⟩
          replace hp := hp.grown hN.2 (fun e => hpg (by injection e))
          replace hD := hD.draw hN
          clear hN
          go_wp2_with fail
          refine (spec_l01Next g 3 _ hD.src (by omega)).mono ?_
          rintro e wd ⟨yb, rfl, hyb, hN⟩
          replace hp := hp.grown hN.2 (fun e => hpg (by injection e))
          replace hD := hD.draw hN
          clear hN
          have hab : 0 ≤ ya * yb ∧ ya * yb ≤ 2 := by
            have h1 := hya.1
            have h2 := hya.2.1 (by omega)
            have h3 := hyb.1
            have h4 := hyb.2.1 (by omega)
            have h5 : ya = 0 ∨ ya = 1 := by omega
            rcases h5 with h5 | h5 <;> rw [h5] <;> omega
          obtain ⟨tk, htk⟩ : ∃ tk, ya * yb = tk := ⟨_, rfl⟩
          rw [htk] at hab
          have wm1 : IntKind.i64.wrap (ya * yb) = tk := by rw [htk]; exact IntWalk.i64_in _ (by omega)
          have wm2 : IntKind.i64.wrap (1 + tk) = 1 + tk := IntWalk.i64_in _ (by omega)
          clear hya hyb htk
          have hl3 := hp.lt
          have hf3 := hp.frozen 3
          have hc3 := hp.c4.2.2.2
          go_wp2_with fail
          clear hl3 hf3 hc3
          replace hD := hD.other (p := ⟨bp, 3, none⟩) hpw (blk_ne hp hD.res (by decide)) (blk_ne hp hD.box (by decide)) (fun e => hfr bp e rfl) (.int .i64 (1 + tk))
          have hp' : Blk (wd.setCell ⟨bp, 3, none⟩ (.int .i64 (1 + tk))) bp 46 #[.int .i64 x0, .int .i64 x1, .int .i64 x2, .int .i64 (1 + tk)] := by simpa using hp.set_ 3 (.int .i64 (1 + tk))
          clear hp
          have hp := hp'
          clear hp'
          refine (spec_l01Next g 30 _ hD.src (by omega)).mono ?_
          rintro e wa ⟨y30, rfl, hy, hN⟩
          clear hy
          replace hp := hp.grown hN.2 (fun e => hpg (by injection e))
          replace hD := hD.draw hN
          clear hN
          by_cases hz : y30 = 0
          · have hq : (y30 == 0) = true := by simp [hz]
            clear hz
            have hl3 := hp.lt
            have hf3 := hp.frozen 3
            have hc3 := hp.c4.2.2.2
            replace hD := hD.other (p := ⟨bp, 3, none⟩) hpw (blk_ne hp hD.res (by decide)) (blk_ne hp hD.box (by decide)) (fun e => hfr bp e rfl) (.int .i64 0)
            have hp' : Blk (wa.setCell ⟨bp, 3, none⟩ (.int .i64 0)) bp 46 #[.int .i64 x0, .int .i64 x1, .int .i64 x2, .int .i64 0] := by simpa using hp.set_ 3 (.int .i64 0)
            clear hp
            have hp := hp'
            clear hp'
            have hZ : Below (wa.setCell ⟨bp, 3, none⟩ (.int .i64 0)).heap.size (wa.setCell ⟨bp, 3, none⟩ (.int .i64 0)) ((wa.setCell ⟨bp, 3, none⟩ (.int .i64 0)).alloc (.cells #[.int .i64 x0, .int .i64 x1, .int .i64 x2, .int .i64 0] 46)) := (Below.refl _ _).alloc (Nat.le_refl _) _
            have hDz := hD.below hZ
            obtain ⟨e0, e1⟩ := hD.box.c2
            have lbg := hD.box.lt
            obtain ⟨p0, p1, p2, p3⟩ := hp.c4
            have lbp := hp.lt
            have hbs := hDz.grown.size
            have hlenA : gp.length + [(⟨x0, x1, x2, 0⟩ : Place)].length ≤ 1099511627776 := by simp; omega
            have hLL : Hid ((gp ++ [(⟨x0, x1, x2, 0⟩ : Place)]).length = gp.length + 1) := by show _ = _; simp
            have hneb : some bg ≠ (Value.slice A gp.length c).ownBlock := fun e => hDz.own.ne_blk hDz.box (by decide) e.symm
            have hDzH := Lib.hid hDz
            have hnebH := Lib.hid hneb
            clear hneb
            go_wp2_with (at_builtin; refine wpList_append_lst rfl _ _ 24 rfl Place.cells 4 Place.cells_one (by omega) w.heap.size 46 _ 32 Try.underlying24 info_place rfl _ _ rfl hDzH.out.own _ _ _ _ [(⟨x0, x1, x2, 0⟩ : Place)] rfl (lst_new1 _ _ Place.cells_len _ _ _ _ rfl _ (by simp)) hlenA (by omega) hbs ?_; intro v' w9 hO1 hG1 hD1; obtain ⟨V1, cv1, rfl⟩ := own_shape_n hO1 hLL.out; have hbx := hDzH.out.box.grown hG1 hnebH.out; obtain ⟨f0, f1⟩ := hbx.f2; have l9 := hbx.lt; obtain ⟨b0, b1⟩ := hbx.c2; have hDn := Lib.hid (hDzH.out.app hG1 hO1))
            go_roundw
            case rel => exact ⟨j, _, _, by go_num, by simp; omega, hDn.out⟩
            case measure => simp [intOf] <;> omega
          · have hq : (y30 == 0) = false := by simpa using hz
            clear hz
            have hZ : Below wa.heap.size wa (wa.alloc (.cells #[.int .i64 x0, .int .i64 x1, .int .i64 x2, .int .i64 (1 + tk)] 46)) := (Below.refl _ _).alloc (Nat.le_refl _) _
            have hDz := hD.below hZ
            obtain ⟨e0, e1⟩ := hD.box.c2
            have lbg := hD.box.lt
            obtain ⟨p0, p1, p2, p3⟩ := hp.c4
            have lbp := hp.lt
            have hbs := hDz.grown.size
            have hlenA : gp.length + [(⟨x0, x1, x2, (1 + tk)⟩ : Place)].length ≤ 1099511627776 := by simp; omega
            have hLL : Hid ((gp ++ [(⟨x0, x1, x2, (1 + tk)⟩ : Place)]).length = gp.length + 1) := by show _ = _; simp
            have hneb : some bg ≠ (Value.slice A gp.length c).ownBlock := fun e => hDz.own.ne_blk hDz.box (by decide) e.symm
            have hDzH := Lib.hid hDz
            have hnebH := Lib.hid hneb
            clear hneb
            go_wp2_with (at_builtin; refine wpList_append_lst rfl _ _ 24 rfl Place.cells 4 Place.cells_one (by omega) w.heap.size 46 _ 32 Try.underlying24 info_place rfl _ _ rfl hDzH.out.own _ _ _ _ [(⟨x0, x1, x2, (1 + tk)⟩ : Place)] rfl (lst_new1 _ _ Place.cells_len _ _ _ _ rfl _ (by simp)) hlenA (by omega) hbs ?_; intro v' w9 hO1 hG1 hD1; obtain ⟨V1, cv1, rfl⟩ := own_shape_n hO1 hLL.out; have hbx := hDzH.out.box.grown hG1 hnebH.out; obtain ⟨f0, f1⟩ := hbx.f2; have l9 := hbx.lt; obtain ⟨b0, b1⟩ := hbx.c2; have hDn := Lib.hid (hDzH.out.app hG1 hO1))
            go_roundw
            case rel => exact ⟨j, _, _, by go_num, by simp; omega, hDn.out⟩
            case measure => simp [intOf] <;> omega
        · have hq0 : decide (x1 ≤ x0) = false := decide_eq_false hge
          go_wp2_with fail
          clear p0 p1 p2 p3 lbp hq0 hge
          refine (spec_l01Next g 4 _ hD.src (by omega)).mono ?_
          rintro e wf ⟨y4, rfl, hy4, hN⟩
          clear hy4
          replace hp := hp.grown hN.2 (fun e => hpg (by injection e))
          replace hD := hD.draw hN
          clear hN
          by_cases hz4 : y4 = 0
          · have hq4 : (y4 == 0) = true := by simp [hz4]
            clear hz4
            go_wp2_with fail
            refine (spec_l01Next g 2 _ hD.src (by omega)).mono ?_
            rintro e wb ⟨ya, rfl, hya, hN⟩
            replace hp := hp.grown hN.2 (fun e => hpg (by injection e))
            replace hD := hD.draw hN
            clear hN
            go_wp2_with fail
            refine (spec_l01Next g 3 _ hD.src (by omega)).mono ?_
            rintro e wd ⟨yb, rfl, hyb, hN⟩
            replace hp := hp.grown hN.2 (fun e => hpg (by injection e))
            replace hD := hD.draw hN
            clear hN
            have hab : 0 ≤ ya * yb ∧ ya * yb ≤ 2 := by
              have h1 := hya.1
              have h2 := hya.2.1 (by omega)
              have h3 := hyb.1
              have h4 := hyb.2.1 (by omega)
              have h5 : ya = 0 ∨ ya = 1 := by omega
              rcases h5 with h5 | h5 <;> rw [h5] <;> omega
            obtain ⟨tk, htk⟩ : ∃ tk, ya * yb = tk := ⟨_, rfl⟩
            rw [htk] at hab
            have wm1 : IntKind.i64.wrap (ya * yb) = tk := by rw [htk]; exact IntWalk.i64_in _ (by omega)
            have wm2 : IntKind.i64.wrap (1 + tk) = 1 + tk := IntWalk.i64_in _ (by omega)
            clear hya hyb htk
            have hl3 := hp.lt
            have hf3 := hp.frozen 3
            have hc3 := hp.c4.2.2.2
            go_wp2_with fail
            clear hl3 hf3 hc3
            replace hD := hD.other (p := ⟨bp, 3, none⟩) hpw (blk_ne hp hD.res (by decide)) (blk_ne hp hD.box (by decide)) (fun e => hfr bp e rfl) (.int .i64 (1 + tk))
            have hp' : Blk (wd.setCell ⟨bp, 3, none⟩ (.int .i64 (1 + tk))) bp 46 #[.int .i64 x0, .int .i64 x1, .int .i64 x2, .int .i64 (1 + tk)] := by simpa using hp.set_ 3 (.int .i64 (1 + tk))
            clear hp
            have hp := hp'
            clear hp'
            refine (spec_l01Next g 30 _ hD.src (by omega)).mono ?_
            rintro e wa ⟨y30, rfl, hy, hN⟩
            clear hy
            replace hp := hp.grown hN.2 (fun e => hpg (by injection e))
            replace hD := hD.draw hN
            clear hN
            by_cases hz : y30 = 0
            · have hq : (y30 == 0) = true := by simp [hz]
              clear hz
              have hl3 := hp.lt
              have hf3 := hp.frozen 3
              have hc3 := hp.c4.2.2.2
              replace hD := hD.other (p := ⟨bp, 3, none⟩) hpw (blk_ne hp hD.res (by decide)) (blk_ne hp hD.box (by decide)) (fun e => hfr bp e rfl) (.int .i64 0)
              have hp' : Blk (wa.setCell ⟨bp, 3, none⟩ (.int .i64 0)) bp 46 #[.int .i64 x0, .int .i64 x1, .int .i64 x2, .int .i64 0] := by simpa using hp.set_ 3 (.int .i64 0)
              clear hp
              have hp := hp'
              clear hp'
              have hZ : Below (wa.setCell ⟨bp, 3, none⟩ (.int .i64 0)).heap.size (wa.setCell ⟨bp, 3, none⟩ (.int .i64 0)) ((wa.setCell ⟨bp, 3, none⟩ (.int .i64 0)).alloc (.cells #[.int .i64 x0, .int .i64 x1, .int .i64 x2, .int .i64 0] 46)) := (Below.refl _ _).alloc (Nat.le_refl _) _
              have hDz := hD.below hZ
              obtain ⟨e0, e1⟩ := hD.box.c2
              have lbg := hD.box.lt
              obtain ⟨p0, p1, p2, p3⟩ := hp.c4
              have lbp := hp.lt
              have hbs := hDz.grown.size
              have hlenA : gp.length + [(⟨x0, x1, x2, 0⟩ : Place)].length ≤ 1099511627776 := by simp; omega
              have hLL : Hid ((gp ++ [(⟨x0, x1, x2, 0⟩ : Place)]).length = gp.length + 1) := by show _ = _; simp
              have hneb : some bg ≠ (Value.slice A gp.length c).ownBlock := fun e => hDz.own.ne_blk hDz.box (by decide) e.symm
              have hDzH := Lib.hid hDz
              have hnebH := Lib.hid hneb
              clear hneb
              go_wp2_with (at_builtin; refine wpList_append_lst rfl _ _ 24 rfl Place.cells 4 Place.cells_one (by omega) w.heap.size 46 _ 32 Try.underlying24 info_place rfl _ _ rfl hDzH.out.own _ _ _ _ [(⟨x0, x1, x2, 0⟩ : Place)] rfl (lst_new1 _ _ Place.cells_len _ _ _ _ rfl _ (by simp)) hlenA (by omega) hbs ?_; intro v' w9 hO1 hG1 hD1; obtain ⟨V1, cv1, rfl⟩ := own_shape_n hO1 hLL.out; have hbx := hDzH.out.box.grown hG1 hnebH.out; obtain ⟨f0, f1⟩ := hbx.f2; have l9 := hbx.lt; obtain ⟨b0, b1⟩ := hbx.c2; have hDn := Lib.hid (hDzH.out.app hG1 hO1))
              go_roundw
              case rel => exact ⟨j, _, _, by go_num, by simp; omega, hDn.out⟩
              case measure => simp [intOf] <;> omega
            · have hq : (y30 == 0) = false := by simpa using hz
              clear hz
              have hZ : Below wa.heap.size wa (wa.alloc (.cells #[.int .i64 x0, .int .i64 x1, .int .i64 x2, .int .i64 (1 + tk)] 46)) := (Below.refl _ _).alloc (Nat.le_refl _) _
              have hDz := hD.below hZ
              obtain ⟨e0, e1⟩ := hD.box.c2
              have lbg := hD.box.lt
              obtain ⟨p0, p1, p2, p3⟩ := hp.c4
              have lbp := hp.lt
              have hbs := hDz.grown.size
              have hlenA : gp.length + [(⟨x0, x1, x2, (1 + tk)⟩ : Place)].length ≤ 1099511627776 := by simp; omega
              have hLL : Hid ((gp ++ [(⟨x0, x1, x2, (1 + tk)⟩ : Place)]).length = gp.length + 1) := by show _ = _; simp
              have hneb : some bg ≠ (Value.slice A gp.length c).ownBlock := fun e => hDz.own.ne_blk hDz.box (by decide) e.symm
              have hDzH := Lib.hid hDz
              have hnebH := Lib.hid hneb
              clear hneb
              go_wp2_with (at_builtin; refine wpList_append_lst rfl _ _ 24 rfl Place.cells 4 Place.cells_one (by omega) w.heap.size 46 _ 32 Try.underlying24 info_place rfl _ _ rfl hDzH.out.own _ _ _ _ [(⟨x0, x1, x2, (1 + tk)⟩ : Place)] rfl (lst_new1 _ _ Place.cells_len _ _ _ _ rfl _ (by simp)) hlenA (by omega) hbs ?_; intro v' w9 hO1 hG1 hD1; obtain ⟨V1, cv1, rfl⟩ := own_shape_n hO1 hLL.out; have hbx := hDzH.out.box.grown hG1 hnebH.out; obtain ⟨f0, f1⟩ := hbx.f2; have l9 := hbx.lt; obtain ⟨b0, b1⟩ := hbx.c2; have hDn := Lib.hid (hDzH.out.app hG1 hO1))
              go_roundw
              case rel => exact ⟨j, _, _, by go_num, by simp; omega, hDn.out⟩
              case measure => simp [intOf] <;> omega
          · have hq4 : (y4 == 0) = false := by simpa using hz4
            clear hz4
            go_wp2_with fail
            refine (spec_l01Next g 30 _ hD.src (by omega)).mono ?_
            rintro e wa ⟨y30, rfl, hy, hN⟩
            clear hy
            replace hp := hp.grown hN.2 (fun e => hpg (by injection e))
            replace hD := hD.draw hN
            clear hN
            by_cases hz : y30 = 0
            · have hq : (y30 == 0) = true := by simp [hz]
              clear hz
              have hl3 := hp.lt
              have hf3 := hp.frozen 3
              have hc3 := hp.c4.2.2.2
              replace hD := hD.other (p := ⟨bp, 3, none⟩) hpw (blk_ne hp hD.res (by decide)) (blk_ne hp hD.box (by decide)) (fun e => hfr bp e rfl) (.int .i64 0)
              have hp' : Blk (wa.setCell ⟨bp, 3, none⟩ (.int .i64 0)) bp 46 #[.int .i64 x0, .int .i64 x1, .int .i64 x2, .int .i64 0] := by simpa using hp.set_ 3 (.int .i64 0)
              clear hp
              have hp := hp'
              clear hp'
              have hZ : Below (wa.setCell ⟨bp, 3, none⟩ (.int .i64 0)).heap.size (wa.setCell ⟨bp, 3, none⟩ (.int .i64 0)) ((wa.setCell ⟨bp, 3, none⟩ (.int .i64 0)).alloc (.cells #[.int .i64 x0, .int .i64 x1, .int .i64 x2, .int .i64 0] 46)) := (Below.refl _ _).alloc (Nat.le_refl _) _
              have hDz := hD.below hZ
              obtain ⟨e0, e1⟩ := hD.box.c2
              have lbg := hD.box.lt
              obtain ⟨p0, p1, p2, p3⟩ := hp.c4
              have lbp := hp.lt
              have hbs := hDz.grown.size
              have hlenA : gp.length + [(⟨x0, x1, x2, 0⟩ : Place)].length ≤ 1099511627776 := by simp; omega
              have hLL : Hid ((gp ++ [(⟨x0, x1, x2, 0⟩ : Place)]).length = gp.length + 1) := by show _ = _; simp
              have hneb : some bg ≠ (Value.slice A gp.length c).ownBlock := fun e => hDz.own.ne_blk hDz.box (by decide) e.symm
              have hDzH := Lib.hid hDz
              have hnebH := Lib.hid hneb
              clear hneb
              go_wp2_with (at_builtin; refine wpList_append_lst rfl _ _ 24 rfl Place.cells 4 Place.cells_one (by omega) w.heap.size 46 _ 32 Try.underlying24 info_place rfl _ _ rfl hDzH.out.own _ _ _ _ [(⟨x0, x1, x2, 0⟩ : Place)] rfl (lst_new1 _ _ Place.cells_len _ _ _ _ rfl _ (by simp)) hlenA (by omega) hbs ?_; intro v' w9 hO1 hG1 hD1; obtain ⟨V1, cv1, rfl⟩ := own_shape_n hO1 hLL.out; have hbx := hDzH.out.box.grown hG1 hnebH.out; obtain ⟨f0, f1⟩ := hbx.f2; have l9 := hbx.lt; obtain ⟨b0, b1⟩ := hbx.c2; have hDn := Lib.hid (hDzH.out.app hG1 hO1))
              go_roundw
              case rel => exact ⟨j, _, _, by go_num, by simp; omega, hDn.out⟩
              case measure => simp [intOf] <;> omega
            · have hq : (y30 == 0) = false := by simpa using hz
              clear hz
              have hZ : Below wa.heap.size wa (wa.alloc (.cells #[.int .i64 x0, .int .i64 x1, .int .i64 x2, .int .i64 0] 46)) := (Below.refl _ _).alloc (Nat.le_refl _) _
              have hDz := hD.below hZ
              obtain ⟨e0, e1⟩ := hD.box.c2
              have lbg := hD.box.lt
              obtain ⟨p0, p1, p2, p3⟩ := hp.c4
              have lbp := hp.lt
              have hbs := hDz.grown.size
              have hlenA : gp.length + [(⟨x0, x1, x2, 0⟩ : Place)].length ≤ 1099511627776 := by simp; omega
              have hLL : Hid ((gp ++ [(⟨x0, x1, x2, 0⟩ : Place)]).length = gp.length + 1) := by show _ = _; simp
              have hneb : some bg ≠ (Value.slice A gp.length c).ownBlock := fun e => hDz.own.ne_blk hDz.box (by decide) e.symm
              have hDzH := Lib.hid hDz
              have hnebH := Lib.hid hneb
              clear hneb
              go_wp2_with (at_builtin; refine wpList_append_lst rfl _ _ 24 rfl Place.cells 4 Place.cells_one (by omega) w.heap.size 46 _ 32 Try.underlying24 info_place rfl _ _ rfl hDzH.out.own _ _ _ _ [(⟨x0, x1, x2, 0⟩ : Place)] rfl (lst_new1 _ _ Place.cells_len _ _ _ _ rfl _ (by simp)) hlenA (by omega) hbs ?_; intro v' w9 hO1 hG1 hD1; obtain ⟨V1, cv1, rfl⟩ := own_shape_n hO1 hLL.out; have hbx := hDzH.out.box.grown hG1 hnebH.out; obtain ⟨f0, f1⟩ := hbx.f2; have l9 := hbx.lt; obtain ⟨b0, b1⟩ := hbx.c2; have hDn := Lib.hid (hDzH.out.app hG1 hO1))
              go_roundw
              case rel => exact ⟨j, _, _, by go_num, by simp; omega, hDn.out⟩
              case measure => simp [intOf] <;> omega
    · obtain rfl : k = 0 := by omega
      have hlen9 : gp.length ≤ 9 := by omega
      go_wp2_with fail
      refine (spec_l01Next g 60 _ hD.src (by omega)).mono ?_
      rintro e wa ⟨q, rfl, hq, hN⟩
      replace hD := hD.draw hN
      clear hN hq hpos
      by_cases h0 : q = 0
      · subst h0
        go_wp2_with fail
        have hZ : Below wa.heap.size wa (wa.alloc (.cells #[.int .i64 0, .int .i64 10, .int .i64 11] 2)) := (Below.refl _ _).alloc (Nat.le_refl _) _
        replace hD := hD.below hZ
        clear hZ
        refine (spec_l01Pick g wa.heap.size [0, 10, 11] _ hD.src (Blk.newAt _ _ rfl) (by simp) (by simp)).mono ?_
        rintro e wk ⟨pk, hpk, rfl, hN⟩
        replace hD := hD.draw hN
        clear hN
        have hpk2 : 0 ≤ pk ∧ pk ≤ 11 := by simp at hpk; omega
        obtain ⟨e0, e1⟩ := hD.box.c2
        have lbg := hD.box.lt
        have f0' := hD.box.frozen 0
        replace hD := hD.setE pk
        obtain ⟨e0, e1⟩ := hD.box.c2
        have lbg := hD.box.lt
        have f0 := hD.res.frozen 0
        have f1 := hD.res.frozen 1
        have lb2 := hD.res.lt
        obtain ⟨r0, r1⟩ := hD.res.c2
        have hF := Lib.hid hD.fin
        clear hD
        go_wp2
        refine bodyPost_ret (v := .agg #[.int .i64 pk, _]) (by simp [results, Try.results19, go_sem, r0, r1]) rfl ⟨_, _, _, rfl, by omega, by omega, by first | (omega) | (simp; omega), hF.out.1, hF.out.2⟩
      · by_cases h1 : q = 1
        · subst h1
          go_wp2_with fail
          replace hD := hD.below (Below.drew (Below.refl _ wa))
          go_wp2_with fail
          refine wp_region_E (fun w' => w'.cell? ⟨bg, 1, none⟩ = some (.slice A gp.length c) ∧ w'.cell? ⟨bg, 0, none⟩ = some (.int .i64 ge)) 14 (by kernel_rfl) ?_
          have hS0 : (fun w' : World => w'.cell? ⟨bg, 1, none⟩ = some (.slice A gp.length c) ∧ w'.cell? ⟨bg, 0, none⟩ = some (.int .i64 ge)) wa.drew := ⟨hD.pls, hD.evs⟩
          clear hS0
          generalize wa.drew = V0 at *
          have hS0 : (fun w' : World => w'.cell? ⟨bg, 1, none⟩ = some (.slice A gp.length c) ∧ w'.cell? ⟨bg, 0, none⟩ = some (.int .i64 ge)) V0 := ⟨hD.pls, hD.evs⟩
          have hgV : V0.heap.size ≠ g := by have := hD.src.lt; omega
          have hgV1 : V0.heap.size + 1 ≠ g := by have := hD.src.lt; omega
          refine wpAnyE_take (i := 0) (v := ?_) rfl (by kernel_rfl) (by kernel_rfl) (by kernel_rfl) (by kernel_rfl) (by kernel_rfl) (fun _ _ _ h => h) hS0 (by rfl) ?_ ?_
          rotate_left
          · intro w9 hSw
            try dsimp only at hSw
            obtain ⟨s0, s1⟩ := hSw
            go_simp
            try with_reducible rfl
          try simp only [Act.put, List.setIfInBounds_toArray, List.set_cons_zero, List.set_cons_succ]
          refine wpAnyE_take (i := 1) (v := ?_) rfl (by kernel_rfl) (by kernel_rfl) (by kernel_rfl) (by kernel_rfl) (by kernel_rfl) (fun _ _ _ h => h) hS0 (by rfl) ?_ ?_
          rotate_left
          · intro w9 hSw
            try dsimp only at hSw
            obtain ⟨s0, s1⟩ := hSw
            go_simp
            try with_reducible rfl
          try simp only [Act.put, List.setIfInBounds_toArray, List.set_cons_zero, List.set_cons_succ]
          refine wpAnyE_take (i := 2) (v := ?_) rfl (by kernel_rfl) (by kernel_rfl) (by kernel_rfl) (by kernel_rfl) (by kernel_rfl) (fun _ _ _ h => h) hS0 (by rfl) ?_ ?_
          rotate_left
          · intro w9 hSw
            try dsimp only at hSw
            obtain ⟨s0, s1⟩ := hSw
            go_simp
            try with_reducible rfl
          try simp only [Act.put, List.setIfInBounds_toArray, List.set_cons_zero, List.set_cons_succ]
          refine wpAnyE_take (i := 3) (v := ?_) rfl (by kernel_rfl) (by kernel_rfl) (by kernel_rfl) (by kernel_rfl) (by kernel_rfl) (fun _ _ _ h => h) hS0 (by rfl) ?_ ?_
          rotate_left
          · intro w9 hSw
            try dsimp only at hSw
            obtain ⟨s0, s1⟩ := hSw
            go_simp
            try with_reducible rfl
          try simp only [Act.put, List.setIfInBounds_toArray, List.set_cons_zero, List.set_cons_succ]
          refine wpAnyE_take (i := 4) (v := ?_) rfl (by kernel_rfl) (by kernel_rfl) (by kernel_rfl) (by kernel_rfl) (by kernel_rfl) (fun _ _ _ h => h) hS0 (by rfl) ?_ ?_
          rotate_left
          · intro w9 hSw
            try dsimp only at hSw
            obtain ⟨s0, s1⟩ := hSw
            go_simp
            try with_reducible rfl
          try simp only [Act.put, List.setIfInBounds_toArray, List.set_cons_zero, List.set_cons_succ]
          refine wpAnyE_take (i := 7) (v := ?_) rfl (by kernel_rfl) (by kernel_rfl) (by kernel_rfl) (by kernel_rfl) (by kernel_rfl) (fun _ _ _ h => h) hS0 (by rfl) ?_ ?_
          rotate_left
          · intro w9 hSw
            try dsimp only at hSw
            obtain ⟨s0, s1⟩ := hSw
            go_simp
            try with_reducible rfl
          try simp only [Act.put, List.setIfInBounds_toArray, List.set_cons_zero, List.set_cons_succ]
          refine wpAnyE_two (i := 5) (j := 8) rfl rfl (by kernel_rfl) (fun K hK => ?_) (fun K hK => ?_)
          · have hZ : Below V0.heap.size V0 (V0.alloc (.cells #[.int .i64 (-1), .int .i64 0, .int .i64 ge] 2)) := (Below.refl _ _).alloc (Nat.le_refl _) _
            have hL5 : Blk (V0.alloc (.cells #[.int .i64 (-1), .int .i64 0, .int .i64 ge] 2)) (V0.heap.size) 2 (intVals [-1, 0, ge]) := Blk.newAt _ _ (by simp)
            replace hD := hD.below hZ
            clear hZ
            go_simp
            refine hK.out _ _ (fun _ => ⟨hD.pls, hD.evs⟩) ?_
            clear hK K
            try simp only [Act.put, List.setIfInBounds_toArray, List.set_cons_zero, List.set_cons_succ]
            refine wpAnyE_two (i := 6) (j := 8) rfl rfl (by kernel_rfl) (fun K hK => ?_) (fun K hK => ?_)
            · go_simp
              go_at_call 46
              refine (spec_l01Pick g (V0.heap.size) [-1, 0, ge] _ hD.src hL5 (by simp) (by simp)).mono ?_
              rintro e uxa ⟨xa, hxa, rfl, hN⟩
              replace hD := hD.draw hN
              clear hN hxa
              refine hK.out _ _ (fun _ => ⟨hD.pls, hD.evs⟩) ?_
              clear hK K
              try simp only [Act.put, List.setIfInBounds_toArray, List.set_cons_zero, List.set_cons_succ]
              refine wpAnyE_one (i := 8) rfl (by kernel_rfl) (fun K hK => ?_)
              have hZ : Below uxa.heap.size uxa (uxa.alloc (.cells #[.int .i64 (-1), .int .i64 1000, .int .i64 1001] 2)) := (Below.refl _ _).alloc (Nat.le_refl _) _
              have hL8 : Blk (uxa.alloc (.cells #[.int .i64 (-1), .int .i64 1000, .int .i64 1001] 2)) (uxa.heap.size) 2 (intVals [-1, 1000, 1001]) := Blk.newAt _ _ (by simp)
              replace hD := hD.below hZ
              clear hZ
              go_simp
              refine hK.out _ _ (fun _ => ⟨hD.pls, hD.evs⟩) ?_
              clear hK K
              try simp only [Act.put, List.setIfInBounds_toArray, List.set_cons_zero, List.set_cons_succ]
              refine wpAnyE_one (i := 9) rfl (by kernel_rfl) (fun K hK => ?_)
              go_simp
              go_at_call 46
              refine (spec_l01Pick g (uxa.heap.size) [-1, 1000, 1001] _ hD.src hL8 (by simp) (by simp)).mono ?_
              rintro e uxb ⟨xb, hxb, rfl, hN⟩
              replace hD := hD.draw hN
              clear hN hxb
              refine hK.out _ _ (fun _ => ⟨hD.pls, hD.evs⟩) ?_
              clear hK K
              try simp only [Act.put, List.setIfInBounds_toArray, List.set_cons_zero, List.set_cons_succ]
              refine wpAnyE_take (i := 10) (v := ?_) rfl (by kernel_rfl) (by kernel_rfl) (by kernel_rfl) (by kernel_rfl) (by kernel_rfl) (fun _ _ _ h => h) (show (fun w' : World => w'.cell? ⟨bg, 1, none⟩ = some (.slice A gp.length c) ∧ w'.cell? ⟨bg, 0, none⟩ = some (.int .i64 ge)) uxb from ⟨hD.pls, hD.evs⟩) (by rfl) ?_ ?_
              rotate_left
              · intro w9 hSw
                try dsimp only at hSw
                go_simp
                try with_reducible rfl
              try simp only [Act.put, List.setIfInBounds_toArray, List.set_cons_zero, List.set_cons_succ]
              refine wpAnyE_one (i := 11) rfl (by kernel_rfl) (fun K hK => ?_)
              have hZ2 : Below uxb.heap.size uxb (uxb.alloc (.cells #[.int .i64 xa, .int .i64 0, .int .i64 xb, .int .i64 1] 46)) := (Below.refl _ _).alloc (Nat.le_refl _) _
              have hLst := lst_new1 Place.cells 4 Place.cells_len uxb 46 (⟨xa, 0, xb, 1⟩ : Place) _ rfl _ rfl
              have hLL : Hid ((gp ++ [(⟨xa, 0, xb, 1⟩ : Place)]).length = gp.length + 1) := by show _ = _; simp
              replace hD := hD.below hZ2
              go_simp
              refine hK.out _ _ (fun _ => ⟨hD.pls, hD.evs⟩) ?_
              clear hK K
              try simp only [Act.put, List.setIfInBounds_toArray, List.set_cons_zero, List.set_cons_succ]
              refine wpAnyE_one (i := 12) rfl (by kernel_rfl) (fun K hK => ?_)
              have hbsQ := hD.grown.size
              refine step_append_lst rfl _ _ 24 rfl Place.cells 4 Place.cells_one (by omega) w.heap.size 46 _ 32 Try.underlying24 info_place rfl (.slice A gp.length c) gp rfl hD.own _ _ _ _ [(⟨xa, 0, xb, 1⟩ : Place)] rfl hLst (by simp; omega) (by omega) hbsQ ?_
              intro v' w9 hO1 hG1 hD1
              obtain ⟨V1, cv1, rfl⟩ := own_shape_n hO1 hLL.out
              have hbx := hD.box.grown hG1 (fun e => hD.own.ne_blk hD.box (by decide) e.symm)
              obtain ⟨f0, f1⟩ := hbx.f2
              have l9 := hbx.lt
              obtain ⟨b0, b1⟩ := hbx.c2
              replace hD := hD.app hG1 hO1
              refine hK.out _ _ (fun _ => ⟨b1, b0⟩) ?_
              clear hK K
              try simp only [Act.put, List.setIfInBounds_toArray, List.set_cons_zero, List.set_cons_succ]
              refine wpAnyE_one (i := 13) rfl (by kernel_rfl) (fun K hK => ?_)
              go_simp
              refine hK.out _ _ (fun _ => ⟨b1, b0⟩) ?_
              clear hK K
              try simp only [Act.put, List.setIfInBounds_toArray, List.set_cons_zero, List.set_cons_succ]
              refine wpAnyE_one (i := 14) rfl (by kernel_rfl) (fun K hK => ?_)
              go_simp
              refine hK.out _ _ (fun h => absurd rfl h) ?_
              clear hK K
              try simp only [Act.put, List.setIfInBounds_toArray, List.set_cons_zero, List.set_cons_succ]
              refine wpAnyE_done (by kernel_rfl) ?_
              obtain ⟨e0, e1⟩ := hD.box.c2
              have lbg := hD.box.lt
              have f0 := hD.res.frozen 0
              have f1 := hD.res.frozen 1
              have lb2 := hD.res.lt
              obtain ⟨r0, r1⟩ := hD.res.c2
              have hF := Lib.hid hD.fin
              clear hD
              go_wp2
              refine bodyPost_ret (v := .agg #[.int .i64 ge, _]) (by simp [results, Try.results19, go_sem, r0, r1]) rfl ⟨_, _, _, rfl, by omega, by omega, by first | (simp; omega) | (simp; omega), hF.out.1, hF.out.2⟩
            · have hZ : Below (V0.alloc (.cells #[.int .i64 (-1), .int .i64 0, .int .i64 ge] 2)).heap.size (V0.alloc (.cells #[.int .i64 (-1), .int .i64 0, .int .i64 ge] 2)) ((V0.alloc (.cells #[.int .i64 (-1), .int .i64 0, .int .i64 ge] 2)).alloc (.cells #[.int .i64 (-1), .int .i64 1000, .int .i64 1001] 2)) := (Below.refl _ _).alloc (Nat.le_refl _) _
              replace hL5 := hL5.now hZ
              have hL8 : Blk ((V0.alloc (.cells #[.int .i64 (-1), .int .i64 0, .int .i64 ge] 2)).alloc (.cells #[.int .i64 (-1), .int .i64 1000, .int .i64 1001] 2)) (V0.heap.size + 1) 2 (intVals [-1, 1000, 1001]) := Blk.newAt _ _ (by simp)
              replace hD := hD.below hZ
              clear hZ
              go_simp
              refine hK.out _ _ (fun _ => ⟨hD.pls, hD.evs⟩) ?_
              clear hK K
              try simp only [Act.put, List.setIfInBounds_toArray, List.set_cons_zero, List.set_cons_succ]
              refine wpAnyE_one (i := 6) rfl (by kernel_rfl) (fun K hK => ?_)
              go_simp
              go_at_call 46
              refine (spec_l01Pick g (V0.heap.size) [-1, 0, ge] _ hD.src hL5 (by simp) (by simp)).mono ?_
              rintro e uxa ⟨xa, hxa, rfl, hN⟩
              replace hL8 := hL8.grown hN.2 (fun e => hgV1 (by injection e))
              replace hD := hD.draw hN
              clear hN hxa
              refine hK.out _ _ (fun _ => ⟨hD.pls, hD.evs⟩) ?_
              clear hK K
              try simp only [Act.put, List.setIfInBounds_toArray, List.set_cons_zero, List.set_cons_succ]
              refine wpAnyE_one (i := 9) rfl (by kernel_rfl) (fun K hK => ?_)
              go_simp
              go_at_call 46
              refine (spec_l01Pick g (V0.heap.size + 1) [-1, 1000, 1001] _ hD.src hL8 (by simp) (by simp)).mono ?_
              rintro e uxb ⟨xb, hxb, rfl, hN⟩
              replace hD := hD.draw hN
              clear hN hxb
              refine hK.out _ _ (fun _ => ⟨hD.pls, hD.evs⟩) ?_
              clear hK K
              try simp only [Act.put, List.setIfInBounds_toArray, List.set_cons_zero, List.set_cons_succ]
              refine wpAnyE_take (i := 10) (v := ?_) rfl (by kernel_rfl) (by kernel_rfl) (by kernel_rfl) (by kernel_rfl) (by kernel_rfl) (fun _ _ _ h => h) (show (fun w' : World => w'.cell? ⟨bg, 1, none⟩ = some (.slice A gp.length c) ∧ w'.cell? ⟨bg, 0, none⟩ = some (.int .i64 ge)) uxb from ⟨hD.pls, hD.evs⟩) (by rfl) ?_ ?_
              rotate_left
              · intro w9 hSw
                try dsimp only at hSw
                go_simp
                try with_reducible rfl
              try simp only [Act.put, List.setIfInBounds_toArray, List.set_cons_zero, List.set_cons_succ]
              refine wpAnyE_one (i := 11) rfl (by kernel_rfl) (fun K hK => ?_)
              have hZ2 : Below uxb.heap.size uxb (uxb.alloc (.cells #[.int .i64 xa, .int .i64 0, .int .i64 xb, .int .i64 1] 46)) := (Below.refl _ _).alloc (Nat.le_refl _) _
              have hLst := lst_new1 Place.cells 4 Place.cells_len uxb 46 (⟨xa, 0, xb, 1⟩ : Place) _ rfl _ rfl
              have hLL : Hid ((gp ++ [(⟨xa, 0, xb, 1⟩ : Place)]).length = gp.length + 1) := by show _ = _; simp
              replace hD := hD.below hZ2
              go_simp
              refine hK.out _ _ (fun _ => ⟨hD.pls, hD.evs⟩) ?_
              clear hK K
              try simp only [Act.put, List.setIfInBounds_toArray, List.set_cons_zero, List.set_cons_succ]
              refine wpAnyE_one (i := 12) rfl (by kernel_rfl) (fun K hK => ?_)
              have hbsQ := hD.grown.size
              refine step_append_lst rfl _ _ 24 rfl Place.cells 4 Place.cells_one (by omega) w.heap.size 46 _ 32 Try.underlying24 info_place rfl (.slice A gp.length c) gp rfl hD.own _ _ _ _ [(⟨xa, 0, xb, 1⟩ : Place)] rfl hLst (by simp; omega) (by omega) hbsQ ?_
              intro v' w9 hO1 hG1 hD1
              obtain ⟨V1, cv1, rfl⟩ := own_shape_n hO1 hLL.out
              have hbx := hD.box.grown hG1 (fun e => hD.own.ne_blk hD.box (by decide) e.symm)
              obtain ⟨f0, f1⟩ := hbx.f2
              have l9 := hbx.lt
              obtain ⟨b0, b1⟩ := hbx.c2
              replace hD := hD.app hG1 hO1
              refine hK.out _ _ (fun _ => ⟨b1, b0⟩) ?_
              clear hK K
              try simp only [Act.put, List.setIfInBounds_toArray, List.set_cons_zero, List.set_cons_succ]
              refine wpAnyE_one (i := 13) rfl (by kernel_rfl) (fun K hK => ?_)
              go_simp
              refine hK.out _ _ (fun _ => ⟨b1, b0⟩) ?_
              clear hK K
              try simp only [Act.put, List.setIfInBounds_toArray, List.set_cons_zero, List.set_cons_succ]
              refine wpAnyE_one (i := 14) rfl (by kernel_rfl) (fun K hK => ?_)
              go_simp
              refine hK.out _ _ (fun h => absurd rfl h) ?_
              clear hK K
              try simp only [Act.put, List.setIfInBounds_toArray, List.set_cons_zero, List.set_cons_succ]
              refine wpAnyE_done (by kernel_rfl) ?_
              obtain ⟨e0, e1⟩ := hD.box.c2
              have lbg := hD.box.lt
              have f0 := hD.res.frozen 0
              have f1 := hD.res.frozen 1
              have lb2 := hD.res.lt
              obtain ⟨r0, r1⟩ := hD.res.c2
              have hF := Lib.hid hD.fin
              clear hD
              go_wp2
              refine bodyPost_ret (v := .agg #[.int .i64 ge, _]) (by simp [results, Try.results19, go_sem, r0, r1]) rfl ⟨_, _, _, rfl, by omega, by omega, by first | (simp; omega) | (simp; omega), hF.out.1, hF.out.2⟩
          · have hZ : Below V0.heap.size V0 (V0.alloc (.cells #[.int .i64 (-1), .int .i64 1000, .int .i64 1001] 2)) := (Below.refl _ _).alloc (Nat.le_refl _) _
            have hL8 : Blk (V0.alloc (.cells #[.int .i64 (-1), .int .i64 1000, .int .i64 1001] 2)) (V0.heap.size) 2 (intVals [-1, 1000, 1001]) := Blk.newAt _ _ (by simp)
            replace hD := hD.below hZ
            clear hZ
            go_simp
            refine hK.out _ _ (fun _ => ⟨hD.pls, hD.evs⟩) ?_
            clear hK K
            try simp only [Act.put, List.setIfInBounds_toArray, List.set_cons_zero, List.set_cons_succ]
            refine wpAnyE_one (i := 5) rfl (by kernel_rfl) (fun K hK => ?_)
            have hZ : Below (V0.alloc (.cells #[.int .i64 (-1), .int .i64 1000, .int .i64 1001] 2)).heap.size (V0.alloc (.cells #[.int .i64 (-1), .int .i64 1000, .int .i64 1001] 2)) ((V0.alloc (.cells #[.int .i64 (-1), .int .i64 1000, .int .i64 1001] 2)).alloc (.cells #[.int .i64 (-1), .int .i64 0, .int .i64 ge] 2)) := (Below.refl _ _).alloc (Nat.le_refl _) _
            replace hL8 := hL8.now hZ
            have hL5 : Blk ((V0.alloc (.cells #[.int .i64 (-1), .int .i64 1000, .int .i64 1001] 2)).alloc (.cells #[.int .i64 (-1), .int .i64 0, .int .i64 ge] 2)) (V0.heap.size + 1) 2 (intVals [-1, 0, ge]) := Blk.newAt _ _ (by simp)
            replace hD := hD.below hZ
            clear hZ
            go_simp
            refine hK.out _ _ (fun _ => ⟨hD.pls, hD.evs⟩) ?_
            clear hK K
            try simp only [Act.put, List.setIfInBounds_toArray, List.set_cons_zero, List.set_cons_succ]
            refine wpAnyE_one (i := 6) rfl (by kernel_rfl) (fun K hK => ?_)
            go_simp
            go_at_call 46
            refine (spec_l01Pick g (V0.heap.size + 1) [-1, 0, ge] _ hD.src hL5 (by simp) (by simp)).mono ?_
            rintro e uxa ⟨xa, hxa, rfl, hN⟩
            replace hL8 := hL8.grown hN.2 (fun e => hgV (by injection e))
            replace hD := hD.draw hN
            clear hN hxa
            refine hK.out _ _ (fun _ => ⟨hD.pls, hD.evs⟩) ?_
            clear hK K
            try simp only [Act.put, List.setIfInBounds_toArray, List.set_cons_zero, List.set_cons_succ]
            refine wpAnyE_one (i := 9) rfl (by kernel_rfl) (fun K hK => ?_)
            go_simp
            go_at_call 46
            refine (spec_l01Pick g (V0.heap.size) [-1, 1000, 1001] _ hD.src hL8 (by simp) (by simp)).mono ?_
            rintro e uxb ⟨xb, hxb, rfl, hN⟩
            replace hD := hD.draw hN
            clear hN hxb
            refine hK.out _ _ (fun _ => ⟨hD.pls, hD.evs⟩) ?_
            clear hK K
            try simp only [Act.put, List.setIfInBounds_toArray, List.set_cons_zero, List.set_cons_succ]
            refine wpAnyE_take (i := 10) (v := ?_) rfl (by kernel_rfl) (by kernel_rfl) (by kernel_rfl) (by kernel_rfl) (by kernel_rfl) (fun _ _ _ h => h) (show (fun w' : World => w'.cell? ⟨bg, 1, none⟩ = some (.slice A gp.length c) ∧ w'.cell? ⟨bg, 0, none⟩ = some (.int .i64 ge)) uxb from ⟨hD.pls, hD.evs⟩) (by rfl) ?_ ?_
            rotate_left
            · intro w9 hSw
              try dsimp only at hSw
              go_simp
              try with_reducible rfl
            try simp only [Act.put, List.setIfInBounds_toArray, List.set_cons_zero, List.set_cons_succ]
            refine wpAnyE_one (i := 11) rfl (by kernel_rfl) (fun K hK => ?_)
            have hZ2 : Below uxb.heap.size uxb (uxb.alloc (.cells #[.int .i64 xa, .int .i64 0, .int .i64 xb, .int .i64 1] 46)) := (Below.refl _ _).alloc (Nat.le_refl _) _
            have hLst := lst_new1 Place.cells 4 Place.cells_len uxb 46 (⟨xa, 0, xb, 1⟩ : Place) _ rfl _ rfl
            have hLL : Hid ((gp ++ [(⟨xa, 0, xb, 1⟩ : Place)]).length = gp.length + 1) := by show _ = _; simp
            replace hD := hD.below hZ2
            go_simp
            refine hK.out _ _ (fun _ => ⟨hD.pls, hD.evs⟩) ?_
            clear hK K
            try simp only [Act.put, List.setIfInBounds_toArray, List.set_cons_zero, List.set_cons_succ]
            refine wpAnyE_one (i := 12) rfl (by kernel_rfl) (fun K hK => ?_)
            have hbsQ := hD.grown.size
            refine step_append_lst rfl _ _ 24 rfl Place.cells 4 Place.cells_one (by omega) w.heap.size 46 _ 32 Try.underlying24 info_place rfl (.slice A gp.length c) gp rfl hD.own _ _ _ _ [(⟨xa, 0, xb, 1⟩ : Place)] rfl hLst (by simp; omega) (by omega) hbsQ ?_
            intro v' w9 hO1 hG1 hD1
            obtain ⟨V1, cv1, rfl⟩ := own_shape_n hO1 hLL.out
            have hbx := hD.box.grown hG1 (fun e => hD.own.ne_blk hD.box (by decide) e.symm)
            obtain ⟨f0, f1⟩ := hbx.f2
            have l9 := hbx.lt
            obtain ⟨b0, b1⟩ := hbx.c2
            replace hD := hD.app hG1 hO1
            refine hK.out _ _ (fun _ => ⟨b1, b0⟩) ?_
            clear hK K
            try simp only [Act.put, List.setIfInBounds_toArray, List.set_cons_zero, List.set_cons_succ]
            refine wpAnyE_one (i := 13) rfl (by kernel_rfl) (fun K hK => ?_)
            go_simp
            refine hK.out _ _ (fun _ => ⟨b1, b0⟩) ?_
            clear hK K
            try simp only [Act.put, List.setIfInBounds_toArray, List.set_cons_zero, List.set_cons_succ]
            refine wpAnyE_one (i := 14) rfl (by kernel_rfl) (fun K hK => ?_)
            go_simp
            refine hK.out _ _ (fun h => absurd rfl h) ?_
            clear hK K
            try simp only [Act.put, List.setIfInBounds_toArray, List.set_cons_zero, List.set_cons_succ]
            refine wpAnyE_done (by kernel_rfl) ?_
            obtain ⟨e0, e1⟩ := hD.box.c2
            have lbg := hD.box.lt
            have f0 := hD.res.frozen 0
            have f1 := hD.res.frozen 1
            have lb2 := hD.res.lt
            obtain ⟨r0, r1⟩ := hD.res.c2
            have hF := Lib.hid hD.fin
            clear hD
            go_wp2
            refine bodyPost_ret (v := .agg #[.int .i64 ge, _]) (by simp [results, Try.results19, go_sem, r0, r1]) rfl ⟨_, _, _, rfl, by omega, by omega, by first | (simp; omega) | (simp; omega), hF.out.1, hF.out.2⟩
        · by_cases h2 : q = 2
          · subst h2
            go_wp2_with fail
            replace hD := hD.below (Below.drew (Below.refl _ wa))
            go_wp2_with fail
            refine wp_region_E (fun w' => w'.cell? ⟨bg, 1, none⟩ = some (.slice A gp.length c)) 9 (by kernel_rfl) ?_
            have hS0 : (fun w' : World => w'.cell? ⟨bg, 1, none⟩ = some (.slice A gp.length c)) wa.drew := hD.pls
            clear hS0
            generalize wa.drew = V0 at *
            have hS0 : (fun w' : World => w'.cell? ⟨bg, 1, none⟩ = some (.slice A gp.length c)) V0 := hD.pls
            refine wpAnyE_take (i := 0) (v := ?_) rfl (by kernel_rfl) (by kernel_rfl) (by kernel_rfl) (by kernel_rfl) (by kernel_rfl) (fun _ _ _ h => h) hS0 (by rfl) ?_ ?_
            rotate_left
            · intro w9 hSw
              try dsimp only at hSw
              obtain s0 := hSw
              go_simp
              try with_reducible rfl
            try simp only [Act.put, List.setIfInBounds_toArray, List.set_cons_zero, List.set_cons_succ]
            refine wpAnyE_take (i := 1) (v := ?_) rfl (by kernel_rfl) (by kernel_rfl) (by kernel_rfl) (by kernel_rfl) (by kernel_rfl) (fun _ _ _ h => h) hS0 (by rfl) ?_ ?_
            rotate_left
            · intro w9 hSw
              try dsimp only at hSw
              obtain s0 := hSw
              go_simp
              try with_reducible rfl
            try simp only [Act.put, List.setIfInBounds_toArray, List.set_cons_zero, List.set_cons_succ]
            refine wpAnyE_take (i := 2) (v := ?_) rfl (by kernel_rfl) (by kernel_rfl) (by kernel_rfl) (by kernel_rfl) (by kernel_rfl) (fun _ _ _ h => h) hS0 (by rfl) ?_ ?_
            rotate_left
            · intro w9 hSw
              try dsimp only at hSw
              obtain s0 := hSw
              go_simp
              try with_reducible rfl
            try simp only [Act.put, List.setIfInBounds_toArray, List.set_cons_zero, List.set_cons_succ]
            refine wpAnyE_one (i := 3) rfl (by kernel_rfl) (fun K hK => ?_)
            have hZ : Below V0.heap.size V0 (V0.alloc (.cells #[.int .i64 5, .int .i64 6, .int .i64 (-1)] 2)) := (Below.refl _ _).alloc (Nat.le_refl _) _
            replace hD := hD.below hZ
            go_simp
            refine hK.out _ _ (fun _ => hD.pls) ?_
            clear hK K
            try simp only [Act.put, List.setIfInBounds_toArray, List.set_cons_zero, List.set_cons_succ]
            refine wpAnyE_one (i := 4) rfl (by kernel_rfl) (fun K hK => ?_)
            go_simp
            go_at_call 46
            refine (spec_l01Pick g V0.heap.size [5, 6, -1] _ hD.src (Blk.newAt _ _ rfl) (by simp) (by simp)).mono ?_
            rintro e wk ⟨pk, hpk, rfl, hN⟩
            replace hD := hD.draw hN
            clear hN hpk
            refine hK.out _ _ (fun _ => hD.pls) ?_
            clear hK K
            try simp only [Act.put, List.setIfInBounds_toArray, List.set_cons_zero, List.set_cons_succ]
            refine wpAnyE_one (i := 5) rfl (by kernel_rfl) (fun K hK => ?_)
            go_simp
            refine hK.out _ _ (fun _ => hD.pls) ?_
            clear hK K
            try simp only [Act.put, List.setIfInBounds_toArray, List.set_cons_zero, List.set_cons_succ]
            refine wpAnyE_one (i := 6) rfl (by kernel_rfl) (fun K hK => ?_)
            have hZ2 : Below wk.heap.size wk (wk.alloc (.cells #[.int .i64 0, .int .i64 0, .int .i64 0, .int .i64 pk] 46)) := (Below.refl _ _).alloc (Nat.le_refl _) _
            have hLst := lst_new1 Place.cells 4 Place.cells_len wk 46 (⟨0, 0, 0, pk⟩ : Place) _ rfl _ rfl
            have hLL : Hid ((gp ++ [(⟨0, 0, 0, pk⟩ : Place)]).length = gp.length + 1) := by show _ = _; simp
            replace hD := hD.below hZ2
            go_simp
            refine hK.out _ _ (fun _ => hD.pls) ?_
            clear hK K
            try simp only [Act.put, List.setIfInBounds_toArray, List.set_cons_zero, List.set_cons_succ]
            refine wpAnyE_one (i := 7) rfl (by kernel_rfl) (fun K hK => ?_)
            have hbsQ := hD.grown.size
            refine step_append_lst rfl _ _ 24 rfl Place.cells 4 Place.cells_one (by omega) w.heap.size 46 _ 32 Try.underlying24 info_place rfl (.slice A gp.length c) gp rfl hD.own _ _ _ _ [(⟨0, 0, 0, pk⟩ : Place)] rfl hLst (by simp; omega) (by omega) hbsQ ?_
            intro v' w9 hO1 hG1 hD1
            obtain ⟨V1, cv1, rfl⟩ := own_shape_n hO1 hLL.out
            have hbx := hD.box.grown hG1 (fun e => hD.own.ne_blk hD.box (by decide) e.symm)
            obtain ⟨f0, f1⟩ := hbx.f2
            have l9 := hbx.lt
            obtain ⟨b0, b1⟩ := hbx.c2
            replace hD := hD.app hG1 hO1
            refine hK.out _ _ (fun _ => b1) ?_
            clear hK K
            try simp only [Act.put, List.setIfInBounds_toArray, List.set_cons_zero, List.set_cons_succ]
            refine wpAnyE_one (i := 8) rfl (by kernel_rfl) (fun K hK => ?_)
            go_simp
            refine hK.out _ _ (fun _ => b1) ?_
            clear hK K
            try simp only [Act.put, List.setIfInBounds_toArray, List.set_cons_zero, List.set_cons_succ]
            refine wpAnyE_one (i := 9) rfl (by kernel_rfl) (fun K hK => ?_)
            go_simp
            refine hK.out _ _ (fun h => absurd rfl h) ?_
            clear hK K
            try simp only [Act.put, List.setIfInBounds_toArray, List.set_cons_zero, List.set_cons_succ]
            refine wpAnyE_done (by kernel_rfl) ?_
            obtain ⟨e0, e1⟩ := hD.box.c2
            have lbg := hD.box.lt
            have f0 := hD.res.frozen 0
            have f1 := hD.res.frozen 1
            have lb2 := hD.res.lt
            obtain ⟨r0, r1⟩ := hD.res.c2
            have hF := Lib.hid hD.fin
            clear hD
            go_wp2
            refine bodyPost_ret (v := .agg #[.int .i64 ge, _]) (by simp [results, Try.results19, go_sem, r0, r1]) rfl ⟨_, _, _, rfl, by omega, by omega, by first | (simp; omega) | (simp; omega), hF.out.1, hF.out.2⟩
          · by_cases h3 : q = 3
            · subst h3
              go_wp2
              go_loopw [6] (fun iv wr => ∃ (k : Nat) (A : Option Addr) (c : Nat) (gp : List Place), iv = .int .i64 k ∧ k ≤ 31 ∧ gp.length ≤ 9 + k ∧ Dr w g b2 bg wr ge (.slice A gp.length c) gp) (fun iv _ => 40 - (intOf iv).toNat)
              case atStart => exact ⟨0, _, _, _, rfl, by omega, by omega, hD⟩
              case round =>
                clear hD hlen9
                obtain ⟨k, A, c, gp, rfl, hk, hlen, hD⟩ := hrel
                go_wp2_with fail
                refine (spec_l01Next g 9 _ hD.src (by omega)).mono ?_
                rintro e wb ⟨y9, rfl, hy, hN⟩
                replace hD := hD.draw hN
                clear hN
                have hy9 : y9 < 9 := hy.2.1 (by omega)
                have hy90 := hy.1
                have wm : IntKind.i64.wrap (22 + y9) = 22 + y9 := IntWalk.i64_in _ (by omega)
                clear hy
                by_cases hlt : (k : Int) < 22 + y9
                · have hZ : Below wb.heap.size wb (wb.alloc (.cells #[.int .i64 0, .int .i64 0, .int .i64 k, .int .i64 1] 46)) := (Below.refl _ _).alloc (Nat.le_refl _) _
                  have hDz := hD.below hZ
                  obtain ⟨e0, e1⟩ := hD.box.c2
                  have lbg := hD.box.lt
                  have hbs := hDz.grown.size
                  have hlenA : gp.length + [(⟨0, 0, k, 1⟩ : Place)].length ≤ 1099511627776 := by simp; omega
                  have hLL : Hid ((gp ++ [(⟨0, 0, k, 1⟩ : Place)]).length = gp.length + 1) := by show _ = _; simp
                  have hneb : some bg ≠ (Value.slice A gp.length c).ownBlock := fun e => hDz.own.ne_blk hDz.box (by decide) e.symm
                  have hDzH := Lib.hid hDz
                  have hnebH := Lib.hid hneb
                  clear hneb hDz
                  go_wp2_with (at_builtin; refine wpList_append_lst rfl _ _ 24 rfl Place.cells 4 Place.cells_one (by omega) w.heap.size 46 _ 32 Try.underlying24 info_place rfl _ _ rfl hDzH.out.own _ _ _ _ [(⟨0, 0, k, 1⟩ : Place)] rfl (lst_new1 _ _ Place.cells_len _ _ _ _ rfl _ (by simp)) hlenA (by omega) hbs ?_; intro v' w9 hO1 hG1 hD1; obtain ⟨V1, cv1, rfl⟩ := own_shape_n hO1 hLL.out; have hbx := hDzH.out.box.grown hG1 hnebH.out; obtain ⟨f0, f1⟩ := hbx.f2; have l9 := hbx.lt; obtain ⟨b0, b1⟩ := hbx.c2; have hDn := Lib.hid (hDzH.out.app hG1 hO1))
                  go_roundw
                  case rel => exact ⟨k + 1, V1, cv1, gp ++ [(⟨0, 0, k, 1⟩ : Place)], by go_num, by omega, by simp; omega, by rw [hLL.out]; exact hDn.out⟩
                  case measure => simp [intOf]; omega
                · 
                  obtain ⟨e0, e1⟩ := hD.box.c2
                  have lbg := hD.box.lt
                  have f0 := hD.res.frozen 0
                  have f1 := hD.res.frozen 1
                  have lb2 := hD.res.lt
                  obtain ⟨r0, r1⟩ := hD.res.c2
                  have hF := Lib.hid hD.fin
                  clear hD
                  go_wp2
                  refine bodyPost_ret (v := .agg #[.int .i64 ge, _]) (by simp [results, Try.results19, go_sem, r0, r1]) rfl ⟨_, _, _, rfl, by omega, by omega, by first | (omega) | (simp; omega), hF.out.1, hF.out.2⟩
            · have q0 : (q == 0) = false := by simpa using h0
              have q1 : (q == 1) = false := by simpa using h1
              have q2 : (q == 2) = false := by simpa using h2
              have q3 : (q == 3) = false := by simpa using h3
              clear h0 h1 h2 h3
              obtain ⟨e0, e1⟩ := hD.box.c2
              have lbg := hD.box.lt
              have f0 := hD.res.frozen 0
              have f1 := hD.res.frozen 1
              have lb2 := hD.res.lt
              obtain ⟨r0, r1⟩ := hD.res.c2
              have hF := Lib.hid hD.fin
              clear hD
              go_wp2
              refine bodyPost_ret (v := .agg #[.int .i64 ge, _]) (by simp [results, Try.results19, go_sem, r0, r1]) rfl ⟨_, _, _, rfl, by omega, by omega, by first | (omega) | (simp; omega), hF.out.1, hF.out.2⟩
end Go.Proofs.Ytcoomogabicfnaa
