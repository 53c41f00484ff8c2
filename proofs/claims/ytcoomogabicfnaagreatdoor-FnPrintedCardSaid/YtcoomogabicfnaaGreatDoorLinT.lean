/-
  The walk of the reference's l18Line.
-/
import Derived.Test.YtcoomogabicfnaaGreatDoorLinS
namespace Go.Proofs.YtcoomogabicfnaaGreatDoor
open Go.RowKit
set_option linter.unusedVariables false
set_option linter.unusedSimpArgs false
theorem Own.far2 {α : Type} {f : α → List Value} {sz : Nat} {e t : TypeId} {w : World} {base r : Nat} {v : Value} {l : List α} {cs : Array Value} (h : Own f sz e w base v l) (hb : Blk w r t cs) (hne : e ≠ t) (x y : Value) :
    Own f sz e ((w.setCell ⟨r, 0, none⟩ x).setCell ⟨r, 1, none⟩ y) base v l := own_far (own_far h (h.ne_blk hb hne) x) (h.ne_blk hb hne) y
theorem own_new1L {α : Type} (f : α → List Value) (size : Nat) (hf : ∀ x, (f x).length = size) (w : World) (e : TypeId) (base : Nat) (hb : base ≤ w.heap.size) (x : α) (hs : size ≤ 64) : Own f size e (w.alloc (.cells (f x).toArray e)) base (.slice (some ⟨w.heap.size, 0, none⟩) 1 1) ([x] : List α) :=
  ⟨by simp [hf], .inr ⟨w.heap.size, 1, (f x).toArray, rfl, hb, heap_alloc_new w _, Nat.le_refl _, by simp [maxLen], by simp [hf], by simp; exact List.take_of_length_le (Nat.le_of_eq (hf x))⟩⟩
/-- A region under way, under a name: so that its states can be told one by one. -/
theorem wpAnyH_named {P : Program} {md : Region.Mode} {ops : Array Oper} {Q : Exit → Act → World → Prop} {S : World → Prop} {n : Nat} {listed : Array Bool} {a : Act} {w : World}
    (h : ∀ (G : Nat → Array Bool → Act → World → Prop) (A : Act), Hid (∀ n l b v, G n l b v ↔ wpAnyH P md ops Q S n l b v) → Hid (A = a) → G n listed A w) : wpAnyH P md ops Q S n listed a w :=
  h (wpAnyH P md ops Q S) a (fun _ _ _ _ => Iff.rfl) rfl
set_option maxHeartbeats 16000000 in
set_option maxRecDepth 100000 in
theorem spec_l18Line (b : Nat) (v u : Value) (N : List ByteArray) (G : List Place) (s : ByteArray) (w : World) (h0 : Own Place.cells 4 57 w b v G) (h1 : Own strCell 1 9 w b u N) (hb : b ≤ w.heap.size) (hl10 : N.length ≤ 10) (hl30 : G.length ≤ 30) (hs : s.size ≤ 100000000) :
    Calls Tryz.prog 41 #[.agg #[.int .i64 N.length, v], u, .string s] w fun r w' => ∃ A B, r = .returned (.tuple #[.agg #[.int .i64 (lineF N G s).2.1.length, A], B, .int .i64 (lineF N G s).1]) ∧ Own Place.cells 4 57 w' b A (lineF N G s).2.2 ∧ Own strCell 1 9 w' b B (lineF N G s).2.1 ∧ Below w.heap.size w w' := by
  obtain ⟨R, hR⟩ : ∃ R, lineF N G s = R := ⟨_, rfl⟩
  rw [hR]
  have hlin := Lib.hid fun h => (lineF_none (N := N) (G := G) (s := s) h).symm.trans hR
  have hlis := Lib.hid fun ns xs h => (lineF_some (N := N) (G := G) (s := s) (ns := ns) (xs := xs) (x := (splitF 32 s).headD ⟨#[]⟩) h rfl).symm.trans hR
  have hR := Lib.hid hR
  obtain ⟨PA, pc, rfl⟩ := h0.shape
  obtain ⟨NA, nc, rfl⟩ := h1.shape
  go_enter Tryz.func41, Tryz.ntmps41
  go_wp2_with fail
  have hW : Below w.heap.size w ((w.alloc (.cells #[.int .i64 N.length, .slice PA G.length pc] 26)).alloc (.cells #[.int .i64 0, .slice none 0 0] 26)) := (((Below.refl _ _).alloc (Nat.le_refl _) _).alloc (by first | (simp; done) | (simp; omega)) _); have hb0 : Blk ((w.alloc (.cells #[.int .i64 N.length, .slice PA G.length pc] 26)).alloc (.cells #[.int .i64 0, .slice none 0 0] 26)) (w.heap.size) 26 #[.int .i64 N.length, .slice PA G.length pc] := ((Blk.newAt w _ (by first | rfl | (simp; done) | (simp; omega))).alloc _); have hb1 : Blk ((w.alloc (.cells #[.int .i64 N.length, .slice PA G.length pc] 26)).alloc (.cells #[.int .i64 0, .slice none 0 0] 26)) (w.heap.size + 1) 26 #[.int .i64 0, .slice none 0 0] := (Blk.newAt (w.alloc (.cells #[.int .i64 N.length, .slice PA G.length pc] 26)) _ (by first | rfl | (simp; done) | (simp; omega))); replace h0 := h0.now hW; replace h1 := h1.now hW; have hsW : w.heap.size + 2 = ((w.alloc (.cells #[.int .i64 N.length, .slice PA G.length pc] 26)).alloc (.cells #[.int .i64 0, .slice none 0 0] 26)).heap.size := (by first | rfl | (simp; done) | (simp; omega)); generalize ((w.alloc (.cells #[.int .i64 N.length, .slice PA G.length pc] 26)).alloc (.cells #[.int .i64 0, .slice none 0 0] 26)) = W at *; replace hsW := Lib.hid hsW
  refine (spec_l18Words s _ hs).mono ?_
  rintro e w1 ⟨uv, q, rfl, hUQ, hB⟩
  replace hW := hW.trans (hB.mono hW.size); replace h0 := h0.now hB; replace h1 := h1.now hB; replace hb0 := hb0.now hB; replace hb1 := hb1.now hB
  clear hB
  obtain ⟨k0, k1⟩ := hb0.c2
  obtain ⟨g0, g1⟩ := hb1.c2
  obtain ⟨f0, f1⟩ := hb1.f2
  have l0 := hb0.lt
  have l1 := hb1.lt
  cases hww : wordsF (splitF 32 s) with
  | none =>
    have hN := Lib.hid (hlin.out hww)
    clear hww hlin hlis hR
    go_wp2
    have r0 := ((hb1.set2a (u := .int .i64 N.length)).set2b (u := .slice PA G.length pc)).c2
    refine bodyPost_ret (v := .tuple #[.agg #[.int .i64 N.length, .slice PA G.length pc], .slice NA N.length nc, .int .i64 6]) (by simp [results, Tryz.results41, go_sem, r0.1, r0.2]) rfl ?_
    rw [← hN.out]
    exact ⟨_, _, rfl, h0.far2 hb1 (by decide) _ _, h1.far2 hb1 (by decide) _ _, (hW.setCell (by show w.heap.size ≤ w.heap.size + 1; omega) _).setCell (by show w.heap.size ≤ w.heap.size + 1; omega) _⟩
  | some p =>
    obtain ⟨ns, xs⟩ := p
    have hst := hlis.out ns xs hww
    obtain ⟨hxr, hcs⟩ := words_cases hww
    obtain ⟨hU, hQ, hUl⟩ := hUQ ns xs hww
    clear hUQ hlin hlis hR hww
    generalize (splitF 32 s).headD ⟨#[]⟩ = W0 at *
    obtain ⟨UA, uc, rfl⟩ := hU.shape
    obtain ⟨QA, qc, rfl⟩ := hQ.shape
    have hUl : Hid (∀ A n c, Value.slice UA (W0 :: ns).length uc = .slice (some A) n c → W.heap.size ≤ A.block) := Lib.hid hUl
    rcases hcs with ⟨hk, n0, d0, e0, hns, hxs⟩ | ⟨hk, n0, n1, d0, e0, hns, hxs⟩ | ⟨hk, n0, n1, d0, hns, hxs⟩ | ⟨hk, n0, n1, d0, hns, hxs⟩
    · skip
      subst hns
      subst hxs
      subst hk
      obtain ⟨qb, qo, hqa, hqb, z0⟩ := ints_at hQ.lst 0 (by simp)
      rw [Nat.add_zero] at z0
      obtain ⟨qb', qo', hqa', _, z1⟩ := ints_at hQ.lst 1 (by simp)
      rw [hqa] at hqa'
      cases hqa'
      obtain ⟨ub, uo, hua, hub, cw⟩ := strs_at hU 0 (by simp)
      rw [Nat.add_zero] at cw
      replace cw : w1.cell? ⟨ub, uo, none⟩ = some (.string wStation) := cw
      obtain ⟨ub', uo', hua', _, y0⟩ := strs_at hU 1 (by simp)
      rw [hua] at hua'
      cases hua'
      replace y0 : w1.cell? ⟨ub, uo + 1, none⟩ = some (.string n0) := y0
      have hub2 : w.heap.size + 2 ≤ ub := by
        have h1 := hUl.out ⟨ub, uo, none⟩ _ _ (by rw [hua])
        have h2 := hsW.out
        simp only at h1
        omega
      clear hUl
      subst hqa
      subst hua
      replace z0 : w1.cell? ⟨qb, qo, none⟩ = some (.int .i64 d0) := z0
      replace z1 : w1.cell? ⟨qb, qo + 1, none⟩ = some (.int .i64 e0) := z1
      have hrd := hxr d0 (by simp)
      have hrl := hxr e0 (by simp)
      rw [(dl_Station d0 e0).1, (dl_Station d0 e0).2] at hst
      replace hst := Lib.hid hst
      clear hxr hU hQ
      have eBuffer : (wStation.toList == [98, 117, 102, 102, 101, 114]) = false := by decide +kernel
      have eStation : (wStation.toList == [115, 116, 97, 116, 105, 111, 110]) = true := by decide +kernel
      have eCart : (wStation.toList == [99, 97, 114, 116]) = false := by decide +kernel
      have eMove : (wStation.toList == [109, 111, 118, 101]) = false := by decide +kernel
      by_cases hd1 : 1000 < d0
      · have hi1 : inB d0 0 1000 = false := by simp [inB]; omega
        have hN := Lib.hid ((step_range (.inl hd1)).symm.trans hst.out)
        have r0 := ((hb1.set2a (u := .int .i64 N.length)).set2b (u := .slice PA G.length pc)).c2
        go_wp2_with (first | (go_at_call 54; refine (spec_l01In _ _ _ _).mono ?_; rintro e w9 ⟨rfl, rfl⟩) | (go_at_call 56; refine hj0.mono ?_; rintro e w9 ⟨rfl, rfl⟩))
        refine bodyPost_ret (v := .tuple #[.agg #[.int .i64 N.length, .slice PA G.length pc], .slice NA N.length nc, .int .i64 2]) (by simp [results, Tryz.results41, go_sem, r0.1, r0.2]) rfl ?_
        rw [← hN.out]
        exact ⟨_, _, rfl, h0.far2 hb1 (by decide) _ _, h1.far2 hb1 (by decide) _ _, (hW.setCell (by show w.heap.size ≤ w.heap.size + 1; omega) _).setCell (by show w.heap.size ≤ w.heap.size + 1; omega) _⟩
      · have hi1 : inB d0 0 1000 = true := by simp [inB]; omega
        by_cases ht1 : 5 < e0
        · have hi2 : inB e0 0 5 = false := by simp [inB]; omega
          have hN := Lib.hid ((step_range (.inr ht1)).symm.trans hst.out)
          have r0 := ((hb1.set2a (u := .int .i64 N.length)).set2b (u := .slice PA G.length pc)).c2
          go_wp2_with (first | (go_at_call 54; refine (spec_l01In _ _ _ _).mono ?_; rintro e w9 ⟨rfl, rfl⟩) | (go_at_call 56; refine hj0.mono ?_; rintro e w9 ⟨rfl, rfl⟩))
          refine bodyPost_ret (v := .tuple #[.agg #[.int .i64 N.length, .slice PA G.length pc], .slice NA N.length nc, .int .i64 2]) (by simp [results, Tryz.results41, go_sem, r0.1, r0.2]) rfl ?_
          rw [← hN.out]
          exact ⟨_, _, rfl, h0.far2 hb1 (by decide) _ _, h1.far2 hb1 (by decide) _ _, (hW.setCell (by show w.heap.size ≤ w.heap.size + 1; omega) _).setCell (by show w.heap.size ≤ w.heap.size + 1; omega) _⟩
        · have hi2 : inB e0 0 5 = true := by simp [inB]; omega
          have hsm : Hid (¬ (1000 < d0 ∨ 5 < e0)) := by show ¬ _; omega
          obtain ⟨a0, ha0⟩ : ∃ a0, findStr N n0 = a0 := ⟨_, rfl⟩
          have hj0 := spec_l18Find _ N n0 _ h1.lst
          rw [ha0] at hj0
          by_cases hf : 0 ≤ a0
          · have hN := Lib.hid ((step_has hsm.out (by rw [ha0]; exact hf)).symm.trans hst.out)
            have r0 := ((hb1.set2a (u := .int .i64 N.length)).set2b (u := .slice PA G.length pc)).c2
            go_wp2_with (first | (go_at_call 54; refine (spec_l01In _ _ _ _).mono ?_; rintro e w9 ⟨rfl, rfl⟩) | (go_at_call 56; refine hj0.mono ?_; rintro e w9 ⟨rfl, rfl⟩))
            refine bodyPost_ret (v := .tuple #[.agg #[.int .i64 N.length, .slice PA G.length pc], .slice NA N.length nc, .int .i64 5]) (by simp [results, Tryz.results41, go_sem, r0.1, r0.2]) rfl ?_
            rw [← hN.out]
            exact ⟨_, _, rfl, h0.far2 hb1 (by decide) _ _, h1.far2 hb1 (by decide) _ _, (hW.setCell (by show w.heap.size ≤ w.heap.size + 1; omega) _).setCell (by show w.heap.size ≤ w.heap.size + 1; omega) _⟩
          · skip
            by_cases h10 : N.length = 10
            · have hq : ((N.length : Int) == 10) = true := by simp; omega
              have h10H := Lib.hid h10
              clear h10
              have hN := Lib.hid ((step_full hsm.out (by rw [ha0]; exact hf) (.inl h10H.out)).symm.trans hst.out)
              have r0 := ((hb1.set2a (u := .int .i64 N.length)).set2b (u := .slice PA G.length pc)).c2
              go_wp2_with (first | (go_at_call 54; refine (spec_l01In _ _ _ _).mono ?_; rintro e w9 ⟨rfl, rfl⟩) | (go_at_call 56; refine hj0.mono ?_; rintro e w9 ⟨rfl, rfl⟩))
              refine bodyPost_ret (v := .tuple #[.agg #[.int .i64 N.length, .slice PA G.length pc], .slice NA N.length nc, .int .i64 3]) (by simp [results, Tryz.results41, go_sem, r0.1, r0.2]) rfl ?_
              rw [← hN.out]
              exact ⟨_, _, rfl, h0.far2 hb1 (by decide) _ _, h1.far2 hb1 (by decide) _ _, (hW.setCell (by show w.heap.size ≤ w.heap.size + 1; omega) _).setCell (by show w.heap.size ≤ w.heap.size + 1; omega) _⟩
            · have hq : ((N.length : Int) == 10) = false := by simp; omega
              by_cases h30 : G.length = 30
              · have hq3 : ((G.length : Int) == 30) = true := by simp; omega
                have h30H := Lib.hid h30
                clear h30
                have hN := Lib.hid ((step_full hsm.out (by rw [ha0]; exact hf) (.inr h30H.out)).symm.trans hst.out)
                have r0 := ((hb1.set2a (u := .int .i64 N.length)).set2b (u := .slice PA G.length pc)).c2
                go_wp2_with (first | (go_at_call 54; refine (spec_l01In _ _ _ _).mono ?_; rintro e w9 ⟨rfl, rfl⟩) | (go_at_call 56; refine hj0.mono ?_; rintro e w9 ⟨rfl, rfl⟩))
                refine bodyPost_ret (v := .tuple #[.agg #[.int .i64 N.length, .slice PA G.length pc], .slice NA N.length nc, .int .i64 3]) (by simp [results, Tryz.results41, go_sem, r0.1, r0.2]) rfl ?_
                rw [← hN.out]
                exact ⟨_, _, rfl, h0.far2 hb1 (by decide) _ _, h1.far2 hb1 (by decide) _ _, (hW.setCell (by show w.heap.size ≤ w.heap.size + 1; omega) _).setCell (by show w.heap.size ≤ w.heap.size + 1; omega) _⟩
              · have hq3 : ((G.length : Int) == 30) = false := by simp; omega
                go_wp2_with (first | (go_at_call 54; refine (spec_l01In _ _ _ _).mono ?_; rintro e w9 ⟨rfl, rfl⟩) | (go_at_call 56; refine hj0.mono ?_; rintro e w9 ⟨rfl, rfl⟩))
                have hN := Lib.hid ((step_new hsm.out (by rw [ha0]; omega) (by omega)).symm.trans hst.out)
                have hWb : Hid (w.heap.size + 1 < w1.heap.size) := Lib.hid l1
                have hAl : Below w1.heap.size w1 (w1.alloc (.cells #[.int .i64 (N.length : Int), .int .i64 (N.length : Int), .int .i64 d0, .int .i64 e0] 57)) := (Below.refl _ _).alloc (Nat.le_refl _) _
                have hpl : Blk (w1.alloc (.cells #[.int .i64 (N.length : Int), .int .i64 (N.length : Int), .int .i64 d0, .int .i64 e0] 57)) w1.heap.size 57 #[.int .i64 (N.length : Int), .int .i64 (N.length : Int), .int .i64 d0, .int .i64 e0] := Blk.newAt w1 _ rfl
                replace h0 := h0.now hAl
                replace h1 := h1.now hAl
                replace hb0 := hb0.now hAl
                replace hb1 := hb1.now hAl
                replace hW := hW.trans (hAl.mono hW.size)
                replace y0 := cell_keep y0 hAl
                clear k0 k1 g0 g1 f0 f1 l0 l1 cw hAl
                try clear z0
                try clear z1
                try clear y1
                generalize w1.alloc (.cells #[.int .i64 (N.length : Int), .int .i64 (N.length : Int), .int .i64 d0, .int .i64 e0] 57) = X at *
                have hXd : Below X.heap.size X X.drew := Below.drew (Below.refl _ _)
                replace h0 := h0.now hXd
                replace h1 := h1.now hXd
                replace hb0 := hb0.now hXd
                replace hb1 := hb1.now hXd
                replace hpl := hpl.now hXd
                replace hW := hW.trans (hXd.mono hW.size)
                replace y0 := cell_keep y0 hXd
                obtain ⟨k0, k1⟩ := hb0.c2
                obtain ⟨p0, p1, p2, p3⟩ := hpl.c4
                refine wp_region_held_drew (S := fun w' => w'.cell? ⟨w.heap.size, 0, none⟩ = some (.int .i64 (N.length : Int)) ∧ w'.cell? ⟨w.heap.size, 1, none⟩ = some (.slice PA G.length pc) ∧ w'.cell? ⟨w1.heap.size, 0, none⟩ = some (.int .i64 (N.length : Int)) ∧ w'.cell? ⟨w1.heap.size, 1, none⟩ = some (.int .i64 (N.length : Int)) ∧ w'.cell? ⟨w1.heap.size, 2, none⟩ = some (.int .i64 d0) ∧ w'.cell? ⟨w1.heap.size, 3, none⟩ = some (.int .i64 e0) ∧ w'.cell? ⟨ub, uo + 1, none⟩ = some (.string n0)) (by kernel_rfl) ⟨k0, k1, p0, p1, p2, p3, y0⟩ (fun hH => ?_)
                clear hXd
                generalize X.drew = V0 at *
                have hbW : b ≤ V0.heap.size := Nat.le_trans hb hW.size
                have hSk : Hid (∀ V, Below V0.heap.size V0 V → V.cell? ⟨w.heap.size, 0, none⟩ = some (.int .i64 (N.length : Int)) ∧ V.cell? ⟨w.heap.size, 1, none⟩ = some (.slice PA G.length pc) ∧ V.cell? ⟨w1.heap.size, 0, none⟩ = some (.int .i64 (N.length : Int)) ∧ V.cell? ⟨w1.heap.size, 1, none⟩ = some (.int .i64 (N.length : Int)) ∧ V.cell? ⟨w1.heap.size, 2, none⟩ = some (.int .i64 d0) ∧ V.cell? ⟨w1.heap.size, 3, none⟩ = some (.int .i64 e0) ∧ V.cell? ⟨ub, uo + 1, none⟩ = some (.string n0)) := Lib.hid (fun V h => ⟨cell_keep k0 h, cell_keep k1 h, cell_keep p0 h, cell_keep p1 h, cell_keep p2 h, cell_keep p3 h, cell_keep y0 h⟩)
                have hwN : IntKind.i64.wrap ((N.length : Int) + 1) = (N.length : Int) + 1 := IntWalk.i64_in _ (by omega)
                refine tkH 0 (v := ?_) rfl (fun _ _ _ h => h) (Or.inl ⟨by rfl, ?_⟩) hH ?_
                rotate_left
                · intro w9 hSw
                  try dsimp only at hSw
                  obtain ⟨s0, s1, s2, s3, s4, s5, s6⟩ := hSw
                  go_simp
                  try with_reducible rfl
                try simp only [Act.put, List.setIfInBounds_toArray, List.set_cons_zero, List.set_cons_succ]
                refine tkH 1 (v := ?_) rfl (fun _ _ _ h => h) (Or.inl ⟨by rfl, ?_⟩) hH ?_
                rotate_left
                · intro w9 hSw
                  try dsimp only at hSw
                  obtain ⟨s0, s1, s2, s3, s4, s5, s6⟩ := hSw
                  go_simp
                  try with_reducible rfl
                try simp only [Act.put, List.setIfInBounds_toArray, List.set_cons_zero, List.set_cons_succ]
                refine tkH 2 (v := ?_) rfl (fun _ _ _ h => h) (Or.inl ⟨by rfl, ?_⟩) hH ?_
                rotate_left
                · intro w9 hSw
                  try dsimp only at hSw
                  obtain ⟨s0, s1, s2, s3, s4, s5, s6⟩ := hSw
                  go_simp
                  try with_reducible rfl
                try simp only [Act.put, List.setIfInBounds_toArray, List.set_cons_zero, List.set_cons_succ]
                refine tkH 4 (v := ?_) rfl (fun _ _ _ h => h) (Or.inl ⟨by rfl, ?_⟩) hH ?_
                rotate_left
                · intro w9 hSw
                  try dsimp only at hSw
                  obtain ⟨s0, s1, s2, s3, s4, s5, s6⟩ := hSw
                  go_simp
                  try with_reducible rfl
                try simp only [Act.put, List.setIfInBounds_toArray, List.set_cons_zero, List.set_cons_succ]
                refine tkH 5 (v := ?_) rfl (fun _ _ _ h => h) (Or.inl ⟨by rfl, ?_⟩) hH ?_
                rotate_left
                · intro w9 hSw
                  try dsimp only at hSw
                  obtain ⟨s0, s1, s2, s3, s4, s5, s6⟩ := hSw
                  go_simp
                  try with_reducible rfl
                try simp only [Act.put, List.setIfInBounds_toArray, List.set_cons_zero, List.set_cons_succ]
                refine tkH 7 (v := ?_) rfl (fun _ _ _ h => h) (Or.inl ⟨by rfl, ?_⟩) hH ?_
                rotate_left
                · intro w9 hSw
                  try dsimp only at hSw
                  obtain ⟨s0, s1, s2, s3, s4, s5, s6⟩ := hSw
                  go_simp
                  try with_reducible rfl
                try simp only [Act.put, List.setIfInBounds_toArray, List.set_cons_zero, List.set_cons_succ]
                refine tkH 12 (v := ?_) rfl (fun _ _ _ h => h) (Or.inl ⟨by rfl, ?_⟩) hH ?_
                rotate_left
                · intro w9 hSw
                  try dsimp only at hSw
                  obtain ⟨s0, s1, s2, s3, s4, s5, s6⟩ := hSw
                  go_simp
                  try with_reducible rfl
                try simp only [Act.put, List.setIfInBounds_toArray, List.set_cons_zero, List.set_cons_succ]
                refine tkH 14 (v := ?_) rfl (fun _ _ _ h => h) (Or.inl ⟨by rfl, ?_⟩) hH ?_
                rotate_left
                · intro w9 hSw
                  try dsimp only at hSw
                  obtain ⟨s0, s1, s2, s3, s4, s5, s6⟩ := hSw
                  go_simp
                  try with_reducible rfl
                try simp only [Act.put, List.setIfInBounds_toArray, List.set_cons_zero, List.set_cons_succ]
                refine tkH 15 (v := ?_) rfl (fun _ _ _ h => h) (Or.inl ⟨by rfl, ?_⟩) hH ?_
                rotate_left
                · intro w9 hSw
                  try dsimp only at hSw
                  obtain ⟨s0, s1, s2, s3, s4, s5, s6⟩ := hSw
                  go_simp
                  try with_reducible rfl
                try simp only [Act.put, List.setIfInBounds_toArray, List.set_cons_zero, List.set_cons_succ]
                refine tkH 16 (v := ?_) rfl (fun _ _ _ h => h) (Or.inl ⟨by rfl, ?_⟩) hH ?_
                rotate_left
                · intro w9 hSw
                  try dsimp only at hSw
                  obtain ⟨s0, s1, s2, s3, s4, s5, s6⟩ := hSw
                  go_simp
                  try with_reducible rfl
                try simp only [Act.put, List.setIfInBounds_toArray, List.set_cons_zero, List.set_cons_succ]
                clear k0 k1 p0 p1 p2 p3 y0
                refine wpAnyH_named (fun GG AA hGG hAA => ?_)
                have st4_ : Hid (∀ (V : World) (r3 : Nat) (r8 : Nat) (r11 : Nat) (r17 : Nat) (x6 : Value) (ZA : Option Addr) (zc : Nat) (x13 : Value) (x18 : Value), Below V0.heap.size V0 V → Own Place.cells 4 57 V V0.heap.size (.slice ZA (G.length + 1) zc) (G ++ [(⟨(N.length : Int), (N.length : Int), d0, e0⟩ : Place)]) → Own strCell 1 9 V V0.heap.size x18 (N ++ [n0]) → GG 3 #[true, true, true, true, true, true, true, true, true, true, true, true, true, true, true, true, true, true, true, false, false, false] (((((((((AA.put (some 90) (.slice (some ⟨r3, 0, none⟩) 0 0)).put (some 93) x6).put (some 95) (.slice (some ⟨r8, 0, none⟩) 1 1)).put (some 96) (.slice ZA (G.length + 1) zc)).put (some 97) (.agg #[.int .i64 ((N.length : Int) + 1), .slice ZA (G.length + 1) zc])).put (some 98) (.slice (some ⟨r11, 0, none⟩) 0 0)).put (some 100) x13).put (some 104) (.slice (some ⟨r17, 0, none⟩) 1 1)).put (some 105) x18) V) := by
                  refine Lib.hid (fun V r3 r8 r11 r17 x6 ZA zc x13 x18 hBc o9 o18 => ?_)
                  refine (hGG.out _ _ _ _).2 ?_
                  rw [hAA.out]
                  try simp only [Act.put, List.setIfInBounds_toArray, List.set_cons_zero, List.set_cons_succ]
                  have hle := hBc.size
                  have hH := hSk.out _ hBc
                  obtain ⟨YA, yc, rfl⟩ := own_shape_n o18 (show (N ++ [n0]).length = N.length + 1 by simp)
                  have hbx := hb1.now hBc
                  obtain ⟨g0, g1⟩ := hbx.c2
                  obtain ⟨f0, f1⟩ := hbx.f2
                  have l1 := hbx.lt
                  obtain ⟨k0, k1, p0, p1, p2, p3, y0⟩ := hH
                  have hLw : w.heap.size + 1 < w1.heap.size := hWb.out
                  have e0 := ((hb0.now hBc).far (p := ⟨w.heap.size + 1, 0, none⟩) (by show w.heap.size ≠ w.heap.size + 1; omega) (.int .i64 ((N.length : Int) + 1))).far (p := ⟨w.heap.size + 1, 1, none⟩) (by show w.heap.size ≠ w.heap.size + 1; omega) (.slice ZA (G.length + 1) zc)
                  have ep := ((hpl.now hBc).far (p := ⟨w.heap.size + 1, 0, none⟩) (by show w1.heap.size ≠ w.heap.size + 1; omega) (.int .i64 ((N.length : Int) + 1))).far (p := ⟨w.heap.size + 1, 1, none⟩) (by show w1.heap.size ≠ w.heap.size + 1; omega) (.slice ZA (G.length + 1) zc)
                  obtain ⟨z0, z1⟩ := e0.c2
                  obtain ⟨t0, t1, t2, t3⟩ := ep.c4
                  have zy : (((V.setCell ⟨w.heap.size + 1, 0, none⟩ (.int .i64 ((N.length : Int) + 1))).setCell ⟨w.heap.size + 1, 1, none⟩ (.slice ZA (G.length + 1) zc))).cell? ⟨ub, uo + 1, none⟩ = some (.string n0) := ((World.cell?_setCell_far _ ⟨w.heap.size + 1, 1, none⟩ ⟨ub, uo + 1, none⟩ _ (by show w.heap.size + 1 ≠ ub; omega)).trans (World.cell?_setCell_far _ ⟨w.heap.size + 1, 0, none⟩ ⟨ub, uo + 1, none⟩ _ (by show w.heap.size + 1 ≠ ub; omega))).trans y0
                  refine wpAnyH_ready (rs := [19]) (by kernel_rfl) (by simp) ?_
                  refine AllReadyH.cons rfl (fun K hK => ?_) AllReadyH.nil
                  go_simp
                  refine hK.out _ _ ⟨z0, z1, t0, t1, t2, t3, zy⟩ (fun hH => ?_)
                  clear hK K
                  try simp only [Act.put, List.setIfInBounds_toArray, List.set_cons_zero, List.set_cons_succ]
                  refine tkH 20 (v := ?_) rfl (fun _ _ _ h => h) (Or.inl ⟨by rfl, ?_⟩) hH ?_
                  rotate_left
                  · intro w9 hSw
                    try dsimp only at hSw
                    obtain ⟨s0, s1, s2, s3, s4, s5, s6⟩ := hSw
                    go_simp
                    try with_reducible rfl
                  try simp only [Act.put, List.setIfInBounds_toArray, List.set_cons_zero, List.set_cons_succ]
                  refine tkH 21 (v := ?_) rfl (fun _ _ _ h => h) (Or.inl ⟨by rfl, ?_⟩) hH ?_
                  rotate_left
                  · intro w9 hSw
                    try dsimp only at hSw
                    obtain ⟨s0, s1, s2, s3, s4, s5, s6⟩ := hSw
                    go_simp
                    try with_reducible rfl
                  try simp only [Act.put, List.setIfInBounds_toArray, List.set_cons_zero, List.set_cons_succ]
                  refine wpAnyH_done (by kernel_rfl) ?_ _
                  have r0 := ((hbx.set2a (u := .int .i64 ((N.length : Int) + 1))).set2b (u := .slice ZA (G.length + 1) zc)).c2
                  have hOP := (o9.rebase (Nat.le_trans hbW (Nat.le_refl _))).far2 hbx (by decide) (.int .i64 ((N.length : Int) + 1)) (.slice ZA (G.length + 1) zc)
                  have hBf := ((hW.trans (hBc.mono hW.size)).setCell (p := ⟨w.heap.size + 1, 0, none⟩) (by show w.heap.size ≤ w.heap.size + 1; omega) (.int .i64 ((N.length : Int) + 1))).setCell (p := ⟨w.heap.size + 1, 1, none⟩) (by show w.heap.size ≤ w.heap.size + 1; omega) (.slice ZA (G.length + 1) zc)
                  have hON := (o18.rebase hbW).far2 hbx (by decide) (.int .i64 ((N.length : Int) + 1)) (.slice ZA (G.length + 1) zc)
                  clear hbx z0 z1 t0 t1 t2 t3 e0 ep g0 g1 f0 f1 l1 hBc hLw hH
                  go_wp2
                  refine bodyPost_ret (v := .tuple #[.agg #[.int .i64 ((N.length : Int) + 1), .slice ZA (G.length + 1) zc], .slice YA (N.length + 1) yc, .int .i64 0]) (by simp [results, Tryz.results41, go_sem, r0.1, r0.2]) rfl ?_
                  rw [← hN.out]
                  have eN : (N.length : Int) + 1 = (((N ++ [n0]).length : Nat) : Int) := by simp
                  exact ⟨.slice ZA (G.length + 1) zc, .slice YA (N.length + 1) yc, congrArg (fun x => Ending.returned (Value.tuple #[.agg #[.int .i64 x, .slice ZA (G.length + 1) zc], .slice YA (N.length + 1) yc, .int .i64 0])) eN, hOP, hON, hBf⟩
                have st3_3 : Hid (∀ (V : World) (r3 : Nat) (r8 : Nat) (r11 : Nat) (r17 : Nat) (x6 : Value) (ZA : Option Addr) (zc : Nat) (x13 : Value), Below V0.heap.size V0 V → Own strCell 1 9 V V0.heap.size (.slice (some ⟨r17, 0, none⟩) 1 1) [n0] → Own Place.cells 4 57 V V0.heap.size (.slice ZA (G.length + 1) zc) (G ++ [(⟨(N.length : Int), (N.length : Int), d0, e0⟩ : Place)]) → Own strCell 1 9 V V0.heap.size x13 N → GG 4 #[true, true, true, true, true, true, true, true, true, true, true, true, true, true, true, true, true, true, false, false, false, false] ((((((((AA.put (some 90) (.slice (some ⟨r3, 0, none⟩) 0 0)).put (some 93) x6).put (some 95) (.slice (some ⟨r8, 0, none⟩) 1 1)).put (some 96) (.slice ZA (G.length + 1) zc)).put (some 97) (.agg #[.int .i64 ((N.length : Int) + 1), .slice ZA (G.length + 1) zc])).put (some 98) (.slice (some ⟨r11, 0, none⟩) 0 0)).put (some 100) x13).put (some 104) (.slice (some ⟨r17, 0, none⟩) 1 1)) V) := by
                  refine Lib.hid (fun V r3 r8 r11 r17 x6 ZA zc x13 hBc o17 o9 o13 => ?_)
                  refine (hGG.out _ _ _ _).2 ?_
                  rw [hAA.out]
                  try simp only [Act.put, List.setIfInBounds_toArray, List.set_cons_zero, List.set_cons_succ]
                  have hle := hBc.size
                  have hH := hSk.out _ hBc
                  refine wpAnyH_ready (rs := [18]) (by kernel_rfl) (by simp) ?_
                  refine AllReadyH.cons rfl (fun K hK => ?_) AllReadyH.nil
                  · have hNl := o17.lst
                    refine step_append_lst rfl _ _ 27 rfl strCell 1 strCell_one (by omega) V0.heap.size 9 _ 16 Tryz.underlying27 info_str rfl x13 N rfl o13 _ _ _ _ [n0] rfl hNl (by simp <;> omega) (by omega) hle ?_
                    intro u wz hO1 hG1 hD1
                    replace o9 := own_kept o9 hG1 (own_apart o9 o13 (by decide))
                    have hBn := hBc.grown hG1 hle (fun q hq => (o13.lt q hq).1)
                    refine hK.out _ _ (hSk.out _ hBn) (fun hH => ?_)
                    clear hK K
                    try simp only [Act.put, List.setIfInBounds_toArray, List.set_cons_zero, List.set_cons_succ]
                    have hs := (hGG.out _ _ _ _).1 (st4_.out wz r3 r8 r11 r17 x6 ZA zc x13 u hBn o9 hO1)
                    rw [hAA.out] at hs
                    try simp only [Act.put, List.setIfInBounds_toArray, List.set_cons_zero, List.set_cons_succ] at hs
                    exact hs
                have st3_ : Hid (∀ (V : World) (r3 : Nat) (r8 : Nat) (r11 : Nat) (x6 : Value) (ZA : Option Addr) (zc : Nat) (x13 : Value), Below V0.heap.size V0 V → Own Place.cells 4 57 V V0.heap.size (.slice ZA (G.length + 1) zc) (G ++ [(⟨(N.length : Int), (N.length : Int), d0, e0⟩ : Place)]) → Own strCell 1 9 V V0.heap.size x13 N → GG 5 #[true, true, true, true, true, true, true, true, true, true, true, true, true, true, true, true, true, false, false, false, false, false] (((((((AA.put (some 90) (.slice (some ⟨r3, 0, none⟩) 0 0)).put (some 93) x6).put (some 95) (.slice (some ⟨r8, 0, none⟩) 1 1)).put (some 96) (.slice ZA (G.length + 1) zc)).put (some 97) (.agg #[.int .i64 ((N.length : Int) + 1), .slice ZA (G.length + 1) zc])).put (some 98) (.slice (some ⟨r11, 0, none⟩) 0 0)).put (some 100) x13) V) := by
                  refine Lib.hid (fun V r3 r8 r11 x6 ZA zc x13 hBc o9 o13 => ?_)
                  refine (hGG.out _ _ _ _).2 ?_
                  rw [hAA.out]
                  try simp only [Act.put, List.setIfInBounds_toArray, List.set_cons_zero, List.set_cons_succ]
                  have hle := hBc.size
                  have hH := hSk.out _ hBc
                  refine wpAnyH_ready (rs := [17]) (by kernel_rfl) (by simp) ?_
                  refine AllReadyH.cons rfl (fun K hK => ?_) AllReadyH.nil
                  · go_simp
                    have q17 := own_new1L strCell 1 strCell_len V 9 V0.heap.size hle n0 (by decide)
                    have hBn := hBc.alloc hle (.cells (strCell n0).toArray 9)
                    refine hK.out _ _ (hSk.out _ hBn) (fun hH => ?_)
                    clear hK K
                    try simp only [Act.put, List.setIfInBounds_toArray, List.set_cons_zero, List.set_cons_succ]
                    have hs := (hGG.out _ _ _ _).1 (st3_3.out (V.alloc (.cells (strCell n0).toArray 9)) r3 r8 r11 V.heap.size x6 ZA zc x13 hBn q17 (o9.alloc _) (o13.alloc _))
                    rw [hAA.out] at hs
                    try simp only [Act.put, List.setIfInBounds_toArray, List.set_cons_zero, List.set_cons_succ] at hs
                    exact hs
                have st2_23 : Hid (∀ (V : World) (r3 : Nat) (r8 : Nat) (r11 : Nat) (r17 : Nat) (x6 : Value) (ZA : Option Addr) (zc : Nat), Below V0.heap.size V0 V → Own strCell 1 9 V V0.heap.size (.slice (some ⟨r11, 0, none⟩) 0 0) ([] : List ByteArray) → Own strCell 1 9 V V0.heap.size (.slice (some ⟨r17, 0, none⟩) 1 1) [n0] → Own Place.cells 4 57 V V0.heap.size (.slice ZA (G.length + 1) zc) (G ++ [(⟨(N.length : Int), (N.length : Int), d0, e0⟩ : Place)]) → r11 ≠ r17 → GG 5 #[true, true, true, true, true, true, true, true, true, true, true, true, true, false, true, true, true, true, false, false, false, false] (((((((AA.put (some 90) (.slice (some ⟨r3, 0, none⟩) 0 0)).put (some 93) x6).put (some 95) (.slice (some ⟨r8, 0, none⟩) 1 1)).put (some 96) (.slice ZA (G.length + 1) zc)).put (some 97) (.agg #[.int .i64 ((N.length : Int) + 1), .slice ZA (G.length + 1) zc])).put (some 98) (.slice (some ⟨r11, 0, none⟩) 0 0)).put (some 104) (.slice (some ⟨r17, 0, none⟩) 1 1)) V) := by
                  refine Lib.hid (fun V r3 r8 r11 r17 x6 ZA zc hBc o11 o17 o9 n11_17 => ?_)
                  refine (hGG.out _ _ _ _).2 ?_
                  rw [hAA.out]
                  try simp only [Act.put, List.setIfInBounds_toArray, List.set_cons_zero, List.set_cons_succ]
                  have hle := hBc.size
                  have hH := hSk.out _ hBc
                  refine wpAnyH_ready (rs := [13]) (by kernel_rfl) (by simp) ?_
                  refine AllReadyH.cons rfl (fun K hK => ?_) AllReadyH.nil
                  · have hNl := (h1.now hBc).lst
                    refine step_append_lst rfl _ _ 27 rfl strCell 1 strCell_one (by omega) V0.heap.size 9 _ 16 Tryz.underlying27 info_str rfl (.slice (some ⟨r11, 0, none⟩) 0 0) ([] : List ByteArray) rfl o11 _ _ _ _ N rfl hNl (by simp <;> omega) (by omega) hle ?_
                    intro u wz hO1 hG1 hD1
                    rw [List.nil_append] at hO1
                    replace o17 := own_kept o17 hG1 (fun k a b => n11_17 ((Option.some.inj b).trans (Option.some.inj a).symm))
                    replace o9 := own_kept o9 hG1 (own_apart o9 o11 (by decide))
                    have hBn := hBc.grown hG1 hle (fun q hq => (o11.lt q hq).1)
                    refine hK.out _ _ (hSk.out _ hBn) (fun hH => ?_)
                    clear hK K
                    try simp only [Act.put, List.setIfInBounds_toArray, List.set_cons_zero, List.set_cons_succ]
                    have hs := (hGG.out _ _ _ _).1 (st3_3.out wz r3 r8 r11 r17 x6 ZA zc u hBn o17 o9 hO1)
                    rw [hAA.out] at hs
                    try simp only [Act.put, List.setIfInBounds_toArray, List.set_cons_zero, List.set_cons_succ] at hs
                    exact hs
                have st2_2 : Hid (∀ (V : World) (r3 : Nat) (r8 : Nat) (r11 : Nat) (x6 : Value) (ZA : Option Addr) (zc : Nat), Below V0.heap.size V0 V → Own strCell 1 9 V V0.heap.size (.slice (some ⟨r11, 0, none⟩) 0 0) ([] : List ByteArray) → Own Place.cells 4 57 V V0.heap.size (.slice ZA (G.length + 1) zc) (G ++ [(⟨(N.length : Int), (N.length : Int), d0, e0⟩ : Place)]) → GG 6 #[true, true, true, true, true, true, true, true, true, true, true, true, true, false, true, true, true, false, false, false, false, false] ((((((AA.put (some 90) (.slice (some ⟨r3, 0, none⟩) 0 0)).put (some 93) x6).put (some 95) (.slice (some ⟨r8, 0, none⟩) 1 1)).put (some 96) (.slice ZA (G.length + 1) zc)).put (some 97) (.agg #[.int .i64 ((N.length : Int) + 1), .slice ZA (G.length + 1) zc])).put (some 98) (.slice (some ⟨r11, 0, none⟩) 0 0)) V) := by
                  refine Lib.hid (fun V r3 r8 r11 x6 ZA zc hBc o11 o9 => ?_)
                  refine (hGG.out _ _ _ _).2 ?_
                  rw [hAA.out]
                  try simp only [Act.put, List.setIfInBounds_toArray, List.set_cons_zero, List.set_cons_succ]
                  have hle := hBc.size
                  have hH := hSk.out _ hBc
                  refine wpAnyH_ready (rs := [13, 17]) (by kernel_rfl) (by simp) ?_
                  refine AllReadyH.cons rfl (fun K hK => ?_) (AllReadyH.cons rfl (fun K hK => ?_) AllReadyH.nil)
                  · have hNl := (h1.now hBc).lst
                    refine step_append_lst rfl _ _ 27 rfl strCell 1 strCell_one (by omega) V0.heap.size 9 _ 16 Tryz.underlying27 info_str rfl (.slice (some ⟨r11, 0, none⟩) 0 0) ([] : List ByteArray) rfl o11 _ _ _ _ N rfl hNl (by simp <;> omega) (by omega) hle ?_
                    intro u wz hO1 hG1 hD1
                    rw [List.nil_append] at hO1
                    replace o9 := own_kept o9 hG1 (own_apart o9 o11 (by decide))
                    have hBn := hBc.grown hG1 hle (fun q hq => (o11.lt q hq).1)
                    refine hK.out _ _ (hSk.out _ hBn) (fun hH => ?_)
                    clear hK K
                    try simp only [Act.put, List.setIfInBounds_toArray, List.set_cons_zero, List.set_cons_succ]
                    have hs := (hGG.out _ _ _ _).1 (st3_.out wz r3 r8 r11 x6 ZA zc u hBn o9 hO1)
                    rw [hAA.out] at hs
                    try simp only [Act.put, List.setIfInBounds_toArray, List.set_cons_zero, List.set_cons_succ] at hs
                    exact hs
                  · go_simp
                    have q17 := own_new1L strCell 1 strCell_len V 9 V0.heap.size hle n0 (by decide)
                    have hBn := hBc.alloc hle (.cells (strCell n0).toArray 9)
                    refine hK.out _ _ (hSk.out _ hBn) (fun hH => ?_)
                    clear hK K
                    try simp only [Act.put, List.setIfInBounds_toArray, List.set_cons_zero, List.set_cons_succ]
                    have hs := (hGG.out _ _ _ _).1 (st2_23.out (V.alloc (.cells (strCell n0).toArray 9)) r3 r8 r11 V.heap.size x6 ZA zc hBn (o11.alloc _) q17 (o9.alloc _) (Nat.ne_of_lt (o11.lt r11 rfl).2))
                    rw [hAA.out] at hs
                    try simp only [Act.put, List.setIfInBounds_toArray, List.set_cons_zero, List.set_cons_succ] at hs
                    exact hs
                have st2_3 : Hid (∀ (V : World) (r3 : Nat) (r8 : Nat) (r17 : Nat) (x6 : Value) (ZA : Option Addr) (zc : Nat), Below V0.heap.size V0 V → Own strCell 1 9 V V0.heap.size (.slice (some ⟨r17, 0, none⟩) 1 1) [n0] → Own Place.cells 4 57 V V0.heap.size (.slice ZA (G.length + 1) zc) (G ++ [(⟨(N.length : Int), (N.length : Int), d0, e0⟩ : Place)]) → GG 6 #[true, true, true, true, true, true, true, true, true, true, true, false, true, false, true, true, true, true, false, false, false, false] ((((((AA.put (some 90) (.slice (some ⟨r3, 0, none⟩) 0 0)).put (some 93) x6).put (some 95) (.slice (some ⟨r8, 0, none⟩) 1 1)).put (some 96) (.slice ZA (G.length + 1) zc)).put (some 97) (.agg #[.int .i64 ((N.length : Int) + 1), .slice ZA (G.length + 1) zc])).put (some 104) (.slice (some ⟨r17, 0, none⟩) 1 1)) V) := by
                  refine Lib.hid (fun V r3 r8 r17 x6 ZA zc hBc o17 o9 => ?_)
                  refine (hGG.out _ _ _ _).2 ?_
                  rw [hAA.out]
                  try simp only [Act.put, List.setIfInBounds_toArray, List.set_cons_zero, List.set_cons_succ]
                  have hle := hBc.size
                  have hH := hSk.out _ hBc
                  refine wpAnyH_ready (rs := [11]) (by kernel_rfl) (by simp) ?_
                  refine AllReadyH.cons rfl (fun K hK => ?_) AllReadyH.nil
                  · go_simp
                    have q11 := own_new0 strCell 1 V 9 V0.heap.size hle (α := ByteArray)
                    have hBn := hBc.alloc hle (.cells #[] 9)
                    refine hK.out _ _ (hSk.out _ hBn) (fun hH => ?_)
                    clear hK K
                    try simp only [Act.put, List.setIfInBounds_toArray, List.set_cons_zero, List.set_cons_succ]
                    have hs := (hGG.out _ _ _ _).1 (st2_23.out (V.alloc (.cells #[] 9)) r3 r8 V.heap.size r17 x6 ZA zc hBn q11 (o17.alloc _) (o9.alloc _) (Nat.ne_of_gt (o17.lt r17 rfl).2))
                    rw [hAA.out] at hs
                    try simp only [Act.put, List.setIfInBounds_toArray, List.set_cons_zero, List.set_cons_succ] at hs
                    exact hs
                have st2_ : Hid (∀ (V : World) (r3 : Nat) (r8 : Nat) (x6 : Value) (ZA : Option Addr) (zc : Nat), Below V0.heap.size V0 V → Own Place.cells 4 57 V V0.heap.size (.slice ZA (G.length + 1) zc) (G ++ [(⟨(N.length : Int), (N.length : Int), d0, e0⟩ : Place)]) → GG 7 #[true, true, true, true, true, true, true, true, true, true, true, false, true, false, true, true, true, false, false, false, false, false] (((((AA.put (some 90) (.slice (some ⟨r3, 0, none⟩) 0 0)).put (some 93) x6).put (some 95) (.slice (some ⟨r8, 0, none⟩) 1 1)).put (some 96) (.slice ZA (G.length + 1) zc)).put (some 97) (.agg #[.int .i64 ((N.length : Int) + 1), .slice ZA (G.length + 1) zc])) V) := by
                  refine Lib.hid (fun V r3 r8 x6 ZA zc hBc o9 => ?_)
                  refine (hGG.out _ _ _ _).2 ?_
                  rw [hAA.out]
                  try simp only [Act.put, List.setIfInBounds_toArray, List.set_cons_zero, List.set_cons_succ]
                  have hle := hBc.size
                  have hH := hSk.out _ hBc
                  refine wpAnyH_ready (rs := [11, 17]) (by kernel_rfl) (by simp) ?_
                  refine AllReadyH.cons rfl (fun K hK => ?_) (AllReadyH.cons rfl (fun K hK => ?_) AllReadyH.nil)
                  · go_simp
                    have q11 := own_new0 strCell 1 V 9 V0.heap.size hle (α := ByteArray)
                    have hBn := hBc.alloc hle (.cells #[] 9)
                    refine hK.out _ _ (hSk.out _ hBn) (fun hH => ?_)
                    clear hK K
                    try simp only [Act.put, List.setIfInBounds_toArray, List.set_cons_zero, List.set_cons_succ]
                    have hs := (hGG.out _ _ _ _).1 (st2_2.out (V.alloc (.cells #[] 9)) r3 r8 V.heap.size x6 ZA zc hBn q11 (o9.alloc _))
                    rw [hAA.out] at hs
                    try simp only [Act.put, List.setIfInBounds_toArray, List.set_cons_zero, List.set_cons_succ] at hs
                    exact hs
                  · go_simp
                    have q17 := own_new1L strCell 1 strCell_len V 9 V0.heap.size hle n0 (by decide)
                    have hBn := hBc.alloc hle (.cells (strCell n0).toArray 9)
                    refine hK.out _ _ (hSk.out _ hBn) (fun hH => ?_)
                    clear hK K
                    try simp only [Act.put, List.setIfInBounds_toArray, List.set_cons_zero, List.set_cons_succ]
                    have hs := (hGG.out _ _ _ _).1 (st2_3.out (V.alloc (.cells (strCell n0).toArray 9)) r3 r8 V.heap.size x6 ZA zc hBn q17 (o9.alloc _))
                    rw [hAA.out] at hs
                    try simp only [Act.put, List.setIfInBounds_toArray, List.set_cons_zero, List.set_cons_succ] at hs
                    exact hs
                have st1_123 : Hid (∀ (V : World) (r3 : Nat) (r8 : Nat) (r11 : Nat) (r17 : Nat) (x6 : Value), Below V0.heap.size V0 V → Own Place.cells 4 57 V V0.heap.size (.slice (some ⟨r8, 0, none⟩) 1 1) [(⟨(N.length : Int), (N.length : Int), d0, e0⟩ : Place)] → Own strCell 1 9 V V0.heap.size (.slice (some ⟨r11, 0, none⟩) 0 0) ([] : List ByteArray) → Own strCell 1 9 V V0.heap.size (.slice (some ⟨r17, 0, none⟩) 1 1) [n0] → Own Place.cells 4 57 V V0.heap.size x6 G → r11 ≠ r17 → GG 7 #[true, true, true, true, true, true, true, true, true, false, false, true, true, false, true, true, true, true, false, false, false, false] (((((AA.put (some 90) (.slice (some ⟨r3, 0, none⟩) 0 0)).put (some 93) x6).put (some 95) (.slice (some ⟨r8, 0, none⟩) 1 1)).put (some 98) (.slice (some ⟨r11, 0, none⟩) 0 0)).put (some 104) (.slice (some ⟨r17, 0, none⟩) 1 1)) V) := by
                  refine Lib.hid (fun V r3 r8 r11 r17 x6 hBc o8 o11 o17 o6 n11_17 => ?_)
                  refine (hGG.out _ _ _ _).2 ?_
                  rw [hAA.out]
                  try simp only [Act.put, List.setIfInBounds_toArray, List.set_cons_zero, List.set_cons_succ]
                  have hle := hBc.size
                  have hH := hSk.out _ hBc
                  refine wpAnyH_ready (rs := [9]) (by kernel_rfl) (by simp) ?_
                  refine AllReadyH.cons rfl (fun K hK => ?_) AllReadyH.nil
                  · have hNl := o8.lst
                    refine step_append_lst rfl _ _ 24 rfl Place.cells 4 Place.cells_one (by omega) V0.heap.size 57 _ 32 Tryz.underlying24 info_place rfl x6 G rfl o6 _ _ _ _ [(⟨(N.length : Int), (N.length : Int), d0, e0⟩ : Place)] rfl hNl (by simp <;> omega) (by omega) hle ?_
                    intro u wz hO1 hG1 hD1
                    replace o11 := own_kept o11 hG1 (own_apart o11 o6 (by decide))
                    replace o17 := own_kept o17 hG1 (own_apart o17 o6 (by decide))
                    have hBn := hBc.grown hG1 hle (fun q hq => (o6.lt q hq).1)
                    obtain ⟨ZA, zc, rfl⟩ := own_shape_n hO1 (show (G ++ [(⟨(N.length : Int), (N.length : Int), d0, e0⟩ : Place)]).length = G.length + 1 by simp)
                    refine hK.out _ _ (hSk.out _ hBn) (fun hH => ?_)
                    clear hK K
                    try simp only [Act.put, List.setIfInBounds_toArray, List.set_cons_zero, List.set_cons_succ]
                    refine tkH 10 (v := ?_) rfl (fun _ _ _ h => h) (Or.inl ⟨by rfl, ?_⟩) hH ?_
                    rotate_left
                    · intro w9 hSw
                      try dsimp only at hSw
                      obtain ⟨s0, s1, s2, s3, s4, s5, s6⟩ := hSw
                      go_simp
                      try with_reducible rfl
                    try simp only [Act.put, List.setIfInBounds_toArray, List.set_cons_zero, List.set_cons_succ]
                    have hs := (hGG.out _ _ _ _).1 (st2_23.out wz r3 r8 r11 r17 x6 ZA zc hBn o11 o17 hO1 n11_17)
                    rw [hAA.out] at hs
                    try simp only [Act.put, List.setIfInBounds_toArray, List.set_cons_zero, List.set_cons_succ] at hs
                    exact hs
                have st1_12 : Hid (∀ (V : World) (r3 : Nat) (r8 : Nat) (r11 : Nat) (x6 : Value), Below V0.heap.size V0 V → Own Place.cells 4 57 V V0.heap.size (.slice (some ⟨r8, 0, none⟩) 1 1) [(⟨(N.length : Int), (N.length : Int), d0, e0⟩ : Place)] → Own strCell 1 9 V V0.heap.size (.slice (some ⟨r11, 0, none⟩) 0 0) ([] : List ByteArray) → Own Place.cells 4 57 V V0.heap.size x6 G → GG 8 #[true, true, true, true, true, true, true, true, true, false, false, true, true, false, true, true, true, false, false, false, false, false] ((((AA.put (some 90) (.slice (some ⟨r3, 0, none⟩) 0 0)).put (some 93) x6).put (some 95) (.slice (some ⟨r8, 0, none⟩) 1 1)).put (some 98) (.slice (some ⟨r11, 0, none⟩) 0 0)) V) := by
                  refine Lib.hid (fun V r3 r8 r11 x6 hBc o8 o11 o6 => ?_)
                  refine (hGG.out _ _ _ _).2 ?_
                  rw [hAA.out]
                  try simp only [Act.put, List.setIfInBounds_toArray, List.set_cons_zero, List.set_cons_succ]
                  have hle := hBc.size
                  have hH := hSk.out _ hBc
                  refine wpAnyH_ready (rs := [9, 17]) (by kernel_rfl) (by simp) ?_
                  refine AllReadyH.cons rfl (fun K hK => ?_) (AllReadyH.cons rfl (fun K hK => ?_) AllReadyH.nil)
                  · have hNl := o8.lst
                    refine step_append_lst rfl _ _ 24 rfl Place.cells 4 Place.cells_one (by omega) V0.heap.size 57 _ 32 Tryz.underlying24 info_place rfl x6 G rfl o6 _ _ _ _ [(⟨(N.length : Int), (N.length : Int), d0, e0⟩ : Place)] rfl hNl (by simp <;> omega) (by omega) hle ?_
                    intro u wz hO1 hG1 hD1
                    replace o11 := own_kept o11 hG1 (own_apart o11 o6 (by decide))
                    have hBn := hBc.grown hG1 hle (fun q hq => (o6.lt q hq).1)
                    obtain ⟨ZA, zc, rfl⟩ := own_shape_n hO1 (show (G ++ [(⟨(N.length : Int), (N.length : Int), d0, e0⟩ : Place)]).length = G.length + 1 by simp)
                    refine hK.out _ _ (hSk.out _ hBn) (fun hH => ?_)
                    clear hK K
                    try simp only [Act.put, List.setIfInBounds_toArray, List.set_cons_zero, List.set_cons_succ]
                    refine tkH 10 (v := ?_) rfl (fun _ _ _ h => h) (Or.inl ⟨by rfl, ?_⟩) hH ?_
                    rotate_left
                    · intro w9 hSw
                      try dsimp only at hSw
                      obtain ⟨s0, s1, s2, s3, s4, s5, s6⟩ := hSw
                      go_simp
                      try with_reducible rfl
                    try simp only [Act.put, List.setIfInBounds_toArray, List.set_cons_zero, List.set_cons_succ]
                    have hs := (hGG.out _ _ _ _).1 (st2_2.out wz r3 r8 r11 x6 ZA zc hBn o11 hO1)
                    rw [hAA.out] at hs
                    try simp only [Act.put, List.setIfInBounds_toArray, List.set_cons_zero, List.set_cons_succ] at hs
                    exact hs
                  · go_simp
                    have q17 := own_new1L strCell 1 strCell_len V 9 V0.heap.size hle n0 (by decide)
                    have hBn := hBc.alloc hle (.cells (strCell n0).toArray 9)
                    refine hK.out _ _ (hSk.out _ hBn) (fun hH => ?_)
                    clear hK K
                    try simp only [Act.put, List.setIfInBounds_toArray, List.set_cons_zero, List.set_cons_succ]
                    have hs := (hGG.out _ _ _ _).1 (st1_123.out (V.alloc (.cells (strCell n0).toArray 9)) r3 r8 r11 V.heap.size x6 hBn (o8.alloc _) (o11.alloc _) q17 (o6.alloc _) (Nat.ne_of_lt (o11.lt r11 rfl).2))
                    rw [hAA.out] at hs
                    try simp only [Act.put, List.setIfInBounds_toArray, List.set_cons_zero, List.set_cons_succ] at hs
                    exact hs
                have st1_13 : Hid (∀ (V : World) (r3 : Nat) (r8 : Nat) (r17 : Nat) (x6 : Value), Below V0.heap.size V0 V → Own Place.cells 4 57 V V0.heap.size (.slice (some ⟨r8, 0, none⟩) 1 1) [(⟨(N.length : Int), (N.length : Int), d0, e0⟩ : Place)] → Own strCell 1 9 V V0.heap.size (.slice (some ⟨r17, 0, none⟩) 1 1) [n0] → Own Place.cells 4 57 V V0.heap.size x6 G → GG 8 #[true, true, true, true, true, true, true, true, true, false, false, false, true, false, true, true, true, true, false, false, false, false] ((((AA.put (some 90) (.slice (some ⟨r3, 0, none⟩) 0 0)).put (some 93) x6).put (some 95) (.slice (some ⟨r8, 0, none⟩) 1 1)).put (some 104) (.slice (some ⟨r17, 0, none⟩) 1 1)) V) := by
                  refine Lib.hid (fun V r3 r8 r17 x6 hBc o8 o17 o6 => ?_)
                  refine (hGG.out _ _ _ _).2 ?_
                  rw [hAA.out]
                  try simp only [Act.put, List.setIfInBounds_toArray, List.set_cons_zero, List.set_cons_succ]
                  have hle := hBc.size
                  have hH := hSk.out _ hBc
                  refine wpAnyH_ready (rs := [9, 11]) (by kernel_rfl) (by simp) ?_
                  refine AllReadyH.cons rfl (fun K hK => ?_) (AllReadyH.cons rfl (fun K hK => ?_) AllReadyH.nil)
                  · have hNl := o8.lst
                    refine step_append_lst rfl _ _ 24 rfl Place.cells 4 Place.cells_one (by omega) V0.heap.size 57 _ 32 Tryz.underlying24 info_place rfl x6 G rfl o6 _ _ _ _ [(⟨(N.length : Int), (N.length : Int), d0, e0⟩ : Place)] rfl hNl (by simp <;> omega) (by omega) hle ?_
                    intro u wz hO1 hG1 hD1
                    replace o17 := own_kept o17 hG1 (own_apart o17 o6 (by decide))
                    have hBn := hBc.grown hG1 hle (fun q hq => (o6.lt q hq).1)
                    obtain ⟨ZA, zc, rfl⟩ := own_shape_n hO1 (show (G ++ [(⟨(N.length : Int), (N.length : Int), d0, e0⟩ : Place)]).length = G.length + 1 by simp)
                    refine hK.out _ _ (hSk.out _ hBn) (fun hH => ?_)
                    clear hK K
                    try simp only [Act.put, List.setIfInBounds_toArray, List.set_cons_zero, List.set_cons_succ]
                    refine tkH 10 (v := ?_) rfl (fun _ _ _ h => h) (Or.inl ⟨by rfl, ?_⟩) hH ?_
                    rotate_left
                    · intro w9 hSw
                      try dsimp only at hSw
                      obtain ⟨s0, s1, s2, s3, s4, s5, s6⟩ := hSw
                      go_simp
                      try with_reducible rfl
                    try simp only [Act.put, List.setIfInBounds_toArray, List.set_cons_zero, List.set_cons_succ]
                    have hs := (hGG.out _ _ _ _).1 (st2_3.out wz r3 r8 r17 x6 ZA zc hBn o17 hO1)
                    rw [hAA.out] at hs
                    try simp only [Act.put, List.setIfInBounds_toArray, List.set_cons_zero, List.set_cons_succ] at hs
                    exact hs
                  · go_simp
                    have q11 := own_new0 strCell 1 V 9 V0.heap.size hle (α := ByteArray)
                    have hBn := hBc.alloc hle (.cells #[] 9)
                    refine hK.out _ _ (hSk.out _ hBn) (fun hH => ?_)
                    clear hK K
                    try simp only [Act.put, List.setIfInBounds_toArray, List.set_cons_zero, List.set_cons_succ]
                    have hs := (hGG.out _ _ _ _).1 (st1_123.out (V.alloc (.cells #[] 9)) r3 r8 V.heap.size r17 x6 hBn (o8.alloc _) q11 (o17.alloc _) (o6.alloc _) (Nat.ne_of_gt (o17.lt r17 rfl).2))
                    rw [hAA.out] at hs
                    try simp only [Act.put, List.setIfInBounds_toArray, List.set_cons_zero, List.set_cons_succ] at hs
                    exact hs
                have st1_23 : Hid (∀ (V : World) (r3 : Nat) (r11 : Nat) (r17 : Nat) (x6 : Value), Below V0.heap.size V0 V → Own strCell 1 9 V V0.heap.size (.slice (some ⟨r11, 0, none⟩) 0 0) ([] : List ByteArray) → Own strCell 1 9 V V0.heap.size (.slice (some ⟨r17, 0, none⟩) 1 1) [n0] → Own Place.cells 4 57 V V0.heap.size x6 G → r11 ≠ r17 → GG 8 #[true, true, true, true, true, true, true, true, false, false, false, true, true, false, true, true, true, true, false, false, false, false] ((((AA.put (some 90) (.slice (some ⟨r3, 0, none⟩) 0 0)).put (some 93) x6).put (some 98) (.slice (some ⟨r11, 0, none⟩) 0 0)).put (some 104) (.slice (some ⟨r17, 0, none⟩) 1 1)) V) := by
                  refine Lib.hid (fun V r3 r11 r17 x6 hBc o11 o17 o6 n11_17 => ?_)
                  refine (hGG.out _ _ _ _).2 ?_
                  rw [hAA.out]
                  try simp only [Act.put, List.setIfInBounds_toArray, List.set_cons_zero, List.set_cons_succ]
                  have hle := hBc.size
                  have hH := hSk.out _ hBc
                  refine wpAnyH_ready (rs := [8]) (by kernel_rfl) (by simp) ?_
                  refine AllReadyH.cons rfl (fun K hK => ?_) AllReadyH.nil
                  · go_simp
                    have q8 := own_new1L Place.cells 4 Place.cells_len V 57 V0.heap.size hle (⟨(N.length : Int), (N.length : Int), d0, e0⟩ : Place) (by decide)
                    have hBn := hBc.alloc hle (.cells (Place.cells (⟨(N.length : Int), (N.length : Int), d0, e0⟩ : Place)).toArray 57)
                    refine hK.out _ _ (hSk.out _ hBn) (fun hH => ?_)
                    clear hK K
                    try simp only [Act.put, List.setIfInBounds_toArray, List.set_cons_zero, List.set_cons_succ]
                    have hs := (hGG.out _ _ _ _).1 (st1_123.out (V.alloc (.cells (Place.cells (⟨(N.length : Int), (N.length : Int), d0, e0⟩ : Place)).toArray 57)) r3 V.heap.size r11 r17 x6 hBn q8 (o11.alloc _) (o17.alloc _) (o6.alloc _) n11_17)
                    rw [hAA.out] at hs
                    try simp only [Act.put, List.setIfInBounds_toArray, List.set_cons_zero, List.set_cons_succ] at hs
                    exact hs
                have st1_1 : Hid (∀ (V : World) (r3 : Nat) (r8 : Nat) (x6 : Value), Below V0.heap.size V0 V → Own Place.cells 4 57 V V0.heap.size (.slice (some ⟨r8, 0, none⟩) 1 1) [(⟨(N.length : Int), (N.length : Int), d0, e0⟩ : Place)] → Own Place.cells 4 57 V V0.heap.size x6 G → GG 9 #[true, true, true, true, true, true, true, true, true, false, false, false, true, false, true, true, true, false, false, false, false, false] (((AA.put (some 90) (.slice (some ⟨r3, 0, none⟩) 0 0)).put (some 93) x6).put (some 95) (.slice (some ⟨r8, 0, none⟩) 1 1)) V) := by
                  refine Lib.hid (fun V r3 r8 x6 hBc o8 o6 => ?_)
                  refine (hGG.out _ _ _ _).2 ?_
                  rw [hAA.out]
                  try simp only [Act.put, List.setIfInBounds_toArray, List.set_cons_zero, List.set_cons_succ]
                  have hle := hBc.size
                  have hH := hSk.out _ hBc
                  refine wpAnyH_ready (rs := [9, 11, 17]) (by kernel_rfl) (by simp) ?_
                  refine AllReadyH.cons rfl (fun K hK => ?_) (AllReadyH.cons rfl (fun K hK => ?_) (AllReadyH.cons rfl (fun K hK => ?_) AllReadyH.nil))
                  · have hNl := o8.lst
                    refine step_append_lst rfl _ _ 24 rfl Place.cells 4 Place.cells_one (by omega) V0.heap.size 57 _ 32 Tryz.underlying24 info_place rfl x6 G rfl o6 _ _ _ _ [(⟨(N.length : Int), (N.length : Int), d0, e0⟩ : Place)] rfl hNl (by simp <;> omega) (by omega) hle ?_
                    intro u wz hO1 hG1 hD1
                    have hBn := hBc.grown hG1 hle (fun q hq => (o6.lt q hq).1)
                    obtain ⟨ZA, zc, rfl⟩ := own_shape_n hO1 (show (G ++ [(⟨(N.length : Int), (N.length : Int), d0, e0⟩ : Place)]).length = G.length + 1 by simp)
                    refine hK.out _ _ (hSk.out _ hBn) (fun hH => ?_)
                    clear hK K
                    try simp only [Act.put, List.setIfInBounds_toArray, List.set_cons_zero, List.set_cons_succ]
                    refine tkH 10 (v := ?_) rfl (fun _ _ _ h => h) (Or.inl ⟨by rfl, ?_⟩) hH ?_
                    rotate_left
                    · intro w9 hSw
                      try dsimp only at hSw
                      obtain ⟨s0, s1, s2, s3, s4, s5, s6⟩ := hSw
                      go_simp
                      try with_reducible rfl
                    try simp only [Act.put, List.setIfInBounds_toArray, List.set_cons_zero, List.set_cons_succ]
                    have hs := (hGG.out _ _ _ _).1 (st2_.out wz r3 r8 x6 ZA zc hBn hO1)
                    rw [hAA.out] at hs
                    try simp only [Act.put, List.setIfInBounds_toArray, List.set_cons_zero, List.set_cons_succ] at hs
                    exact hs
                  · go_simp
                    have q11 := own_new0 strCell 1 V 9 V0.heap.size hle (α := ByteArray)
                    have hBn := hBc.alloc hle (.cells #[] 9)
                    refine hK.out _ _ (hSk.out _ hBn) (fun hH => ?_)
                    clear hK K
                    try simp only [Act.put, List.setIfInBounds_toArray, List.set_cons_zero, List.set_cons_succ]
                    have hs := (hGG.out _ _ _ _).1 (st1_12.out (V.alloc (.cells #[] 9)) r3 r8 V.heap.size x6 hBn (o8.alloc _) q11 (o6.alloc _))
                    rw [hAA.out] at hs
                    try simp only [Act.put, List.setIfInBounds_toArray, List.set_cons_zero, List.set_cons_succ] at hs
                    exact hs
                  · go_simp
                    have q17 := own_new1L strCell 1 strCell_len V 9 V0.heap.size hle n0 (by decide)
                    have hBn := hBc.alloc hle (.cells (strCell n0).toArray 9)
                    refine hK.out _ _ (hSk.out _ hBn) (fun hH => ?_)
                    clear hK K
                    try simp only [Act.put, List.setIfInBounds_toArray, List.set_cons_zero, List.set_cons_succ]
                    have hs := (hGG.out _ _ _ _).1 (st1_13.out (V.alloc (.cells (strCell n0).toArray 9)) r3 r8 V.heap.size x6 hBn (o8.alloc _) q17 (o6.alloc _))
                    rw [hAA.out] at hs
                    try simp only [Act.put, List.setIfInBounds_toArray, List.set_cons_zero, List.set_cons_succ] at hs
                    exact hs
                have st1_2 : Hid (∀ (V : World) (r3 : Nat) (r11 : Nat) (x6 : Value), Below V0.heap.size V0 V → Own strCell 1 9 V V0.heap.size (.slice (some ⟨r11, 0, none⟩) 0 0) ([] : List ByteArray) → Own Place.cells 4 57 V V0.heap.size x6 G → GG 9 #[true, true, true, true, true, true, true, true, false, false, false, true, true, false, true, true, true, false, false, false, false, false] (((AA.put (some 90) (.slice (some ⟨r3, 0, none⟩) 0 0)).put (some 93) x6).put (some 98) (.slice (some ⟨r11, 0, none⟩) 0 0)) V) := by
                  refine Lib.hid (fun V r3 r11 x6 hBc o11 o6 => ?_)
                  refine (hGG.out _ _ _ _).2 ?_
                  rw [hAA.out]
                  try simp only [Act.put, List.setIfInBounds_toArray, List.set_cons_zero, List.set_cons_succ]
                  have hle := hBc.size
                  have hH := hSk.out _ hBc
                  refine wpAnyH_ready (rs := [8, 17]) (by kernel_rfl) (by simp) ?_
                  refine AllReadyH.cons rfl (fun K hK => ?_) (AllReadyH.cons rfl (fun K hK => ?_) AllReadyH.nil)
                  · go_simp
                    have q8 := own_new1L Place.cells 4 Place.cells_len V 57 V0.heap.size hle (⟨(N.length : Int), (N.length : Int), d0, e0⟩ : Place) (by decide)
                    have hBn := hBc.alloc hle (.cells (Place.cells (⟨(N.length : Int), (N.length : Int), d0, e0⟩ : Place)).toArray 57)
                    refine hK.out _ _ (hSk.out _ hBn) (fun hH => ?_)
                    clear hK K
                    try simp only [Act.put, List.setIfInBounds_toArray, List.set_cons_zero, List.set_cons_succ]
                    have hs := (hGG.out _ _ _ _).1 (st1_12.out (V.alloc (.cells (Place.cells (⟨(N.length : Int), (N.length : Int), d0, e0⟩ : Place)).toArray 57)) r3 V.heap.size r11 x6 hBn q8 (o11.alloc _) (o6.alloc _))
                    rw [hAA.out] at hs
                    try simp only [Act.put, List.setIfInBounds_toArray, List.set_cons_zero, List.set_cons_succ] at hs
                    exact hs
                  · go_simp
                    have q17 := own_new1L strCell 1 strCell_len V 9 V0.heap.size hle n0 (by decide)
                    have hBn := hBc.alloc hle (.cells (strCell n0).toArray 9)
                    refine hK.out _ _ (hSk.out _ hBn) (fun hH => ?_)
                    clear hK K
                    try simp only [Act.put, List.setIfInBounds_toArray, List.set_cons_zero, List.set_cons_succ]
                    have hs := (hGG.out _ _ _ _).1 (st1_23.out (V.alloc (.cells (strCell n0).toArray 9)) r3 r11 V.heap.size x6 hBn (o11.alloc _) q17 (o6.alloc _) (Nat.ne_of_lt (o11.lt r11 rfl).2))
                    rw [hAA.out] at hs
                    try simp only [Act.put, List.setIfInBounds_toArray, List.set_cons_zero, List.set_cons_succ] at hs
                    exact hs
                have st1_3 : Hid (∀ (V : World) (r3 : Nat) (r17 : Nat) (x6 : Value), Below V0.heap.size V0 V → Own strCell 1 9 V V0.heap.size (.slice (some ⟨r17, 0, none⟩) 1 1) [n0] → Own Place.cells 4 57 V V0.heap.size x6 G → GG 9 #[true, true, true, true, true, true, true, true, false, false, false, false, true, false, true, true, true, true, false, false, false, false] (((AA.put (some 90) (.slice (some ⟨r3, 0, none⟩) 0 0)).put (some 93) x6).put (some 104) (.slice (some ⟨r17, 0, none⟩) 1 1)) V) := by
                  refine Lib.hid (fun V r3 r17 x6 hBc o17 o6 => ?_)
                  refine (hGG.out _ _ _ _).2 ?_
                  rw [hAA.out]
                  try simp only [Act.put, List.setIfInBounds_toArray, List.set_cons_zero, List.set_cons_succ]
                  have hle := hBc.size
                  have hH := hSk.out _ hBc
                  refine wpAnyH_ready (rs := [8, 11]) (by kernel_rfl) (by simp) ?_
                  refine AllReadyH.cons rfl (fun K hK => ?_) (AllReadyH.cons rfl (fun K hK => ?_) AllReadyH.nil)
                  · go_simp
                    have q8 := own_new1L Place.cells 4 Place.cells_len V 57 V0.heap.size hle (⟨(N.length : Int), (N.length : Int), d0, e0⟩ : Place) (by decide)
                    have hBn := hBc.alloc hle (.cells (Place.cells (⟨(N.length : Int), (N.length : Int), d0, e0⟩ : Place)).toArray 57)
                    refine hK.out _ _ (hSk.out _ hBn) (fun hH => ?_)
                    clear hK K
                    try simp only [Act.put, List.setIfInBounds_toArray, List.set_cons_zero, List.set_cons_succ]
                    have hs := (hGG.out _ _ _ _).1 (st1_13.out (V.alloc (.cells (Place.cells (⟨(N.length : Int), (N.length : Int), d0, e0⟩ : Place)).toArray 57)) r3 V.heap.size r17 x6 hBn q8 (o17.alloc _) (o6.alloc _))
                    rw [hAA.out] at hs
                    try simp only [Act.put, List.setIfInBounds_toArray, List.set_cons_zero, List.set_cons_succ] at hs
                    exact hs
                  · go_simp
                    have q11 := own_new0 strCell 1 V 9 V0.heap.size hle (α := ByteArray)
                    have hBn := hBc.alloc hle (.cells #[] 9)
                    refine hK.out _ _ (hSk.out _ hBn) (fun hH => ?_)
                    clear hK K
                    try simp only [Act.put, List.setIfInBounds_toArray, List.set_cons_zero, List.set_cons_succ]
                    have hs := (hGG.out _ _ _ _).1 (st1_23.out (V.alloc (.cells #[] 9)) r3 V.heap.size r17 x6 hBn q11 (o17.alloc _) (o6.alloc _) (Nat.ne_of_gt (o17.lt r17 rfl).2))
                    rw [hAA.out] at hs
                    try simp only [Act.put, List.setIfInBounds_toArray, List.set_cons_zero, List.set_cons_succ] at hs
                    exact hs
                have st1_ : Hid (∀ (V : World) (r3 : Nat) (x6 : Value), Below V0.heap.size V0 V → Own Place.cells 4 57 V V0.heap.size x6 G → GG 10 #[true, true, true, true, true, true, true, true, false, false, false, false, true, false, true, true, true, false, false, false, false, false] ((AA.put (some 90) (.slice (some ⟨r3, 0, none⟩) 0 0)).put (some 93) x6) V) := by
                  refine Lib.hid (fun V r3 x6 hBc o6 => ?_)
                  refine (hGG.out _ _ _ _).2 ?_
                  rw [hAA.out]
                  try simp only [Act.put, List.setIfInBounds_toArray, List.set_cons_zero, List.set_cons_succ]
                  have hle := hBc.size
                  have hH := hSk.out _ hBc
                  refine wpAnyH_ready (rs := [8, 11, 17]) (by kernel_rfl) (by simp) ?_
                  refine AllReadyH.cons rfl (fun K hK => ?_) (AllReadyH.cons rfl (fun K hK => ?_) (AllReadyH.cons rfl (fun K hK => ?_) AllReadyH.nil))
                  · go_simp
                    have q8 := own_new1L Place.cells 4 Place.cells_len V 57 V0.heap.size hle (⟨(N.length : Int), (N.length : Int), d0, e0⟩ : Place) (by decide)
                    have hBn := hBc.alloc hle (.cells (Place.cells (⟨(N.length : Int), (N.length : Int), d0, e0⟩ : Place)).toArray 57)
                    refine hK.out _ _ (hSk.out _ hBn) (fun hH => ?_)
                    clear hK K
                    try simp only [Act.put, List.setIfInBounds_toArray, List.set_cons_zero, List.set_cons_succ]
                    have hs := (hGG.out _ _ _ _).1 (st1_1.out (V.alloc (.cells (Place.cells (⟨(N.length : Int), (N.length : Int), d0, e0⟩ : Place)).toArray 57)) r3 V.heap.size x6 hBn q8 (o6.alloc _))
                    rw [hAA.out] at hs
                    try simp only [Act.put, List.setIfInBounds_toArray, List.set_cons_zero, List.set_cons_succ] at hs
                    exact hs
                  · go_simp
                    have q11 := own_new0 strCell 1 V 9 V0.heap.size hle (α := ByteArray)
                    have hBn := hBc.alloc hle (.cells #[] 9)
                    refine hK.out _ _ (hSk.out _ hBn) (fun hH => ?_)
                    clear hK K
                    try simp only [Act.put, List.setIfInBounds_toArray, List.set_cons_zero, List.set_cons_succ]
                    have hs := (hGG.out _ _ _ _).1 (st1_2.out (V.alloc (.cells #[] 9)) r3 V.heap.size x6 hBn q11 (o6.alloc _))
                    rw [hAA.out] at hs
                    try simp only [Act.put, List.setIfInBounds_toArray, List.set_cons_zero, List.set_cons_succ] at hs
                    exact hs
                  · go_simp
                    have q17 := own_new1L strCell 1 strCell_len V 9 V0.heap.size hle n0 (by decide)
                    have hBn := hBc.alloc hle (.cells (strCell n0).toArray 9)
                    refine hK.out _ _ (hSk.out _ hBn) (fun hH => ?_)
                    clear hK K
                    try simp only [Act.put, List.setIfInBounds_toArray, List.set_cons_zero, List.set_cons_succ]
                    have hs := (hGG.out _ _ _ _).1 (st1_3.out (V.alloc (.cells (strCell n0).toArray 9)) r3 V.heap.size x6 hBn q17 (o6.alloc _))
                    rw [hAA.out] at hs
                    try simp only [Act.put, List.setIfInBounds_toArray, List.set_cons_zero, List.set_cons_succ] at hs
                    exact hs
                have st0_0123 : Hid (∀ (V : World) (r3 : Nat) (r8 : Nat) (r11 : Nat) (r17 : Nat), Below V0.heap.size V0 V → Own Place.cells 4 57 V V0.heap.size (.slice (some ⟨r3, 0, none⟩) 0 0) ([] : List Place) → Own Place.cells 4 57 V V0.heap.size (.slice (some ⟨r8, 0, none⟩) 1 1) [(⟨(N.length : Int), (N.length : Int), d0, e0⟩ : Place)] → Own strCell 1 9 V V0.heap.size (.slice (some ⟨r11, 0, none⟩) 0 0) ([] : List ByteArray) → Own strCell 1 9 V V0.heap.size (.slice (some ⟨r17, 0, none⟩) 1 1) [n0] → r3 ≠ r8 → r11 ≠ r17 → GG 8 #[true, true, true, true, true, true, false, true, true, false, false, true, true, false, true, true, true, true, false, false, false, false] ((((AA.put (some 90) (.slice (some ⟨r3, 0, none⟩) 0 0)).put (some 95) (.slice (some ⟨r8, 0, none⟩) 1 1)).put (some 98) (.slice (some ⟨r11, 0, none⟩) 0 0)).put (some 104) (.slice (some ⟨r17, 0, none⟩) 1 1)) V) := by
                  refine Lib.hid (fun V r3 r8 r11 r17 hBc o3 o8 o11 o17 n3_8 n11_17 => ?_)
                  refine (hGG.out _ _ _ _).2 ?_
                  rw [hAA.out]
                  try simp only [Act.put, List.setIfInBounds_toArray, List.set_cons_zero, List.set_cons_succ]
                  have hle := hBc.size
                  have hH := hSk.out _ hBc
                  refine wpAnyH_ready (rs := [6]) (by kernel_rfl) (by simp) ?_
                  refine AllReadyH.cons rfl (fun K hK => ?_) AllReadyH.nil
                  · have hNl := (h0.now hBc).lst
                    refine step_append_lst rfl _ _ 24 rfl Place.cells 4 Place.cells_one (by omega) V0.heap.size 57 _ 32 Tryz.underlying24 info_place rfl (.slice (some ⟨r3, 0, none⟩) 0 0) ([] : List Place) rfl o3 _ _ _ _ G rfl hNl (by simp <;> omega) (by omega) hle ?_
                    intro u wz hO1 hG1 hD1
                    rw [List.nil_append] at hO1
                    replace o8 := own_kept o8 hG1 (fun k a b => n3_8 ((Option.some.inj b).trans (Option.some.inj a).symm))
                    replace o11 := own_kept o11 hG1 (own_apart o11 o3 (by decide))
                    replace o17 := own_kept o17 hG1 (own_apart o17 o3 (by decide))
                    have hBn := hBc.grown hG1 hle (fun q hq => (o3.lt q hq).1)
                    refine hK.out _ _ (hSk.out _ hBn) (fun hH => ?_)
                    clear hK K
                    try simp only [Act.put, List.setIfInBounds_toArray, List.set_cons_zero, List.set_cons_succ]
                    have hs := (hGG.out _ _ _ _).1 (st1_123.out wz r3 r8 r11 r17 u hBn o8 o11 o17 hO1 n11_17)
                    rw [hAA.out] at hs
                    try simp only [Act.put, List.setIfInBounds_toArray, List.set_cons_zero, List.set_cons_succ] at hs
                    exact hs
                have st0_012 : Hid (∀ (V : World) (r3 : Nat) (r8 : Nat) (r11 : Nat), Below V0.heap.size V0 V → Own Place.cells 4 57 V V0.heap.size (.slice (some ⟨r3, 0, none⟩) 0 0) ([] : List Place) → Own Place.cells 4 57 V V0.heap.size (.slice (some ⟨r8, 0, none⟩) 1 1) [(⟨(N.length : Int), (N.length : Int), d0, e0⟩ : Place)] → Own strCell 1 9 V V0.heap.size (.slice (some ⟨r11, 0, none⟩) 0 0) ([] : List ByteArray) → r3 ≠ r8 → GG 9 #[true, true, true, true, true, true, false, true, true, false, false, true, true, false, true, true, true, false, false, false, false, false] (((AA.put (some 90) (.slice (some ⟨r3, 0, none⟩) 0 0)).put (some 95) (.slice (some ⟨r8, 0, none⟩) 1 1)).put (some 98) (.slice (some ⟨r11, 0, none⟩) 0 0)) V) := by
                  refine Lib.hid (fun V r3 r8 r11 hBc o3 o8 o11 n3_8 => ?_)
                  refine (hGG.out _ _ _ _).2 ?_
                  rw [hAA.out]
                  try simp only [Act.put, List.setIfInBounds_toArray, List.set_cons_zero, List.set_cons_succ]
                  have hle := hBc.size
                  have hH := hSk.out _ hBc
                  refine wpAnyH_ready (rs := [6, 17]) (by kernel_rfl) (by simp) ?_
                  refine AllReadyH.cons rfl (fun K hK => ?_) (AllReadyH.cons rfl (fun K hK => ?_) AllReadyH.nil)
                  · have hNl := (h0.now hBc).lst
                    refine step_append_lst rfl _ _ 24 rfl Place.cells 4 Place.cells_one (by omega) V0.heap.size 57 _ 32 Tryz.underlying24 info_place rfl (.slice (some ⟨r3, 0, none⟩) 0 0) ([] : List Place) rfl o3 _ _ _ _ G rfl hNl (by simp <;> omega) (by omega) hle ?_
                    intro u wz hO1 hG1 hD1
                    rw [List.nil_append] at hO1
                    replace o8 := own_kept o8 hG1 (fun k a b => n3_8 ((Option.some.inj b).trans (Option.some.inj a).symm))
                    replace o11 := own_kept o11 hG1 (own_apart o11 o3 (by decide))
                    have hBn := hBc.grown hG1 hle (fun q hq => (o3.lt q hq).1)
                    refine hK.out _ _ (hSk.out _ hBn) (fun hH => ?_)
                    clear hK K
                    try simp only [Act.put, List.setIfInBounds_toArray, List.set_cons_zero, List.set_cons_succ]
                    have hs := (hGG.out _ _ _ _).1 (st1_12.out wz r3 r8 r11 u hBn o8 o11 hO1)
                    rw [hAA.out] at hs
                    try simp only [Act.put, List.setIfInBounds_toArray, List.set_cons_zero, List.set_cons_succ] at hs
                    exact hs
                  · go_simp
                    have q17 := own_new1L strCell 1 strCell_len V 9 V0.heap.size hle n0 (by decide)
                    have hBn := hBc.alloc hle (.cells (strCell n0).toArray 9)
                    refine hK.out _ _ (hSk.out _ hBn) (fun hH => ?_)
                    clear hK K
                    try simp only [Act.put, List.setIfInBounds_toArray, List.set_cons_zero, List.set_cons_succ]
                    have hs := (hGG.out _ _ _ _).1 (st0_0123.out (V.alloc (.cells (strCell n0).toArray 9)) r3 r8 r11 V.heap.size hBn (o3.alloc _) (o8.alloc _) (o11.alloc _) q17 n3_8 (Nat.ne_of_lt (o11.lt r11 rfl).2))
                    rw [hAA.out] at hs
                    try simp only [Act.put, List.setIfInBounds_toArray, List.set_cons_zero, List.set_cons_succ] at hs
                    exact hs
                have st0_013 : Hid (∀ (V : World) (r3 : Nat) (r8 : Nat) (r17 : Nat), Below V0.heap.size V0 V → Own Place.cells 4 57 V V0.heap.size (.slice (some ⟨r3, 0, none⟩) 0 0) ([] : List Place) → Own Place.cells 4 57 V V0.heap.size (.slice (some ⟨r8, 0, none⟩) 1 1) [(⟨(N.length : Int), (N.length : Int), d0, e0⟩ : Place)] → Own strCell 1 9 V V0.heap.size (.slice (some ⟨r17, 0, none⟩) 1 1) [n0] → r3 ≠ r8 → GG 9 #[true, true, true, true, true, true, false, true, true, false, false, false, true, false, true, true, true, true, false, false, false, false] (((AA.put (some 90) (.slice (some ⟨r3, 0, none⟩) 0 0)).put (some 95) (.slice (some ⟨r8, 0, none⟩) 1 1)).put (some 104) (.slice (some ⟨r17, 0, none⟩) 1 1)) V) := by
                  refine Lib.hid (fun V r3 r8 r17 hBc o3 o8 o17 n3_8 => ?_)
                  refine (hGG.out _ _ _ _).2 ?_
                  rw [hAA.out]
                  try simp only [Act.put, List.setIfInBounds_toArray, List.set_cons_zero, List.set_cons_succ]
                  have hle := hBc.size
                  have hH := hSk.out _ hBc
                  refine wpAnyH_ready (rs := [6, 11]) (by kernel_rfl) (by simp) ?_
                  refine AllReadyH.cons rfl (fun K hK => ?_) (AllReadyH.cons rfl (fun K hK => ?_) AllReadyH.nil)
                  · have hNl := (h0.now hBc).lst
                    refine step_append_lst rfl _ _ 24 rfl Place.cells 4 Place.cells_one (by omega) V0.heap.size 57 _ 32 Tryz.underlying24 info_place rfl (.slice (some ⟨r3, 0, none⟩) 0 0) ([] : List Place) rfl o3 _ _ _ _ G rfl hNl (by simp <;> omega) (by omega) hle ?_
                    intro u wz hO1 hG1 hD1
                    rw [List.nil_append] at hO1
                    replace o8 := own_kept o8 hG1 (fun k a b => n3_8 ((Option.some.inj b).trans (Option.some.inj a).symm))
                    replace o17 := own_kept o17 hG1 (own_apart o17 o3 (by decide))
                    have hBn := hBc.grown hG1 hle (fun q hq => (o3.lt q hq).1)
                    refine hK.out _ _ (hSk.out _ hBn) (fun hH => ?_)
                    clear hK K
                    try simp only [Act.put, List.setIfInBounds_toArray, List.set_cons_zero, List.set_cons_succ]
                    have hs := (hGG.out _ _ _ _).1 (st1_13.out wz r3 r8 r17 u hBn o8 o17 hO1)
                    rw [hAA.out] at hs
                    try simp only [Act.put, List.setIfInBounds_toArray, List.set_cons_zero, List.set_cons_succ] at hs
                    exact hs
                  · go_simp
                    have q11 := own_new0 strCell 1 V 9 V0.heap.size hle (α := ByteArray)
                    have hBn := hBc.alloc hle (.cells #[] 9)
                    refine hK.out _ _ (hSk.out _ hBn) (fun hH => ?_)
                    clear hK K
                    try simp only [Act.put, List.setIfInBounds_toArray, List.set_cons_zero, List.set_cons_succ]
                    have hs := (hGG.out _ _ _ _).1 (st0_0123.out (V.alloc (.cells #[] 9)) r3 r8 V.heap.size r17 hBn (o3.alloc _) (o8.alloc _) q11 (o17.alloc _) n3_8 (Nat.ne_of_gt (o17.lt r17 rfl).2))
                    rw [hAA.out] at hs
                    try simp only [Act.put, List.setIfInBounds_toArray, List.set_cons_zero, List.set_cons_succ] at hs
                    exact hs
                have st0_023 : Hid (∀ (V : World) (r3 : Nat) (r11 : Nat) (r17 : Nat), Below V0.heap.size V0 V → Own Place.cells 4 57 V V0.heap.size (.slice (some ⟨r3, 0, none⟩) 0 0) ([] : List Place) → Own strCell 1 9 V V0.heap.size (.slice (some ⟨r11, 0, none⟩) 0 0) ([] : List ByteArray) → Own strCell 1 9 V V0.heap.size (.slice (some ⟨r17, 0, none⟩) 1 1) [n0] → r11 ≠ r17 → GG 9 #[true, true, true, true, true, true, false, true, false, false, false, true, true, false, true, true, true, true, false, false, false, false] (((AA.put (some 90) (.slice (some ⟨r3, 0, none⟩) 0 0)).put (some 98) (.slice (some ⟨r11, 0, none⟩) 0 0)).put (some 104) (.slice (some ⟨r17, 0, none⟩) 1 1)) V) := by
                  refine Lib.hid (fun V r3 r11 r17 hBc o3 o11 o17 n11_17 => ?_)
                  refine (hGG.out _ _ _ _).2 ?_
                  rw [hAA.out]
                  try simp only [Act.put, List.setIfInBounds_toArray, List.set_cons_zero, List.set_cons_succ]
                  have hle := hBc.size
                  have hH := hSk.out _ hBc
                  refine wpAnyH_ready (rs := [6, 8]) (by kernel_rfl) (by simp) ?_
                  refine AllReadyH.cons rfl (fun K hK => ?_) (AllReadyH.cons rfl (fun K hK => ?_) AllReadyH.nil)
                  · have hNl := (h0.now hBc).lst
                    refine step_append_lst rfl _ _ 24 rfl Place.cells 4 Place.cells_one (by omega) V0.heap.size 57 _ 32 Tryz.underlying24 info_place rfl (.slice (some ⟨r3, 0, none⟩) 0 0) ([] : List Place) rfl o3 _ _ _ _ G rfl hNl (by simp <;> omega) (by omega) hle ?_
                    intro u wz hO1 hG1 hD1
                    rw [List.nil_append] at hO1
                    replace o11 := own_kept o11 hG1 (own_apart o11 o3 (by decide))
                    replace o17 := own_kept o17 hG1 (own_apart o17 o3 (by decide))
                    have hBn := hBc.grown hG1 hle (fun q hq => (o3.lt q hq).1)
                    refine hK.out _ _ (hSk.out _ hBn) (fun hH => ?_)
                    clear hK K
                    try simp only [Act.put, List.setIfInBounds_toArray, List.set_cons_zero, List.set_cons_succ]
                    have hs := (hGG.out _ _ _ _).1 (st1_23.out wz r3 r11 r17 u hBn o11 o17 hO1 n11_17)
                    rw [hAA.out] at hs
                    try simp only [Act.put, List.setIfInBounds_toArray, List.set_cons_zero, List.set_cons_succ] at hs
                    exact hs
                  · go_simp
                    have q8 := own_new1L Place.cells 4 Place.cells_len V 57 V0.heap.size hle (⟨(N.length : Int), (N.length : Int), d0, e0⟩ : Place) (by decide)
                    have hBn := hBc.alloc hle (.cells (Place.cells (⟨(N.length : Int), (N.length : Int), d0, e0⟩ : Place)).toArray 57)
                    refine hK.out _ _ (hSk.out _ hBn) (fun hH => ?_)
                    clear hK K
                    try simp only [Act.put, List.setIfInBounds_toArray, List.set_cons_zero, List.set_cons_succ]
                    have hs := (hGG.out _ _ _ _).1 (st0_0123.out (V.alloc (.cells (Place.cells (⟨(N.length : Int), (N.length : Int), d0, e0⟩ : Place)).toArray 57)) r3 V.heap.size r11 r17 hBn (o3.alloc _) q8 (o11.alloc _) (o17.alloc _) (Nat.ne_of_lt (o3.lt r3 rfl).2) n11_17)
                    rw [hAA.out] at hs
                    try simp only [Act.put, List.setIfInBounds_toArray, List.set_cons_zero, List.set_cons_succ] at hs
                    exact hs
                have st0_123 : Hid (∀ (V : World) (r8 : Nat) (r11 : Nat) (r17 : Nat), Below V0.heap.size V0 V → Own Place.cells 4 57 V V0.heap.size (.slice (some ⟨r8, 0, none⟩) 1 1) [(⟨(N.length : Int), (N.length : Int), d0, e0⟩ : Place)] → Own strCell 1 9 V V0.heap.size (.slice (some ⟨r11, 0, none⟩) 0 0) ([] : List ByteArray) → Own strCell 1 9 V V0.heap.size (.slice (some ⟨r17, 0, none⟩) 1 1) [n0] → r11 ≠ r17 → GG 9 #[true, true, true, false, true, true, false, true, true, false, false, true, true, false, true, true, true, true, false, false, false, false] (((AA.put (some 95) (.slice (some ⟨r8, 0, none⟩) 1 1)).put (some 98) (.slice (some ⟨r11, 0, none⟩) 0 0)).put (some 104) (.slice (some ⟨r17, 0, none⟩) 1 1)) V) := by
                  refine Lib.hid (fun V r8 r11 r17 hBc o8 o11 o17 n11_17 => ?_)
                  refine (hGG.out _ _ _ _).2 ?_
                  rw [hAA.out]
                  try simp only [Act.put, List.setIfInBounds_toArray, List.set_cons_zero, List.set_cons_succ]
                  have hle := hBc.size
                  have hH := hSk.out _ hBc
                  refine wpAnyH_ready (rs := [3]) (by kernel_rfl) (by simp) ?_
                  refine AllReadyH.cons rfl (fun K hK => ?_) AllReadyH.nil
                  · go_simp
                    have q3 := own_new0 Place.cells 4 V 57 V0.heap.size hle (α := Place)
                    have hBn := hBc.alloc hle (.cells #[] 57)
                    refine hK.out _ _ (hSk.out _ hBn) (fun hH => ?_)
                    clear hK K
                    try simp only [Act.put, List.setIfInBounds_toArray, List.set_cons_zero, List.set_cons_succ]
                    have hs := (hGG.out _ _ _ _).1 (st0_0123.out (V.alloc (.cells #[] 57)) V.heap.size r8 r11 r17 hBn q3 (o8.alloc _) (o11.alloc _) (o17.alloc _) (Nat.ne_of_gt (o8.lt r8 rfl).2) n11_17)
                    rw [hAA.out] at hs
                    try simp only [Act.put, List.setIfInBounds_toArray, List.set_cons_zero, List.set_cons_succ] at hs
                    exact hs
                have st0_01 : Hid (∀ (V : World) (r3 : Nat) (r8 : Nat), Below V0.heap.size V0 V → Own Place.cells 4 57 V V0.heap.size (.slice (some ⟨r3, 0, none⟩) 0 0) ([] : List Place) → Own Place.cells 4 57 V V0.heap.size (.slice (some ⟨r8, 0, none⟩) 1 1) [(⟨(N.length : Int), (N.length : Int), d0, e0⟩ : Place)] → r3 ≠ r8 → GG 10 #[true, true, true, true, true, true, false, true, true, false, false, false, true, false, true, true, true, false, false, false, false, false] ((AA.put (some 90) (.slice (some ⟨r3, 0, none⟩) 0 0)).put (some 95) (.slice (some ⟨r8, 0, none⟩) 1 1)) V) := by
                  refine Lib.hid (fun V r3 r8 hBc o3 o8 n3_8 => ?_)
                  refine (hGG.out _ _ _ _).2 ?_
                  rw [hAA.out]
                  try simp only [Act.put, List.setIfInBounds_toArray, List.set_cons_zero, List.set_cons_succ]
                  have hle := hBc.size
                  have hH := hSk.out _ hBc
                  refine wpAnyH_ready (rs := [6, 11, 17]) (by kernel_rfl) (by simp) ?_
                  refine AllReadyH.cons rfl (fun K hK => ?_) (AllReadyH.cons rfl (fun K hK => ?_) (AllReadyH.cons rfl (fun K hK => ?_) AllReadyH.nil))
                  · have hNl := (h0.now hBc).lst
                    refine step_append_lst rfl _ _ 24 rfl Place.cells 4 Place.cells_one (by omega) V0.heap.size 57 _ 32 Tryz.underlying24 info_place rfl (.slice (some ⟨r3, 0, none⟩) 0 0) ([] : List Place) rfl o3 _ _ _ _ G rfl hNl (by simp <;> omega) (by omega) hle ?_
                    intro u wz hO1 hG1 hD1
                    rw [List.nil_append] at hO1
                    replace o8 := own_kept o8 hG1 (fun k a b => n3_8 ((Option.some.inj b).trans (Option.some.inj a).symm))
                    have hBn := hBc.grown hG1 hle (fun q hq => (o3.lt q hq).1)
                    refine hK.out _ _ (hSk.out _ hBn) (fun hH => ?_)
                    clear hK K
                    try simp only [Act.put, List.setIfInBounds_toArray, List.set_cons_zero, List.set_cons_succ]
                    have hs := (hGG.out _ _ _ _).1 (st1_1.out wz r3 r8 u hBn o8 hO1)
                    rw [hAA.out] at hs
                    try simp only [Act.put, List.setIfInBounds_toArray, List.set_cons_zero, List.set_cons_succ] at hs
                    exact hs
                  · go_simp
                    have q11 := own_new0 strCell 1 V 9 V0.heap.size hle (α := ByteArray)
                    have hBn := hBc.alloc hle (.cells #[] 9)
                    refine hK.out _ _ (hSk.out _ hBn) (fun hH => ?_)
                    clear hK K
                    try simp only [Act.put, List.setIfInBounds_toArray, List.set_cons_zero, List.set_cons_succ]
                    have hs := (hGG.out _ _ _ _).1 (st0_012.out (V.alloc (.cells #[] 9)) r3 r8 V.heap.size hBn (o3.alloc _) (o8.alloc _) q11 n3_8)
                    rw [hAA.out] at hs
                    try simp only [Act.put, List.setIfInBounds_toArray, List.set_cons_zero, List.set_cons_succ] at hs
                    exact hs
                  · go_simp
                    have q17 := own_new1L strCell 1 strCell_len V 9 V0.heap.size hle n0 (by decide)
                    have hBn := hBc.alloc hle (.cells (strCell n0).toArray 9)
                    refine hK.out _ _ (hSk.out _ hBn) (fun hH => ?_)
                    clear hK K
                    try simp only [Act.put, List.setIfInBounds_toArray, List.set_cons_zero, List.set_cons_succ]
                    have hs := (hGG.out _ _ _ _).1 (st0_013.out (V.alloc (.cells (strCell n0).toArray 9)) r3 r8 V.heap.size hBn (o3.alloc _) (o8.alloc _) q17 n3_8)
                    rw [hAA.out] at hs
                    try simp only [Act.put, List.setIfInBounds_toArray, List.set_cons_zero, List.set_cons_succ] at hs
                    exact hs
                have st0_02 : Hid (∀ (V : World) (r3 : Nat) (r11 : Nat), Below V0.heap.size V0 V → Own Place.cells 4 57 V V0.heap.size (.slice (some ⟨r3, 0, none⟩) 0 0) ([] : List Place) → Own strCell 1 9 V V0.heap.size (.slice (some ⟨r11, 0, none⟩) 0 0) ([] : List ByteArray) → GG 10 #[true, true, true, true, true, true, false, true, false, false, false, true, true, false, true, true, true, false, false, false, false, false] ((AA.put (some 90) (.slice (some ⟨r3, 0, none⟩) 0 0)).put (some 98) (.slice (some ⟨r11, 0, none⟩) 0 0)) V) := by
                  refine Lib.hid (fun V r3 r11 hBc o3 o11 => ?_)
                  refine (hGG.out _ _ _ _).2 ?_
                  rw [hAA.out]
                  try simp only [Act.put, List.setIfInBounds_toArray, List.set_cons_zero, List.set_cons_succ]
                  have hle := hBc.size
                  have hH := hSk.out _ hBc
                  refine wpAnyH_ready (rs := [6, 8, 17]) (by kernel_rfl) (by simp) ?_
                  refine AllReadyH.cons rfl (fun K hK => ?_) (AllReadyH.cons rfl (fun K hK => ?_) (AllReadyH.cons rfl (fun K hK => ?_) AllReadyH.nil))
                  · have hNl := (h0.now hBc).lst
                    refine step_append_lst rfl _ _ 24 rfl Place.cells 4 Place.cells_one (by omega) V0.heap.size 57 _ 32 Tryz.underlying24 info_place rfl (.slice (some ⟨r3, 0, none⟩) 0 0) ([] : List Place) rfl o3 _ _ _ _ G rfl hNl (by simp <;> omega) (by omega) hle ?_
                    intro u wz hO1 hG1 hD1
                    rw [List.nil_append] at hO1
                    replace o11 := own_kept o11 hG1 (own_apart o11 o3 (by decide))
                    have hBn := hBc.grown hG1 hle (fun q hq => (o3.lt q hq).1)
                    refine hK.out _ _ (hSk.out _ hBn) (fun hH => ?_)
                    clear hK K
                    try simp only [Act.put, List.setIfInBounds_toArray, List.set_cons_zero, List.set_cons_succ]
                    have hs := (hGG.out _ _ _ _).1 (st1_2.out wz r3 r11 u hBn o11 hO1)
                    rw [hAA.out] at hs
                    try simp only [Act.put, List.setIfInBounds_toArray, List.set_cons_zero, List.set_cons_succ] at hs
                    exact hs
                  · go_simp
                    have q8 := own_new1L Place.cells 4 Place.cells_len V 57 V0.heap.size hle (⟨(N.length : Int), (N.length : Int), d0, e0⟩ : Place) (by decide)
                    have hBn := hBc.alloc hle (.cells (Place.cells (⟨(N.length : Int), (N.length : Int), d0, e0⟩ : Place)).toArray 57)
                    refine hK.out _ _ (hSk.out _ hBn) (fun hH => ?_)
                    clear hK K
                    try simp only [Act.put, List.setIfInBounds_toArray, List.set_cons_zero, List.set_cons_succ]
                    have hs := (hGG.out _ _ _ _).1 (st0_012.out (V.alloc (.cells (Place.cells (⟨(N.length : Int), (N.length : Int), d0, e0⟩ : Place)).toArray 57)) r3 V.heap.size r11 hBn (o3.alloc _) q8 (o11.alloc _) (Nat.ne_of_lt (o3.lt r3 rfl).2))
                    rw [hAA.out] at hs
                    try simp only [Act.put, List.setIfInBounds_toArray, List.set_cons_zero, List.set_cons_succ] at hs
                    exact hs
                  · go_simp
                    have q17 := own_new1L strCell 1 strCell_len V 9 V0.heap.size hle n0 (by decide)
                    have hBn := hBc.alloc hle (.cells (strCell n0).toArray 9)
                    refine hK.out _ _ (hSk.out _ hBn) (fun hH => ?_)
                    clear hK K
                    try simp only [Act.put, List.setIfInBounds_toArray, List.set_cons_zero, List.set_cons_succ]
                    have hs := (hGG.out _ _ _ _).1 (st0_023.out (V.alloc (.cells (strCell n0).toArray 9)) r3 r11 V.heap.size hBn (o3.alloc _) (o11.alloc _) q17 (Nat.ne_of_lt (o11.lt r11 rfl).2))
                    rw [hAA.out] at hs
                    try simp only [Act.put, List.setIfInBounds_toArray, List.set_cons_zero, List.set_cons_succ] at hs
                    exact hs
                have st0_03 : Hid (∀ (V : World) (r3 : Nat) (r17 : Nat), Below V0.heap.size V0 V → Own Place.cells 4 57 V V0.heap.size (.slice (some ⟨r3, 0, none⟩) 0 0) ([] : List Place) → Own strCell 1 9 V V0.heap.size (.slice (some ⟨r17, 0, none⟩) 1 1) [n0] → GG 10 #[true, true, true, true, true, true, false, true, false, false, false, false, true, false, true, true, true, true, false, false, false, false] ((AA.put (some 90) (.slice (some ⟨r3, 0, none⟩) 0 0)).put (some 104) (.slice (some ⟨r17, 0, none⟩) 1 1)) V) := by
                  refine Lib.hid (fun V r3 r17 hBc o3 o17 => ?_)
                  refine (hGG.out _ _ _ _).2 ?_
                  rw [hAA.out]
                  try simp only [Act.put, List.setIfInBounds_toArray, List.set_cons_zero, List.set_cons_succ]
                  have hle := hBc.size
                  have hH := hSk.out _ hBc
                  refine wpAnyH_ready (rs := [6, 8, 11]) (by kernel_rfl) (by simp) ?_
                  refine AllReadyH.cons rfl (fun K hK => ?_) (AllReadyH.cons rfl (fun K hK => ?_) (AllReadyH.cons rfl (fun K hK => ?_) AllReadyH.nil))
                  · have hNl := (h0.now hBc).lst
                    refine step_append_lst rfl _ _ 24 rfl Place.cells 4 Place.cells_one (by omega) V0.heap.size 57 _ 32 Tryz.underlying24 info_place rfl (.slice (some ⟨r3, 0, none⟩) 0 0) ([] : List Place) rfl o3 _ _ _ _ G rfl hNl (by simp <;> omega) (by omega) hle ?_
                    intro u wz hO1 hG1 hD1
                    rw [List.nil_append] at hO1
                    replace o17 := own_kept o17 hG1 (own_apart o17 o3 (by decide))
                    have hBn := hBc.grown hG1 hle (fun q hq => (o3.lt q hq).1)
                    refine hK.out _ _ (hSk.out _ hBn) (fun hH => ?_)
                    clear hK K
                    try simp only [Act.put, List.setIfInBounds_toArray, List.set_cons_zero, List.set_cons_succ]
                    have hs := (hGG.out _ _ _ _).1 (st1_3.out wz r3 r17 u hBn o17 hO1)
                    rw [hAA.out] at hs
                    try simp only [Act.put, List.setIfInBounds_toArray, List.set_cons_zero, List.set_cons_succ] at hs
                    exact hs
                  · go_simp
                    have q8 := own_new1L Place.cells 4 Place.cells_len V 57 V0.heap.size hle (⟨(N.length : Int), (N.length : Int), d0, e0⟩ : Place) (by decide)
                    have hBn := hBc.alloc hle (.cells (Place.cells (⟨(N.length : Int), (N.length : Int), d0, e0⟩ : Place)).toArray 57)
                    refine hK.out _ _ (hSk.out _ hBn) (fun hH => ?_)
                    clear hK K
                    try simp only [Act.put, List.setIfInBounds_toArray, List.set_cons_zero, List.set_cons_succ]
                    have hs := (hGG.out _ _ _ _).1 (st0_013.out (V.alloc (.cells (Place.cells (⟨(N.length : Int), (N.length : Int), d0, e0⟩ : Place)).toArray 57)) r3 V.heap.size r17 hBn (o3.alloc _) q8 (o17.alloc _) (Nat.ne_of_lt (o3.lt r3 rfl).2))
                    rw [hAA.out] at hs
                    try simp only [Act.put, List.setIfInBounds_toArray, List.set_cons_zero, List.set_cons_succ] at hs
                    exact hs
                  · go_simp
                    have q11 := own_new0 strCell 1 V 9 V0.heap.size hle (α := ByteArray)
                    have hBn := hBc.alloc hle (.cells #[] 9)
                    refine hK.out _ _ (hSk.out _ hBn) (fun hH => ?_)
                    clear hK K
                    try simp only [Act.put, List.setIfInBounds_toArray, List.set_cons_zero, List.set_cons_succ]
                    have hs := (hGG.out _ _ _ _).1 (st0_023.out (V.alloc (.cells #[] 9)) r3 V.heap.size r17 hBn (o3.alloc _) q11 (o17.alloc _) (Nat.ne_of_gt (o17.lt r17 rfl).2))
                    rw [hAA.out] at hs
                    try simp only [Act.put, List.setIfInBounds_toArray, List.set_cons_zero, List.set_cons_succ] at hs
                    exact hs
                have st0_12 : Hid (∀ (V : World) (r8 : Nat) (r11 : Nat), Below V0.heap.size V0 V → Own Place.cells 4 57 V V0.heap.size (.slice (some ⟨r8, 0, none⟩) 1 1) [(⟨(N.length : Int), (N.length : Int), d0, e0⟩ : Place)] → Own strCell 1 9 V V0.heap.size (.slice (some ⟨r11, 0, none⟩) 0 0) ([] : List ByteArray) → GG 10 #[true, true, true, false, true, true, false, true, true, false, false, true, true, false, true, true, true, false, false, false, false, false] ((AA.put (some 95) (.slice (some ⟨r8, 0, none⟩) 1 1)).put (some 98) (.slice (some ⟨r11, 0, none⟩) 0 0)) V) := by
                  refine Lib.hid (fun V r8 r11 hBc o8 o11 => ?_)
                  refine (hGG.out _ _ _ _).2 ?_
                  rw [hAA.out]
                  try simp only [Act.put, List.setIfInBounds_toArray, List.set_cons_zero, List.set_cons_succ]
                  have hle := hBc.size
                  have hH := hSk.out _ hBc
                  refine wpAnyH_ready (rs := [3, 17]) (by kernel_rfl) (by simp) ?_
                  refine AllReadyH.cons rfl (fun K hK => ?_) (AllReadyH.cons rfl (fun K hK => ?_) AllReadyH.nil)
                  · go_simp
                    have q3 := own_new0 Place.cells 4 V 57 V0.heap.size hle (α := Place)
                    have hBn := hBc.alloc hle (.cells #[] 57)
                    refine hK.out _ _ (hSk.out _ hBn) (fun hH => ?_)
                    clear hK K
                    try simp only [Act.put, List.setIfInBounds_toArray, List.set_cons_zero, List.set_cons_succ]
                    have hs := (hGG.out _ _ _ _).1 (st0_012.out (V.alloc (.cells #[] 57)) V.heap.size r8 r11 hBn q3 (o8.alloc _) (o11.alloc _) (Nat.ne_of_gt (o8.lt r8 rfl).2))
                    rw [hAA.out] at hs
                    try simp only [Act.put, List.setIfInBounds_toArray, List.set_cons_zero, List.set_cons_succ] at hs
                    exact hs
                  · go_simp
                    have q17 := own_new1L strCell 1 strCell_len V 9 V0.heap.size hle n0 (by decide)
                    have hBn := hBc.alloc hle (.cells (strCell n0).toArray 9)
                    refine hK.out _ _ (hSk.out _ hBn) (fun hH => ?_)
                    clear hK K
                    try simp only [Act.put, List.setIfInBounds_toArray, List.set_cons_zero, List.set_cons_succ]
                    have hs := (hGG.out _ _ _ _).1 (st0_123.out (V.alloc (.cells (strCell n0).toArray 9)) r8 r11 V.heap.size hBn (o8.alloc _) (o11.alloc _) q17 (Nat.ne_of_lt (o11.lt r11 rfl).2))
                    rw [hAA.out] at hs
                    try simp only [Act.put, List.setIfInBounds_toArray, List.set_cons_zero, List.set_cons_succ] at hs
                    exact hs
                have st0_13 : Hid (∀ (V : World) (r8 : Nat) (r17 : Nat), Below V0.heap.size V0 V → Own Place.cells 4 57 V V0.heap.size (.slice (some ⟨r8, 0, none⟩) 1 1) [(⟨(N.length : Int), (N.length : Int), d0, e0⟩ : Place)] → Own strCell 1 9 V V0.heap.size (.slice (some ⟨r17, 0, none⟩) 1 1) [n0] → GG 10 #[true, true, true, false, true, true, false, true, true, false, false, false, true, false, true, true, true, true, false, false, false, false] ((AA.put (some 95) (.slice (some ⟨r8, 0, none⟩) 1 1)).put (some 104) (.slice (some ⟨r17, 0, none⟩) 1 1)) V) := by
                  refine Lib.hid (fun V r8 r17 hBc o8 o17 => ?_)
                  refine (hGG.out _ _ _ _).2 ?_
                  rw [hAA.out]
                  try simp only [Act.put, List.setIfInBounds_toArray, List.set_cons_zero, List.set_cons_succ]
                  have hle := hBc.size
                  have hH := hSk.out _ hBc
                  refine wpAnyH_ready (rs := [3, 11]) (by kernel_rfl) (by simp) ?_
                  refine AllReadyH.cons rfl (fun K hK => ?_) (AllReadyH.cons rfl (fun K hK => ?_) AllReadyH.nil)
                  · go_simp
                    have q3 := own_new0 Place.cells 4 V 57 V0.heap.size hle (α := Place)
                    have hBn := hBc.alloc hle (.cells #[] 57)
                    refine hK.out _ _ (hSk.out _ hBn) (fun hH => ?_)
                    clear hK K
                    try simp only [Act.put, List.setIfInBounds_toArray, List.set_cons_zero, List.set_cons_succ]
                    have hs := (hGG.out _ _ _ _).1 (st0_013.out (V.alloc (.cells #[] 57)) V.heap.size r8 r17 hBn q3 (o8.alloc _) (o17.alloc _) (Nat.ne_of_gt (o8.lt r8 rfl).2))
                    rw [hAA.out] at hs
                    try simp only [Act.put, List.setIfInBounds_toArray, List.set_cons_zero, List.set_cons_succ] at hs
                    exact hs
                  · go_simp
                    have q11 := own_new0 strCell 1 V 9 V0.heap.size hle (α := ByteArray)
                    have hBn := hBc.alloc hle (.cells #[] 9)
                    refine hK.out _ _ (hSk.out _ hBn) (fun hH => ?_)
                    clear hK K
                    try simp only [Act.put, List.setIfInBounds_toArray, List.set_cons_zero, List.set_cons_succ]
                    have hs := (hGG.out _ _ _ _).1 (st0_123.out (V.alloc (.cells #[] 9)) r8 V.heap.size r17 hBn (o8.alloc _) q11 (o17.alloc _) (Nat.ne_of_gt (o17.lt r17 rfl).2))
                    rw [hAA.out] at hs
                    try simp only [Act.put, List.setIfInBounds_toArray, List.set_cons_zero, List.set_cons_succ] at hs
                    exact hs
                have st0_23 : Hid (∀ (V : World) (r11 : Nat) (r17 : Nat), Below V0.heap.size V0 V → Own strCell 1 9 V V0.heap.size (.slice (some ⟨r11, 0, none⟩) 0 0) ([] : List ByteArray) → Own strCell 1 9 V V0.heap.size (.slice (some ⟨r17, 0, none⟩) 1 1) [n0] → r11 ≠ r17 → GG 10 #[true, true, true, false, true, true, false, true, false, false, false, true, true, false, true, true, true, true, false, false, false, false] ((AA.put (some 98) (.slice (some ⟨r11, 0, none⟩) 0 0)).put (some 104) (.slice (some ⟨r17, 0, none⟩) 1 1)) V) := by
                  refine Lib.hid (fun V r11 r17 hBc o11 o17 n11_17 => ?_)
                  refine (hGG.out _ _ _ _).2 ?_
                  rw [hAA.out]
                  try simp only [Act.put, List.setIfInBounds_toArray, List.set_cons_zero, List.set_cons_succ]
                  have hle := hBc.size
                  have hH := hSk.out _ hBc
                  refine wpAnyH_ready (rs := [3, 8]) (by kernel_rfl) (by simp) ?_
                  refine AllReadyH.cons rfl (fun K hK => ?_) (AllReadyH.cons rfl (fun K hK => ?_) AllReadyH.nil)
                  · go_simp
                    have q3 := own_new0 Place.cells 4 V 57 V0.heap.size hle (α := Place)
                    have hBn := hBc.alloc hle (.cells #[] 57)
                    refine hK.out _ _ (hSk.out _ hBn) (fun hH => ?_)
                    clear hK K
                    try simp only [Act.put, List.setIfInBounds_toArray, List.set_cons_zero, List.set_cons_succ]
                    have hs := (hGG.out _ _ _ _).1 (st0_023.out (V.alloc (.cells #[] 57)) V.heap.size r11 r17 hBn q3 (o11.alloc _) (o17.alloc _) n11_17)
                    rw [hAA.out] at hs
                    try simp only [Act.put, List.setIfInBounds_toArray, List.set_cons_zero, List.set_cons_succ] at hs
                    exact hs
                  · go_simp
                    have q8 := own_new1L Place.cells 4 Place.cells_len V 57 V0.heap.size hle (⟨(N.length : Int), (N.length : Int), d0, e0⟩ : Place) (by decide)
                    have hBn := hBc.alloc hle (.cells (Place.cells (⟨(N.length : Int), (N.length : Int), d0, e0⟩ : Place)).toArray 57)
                    refine hK.out _ _ (hSk.out _ hBn) (fun hH => ?_)
                    clear hK K
                    try simp only [Act.put, List.setIfInBounds_toArray, List.set_cons_zero, List.set_cons_succ]
                    have hs := (hGG.out _ _ _ _).1 (st0_123.out (V.alloc (.cells (Place.cells (⟨(N.length : Int), (N.length : Int), d0, e0⟩ : Place)).toArray 57)) V.heap.size r11 r17 hBn q8 (o11.alloc _) (o17.alloc _) n11_17)
                    rw [hAA.out] at hs
                    try simp only [Act.put, List.setIfInBounds_toArray, List.set_cons_zero, List.set_cons_succ] at hs
                    exact hs
                have st0_0 : Hid (∀ (V : World) (r3 : Nat), Below V0.heap.size V0 V → Own Place.cells 4 57 V V0.heap.size (.slice (some ⟨r3, 0, none⟩) 0 0) ([] : List Place) → GG 11 #[true, true, true, true, true, true, false, true, false, false, false, false, true, false, true, true, true, false, false, false, false, false] (AA.put (some 90) (.slice (some ⟨r3, 0, none⟩) 0 0)) V) := by
                  refine Lib.hid (fun V r3 hBc o3 => ?_)
                  refine (hGG.out _ _ _ _).2 ?_
                  rw [hAA.out]
                  try simp only [Act.put, List.setIfInBounds_toArray, List.set_cons_zero, List.set_cons_succ]
                  have hle := hBc.size
                  have hH := hSk.out _ hBc
                  refine wpAnyH_ready (rs := [6, 8, 11, 17]) (by kernel_rfl) (by simp) ?_
                  refine AllReadyH.cons rfl (fun K hK => ?_) (AllReadyH.cons rfl (fun K hK => ?_) (AllReadyH.cons rfl (fun K hK => ?_) (AllReadyH.cons rfl (fun K hK => ?_) AllReadyH.nil)))
                  · have hNl := (h0.now hBc).lst
                    refine step_append_lst rfl _ _ 24 rfl Place.cells 4 Place.cells_one (by omega) V0.heap.size 57 _ 32 Tryz.underlying24 info_place rfl (.slice (some ⟨r3, 0, none⟩) 0 0) ([] : List Place) rfl o3 _ _ _ _ G rfl hNl (by simp <;> omega) (by omega) hle ?_
                    intro u wz hO1 hG1 hD1
                    rw [List.nil_append] at hO1
                    have hBn := hBc.grown hG1 hle (fun q hq => (o3.lt q hq).1)
                    refine hK.out _ _ (hSk.out _ hBn) (fun hH => ?_)
                    clear hK K
                    try simp only [Act.put, List.setIfInBounds_toArray, List.set_cons_zero, List.set_cons_succ]
                    have hs := (hGG.out _ _ _ _).1 (st1_.out wz r3 u hBn hO1)
                    rw [hAA.out] at hs
                    try simp only [Act.put, List.setIfInBounds_toArray, List.set_cons_zero, List.set_cons_succ] at hs
                    exact hs
                  · go_simp
                    have q8 := own_new1L Place.cells 4 Place.cells_len V 57 V0.heap.size hle (⟨(N.length : Int), (N.length : Int), d0, e0⟩ : Place) (by decide)
                    have hBn := hBc.alloc hle (.cells (Place.cells (⟨(N.length : Int), (N.length : Int), d0, e0⟩ : Place)).toArray 57)
                    refine hK.out _ _ (hSk.out _ hBn) (fun hH => ?_)
                    clear hK K
                    try simp only [Act.put, List.setIfInBounds_toArray, List.set_cons_zero, List.set_cons_succ]
                    have hs := (hGG.out _ _ _ _).1 (st0_01.out (V.alloc (.cells (Place.cells (⟨(N.length : Int), (N.length : Int), d0, e0⟩ : Place)).toArray 57)) r3 V.heap.size hBn (o3.alloc _) q8 (Nat.ne_of_lt (o3.lt r3 rfl).2))
                    rw [hAA.out] at hs
                    try simp only [Act.put, List.setIfInBounds_toArray, List.set_cons_zero, List.set_cons_succ] at hs
                    exact hs
                  · go_simp
                    have q11 := own_new0 strCell 1 V 9 V0.heap.size hle (α := ByteArray)
                    have hBn := hBc.alloc hle (.cells #[] 9)
                    refine hK.out _ _ (hSk.out _ hBn) (fun hH => ?_)
                    clear hK K
                    try simp only [Act.put, List.setIfInBounds_toArray, List.set_cons_zero, List.set_cons_succ]
                    have hs := (hGG.out _ _ _ _).1 (st0_02.out (V.alloc (.cells #[] 9)) r3 V.heap.size hBn (o3.alloc _) q11)
                    rw [hAA.out] at hs
                    try simp only [Act.put, List.setIfInBounds_toArray, List.set_cons_zero, List.set_cons_succ] at hs
                    exact hs
                  · go_simp
                    have q17 := own_new1L strCell 1 strCell_len V 9 V0.heap.size hle n0 (by decide)
                    have hBn := hBc.alloc hle (.cells (strCell n0).toArray 9)
                    refine hK.out _ _ (hSk.out _ hBn) (fun hH => ?_)
                    clear hK K
                    try simp only [Act.put, List.setIfInBounds_toArray, List.set_cons_zero, List.set_cons_succ]
                    have hs := (hGG.out _ _ _ _).1 (st0_03.out (V.alloc (.cells (strCell n0).toArray 9)) r3 V.heap.size hBn (o3.alloc _) q17)
                    rw [hAA.out] at hs
                    try simp only [Act.put, List.setIfInBounds_toArray, List.set_cons_zero, List.set_cons_succ] at hs
                    exact hs
                have st0_1 : Hid (∀ (V : World) (r8 : Nat), Below V0.heap.size V0 V → Own Place.cells 4 57 V V0.heap.size (.slice (some ⟨r8, 0, none⟩) 1 1) [(⟨(N.length : Int), (N.length : Int), d0, e0⟩ : Place)] → GG 11 #[true, true, true, false, true, true, false, true, true, false, false, false, true, false, true, true, true, false, false, false, false, false] (AA.put (some 95) (.slice (some ⟨r8, 0, none⟩) 1 1)) V) := by
                  refine Lib.hid (fun V r8 hBc o8 => ?_)
                  refine (hGG.out _ _ _ _).2 ?_
                  rw [hAA.out]
                  try simp only [Act.put, List.setIfInBounds_toArray, List.set_cons_zero, List.set_cons_succ]
                  have hle := hBc.size
                  have hH := hSk.out _ hBc
                  refine wpAnyH_ready (rs := [3, 11, 17]) (by kernel_rfl) (by simp) ?_
                  refine AllReadyH.cons rfl (fun K hK => ?_) (AllReadyH.cons rfl (fun K hK => ?_) (AllReadyH.cons rfl (fun K hK => ?_) AllReadyH.nil))
                  · go_simp
                    have q3 := own_new0 Place.cells 4 V 57 V0.heap.size hle (α := Place)
                    have hBn := hBc.alloc hle (.cells #[] 57)
                    refine hK.out _ _ (hSk.out _ hBn) (fun hH => ?_)
                    clear hK K
                    try simp only [Act.put, List.setIfInBounds_toArray, List.set_cons_zero, List.set_cons_succ]
                    have hs := (hGG.out _ _ _ _).1 (st0_01.out (V.alloc (.cells #[] 57)) V.heap.size r8 hBn q3 (o8.alloc _) (Nat.ne_of_gt (o8.lt r8 rfl).2))
                    rw [hAA.out] at hs
                    try simp only [Act.put, List.setIfInBounds_toArray, List.set_cons_zero, List.set_cons_succ] at hs
                    exact hs
                  · go_simp
                    have q11 := own_new0 strCell 1 V 9 V0.heap.size hle (α := ByteArray)
                    have hBn := hBc.alloc hle (.cells #[] 9)
                    refine hK.out _ _ (hSk.out _ hBn) (fun hH => ?_)
                    clear hK K
                    try simp only [Act.put, List.setIfInBounds_toArray, List.set_cons_zero, List.set_cons_succ]
                    have hs := (hGG.out _ _ _ _).1 (st0_12.out (V.alloc (.cells #[] 9)) r8 V.heap.size hBn (o8.alloc _) q11)
                    rw [hAA.out] at hs
                    try simp only [Act.put, List.setIfInBounds_toArray, List.set_cons_zero, List.set_cons_succ] at hs
                    exact hs
                  · go_simp
                    have q17 := own_new1L strCell 1 strCell_len V 9 V0.heap.size hle n0 (by decide)
                    have hBn := hBc.alloc hle (.cells (strCell n0).toArray 9)
                    refine hK.out _ _ (hSk.out _ hBn) (fun hH => ?_)
                    clear hK K
                    try simp only [Act.put, List.setIfInBounds_toArray, List.set_cons_zero, List.set_cons_succ]
                    have hs := (hGG.out _ _ _ _).1 (st0_13.out (V.alloc (.cells (strCell n0).toArray 9)) r8 V.heap.size hBn (o8.alloc _) q17)
                    rw [hAA.out] at hs
                    try simp only [Act.put, List.setIfInBounds_toArray, List.set_cons_zero, List.set_cons_succ] at hs
                    exact hs
                have st0_2 : Hid (∀ (V : World) (r11 : Nat), Below V0.heap.size V0 V → Own strCell 1 9 V V0.heap.size (.slice (some ⟨r11, 0, none⟩) 0 0) ([] : List ByteArray) → GG 11 #[true, true, true, false, true, true, false, true, false, false, false, true, true, false, true, true, true, false, false, false, false, false] (AA.put (some 98) (.slice (some ⟨r11, 0, none⟩) 0 0)) V) := by
                  refine Lib.hid (fun V r11 hBc o11 => ?_)
                  refine (hGG.out _ _ _ _).2 ?_
                  rw [hAA.out]
                  try simp only [Act.put, List.setIfInBounds_toArray, List.set_cons_zero, List.set_cons_succ]
                  have hle := hBc.size
                  have hH := hSk.out _ hBc
                  refine wpAnyH_ready (rs := [3, 8, 17]) (by kernel_rfl) (by simp) ?_
                  refine AllReadyH.cons rfl (fun K hK => ?_) (AllReadyH.cons rfl (fun K hK => ?_) (AllReadyH.cons rfl (fun K hK => ?_) AllReadyH.nil))
                  · go_simp
                    have q3 := own_new0 Place.cells 4 V 57 V0.heap.size hle (α := Place)
                    have hBn := hBc.alloc hle (.cells #[] 57)
                    refine hK.out _ _ (hSk.out _ hBn) (fun hH => ?_)
                    clear hK K
                    try simp only [Act.put, List.setIfInBounds_toArray, List.set_cons_zero, List.set_cons_succ]
                    have hs := (hGG.out _ _ _ _).1 (st0_02.out (V.alloc (.cells #[] 57)) V.heap.size r11 hBn q3 (o11.alloc _))
                    rw [hAA.out] at hs
                    try simp only [Act.put, List.setIfInBounds_toArray, List.set_cons_zero, List.set_cons_succ] at hs
                    exact hs
                  · go_simp
                    have q8 := own_new1L Place.cells 4 Place.cells_len V 57 V0.heap.size hle (⟨(N.length : Int), (N.length : Int), d0, e0⟩ : Place) (by decide)
                    have hBn := hBc.alloc hle (.cells (Place.cells (⟨(N.length : Int), (N.length : Int), d0, e0⟩ : Place)).toArray 57)
                    refine hK.out _ _ (hSk.out _ hBn) (fun hH => ?_)
                    clear hK K
                    try simp only [Act.put, List.setIfInBounds_toArray, List.set_cons_zero, List.set_cons_succ]
                    have hs := (hGG.out _ _ _ _).1 (st0_12.out (V.alloc (.cells (Place.cells (⟨(N.length : Int), (N.length : Int), d0, e0⟩ : Place)).toArray 57)) V.heap.size r11 hBn q8 (o11.alloc _))
                    rw [hAA.out] at hs
                    try simp only [Act.put, List.setIfInBounds_toArray, List.set_cons_zero, List.set_cons_succ] at hs
                    exact hs
                  · go_simp
                    have q17 := own_new1L strCell 1 strCell_len V 9 V0.heap.size hle n0 (by decide)
                    have hBn := hBc.alloc hle (.cells (strCell n0).toArray 9)
                    refine hK.out _ _ (hSk.out _ hBn) (fun hH => ?_)
                    clear hK K
                    try simp only [Act.put, List.setIfInBounds_toArray, List.set_cons_zero, List.set_cons_succ]
                    have hs := (hGG.out _ _ _ _).1 (st0_23.out (V.alloc (.cells (strCell n0).toArray 9)) r11 V.heap.size hBn (o11.alloc _) q17 (Nat.ne_of_lt (o11.lt r11 rfl).2))
                    rw [hAA.out] at hs
                    try simp only [Act.put, List.setIfInBounds_toArray, List.set_cons_zero, List.set_cons_succ] at hs
                    exact hs
                have st0_3 : Hid (∀ (V : World) (r17 : Nat), Below V0.heap.size V0 V → Own strCell 1 9 V V0.heap.size (.slice (some ⟨r17, 0, none⟩) 1 1) [n0] → GG 11 #[true, true, true, false, true, true, false, true, false, false, false, false, true, false, true, true, true, true, false, false, false, false] (AA.put (some 104) (.slice (some ⟨r17, 0, none⟩) 1 1)) V) := by
                  refine Lib.hid (fun V r17 hBc o17 => ?_)
                  refine (hGG.out _ _ _ _).2 ?_
                  rw [hAA.out]
                  try simp only [Act.put, List.setIfInBounds_toArray, List.set_cons_zero, List.set_cons_succ]
                  have hle := hBc.size
                  have hH := hSk.out _ hBc
                  refine wpAnyH_ready (rs := [3, 8, 11]) (by kernel_rfl) (by simp) ?_
                  refine AllReadyH.cons rfl (fun K hK => ?_) (AllReadyH.cons rfl (fun K hK => ?_) (AllReadyH.cons rfl (fun K hK => ?_) AllReadyH.nil))
                  · go_simp
                    have q3 := own_new0 Place.cells 4 V 57 V0.heap.size hle (α := Place)
                    have hBn := hBc.alloc hle (.cells #[] 57)
                    refine hK.out _ _ (hSk.out _ hBn) (fun hH => ?_)
                    clear hK K
                    try simp only [Act.put, List.setIfInBounds_toArray, List.set_cons_zero, List.set_cons_succ]
                    have hs := (hGG.out _ _ _ _).1 (st0_03.out (V.alloc (.cells #[] 57)) V.heap.size r17 hBn q3 (o17.alloc _))
                    rw [hAA.out] at hs
                    try simp only [Act.put, List.setIfInBounds_toArray, List.set_cons_zero, List.set_cons_succ] at hs
                    exact hs
                  · go_simp
                    have q8 := own_new1L Place.cells 4 Place.cells_len V 57 V0.heap.size hle (⟨(N.length : Int), (N.length : Int), d0, e0⟩ : Place) (by decide)
                    have hBn := hBc.alloc hle (.cells (Place.cells (⟨(N.length : Int), (N.length : Int), d0, e0⟩ : Place)).toArray 57)
                    refine hK.out _ _ (hSk.out _ hBn) (fun hH => ?_)
                    clear hK K
                    try simp only [Act.put, List.setIfInBounds_toArray, List.set_cons_zero, List.set_cons_succ]
                    have hs := (hGG.out _ _ _ _).1 (st0_13.out (V.alloc (.cells (Place.cells (⟨(N.length : Int), (N.length : Int), d0, e0⟩ : Place)).toArray 57)) V.heap.size r17 hBn q8 (o17.alloc _))
                    rw [hAA.out] at hs
                    try simp only [Act.put, List.setIfInBounds_toArray, List.set_cons_zero, List.set_cons_succ] at hs
                    exact hs
                  · go_simp
                    have q11 := own_new0 strCell 1 V 9 V0.heap.size hle (α := ByteArray)
                    have hBn := hBc.alloc hle (.cells #[] 9)
                    refine hK.out _ _ (hSk.out _ hBn) (fun hH => ?_)
                    clear hK K
                    try simp only [Act.put, List.setIfInBounds_toArray, List.set_cons_zero, List.set_cons_succ]
                    have hs := (hGG.out _ _ _ _).1 (st0_23.out (V.alloc (.cells #[] 9)) V.heap.size r17 hBn q11 (o17.alloc _) (Nat.ne_of_gt (o17.lt r17 rfl).2))
                    rw [hAA.out] at hs
                    try simp only [Act.put, List.setIfInBounds_toArray, List.set_cons_zero, List.set_cons_succ] at hs
                    exact hs
                have st0_ : Hid (∀ (V : World), Below V0.heap.size V0 V → GG 12 #[true, true, true, false, true, true, false, true, false, false, false, false, true, false, true, true, true, false, false, false, false, false] AA V) := by
                  refine Lib.hid (fun V hBc => ?_)
                  refine (hGG.out _ _ _ _).2 ?_
                  rw [hAA.out]
                  try simp only [Act.put, List.setIfInBounds_toArray, List.set_cons_zero, List.set_cons_succ]
                  have hle := hBc.size
                  have hH := hSk.out _ hBc
                  refine wpAnyH_ready (rs := [3, 8, 11, 17]) (by kernel_rfl) (by simp) ?_
                  refine AllReadyH.cons rfl (fun K hK => ?_) (AllReadyH.cons rfl (fun K hK => ?_) (AllReadyH.cons rfl (fun K hK => ?_) (AllReadyH.cons rfl (fun K hK => ?_) AllReadyH.nil)))
                  · go_simp
                    have q3 := own_new0 Place.cells 4 V 57 V0.heap.size hle (α := Place)
                    have hBn := hBc.alloc hle (.cells #[] 57)
                    refine hK.out _ _ (hSk.out _ hBn) (fun hH => ?_)
                    clear hK K
                    try simp only [Act.put, List.setIfInBounds_toArray, List.set_cons_zero, List.set_cons_succ]
                    have hs := (hGG.out _ _ _ _).1 (st0_0.out (V.alloc (.cells #[] 57)) V.heap.size hBn q3)
                    rw [hAA.out] at hs
                    try simp only [Act.put, List.setIfInBounds_toArray, List.set_cons_zero, List.set_cons_succ] at hs
                    exact hs
                  · go_simp
                    have q8 := own_new1L Place.cells 4 Place.cells_len V 57 V0.heap.size hle (⟨(N.length : Int), (N.length : Int), d0, e0⟩ : Place) (by decide)
                    have hBn := hBc.alloc hle (.cells (Place.cells (⟨(N.length : Int), (N.length : Int), d0, e0⟩ : Place)).toArray 57)
                    refine hK.out _ _ (hSk.out _ hBn) (fun hH => ?_)
                    clear hK K
                    try simp only [Act.put, List.setIfInBounds_toArray, List.set_cons_zero, List.set_cons_succ]
                    have hs := (hGG.out _ _ _ _).1 (st0_1.out (V.alloc (.cells (Place.cells (⟨(N.length : Int), (N.length : Int), d0, e0⟩ : Place)).toArray 57)) V.heap.size hBn q8)
                    rw [hAA.out] at hs
                    try simp only [Act.put, List.setIfInBounds_toArray, List.set_cons_zero, List.set_cons_succ] at hs
                    exact hs
                  · go_simp
                    have q11 := own_new0 strCell 1 V 9 V0.heap.size hle (α := ByteArray)
                    have hBn := hBc.alloc hle (.cells #[] 9)
                    refine hK.out _ _ (hSk.out _ hBn) (fun hH => ?_)
                    clear hK K
                    try simp only [Act.put, List.setIfInBounds_toArray, List.set_cons_zero, List.set_cons_succ]
                    have hs := (hGG.out _ _ _ _).1 (st0_2.out (V.alloc (.cells #[] 9)) V.heap.size hBn q11)
                    rw [hAA.out] at hs
                    try simp only [Act.put, List.setIfInBounds_toArray, List.set_cons_zero, List.set_cons_succ] at hs
                    exact hs
                  · go_simp
                    have q17 := own_new1L strCell 1 strCell_len V 9 V0.heap.size hle n0 (by decide)
                    have hBn := hBc.alloc hle (.cells (strCell n0).toArray 9)
                    refine hK.out _ _ (hSk.out _ hBn) (fun hH => ?_)
                    clear hK K
                    try simp only [Act.put, List.setIfInBounds_toArray, List.set_cons_zero, List.set_cons_succ]
                    have hs := (hGG.out _ _ _ _).1 (st0_3.out (V.alloc (.cells (strCell n0).toArray 9)) V.heap.size hBn q17)
                    rw [hAA.out] at hs
                    try simp only [Act.put, List.setIfInBounds_toArray, List.set_cons_zero, List.set_cons_succ] at hs
                    exact hs
                exact (st0_.out V0 (Below.refl _ _))
    · skip
      subst hns
      subst hxs
      subst hk
      obtain ⟨qb, qo, hqa, hqb, z0⟩ := ints_at hQ.lst 0 (by simp)
      rw [Nat.add_zero] at z0
      obtain ⟨qb', qo', hqa', _, z1⟩ := ints_at hQ.lst 1 (by simp)
      rw [hqa] at hqa'
      cases hqa'
      obtain ⟨ub, uo, hua, hub, cw⟩ := strs_at hU 0 (by simp)
      rw [Nat.add_zero] at cw
      replace cw : w1.cell? ⟨ub, uo, none⟩ = some (.string wCart) := cw
      obtain ⟨ub', uo', hua', _, y0⟩ := strs_at hU 1 (by simp)
      rw [hua] at hua'
      cases hua'
      replace y0 : w1.cell? ⟨ub, uo + 1, none⟩ = some (.string n0) := y0
      obtain ⟨ub', uo', hua', _, y1⟩ := strs_at hU 2 (by simp)
      rw [hua] at hua'
      cases hua'
      replace y1 : w1.cell? ⟨ub, uo + 2, none⟩ = some (.string n1) := y1
      have hub2 : w.heap.size + 2 ≤ ub := by
        have h1 := hUl.out ⟨ub, uo, none⟩ _ _ (by rw [hua])
        have h2 := hsW.out
        simp only at h1
        omega
      clear hUl
      subst hqa
      subst hua
      replace z0 : w1.cell? ⟨qb, qo, none⟩ = some (.int .i64 d0) := z0
      replace z1 : w1.cell? ⟨qb, qo + 1, none⟩ = some (.int .i64 e0) := z1
      have hrd := hxr d0 (by simp)
      have hrl := hxr e0 (by simp)
      rw [(dl_Cart d0 e0).1, (dl_Cart d0 e0).2] at hst
      replace hst := Lib.hid hst
      clear hxr hU hQ
      have eBuffer : (wCart.toList == [98, 117, 102, 102, 101, 114]) = false := by decide +kernel
      have eStation : (wCart.toList == [115, 116, 97, 116, 105, 111, 110]) = false := by decide +kernel
      have eCart : (wCart.toList == [99, 97, 114, 116]) = true := by decide +kernel
      have eMove : (wCart.toList == [109, 111, 118, 101]) = false := by decide +kernel
      by_cases hd1 : 1000 < d0
      · have hi1 : inB d0 0 1000 = false := by simp [inB]; omega
        have hN := Lib.hid ((step_range (.inl hd1)).symm.trans hst.out)
        have r0 := ((hb1.set2a (u := .int .i64 N.length)).set2b (u := .slice PA G.length pc)).c2
        go_wp2_with (first | (go_at_call 54; refine (spec_l01In _ _ _ _).mono ?_; rintro e w9 ⟨rfl, rfl⟩))
        refine bodyPost_ret (v := .tuple #[.agg #[.int .i64 N.length, .slice PA G.length pc], .slice NA N.length nc, .int .i64 2]) (by simp [results, Tryz.results41, go_sem, r0.1, r0.2]) rfl ?_
        rw [← hN.out]
        exact ⟨_, _, rfl, h0.far2 hb1 (by decide) _ _, h1.far2 hb1 (by decide) _ _, (hW.setCell (by show w.heap.size ≤ w.heap.size + 1; omega) _).setCell (by show w.heap.size ≤ w.heap.size + 1; omega) _⟩
      · have hi1 : inB d0 0 1000 = true := by simp [inB]; omega
        by_cases ht1 : 5 < e0
        · have hi2 : inB e0 0 5 = false := by simp [inB]; omega
          have hN := Lib.hid ((step_range (.inr ht1)).symm.trans hst.out)
          have r0 := ((hb1.set2a (u := .int .i64 N.length)).set2b (u := .slice PA G.length pc)).c2
          go_wp2_with (first | (go_at_call 54; refine (spec_l01In _ _ _ _).mono ?_; rintro e w9 ⟨rfl, rfl⟩))
          refine bodyPost_ret (v := .tuple #[.agg #[.int .i64 N.length, .slice PA G.length pc], .slice NA N.length nc, .int .i64 2]) (by simp [results, Tryz.results41, go_sem, r0.1, r0.2]) rfl ?_
          rw [← hN.out]
          exact ⟨_, _, rfl, h0.far2 hb1 (by decide) _ _, h1.far2 hb1 (by decide) _ _, (hW.setCell (by show w.heap.size ≤ w.heap.size + 1; omega) _).setCell (by show w.heap.size ≤ w.heap.size + 1; omega) _⟩
        · have hi2 : inB e0 0 5 = true := by simp [inB]; omega
          have hsm : Hid (¬ (1000 < d0 ∨ 5 < e0)) := by show ¬ _; omega
          obtain ⟨a0, ha0⟩ : ∃ a0, findStr N n0 = a0 := ⟨_, rfl⟩
          obtain ⟨b0, hb0'⟩ : ∃ b0, findStr N n1 = b0 := ⟨_, rfl⟩
          go_wp2_with (go_at_call 54; refine (spec_l01In _ _ _ _).mono ?_; rintro e w9 ⟨rfl, rfl⟩)
          have hXd : Below w1.heap.size w1 w1.drew := Below.drew (Below.refl _ _)
          have hNl := (h1.now hXd).lst
          have hj0 := spec_l18Find _ N n0 _ hNl
          have hj1 := spec_l18Find _ N n1 _ hNl
          rw [ha0] at hj0
          rw [hb0'] at hj1
          refine wp_region_held_drew (S := fun w' => w'.cell? ⟨ub, uo + 1, none⟩ = some (.string n0) ∧ w'.cell? ⟨ub, uo + 2, none⟩ = some (.string n1)) (by kernel_rfl) ⟨y0, y1⟩ (fun hH => ?_)
          refine tkH 0 (v := ?_) rfl (fun _ _ _ h => h) (Or.inl ⟨by rfl, ?_⟩) hH ?_
          rotate_left
          · intro w9 hSw
            try dsimp only at hSw
            obtain ⟨s0, s1⟩ := hSw
            go_simp
            try with_reducible rfl
          try simp only [Act.put, List.setIfInBounds_toArray, List.set_cons_zero, List.set_cons_succ]
          refine tkH 1 (v := ?_) rfl (fun _ _ _ h => h) (Or.inl ⟨by rfl, ?_⟩) hH ?_
          rotate_left
          · intro w9 hSw
            try dsimp only at hSw
            obtain ⟨s0, s1⟩ := hSw
            go_simp
            try with_reducible rfl
          try simp only [Act.put, List.setIfInBounds_toArray, List.set_cons_zero, List.set_cons_succ]
          refine tkH 2 (v := ?_) rfl (fun _ _ _ h => h) (Or.inl ⟨by rfl, ?_⟩) hH ?_
          rotate_left
          · intro w9 hSw
            try dsimp only at hSw
            obtain ⟨s0, s1⟩ := hSw
            go_simp
            try with_reducible rfl
          try simp only [Act.put, List.setIfInBounds_toArray, List.set_cons_zero, List.set_cons_succ]
          refine tkH 3 (v := ?_) rfl (fun _ _ _ h => h) (Or.inl ⟨by rfl, ?_⟩) hH ?_
          rotate_left
          · intro w9 hSw
            try dsimp only at hSw
            obtain ⟨s0, s1⟩ := hSw
            go_simp
            try with_reducible rfl
          try simp only [Act.put, List.setIfInBounds_toArray, List.set_cons_zero, List.set_cons_succ]
          refine tkH 5 (v := ?_) rfl (fun _ _ _ h => h) (Or.inl ⟨by rfl, ?_⟩) hH ?_
          rotate_left
          · intro w9 hSw
            try dsimp only at hSw
            obtain ⟨s0, s1⟩ := hSw
            go_simp
            try with_reducible rfl
          try simp only [Act.put, List.setIfInBounds_toArray, List.set_cons_zero, List.set_cons_succ]
          refine tkH 6 (v := ?_) rfl (fun _ _ _ h => h) (Or.inl ⟨by rfl, ?_⟩) hH ?_
          rotate_left
          · intro w9 hSw
            try dsimp only at hSw
            obtain ⟨s0, s1⟩ := hSw
            go_simp
            try with_reducible rfl
          try simp only [Act.put, List.setIfInBounds_toArray, List.set_cons_zero, List.set_cons_succ]
          refine tkH 7 (v := ?_) rfl (fun _ _ _ h => h) (Or.inl ⟨by rfl, ?_⟩) hH ?_
          rotate_left
          · intro w9 hSw
            try dsimp only at hSw
            obtain ⟨s0, s1⟩ := hSw
            go_simp
            try with_reducible rfl
          try simp only [Act.put, List.setIfInBounds_toArray, List.set_cons_zero, List.set_cons_succ]
          refine tkH 8 (v := ?_) rfl (fun _ _ _ h => h) (Or.inl ⟨by rfl, ?_⟩) hH ?_
          rotate_left
          · intro w9 hSw
            try dsimp only at hSw
            obtain ⟨s0, s1⟩ := hSw
            go_simp
            try with_reducible rfl
          try simp only [Act.put, List.setIfInBounds_toArray, List.set_cons_zero, List.set_cons_succ]
          refine wpAnyH_ready (rs := [4]) (by kernel_rfl) (by simp) ?_
          refine AllReadyH.cons rfl (fun K hK => ?_) AllReadyH.nil
          go_simp
          go_at_call 56
          refine hj0.mono ?_
          rintro e w8 ⟨rfl, rfl⟩
          refine hK.out _ _ ⟨y0, y1⟩ (fun hH => ?_)
          clear hK K
          try simp only [Act.put, List.setIfInBounds_toArray, List.set_cons_zero, List.set_cons_succ]
          refine wpAnyH_ready (rs := [9]) (by kernel_rfl) (by simp) ?_
          refine AllReadyH.cons rfl (fun K hK => ?_) AllReadyH.nil
          go_simp
          go_at_call 56
          refine hj1.mono ?_
          rintro e w8 ⟨rfl, rfl⟩
          refine hK.out _ _ ⟨y0, y1⟩ (fun hH => ?_)
          clear hK K
          try simp only [Act.put, List.setIfInBounds_toArray, List.set_cons_zero, List.set_cons_succ]
          refine tkH 10 (v := ?_) rfl (fun _ _ _ h => h) (Or.inl ⟨by rfl, ?_⟩) hH ?_
          rotate_left
          · intro w9 hSw
            try dsimp only at hSw
            obtain ⟨s0, s1⟩ := hSw
            go_simp
            try with_reducible rfl
          try simp only [Act.put, List.setIfInBounds_toArray, List.set_cons_zero, List.set_cons_succ]
          refine tkH 11 (v := ?_) rfl (fun _ _ _ h => h) (Or.inl ⟨by rfl, ?_⟩) hH ?_
          rotate_left
          · intro w9 hSw
            try dsimp only at hSw
            obtain ⟨s0, s1⟩ := hSw
            go_simp
            try with_reducible rfl
          try simp only [Act.put, List.setIfInBounds_toArray, List.set_cons_zero, List.set_cons_succ]
          refine wpAnyH_done (by kernel_rfl) ?_ _
          clear hj0 hj1 hNl
          replace h0 := h0.now hXd
          replace h1 := h1.now hXd
          replace hb0 := hb0.now hXd
          replace hb1 := hb1.now hXd
          replace hW := hW.trans (hXd.mono hW.size)
          replace cw : w1.drew.cell? _ = _ := cw
          try replace y0 : w1.drew.cell? _ = _ := y0
          try replace y1 : w1.drew.cell? _ = _ := y1
          replace hub : ub < w1.drew.heap.size := hub
          clear k0 k1 g0 g1 f0 f1 l0 l1 hXd hH
          try clear z0
          try clear z1
          try clear hqb
          generalize w1.drew = V2 at *
          obtain ⟨k0, k1⟩ := hb0.c2
          obtain ⟨g0, g1⟩ := hb1.c2
          obtain ⟨f0, f1⟩ := hb1.f2
          have l0 := hb0.lt
          have l1 := hb1.lt
          by_cases hf0 : a0 < 0
          · have hN := Lib.hid ((step_unk hsm.out (by decide) (by rw [ha0]; exact .inl hf0)).symm.trans hst.out)
            have r0 := ((hb1.set2a (u := .int .i64 N.length)).set2b (u := .slice PA G.length pc)).c2
            go_wp2_with (first | (go_at_call 54; refine (spec_l01In _ _ _ _).mono ?_; rintro e w9 ⟨rfl, rfl⟩))
            refine bodyPost_ret (v := .tuple #[.agg #[.int .i64 N.length, .slice PA G.length pc], .slice NA N.length nc, .int .i64 4]) (by simp [results, Tryz.results41, go_sem, r0.1, r0.2]) rfl ?_
            rw [← hN.out]
            exact ⟨_, _, rfl, h0.far2 hb1 (by decide) _ _, h1.far2 hb1 (by decide) _ _, (hW.setCell (by show w.heap.size ≤ w.heap.size + 1; omega) _).setCell (by show w.heap.size ≤ w.heap.size + 1; omega) _⟩
          · skip
            by_cases hf1 : b0 < 0
            · have hN := Lib.hid ((step_unk hsm.out (by decide) (by rw [hb0']; exact .inr hf1)).symm.trans hst.out)
              have r0 := ((hb1.set2a (u := .int .i64 N.length)).set2b (u := .slice PA G.length pc)).c2
              go_wp2_with (first | (go_at_call 54; refine (spec_l01In _ _ _ _).mono ?_; rintro e w9 ⟨rfl, rfl⟩))
              refine bodyPost_ret (v := .tuple #[.agg #[.int .i64 N.length, .slice PA G.length pc], .slice NA N.length nc, .int .i64 4]) (by simp [results, Tryz.results41, go_sem, r0.1, r0.2]) rfl ?_
              rw [← hN.out]
              exact ⟨_, _, rfl, h0.far2 hb1 (by decide) _ _, h1.far2 hb1 (by decide) _ _, (hW.setCell (by show w.heap.size ≤ w.heap.size + 1; omega) _).setCell (by show w.heap.size ≤ w.heap.size + 1; omega) _⟩
            · skip
              by_cases h30 : G.length = 30
              · have hq3 : ((G.length : Int) == 30) = true := by simp; omega
                have h30H := Lib.hid h30
                clear h30
                have hN := Lib.hid ((step_full2 hsm.out (by decide) (by rw [ha0, hb0']; omega) h30H.out).symm.trans hst.out)
                have r0 := ((hb1.set2a (u := .int .i64 N.length)).set2b (u := .slice PA G.length pc)).c2
                go_wp2_with (first | (go_at_call 54; refine (spec_l01In _ _ _ _).mono ?_; rintro e w9 ⟨rfl, rfl⟩))
                refine bodyPost_ret (v := .tuple #[.agg #[.int .i64 N.length, .slice PA G.length pc], .slice NA N.length nc, .int .i64 3]) (by simp [results, Tryz.results41, go_sem, r0.1, r0.2]) rfl ?_
                rw [← hN.out]
                exact ⟨_, _, rfl, h0.far2 hb1 (by decide) _ _, h1.far2 hb1 (by decide) _ _, (hW.setCell (by show w.heap.size ≤ w.heap.size + 1; omega) _).setCell (by show w.heap.size ≤ w.heap.size + 1; omega) _⟩
              · have hq3 : ((G.length : Int) == 30) = false := by simp; omega
                go_wp2
                have hN : Hid ((0, N, G ++ [(⟨b0, a0, d0, e0⟩ : Place)]) = R) := by
                  show _ = _
                  rw [← hst.out, step_add hsm.out (by decide) (by rw [ha0, hb0']; omega) h30, ha0, hb0']
                  unfold placeF
                  rw [if_neg (by decide)]
                have hWb : Hid (w.heap.size + 1 < V2.heap.size) := Lib.hid l1
                have hAl : Below V2.heap.size V2 (V2.alloc (.cells #[.int .i64 b0, .int .i64 a0, .int .i64 d0, .int .i64 e0] 57)) := (Below.refl _ _).alloc (Nat.le_refl _) _
                have hpl : Blk (V2.alloc (.cells #[.int .i64 b0, .int .i64 a0, .int .i64 d0, .int .i64 e0] 57)) V2.heap.size 57 #[.int .i64 b0, .int .i64 a0, .int .i64 d0, .int .i64 e0] := Blk.newAt V2 _ rfl
                replace h0 := h0.now hAl
                replace h1 := h1.now hAl
                replace hb0 := hb0.now hAl
                replace hb1 := hb1.now hAl
                replace hW := hW.trans (hAl.mono hW.size)
                clear k0 k1 g0 g1 f0 f1 l0 l1 cw hAl
                try clear z0
                try clear z1
                try clear y1
                try clear y0
                generalize V2.alloc (.cells #[.int .i64 b0, .int .i64 a0, .int .i64 d0, .int .i64 e0] 57) = X at *
                have hXd : Below X.heap.size X X.drew := Below.drew (Below.refl _ _)
                replace h0 := h0.now hXd
                replace h1 := h1.now hXd
                replace hb0 := hb0.now hXd
                replace hb1 := hb1.now hXd
                replace hpl := hpl.now hXd
                replace hW := hW.trans (hXd.mono hW.size)
                obtain ⟨k0, k1⟩ := hb0.c2
                obtain ⟨p0, p1, p2, p3⟩ := hpl.c4
                refine wp_region_held_drew (S := fun w' => w'.cell? ⟨w.heap.size, 0, none⟩ = some (.int .i64 (N.length : Int)) ∧ w'.cell? ⟨w.heap.size, 1, none⟩ = some (.slice PA G.length pc) ∧ w'.cell? ⟨V2.heap.size, 0, none⟩ = some (.int .i64 b0) ∧ w'.cell? ⟨V2.heap.size, 1, none⟩ = some (.int .i64 a0) ∧ w'.cell? ⟨V2.heap.size, 2, none⟩ = some (.int .i64 d0) ∧ w'.cell? ⟨V2.heap.size, 3, none⟩ = some (.int .i64 e0)) (by kernel_rfl) ⟨k0, k1, p0, p1, p2, p3⟩ (fun hH => ?_)
                clear hXd
                generalize X.drew = V0 at *
                have hbW : b ≤ V0.heap.size := Nat.le_trans hb hW.size
                have hSk : Hid (∀ V, Below V0.heap.size V0 V → V.cell? ⟨w.heap.size, 0, none⟩ = some (.int .i64 (N.length : Int)) ∧ V.cell? ⟨w.heap.size, 1, none⟩ = some (.slice PA G.length pc) ∧ V.cell? ⟨V2.heap.size, 0, none⟩ = some (.int .i64 b0) ∧ V.cell? ⟨V2.heap.size, 1, none⟩ = some (.int .i64 a0) ∧ V.cell? ⟨V2.heap.size, 2, none⟩ = some (.int .i64 d0) ∧ V.cell? ⟨V2.heap.size, 3, none⟩ = some (.int .i64 e0)) := Lib.hid (fun V h => ⟨cell_keep k0 h, cell_keep k1 h, cell_keep p0 h, cell_keep p1 h, cell_keep p2 h, cell_keep p3 h⟩)
                refine tkH 0 (v := ?_) rfl (fun _ _ _ h => h) (Or.inl ⟨by rfl, ?_⟩) hH ?_
                rotate_left
                · intro w9 hSw
                  try dsimp only at hSw
                  obtain ⟨s0, s1, s2, s3, s4, s5⟩ := hSw
                  go_simp
                  try with_reducible rfl
                try simp only [Act.put, List.setIfInBounds_toArray, List.set_cons_zero, List.set_cons_succ]
                refine tkH 1 (v := ?_) rfl (fun _ _ _ h => h) (Or.inl ⟨by rfl, ?_⟩) hH ?_
                rotate_left
                · intro w9 hSw
                  try dsimp only at hSw
                  obtain ⟨s0, s1, s2, s3, s4, s5⟩ := hSw
                  go_simp
                  try with_reducible rfl
                try simp only [Act.put, List.setIfInBounds_toArray, List.set_cons_zero, List.set_cons_succ]
                refine tkH 3 (v := ?_) rfl (fun _ _ _ h => h) (Or.inl ⟨by rfl, ?_⟩) hH ?_
                rotate_left
                · intro w9 hSw
                  try dsimp only at hSw
                  obtain ⟨s0, s1, s2, s3, s4, s5⟩ := hSw
                  go_simp
                  try with_reducible rfl
                try simp only [Act.put, List.setIfInBounds_toArray, List.set_cons_zero, List.set_cons_succ]
                refine tkH 4 (v := ?_) rfl (fun _ _ _ h => h) (Or.inl ⟨by rfl, ?_⟩) hH ?_
                rotate_left
                · intro w9 hSw
                  try dsimp only at hSw
                  obtain ⟨s0, s1, s2, s3, s4, s5⟩ := hSw
                  go_simp
                  try with_reducible rfl
                try simp only [Act.put, List.setIfInBounds_toArray, List.set_cons_zero, List.set_cons_succ]
                refine tkH 6 (v := ?_) rfl (fun _ _ _ h => h) (Or.inl ⟨by rfl, ?_⟩) hH ?_
                rotate_left
                · intro w9 hSw
                  try dsimp only at hSw
                  obtain ⟨s0, s1, s2, s3, s4, s5⟩ := hSw
                  go_simp
                  try with_reducible rfl
                try simp only [Act.put, List.setIfInBounds_toArray, List.set_cons_zero, List.set_cons_succ]
                refine tkH 10 (v := ?_) rfl (fun _ _ _ h => h) (Or.inl ⟨by rfl, ?_⟩) hH ?_
                rotate_left
                · intro w9 hSw
                  try dsimp only at hSw
                  obtain ⟨s0, s1, s2, s3, s4, s5⟩ := hSw
                  go_simp
                  try with_reducible rfl
                try simp only [Act.put, List.setIfInBounds_toArray, List.set_cons_zero, List.set_cons_succ]
                clear k0 k1 p0 p1 p2 p3
                refine wpAnyH_named (fun GG AA hGG hAA => ?_)
                have st2_ : Hid (∀ (V : World) (r2 : Nat) (r7 : Nat) (x5 : Value) (ZA : Option Addr) (zc : Nat), Below V0.heap.size V0 V → Own Place.cells 4 57 V V0.heap.size (.slice ZA (G.length + 1) zc) (G ++ [(⟨b0, a0, d0, e0⟩ : Place)]) → GG 3 #[true, true, true, true, true, true, true, true, true, true, true, false, false, false] (((((AA.put (some 147) (.slice (some ⟨r2, 0, none⟩) 0 0)).put (some 150) x5).put (some 152) (.slice (some ⟨r7, 0, none⟩) 1 1)).put (some 153) (.slice ZA (G.length + 1) zc)).put (some 154) (.agg #[.int .i64 ((N.length : Int)), .slice ZA (G.length + 1) zc])) V) := by
                  refine Lib.hid (fun V r2 r7 x5 ZA zc hBc o8 => ?_)
                  refine (hGG.out _ _ _ _).2 ?_
                  rw [hAA.out]
                  try simp only [Act.put, List.setIfInBounds_toArray, List.set_cons_zero, List.set_cons_succ]
                  have hle := hBc.size
                  have hH := hSk.out _ hBc
                  have hbx := hb1.now hBc
                  obtain ⟨g0, g1⟩ := hbx.c2
                  obtain ⟨f0, f1⟩ := hbx.f2
                  have l1 := hbx.lt
                  obtain ⟨k0, k1, p0, p1, p2, p3⟩ := hH
                  have hLw : w.heap.size + 1 < V2.heap.size := hWb.out
                  have e0 := ((hb0.now hBc).far (p := ⟨w.heap.size + 1, 0, none⟩) (by show w.heap.size ≠ w.heap.size + 1; omega) (.int .i64 (N.length : Int))).far (p := ⟨w.heap.size + 1, 1, none⟩) (by show w.heap.size ≠ w.heap.size + 1; omega) (.slice ZA (G.length + 1) zc)
                  have ep := ((hpl.now hBc).far (p := ⟨w.heap.size + 1, 0, none⟩) (by show V2.heap.size ≠ w.heap.size + 1; omega) (.int .i64 (N.length : Int))).far (p := ⟨w.heap.size + 1, 1, none⟩) (by show V2.heap.size ≠ w.heap.size + 1; omega) (.slice ZA (G.length + 1) zc)
                  obtain ⟨z0, z1⟩ := e0.c2
                  obtain ⟨t0, t1, t2, t3⟩ := ep.c4
                  refine wpAnyH_ready (rs := [11]) (by kernel_rfl) (by simp) ?_
                  refine AllReadyH.cons rfl (fun K hK => ?_) AllReadyH.nil
                  go_simp
                  refine hK.out _ _ ⟨z0, z1, t0, t1, t2, t3⟩ (fun hH => ?_)
                  clear hK K
                  try simp only [Act.put, List.setIfInBounds_toArray, List.set_cons_zero, List.set_cons_succ]
                  refine tkH 12 (v := ?_) rfl (fun _ _ _ h => h) (Or.inl ⟨by rfl, ?_⟩) hH ?_
                  rotate_left
                  · intro w9 hSw
                    try dsimp only at hSw
                    obtain ⟨s0, s1, s2, s3, s4, s5⟩ := hSw
                    go_simp
                    try with_reducible rfl
                  try simp only [Act.put, List.setIfInBounds_toArray, List.set_cons_zero, List.set_cons_succ]
                  refine tkH 13 (v := ?_) rfl (fun _ _ _ h => h) (Or.inl ⟨by rfl, ?_⟩) hH ?_
                  rotate_left
                  · intro w9 hSw
                    try dsimp only at hSw
                    obtain ⟨s0, s1, s2, s3, s4, s5⟩ := hSw
                    go_simp
                    try with_reducible rfl
                  try simp only [Act.put, List.setIfInBounds_toArray, List.set_cons_zero, List.set_cons_succ]
                  refine wpAnyH_done (by kernel_rfl) ?_ _
                  have r0 := ((hbx.set2a (u := .int .i64 (N.length : Int))).set2b (u := .slice ZA (G.length + 1) zc)).c2
                  have hOP := (o8.rebase (Nat.le_trans hbW (Nat.le_refl _))).far2 hbx (by decide) (.int .i64 (N.length : Int)) (.slice ZA (G.length + 1) zc)
                  have hBf := ((hW.trans (hBc.mono hW.size)).setCell (p := ⟨w.heap.size + 1, 0, none⟩) (by show w.heap.size ≤ w.heap.size + 1; omega) (.int .i64 (N.length : Int))).setCell (p := ⟨w.heap.size + 1, 1, none⟩) (by show w.heap.size ≤ w.heap.size + 1; omega) (.slice ZA (G.length + 1) zc)
                  have hON := (h1.now hBc).far2 hbx (by decide) (.int .i64 (N.length : Int)) (.slice ZA (G.length + 1) zc)
                  clear hbx z0 z1 t0 t1 t2 t3 e0 ep g0 g1 f0 f1 l1 hBc hLw hH
                  go_wp2
                  refine bodyPost_ret (v := .tuple #[.agg #[.int .i64 (N.length : Int), .slice ZA (G.length + 1) zc], .slice NA N.length nc, .int .i64 0]) (by simp [results, Tryz.results41, go_sem, r0.1, r0.2]) rfl ?_
                  rw [← hN.out]
                  exact ⟨_, _, rfl, hOP, hON, hBf⟩
                have st1_1 : Hid (∀ (V : World) (r2 : Nat) (r7 : Nat) (x5 : Value), Below V0.heap.size V0 V → Own Place.cells 4 57 V V0.heap.size (.slice (some ⟨r7, 0, none⟩) 1 1) [(⟨b0, a0, d0, e0⟩ : Place)] → Own Place.cells 4 57 V V0.heap.size x5 G → GG 5 #[true, true, true, true, true, true, true, true, false, false, true, false, false, false] (((AA.put (some 147) (.slice (some ⟨r2, 0, none⟩) 0 0)).put (some 150) x5).put (some 152) (.slice (some ⟨r7, 0, none⟩) 1 1)) V) := by
                  refine Lib.hid (fun V r2 r7 x5 hBc o7 o5 => ?_)
                  refine (hGG.out _ _ _ _).2 ?_
                  rw [hAA.out]
                  try simp only [Act.put, List.setIfInBounds_toArray, List.set_cons_zero, List.set_cons_succ]
                  have hle := hBc.size
                  have hH := hSk.out _ hBc
                  refine wpAnyH_ready (rs := [8]) (by kernel_rfl) (by simp) ?_
                  refine AllReadyH.cons rfl (fun K hK => ?_) AllReadyH.nil
                  · have hNl := o7.lst
                    refine step_append_lst rfl _ _ 24 rfl Place.cells 4 Place.cells_one (by omega) V0.heap.size 57 _ 32 Tryz.underlying24 info_place rfl x5 G rfl o5 _ _ _ _ [(⟨b0, a0, d0, e0⟩ : Place)] rfl hNl (by simp <;> omega) (by omega) hle ?_
                    intro u wz hO1 hG1 hD1
                    have hBn := hBc.grown hG1 hle (fun q hq => (o5.lt q hq).1)
                    obtain ⟨ZA, zc, rfl⟩ := own_shape_n hO1 (show (G ++ [(⟨b0, a0, d0, e0⟩ : Place)]).length = G.length + 1 by simp)
                    refine hK.out _ _ (hSk.out _ hBn) (fun hH => ?_)
                    clear hK K
                    try simp only [Act.put, List.setIfInBounds_toArray, List.set_cons_zero, List.set_cons_succ]
                    refine tkH 9 (v := ?_) rfl (fun _ _ _ h => h) (Or.inl ⟨by rfl, ?_⟩) hH ?_
                    rotate_left
                    · intro w9 hSw
                      try dsimp only at hSw
                      obtain ⟨s0, s1, s2, s3, s4, s5⟩ := hSw
                      go_simp
                      try with_reducible rfl
                    try simp only [Act.put, List.setIfInBounds_toArray, List.set_cons_zero, List.set_cons_succ]
                    have hs := (hGG.out _ _ _ _).1 (st2_.out wz r2 r7 x5 ZA zc hBn hO1)
                    rw [hAA.out] at hs
                    try simp only [Act.put, List.setIfInBounds_toArray, List.set_cons_zero, List.set_cons_succ] at hs
                    exact hs
                have st1_ : Hid (∀ (V : World) (r2 : Nat) (x5 : Value), Below V0.heap.size V0 V → Own Place.cells 4 57 V V0.heap.size x5 G → GG 6 #[true, true, true, true, true, true, true, false, false, false, true, false, false, false] ((AA.put (some 147) (.slice (some ⟨r2, 0, none⟩) 0 0)).put (some 150) x5) V) := by
                  refine Lib.hid (fun V r2 x5 hBc o5 => ?_)
                  refine (hGG.out _ _ _ _).2 ?_
                  rw [hAA.out]
                  try simp only [Act.put, List.setIfInBounds_toArray, List.set_cons_zero, List.set_cons_succ]
                  have hle := hBc.size
                  have hH := hSk.out _ hBc
                  refine wpAnyH_ready (rs := [7]) (by kernel_rfl) (by simp) ?_
                  refine AllReadyH.cons rfl (fun K hK => ?_) AllReadyH.nil
                  · go_simp
                    have q7 := own_new1L Place.cells 4 Place.cells_len V 57 V0.heap.size hle (⟨b0, a0, d0, e0⟩ : Place) (by decide)
                    have hBn := hBc.alloc hle (.cells (Place.cells (⟨b0, a0, d0, e0⟩ : Place)).toArray 57)
                    refine hK.out _ _ (hSk.out _ hBn) (fun hH => ?_)
                    clear hK K
                    try simp only [Act.put, List.setIfInBounds_toArray, List.set_cons_zero, List.set_cons_succ]
                    have hs := (hGG.out _ _ _ _).1 (st1_1.out (V.alloc (.cells (Place.cells (⟨b0, a0, d0, e0⟩ : Place)).toArray 57)) r2 V.heap.size x5 hBn q7 (o5.alloc _))
                    rw [hAA.out] at hs
                    try simp only [Act.put, List.setIfInBounds_toArray, List.set_cons_zero, List.set_cons_succ] at hs
                    exact hs
                have st0_01 : Hid (∀ (V : World) (r2 : Nat) (r7 : Nat), Below V0.heap.size V0 V → Own Place.cells 4 57 V V0.heap.size (.slice (some ⟨r2, 0, none⟩) 0 0) ([] : List Place) → Own Place.cells 4 57 V V0.heap.size (.slice (some ⟨r7, 0, none⟩) 1 1) [(⟨b0, a0, d0, e0⟩ : Place)] → r2 ≠ r7 → GG 6 #[true, true, true, true, true, false, true, true, false, false, true, false, false, false] ((AA.put (some 147) (.slice (some ⟨r2, 0, none⟩) 0 0)).put (some 152) (.slice (some ⟨r7, 0, none⟩) 1 1)) V) := by
                  refine Lib.hid (fun V r2 r7 hBc o2 o7 n2_7 => ?_)
                  refine (hGG.out _ _ _ _).2 ?_
                  rw [hAA.out]
                  try simp only [Act.put, List.setIfInBounds_toArray, List.set_cons_zero, List.set_cons_succ]
                  have hle := hBc.size
                  have hH := hSk.out _ hBc
                  refine wpAnyH_ready (rs := [5]) (by kernel_rfl) (by simp) ?_
                  refine AllReadyH.cons rfl (fun K hK => ?_) AllReadyH.nil
                  · have hNl := (h0.now hBc).lst
                    refine step_append_lst rfl _ _ 24 rfl Place.cells 4 Place.cells_one (by omega) V0.heap.size 57 _ 32 Tryz.underlying24 info_place rfl (.slice (some ⟨r2, 0, none⟩) 0 0) ([] : List Place) rfl o2 _ _ _ _ G rfl hNl (by simp <;> omega) (by omega) hle ?_
                    intro u wz hO1 hG1 hD1
                    rw [List.nil_append] at hO1
                    replace o7 := own_kept o7 hG1 (fun k a b => n2_7 ((Option.some.inj b).trans (Option.some.inj a).symm))
                    have hBn := hBc.grown hG1 hle (fun q hq => (o2.lt q hq).1)
                    refine hK.out _ _ (hSk.out _ hBn) (fun hH => ?_)
                    clear hK K
                    try simp only [Act.put, List.setIfInBounds_toArray, List.set_cons_zero, List.set_cons_succ]
                    have hs := (hGG.out _ _ _ _).1 (st1_1.out wz r2 r7 u hBn o7 hO1)
                    rw [hAA.out] at hs
                    try simp only [Act.put, List.setIfInBounds_toArray, List.set_cons_zero, List.set_cons_succ] at hs
                    exact hs
                have st0_0 : Hid (∀ (V : World) (r2 : Nat), Below V0.heap.size V0 V → Own Place.cells 4 57 V V0.heap.size (.slice (some ⟨r2, 0, none⟩) 0 0) ([] : List Place) → GG 7 #[true, true, true, true, true, false, true, false, false, false, true, false, false, false] (AA.put (some 147) (.slice (some ⟨r2, 0, none⟩) 0 0)) V) := by
                  refine Lib.hid (fun V r2 hBc o2 => ?_)
                  refine (hGG.out _ _ _ _).2 ?_
                  rw [hAA.out]
                  try simp only [Act.put, List.setIfInBounds_toArray, List.set_cons_zero, List.set_cons_succ]
                  have hle := hBc.size
                  have hH := hSk.out _ hBc
                  refine wpAnyH_ready (rs := [5, 7]) (by kernel_rfl) (by simp) ?_
                  refine AllReadyH.cons rfl (fun K hK => ?_) (AllReadyH.cons rfl (fun K hK => ?_) AllReadyH.nil)
                  · have hNl := (h0.now hBc).lst
                    refine step_append_lst rfl _ _ 24 rfl Place.cells 4 Place.cells_one (by omega) V0.heap.size 57 _ 32 Tryz.underlying24 info_place rfl (.slice (some ⟨r2, 0, none⟩) 0 0) ([] : List Place) rfl o2 _ _ _ _ G rfl hNl (by simp <;> omega) (by omega) hle ?_
                    intro u wz hO1 hG1 hD1
                    rw [List.nil_append] at hO1
                    have hBn := hBc.grown hG1 hle (fun q hq => (o2.lt q hq).1)
                    refine hK.out _ _ (hSk.out _ hBn) (fun hH => ?_)
                    clear hK K
                    try simp only [Act.put, List.setIfInBounds_toArray, List.set_cons_zero, List.set_cons_succ]
                    have hs := (hGG.out _ _ _ _).1 (st1_.out wz r2 u hBn hO1)
                    rw [hAA.out] at hs
                    try simp only [Act.put, List.setIfInBounds_toArray, List.set_cons_zero, List.set_cons_succ] at hs
                    exact hs
                  · go_simp
                    have q7 := own_new1L Place.cells 4 Place.cells_len V 57 V0.heap.size hle (⟨b0, a0, d0, e0⟩ : Place) (by decide)
                    have hBn := hBc.alloc hle (.cells (Place.cells (⟨b0, a0, d0, e0⟩ : Place)).toArray 57)
                    refine hK.out _ _ (hSk.out _ hBn) (fun hH => ?_)
                    clear hK K
                    try simp only [Act.put, List.setIfInBounds_toArray, List.set_cons_zero, List.set_cons_succ]
                    have hs := (hGG.out _ _ _ _).1 (st0_01.out (V.alloc (.cells (Place.cells (⟨b0, a0, d0, e0⟩ : Place)).toArray 57)) r2 V.heap.size hBn (o2.alloc _) q7 (Nat.ne_of_lt (o2.lt r2 rfl).2))
                    rw [hAA.out] at hs
                    try simp only [Act.put, List.setIfInBounds_toArray, List.set_cons_zero, List.set_cons_succ] at hs
                    exact hs
                have st0_1 : Hid (∀ (V : World) (r7 : Nat), Below V0.heap.size V0 V → Own Place.cells 4 57 V V0.heap.size (.slice (some ⟨r7, 0, none⟩) 1 1) [(⟨b0, a0, d0, e0⟩ : Place)] → GG 7 #[true, true, false, true, true, false, true, true, false, false, true, false, false, false] (AA.put (some 152) (.slice (some ⟨r7, 0, none⟩) 1 1)) V) := by
                  refine Lib.hid (fun V r7 hBc o7 => ?_)
                  refine (hGG.out _ _ _ _).2 ?_
                  rw [hAA.out]
                  try simp only [Act.put, List.setIfInBounds_toArray, List.set_cons_zero, List.set_cons_succ]
                  have hle := hBc.size
                  have hH := hSk.out _ hBc
                  refine wpAnyH_ready (rs := [2]) (by kernel_rfl) (by simp) ?_
                  refine AllReadyH.cons rfl (fun K hK => ?_) AllReadyH.nil
                  · go_simp
                    have q2 := own_new0 Place.cells 4 V 57 V0.heap.size hle (α := Place)
                    have hBn := hBc.alloc hle (.cells #[] 57)
                    refine hK.out _ _ (hSk.out _ hBn) (fun hH => ?_)
                    clear hK K
                    try simp only [Act.put, List.setIfInBounds_toArray, List.set_cons_zero, List.set_cons_succ]
                    have hs := (hGG.out _ _ _ _).1 (st0_01.out (V.alloc (.cells #[] 57)) V.heap.size r7 hBn q2 (o7.alloc _) (Nat.ne_of_gt (o7.lt r7 rfl).2))
                    rw [hAA.out] at hs
                    try simp only [Act.put, List.setIfInBounds_toArray, List.set_cons_zero, List.set_cons_succ] at hs
                    exact hs
                have st0_ : Hid (∀ (V : World), Below V0.heap.size V0 V → GG 8 #[true, true, false, true, true, false, true, false, false, false, true, false, false, false] AA V) := by
                  refine Lib.hid (fun V hBc => ?_)
                  refine (hGG.out _ _ _ _).2 ?_
                  rw [hAA.out]
                  try simp only [Act.put, List.setIfInBounds_toArray, List.set_cons_zero, List.set_cons_succ]
                  have hle := hBc.size
                  have hH := hSk.out _ hBc
                  refine wpAnyH_ready (rs := [2, 7]) (by kernel_rfl) (by simp) ?_
                  refine AllReadyH.cons rfl (fun K hK => ?_) (AllReadyH.cons rfl (fun K hK => ?_) AllReadyH.nil)
                  · go_simp
                    have q2 := own_new0 Place.cells 4 V 57 V0.heap.size hle (α := Place)
                    have hBn := hBc.alloc hle (.cells #[] 57)
                    refine hK.out _ _ (hSk.out _ hBn) (fun hH => ?_)
                    clear hK K
                    try simp only [Act.put, List.setIfInBounds_toArray, List.set_cons_zero, List.set_cons_succ]
                    have hs := (hGG.out _ _ _ _).1 (st0_0.out (V.alloc (.cells #[] 57)) V.heap.size hBn q2)
                    rw [hAA.out] at hs
                    try simp only [Act.put, List.setIfInBounds_toArray, List.set_cons_zero, List.set_cons_succ] at hs
                    exact hs
                  · go_simp
                    have q7 := own_new1L Place.cells 4 Place.cells_len V 57 V0.heap.size hle (⟨b0, a0, d0, e0⟩ : Place) (by decide)
                    have hBn := hBc.alloc hle (.cells (Place.cells (⟨b0, a0, d0, e0⟩ : Place)).toArray 57)
                    refine hK.out _ _ (hSk.out _ hBn) (fun hH => ?_)
                    clear hK K
                    try simp only [Act.put, List.setIfInBounds_toArray, List.set_cons_zero, List.set_cons_succ]
                    have hs := (hGG.out _ _ _ _).1 (st0_1.out (V.alloc (.cells (Place.cells (⟨b0, a0, d0, e0⟩ : Place)).toArray 57)) V.heap.size hBn q7)
                    rw [hAA.out] at hs
                    try simp only [Act.put, List.setIfInBounds_toArray, List.set_cons_zero, List.set_cons_succ] at hs
                    exact hs
                exact (st0_.out V0 (Below.refl _ _))
    · skip
      subst hns
      subst hxs
      subst hk
      obtain ⟨qb, qo, hqa, hqb, z0⟩ := ints_at hQ.lst 0 (by simp)
      rw [Nat.add_zero] at z0
      obtain ⟨ub, uo, hua, hub, cw⟩ := strs_at hU 0 (by simp)
      rw [Nat.add_zero] at cw
      replace cw : w1.cell? ⟨ub, uo, none⟩ = some (.string wMove) := cw
      obtain ⟨ub', uo', hua', _, y0⟩ := strs_at hU 1 (by simp)
      rw [hua] at hua'
      cases hua'
      replace y0 : w1.cell? ⟨ub, uo + 1, none⟩ = some (.string n0) := y0
      obtain ⟨ub', uo', hua', _, y1⟩ := strs_at hU 2 (by simp)
      rw [hua] at hua'
      cases hua'
      replace y1 : w1.cell? ⟨ub, uo + 2, none⟩ = some (.string n1) := y1
      have hub2 : w.heap.size + 2 ≤ ub := by
        have h1 := hUl.out ⟨ub, uo, none⟩ _ _ (by rw [hua])
        have h2 := hsW.out
        simp only at h1
        omega
      clear hUl
      subst hqa
      subst hua
      replace z0 : w1.cell? ⟨qb, qo, none⟩ = some (.int .i64 d0) := z0
      have hrd := hxr d0 (by simp)
      rw [(dl_Move d0).1, (dl_Move d0).2] at hst
      replace hst := Lib.hid hst
      clear hxr hU hQ
      have eBuffer : (wMove.toList == [98, 117, 102, 102, 101, 114]) = false := by decide +kernel
      have eStation : (wMove.toList == [115, 116, 97, 116, 105, 111, 110]) = false := by decide +kernel
      have eCart : (wMove.toList == [99, 97, 114, 116]) = false := by decide +kernel
      have eMove : (wMove.toList == [109, 111, 118, 101]) = true := by decide +kernel
      by_cases hd1 : 1000 < d0
      · have hi1 : inB d0 0 1000 = false := by simp [inB]; omega
        have hN := Lib.hid ((step_range (.inl hd1)).symm.trans hst.out)
        have r0 := ((hb1.set2a (u := .int .i64 N.length)).set2b (u := .slice PA G.length pc)).c2
        go_wp2_with (first | (go_at_call 54; refine (spec_l01In _ _ _ _).mono ?_; rintro e w9 ⟨rfl, rfl⟩))
        refine bodyPost_ret (v := .tuple #[.agg #[.int .i64 N.length, .slice PA G.length pc], .slice NA N.length nc, .int .i64 2]) (by simp [results, Tryz.results41, go_sem, r0.1, r0.2]) rfl ?_
        rw [← hN.out]
        exact ⟨_, _, rfl, h0.far2 hb1 (by decide) _ _, h1.far2 hb1 (by decide) _ _, (hW.setCell (by show w.heap.size ≤ w.heap.size + 1; omega) _).setCell (by show w.heap.size ≤ w.heap.size + 1; omega) _⟩
      · have hi1 : inB d0 0 1000 = true := by simp [inB]; omega
        have hi2 : inB 0 0 5 = true := by decide
        have hsm : Hid (¬ (1000 < d0 ∨ 5 < (0 : Int))) := by show ¬ _; omega
        obtain ⟨a0, ha0⟩ : ∃ a0, findStr N n0 = a0 := ⟨_, rfl⟩
        obtain ⟨b0, hb0'⟩ : ∃ b0, findStr N n1 = b0 := ⟨_, rfl⟩
        go_wp2_with (go_at_call 54; refine (spec_l01In _ _ _ _).mono ?_; rintro e w9 ⟨rfl, rfl⟩)
        have hXd : Below w1.heap.size w1 w1.drew := Below.drew (Below.refl _ _)
        have hNl := (h1.now hXd).lst
        have hj0 := spec_l18Find _ N n0 _ hNl
        have hj1 := spec_l18Find _ N n1 _ hNl
        rw [ha0] at hj0
        rw [hb0'] at hj1
        refine wp_region_held_drew (S := fun w' => w'.cell? ⟨ub, uo + 1, none⟩ = some (.string n0) ∧ w'.cell? ⟨ub, uo + 2, none⟩ = some (.string n1)) (by kernel_rfl) ⟨y0, y1⟩ (fun hH => ?_)
        refine tkH 0 (v := ?_) rfl (fun _ _ _ h => h) (Or.inl ⟨by rfl, ?_⟩) hH ?_
        rotate_left
        · intro w9 hSw
          try dsimp only at hSw
          obtain ⟨s0, s1⟩ := hSw
          go_simp
          try with_reducible rfl
        try simp only [Act.put, List.setIfInBounds_toArray, List.set_cons_zero, List.set_cons_succ]
        refine tkH 1 (v := ?_) rfl (fun _ _ _ h => h) (Or.inl ⟨by rfl, ?_⟩) hH ?_
        rotate_left
        · intro w9 hSw
          try dsimp only at hSw
          obtain ⟨s0, s1⟩ := hSw
          go_simp
          try with_reducible rfl
        try simp only [Act.put, List.setIfInBounds_toArray, List.set_cons_zero, List.set_cons_succ]
        refine tkH 2 (v := ?_) rfl (fun _ _ _ h => h) (Or.inl ⟨by rfl, ?_⟩) hH ?_
        rotate_left
        · intro w9 hSw
          try dsimp only at hSw
          obtain ⟨s0, s1⟩ := hSw
          go_simp
          try with_reducible rfl
        try simp only [Act.put, List.setIfInBounds_toArray, List.set_cons_zero, List.set_cons_succ]
        refine tkH 3 (v := ?_) rfl (fun _ _ _ h => h) (Or.inl ⟨by rfl, ?_⟩) hH ?_
        rotate_left
        · intro w9 hSw
          try dsimp only at hSw
          obtain ⟨s0, s1⟩ := hSw
          go_simp
          try with_reducible rfl
        try simp only [Act.put, List.setIfInBounds_toArray, List.set_cons_zero, List.set_cons_succ]
        refine tkH 5 (v := ?_) rfl (fun _ _ _ h => h) (Or.inl ⟨by rfl, ?_⟩) hH ?_
        rotate_left
        · intro w9 hSw
          try dsimp only at hSw
          obtain ⟨s0, s1⟩ := hSw
          go_simp
          try with_reducible rfl
        try simp only [Act.put, List.setIfInBounds_toArray, List.set_cons_zero, List.set_cons_succ]
        refine tkH 6 (v := ?_) rfl (fun _ _ _ h => h) (Or.inl ⟨by rfl, ?_⟩) hH ?_
        rotate_left
        · intro w9 hSw
          try dsimp only at hSw
          obtain ⟨s0, s1⟩ := hSw
          go_simp
          try with_reducible rfl
        try simp only [Act.put, List.setIfInBounds_toArray, List.set_cons_zero, List.set_cons_succ]
        refine tkH 7 (v := ?_) rfl (fun _ _ _ h => h) (Or.inl ⟨by rfl, ?_⟩) hH ?_
        rotate_left
        · intro w9 hSw
          try dsimp only at hSw
          obtain ⟨s0, s1⟩ := hSw
          go_simp
          try with_reducible rfl
        try simp only [Act.put, List.setIfInBounds_toArray, List.set_cons_zero, List.set_cons_succ]
        refine tkH 8 (v := ?_) rfl (fun _ _ _ h => h) (Or.inl ⟨by rfl, ?_⟩) hH ?_
        rotate_left
        · intro w9 hSw
          try dsimp only at hSw
          obtain ⟨s0, s1⟩ := hSw
          go_simp
          try with_reducible rfl
        try simp only [Act.put, List.setIfInBounds_toArray, List.set_cons_zero, List.set_cons_succ]
        refine wpAnyH_ready (rs := [4]) (by kernel_rfl) (by simp) ?_
        refine AllReadyH.cons rfl (fun K hK => ?_) AllReadyH.nil
        go_simp
        go_at_call 56
        refine hj0.mono ?_
        rintro e w8 ⟨rfl, rfl⟩
        refine hK.out _ _ ⟨y0, y1⟩ (fun hH => ?_)
        clear hK K
        try simp only [Act.put, List.setIfInBounds_toArray, List.set_cons_zero, List.set_cons_succ]
        refine wpAnyH_ready (rs := [9]) (by kernel_rfl) (by simp) ?_
        refine AllReadyH.cons rfl (fun K hK => ?_) AllReadyH.nil
        go_simp
        go_at_call 56
        refine hj1.mono ?_
        rintro e w8 ⟨rfl, rfl⟩
        refine hK.out _ _ ⟨y0, y1⟩ (fun hH => ?_)
        clear hK K
        try simp only [Act.put, List.setIfInBounds_toArray, List.set_cons_zero, List.set_cons_succ]
        refine tkH 10 (v := ?_) rfl (fun _ _ _ h => h) (Or.inl ⟨by rfl, ?_⟩) hH ?_
        rotate_left
        · intro w9 hSw
          try dsimp only at hSw
          obtain ⟨s0, s1⟩ := hSw
          go_simp
          try with_reducible rfl
        try simp only [Act.put, List.setIfInBounds_toArray, List.set_cons_zero, List.set_cons_succ]
        refine tkH 11 (v := ?_) rfl (fun _ _ _ h => h) (Or.inl ⟨by rfl, ?_⟩) hH ?_
        rotate_left
        · intro w9 hSw
          try dsimp only at hSw
          obtain ⟨s0, s1⟩ := hSw
          go_simp
          try with_reducible rfl
        try simp only [Act.put, List.setIfInBounds_toArray, List.set_cons_zero, List.set_cons_succ]
        refine wpAnyH_done (by kernel_rfl) ?_ _
        clear hj0 hj1 hNl
        replace h0 := h0.now hXd
        replace h1 := h1.now hXd
        replace hb0 := hb0.now hXd
        replace hb1 := hb1.now hXd
        replace hW := hW.trans (hXd.mono hW.size)
        replace cw : w1.drew.cell? _ = _ := cw
        try replace y0 : w1.drew.cell? _ = _ := y0
        try replace y1 : w1.drew.cell? _ = _ := y1
        replace hub : ub < w1.drew.heap.size := hub
        clear k0 k1 g0 g1 f0 f1 l0 l1 hXd hH
        try clear z0
        try clear z1
        try clear hqb
        generalize w1.drew = V2 at *
        obtain ⟨k0, k1⟩ := hb0.c2
        obtain ⟨g0, g1⟩ := hb1.c2
        obtain ⟨f0, f1⟩ := hb1.f2
        have l0 := hb0.lt
        have l1 := hb1.lt
        by_cases hf0 : a0 < 0
        · have hN := Lib.hid ((step_unk hsm.out (by decide) (by rw [ha0]; exact .inl hf0)).symm.trans hst.out)
          have r0 := ((hb1.set2a (u := .int .i64 N.length)).set2b (u := .slice PA G.length pc)).c2
          go_wp2_with (first | (go_at_call 54; refine (spec_l01In _ _ _ _).mono ?_; rintro e w9 ⟨rfl, rfl⟩))
          refine bodyPost_ret (v := .tuple #[.agg #[.int .i64 N.length, .slice PA G.length pc], .slice NA N.length nc, .int .i64 4]) (by simp [results, Tryz.results41, go_sem, r0.1, r0.2]) rfl ?_
          rw [← hN.out]
          exact ⟨_, _, rfl, h0.far2 hb1 (by decide) _ _, h1.far2 hb1 (by decide) _ _, (hW.setCell (by show w.heap.size ≤ w.heap.size + 1; omega) _).setCell (by show w.heap.size ≤ w.heap.size + 1; omega) _⟩
        · skip
          by_cases hf1 : b0 < 0
          · have hN := Lib.hid ((step_unk hsm.out (by decide) (by rw [hb0']; exact .inr hf1)).symm.trans hst.out)
            have r0 := ((hb1.set2a (u := .int .i64 N.length)).set2b (u := .slice PA G.length pc)).c2
            go_wp2_with (first | (go_at_call 54; refine (spec_l01In _ _ _ _).mono ?_; rintro e w9 ⟨rfl, rfl⟩))
            refine bodyPost_ret (v := .tuple #[.agg #[.int .i64 N.length, .slice PA G.length pc], .slice NA N.length nc, .int .i64 4]) (by simp [results, Tryz.results41, go_sem, r0.1, r0.2]) rfl ?_
            rw [← hN.out]
            exact ⟨_, _, rfl, h0.far2 hb1 (by decide) _ _, h1.far2 hb1 (by decide) _ _, (hW.setCell (by show w.heap.size ≤ w.heap.size + 1; omega) _).setCell (by show w.heap.size ≤ w.heap.size + 1; omega) _⟩
          · skip
            by_cases h30 : G.length = 30
            · have hq3 : ((G.length : Int) == 30) = true := by simp; omega
              have h30H := Lib.hid h30
              clear h30
              have hN := Lib.hid ((step_full2 hsm.out (by decide) (by rw [ha0, hb0']; omega) h30H.out).symm.trans hst.out)
              have r0 := ((hb1.set2a (u := .int .i64 N.length)).set2b (u := .slice PA G.length pc)).c2
              go_wp2_with (first | (go_at_call 54; refine (spec_l01In _ _ _ _).mono ?_; rintro e w9 ⟨rfl, rfl⟩))
              refine bodyPost_ret (v := .tuple #[.agg #[.int .i64 N.length, .slice PA G.length pc], .slice NA N.length nc, .int .i64 3]) (by simp [results, Tryz.results41, go_sem, r0.1, r0.2]) rfl ?_
              rw [← hN.out]
              exact ⟨_, _, rfl, h0.far2 hb1 (by decide) _ _, h1.far2 hb1 (by decide) _ _, (hW.setCell (by show w.heap.size ≤ w.heap.size + 1; omega) _).setCell (by show w.heap.size ≤ w.heap.size + 1; omega) _⟩
            · have hq3 : ((G.length : Int) == 30) = false := by simp; omega
              go_wp2
              have hN : Hid ((0, N, G ++ [(⟨a0, b0, d0, 0⟩ : Place)]) = R) := by
                show _ = _
                rw [← hst.out, step_add hsm.out (by decide) (by rw [ha0, hb0']; omega) h30, ha0, hb0']
                unfold placeF
                rw [if_pos rfl]
              have hWb : Hid (w.heap.size + 1 < V2.heap.size) := Lib.hid l1
              have hAl : Below V2.heap.size V2 (V2.alloc (.cells #[.int .i64 a0, .int .i64 b0, .int .i64 d0, .int .i64 0] 57)) := (Below.refl _ _).alloc (Nat.le_refl _) _
              have hpl : Blk (V2.alloc (.cells #[.int .i64 a0, .int .i64 b0, .int .i64 d0, .int .i64 0] 57)) V2.heap.size 57 #[.int .i64 a0, .int .i64 b0, .int .i64 d0, .int .i64 0] := Blk.newAt V2 _ rfl
              replace h0 := h0.now hAl
              replace h1 := h1.now hAl
              replace hb0 := hb0.now hAl
              replace hb1 := hb1.now hAl
              replace hW := hW.trans (hAl.mono hW.size)
              clear k0 k1 g0 g1 f0 f1 l0 l1 cw hAl
              try clear z0
              try clear z1
              try clear y1
              try clear y0
              generalize V2.alloc (.cells #[.int .i64 a0, .int .i64 b0, .int .i64 d0, .int .i64 0] 57) = X at *
              have hXd : Below X.heap.size X X.drew := Below.drew (Below.refl _ _)
              replace h0 := h0.now hXd
              replace h1 := h1.now hXd
              replace hb0 := hb0.now hXd
              replace hb1 := hb1.now hXd
              replace hpl := hpl.now hXd
              replace hW := hW.trans (hXd.mono hW.size)
              obtain ⟨k0, k1⟩ := hb0.c2
              obtain ⟨p0, p1, p2, p3⟩ := hpl.c4
              refine wp_region_held_drew (S := fun w' => w'.cell? ⟨w.heap.size, 0, none⟩ = some (.int .i64 (N.length : Int)) ∧ w'.cell? ⟨w.heap.size, 1, none⟩ = some (.slice PA G.length pc) ∧ w'.cell? ⟨V2.heap.size, 0, none⟩ = some (.int .i64 a0) ∧ w'.cell? ⟨V2.heap.size, 1, none⟩ = some (.int .i64 b0) ∧ w'.cell? ⟨V2.heap.size, 2, none⟩ = some (.int .i64 d0) ∧ w'.cell? ⟨V2.heap.size, 3, none⟩ = some (.int .i64 0)) (by kernel_rfl) ⟨k0, k1, p0, p1, p2, p3⟩ (fun hH => ?_)
              clear hXd
              generalize X.drew = V0 at *
              have hbW : b ≤ V0.heap.size := Nat.le_trans hb hW.size
              have hSk : Hid (∀ V, Below V0.heap.size V0 V → V.cell? ⟨w.heap.size, 0, none⟩ = some (.int .i64 (N.length : Int)) ∧ V.cell? ⟨w.heap.size, 1, none⟩ = some (.slice PA G.length pc) ∧ V.cell? ⟨V2.heap.size, 0, none⟩ = some (.int .i64 a0) ∧ V.cell? ⟨V2.heap.size, 1, none⟩ = some (.int .i64 b0) ∧ V.cell? ⟨V2.heap.size, 2, none⟩ = some (.int .i64 d0) ∧ V.cell? ⟨V2.heap.size, 3, none⟩ = some (.int .i64 0)) := Lib.hid (fun V h => ⟨cell_keep k0 h, cell_keep k1 h, cell_keep p0 h, cell_keep p1 h, cell_keep p2 h, cell_keep p3 h⟩)
              refine tkH 0 (v := ?_) rfl (fun _ _ _ h => h) (Or.inl ⟨by rfl, ?_⟩) hH ?_
              rotate_left
              · intro w9 hSw
                try dsimp only at hSw
                obtain ⟨s0, s1, s2, s3, s4, s5⟩ := hSw
                go_simp
                try with_reducible rfl
              try simp only [Act.put, List.setIfInBounds_toArray, List.set_cons_zero, List.set_cons_succ]
              refine tkH 1 (v := ?_) rfl (fun _ _ _ h => h) (Or.inl ⟨by rfl, ?_⟩) hH ?_
              rotate_left
              · intro w9 hSw
                try dsimp only at hSw
                obtain ⟨s0, s1, s2, s3, s4, s5⟩ := hSw
                go_simp
                try with_reducible rfl
              try simp only [Act.put, List.setIfInBounds_toArray, List.set_cons_zero, List.set_cons_succ]
              refine tkH 3 (v := ?_) rfl (fun _ _ _ h => h) (Or.inl ⟨by rfl, ?_⟩) hH ?_
              rotate_left
              · intro w9 hSw
                try dsimp only at hSw
                obtain ⟨s0, s1, s2, s3, s4, s5⟩ := hSw
                go_simp
                try with_reducible rfl
              try simp only [Act.put, List.setIfInBounds_toArray, List.set_cons_zero, List.set_cons_succ]
              refine tkH 4 (v := ?_) rfl (fun _ _ _ h => h) (Or.inl ⟨by rfl, ?_⟩) hH ?_
              rotate_left
              · intro w9 hSw
                try dsimp only at hSw
                obtain ⟨s0, s1, s2, s3, s4, s5⟩ := hSw
                go_simp
                try with_reducible rfl
              try simp only [Act.put, List.setIfInBounds_toArray, List.set_cons_zero, List.set_cons_succ]
              refine tkH 6 (v := ?_) rfl (fun _ _ _ h => h) (Or.inl ⟨by rfl, ?_⟩) hH ?_
              rotate_left
              · intro w9 hSw
                try dsimp only at hSw
                obtain ⟨s0, s1, s2, s3, s4, s5⟩ := hSw
                go_simp
                try with_reducible rfl
              try simp only [Act.put, List.setIfInBounds_toArray, List.set_cons_zero, List.set_cons_succ]
              refine tkH 10 (v := ?_) rfl (fun _ _ _ h => h) (Or.inl ⟨by rfl, ?_⟩) hH ?_
              rotate_left
              · intro w9 hSw
                try dsimp only at hSw
                obtain ⟨s0, s1, s2, s3, s4, s5⟩ := hSw
                go_simp
                try with_reducible rfl
              try simp only [Act.put, List.setIfInBounds_toArray, List.set_cons_zero, List.set_cons_succ]
              clear k0 k1 p0 p1 p2 p3
              refine wpAnyH_named (fun GG AA hGG hAA => ?_)
              have st2_ : Hid (∀ (V : World) (r2 : Nat) (r7 : Nat) (x5 : Value) (ZA : Option Addr) (zc : Nat), Below V0.heap.size V0 V → Own Place.cells 4 57 V V0.heap.size (.slice ZA (G.length + 1) zc) (G ++ [(⟨a0, b0, d0, 0⟩ : Place)]) → GG 3 #[true, true, true, true, true, true, true, true, true, true, true, false, false, false] (((((AA.put (some 147) (.slice (some ⟨r2, 0, none⟩) 0 0)).put (some 150) x5).put (some 152) (.slice (some ⟨r7, 0, none⟩) 1 1)).put (some 153) (.slice ZA (G.length + 1) zc)).put (some 154) (.agg #[.int .i64 ((N.length : Int)), .slice ZA (G.length + 1) zc])) V) := by
                refine Lib.hid (fun V r2 r7 x5 ZA zc hBc o8 => ?_)
                refine (hGG.out _ _ _ _).2 ?_
                rw [hAA.out]
                try simp only [Act.put, List.setIfInBounds_toArray, List.set_cons_zero, List.set_cons_succ]
                have hle := hBc.size
                have hH := hSk.out _ hBc
                have hbx := hb1.now hBc
                obtain ⟨g0, g1⟩ := hbx.c2
                obtain ⟨f0, f1⟩ := hbx.f2
                have l1 := hbx.lt
                obtain ⟨k0, k1, p0, p1, p2, p3⟩ := hH
                have hLw : w.heap.size + 1 < V2.heap.size := hWb.out
                have e0 := ((hb0.now hBc).far (p := ⟨w.heap.size + 1, 0, none⟩) (by show w.heap.size ≠ w.heap.size + 1; omega) (.int .i64 (N.length : Int))).far (p := ⟨w.heap.size + 1, 1, none⟩) (by show w.heap.size ≠ w.heap.size + 1; omega) (.slice ZA (G.length + 1) zc)
                have ep := ((hpl.now hBc).far (p := ⟨w.heap.size + 1, 0, none⟩) (by show V2.heap.size ≠ w.heap.size + 1; omega) (.int .i64 (N.length : Int))).far (p := ⟨w.heap.size + 1, 1, none⟩) (by show V2.heap.size ≠ w.heap.size + 1; omega) (.slice ZA (G.length + 1) zc)
                obtain ⟨z0, z1⟩ := e0.c2
                obtain ⟨t0, t1, t2, t3⟩ := ep.c4
                refine wpAnyH_ready (rs := [11]) (by kernel_rfl) (by simp) ?_
                refine AllReadyH.cons rfl (fun K hK => ?_) AllReadyH.nil
                go_simp
                refine hK.out _ _ ⟨z0, z1, t0, t1, t2, t3⟩ (fun hH => ?_)
                clear hK K
                try simp only [Act.put, List.setIfInBounds_toArray, List.set_cons_zero, List.set_cons_succ]
                refine tkH 12 (v := ?_) rfl (fun _ _ _ h => h) (Or.inl ⟨by rfl, ?_⟩) hH ?_
                rotate_left
                · intro w9 hSw
                  try dsimp only at hSw
                  obtain ⟨s0, s1, s2, s3, s4, s5⟩ := hSw
                  go_simp
                  try with_reducible rfl
                try simp only [Act.put, List.setIfInBounds_toArray, List.set_cons_zero, List.set_cons_succ]
                refine tkH 13 (v := ?_) rfl (fun _ _ _ h => h) (Or.inl ⟨by rfl, ?_⟩) hH ?_
                rotate_left
                · intro w9 hSw
                  try dsimp only at hSw
                  obtain ⟨s0, s1, s2, s3, s4, s5⟩ := hSw
                  go_simp
                  try with_reducible rfl
                try simp only [Act.put, List.setIfInBounds_toArray, List.set_cons_zero, List.set_cons_succ]
                refine wpAnyH_done (by kernel_rfl) ?_ _
                have r0 := ((hbx.set2a (u := .int .i64 (N.length : Int))).set2b (u := .slice ZA (G.length + 1) zc)).c2
                have hOP := (o8.rebase (Nat.le_trans hbW (Nat.le_refl _))).far2 hbx (by decide) (.int .i64 (N.length : Int)) (.slice ZA (G.length + 1) zc)
                have hBf := ((hW.trans (hBc.mono hW.size)).setCell (p := ⟨w.heap.size + 1, 0, none⟩) (by show w.heap.size ≤ w.heap.size + 1; omega) (.int .i64 (N.length : Int))).setCell (p := ⟨w.heap.size + 1, 1, none⟩) (by show w.heap.size ≤ w.heap.size + 1; omega) (.slice ZA (G.length + 1) zc)
                have hON := (h1.now hBc).far2 hbx (by decide) (.int .i64 (N.length : Int)) (.slice ZA (G.length + 1) zc)
                clear hbx z0 z1 t0 t1 t2 t3 e0 ep g0 g1 f0 f1 l1 hBc hLw hH
                go_wp2
                refine bodyPost_ret (v := .tuple #[.agg #[.int .i64 (N.length : Int), .slice ZA (G.length + 1) zc], .slice NA N.length nc, .int .i64 0]) (by simp [results, Tryz.results41, go_sem, r0.1, r0.2]) rfl ?_
                rw [← hN.out]
                exact ⟨_, _, rfl, hOP, hON, hBf⟩
              have st1_1 : Hid (∀ (V : World) (r2 : Nat) (r7 : Nat) (x5 : Value), Below V0.heap.size V0 V → Own Place.cells 4 57 V V0.heap.size (.slice (some ⟨r7, 0, none⟩) 1 1) [(⟨a0, b0, d0, 0⟩ : Place)] → Own Place.cells 4 57 V V0.heap.size x5 G → GG 5 #[true, true, true, true, true, true, true, true, false, false, true, false, false, false] (((AA.put (some 147) (.slice (some ⟨r2, 0, none⟩) 0 0)).put (some 150) x5).put (some 152) (.slice (some ⟨r7, 0, none⟩) 1 1)) V) := by
                refine Lib.hid (fun V r2 r7 x5 hBc o7 o5 => ?_)
                refine (hGG.out _ _ _ _).2 ?_
                rw [hAA.out]
                try simp only [Act.put, List.setIfInBounds_toArray, List.set_cons_zero, List.set_cons_succ]
                have hle := hBc.size
                have hH := hSk.out _ hBc
                refine wpAnyH_ready (rs := [8]) (by kernel_rfl) (by simp) ?_
                refine AllReadyH.cons rfl (fun K hK => ?_) AllReadyH.nil
                · have hNl := o7.lst
                  refine step_append_lst rfl _ _ 24 rfl Place.cells 4 Place.cells_one (by omega) V0.heap.size 57 _ 32 Tryz.underlying24 info_place rfl x5 G rfl o5 _ _ _ _ [(⟨a0, b0, d0, 0⟩ : Place)] rfl hNl (by simp <;> omega) (by omega) hle ?_
                  intro u wz hO1 hG1 hD1
                  have hBn := hBc.grown hG1 hle (fun q hq => (o5.lt q hq).1)
                  obtain ⟨ZA, zc, rfl⟩ := own_shape_n hO1 (show (G ++ [(⟨a0, b0, d0, 0⟩ : Place)]).length = G.length + 1 by simp)
                  refine hK.out _ _ (hSk.out _ hBn) (fun hH => ?_)
                  clear hK K
                  try simp only [Act.put, List.setIfInBounds_toArray, List.set_cons_zero, List.set_cons_succ]
                  refine tkH 9 (v := ?_) rfl (fun _ _ _ h => h) (Or.inl ⟨by rfl, ?_⟩) hH ?_
                  rotate_left
                  · intro w9 hSw
                    try dsimp only at hSw
                    obtain ⟨s0, s1, s2, s3, s4, s5⟩ := hSw
                    go_simp
                    try with_reducible rfl
                  try simp only [Act.put, List.setIfInBounds_toArray, List.set_cons_zero, List.set_cons_succ]
                  have hs := (hGG.out _ _ _ _).1 (st2_.out wz r2 r7 x5 ZA zc hBn hO1)
                  rw [hAA.out] at hs
                  try simp only [Act.put, List.setIfInBounds_toArray, List.set_cons_zero, List.set_cons_succ] at hs
                  exact hs
              have st1_ : Hid (∀ (V : World) (r2 : Nat) (x5 : Value), Below V0.heap.size V0 V → Own Place.cells 4 57 V V0.heap.size x5 G → GG 6 #[true, true, true, true, true, true, true, false, false, false, true, false, false, false] ((AA.put (some 147) (.slice (some ⟨r2, 0, none⟩) 0 0)).put (some 150) x5) V) := by
                refine Lib.hid (fun V r2 x5 hBc o5 => ?_)
                refine (hGG.out _ _ _ _).2 ?_
                rw [hAA.out]
                try simp only [Act.put, List.setIfInBounds_toArray, List.set_cons_zero, List.set_cons_succ]
                have hle := hBc.size
                have hH := hSk.out _ hBc
                refine wpAnyH_ready (rs := [7]) (by kernel_rfl) (by simp) ?_
                refine AllReadyH.cons rfl (fun K hK => ?_) AllReadyH.nil
                · go_simp
                  have q7 := own_new1L Place.cells 4 Place.cells_len V 57 V0.heap.size hle (⟨a0, b0, d0, 0⟩ : Place) (by decide)
                  have hBn := hBc.alloc hle (.cells (Place.cells (⟨a0, b0, d0, 0⟩ : Place)).toArray 57)
                  refine hK.out _ _ (hSk.out _ hBn) (fun hH => ?_)
                  clear hK K
                  try simp only [Act.put, List.setIfInBounds_toArray, List.set_cons_zero, List.set_cons_succ]
                  have hs := (hGG.out _ _ _ _).1 (st1_1.out (V.alloc (.cells (Place.cells (⟨a0, b0, d0, 0⟩ : Place)).toArray 57)) r2 V.heap.size x5 hBn q7 (o5.alloc _))
                  rw [hAA.out] at hs
                  try simp only [Act.put, List.setIfInBounds_toArray, List.set_cons_zero, List.set_cons_succ] at hs
                  exact hs
              have st0_01 : Hid (∀ (V : World) (r2 : Nat) (r7 : Nat), Below V0.heap.size V0 V → Own Place.cells 4 57 V V0.heap.size (.slice (some ⟨r2, 0, none⟩) 0 0) ([] : List Place) → Own Place.cells 4 57 V V0.heap.size (.slice (some ⟨r7, 0, none⟩) 1 1) [(⟨a0, b0, d0, 0⟩ : Place)] → r2 ≠ r7 → GG 6 #[true, true, true, true, true, false, true, true, false, false, true, false, false, false] ((AA.put (some 147) (.slice (some ⟨r2, 0, none⟩) 0 0)).put (some 152) (.slice (some ⟨r7, 0, none⟩) 1 1)) V) := by
                refine Lib.hid (fun V r2 r7 hBc o2 o7 n2_7 => ?_)
                refine (hGG.out _ _ _ _).2 ?_
                rw [hAA.out]
                try simp only [Act.put, List.setIfInBounds_toArray, List.set_cons_zero, List.set_cons_succ]
                have hle := hBc.size
                have hH := hSk.out _ hBc
                refine wpAnyH_ready (rs := [5]) (by kernel_rfl) (by simp) ?_
                refine AllReadyH.cons rfl (fun K hK => ?_) AllReadyH.nil
                · have hNl := (h0.now hBc).lst
                  refine step_append_lst rfl _ _ 24 rfl Place.cells 4 Place.cells_one (by omega) V0.heap.size 57 _ 32 Tryz.underlying24 info_place rfl (.slice (some ⟨r2, 0, none⟩) 0 0) ([] : List Place) rfl o2 _ _ _ _ G rfl hNl (by simp <;> omega) (by omega) hle ?_
                  intro u wz hO1 hG1 hD1
                  rw [List.nil_append] at hO1
                  replace o7 := own_kept o7 hG1 (fun k a b => n2_7 ((Option.some.inj b).trans (Option.some.inj a).symm))
                  have hBn := hBc.grown hG1 hle (fun q hq => (o2.lt q hq).1)
                  refine hK.out _ _ (hSk.out _ hBn) (fun hH => ?_)
                  clear hK K
                  try simp only [Act.put, List.setIfInBounds_toArray, List.set_cons_zero, List.set_cons_succ]
                  have hs := (hGG.out _ _ _ _).1 (st1_1.out wz r2 r7 u hBn o7 hO1)
                  rw [hAA.out] at hs
                  try simp only [Act.put, List.setIfInBounds_toArray, List.set_cons_zero, List.set_cons_succ] at hs
                  exact hs
              have st0_0 : Hid (∀ (V : World) (r2 : Nat), Below V0.heap.size V0 V → Own Place.cells 4 57 V V0.heap.size (.slice (some ⟨r2, 0, none⟩) 0 0) ([] : List Place) → GG 7 #[true, true, true, true, true, false, true, false, false, false, true, false, false, false] (AA.put (some 147) (.slice (some ⟨r2, 0, none⟩) 0 0)) V) := by
                refine Lib.hid (fun V r2 hBc o2 => ?_)
                refine (hGG.out _ _ _ _).2 ?_
                rw [hAA.out]
                try simp only [Act.put, List.setIfInBounds_toArray, List.set_cons_zero, List.set_cons_succ]
                have hle := hBc.size
                have hH := hSk.out _ hBc
                refine wpAnyH_ready (rs := [5, 7]) (by kernel_rfl) (by simp) ?_
                refine AllReadyH.cons rfl (fun K hK => ?_) (AllReadyH.cons rfl (fun K hK => ?_) AllReadyH.nil)
                · have hNl := (h0.now hBc).lst
                  refine step_append_lst rfl _ _ 24 rfl Place.cells 4 Place.cells_one (by omega) V0.heap.size 57 _ 32 Tryz.underlying24 info_place rfl (.slice (some ⟨r2, 0, none⟩) 0 0) ([] : List Place) rfl o2 _ _ _ _ G rfl hNl (by simp <;> omega) (by omega) hle ?_
                  intro u wz hO1 hG1 hD1
                  rw [List.nil_append] at hO1
                  have hBn := hBc.grown hG1 hle (fun q hq => (o2.lt q hq).1)
                  refine hK.out _ _ (hSk.out _ hBn) (fun hH => ?_)
                  clear hK K
                  try simp only [Act.put, List.setIfInBounds_toArray, List.set_cons_zero, List.set_cons_succ]
                  have hs := (hGG.out _ _ _ _).1 (st1_.out wz r2 u hBn hO1)
                  rw [hAA.out] at hs
                  try simp only [Act.put, List.setIfInBounds_toArray, List.set_cons_zero, List.set_cons_succ] at hs
                  exact hs
                · go_simp
                  have q7 := own_new1L Place.cells 4 Place.cells_len V 57 V0.heap.size hle (⟨a0, b0, d0, 0⟩ : Place) (by decide)
                  have hBn := hBc.alloc hle (.cells (Place.cells (⟨a0, b0, d0, 0⟩ : Place)).toArray 57)
                  refine hK.out _ _ (hSk.out _ hBn) (fun hH => ?_)
                  clear hK K
                  try simp only [Act.put, List.setIfInBounds_toArray, List.set_cons_zero, List.set_cons_succ]
                  have hs := (hGG.out _ _ _ _).1 (st0_01.out (V.alloc (.cells (Place.cells (⟨a0, b0, d0, 0⟩ : Place)).toArray 57)) r2 V.heap.size hBn (o2.alloc _) q7 (Nat.ne_of_lt (o2.lt r2 rfl).2))
                  rw [hAA.out] at hs
                  try simp only [Act.put, List.setIfInBounds_toArray, List.set_cons_zero, List.set_cons_succ] at hs
                  exact hs
              have st0_1 : Hid (∀ (V : World) (r7 : Nat), Below V0.heap.size V0 V → Own Place.cells 4 57 V V0.heap.size (.slice (some ⟨r7, 0, none⟩) 1 1) [(⟨a0, b0, d0, 0⟩ : Place)] → GG 7 #[true, true, false, true, true, false, true, true, false, false, true, false, false, false] (AA.put (some 152) (.slice (some ⟨r7, 0, none⟩) 1 1)) V) := by
                refine Lib.hid (fun V r7 hBc o7 => ?_)
                refine (hGG.out _ _ _ _).2 ?_
                rw [hAA.out]
                try simp only [Act.put, List.setIfInBounds_toArray, List.set_cons_zero, List.set_cons_succ]
                have hle := hBc.size
                have hH := hSk.out _ hBc
                refine wpAnyH_ready (rs := [2]) (by kernel_rfl) (by simp) ?_
                refine AllReadyH.cons rfl (fun K hK => ?_) AllReadyH.nil
                · go_simp
                  have q2 := own_new0 Place.cells 4 V 57 V0.heap.size hle (α := Place)
                  have hBn := hBc.alloc hle (.cells #[] 57)
                  refine hK.out _ _ (hSk.out _ hBn) (fun hH => ?_)
                  clear hK K
                  try simp only [Act.put, List.setIfInBounds_toArray, List.set_cons_zero, List.set_cons_succ]
                  have hs := (hGG.out _ _ _ _).1 (st0_01.out (V.alloc (.cells #[] 57)) V.heap.size r7 hBn q2 (o7.alloc _) (Nat.ne_of_gt (o7.lt r7 rfl).2))
                  rw [hAA.out] at hs
                  try simp only [Act.put, List.setIfInBounds_toArray, List.set_cons_zero, List.set_cons_succ] at hs
                  exact hs
              have st0_ : Hid (∀ (V : World), Below V0.heap.size V0 V → GG 8 #[true, true, false, true, true, false, true, false, false, false, true, false, false, false] AA V) := by
                refine Lib.hid (fun V hBc => ?_)
                refine (hGG.out _ _ _ _).2 ?_
                rw [hAA.out]
                try simp only [Act.put, List.setIfInBounds_toArray, List.set_cons_zero, List.set_cons_succ]
                have hle := hBc.size
                have hH := hSk.out _ hBc
                refine wpAnyH_ready (rs := [2, 7]) (by kernel_rfl) (by simp) ?_
                refine AllReadyH.cons rfl (fun K hK => ?_) (AllReadyH.cons rfl (fun K hK => ?_) AllReadyH.nil)
                · go_simp
                  have q2 := own_new0 Place.cells 4 V 57 V0.heap.size hle (α := Place)
                  have hBn := hBc.alloc hle (.cells #[] 57)
                  refine hK.out _ _ (hSk.out _ hBn) (fun hH => ?_)
                  clear hK K
                  try simp only [Act.put, List.setIfInBounds_toArray, List.set_cons_zero, List.set_cons_succ]
                  have hs := (hGG.out _ _ _ _).1 (st0_0.out (V.alloc (.cells #[] 57)) V.heap.size hBn q2)
                  rw [hAA.out] at hs
                  try simp only [Act.put, List.setIfInBounds_toArray, List.set_cons_zero, List.set_cons_succ] at hs
                  exact hs
                · go_simp
                  have q7 := own_new1L Place.cells 4 Place.cells_len V 57 V0.heap.size hle (⟨a0, b0, d0, 0⟩ : Place) (by decide)
                  have hBn := hBc.alloc hle (.cells (Place.cells (⟨a0, b0, d0, 0⟩ : Place)).toArray 57)
                  refine hK.out _ _ (hSk.out _ hBn) (fun hH => ?_)
                  clear hK K
                  try simp only [Act.put, List.setIfInBounds_toArray, List.set_cons_zero, List.set_cons_succ]
                  have hs := (hGG.out _ _ _ _).1 (st0_1.out (V.alloc (.cells (Place.cells (⟨a0, b0, d0, 0⟩ : Place)).toArray 57)) V.heap.size hBn q7)
                  rw [hAA.out] at hs
                  try simp only [Act.put, List.setIfInBounds_toArray, List.set_cons_zero, List.set_cons_succ] at hs
                  exact hs
              exact (st0_.out V0 (Below.refl _ _))
    · skip
      subst hns
      subst hxs
      subst hk
      obtain ⟨qb, qo, hqa, hqb, z0⟩ := ints_at hQ.lst 0 (by simp)
      rw [Nat.add_zero] at z0
      obtain ⟨ub, uo, hua, hub, cw⟩ := strs_at hU 0 (by simp)
      rw [Nat.add_zero] at cw
      replace cw : w1.cell? ⟨ub, uo, none⟩ = some (.string wBuffer) := cw
      obtain ⟨ub', uo', hua', _, y0⟩ := strs_at hU 1 (by simp)
      rw [hua] at hua'
      cases hua'
      replace y0 : w1.cell? ⟨ub, uo + 1, none⟩ = some (.string n0) := y0
      obtain ⟨ub', uo', hua', _, y1⟩ := strs_at hU 2 (by simp)
      rw [hua] at hua'
      cases hua'
      replace y1 : w1.cell? ⟨ub, uo + 2, none⟩ = some (.string n1) := y1
      have hub2 : w.heap.size + 2 ≤ ub := by
        have h1 := hUl.out ⟨ub, uo, none⟩ _ _ (by rw [hua])
        have h2 := hsW.out
        simp only at h1
        omega
      clear hUl
      subst hqa
      subst hua
      replace z0 : w1.cell? ⟨qb, qo, none⟩ = some (.int .i64 d0) := z0
      have hrd := hxr d0 (by simp)
      rw [(dl_Buffer d0).1, (dl_Buffer d0).2] at hst
      replace hst := Lib.hid hst
      clear hxr hU hQ
      have eBuffer : (wBuffer.toList == [98, 117, 102, 102, 101, 114]) = true := by decide +kernel
      have eStation : (wBuffer.toList == [115, 116, 97, 116, 105, 111, 110]) = false := by decide +kernel
      have eCart : (wBuffer.toList == [99, 97, 114, 116]) = false := by decide +kernel
      have eMove : (wBuffer.toList == [109, 111, 118, 101]) = false := by decide +kernel
      go_wp2
      have hXd : Below w1.heap.size w1 w1.drew := Below.drew (Below.refl _ _)
      refine wp_region_held_drew (S := fun w' => w'.cell? ⟨qb, qo, none⟩ = some (.int .i64 d0)) (by kernel_rfl) z0 (fun hH => ?_)
      refine tkH 0 (v := ?_) rfl (fun _ _ _ h => h) (Or.inl ⟨by rfl, ?_⟩) hH ?_
      rotate_left
      · intro w9 hSw
        try dsimp only at hSw
        obtain s0 := hSw
        go_simp
        try with_reducible rfl
      try simp only [Act.put, List.setIfInBounds_toArray, List.set_cons_zero, List.set_cons_succ]
      refine tkH 1 (v := ?_) rfl (fun _ _ _ h => h) (Or.inl ⟨by rfl, ?_⟩) hH ?_
      rotate_left
      · intro w9 hSw
        try dsimp only at hSw
        obtain s0 := hSw
        go_simp
        try with_reducible rfl
      try simp only [Act.put, List.setIfInBounds_toArray, List.set_cons_zero, List.set_cons_succ]
      refine tkH 2 (v := ?_) rfl (fun _ _ _ h => h) (Or.inl ⟨by rfl, ?_⟩) hH ?_
      rotate_left
      · intro w9 hSw
        try dsimp only at hSw
        obtain s0 := hSw
        go_simp
        try with_reducible rfl
      try simp only [Act.put, List.setIfInBounds_toArray, List.set_cons_zero, List.set_cons_succ]
      refine tkH 3 (v := ?_) rfl (fun _ _ _ h => h) (Or.inl ⟨by rfl, ?_⟩) hH ?_
      rotate_left
      · intro w9 hSw
        try dsimp only at hSw
        obtain s0 := hSw
        go_simp
        try with_reducible rfl
      try simp only [Act.put, List.setIfInBounds_toArray, List.set_cons_zero, List.set_cons_succ]
      refine tkH 4 (v := ?_) rfl (fun _ _ _ h => h) (Or.inl ⟨by rfl, ?_⟩) hH ?_
      rotate_left
      · intro w9 hSw
        try dsimp only at hSw
        obtain s0 := hSw
        go_simp
        try with_reducible rfl
      try simp only [Act.put, List.setIfInBounds_toArray, List.set_cons_zero, List.set_cons_succ]
      refine wpAnyH_done (by kernel_rfl) ?_ _
      replace h0 := h0.now hXd
      replace h1 := h1.now hXd
      replace hb0 := hb0.now hXd
      replace hb1 := hb1.now hXd
      replace hW := hW.trans (hXd.mono hW.size)
      replace cw : w1.drew.cell? _ = _ := cw
      try replace y0 : w1.drew.cell? _ = _ := y0
      try replace y1 : w1.drew.cell? _ = _ := y1
      replace hub : ub < w1.drew.heap.size := hub
      clear k0 k1 g0 g1 f0 f1 l0 l1 hXd hH
      try clear z0
      try clear z1
      try clear hqb
      generalize w1.drew = V1 at *
      obtain ⟨k0, k1⟩ := hb0.c2
      obtain ⟨g0, g1⟩ := hb1.c2
      obtain ⟨f0, f1⟩ := hb1.f2
      have l0 := hb0.lt
      have l1 := hb1.lt
      by_cases ht1 : 5 < d0
      · have hi2 : inB d0 0 5 = false := by simp [inB]; omega
        have hN := Lib.hid ((step_range (.inr ht1)).symm.trans hst.out)
        have r0 := ((hb1.set2a (u := .int .i64 N.length)).set2b (u := .slice PA G.length pc)).c2
        go_wp2_with (first | (go_at_call 54; refine (spec_l01In _ _ _ _).mono ?_; rintro e w9 ⟨rfl, rfl⟩))
        refine bodyPost_ret (v := .tuple #[.agg #[.int .i64 N.length, .slice PA G.length pc], .slice NA N.length nc, .int .i64 2]) (by simp [results, Tryz.results41, go_sem, r0.1, r0.2]) rfl ?_
        rw [← hN.out]
        exact ⟨_, _, rfl, h0.far2 hb1 (by decide) _ _, h1.far2 hb1 (by decide) _ _, (hW.setCell (by show w.heap.size ≤ w.heap.size + 1; omega) _).setCell (by show w.heap.size ≤ w.heap.size + 1; omega) _⟩
      · have hi2 : inB d0 0 5 = true := by simp [inB]; omega
        have hsm : Hid (¬ (1000 < (0 : Int) ∨ 5 < d0)) := by show ¬ _; omega
        obtain ⟨a0, ha0⟩ : ∃ a0, findStr N n0 = a0 := ⟨_, rfl⟩
        obtain ⟨b0, hb0'⟩ : ∃ b0, findStr N n1 = b0 := ⟨_, rfl⟩
        go_wp2_with (go_at_call 54; refine (spec_l01In _ _ _ _).mono ?_; rintro e w9 ⟨rfl, rfl⟩)
        have hXd : Below V1.heap.size V1 V1.drew := Below.drew (Below.refl _ _)
        have hNl := (h1.now hXd).lst
        have hj0 := spec_l18Find _ N n0 _ hNl
        have hj1 := spec_l18Find _ N n1 _ hNl
        rw [ha0] at hj0
        rw [hb0'] at hj1
        refine wp_region_held_drew (S := fun w' => w'.cell? ⟨ub, uo + 1, none⟩ = some (.string n0) ∧ w'.cell? ⟨ub, uo + 2, none⟩ = some (.string n1)) (by kernel_rfl) ⟨y0, y1⟩ (fun hH => ?_)
        refine tkH 0 (v := ?_) rfl (fun _ _ _ h => h) (Or.inl ⟨by rfl, ?_⟩) hH ?_
        rotate_left
        · intro w9 hSw
          try dsimp only at hSw
          obtain ⟨s0, s1⟩ := hSw
          go_simp
          try with_reducible rfl
        try simp only [Act.put, List.setIfInBounds_toArray, List.set_cons_zero, List.set_cons_succ]
        refine tkH 1 (v := ?_) rfl (fun _ _ _ h => h) (Or.inl ⟨by rfl, ?_⟩) hH ?_
        rotate_left
        · intro w9 hSw
          try dsimp only at hSw
          obtain ⟨s0, s1⟩ := hSw
          go_simp
          try with_reducible rfl
        try simp only [Act.put, List.setIfInBounds_toArray, List.set_cons_zero, List.set_cons_succ]
        refine tkH 2 (v := ?_) rfl (fun _ _ _ h => h) (Or.inl ⟨by rfl, ?_⟩) hH ?_
        rotate_left
        · intro w9 hSw
          try dsimp only at hSw
          obtain ⟨s0, s1⟩ := hSw
          go_simp
          try with_reducible rfl
        try simp only [Act.put, List.setIfInBounds_toArray, List.set_cons_zero, List.set_cons_succ]
        refine tkH 3 (v := ?_) rfl (fun _ _ _ h => h) (Or.inl ⟨by rfl, ?_⟩) hH ?_
        rotate_left
        · intro w9 hSw
          try dsimp only at hSw
          obtain ⟨s0, s1⟩ := hSw
          go_simp
          try with_reducible rfl
        try simp only [Act.put, List.setIfInBounds_toArray, List.set_cons_zero, List.set_cons_succ]
        refine tkH 5 (v := ?_) rfl (fun _ _ _ h => h) (Or.inl ⟨by rfl, ?_⟩) hH ?_
        rotate_left
        · intro w9 hSw
          try dsimp only at hSw
          obtain ⟨s0, s1⟩ := hSw
          go_simp
          try with_reducible rfl
        try simp only [Act.put, List.setIfInBounds_toArray, List.set_cons_zero, List.set_cons_succ]
        refine tkH 6 (v := ?_) rfl (fun _ _ _ h => h) (Or.inl ⟨by rfl, ?_⟩) hH ?_
        rotate_left
        · intro w9 hSw
          try dsimp only at hSw
          obtain ⟨s0, s1⟩ := hSw
          go_simp
          try with_reducible rfl
        try simp only [Act.put, List.setIfInBounds_toArray, List.set_cons_zero, List.set_cons_succ]
        refine tkH 7 (v := ?_) rfl (fun _ _ _ h => h) (Or.inl ⟨by rfl, ?_⟩) hH ?_
        rotate_left
        · intro w9 hSw
          try dsimp only at hSw
          obtain ⟨s0, s1⟩ := hSw
          go_simp
          try with_reducible rfl
        try simp only [Act.put, List.setIfInBounds_toArray, List.set_cons_zero, List.set_cons_succ]
        refine tkH 8 (v := ?_) rfl (fun _ _ _ h => h) (Or.inl ⟨by rfl, ?_⟩) hH ?_
        rotate_left
        · intro w9 hSw
          try dsimp only at hSw
          obtain ⟨s0, s1⟩ := hSw
          go_simp
          try with_reducible rfl
        try simp only [Act.put, List.setIfInBounds_toArray, List.set_cons_zero, List.set_cons_succ]
        refine wpAnyH_ready (rs := [4]) (by kernel_rfl) (by simp) ?_
        refine AllReadyH.cons rfl (fun K hK => ?_) AllReadyH.nil
        go_simp
        go_at_call 56
        refine hj0.mono ?_
        rintro e w8 ⟨rfl, rfl⟩
        refine hK.out _ _ ⟨y0, y1⟩ (fun hH => ?_)
        clear hK K
        try simp only [Act.put, List.setIfInBounds_toArray, List.set_cons_zero, List.set_cons_succ]
        refine wpAnyH_ready (rs := [9]) (by kernel_rfl) (by simp) ?_
        refine AllReadyH.cons rfl (fun K hK => ?_) AllReadyH.nil
        go_simp
        go_at_call 56
        refine hj1.mono ?_
        rintro e w8 ⟨rfl, rfl⟩
        refine hK.out _ _ ⟨y0, y1⟩ (fun hH => ?_)
        clear hK K
        try simp only [Act.put, List.setIfInBounds_toArray, List.set_cons_zero, List.set_cons_succ]
        refine tkH 10 (v := ?_) rfl (fun _ _ _ h => h) (Or.inl ⟨by rfl, ?_⟩) hH ?_
        rotate_left
        · intro w9 hSw
          try dsimp only at hSw
          obtain ⟨s0, s1⟩ := hSw
          go_simp
          try with_reducible rfl
        try simp only [Act.put, List.setIfInBounds_toArray, List.set_cons_zero, List.set_cons_succ]
        refine tkH 11 (v := ?_) rfl (fun _ _ _ h => h) (Or.inl ⟨by rfl, ?_⟩) hH ?_
        rotate_left
        · intro w9 hSw
          try dsimp only at hSw
          obtain ⟨s0, s1⟩ := hSw
          go_simp
          try with_reducible rfl
        try simp only [Act.put, List.setIfInBounds_toArray, List.set_cons_zero, List.set_cons_succ]
        refine wpAnyH_done (by kernel_rfl) ?_ _
        clear hj0 hj1 hNl
        replace h0 := h0.now hXd
        replace h1 := h1.now hXd
        replace hb0 := hb0.now hXd
        replace hb1 := hb1.now hXd
        replace hW := hW.trans (hXd.mono hW.size)
        replace cw : V1.drew.cell? _ = _ := cw
        try replace y0 : V1.drew.cell? _ = _ := y0
        try replace y1 : V1.drew.cell? _ = _ := y1
        replace hub : ub < V1.drew.heap.size := hub
        clear k0 k1 g0 g1 f0 f1 l0 l1 hXd hH
        try clear z0
        try clear z1
        try clear hqb
        generalize V1.drew = V2 at *
        obtain ⟨k0, k1⟩ := hb0.c2
        obtain ⟨g0, g1⟩ := hb1.c2
        obtain ⟨f0, f1⟩ := hb1.f2
        have l0 := hb0.lt
        have l1 := hb1.lt
        by_cases hf0 : a0 < 0
        · have hN := Lib.hid ((step_unk hsm.out (by decide) (by rw [ha0]; exact .inl hf0)).symm.trans hst.out)
          have r0 := ((hb1.set2a (u := .int .i64 N.length)).set2b (u := .slice PA G.length pc)).c2
          go_wp2_with (first | (go_at_call 54; refine (spec_l01In _ _ _ _).mono ?_; rintro e w9 ⟨rfl, rfl⟩))
          refine bodyPost_ret (v := .tuple #[.agg #[.int .i64 N.length, .slice PA G.length pc], .slice NA N.length nc, .int .i64 4]) (by simp [results, Tryz.results41, go_sem, r0.1, r0.2]) rfl ?_
          rw [← hN.out]
          exact ⟨_, _, rfl, h0.far2 hb1 (by decide) _ _, h1.far2 hb1 (by decide) _ _, (hW.setCell (by show w.heap.size ≤ w.heap.size + 1; omega) _).setCell (by show w.heap.size ≤ w.heap.size + 1; omega) _⟩
        · skip
          by_cases hf1 : b0 < 0
          · have hN := Lib.hid ((step_unk hsm.out (by decide) (by rw [hb0']; exact .inr hf1)).symm.trans hst.out)
            have r0 := ((hb1.set2a (u := .int .i64 N.length)).set2b (u := .slice PA G.length pc)).c2
            go_wp2_with (first | (go_at_call 54; refine (spec_l01In _ _ _ _).mono ?_; rintro e w9 ⟨rfl, rfl⟩))
            refine bodyPost_ret (v := .tuple #[.agg #[.int .i64 N.length, .slice PA G.length pc], .slice NA N.length nc, .int .i64 4]) (by simp [results, Tryz.results41, go_sem, r0.1, r0.2]) rfl ?_
            rw [← hN.out]
            exact ⟨_, _, rfl, h0.far2 hb1 (by decide) _ _, h1.far2 hb1 (by decide) _ _, (hW.setCell (by show w.heap.size ≤ w.heap.size + 1; omega) _).setCell (by show w.heap.size ≤ w.heap.size + 1; omega) _⟩
          · skip
            by_cases h30 : G.length = 30
            · have hq3 : ((G.length : Int) == 30) = true := by simp; omega
              have h30H := Lib.hid h30
              clear h30
              have hN := Lib.hid ((step_full2 hsm.out (by decide) (by rw [ha0, hb0']; omega) h30H.out).symm.trans hst.out)
              have r0 := ((hb1.set2a (u := .int .i64 N.length)).set2b (u := .slice PA G.length pc)).c2
              go_wp2_with (first | (go_at_call 54; refine (spec_l01In _ _ _ _).mono ?_; rintro e w9 ⟨rfl, rfl⟩))
              refine bodyPost_ret (v := .tuple #[.agg #[.int .i64 N.length, .slice PA G.length pc], .slice NA N.length nc, .int .i64 3]) (by simp [results, Tryz.results41, go_sem, r0.1, r0.2]) rfl ?_
              rw [← hN.out]
              exact ⟨_, _, rfl, h0.far2 hb1 (by decide) _ _, h1.far2 hb1 (by decide) _ _, (hW.setCell (by show w.heap.size ≤ w.heap.size + 1; omega) _).setCell (by show w.heap.size ≤ w.heap.size + 1; omega) _⟩
            · have hq3 : ((G.length : Int) == 30) = false := by simp; omega
              go_wp2
              have hN : Hid ((0, N, G ++ [(⟨b0, a0, 0, d0⟩ : Place)]) = R) := by
                show _ = _
                rw [← hst.out, step_add hsm.out (by decide) (by rw [ha0, hb0']; omega) h30, ha0, hb0']
                unfold placeF
                rw [if_neg (by decide)]
              have hWb : Hid (w.heap.size + 1 < V2.heap.size) := Lib.hid l1
              have hAl : Below V2.heap.size V2 (V2.alloc (.cells #[.int .i64 b0, .int .i64 a0, .int .i64 0, .int .i64 d0] 57)) := (Below.refl _ _).alloc (Nat.le_refl _) _
              have hpl : Blk (V2.alloc (.cells #[.int .i64 b0, .int .i64 a0, .int .i64 0, .int .i64 d0] 57)) V2.heap.size 57 #[.int .i64 b0, .int .i64 a0, .int .i64 0, .int .i64 d0] := Blk.newAt V2 _ rfl
              replace h0 := h0.now hAl
              replace h1 := h1.now hAl
              replace hb0 := hb0.now hAl
              replace hb1 := hb1.now hAl
              replace hW := hW.trans (hAl.mono hW.size)
              clear k0 k1 g0 g1 f0 f1 l0 l1 cw hAl
              try clear z0
              try clear z1
              try clear y1
              try clear y0
              generalize V2.alloc (.cells #[.int .i64 b0, .int .i64 a0, .int .i64 0, .int .i64 d0] 57) = X at *
              have hXd : Below X.heap.size X X.drew := Below.drew (Below.refl _ _)
              replace h0 := h0.now hXd
              replace h1 := h1.now hXd
              replace hb0 := hb0.now hXd
              replace hb1 := hb1.now hXd
              replace hpl := hpl.now hXd
              replace hW := hW.trans (hXd.mono hW.size)
              obtain ⟨k0, k1⟩ := hb0.c2
              obtain ⟨p0, p1, p2, p3⟩ := hpl.c4
              refine wp_region_held_drew (S := fun w' => w'.cell? ⟨w.heap.size, 0, none⟩ = some (.int .i64 (N.length : Int)) ∧ w'.cell? ⟨w.heap.size, 1, none⟩ = some (.slice PA G.length pc) ∧ w'.cell? ⟨V2.heap.size, 0, none⟩ = some (.int .i64 b0) ∧ w'.cell? ⟨V2.heap.size, 1, none⟩ = some (.int .i64 a0) ∧ w'.cell? ⟨V2.heap.size, 2, none⟩ = some (.int .i64 0) ∧ w'.cell? ⟨V2.heap.size, 3, none⟩ = some (.int .i64 d0)) (by kernel_rfl) ⟨k0, k1, p0, p1, p2, p3⟩ (fun hH => ?_)
              clear hXd
              generalize X.drew = V0 at *
              have hbW : b ≤ V0.heap.size := Nat.le_trans hb hW.size
              have hSk : Hid (∀ V, Below V0.heap.size V0 V → V.cell? ⟨w.heap.size, 0, none⟩ = some (.int .i64 (N.length : Int)) ∧ V.cell? ⟨w.heap.size, 1, none⟩ = some (.slice PA G.length pc) ∧ V.cell? ⟨V2.heap.size, 0, none⟩ = some (.int .i64 b0) ∧ V.cell? ⟨V2.heap.size, 1, none⟩ = some (.int .i64 a0) ∧ V.cell? ⟨V2.heap.size, 2, none⟩ = some (.int .i64 0) ∧ V.cell? ⟨V2.heap.size, 3, none⟩ = some (.int .i64 d0)) := Lib.hid (fun V h => ⟨cell_keep k0 h, cell_keep k1 h, cell_keep p0 h, cell_keep p1 h, cell_keep p2 h, cell_keep p3 h⟩)
              refine tkH 0 (v := ?_) rfl (fun _ _ _ h => h) (Or.inl ⟨by rfl, ?_⟩) hH ?_
              rotate_left
              · intro w9 hSw
                try dsimp only at hSw
                obtain ⟨s0, s1, s2, s3, s4, s5⟩ := hSw
                go_simp
                try with_reducible rfl
              try simp only [Act.put, List.setIfInBounds_toArray, List.set_cons_zero, List.set_cons_succ]
              refine tkH 1 (v := ?_) rfl (fun _ _ _ h => h) (Or.inl ⟨by rfl, ?_⟩) hH ?_
              rotate_left
              · intro w9 hSw
                try dsimp only at hSw
                obtain ⟨s0, s1, s2, s3, s4, s5⟩ := hSw
                go_simp
                try with_reducible rfl
              try simp only [Act.put, List.setIfInBounds_toArray, List.set_cons_zero, List.set_cons_succ]
              refine tkH 3 (v := ?_) rfl (fun _ _ _ h => h) (Or.inl ⟨by rfl, ?_⟩) hH ?_
              rotate_left
              · intro w9 hSw
                try dsimp only at hSw
                obtain ⟨s0, s1, s2, s3, s4, s5⟩ := hSw
                go_simp
                try with_reducible rfl
              try simp only [Act.put, List.setIfInBounds_toArray, List.set_cons_zero, List.set_cons_succ]
              refine tkH 4 (v := ?_) rfl (fun _ _ _ h => h) (Or.inl ⟨by rfl, ?_⟩) hH ?_
              rotate_left
              · intro w9 hSw
                try dsimp only at hSw
                obtain ⟨s0, s1, s2, s3, s4, s5⟩ := hSw
                go_simp
                try with_reducible rfl
              try simp only [Act.put, List.setIfInBounds_toArray, List.set_cons_zero, List.set_cons_succ]
              refine tkH 6 (v := ?_) rfl (fun _ _ _ h => h) (Or.inl ⟨by rfl, ?_⟩) hH ?_
              rotate_left
              · intro w9 hSw
                try dsimp only at hSw
                obtain ⟨s0, s1, s2, s3, s4, s5⟩ := hSw
                go_simp
                try with_reducible rfl
              try simp only [Act.put, List.setIfInBounds_toArray, List.set_cons_zero, List.set_cons_succ]
              refine tkH 10 (v := ?_) rfl (fun _ _ _ h => h) (Or.inl ⟨by rfl, ?_⟩) hH ?_
              rotate_left
              · intro w9 hSw
                try dsimp only at hSw
                obtain ⟨s0, s1, s2, s3, s4, s5⟩ := hSw
                go_simp
                try with_reducible rfl
              try simp only [Act.put, List.setIfInBounds_toArray, List.set_cons_zero, List.set_cons_succ]
              clear k0 k1 p0 p1 p2 p3
              refine wpAnyH_named (fun GG AA hGG hAA => ?_)
              have st2_ : Hid (∀ (V : World) (r2 : Nat) (r7 : Nat) (x5 : Value) (ZA : Option Addr) (zc : Nat), Below V0.heap.size V0 V → Own Place.cells 4 57 V V0.heap.size (.slice ZA (G.length + 1) zc) (G ++ [(⟨b0, a0, 0, d0⟩ : Place)]) → GG 3 #[true, true, true, true, true, true, true, true, true, true, true, false, false, false] (((((AA.put (some 147) (.slice (some ⟨r2, 0, none⟩) 0 0)).put (some 150) x5).put (some 152) (.slice (some ⟨r7, 0, none⟩) 1 1)).put (some 153) (.slice ZA (G.length + 1) zc)).put (some 154) (.agg #[.int .i64 ((N.length : Int)), .slice ZA (G.length + 1) zc])) V) := by
                refine Lib.hid (fun V r2 r7 x5 ZA zc hBc o8 => ?_)
                refine (hGG.out _ _ _ _).2 ?_
                rw [hAA.out]
                try simp only [Act.put, List.setIfInBounds_toArray, List.set_cons_zero, List.set_cons_succ]
                have hle := hBc.size
                have hH := hSk.out _ hBc
                have hbx := hb1.now hBc
                obtain ⟨g0, g1⟩ := hbx.c2
                obtain ⟨f0, f1⟩ := hbx.f2
                have l1 := hbx.lt
                obtain ⟨k0, k1, p0, p1, p2, p3⟩ := hH
                have hLw : w.heap.size + 1 < V2.heap.size := hWb.out
                have e0 := ((hb0.now hBc).far (p := ⟨w.heap.size + 1, 0, none⟩) (by show w.heap.size ≠ w.heap.size + 1; omega) (.int .i64 (N.length : Int))).far (p := ⟨w.heap.size + 1, 1, none⟩) (by show w.heap.size ≠ w.heap.size + 1; omega) (.slice ZA (G.length + 1) zc)
                have ep := ((hpl.now hBc).far (p := ⟨w.heap.size + 1, 0, none⟩) (by show V2.heap.size ≠ w.heap.size + 1; omega) (.int .i64 (N.length : Int))).far (p := ⟨w.heap.size + 1, 1, none⟩) (by show V2.heap.size ≠ w.heap.size + 1; omega) (.slice ZA (G.length + 1) zc)
                obtain ⟨z0, z1⟩ := e0.c2
                obtain ⟨t0, t1, t2, t3⟩ := ep.c4
                refine wpAnyH_ready (rs := [11]) (by kernel_rfl) (by simp) ?_
                refine AllReadyH.cons rfl (fun K hK => ?_) AllReadyH.nil
                go_simp
                refine hK.out _ _ ⟨z0, z1, t0, t1, t2, t3⟩ (fun hH => ?_)
                clear hK K
                try simp only [Act.put, List.setIfInBounds_toArray, List.set_cons_zero, List.set_cons_succ]
                refine tkH 12 (v := ?_) rfl (fun _ _ _ h => h) (Or.inl ⟨by rfl, ?_⟩) hH ?_
                rotate_left
                · intro w9 hSw
                  try dsimp only at hSw
                  obtain ⟨s0, s1, s2, s3, s4, s5⟩ := hSw
                  go_simp
                  try with_reducible rfl
                try simp only [Act.put, List.setIfInBounds_toArray, List.set_cons_zero, List.set_cons_succ]
                refine tkH 13 (v := ?_) rfl (fun _ _ _ h => h) (Or.inl ⟨by rfl, ?_⟩) hH ?_
                rotate_left
                · intro w9 hSw
                  try dsimp only at hSw
                  obtain ⟨s0, s1, s2, s3, s4, s5⟩ := hSw
                  go_simp
                  try with_reducible rfl
                try simp only [Act.put, List.setIfInBounds_toArray, List.set_cons_zero, List.set_cons_succ]
                refine wpAnyH_done (by kernel_rfl) ?_ _
                have r0 := ((hbx.set2a (u := .int .i64 (N.length : Int))).set2b (u := .slice ZA (G.length + 1) zc)).c2
                have hOP := (o8.rebase (Nat.le_trans hbW (Nat.le_refl _))).far2 hbx (by decide) (.int .i64 (N.length : Int)) (.slice ZA (G.length + 1) zc)
                have hBf := ((hW.trans (hBc.mono hW.size)).setCell (p := ⟨w.heap.size + 1, 0, none⟩) (by show w.heap.size ≤ w.heap.size + 1; omega) (.int .i64 (N.length : Int))).setCell (p := ⟨w.heap.size + 1, 1, none⟩) (by show w.heap.size ≤ w.heap.size + 1; omega) (.slice ZA (G.length + 1) zc)
                have hON := (h1.now hBc).far2 hbx (by decide) (.int .i64 (N.length : Int)) (.slice ZA (G.length + 1) zc)
                clear hbx z0 z1 t0 t1 t2 t3 e0 ep g0 g1 f0 f1 l1 hBc hLw hH
                go_wp2
                refine bodyPost_ret (v := .tuple #[.agg #[.int .i64 (N.length : Int), .slice ZA (G.length + 1) zc], .slice NA N.length nc, .int .i64 0]) (by simp [results, Tryz.results41, go_sem, r0.1, r0.2]) rfl ?_
                rw [← hN.out]
                exact ⟨_, _, rfl, hOP, hON, hBf⟩
              have st1_1 : Hid (∀ (V : World) (r2 : Nat) (r7 : Nat) (x5 : Value), Below V0.heap.size V0 V → Own Place.cells 4 57 V V0.heap.size (.slice (some ⟨r7, 0, none⟩) 1 1) [(⟨b0, a0, 0, d0⟩ : Place)] → Own Place.cells 4 57 V V0.heap.size x5 G → GG 5 #[true, true, true, true, true, true, true, true, false, false, true, false, false, false] (((AA.put (some 147) (.slice (some ⟨r2, 0, none⟩) 0 0)).put (some 150) x5).put (some 152) (.slice (some ⟨r7, 0, none⟩) 1 1)) V) := by
                refine Lib.hid (fun V r2 r7 x5 hBc o7 o5 => ?_)
                refine (hGG.out _ _ _ _).2 ?_
                rw [hAA.out]
                try simp only [Act.put, List.setIfInBounds_toArray, List.set_cons_zero, List.set_cons_succ]
                have hle := hBc.size
                have hH := hSk.out _ hBc
                refine wpAnyH_ready (rs := [8]) (by kernel_rfl) (by simp) ?_
                refine AllReadyH.cons rfl (fun K hK => ?_) AllReadyH.nil
                · have hNl := o7.lst
                  refine step_append_lst rfl _ _ 24 rfl Place.cells 4 Place.cells_one (by omega) V0.heap.size 57 _ 32 Tryz.underlying24 info_place rfl x5 G rfl o5 _ _ _ _ [(⟨b0, a0, 0, d0⟩ : Place)] rfl hNl (by simp <;> omega) (by omega) hle ?_
                  intro u wz hO1 hG1 hD1
                  have hBn := hBc.grown hG1 hle (fun q hq => (o5.lt q hq).1)
                  obtain ⟨ZA, zc, rfl⟩ := own_shape_n hO1 (show (G ++ [(⟨b0, a0, 0, d0⟩ : Place)]).length = G.length + 1 by simp)
                  refine hK.out _ _ (hSk.out _ hBn) (fun hH => ?_)
                  clear hK K
                  try simp only [Act.put, List.setIfInBounds_toArray, List.set_cons_zero, List.set_cons_succ]
                  refine tkH 9 (v := ?_) rfl (fun _ _ _ h => h) (Or.inl ⟨by rfl, ?_⟩) hH ?_
                  rotate_left
                  · intro w9 hSw
                    try dsimp only at hSw
                    obtain ⟨s0, s1, s2, s3, s4, s5⟩ := hSw
                    go_simp
                    try with_reducible rfl
                  try simp only [Act.put, List.setIfInBounds_toArray, List.set_cons_zero, List.set_cons_succ]
                  have hs := (hGG.out _ _ _ _).1 (st2_.out wz r2 r7 x5 ZA zc hBn hO1)
                  rw [hAA.out] at hs
                  try simp only [Act.put, List.setIfInBounds_toArray, List.set_cons_zero, List.set_cons_succ] at hs
                  exact hs
              have st1_ : Hid (∀ (V : World) (r2 : Nat) (x5 : Value), Below V0.heap.size V0 V → Own Place.cells 4 57 V V0.heap.size x5 G → GG 6 #[true, true, true, true, true, true, true, false, false, false, true, false, false, false] ((AA.put (some 147) (.slice (some ⟨r2, 0, none⟩) 0 0)).put (some 150) x5) V) := by
                refine Lib.hid (fun V r2 x5 hBc o5 => ?_)
                refine (hGG.out _ _ _ _).2 ?_
                rw [hAA.out]
                try simp only [Act.put, List.setIfInBounds_toArray, List.set_cons_zero, List.set_cons_succ]
                have hle := hBc.size
                have hH := hSk.out _ hBc
                refine wpAnyH_ready (rs := [7]) (by kernel_rfl) (by simp) ?_
                refine AllReadyH.cons rfl (fun K hK => ?_) AllReadyH.nil
                · go_simp
                  have q7 := own_new1L Place.cells 4 Place.cells_len V 57 V0.heap.size hle (⟨b0, a0, 0, d0⟩ : Place) (by decide)
                  have hBn := hBc.alloc hle (.cells (Place.cells (⟨b0, a0, 0, d0⟩ : Place)).toArray 57)
                  refine hK.out _ _ (hSk.out _ hBn) (fun hH => ?_)
                  clear hK K
                  try simp only [Act.put, List.setIfInBounds_toArray, List.set_cons_zero, List.set_cons_succ]
                  have hs := (hGG.out _ _ _ _).1 (st1_1.out (V.alloc (.cells (Place.cells (⟨b0, a0, 0, d0⟩ : Place)).toArray 57)) r2 V.heap.size x5 hBn q7 (o5.alloc _))
                  rw [hAA.out] at hs
                  try simp only [Act.put, List.setIfInBounds_toArray, List.set_cons_zero, List.set_cons_succ] at hs
                  exact hs
              have st0_01 : Hid (∀ (V : World) (r2 : Nat) (r7 : Nat), Below V0.heap.size V0 V → Own Place.cells 4 57 V V0.heap.size (.slice (some ⟨r2, 0, none⟩) 0 0) ([] : List Place) → Own Place.cells 4 57 V V0.heap.size (.slice (some ⟨r7, 0, none⟩) 1 1) [(⟨b0, a0, 0, d0⟩ : Place)] → r2 ≠ r7 → GG 6 #[true, true, true, true, true, false, true, true, false, false, true, false, false, false] ((AA.put (some 147) (.slice (some ⟨r2, 0, none⟩) 0 0)).put (some 152) (.slice (some ⟨r7, 0, none⟩) 1 1)) V) := by
                refine Lib.hid (fun V r2 r7 hBc o2 o7 n2_7 => ?_)
                refine (hGG.out _ _ _ _).2 ?_
                rw [hAA.out]
                try simp only [Act.put, List.setIfInBounds_toArray, List.set_cons_zero, List.set_cons_succ]
                have hle := hBc.size
                have hH := hSk.out _ hBc
                refine wpAnyH_ready (rs := [5]) (by kernel_rfl) (by simp) ?_
                refine AllReadyH.cons rfl (fun K hK => ?_) AllReadyH.nil
                · have hNl := (h0.now hBc).lst
                  refine step_append_lst rfl _ _ 24 rfl Place.cells 4 Place.cells_one (by omega) V0.heap.size 57 _ 32 Tryz.underlying24 info_place rfl (.slice (some ⟨r2, 0, none⟩) 0 0) ([] : List Place) rfl o2 _ _ _ _ G rfl hNl (by simp <;> omega) (by omega) hle ?_
                  intro u wz hO1 hG1 hD1
                  rw [List.nil_append] at hO1
                  replace o7 := own_kept o7 hG1 (fun k a b => n2_7 ((Option.some.inj b).trans (Option.some.inj a).symm))
                  have hBn := hBc.grown hG1 hle (fun q hq => (o2.lt q hq).1)
                  refine hK.out _ _ (hSk.out _ hBn) (fun hH => ?_)
                  clear hK K
                  try simp only [Act.put, List.setIfInBounds_toArray, List.set_cons_zero, List.set_cons_succ]
                  have hs := (hGG.out _ _ _ _).1 (st1_1.out wz r2 r7 u hBn o7 hO1)
                  rw [hAA.out] at hs
                  try simp only [Act.put, List.setIfInBounds_toArray, List.set_cons_zero, List.set_cons_succ] at hs
                  exact hs
              have st0_0 : Hid (∀ (V : World) (r2 : Nat), Below V0.heap.size V0 V → Own Place.cells 4 57 V V0.heap.size (.slice (some ⟨r2, 0, none⟩) 0 0) ([] : List Place) → GG 7 #[true, true, true, true, true, false, true, false, false, false, true, false, false, false] (AA.put (some 147) (.slice (some ⟨r2, 0, none⟩) 0 0)) V) := by
                refine Lib.hid (fun V r2 hBc o2 => ?_)
                refine (hGG.out _ _ _ _).2 ?_
                rw [hAA.out]
                try simp only [Act.put, List.setIfInBounds_toArray, List.set_cons_zero, List.set_cons_succ]
                have hle := hBc.size
                have hH := hSk.out _ hBc
                refine wpAnyH_ready (rs := [5, 7]) (by kernel_rfl) (by simp) ?_
                refine AllReadyH.cons rfl (fun K hK => ?_) (AllReadyH.cons rfl (fun K hK => ?_) AllReadyH.nil)
                · have hNl := (h0.now hBc).lst
                  refine step_append_lst rfl _ _ 24 rfl Place.cells 4 Place.cells_one (by omega) V0.heap.size 57 _ 32 Tryz.underlying24 info_place rfl (.slice (some ⟨r2, 0, none⟩) 0 0) ([] : List Place) rfl o2 _ _ _ _ G rfl hNl (by simp <;> omega) (by omega) hle ?_
                  intro u wz hO1 hG1 hD1
                  rw [List.nil_append] at hO1
                  have hBn := hBc.grown hG1 hle (fun q hq => (o2.lt q hq).1)
                  refine hK.out _ _ (hSk.out _ hBn) (fun hH => ?_)
                  clear hK K
                  try simp only [Act.put, List.setIfInBounds_toArray, List.set_cons_zero, List.set_cons_succ]
                  have hs := (hGG.out _ _ _ _).1 (st1_.out wz r2 u hBn hO1)
                  rw [hAA.out] at hs
                  try simp only [Act.put, List.setIfInBounds_toArray, List.set_cons_zero, List.set_cons_succ] at hs
                  exact hs
                · go_simp
                  have q7 := own_new1L Place.cells 4 Place.cells_len V 57 V0.heap.size hle (⟨b0, a0, 0, d0⟩ : Place) (by decide)
                  have hBn := hBc.alloc hle (.cells (Place.cells (⟨b0, a0, 0, d0⟩ : Place)).toArray 57)
                  refine hK.out _ _ (hSk.out _ hBn) (fun hH => ?_)
                  clear hK K
                  try simp only [Act.put, List.setIfInBounds_toArray, List.set_cons_zero, List.set_cons_succ]
                  have hs := (hGG.out _ _ _ _).1 (st0_01.out (V.alloc (.cells (Place.cells (⟨b0, a0, 0, d0⟩ : Place)).toArray 57)) r2 V.heap.size hBn (o2.alloc _) q7 (Nat.ne_of_lt (o2.lt r2 rfl).2))
                  rw [hAA.out] at hs
                  try simp only [Act.put, List.setIfInBounds_toArray, List.set_cons_zero, List.set_cons_succ] at hs
                  exact hs
              have st0_1 : Hid (∀ (V : World) (r7 : Nat), Below V0.heap.size V0 V → Own Place.cells 4 57 V V0.heap.size (.slice (some ⟨r7, 0, none⟩) 1 1) [(⟨b0, a0, 0, d0⟩ : Place)] → GG 7 #[true, true, false, true, true, false, true, true, false, false, true, false, false, false] (AA.put (some 152) (.slice (some ⟨r7, 0, none⟩) 1 1)) V) := by
                refine Lib.hid (fun V r7 hBc o7 => ?_)
                refine (hGG.out _ _ _ _).2 ?_
                rw [hAA.out]
                try simp only [Act.put, List.setIfInBounds_toArray, List.set_cons_zero, List.set_cons_succ]
                have hle := hBc.size
                have hH := hSk.out _ hBc
                refine wpAnyH_ready (rs := [2]) (by kernel_rfl) (by simp) ?_
                refine AllReadyH.cons rfl (fun K hK => ?_) AllReadyH.nil
                · go_simp
                  have q2 := own_new0 Place.cells 4 V 57 V0.heap.size hle (α := Place)
                  have hBn := hBc.alloc hle (.cells #[] 57)
                  refine hK.out _ _ (hSk.out _ hBn) (fun hH => ?_)
                  clear hK K
                  try simp only [Act.put, List.setIfInBounds_toArray, List.set_cons_zero, List.set_cons_succ]
                  have hs := (hGG.out _ _ _ _).1 (st0_01.out (V.alloc (.cells #[] 57)) V.heap.size r7 hBn q2 (o7.alloc _) (Nat.ne_of_gt (o7.lt r7 rfl).2))
                  rw [hAA.out] at hs
                  try simp only [Act.put, List.setIfInBounds_toArray, List.set_cons_zero, List.set_cons_succ] at hs
                  exact hs
              have st0_ : Hid (∀ (V : World), Below V0.heap.size V0 V → GG 8 #[true, true, false, true, true, false, true, false, false, false, true, false, false, false] AA V) := by
                refine Lib.hid (fun V hBc => ?_)
                refine (hGG.out _ _ _ _).2 ?_
                rw [hAA.out]
                try simp only [Act.put, List.setIfInBounds_toArray, List.set_cons_zero, List.set_cons_succ]
                have hle := hBc.size
                have hH := hSk.out _ hBc
                refine wpAnyH_ready (rs := [2, 7]) (by kernel_rfl) (by simp) ?_
                refine AllReadyH.cons rfl (fun K hK => ?_) (AllReadyH.cons rfl (fun K hK => ?_) AllReadyH.nil)
                · go_simp
                  have q2 := own_new0 Place.cells 4 V 57 V0.heap.size hle (α := Place)
                  have hBn := hBc.alloc hle (.cells #[] 57)
                  refine hK.out _ _ (hSk.out _ hBn) (fun hH => ?_)
                  clear hK K
                  try simp only [Act.put, List.setIfInBounds_toArray, List.set_cons_zero, List.set_cons_succ]
                  have hs := (hGG.out _ _ _ _).1 (st0_0.out (V.alloc (.cells #[] 57)) V.heap.size hBn q2)
                  rw [hAA.out] at hs
                  try simp only [Act.put, List.setIfInBounds_toArray, List.set_cons_zero, List.set_cons_succ] at hs
                  exact hs
                · go_simp
                  have q7 := own_new1L Place.cells 4 Place.cells_len V 57 V0.heap.size hle (⟨b0, a0, 0, d0⟩ : Place) (by decide)
                  have hBn := hBc.alloc hle (.cells (Place.cells (⟨b0, a0, 0, d0⟩ : Place)).toArray 57)
                  refine hK.out _ _ (hSk.out _ hBn) (fun hH => ?_)
                  clear hK K
                  try simp only [Act.put, List.setIfInBounds_toArray, List.set_cons_zero, List.set_cons_succ]
                  have hs := (hGG.out _ _ _ _).1 (st0_1.out (V.alloc (.cells (Place.cells (⟨b0, a0, 0, d0⟩ : Place)).toArray 57)) V.heap.size hBn q7)
                  rw [hAA.out] at hs
                  try simp only [Act.put, List.setIfInBounds_toArray, List.set_cons_zero, List.set_cons_succ] at hs
                  exact hs
              exact (st0_.out V0 (Below.refl _ _))
end Go.Proofs.YtcoomogabicfnaaGreatDoor
