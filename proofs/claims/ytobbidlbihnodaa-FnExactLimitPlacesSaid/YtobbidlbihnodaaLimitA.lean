/-
  The walks of LimitPlaces and LimitPlace, the program's and the reference's.
-/
import Derived.Test.YtobbidlbihnodaaLimit
namespace Go.Proofs.Ytobbidlbihnodaa
open Go.RowKit
set_option linter.unusedVariables false
set_option linter.unusedSimpArgs false

set_option maxHeartbeats 2000000 in
set_option maxRecDepth 100000 in
theorem impl_LimitPlaces (v : Value) (ge : Int) (gp : List Place) (u : Value) (l : List Int) (t : Value) (r : List Int) (w : World) (h0 : Lst Place.cells 4 w w.heap.size v gp) (h1 : Lst intCell 1 w w.heap.size u l) (h2 : Lst intCell 1 w w.heap.size t r) :
    Calls Try.prog 53 #[.agg #[.int .i64 ge, v], u, t] w (RetGI 78 w (limF ge gp l r).1 (limF ge gp l r).2.1 (limF ge gp l r).2.2) := by
  obtain ⟨A, c, rfl⟩ := h0.shape
  obtain ⟨C, d, rfl⟩ := h1.shape
  obtain ⟨D, f, rfl⟩ := h2.shape
  go_enter Try.func53, Try.ntmps53
  go_wp2_with fail
  have hW : Below w.heap.size w ((w.alloc (.cells #[.int .i64 ge, .slice A gp.length c] 28)).alloc (.cells #[.int .i64 0, .slice none 0 0] 28)) := (((Below.refl _ _).alloc (Nat.le_refl _) _).alloc (by first | (simp; done) | (simp; omega)) _); have hb0 : Blk ((w.alloc (.cells #[.int .i64 ge, .slice A gp.length c] 28)).alloc (.cells #[.int .i64 0, .slice none 0 0] 28)) (w.heap.size) 28 #[.int .i64 ge, .slice A gp.length c] := ((Blk.newAt w _ (by first | rfl | (simp; done) | (simp; omega))).alloc _); have hb1 : Blk ((w.alloc (.cells #[.int .i64 ge, .slice A gp.length c] 28)).alloc (.cells #[.int .i64 0, .slice none 0 0] 28)) (w.heap.size + 1) 28 #[.int .i64 0, .slice none 0 0] := (Blk.newAt (w.alloc (.cells #[.int .i64 ge, .slice A gp.length c] 28)) _ (by first | rfl | (simp; done) | (simp; omega))); replace h0 := h0.now hW; replace h1 := h1.now hW; replace h2 := h2.now hW; have hsW : w.heap.size + 2 = ((w.alloc (.cells #[.int .i64 ge, .slice A gp.length c] 28)).alloc (.cells #[.int .i64 0, .slice none 0 0] 28)).heap.size := (by first | rfl | (simp; done) | (simp; omega)); generalize ((w.alloc (.cells #[.int .i64 ge, .slice A gp.length c] 28)).alloc (.cells #[.int .i64 0, .slice none 0 0] 28)) = W at *; replace hsW := Lib.hid hsW
  refine (impl_IsEventGraph _ _ _ _ h0).mono ?_
  rintro e w1 ⟨rfl, hB⟩
  replace hW := hW.trans (hB.mono hW.size); replace h0 := h0.now hB; replace h1 := h1.now hB; replace h2 := h2.now hB; replace hb0 := hb0.now hB; replace hb1 := hb1.now hB
  clear hB
  obtain ⟨k0, k1⟩ := hb0.c2
  obtain ⟨r0, r1⟩ := hb1.c2
  obtain ⟨z0, z1⟩ := hb1.f2
  cases hg : okGraph ge gp
  · have hE : Hid (limF ge gp l r = (0, [], 1)) := by show _ = _; simp [limF, limCode, hg]
    clear hg
    go_wp2
    refine bodyPost_ret (v := .tuple #[.agg #[.int .i64 0, .slice none 0 0], .int .i64 1]) (by simp [results, Try.results53, go_sem, r0, r1]) rfl (RetGI.of hE.out ⟨_, rfl, Own.nil, ?_⟩)
    first | exact hW | exact ((hW.setCell (by simp <;> omega) _).setCell (by simp <;> omega) _)
  · have hgl := okGraph_len hg
    have hg' := Lib.hid hg
    clear hg r0 r1 z0 z1
    go_wp2_with fail
    refine (impl_areBuffers _ _ _ _ _ _ h0 h1).mono ?_
    rintro e w2 ⟨rfl, hB⟩
    clear k0 k1
    replace hW := hW.trans (hB.mono hW.size); replace h0 := h0.now hB; replace h1 := h1.now hB; replace h2 := h2.now hB; replace hb0 := hb0.now hB; replace hb1 := hb1.now hB
    clear hB
    obtain ⟨k0, k1⟩ := hb0.c2
    obtain ⟨r0, r1⟩ := hb1.c2
    obtain ⟨z0, z1⟩ := hb1.f2
    cases hb : bufOk gp.length l
    · have hE : Hid (limF ge gp l r = (0, [], 2)) := by show _ = _; simp [limF, limCode, hg'.out, hb]
      clear hb
      go_wp2
      refine bodyPost_ret (v := .tuple #[.agg #[.int .i64 0, .slice none 0 0], .int .i64 2]) (by simp [results, Try.results53, go_sem, r0, r1]) rfl (RetGI.of hE.out ⟨_, rfl, Own.nil, ?_⟩)
      first | exact hW | exact ((hW.setCell (by simp <;> omega) _).setCell (by simp <;> omega) _)
    · have hll := (bufOk_at hb).1
      have hb' := Lib.hid hb
      clear hb r0 r1 z0 z1
      go_wp2_with fail
      refine (impl_areRooms _ _ _ _ _ _ _ _ h0 h1 h2 hg' hb').mono ?_
      rintro e w3 ⟨rfl, hB⟩
      clear k0 k1
      replace hW := hW.trans (hB.mono hW.size); replace h0 := h0.now hB; replace h1 := h1.now hB; replace h2 := h2.now hB; replace hb0 := hb0.now hB; replace hb1 := hb1.now hB
      clear hB
      obtain ⟨k0, k1⟩ := hb0.c2
      obtain ⟨r0, r1⟩ := hb1.c2
      obtain ⟨z0, z1⟩ := hb1.f2
      cases hr : roomsOk gp l r
      · have hE : Hid (limF ge gp l r = (0, [], 2)) := by show _ = _; simp [limF, limCode, hg'.out, hb'.out, hr]
        clear hr
        go_wp2
        refine bodyPost_ret (v := .tuple #[.agg #[.int .i64 0, .slice none 0 0], .int .i64 2]) (by simp [results, Try.results53, go_sem, r0, r1]) rfl (RetGI.of hE.out ⟨_, rfl, Own.nil, ?_⟩)
        first | exact hW | exact ((hW.setCell (by simp <;> omega) _).setCell (by simp <;> omega) _)
      · have hr' := Lib.hid hr
        clear hr
        by_cases h30 : 30 < gp.length + l.length
        · have hE : Hid (limF ge gp l r = (0, [], 3)) := by show _ = _; simp [limF, limCode, hg'.out, hb'.out, hr'.out, h30]
          have h30' : decide ((30 : Int) < (gp.length : Int) + (l.length : Int)) = true := decide_eq_true (by omega)
          clear h30
          go_wp2
          refine bodyPost_ret (v := .tuple #[.agg #[.int .i64 0, .slice none 0 0], .int .i64 3]) (by simp [results, Try.results53, go_sem, r0, r1]) rfl (RetGI.of hE.out ⟨_, rfl, Own.nil, ?_⟩)
          first | exact hW | exact ((hW.setCell (by simp <;> omega) _).setCell (by simp <;> omega) _)
        · have hE : Hid (limF ge gp l r = (ge, gp ++ backs gp l r l.length, 0)) := by show _ = _; simp [limF, limCode, hg'.out, hb'.out, hr'.out, h30]
          have h30' : decide ((30 : Int) < (gp.length : Int) + (l.length : Int)) = false := decide_eq_false (by omega)
          clear h30 r0 r1 z0 z1
          have l1 := hb1.lt
          go_wp2_with fail
          refine (impl_limited _ _ _ _ _ _ _ _ h0 h1 h2 hg' hb' hr').mono ?_
          rintro e w4 ⟨x, rfl, hO, hB⟩
          obtain ⟨X, cx, rfl⟩ := hO.shape
          generalize gp ++ backs gp l r l.length = T at *
          obtain ⟨r0, r1⟩ := (hb1.now hB).c2
          obtain ⟨z0, z1⟩ := (hb1.now hB).f2
          have hBt := hW.trans (hB.mono hW.size)
          go_wp2
          refine bodyPost_ret (v := .tuple #[.agg #[.int .i64 ge, .slice X T.length cx], .int .i64 0]) (by simp [results, Try.results53, go_sem, r0, r1]) rfl (RetGI.of hE.out ⟨_, rfl, ((hO.far (p := ⟨w.heap.size + 1, 0, none⟩) l1 _).far (p := ⟨w.heap.size + 1, 1, none⟩) l1 _).rebase hW.size, (hBt.setCell (by simp <;> omega) _).setCell (by simp <;> omega) _⟩)
set_option maxHeartbeats 2000000 in
set_option maxRecDepth 100000 in
theorem spec_LimitPlaces (v : Value) (ge : Int) (gp : List Place) (u : Value) (l : List Int) (t : Value) (r : List Int) (w : World) (h0 : Lst Place.cells 4 w w.heap.size v gp) (h1 : Lst intCell 1 w w.heap.size u l) (h2 : Lst intCell 1 w w.heap.size t r) :
    Calls Try.prog 52 #[.agg #[.int .i64 ge, v], u, t] w (RetGI 78 w (limF ge gp l r).1 (limF ge gp l r).2.1 (limF ge gp l r).2.2) := by
  obtain ⟨A, c, rfl⟩ := h0.shape
  obtain ⟨C, d, rfl⟩ := h1.shape
  obtain ⟨D, f, rfl⟩ := h2.shape
  go_enter Try.func52, Try.ntmps52
  go_wp2_with fail
  have hW : Below w.heap.size w ((w.alloc (.cells #[.int .i64 ge, .slice A gp.length c] 28)).alloc (.cells #[.int .i64 0, .slice none 0 0] 28)) := (((Below.refl _ _).alloc (Nat.le_refl _) _).alloc (by first | (simp; done) | (simp; omega)) _); have hb0 : Blk ((w.alloc (.cells #[.int .i64 ge, .slice A gp.length c] 28)).alloc (.cells #[.int .i64 0, .slice none 0 0] 28)) (w.heap.size) 28 #[.int .i64 ge, .slice A gp.length c] := ((Blk.newAt w _ (by first | rfl | (simp; done) | (simp; omega))).alloc _); have hb1 : Blk ((w.alloc (.cells #[.int .i64 ge, .slice A gp.length c] 28)).alloc (.cells #[.int .i64 0, .slice none 0 0] 28)) (w.heap.size + 1) 28 #[.int .i64 0, .slice none 0 0] := (Blk.newAt (w.alloc (.cells #[.int .i64 ge, .slice A gp.length c] 28)) _ (by first | rfl | (simp; done) | (simp; omega))); replace h0 := h0.now hW; replace h1 := h1.now hW; replace h2 := h2.now hW; have hsW : w.heap.size + 2 = ((w.alloc (.cells #[.int .i64 ge, .slice A gp.length c] 28)).alloc (.cells #[.int .i64 0, .slice none 0 0] 28)).heap.size := (by first | rfl | (simp; done) | (simp; omega)); generalize ((w.alloc (.cells #[.int .i64 ge, .slice A gp.length c] 28)).alloc (.cells #[.int .i64 0, .slice none 0 0] 28)) = W at *; replace hsW := Lib.hid hsW
  refine (spec_l16All _ _ _ _ _ _ _ _ h0 h1 h2).mono ?_
  rintro e w1 ⟨rfl, hB⟩
  replace hW := hW.trans (hB.mono hW.size); replace h0 := h0.now hB; replace h1 := h1.now hB; replace h2 := h2.now hB; replace hb0 := hb0.now hB; replace hb1 := hb1.now hB
  clear hB
  obtain ⟨k0, k1⟩ := hb0.c2
  obtain ⟨r0, r1⟩ := hb1.c2
  obtain ⟨z0, z1⟩ := hb1.f2
  by_cases hz : limCode ge gp l r = 0
  · have hg : Hid (okGraph ge gp = true) := by show _ = _; cases e : okGraph ge gp <;> simp [limCode, e] at hz ⊢
    have hb : Hid (bufOk gp.length l = true) := by show _ = _; cases e : bufOk gp.length l <;> simp [limCode, e, hg.out] at hz ⊢
    have hr : Hid (roomsOk gp l r = true) := by show _ = _; cases e : roomsOk gp l r <;> simp [limCode, e, hg.out, hb.out] at hz ⊢
    have hE : Hid (limF ge gp l r = (ge, gp ++ backs gp l r l.length, 0)) := by show _ = _; simp [limF, hz]
    have hz1 : (limCode ge gp l r != 0) = false := by simp [hz]
    clear hz r0 r1 z0 z1
    have l1 := hb1.lt
    go_wp2_with fail
    refine (spec_l16Limit _ _ _ _ _ _ _ _ h0 h1 h2 hg hb hr).mono ?_
    rintro e w4 ⟨x, rfl, hO, hB⟩
    obtain ⟨X, cx, rfl⟩ := hO.shape
    generalize gp ++ backs gp l r l.length = T at *
    obtain ⟨r0, r1⟩ := (hb1.now hB).c2
    obtain ⟨z0, z1⟩ := (hb1.now hB).f2
    have hBt := hW.trans (hB.mono hW.size)
    go_wp2
    refine bodyPost_ret (v := .tuple #[.agg #[.int .i64 ge, .slice X T.length cx], .int .i64 0]) (by simp [results, Try.results52, go_sem, r0, r1]) rfl (RetGI.of hE.out ⟨_, rfl, ((hO.far (p := ⟨w.heap.size + 1, 0, none⟩) l1 _).far (p := ⟨w.heap.size + 1, 1, none⟩) l1 _).rebase hW.size, (hBt.setCell (by simp <;> omega) _).setCell (by simp <;> omega) _⟩)
  · have hE : Hid (limF ge gp l r = (0, [], limCode ge gp l r)) := by show _ = _; simp [limF, hz]
    have hz1 : (limCode ge gp l r != 0) = true := by simpa using hz
    clear hz
    go_wp2
    refine bodyPost_ret (v := .tuple #[.agg #[.int .i64 0, .slice none 0 0], .int .i64 (limCode ge gp l r)]) (by simp [results, Try.results52, go_sem, r0, r1]) rfl (RetGI.of hE.out ⟨_, rfl, Own.nil, ?_⟩)
    first | exact hW | exact ((hW.setCell (by simp <;> omega) _).setCell (by simp <;> omega) _)
set_option maxHeartbeats 2000000 in
set_option maxRecDepth 100000 in
theorem impl_LimitPlace (v : Value) (ge : Int) (gp : List Place) (i room : Int) (w : World) (h0 : Lst Place.cells 4 w w.heap.size v gp) :
    Calls Try.prog 51 #[.agg #[.int .i64 ge, v], .int .i64 i, .int .i64 room] w (RetGI 78 w (limF ge gp [i] [room]).1 (limF ge gp [i] [room]).2.1 (limF ge gp [i] [room]).2.2) := by
  obtain ⟨A, c, rfl⟩ := h0.shape
  go_enter Try.func51, Try.ntmps51
  go_wp2_with fail
  have hW : Below w.heap.size w ((w.alloc (.cells #[.int .i64 ge, .slice A gp.length c] 28)).alloc (.cells #[.int .i64 0, .slice none 0 0] 28)) := (((Below.refl _ _).alloc (Nat.le_refl _) _).alloc (by first | (simp; done) | (simp; omega)) _); have hb0 : Blk ((w.alloc (.cells #[.int .i64 ge, .slice A gp.length c] 28)).alloc (.cells #[.int .i64 0, .slice none 0 0] 28)) (w.heap.size) 28 #[.int .i64 ge, .slice A gp.length c] := ((Blk.newAt w _ (by first | rfl | (simp; done) | (simp; omega))).alloc _); have hb1 : Blk ((w.alloc (.cells #[.int .i64 ge, .slice A gp.length c] 28)).alloc (.cells #[.int .i64 0, .slice none 0 0] 28)) (w.heap.size + 1) 28 #[.int .i64 0, .slice none 0 0] := (Blk.newAt (w.alloc (.cells #[.int .i64 ge, .slice A gp.length c] 28)) _ (by first | rfl | (simp; done) | (simp; omega))); replace h0 := h0.now hW; have hsW : w.heap.size + 2 = ((w.alloc (.cells #[.int .i64 ge, .slice A gp.length c] 28)).alloc (.cells #[.int .i64 0, .slice none 0 0] 28)).heap.size := (by first | rfl | (simp; done) | (simp; omega)); generalize ((w.alloc (.cells #[.int .i64 ge, .slice A gp.length c] 28)).alloc (.cells #[.int .i64 0, .slice none 0 0] 28)) = W at *; replace hsW := Lib.hid hsW
  have hN1 : Below W.heap.size W (W.alloc (.cells #[.int .i64 i] 2)) := (Below.refl _ _).alloc (Nat.le_refl _) _
  have a1 := (lst_new1 intCell 1 intCell_len W 2 i #[.int .i64 i] rfl (w.heap.size + 1 + 1) (by have := hsW.out; omega)).more (show w.heap.size + 1 + 1 + 1 ≤ (W.alloc (.cells #[.int .i64 i] 2)).heap.size by have := hsW.out; simp; omega)
  have a2 := (lst_new1 intCell 1 intCell_len (W.alloc (.cells #[.int .i64 i] 2)) 2 room #[.int .i64 room] rfl (w.heap.size + 1 + 1 + 1) (by have := hsW.out; simp; omega)).more (show w.heap.size + 1 + 1 + 1 + 1 ≤ ((W.alloc (.cells #[.int .i64 i] 2)).alloc (.cells #[.int .i64 room] 2)).heap.size by have := hsW.out; simp; omega)
  have hN2 : Below W.heap.size W ((W.alloc (.cells #[.int .i64 i] 2)).alloc (.cells #[.int .i64 room] 2)) := hN1.alloc hN1.size _
  replace a1 := a1.alloc (.cells #[.int .i64 room] 2)
  replace hW := hW.trans (hN2.mono hW.size); replace h0 := h0.now hN2; replace hb0 := hb0.now hN2; replace hb1 := hb1.now hN2
  with_reducible refine (impl_LimitPlaces _ _ _ _ [i] _ [room] _ h0 a1 a2).mono ?_
  rintro e w4 ⟨x, rfl, hO, hB⟩
  obtain ⟨X, cx, rfl⟩ := hO.shape
  generalize limF ge gp [i] [room] = T at *
  have l1 := hb1.lt
  obtain ⟨r0, r1⟩ := (hb1.now hB).c2
  obtain ⟨z0, z1⟩ := (hb1.now hB).f2
  have hBt := hW.trans (hB.mono hW.size)
  go_wp2
  exact bodyPost_ret (v := .tuple #[.agg #[.int .i64 T.1, .slice X T.2.1.length cx], .int .i64 T.2.2]) (by simp [results, Try.results51, go_sem, r0, r1]) rfl ⟨_, rfl, ((hO.far (p := ⟨w.heap.size + 1, 0, none⟩) l1 _).far (p := ⟨w.heap.size + 1, 1, none⟩) l1 _).rebase hW.size, (hBt.setCell (by simp <;> omega) _).setCell (by simp <;> omega) _⟩
set_option maxHeartbeats 2000000 in
set_option maxRecDepth 100000 in
theorem spec_LimitPlace (v : Value) (ge : Int) (gp : List Place) (i room : Int) (w : World) (h0 : Lst Place.cells 4 w w.heap.size v gp) :
    Calls Try.prog 50 #[.agg #[.int .i64 ge, v], .int .i64 i, .int .i64 room] w (RetGI 78 w (limF ge gp [i] [room]).1 (limF ge gp [i] [room]).2.1 (limF ge gp [i] [room]).2.2) := by
  obtain ⟨A, c, rfl⟩ := h0.shape
  go_enter Try.func50, Try.ntmps50
  go_wp2_with fail
  have hW : Below w.heap.size w ((w.alloc (.cells #[.int .i64 ge, .slice A gp.length c] 28)).alloc (.cells #[.int .i64 0, .slice none 0 0] 28)) := (((Below.refl _ _).alloc (Nat.le_refl _) _).alloc (by first | (simp; done) | (simp; omega)) _); have hb0 : Blk ((w.alloc (.cells #[.int .i64 ge, .slice A gp.length c] 28)).alloc (.cells #[.int .i64 0, .slice none 0 0] 28)) (w.heap.size) 28 #[.int .i64 ge, .slice A gp.length c] := ((Blk.newAt w _ (by first | rfl | (simp; done) | (simp; omega))).alloc _); have hb1 : Blk ((w.alloc (.cells #[.int .i64 ge, .slice A gp.length c] 28)).alloc (.cells #[.int .i64 0, .slice none 0 0] 28)) (w.heap.size + 1) 28 #[.int .i64 0, .slice none 0 0] := (Blk.newAt (w.alloc (.cells #[.int .i64 ge, .slice A gp.length c] 28)) _ (by first | rfl | (simp; done) | (simp; omega))); replace h0 := h0.now hW; have hsW : w.heap.size + 2 = ((w.alloc (.cells #[.int .i64 ge, .slice A gp.length c] 28)).alloc (.cells #[.int .i64 0, .slice none 0 0] 28)).heap.size := (by first | rfl | (simp; done) | (simp; omega)); generalize ((w.alloc (.cells #[.int .i64 ge, .slice A gp.length c] 28)).alloc (.cells #[.int .i64 0, .slice none 0 0] 28)) = W at *; replace hsW := Lib.hid hsW
  have hN1 : Below W.heap.size W (W.alloc (.cells #[.int .i64 i] 2)) := (Below.refl _ _).alloc (Nat.le_refl _) _
  have a1 := (lst_new1 intCell 1 intCell_len W 2 i #[.int .i64 i] rfl (w.heap.size + 1 + 1) (by have := hsW.out; omega)).more (show w.heap.size + 1 + 1 + 1 ≤ (W.alloc (.cells #[.int .i64 i] 2)).heap.size by have := hsW.out; simp; omega)
  have a2 := (lst_new1 intCell 1 intCell_len (W.alloc (.cells #[.int .i64 i] 2)) 2 room #[.int .i64 room] rfl (w.heap.size + 1 + 1 + 1) (by have := hsW.out; simp; omega)).more (show w.heap.size + 1 + 1 + 1 + 1 ≤ ((W.alloc (.cells #[.int .i64 i] 2)).alloc (.cells #[.int .i64 room] 2)).heap.size by have := hsW.out; simp; omega)
  have hN2 : Below W.heap.size W ((W.alloc (.cells #[.int .i64 i] 2)).alloc (.cells #[.int .i64 room] 2)) := hN1.alloc hN1.size _
  replace a1 := a1.alloc (.cells #[.int .i64 room] 2)
  replace hW := hW.trans (hN2.mono hW.size); replace h0 := h0.now hN2; replace hb0 := hb0.now hN2; replace hb1 := hb1.now hN2
  with_reducible refine (spec_LimitPlaces _ _ _ _ [i] _ [room] _ h0 a1 a2).mono ?_
  rintro e w4 ⟨x, rfl, hO, hB⟩
  obtain ⟨X, cx, rfl⟩ := hO.shape
  generalize limF ge gp [i] [room] = T at *
  have l1 := hb1.lt
  obtain ⟨r0, r1⟩ := (hb1.now hB).c2
  obtain ⟨z0, z1⟩ := (hb1.now hB).f2
  have hBt := hW.trans (hB.mono hW.size)
  go_wp2
  exact bodyPost_ret (v := .tuple #[.agg #[.int .i64 T.1, .slice X T.2.1.length cx], .int .i64 T.2.2]) (by simp [results, Try.results50, go_sem, r0, r1]) rfl ⟨_, rfl, ((hO.far (p := ⟨w.heap.size + 1, 0, none⟩) l1 _).far (p := ⟨w.heap.size + 1, 1, none⟩) l1 _).rebase hW.size, (hBt.setCell (by simp <;> omega) _).setCell (by simp <;> omega) _⟩
end Go.Proofs.Ytobbidlbihnodaa
