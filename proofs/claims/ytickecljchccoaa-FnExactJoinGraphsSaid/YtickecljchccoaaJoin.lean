/-
  The walks of JoinGraphs, the program's and the reference's.
-/
import Derived.Test.YtickecljchccoaaMore
namespace Go.Proofs.Ytickecljchccoaa
open Go.RowKit
set_option linter.unusedVariables false
set_option linter.unusedSimpArgs false

def Place.shift (e : Int) (p : Place) : Place := ⟨p.src + e, p.dst + e, p.delay, p.tokens⟩
/-- What JoinGraphs gives. -/
def joinF (ge : Int) (gp : List Place) (he : Int) (hp : List Place) : Int × List Place × Int :=
  if okGraph ge gp = false then (0, [], 1) else if okGraph he hp = false then (0, [], 1) else checkedF (ge + he) (gp ++ hp.map (Place.shift ge))
theorem joinF_len (ge : Int) (gp : List Place) (he : Int) (hp : List Place) : (joinF ge gp he hp).2.1.length ≤ gp.length + hp.length := by
  unfold joinF
  split
  · simp
  · split
    · simp
    · exact Nat.le_trans (checkedF_len _ _) (by simp)

set_option maxHeartbeats 400000 in
set_option maxRecDepth 100000 in
theorem impl_JoinGraphs (v : Value) (ge : Int) (gp : List Place) (u : Value) (he : Int) (hp : List Place) (w : World) (h0 : Lst Place.cells 4 w w.heap.size v gp) (h1 : Lst Place.cells 4 w w.heap.size u hp) :
    Calls Try.prog 30 #[.agg #[.int .i64 ge, v], .agg #[.int .i64 he, u]] w (RetGI 98 w (joinF ge gp he hp).1 (joinF ge gp he hp).2.1 (joinF ge gp he hp).2.2) := by
  obtain ⟨A, c, rfl⟩ := h0.shape
  obtain ⟨C, d, rfl⟩ := h1.shape
  go_enter Try.func30, Try.ntmps30
  go_wp2_with fail
  have hW : Below w.heap.size w (((w.alloc (.cells #[.int .i64 ge, .slice A gp.length c] 31)).alloc (.cells #[.int .i64 he, .slice C hp.length d] 31)).alloc (.cells #[.int .i64 0, .slice none 0 0] 31)) := ((((Below.refl _ _).alloc (Nat.le_refl _) _).alloc (by first | (simp; done) | (simp; omega)) _).alloc (by first | (simp; done) | (simp; omega)) _); have hb0 : Blk (((w.alloc (.cells #[.int .i64 ge, .slice A gp.length c] 31)).alloc (.cells #[.int .i64 he, .slice C hp.length d] 31)).alloc (.cells #[.int .i64 0, .slice none 0 0] 31)) (w.heap.size) 31 #[.int .i64 ge, .slice A gp.length c] := (((Blk.newAt w _ (by first | rfl | (simp; done) | (simp; omega))).alloc _).alloc _); have hb1 : Blk (((w.alloc (.cells #[.int .i64 ge, .slice A gp.length c] 31)).alloc (.cells #[.int .i64 he, .slice C hp.length d] 31)).alloc (.cells #[.int .i64 0, .slice none 0 0] 31)) (w.heap.size + 1) 31 #[.int .i64 he, .slice C hp.length d] := ((Blk.newAt (w.alloc (.cells #[.int .i64 ge, .slice A gp.length c] 31)) _ (by first | rfl | (simp; done) | (simp; omega))).alloc _); have hb2 : Blk (((w.alloc (.cells #[.int .i64 ge, .slice A gp.length c] 31)).alloc (.cells #[.int .i64 he, .slice C hp.length d] 31)).alloc (.cells #[.int .i64 0, .slice none 0 0] 31)) (w.heap.size + 1 + 1) 31 #[.int .i64 0, .slice none 0 0] := (Blk.newAt ((w.alloc (.cells #[.int .i64 ge, .slice A gp.length c] 31)).alloc (.cells #[.int .i64 he, .slice C hp.length d] 31)) _ (by first | rfl | (simp; done) | (simp; omega))); replace h0 := h0.now hW; replace h1 := h1.now hW; have hsW : w.heap.size + 3 = (((w.alloc (.cells #[.int .i64 ge, .slice A gp.length c] 31)).alloc (.cells #[.int .i64 he, .slice C hp.length d] 31)).alloc (.cells #[.int .i64 0, .slice none 0 0] 31)).heap.size := (by first | rfl | (simp; done) | (simp; omega)); generalize (((w.alloc (.cells #[.int .i64 ge, .slice A gp.length c] 31)).alloc (.cells #[.int .i64 he, .slice C hp.length d] 31)).alloc (.cells #[.int .i64 0, .slice none 0 0] 31)) = W at *; replace hsW := Lib.hid hsW
  refine (impl_IsEventGraph _ _ _ _ h0).mono ?_
  rintro e w1 ⟨rfl, hB⟩
  replace hW := hW.trans (hB.mono hW.size); replace h0 := h0.now hB; replace h1 := h1.now hB; replace hb0 := hb0.now hB; replace hb1 := hb1.now hB; replace hb2 := hb2.now hB
  clear hB
  obtain ⟨k0, k1⟩ := hb1.c2
  cases hg : okGraph ge gp
  · have hE : Hid (joinF ge gp he hp = (0, [], 1)) := by show _ = _; simp [joinF, hg]
    obtain ⟨r0, r1⟩ := hb2.c2
    obtain ⟨z0, z1⟩ := hb2.f2
    clear hg
    go_wp2
    refine bodyPost_ret (v := .tuple #[.agg #[.int .i64 0, .slice none 0 0], .int .i64 1]) (by simp [results, Try.results30, go_sem, r0, r1]) rfl (RetGI.of hE.out ⟨_, rfl, Own.nil, ?_⟩)
    first | exact hW | exact ((hW.setCell (by simp <;> omega) _).setCell (by simp <;> omega) _)
  · obtain ⟨hge1, hge2⟩ := okGraph_ev hg
    have hgl := okGraph_len hg
    have hg' := Lib.hid hg
    clear hg
    go_wp2_with fail
    refine (impl_IsEventGraph _ _ _ _ h1).mono ?_
    rintro e w2 ⟨rfl, hB⟩
    replace hW := hW.trans (hB.mono hW.size); replace h0 := h0.now hB; replace h1 := h1.now hB; replace hb0 := hb0.now hB; replace hb1 := hb1.now hB; replace hb2 := hb2.now hB
    clear hB k0 k1
    obtain ⟨k0, k1⟩ := hb0.c2
    cases hh : okGraph he hp
    · have hE : Hid (joinF ge gp he hp = (0, [], 1)) := by show _ = _; simp [joinF, hg'.out, hh]
      obtain ⟨r0, r1⟩ := hb2.c2
      obtain ⟨z0, z1⟩ := hb2.f2
      clear hh
      go_wp2
      refine bodyPost_ret (v := .tuple #[.agg #[.int .i64 0, .slice none 0 0], .int .i64 1]) (by simp [results, Try.results30, go_sem, r0, r1]) rfl (RetGI.of hE.out ⟨_, rfl, Own.nil, ?_⟩)
      first | exact hW | exact ((hW.setCell (by simp <;> omega) _).setCell (by simp <;> omega) _)
    · obtain ⟨hhe1, hhe2⟩ := okGraph_ev hh
      have hhl := okGraph_len hh
      have hE : Hid (joinF ge gp he hp = checkedF (ge + he) (gp ++ hp.map (Place.shift ge))) := by show _ = _; simp [joinF, hg'.out, hh]
      have hhp := Lib.hid (fun x hx => okGraph_place (p := x) hh hx)
      clear hh
      go_wp2_with fail
      refine (impl_cloneGraph _ _ _ _ h0 (by omega)).mono ?_
      rintro e w3 ⟨x, rfl, hO, hB⟩
      obtain ⟨X, cx, rfl⟩ := hO.shape
      clear k0 k1
      obtain ⟨k0, k1⟩ := (hb0.now hB).c2
      obtain ⟨q0, q1⟩ := (hb1.now hB).c2
      have hs := hB.size
      have l0 := hb0.lt
      have l1 := hb1.lt
      have l2 := hb2.lt
      have n1 := (hb0.now hB).lt
      have n2 := (hb1.now hB).lt
      go_wp2
      clear n1 n2
      go_loopw [8, 29] (fun _ i wr => ∃ k : Nat, k ≤ hp.length ∧ i = .int .i64 k ∧ (∃ y, Blk wr w3.heap.size 31 #[.int .i64 (ge + he), y] ∧ Own Place.cells 4 98 wr w2.heap.size y (gp ++ (hp.take k).map (Place.shift ge))) ∧ Below w2.heap.size w2 wr) (fun _ i _ => hp.length - (intOf i).toNat)
      case atStart => exact ⟨0, Nat.zero_le _, rfl, ⟨_, Blk.newAt _ _ rfl, by simpa using hO.alloc _⟩, hB.alloc hs _⟩
      case round =>
        clear hO hB k0 k1 q0 q1
        obtain ⟨k, hk, rfl, ⟨y, hbo, hO⟩, hB⟩ := hrel
        obtain ⟨Y, cy, rfl⟩ := hO.shape
        rw [show (gp ++ (hp.take k).map (Place.shift ge)).length = gp.length + k by simp; omega] at hO hbo
        have hs3 := hB.size
        have m0 := (hb0.now hB).lt
        have m1 := (hb1.now hB).lt
        have lo := hbo.lt
        obtain ⟨q0, q1⟩ := (hb1.now hB).c2
        by_cases hlt : k < hp.length
        · obtain ⟨k0, k1⟩ := (hb0.now hB).c2
          obtain ⟨b, off, hb1', hbb, d0, d1, d2, d3⟩ := places_at (h1.now hB) k hlt
          cases hb1'
          have hpp := hhp.out hp[k] (List.getElem_mem hlt)
          obtain ⟨o0, o1⟩ := hbo.c2
          have hlen : (gp ++ (hp.take k).map (Place.shift ge)).length + [Place.shift ge hp[k]].length ≤ 1099511627776 := by simp; omega
          have hT : Hid ((gp ++ (hp.take k).map (Place.shift ge)) ++ [Place.shift ge hp[k]] = gp ++ (hp.take (k + 1)).map (Place.shift ge)) := by show _ = _; rw [take_succ_get _ _ hlt]; simp only [List.map_append, List.map_cons, List.map_nil, List.append_assoc]
          have hLL2 : ((gp ++ (hp.take k).map (Place.shift ge)) ++ [Place.shift ge hp[k]]).length = gp.length + k + 1 := by simp; omega
          go_wp2_with (at_builtin; refine wpList_append_lst rfl _ _ 29 rfl Place.cells 4 Place.cells_one (by omega) w2.heap.size 98 _ 32 Try.underlying29 info_place rfl _ _ rfl ((hO.alloc _).alloc _) _ _ _ _ [Place.shift ge hp[k]] rfl (lst_new1 _ _ Place.cells_len _ _ _ _ rfl _ (by simp)) hlen (by omega) (Nat.le_trans hB.size (by simp <;> omega)) ?_; intro v' w1 hO1 hG1 hD1; obtain ⟨V1, cv1, rfl⟩ := hO1.shape; rw [hLL2] at hO1; have hbo' := ((hbo.alloc _).alloc _).grown hG1 (Ne.symm (hO.ne_blk hbo (by decide))); obtain ⟨o0', o1'⟩ := hbo'.c2; obtain ⟨z0', z1'⟩ := hbo'.f2)
          go_roundw
          case rel => exact ⟨k + 1, hlt, by go_num, ⟨_, hbo'.set2b, by rw [← hT.out]; exact own_far hO1 (p := ⟨w3.heap.size, 1, none⟩) (hO1.ne_blk hbo' (by decide)) _⟩, (below_app ((hB.alloc hs3 _).alloc (Nat.le_trans hs3 (by simp)) _) (Nat.le_trans hs3 (by simp; omega)) hG1 ((hO.alloc _).alloc _) (Nat.le_refl _)).setCell hs _⟩
          case measure => simp [intOf]; omega
        · obtain rfl : k = hp.length := by omega
          rw [List.take_length] at hO
          obtain ⟨o0, o1⟩ := hbo.c2
          go_wp2_with fail
          refine (impl_checkedGraph _ _ _ w2.heap.size _ hO).mono ?_
          rintro e w4 ⟨z, rfl, hO5, hB5⟩
          obtain ⟨Z, cz, rfl⟩ := hO5.shape
          generalize checkedF (ge + he) (gp ++ hp.map (Place.shift ge)) = T at *
          have hb2' := (hb2.now hB).now hB5
          obtain ⟨r0, r1⟩ := hb2'.c2
          obtain ⟨z0, z1⟩ := hb2'.f2
          have hBt := hW.trans ((hB.trans (hB5.mono hs3)).mono hW.size)
          go_wp2
          refine bodyPost_ret (v := .tuple #[.agg #[.int .i64 T.1, .slice Z T.2.1.length cz], .int .i64 T.2.2]) (by simp [results, Try.results30, go_sem, r0, r1]) rfl (by rw [hE.out]; exact ⟨_, rfl, ((hO5.far (p := ⟨w.heap.size + 1 + 1, 0, none⟩) l2 _).far (p := ⟨w.heap.size + 1 + 1, 1, none⟩) l2 _).rebase hW.size, (hBt.setCell (by simp <;> omega) _).setCell (by simp <;> omega) _⟩)
set_option maxHeartbeats 400000 in
set_option maxRecDepth 100000 in
theorem spec_JoinGraphs (v : Value) (ge : Int) (gp : List Place) (u : Value) (he : Int) (hp : List Place) (w : World) (h0 : Lst Place.cells 4 w w.heap.size v gp) (h1 : Lst Place.cells 4 w w.heap.size u hp) :
    Calls Try.prog 29 #[.agg #[.int .i64 ge, v], .agg #[.int .i64 he, u]] w (RetGI 98 w (joinF ge gp he hp).1 (joinF ge gp he hp).2.1 (joinF ge gp he hp).2.2) := by
  obtain ⟨A, c, rfl⟩ := h0.shape
  obtain ⟨C, d, rfl⟩ := h1.shape
  go_enter Try.func29, Try.ntmps29
  go_wp2_with fail
  have hW : Below w.heap.size w (((w.alloc (.cells #[.int .i64 ge, .slice A gp.length c] 31)).alloc (.cells #[.int .i64 he, .slice C hp.length d] 31)).alloc (.cells #[.int .i64 0, .slice none 0 0] 31)) := ((((Below.refl _ _).alloc (Nat.le_refl _) _).alloc (by first | (simp; done) | (simp; omega)) _).alloc (by first | (simp; done) | (simp; omega)) _); have hb0 : Blk (((w.alloc (.cells #[.int .i64 ge, .slice A gp.length c] 31)).alloc (.cells #[.int .i64 he, .slice C hp.length d] 31)).alloc (.cells #[.int .i64 0, .slice none 0 0] 31)) (w.heap.size) 31 #[.int .i64 ge, .slice A gp.length c] := (((Blk.newAt w _ (by first | rfl | (simp; done) | (simp; omega))).alloc _).alloc _); have hb1 : Blk (((w.alloc (.cells #[.int .i64 ge, .slice A gp.length c] 31)).alloc (.cells #[.int .i64 he, .slice C hp.length d] 31)).alloc (.cells #[.int .i64 0, .slice none 0 0] 31)) (w.heap.size + 1) 31 #[.int .i64 he, .slice C hp.length d] := ((Blk.newAt (w.alloc (.cells #[.int .i64 ge, .slice A gp.length c] 31)) _ (by first | rfl | (simp; done) | (simp; omega))).alloc _); have hb2 : Blk (((w.alloc (.cells #[.int .i64 ge, .slice A gp.length c] 31)).alloc (.cells #[.int .i64 he, .slice C hp.length d] 31)).alloc (.cells #[.int .i64 0, .slice none 0 0] 31)) (w.heap.size + 1 + 1) 31 #[.int .i64 0, .slice none 0 0] := (Blk.newAt ((w.alloc (.cells #[.int .i64 ge, .slice A gp.length c] 31)).alloc (.cells #[.int .i64 he, .slice C hp.length d] 31)) _ (by first | rfl | (simp; done) | (simp; omega))); replace h0 := h0.now hW; replace h1 := h1.now hW; have hsW : w.heap.size + 3 = (((w.alloc (.cells #[.int .i64 ge, .slice A gp.length c] 31)).alloc (.cells #[.int .i64 he, .slice C hp.length d] 31)).alloc (.cells #[.int .i64 0, .slice none 0 0] 31)).heap.size := (by first | rfl | (simp; done) | (simp; omega)); generalize (((w.alloc (.cells #[.int .i64 ge, .slice A gp.length c] 31)).alloc (.cells #[.int .i64 he, .slice C hp.length d] 31)).alloc (.cells #[.int .i64 0, .slice none 0 0] 31)) = W at *; replace hsW := Lib.hid hsW
  refine (spec_IsEventGraph _ _ _ _ h0).mono ?_
  rintro e w1 ⟨rfl, hB⟩
  replace hW := hW.trans (hB.mono hW.size); replace h0 := h0.now hB; replace h1 := h1.now hB; replace hb0 := hb0.now hB; replace hb1 := hb1.now hB; replace hb2 := hb2.now hB
  clear hB
  obtain ⟨k0, k1⟩ := hb1.c2
  cases hg : okGraph ge gp
  · have hE : Hid (joinF ge gp he hp = (0, [], 1)) := by show _ = _; simp [joinF, hg]
    obtain ⟨r0, r1⟩ := hb2.c2
    obtain ⟨z0, z1⟩ := hb2.f2
    clear hg
    go_wp2
    refine bodyPost_ret (v := .tuple #[.agg #[.int .i64 0, .slice none 0 0], .int .i64 1]) (by simp [results, Try.results29, go_sem, r0, r1]) rfl (RetGI.of hE.out ⟨_, rfl, Own.nil, ?_⟩)
    first | exact hW | exact ((hW.setCell (by simp <;> omega) _).setCell (by simp <;> omega) _)
  · obtain ⟨hge1, hge2⟩ := okGraph_ev hg
    have hgl := okGraph_len hg
    have hg' := Lib.hid hg
    clear hg
    go_wp2_with fail
    refine (spec_IsEventGraph _ _ _ _ h1).mono ?_
    rintro e w2 ⟨rfl, hB⟩
    replace hW := hW.trans (hB.mono hW.size); replace h0 := h0.now hB; replace h1 := h1.now hB; replace hb0 := hb0.now hB; replace hb1 := hb1.now hB; replace hb2 := hb2.now hB
    clear hB k0 k1
    obtain ⟨k0, k1⟩ := hb0.c2
    cases hh : okGraph he hp
    · have hE : Hid (joinF ge gp he hp = (0, [], 1)) := by show _ = _; simp [joinF, hg'.out, hh]
      obtain ⟨r0, r1⟩ := hb2.c2
      obtain ⟨z0, z1⟩ := hb2.f2
      clear hh
      go_wp2
      refine bodyPost_ret (v := .tuple #[.agg #[.int .i64 0, .slice none 0 0], .int .i64 1]) (by simp [results, Try.results29, go_sem, r0, r1]) rfl (RetGI.of hE.out ⟨_, rfl, Own.nil, ?_⟩)
      first | exact hW | exact ((hW.setCell (by simp <;> omega) _).setCell (by simp <;> omega) _)
    · obtain ⟨hhe1, hhe2⟩ := okGraph_ev hh
      have hhl := okGraph_len hh
      have hE : Hid (joinF ge gp he hp = checkedF (ge + he) (gp ++ hp.map (Place.shift ge))) := by show _ = _; simp [joinF, hg'.out, hh]
      have hhp := Lib.hid (fun x hx => okGraph_place (p := x) hh hx)
      clear hh
      go_wp2_with fail
      refine (spec_l11Own _ _ _ _ h0 (by omega)).mono ?_
      rintro e w3 ⟨x, rfl, hO, hB⟩
      obtain ⟨X, cx, rfl⟩ := hO.shape
      clear k0 k1
      obtain ⟨k0, k1⟩ := (hb0.now hB).c2
      obtain ⟨q0, q1⟩ := (hb1.now hB).c2
      have hs := hB.size
      have l0 := hb0.lt
      have l1 := hb1.lt
      have l2 := hb2.lt
      have n1 := (hb0.now hB).lt
      have n2 := (hb1.now hB).lt
      go_wp2
      clear n1 n2
      go_loopw [7, 8] (fun i _ wr => ∃ k : Nat, k ≤ hp.length ∧ i = .int .i64 k ∧ (∃ y, Blk wr w3.heap.size 31 #[.int .i64 (ge + he), y] ∧ Own Place.cells 4 98 wr w2.heap.size y (gp ++ (hp.take k).map (Place.shift ge))) ∧ Below w2.heap.size w2 wr) (fun i _ _ => hp.length - (intOf i).toNat)
      case atStart => exact ⟨0, Nat.zero_le _, rfl, ⟨_, Blk.newAt _ _ rfl, by simpa using hO.alloc _⟩, hB.alloc hs _⟩
      case round =>
        clear hO hB k0 k1 q0 q1
        obtain ⟨k, hk, rfl, ⟨y, hbo, hO⟩, hB⟩ := hrel
        obtain ⟨Y, cy, rfl⟩ := hO.shape
        rw [show (gp ++ (hp.take k).map (Place.shift ge)).length = gp.length + k by simp; omega] at hO hbo
        have hs3 := hB.size
        have m0 := (hb0.now hB).lt
        have m1 := (hb1.now hB).lt
        have lo := hbo.lt
        obtain ⟨q0, q1⟩ := (hb1.now hB).c2
        by_cases hlt : k < hp.length
        · obtain ⟨k0, k1⟩ := (hb0.now hB).c2
          obtain ⟨b, off, hb1', hbb, d0, d1, d2, d3⟩ := places_at (h1.now hB) k hlt
          cases hb1'
          have hpp := hhp.out hp[k] (List.getElem_mem hlt)
          obtain ⟨o0, o1⟩ := hbo.c2
          have hlen : (gp ++ (hp.take k).map (Place.shift ge)).length + [Place.shift ge hp[k]].length ≤ 1099511627776 := by simp; omega
          have hT : Hid ((gp ++ (hp.take k).map (Place.shift ge)) ++ [Place.shift ge hp[k]] = gp ++ (hp.take (k + 1)).map (Place.shift ge)) := by show _ = _; rw [take_succ_get _ _ hlt]; simp only [List.map_append, List.map_cons, List.map_nil, List.append_assoc]
          have hLL2 : ((gp ++ (hp.take k).map (Place.shift ge)) ++ [Place.shift ge hp[k]]).length = gp.length + k + 1 := by simp; omega
          go_wp2_with (at_builtin; refine wpList_append_lst rfl _ _ 29 rfl Place.cells 4 Place.cells_one (by omega) w2.heap.size 98 _ 32 Try.underlying29 info_place rfl _ _ rfl ((hO.alloc _).alloc _) _ _ _ _ [Place.shift ge hp[k]] rfl (lst_new1 _ _ Place.cells_len _ _ _ _ rfl _ (by simp)) hlen (by omega) (Nat.le_trans hB.size (by simp <;> omega)) ?_; intro v' w1 hO1 hG1 hD1; obtain ⟨V1, cv1, rfl⟩ := hO1.shape; rw [hLL2] at hO1; have hbo' := ((hbo.alloc _).alloc _).grown hG1 (Ne.symm (hO.ne_blk hbo (by decide))); obtain ⟨o0', o1'⟩ := hbo'.c2; obtain ⟨z0', z1'⟩ := hbo'.f2)
          go_roundw
          case rel => exact ⟨k + 1, hlt, by go_num, ⟨_, hbo'.set2b, by rw [← hT.out]; exact own_far hO1 (p := ⟨w3.heap.size, 1, none⟩) (hO1.ne_blk hbo' (by decide)) _⟩, (below_app ((hB.alloc hs3 _).alloc (Nat.le_trans hs3 (by simp)) _) (Nat.le_trans hs3 (by simp; omega)) hG1 ((hO.alloc _).alloc _) (Nat.le_refl _)).setCell hs _⟩
          case measure => simp [intOf]; omega
        · obtain rfl : k = hp.length := by omega
          rw [List.take_length] at hO
          obtain ⟨o0, o1⟩ := hbo.c2
          go_wp2_with fail
          refine (spec_l19Result _ _ _ w2.heap.size _ hO).mono ?_
          rintro e w4 ⟨z, rfl, hO5, hB5⟩
          obtain ⟨Z, cz, rfl⟩ := hO5.shape
          generalize checkedF (ge + he) (gp ++ hp.map (Place.shift ge)) = T at *
          have hb2' := (hb2.now hB).now hB5
          obtain ⟨r0, r1⟩ := hb2'.c2
          obtain ⟨z0, z1⟩ := hb2'.f2
          have hBt := hW.trans ((hB.trans (hB5.mono hs3)).mono hW.size)
          go_wp2
          refine bodyPost_ret (v := .tuple #[.agg #[.int .i64 T.1, .slice Z T.2.1.length cz], .int .i64 T.2.2]) (by simp [results, Try.results29, go_sem, r0, r1]) rfl (by rw [hE.out]; exact ⟨_, rfl, ((hO5.far (p := ⟨w.heap.size + 1 + 1, 0, none⟩) l2 _).far (p := ⟨w.heap.size + 1 + 1, 1, none⟩) l2 _).rebase hW.size, (hBt.setCell (by simp <;> omega) _).setCell (by simp <;> omega) _⟩)
end Go.Proofs.Ytickecljchccoaa
