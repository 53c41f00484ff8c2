/-
  The walks of StationLoad, the program's and the reference's.
-/
import Derived.Test.YtcoomogabicfnaaGreatDoorLoad
namespace Go.Proofs.YtcoomogabicfnaaGreatDoor
open Go.RowKit
set_option linter.unusedVariables false
set_option linter.unusedSimpArgs false

structure Best where
  n : Int
  d : Int
  f : Bool
/-- One place more: the best ratio of the places from ev to ev. -/
def stStep (ev : Int) (s : Best) (p : Place) : Best :=
  if p.src = ev ∧ p.dst = ev ∧ p.tokens ≠ 0 then
    (if s.f = true ∧ ¬ s.n * lowD p.delay.toNat p.tokens.toNat < lowN p.delay.toNat p.tokens.toNat * s.d then s else ⟨lowN p.delay.toNat p.tokens.toNat, lowD p.delay.toNat p.tokens.toNat, true⟩)
  else s
def stF (gp : List Place) (ev : Int) (k : Nat) : Best := (gp.take k).foldl (stStep ev) ⟨0, 0, false⟩
theorem stF_succ (gp : List Place) (ev : Int) (k : Nat) (h : k < gp.length) : stF gp ev (k + 1) = stStep ev (stF gp ev k) gp[k] := by
  unfold stF
  rw [take_succ_get _ _ h, List.foldl_append]
  rfl
theorem low_le (a b m : Nat) (ha : a ≤ m) (hb : b ≤ m) : (0 ≤ lowN a b ∧ lowN a b ≤ m) ∧ (0 ≤ lowD a b ∧ lowD a b ≤ m) := by
  unfold lowN lowD
  have h1 := Nat.div_le_self a (Nat.gcd a b)
  have h2 := Nat.div_le_self b (Nat.gcd a b)
  generalize a / Nat.gcd a b = x at *
  generalize b / Nat.gcd a b = y at *
  omega
theorem stF_le {ge : Int} {gp : List Place} (hg : okGraph ge gp = true) (ev : Int) : ∀ k, k ≤ gp.length → (0 ≤ (stF gp ev k).n ∧ (stF gp ev k).n ≤ 2000000000) ∧ (0 ≤ (stF gp ev k).d ∧ (stF gp ev k).d ≤ 2000000000) := by
  intro k
  induction k with
  | zero => intro _; simp [stF]
  | succ k ih =>
    intro h
    have hp := okGraph_place hg (List.getElem_mem (show k < gp.length by omega))
    have := low_le gp[k].delay.toNat gp[k].tokens.toNat 2000000000 (by omega) (by omega)
    rw [stF_succ _ _ _ (by omega)]
    unfold stStep
    split
    · split
      · exact ih (by omega)
      · exact ⟨by simpa using this.1, by simpa using this.2⟩
    · exact ih (by omega)
/-- What StationLoad gives. -/
def loadF (ge : Int) (gp : List Place) (ev : Int) : Int × Int × Int :=
  if evCode ge gp ev ≠ 0 then (0, 0, evCode ge gp ev) else if (stF gp ev gp.length).f = true then ((stF gp ev gp.length).n, (stF gp ev gp.length).d, 0) else (0, 0, 4)
theorem retR_of2 {F : Int × Int × Int} {a b c : Int} {r : Ending} {w w' : World} (hE : F = (a, b, c)) (hr : r = .returned (.tuple #[.agg #[.int .i64 a, .int .i64 b], .int .i64 c])) (hB : Below w.heap.size w w') :
    r = .returned (.tuple #[.agg #[.int .i64 F.1, .int .i64 F.2.1], .int .i64 F.2.2]) ∧ Below w.heap.size w w' := by
  subst hE
  exact ⟨hr, hB⟩
set_option maxHeartbeats 4000000 in
set_option maxRecDepth 100000 in
theorem impl_StationLoad (v : Value) (ge : Int) (gp : List Place) (ev : Int) (w : World) (h0 : Lst Place.cells 4 w w.heap.size v gp) :
    Calls Tryz.prog 9 #[.agg #[.int .i64 ge, v], .int .i64 ev] w fun e w' => e = .returned (.tuple #[.agg #[.int .i64 (loadF ge gp ev).1, .int .i64 (loadF ge gp ev).2.1], .int .i64 (loadF ge gp ev).2.2]) ∧ Below w.heap.size w w' := by
  obtain ⟨A, c, rfl⟩ := h0.shape
  go_enter Tryz.func9, Tryz.ntmps9
  go_wp2_with fail
  have hW : Below w.heap.size w ((w.alloc (.cells #[.int .i64 ge, .slice A gp.length c] 26)).alloc (.cells #[.int .i64 0, .int .i64 0] 35)) := (((Below.refl _ _).alloc (Nat.le_refl _) _).alloc (by first | (simp; done) | (simp; omega)) _); have hb0 : Blk ((w.alloc (.cells #[.int .i64 ge, .slice A gp.length c] 26)).alloc (.cells #[.int .i64 0, .int .i64 0] 35)) (w.heap.size) 26 #[.int .i64 ge, .slice A gp.length c] := ((Blk.newAt w _ (by first | rfl | (simp; done) | (simp; omega))).alloc _); have hb1 : Blk ((w.alloc (.cells #[.int .i64 ge, .slice A gp.length c] 26)).alloc (.cells #[.int .i64 0, .int .i64 0] 35)) (w.heap.size + 1) 35 #[.int .i64 0, .int .i64 0] := (Blk.newAt (w.alloc (.cells #[.int .i64 ge, .slice A gp.length c] 26)) _ (by first | rfl | (simp; done) | (simp; omega))); replace h0 := h0.now hW; have hsW : w.heap.size + 2 = ((w.alloc (.cells #[.int .i64 ge, .slice A gp.length c] 26)).alloc (.cells #[.int .i64 0, .int .i64 0] 35)).heap.size := (by first | rfl | (simp; done) | (simp; omega)); generalize ((w.alloc (.cells #[.int .i64 ge, .slice A gp.length c] 26)).alloc (.cells #[.int .i64 0, .int .i64 0] 35)) = W at *; replace hsW := Lib.hid hsW
  refine (impl_checkEvent _ _ _ _ _ h0).mono ?_
  rintro e w1 ⟨rfl, hB⟩
  replace hW := hW.trans (hB.mono hW.size); replace h0 := h0.now hB; replace hb0 := hb0.now hB; replace hb1 := hb1.now hB
  clear hB
  obtain ⟨k0, k1⟩ := hb0.c2
  obtain ⟨r0, r1⟩ := hb1.c2
  obtain ⟨z0, z1⟩ := hb1.f2
  have l0 := hb0.lt
  have l1 := hb1.lt
  by_cases hz : evCode ge gp ev = 0
  · have hz1 : (evCode ge gp ev != 0) = false := by simp [hz]
    obtain ⟨hg0, hv0, hv1⟩ := evCode_zero hz
    have hg := Lib.hid hg0
    have hz' := Lib.hid hz
    have hgl := okGraph_len hg0
    have hLe := Lib.hid (stF_le hg0 ev)
    clear hz hg0 r0 r1 z0 z1
    go_wp2
    clear k0 k1
    go_loopw [8, 10, 11, 22] (fun f _ _ i wr => ∃ k : Nat, k ≤ gp.length ∧ i = .int .i64 k ∧ f = .bool (stF gp ev k).f ∧ Blk wr w1.heap.size 35 #[.int .i64 (stF gp ev k).n, .int .i64 (stF gp ev k).d] ∧ Below w1.heap.size w1 wr) (fun _ _ _ i _ => gp.length - (intOf i).toNat)
    case atStart => exact ⟨0, Nat.zero_le _, rfl, rfl, Blk.newAt _ _ rfl, (Below.refl _ _).alloc (Nat.le_refl _) _⟩
    case round =>
      obtain ⟨k, hk, rfl, rfl, hbs, hB⟩ := hrel
      have hs := hB.size
      have ls := hbs.lt
      obtain ⟨s0, s1⟩ := hbs.c2
      obtain ⟨y0, y1⟩ := hbs.f2
      obtain ⟨k0, k1⟩ := (hb0.now hB).c2
      have m0 := (hb0.now hB).lt
      obtain ⟨n1, n2⟩ := hLe.out k hk
      by_cases hlt : k < gp.length
      · obtain ⟨b, off, hb1', hbb, d0, d1, d2, d3⟩ := places_at (h0.now hB) k hlt
        cases hb1'
        have hS := Lib.hid (stF_succ gp ev k hlt)
        have hp := okGraph_place hg.out (List.getElem_mem hlt)
        generalize hT : stF gp ev k = T at *
        have hT' := Lib.hid hT
        clear hT
        cases hc0 : (gp[k].src != ev)
        · cases hc1 : (gp[k].dst != ev)
          · cases hc2 : (gp[k].tokens == 0)
            · have hcond : Hid (gp[k].src = ev ∧ gp[k].dst = ev ∧ gp[k].tokens ≠ 0) := ⟨by simpa using hc0, by simpa using hc1, by simpa using hc2⟩
              have hlw := low_le gp[k].delay.toNat gp[k].tokens.toNat 2000000000 (by omega) (by omega)
              have hS1 := Lib.hid (show stStep ev T gp[k] = (if T.f = true ∧ ¬ T.n * lowD gp[k].delay.toNat gp[k].tokens.toNat < lowN gp[k].delay.toNat gp[k].tokens.toNat * T.d then T else ⟨lowN gp[k].delay.toNat gp[k].tokens.toNat, lowD gp[k].delay.toNat gp[k].tokens.toNat, true⟩) from if_pos hcond.out)
              obtain ⟨a, ha⟩ := Int.eq_ofNat_of_zero_le hp.2.2.1.1
              obtain ⟨b5, hb5⟩ := Int.eq_ofNat_of_zero_le hp.2.2.2.1
              have hpos : 0 < b5 := by
                rcases Nat.eq_zero_or_pos b5 with h | h
                · subst h; simp [hb5] at hc2
                · exact h
              have ha1 : a ≤ 2000000000 := by omega
              have hb6 : b5 ≤ 2000000000 := by omega
              rw [ha, hb5] at hS1 hlw
              simp only [Int.toNat_natCast] at hS1 hlw
              rw [ha] at d2
              rw [hb5] at d3 hc2
              have ha' := Lib.hid ha
              have hb5' := Lib.hid hb5
              clear ha hb5
              go_wp2_with fail
              refine (impl_ratioOf a b5 _ ha1 hb6 hpos).mono ?_
              rintro e w2 ⟨rfl, hB2⟩
              have hbs2 := (hbs.alloc _).now hB2
              have hBt : Below w1.heap.size w1 w2 := (hB.alloc hs _).trans (hB2.mono (by simp; omega))
              obtain ⟨x0, x1⟩ := hbs2.c2
              obtain ⟨v0, v1⟩ := hbs2.f2
              have x2 := hbs2.lt
              have hq0 : w1.heap.size ≠ w2.heap.size := by omega
              have hq1 : w2.heap.size ≠ w1.heap.size := by omega
              clear hB2 s0 s1 y0 y1 d0 d1 d2 d3
              cases hf : T.f
              · have hS' : Hid (stF gp ev (k + 1) = ⟨lowN a b5, lowD a b5, true⟩) := by show _ = _; rw [hS.out, hS1.out, hf]; rfl
                clear hf
                go_wp2
                go_roundw
                case rel => exact ⟨k + 1, hlt, by go_num, by rw [hS'.out], by rw [hS'.out]; exact hbs2.set2a.set2b.alloc _, ((hBt.setCell (Nat.le_refl _) _).setCell (Nat.le_refl _) _).alloc (by simpa using hBt.size) _⟩
                case measure => simp [intOf]; omega
              · by_cases hgt : T.n * lowD a b5 < lowN a b5 * T.d
                · have hS' : Hid (stF gp ev (k + 1) = ⟨lowN a b5, lowD a b5, true⟩) := by show _ = _; rw [hS.out, hS1.out, if_neg (fun h => absurd hgt (by have := h.2; omega))]
                  have hgt' : decide (0 < cmpI (lowN a b5 * T.d) (T.n * lowD a b5)) = true := by rw [cmpI_pos]; exact decide_eq_true hgt
                  clear hgt hf
                  go_wp2_with fail
                  refine (impl_compareRatios _ _ _ _ _ hlw.1 hlw.2 n1 n2).mono ?_
                  rintro e w3 ⟨rfl, hB3⟩
                  have hbo : Blk (w2.alloc (.cells #[.int .i64 (lowN a b5), .int .i64 (lowD a b5)] 35)) w2.heap.size 35 #[.int .i64 (lowN a b5), .int .i64 (lowD a b5)] := Blk.new _ _ _
                  have hbs3 := (hbs2.alloc (.cells #[.int .i64 (lowN a b5), .int .i64 (lowD a b5)] 35)).now hB3
                  replace hbo := hbo.now hB3
                  obtain ⟨o0, o1⟩ := hbo.c2
                  obtain ⟨x0, x1⟩ := hbs3.c2
                  obtain ⟨v0, v1⟩ := hbs3.f2
                  have hBu : Below w1.heap.size w1 w3 := (hBt.alloc hBt.size _).trans (hB3.mono (by have := hBt.size; simp; omega))
                  clear hB3
                  go_wp2
                  go_roundw
                  case rel => exact ⟨k + 1, hlt, by go_num, by rw [hS'.out], by rw [hS'.out]; exact hbs3.set2a.set2b, (hBu.setCell (Nat.le_refl _) _).setCell (Nat.le_refl _) _⟩
                  case measure => simp [intOf]; omega
                · have hS' : Hid (stF gp ev (k + 1) = T) := by show _ = _; rw [hS.out, hS1.out, if_pos ⟨hf, by omega⟩]
                  have hgt' : decide (0 < cmpI (lowN a b5 * T.d) (T.n * lowD a b5)) = false := by rw [cmpI_pos]; exact decide_eq_false hgt
                  have hf' := Lib.hid hf
                  clear hgt
                  go_wp2_with fail
                  refine (impl_compareRatios _ _ _ _ _ hlw.1 hlw.2 n1 n2).mono ?_
                  rintro e w3 ⟨rfl, hB3⟩
                  have hbs3 := (hbs2.alloc (.cells #[.int .i64 (lowN a b5), .int .i64 (lowD a b5)] 35)).now hB3
                  have hBu : Below w1.heap.size w1 w3 := (hBt.alloc hBt.size _).trans (hB3.mono (by have := hBt.size; simp; omega))
                  clear hB3 hf
                  go_wp2
                  go_roundw
                  case rel => exact ⟨k + 1, hlt, by go_num, by rw [hS'.out, hf'.out], by rw [hS'.out]; exact hbs3, hBu⟩
                  case measure => simp [intOf]; omega
            · have hS' : Hid (stF gp ev (k + 1) = T) := by show _ = _; rw [hS.out]; exact if_neg (fun h => h.2.2 (by simpa using hc2))
              go_wp2
              go_roundw
              case rel => exact ⟨k + 1, hlt, by go_num, by rw [hS'.out], by rw [hS'.out]; exact hbs.alloc _, hB.alloc hs _⟩
              case measure => simp [intOf]; omega
          · have hS' : Hid (stF gp ev (k + 1) = T) := by show _ = _; rw [hS.out]; exact if_neg (fun h => absurd h.2.1 (by simpa using hc1))
            go_wp2
            go_roundw
            case rel => exact ⟨k + 1, hlt, by go_num, by rw [hS'.out], by rw [hS'.out]; exact hbs.alloc _, hB.alloc hs _⟩
            case measure => simp [intOf]; omega
        · have hS' : Hid (stF gp ev (k + 1) = T) := by show _ = _; rw [hS.out]; exact if_neg (fun h => absurd h.1 (by simpa using hc0))
          go_wp2
          go_roundw
          case rel => exact ⟨k + 1, hlt, by go_num, by rw [hS'.out], by rw [hS'.out]; exact hbs.alloc _, hB.alloc hs _⟩
          case measure => simp [intOf]; omega
      · obtain rfl : k = gp.length := by omega
        obtain ⟨r0, r1⟩ := (hb1.now hB).c2
        obtain ⟨z0, z1⟩ := (hb1.now hB).f2
        have hBt := hW.trans (hB.mono hW.size)
        generalize hT : stF gp ev gp.length = T at *
        have hT' := Lib.hid hT
        clear hT
        cases hf : T.f
        · have hE : Hid (loadF ge gp ev = (0, 0, 4)) := by show _ = _; simp only [loadF, hz'.out, hT'.out, hf]; simp
          clear hf
          go_wp2
          refine bodyPost_ret (v := .tuple #[.agg #[.int .i64 0, .int .i64 0], .int .i64 4]) (by simp [results, Tryz.results9, go_sem, r0, r1]) rfl (retR_of2 hE.out rfl ?_)
          first | exact hBt | exact ((hBt.setCell (by simp <;> omega) _).setCell (by simp <;> omega) _)
        · have hE : Hid (loadF ge gp ev = (T.n, T.d, 0)) := by show _ = _; simp only [loadF, hz'.out, hT'.out, hf]; simp
          clear hf
          go_wp2
          refine bodyPost_ret (v := .tuple #[.agg #[.int .i64 T.n, .int .i64 T.d], .int .i64 0]) (by simp [results, Tryz.results9, go_sem, r0, r1]) rfl (retR_of2 hE.out rfl ?_)
          first | exact hBt | exact ((hBt.setCell (by simp <;> omega) _).setCell (by simp <;> omega) _)
  · have hz1 : (evCode ge gp ev != 0) = true := by simpa using hz
    have hE : Hid (loadF ge gp ev = (0, 0, evCode ge gp ev)) := if_pos hz
    clear hz
    go_wp2
    refine bodyPost_ret (v := .tuple #[.agg #[.int .i64 0, .int .i64 0], .int .i64 (evCode ge gp ev)]) (by simp [results, Tryz.results9, go_sem, r0, r1]) rfl (retR_of2 hE.out rfl ?_)
    first | exact hW | exact ((hW.setCell (by simp <;> omega) _).setCell (by simp <;> omega) _)
set_option maxHeartbeats 4000000 in
set_option maxRecDepth 100000 in
theorem spec_StationLoad (v : Value) (ge : Int) (gp : List Place) (ev : Int) (w : World) (h0 : Lst Place.cells 4 w w.heap.size v gp) :
    Calls Tryz.prog 10 #[.agg #[.int .i64 ge, v], .int .i64 ev] w fun e w' => e = .returned (.tuple #[.agg #[.int .i64 (loadF ge gp ev).1, .int .i64 (loadF ge gp ev).2.1], .int .i64 (loadF ge gp ev).2.2]) ∧ Below w.heap.size w w' := by
  obtain ⟨A, c, rfl⟩ := h0.shape
  go_enter Tryz.func10, Tryz.ntmps10
  go_wp2_with fail
  have hW : Below w.heap.size w ((w.alloc (.cells #[.int .i64 ge, .slice A gp.length c] 26)).alloc (.cells #[.int .i64 0, .int .i64 0] 35)) := (((Below.refl _ _).alloc (Nat.le_refl _) _).alloc (by first | (simp; done) | (simp; omega)) _); have hb0 : Blk ((w.alloc (.cells #[.int .i64 ge, .slice A gp.length c] 26)).alloc (.cells #[.int .i64 0, .int .i64 0] 35)) (w.heap.size) 26 #[.int .i64 ge, .slice A gp.length c] := ((Blk.newAt w _ (by first | rfl | (simp; done) | (simp; omega))).alloc _); have hb1 : Blk ((w.alloc (.cells #[.int .i64 ge, .slice A gp.length c] 26)).alloc (.cells #[.int .i64 0, .int .i64 0] 35)) (w.heap.size + 1) 35 #[.int .i64 0, .int .i64 0] := (Blk.newAt (w.alloc (.cells #[.int .i64 ge, .slice A gp.length c] 26)) _ (by first | rfl | (simp; done) | (simp; omega))); replace h0 := h0.now hW; have hsW : w.heap.size + 2 = ((w.alloc (.cells #[.int .i64 ge, .slice A gp.length c] 26)).alloc (.cells #[.int .i64 0, .int .i64 0] 35)).heap.size := (by first | rfl | (simp; done) | (simp; omega)); generalize ((w.alloc (.cells #[.int .i64 ge, .slice A gp.length c] 26)).alloc (.cells #[.int .i64 0, .int .i64 0] 35)) = W at *; replace hsW := Lib.hid hsW
  refine (spec_l11Event _ _ _ _ _ h0).mono ?_
  rintro e w1 ⟨rfl, hB⟩
  replace hW := hW.trans (hB.mono hW.size); replace h0 := h0.now hB; replace hb0 := hb0.now hB; replace hb1 := hb1.now hB
  clear hB
  obtain ⟨k0, k1⟩ := hb0.c2
  obtain ⟨r0, r1⟩ := hb1.c2
  obtain ⟨z0, z1⟩ := hb1.f2
  have l0 := hb0.lt
  have l1 := hb1.lt
  by_cases hz : evCode ge gp ev = 0
  · have hz1 : (evCode ge gp ev != 0) = false := by simp [hz]
    obtain ⟨hg0, hv0, hv1⟩ := evCode_zero hz
    have hg := Lib.hid hg0
    have hz' := Lib.hid hz
    have hgl := okGraph_len hg0
    have hLe := Lib.hid (stF_le hg0 ev)
    clear hz hg0 r0 r1 z0 z1
    go_wp2
    clear k0 k1
    go_loopw [8, 9, 10, 11] (fun f i _ _ wr => ∃ k : Nat, k ≤ gp.length ∧ i = .int .i64 k ∧ f = .bool (stF gp ev k).f ∧ Blk wr w1.heap.size 35 #[.int .i64 (stF gp ev k).n, .int .i64 (stF gp ev k).d] ∧ Below w1.heap.size w1 wr) (fun _ i _ _ _ => gp.length - (intOf i).toNat)
    case atStart => exact ⟨0, Nat.zero_le _, rfl, rfl, Blk.newAt _ _ rfl, (Below.refl _ _).alloc (Nat.le_refl _) _⟩
    case round =>
      obtain ⟨k, hk, rfl, rfl, hbs, hB⟩ := hrel
      have hs := hB.size
      have ls := hbs.lt
      obtain ⟨s0, s1⟩ := hbs.c2
      obtain ⟨y0, y1⟩ := hbs.f2
      obtain ⟨k0, k1⟩ := (hb0.now hB).c2
      have m0 := (hb0.now hB).lt
      obtain ⟨n1, n2⟩ := hLe.out k hk
      by_cases hlt : k < gp.length
      · obtain ⟨b, off, hb1', hbb, d0, d1, d2, d3⟩ := places_at (h0.now hB) k hlt
        cases hb1'
        have hS := Lib.hid (stF_succ gp ev k hlt)
        have hp := okGraph_place hg.out (List.getElem_mem hlt)
        generalize hT : stF gp ev k = T at *
        have hT' := Lib.hid hT
        clear hT
        cases hc0 : (gp[k].src != ev)
        · cases hc1 : (gp[k].dst != ev)
          · cases hc2 : (gp[k].tokens == 0)
            · have hcond : Hid (gp[k].src = ev ∧ gp[k].dst = ev ∧ gp[k].tokens ≠ 0) := ⟨by simpa using hc0, by simpa using hc1, by simpa using hc2⟩
              have hlw := low_le gp[k].delay.toNat gp[k].tokens.toNat 2000000000 (by omega) (by omega)
              have hS1 := Lib.hid (show stStep ev T gp[k] = (if T.f = true ∧ ¬ T.n * lowD gp[k].delay.toNat gp[k].tokens.toNat < lowN gp[k].delay.toNat gp[k].tokens.toNat * T.d then T else ⟨lowN gp[k].delay.toNat gp[k].tokens.toNat, lowD gp[k].delay.toNat gp[k].tokens.toNat, true⟩) from if_pos hcond.out)
              obtain ⟨a, ha⟩ := Int.eq_ofNat_of_zero_le hp.2.2.1.1
              obtain ⟨b5, hb5⟩ := Int.eq_ofNat_of_zero_le hp.2.2.2.1
              have hpos : 0 < b5 := by
                rcases Nat.eq_zero_or_pos b5 with h | h
                · subst h; simp [hb5] at hc2
                · exact h
              have ha1 : a ≤ 2000000000 := by omega
              have hb6 : b5 ≤ 2000000000 := by omega
              rw [ha, hb5] at hS1 hlw
              simp only [Int.toNat_natCast] at hS1 hlw
              rw [ha] at d2
              rw [hb5] at d3 hc2
              have ha' := Lib.hid ha
              have hb5' := Lib.hid hb5
              clear ha hb5
              go_wp2_with fail
              refine (spec_l01Ratio a b5 _ ha1 hb6 hpos).mono ?_
              rintro e w2 ⟨rfl, hB2⟩
              have hbs2 := (hbs.alloc _).now hB2
              have hBt : Below w1.heap.size w1 w2 := (hB.alloc hs _).trans (hB2.mono (by simp; omega))
              obtain ⟨x0, x1⟩ := hbs2.c2
              obtain ⟨v0, v1⟩ := hbs2.f2
              have x2 := hbs2.lt
              have hq0 : w1.heap.size ≠ w2.heap.size := by omega
              have hq1 : w2.heap.size ≠ w1.heap.size := by omega
              clear hB2 s0 s1 y0 y1 d0 d1 d2 d3
              cases hf : T.f
              · have hS' : Hid (stF gp ev (k + 1) = ⟨lowN a b5, lowD a b5, true⟩) := by show _ = _; rw [hS.out, hS1.out, hf]; rfl
                clear hf
                go_wp2
                go_roundw
                case rel => exact ⟨k + 1, hlt, by go_num, by rw [hS'.out], by rw [hS'.out]; exact hbs2.set2a.set2b.alloc _, ((hBt.setCell (Nat.le_refl _) _).setCell (Nat.le_refl _) _).alloc (by simpa using hBt.size) _⟩
                case measure => simp [intOf]; omega
              · by_cases hgt : T.n * lowD a b5 < lowN a b5 * T.d
                · have hS' : Hid (stF gp ev (k + 1) = ⟨lowN a b5, lowD a b5, true⟩) := by show _ = _; rw [hS.out, hS1.out, if_neg (fun h => absurd hgt (by have := h.2; omega))]
                  have hgt' : decide (0 < cmpI (lowN a b5 * T.d) (T.n * lowD a b5)) = true := by rw [cmpI_pos]; exact decide_eq_true hgt
                  clear hgt hf
                  go_wp2_with fail
                  refine (spec_l01Compare _ _ _ _ _ hlw.1 hlw.2 n1 n2).mono ?_
                  rintro e w3 ⟨rfl, hB3⟩
                  have hbo : Blk (w2.alloc (.cells #[.int .i64 (lowN a b5), .int .i64 (lowD a b5)] 35)) w2.heap.size 35 #[.int .i64 (lowN a b5), .int .i64 (lowD a b5)] := Blk.new _ _ _
                  have hbs3 := (hbs2.alloc (.cells #[.int .i64 (lowN a b5), .int .i64 (lowD a b5)] 35)).now hB3
                  replace hbo := hbo.now hB3
                  obtain ⟨o0, o1⟩ := hbo.c2
                  obtain ⟨x0, x1⟩ := hbs3.c2
                  obtain ⟨v0, v1⟩ := hbs3.f2
                  have hBu : Below w1.heap.size w1 w3 := (hBt.alloc hBt.size _).trans (hB3.mono (by have := hBt.size; simp; omega))
                  clear hB3
                  go_wp2
                  go_roundw
                  case rel => exact ⟨k + 1, hlt, by go_num, by rw [hS'.out], by rw [hS'.out]; exact hbs3.set2a.set2b, (hBu.setCell (Nat.le_refl _) _).setCell (Nat.le_refl _) _⟩
                  case measure => simp [intOf]; omega
                · have hS' : Hid (stF gp ev (k + 1) = T) := by show _ = _; rw [hS.out, hS1.out, if_pos ⟨hf, by omega⟩]
                  have hgt' : decide (0 < cmpI (lowN a b5 * T.d) (T.n * lowD a b5)) = false := by rw [cmpI_pos]; exact decide_eq_false hgt
                  have hf' := Lib.hid hf
                  clear hgt
                  go_wp2_with fail
                  refine (spec_l01Compare _ _ _ _ _ hlw.1 hlw.2 n1 n2).mono ?_
                  rintro e w3 ⟨rfl, hB3⟩
                  have hbs3 := (hbs2.alloc (.cells #[.int .i64 (lowN a b5), .int .i64 (lowD a b5)] 35)).now hB3
                  have hBu : Below w1.heap.size w1 w3 := (hBt.alloc hBt.size _).trans (hB3.mono (by have := hBt.size; simp; omega))
                  clear hB3 hf
                  go_wp2
                  go_roundw
                  case rel => exact ⟨k + 1, hlt, by go_num, by rw [hS'.out, hf'.out], by rw [hS'.out]; exact hbs3, hBu⟩
                  case measure => simp [intOf]; omega
            · have hS' : Hid (stF gp ev (k + 1) = T) := by show _ = _; rw [hS.out]; exact if_neg (fun h => h.2.2 (by simpa using hc2))
              go_wp2
              go_roundw
              case rel => exact ⟨k + 1, hlt, by go_num, by rw [hS'.out], by rw [hS'.out]; exact hbs.alloc _, hB.alloc hs _⟩
              case measure => simp [intOf]; omega
          · have hS' : Hid (stF gp ev (k + 1) = T) := by show _ = _; rw [hS.out]; exact if_neg (fun h => absurd h.2.1 (by simpa using hc1))
            go_wp2
            go_roundw
            case rel => exact ⟨k + 1, hlt, by go_num, by rw [hS'.out], by rw [hS'.out]; exact hbs.alloc _, hB.alloc hs _⟩
            case measure => simp [intOf]; omega
        · have hS' : Hid (stF gp ev (k + 1) = T) := by show _ = _; rw [hS.out]; exact if_neg (fun h => absurd h.1 (by simpa using hc0))
          go_wp2
          go_roundw
          case rel => exact ⟨k + 1, hlt, by go_num, by rw [hS'.out], by rw [hS'.out]; exact hbs.alloc _, hB.alloc hs _⟩
          case measure => simp [intOf]; omega
      · obtain rfl : k = gp.length := by omega
        obtain ⟨r0, r1⟩ := (hb1.now hB).c2
        obtain ⟨z0, z1⟩ := (hb1.now hB).f2
        have hBt := hW.trans (hB.mono hW.size)
        generalize hT : stF gp ev gp.length = T at *
        have hT' := Lib.hid hT
        clear hT
        cases hf : T.f
        · have hE : Hid (loadF ge gp ev = (0, 0, 4)) := by show _ = _; simp only [loadF, hz'.out, hT'.out, hf]; simp
          clear hf
          go_wp2
          refine bodyPost_ret (v := .tuple #[.agg #[.int .i64 0, .int .i64 0], .int .i64 4]) (by simp [results, Tryz.results10, go_sem, r0, r1]) rfl (retR_of2 hE.out rfl ?_)
          first | exact hBt | exact ((hBt.setCell (by simp <;> omega) _).setCell (by simp <;> omega) _)
        · have hE : Hid (loadF ge gp ev = (T.n, T.d, 0)) := by show _ = _; simp only [loadF, hz'.out, hT'.out, hf]; simp
          clear hf
          go_wp2
          refine bodyPost_ret (v := .tuple #[.agg #[.int .i64 T.n, .int .i64 T.d], .int .i64 0]) (by simp [results, Tryz.results10, go_sem, r0, r1]) rfl (retR_of2 hE.out rfl ?_)
          first | exact hBt | exact ((hBt.setCell (by simp <;> omega) _).setCell (by simp <;> omega) _)
  · have hz1 : (evCode ge gp ev != 0) = true := by simpa using hz
    have hE : Hid (loadF ge gp ev = (0, 0, evCode ge gp ev)) := if_pos hz
    clear hz
    go_wp2
    refine bodyPost_ret (v := .tuple #[.agg #[.int .i64 0, .int .i64 0], .int .i64 (evCode ge gp ev)]) (by simp [results, Tryz.results10, go_sem, r0, r1]) rfl (retR_of2 hE.out rfl ?_)
    first | exact hW | exact ((hW.setCell (by simp <;> omega) _).setCell (by simp <;> omega) _)
end Go.Proofs.YtcoomogabicfnaaGreatDoor
