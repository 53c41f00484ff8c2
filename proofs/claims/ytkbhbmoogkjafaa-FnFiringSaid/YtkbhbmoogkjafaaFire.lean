/-
  The walks of FireEvent, the program's and the reference's, and of what they call.
-/
import Derived.Test.YtkbhbmoogkjafaaEnabled
import Derived.Test.YtkbhbmoogkjafaaCopy
namespace Go.Proofs.Ytkbhbmoogkjafaa
open Go.RowKit
set_option linter.unusedVariables false
set_option linter.unusedSimpArgs false

/-- What one place holds after the event e has fired. -/
def fire1 (p : Place) (x e : Int) : Int := (if p.dst = e then x - 1 else x) + if p.src = e then 1 else 0
def fireM (gp : List Place) (m : List Int) (e : Int) : List Int := List.zipWith (fun p x => fire1 p x e) gp m
theorem fireM_len (gp : List Place) (m : List Int) (e : Int) (h : m.length = gp.length) : (fireM gp m e).length = m.length := by simp [fireM, h]
theorem fireM_get (gp : List Place) (m : List Int) (e : Int) (k : Nat) (h1 : k < gp.length) (h2 : k < m.length) (h : k < (fireM gp m e).length) : (fireM gp m e)[k] = fire1 gp[k] m[k] e := by simp [fireM]
/-- What 'fired' gives: the marking after the event, and the code. -/
def firedF (n : Nat) (gp : List Place) (m : List Int) (e : Int) : List Int × Int :=
  if (inB e 0 ((n : Int) - 1) && enB gp m e) = false then ([], 5) else if okMarking gp (fireM gp m e) = false then ([], 3) else (fireM gp m e, 0)
theorem firedF_len (n : Nat) (gp : List Place) (m : List Int) (e : Int) (h : m.length = gp.length) : (firedF n gp m e).1.length ≤ m.length := by
  unfold firedF
  split
  · simp
  · split
    · simp
    · simp [fireM]; omega
theorem hasI_enL (gp : List Place) (m : List Int) (n : Nat) (e : Int) : hasI (enL gp m n) e = (inB e 0 ((n : Int) - 1) && enB gp m e) := by
  rw [Bool.eq_iff_iff, hasI_iff, enL_mem, Bool.and_eq_true, inB_iff]
  constructor
  · rintro ⟨⟨a, b⟩, c⟩; exact ⟨⟨a, by omega⟩, c⟩
  · rintro ⟨⟨a, b⟩, c⟩; exact ⟨⟨a, by omega⟩, c⟩
/-- What FireEvent gives. -/
def fireF (ge : Int) (gp : List Place) (m : List Int) (e : Int) : List Int × Int :=
  if okGraph ge gp = false then ([], 1) else if okMarking gp m = false then ([], 2) else if inB e 0 (ge - 1) = false then ([], 2) else firedF ge.toNat gp m e
theorem fireF_len (ge : Int) (gp : List Place) (m : List Int) (e : Int) (hn : m.length ≤ 1048576) : (fireF ge gp m e).1.length ≤ 1048576 := by
  unfold fireF
  split
  · simp
  · split
    · simp
    · split
      · simp
      · rename_i h _
        have := firedF_len ge.toNat gp m e (okMarking_len (by simpa using h))
        omega
theorem fire_cases (p : Place) (x e : Int) (hx : 0 ≤ x ∧ x ≤ 100) : -1 ≤ fire1 p x e ∧ fire1 p x e ≤ 101 := by
  unfold fire1
  split <;> split <;> omega

set_option maxHeartbeats 2000000 in
set_option maxRecDepth 100000 in
theorem impl_fired (v : Value) (n : Nat) (gp : List Place) (u : Value) (m : List Int) (ev : Int) (w : World) (h0 : Lst Place.cells 4 w w.heap.size v gp) (h1 : Lst intCell 1 w w.heap.size u m) (hm : Hid (okMarking gp m = true)) (hn : n ≤ 10) (hgl : gp.length ≤ 30) :
    Calls Try.prog 131 #[.agg #[.int .i64 n, v], u, .int .i64 ev] w (RetOwnI intCell 1 2 w (firedF n gp m ev).1 (firedF n gp m ev).2) := by
  obtain ⟨A, c, rfl⟩ := h0.shape
  obtain ⟨C, d, rfl⟩ := h1.shape
  have hl := Lib.hid (okMarking_len hm.out)
  have hlen1 : m.length ≤ gp.length := by have := hl.out; omega
  have hlen2 : gp.length ≤ m.length := by have := hl.out; omega
  have hH := Lib.hid (hasI_enL gp m n ev)
  go_enter Try.func131, Try.ntmps131
  go_wp2_with fail
  have hW : Below w.heap.size w (w.alloc (.cells #[.int .i64 n, .slice A gp.length c] 26)) := (Below.refl _ _).alloc (Nat.le_refl _) _; have hb0 : Blk (w.alloc (.cells #[.int .i64 n, .slice A gp.length c] 26)) w.heap.size 26 #[.int .i64 n, .slice A gp.length c] := Blk.new _ _ _; replace h0 := h0.now hW; replace h1 := h1.now hW; generalize (w.alloc (.cells #[.int .i64 n, .slice A gp.length c] 26)) = W at *
  refine (impl_enabledIn _ n _ _ _ _ h0 h1 hl.out (by omega)).mono ?_
  rintro e w1 ⟨x, rfl, hO, hB⟩
  replace hW := hW.trans (hB.mono hW.size); replace h0 := h0.now hB; replace h1 := h1.now hB; replace hb0 := hb0.now hB
  obtain ⟨X, cx, rfl⟩ := hO.shape
  clear hB
  go_wp2_with fail
  refine (slices_Contains_i64 _ _ _ _ hO.lst).mono ?_
  rintro e w2 ⟨rfl, rfl⟩
  rw [hH.out]
  clear hO
  cases hin : (inB ev 0 ((n : Int) - 1) && enB gp m ev)
  · have hE : Hid (firedF n gp m ev = ([], 5)) := by show _ = _; simp only [firedF, hin, if_true]
    clear hin
    go_wp2
    go_ret2
    exact RetOwnI.of hE.out ⟨_, rfl, Own.nil, hW⟩
  · have hz := Lib.hid (fireM_len gp m ev hl.out)
    have hE : Hid (firedF n gp m ev = if okMarking gp (fireM gp m ev) = false then ([], 3) else (fireM gp m ev, 0)) := by show _ = _; simp only [firedF, hin, Bool.true_eq_false, if_false]
    clear hin
    go_wp2_with fail
    refine (slices_Clone_i64 _ _ _ h1 (by omega)).mono ?_
    rintro e w2 ⟨y, rfl, hO, hB⟩
    obtain ⟨Y, cy, rfl⟩ := hO.shape
    obtain ⟨k0, k1⟩ := (hb0.now hB).c2
    go_wp2
    clear k0 k1
    go_loopw [9, 10, 22] (fun _ _ i wr => ∃ k : Nat, k ≤ gp.length ∧ i = .int .i64 k ∧ Own intCell 1 2 wr w1.heap.size (.slice Y m.length cy) (mix (fireM gp m ev) m k) ∧ Below w1.heap.size w1 wr) (fun _ _ i _ => gp.length - (intOf i).toNat)
    case atStart => exact ⟨0, Nat.zero_le _, rfl, by rw [mix_zero]; exact hO, hB⟩
    case round =>
      clear hO hB
      obtain ⟨k, hk, rfl, hO, hB⟩ := hrel
      have hs := hB.size
      by_cases hlt : k < gp.length
      · have hlt3 : k < m.length := by omega
        obtain ⟨k0, k1⟩ := (hb0.now hB).c2
        obtain ⟨b, off, hb1, hb, d0, d1, d2, d3⟩ := places_at (h0.now hB) k hlt
        cases hb1
        have hlen : k < (mix (fireM gp m ev) m k).length := by rw [mix_len hz.out]; exact hlt3
        obtain ⟨g, c', hA, hgb, hgl, hfz, _⟩ := hO.at_ intCell_len k hlen
        obtain rfl : Y = some ⟨g, 0, none⟩ := by injection hA
        clear hA
        obtain ⟨_, _, _, e0⟩ := own_ints_at hO k hlen
        rw [mix_get hz.out k hlt3] at e0
        have hx := okMarking_in hm.out m[k] (List.getElem_mem hlt3)
        have hw1 : wr.heap.size ≠ g := by omega
        have hw2 : g ≠ wr.heap.size := by omega
        have hS : Hid (mix (fireM gp m ev) m (k + 1) = (mix (fireM gp m ev) m k).set k (fire1 gp[k] m[k] ev)) := by
          show _ = _
          rw [← mix_set hz.out k hlt3 (by rw [hz.out]; exact hlt3), fireM_get _ _ _ _ hlt hlt3]
        have hN : Hid (fire1 gp[k] m[k] ev = m[k] → mix (fireM gp m ev) m (k + 1) = mix (fireM gp m ev) m k) := by
          intro e
          rw [hS.out, e]
          have := mix_get hz.out k hlt3 hlen
          rw [← this, List.set_getElem_self]
        have hO1 := hO.alloc (.cells #[.int .i64 gp[k].src, .int .i64 gp[k].dst, .int .i64 gp[k].delay, .int .i64 gp[k].tokens] 45)
        have hB1 := hB.alloc hs (.cells #[.int .i64 gp[k].src, .int .i64 gp[k].dst, .int .i64 gp[k].delay, .int .i64 gp[k].tokens] 45)
        cases hd : (gp[k].dst == ev)
        · cases hsr : (gp[k].src == ev)
          · have hv : Hid (fire1 gp[k] m[k] ev = m[k]) := by show _ = _; simp only [beq_eq_false_iff_ne] at hd hsr; simp [fire1, hd, hsr]
            go_wp2
            go_roundw
            case rel => exact ⟨k + 1, hlt, by go_num, by rw [hN.out hv.out]; exact hO1, hB1⟩
            case measure => simp [intOf]; omega
          · have hv : Hid (fire1 gp[k] m[k] ev = m[k] + 1) := by show _ = _; simp only [beq_eq_false_iff_ne, beq_iff_eq] at hd hsr; simp [fire1, hd, hsr]
            go_wp2
            go_roundw
            case rel => exact ⟨k + 1, hlt, by go_num, by rw [hS.out, hv.out]; exact (hO.set1 k hlen _).alloc _, (hB.setCell hgb _).alloc (by simpa using hs) _⟩
            case measure => simp [intOf]; omega
        · cases hsr : (gp[k].src == ev)
          · have hv : Hid (fire1 gp[k] m[k] ev = m[k] - 1) := by show _ = _; simp only [beq_eq_false_iff_ne, beq_iff_eq] at hd hsr; simp [fire1, hd, hsr]
            go_wp2
            go_roundw
            case rel => exact ⟨k + 1, hlt, by go_num, by rw [hS.out, hv.out]; exact (hO.set1 k hlen _).alloc _, (hB.setCell hgb _).alloc (by simpa using hs) _⟩
            case measure => simp [intOf]; omega
          · have hv : Hid (fire1 gp[k] m[k] ev = m[k]) := by show _ = _; simp only [beq_eq_false_iff_ne, beq_iff_eq] at hd hsr; simp [fire1, hd, hsr]
            go_wp2
            go_roundw
            case rel =>
              have hO2 := (hO.set1 k hlen (m[k] - 1)).set1 k (by simpa using hlen) m[k]
              rw [List.set_set] at hO2
              exact ⟨k + 1, hlt, by go_num, by rw [hS.out, hv.out]; exact hO2.alloc _, ((hB.setCell hgb _).setCell hgb _).alloc (by simpa using hs) _⟩
            case measure => simp [intOf]; omega
      · obtain rfl : k = gp.length := by omega
        have hmx : Hid (mix (fireM gp m ev) m gp.length = fireM gp m ev) := by show _ = _; rw [← hl.out]; exact mix_all hz.out
        rw [hmx.out] at hO
        obtain ⟨k0, k1⟩ := (hb0.now hB).c2
        go_wp2_with fail
        refine (impl_isMarking _ _ _ _ _ _ (h0.now hB) hO.lst).mono ?_
        rintro e w3 ⟨rfl, hB3⟩
        have hBt := hW.trans ((hB.trans (hB3.mono hs)).mono hW.size)
        cases hmk : okMarking gp (fireM gp m ev)
        · have hE' : Hid (firedF n gp m ev = ([], 3)) := by show _ = _; rw [hE.out, hmk]; rfl
          clear hmk
          go_wp2
          go_ret2
          exact RetOwnI.of hE'.out ⟨_, rfl, Own.nil, hBt⟩
        · have hE' : Hid (firedF n gp m ev = (fireM gp m ev, 0)) := by show _ = _; rw [hE.out, hmk]; rfl
          clear hmk
          go_wp2
          go_ret2
          exact RetOwnI.of hE'.out ⟨_, rfl, (hO.now hB3).rebase hW.size, hBt⟩
set_option maxHeartbeats 2000000 in
set_option maxRecDepth 100000 in
theorem impl_FireEvent (v : Value) (ge : Int) (gp : List Place) (u : Value) (m : List Int) (ev : Int) (w : World) (h0 : Lst Place.cells 4 w w.heap.size v gp) (h1 : Lst intCell 1 w w.heap.size u m) :
    Calls Try.prog 31 #[.agg #[.int .i64 ge, v], u, .int .i64 ev] w (RetOwnI intCell 1 2 w (fireF ge gp m ev).1 (fireF ge gp m ev).2) := by
  obtain ⟨A, c, rfl⟩ := h0.shape
  obtain ⟨C, d, rfl⟩ := h1.shape
  go_enter Try.func31, Try.ntmps31
  go_wp2_with fail
  have hW : Below w.heap.size w (w.alloc (.cells #[.int .i64 ge, .slice A gp.length c] 26)) := (Below.refl _ _).alloc (Nat.le_refl _) _; have hb0 : Blk (w.alloc (.cells #[.int .i64 ge, .slice A gp.length c] 26)) w.heap.size 26 #[.int .i64 ge, .slice A gp.length c] := Blk.new _ _ _; replace h0 := h0.now hW; replace h1 := h1.now hW; generalize (w.alloc (.cells #[.int .i64 ge, .slice A gp.length c] 26)) = W at *
  refine (impl_IsEventGraph _ _ _ _ h0).mono ?_
  rintro e w1 ⟨rfl, hB⟩
  replace hW := hW.trans (hB.mono hW.size); replace h0 := h0.now hB; replace h1 := h1.now hB; replace hb0 := hb0.now hB
  obtain ⟨k0, k1⟩ := hb0.c2
  clear hB
  cases hg : okGraph ge gp
  · have hE : Hid (fireF ge gp m ev = ([], 1)) := by show _ = _; simp [fireF, hg]
    clear hg
    go_wp2
    go_ret2
    exact RetOwnI.of hE.out ⟨_, rfl, Own.nil, hW⟩
  · obtain ⟨hge1, hge2⟩ := okGraph_ev hg
    have hgl := okGraph_len hg
    obtain ⟨n, rfl⟩ := Int.eq_ofNat_of_zero_le (show 0 ≤ ge by omega)
    have hw : Hid (wrap64 ((n : Int) - 1) = (n : Int) - 1) := IntWalk.wrap64_in _ (by omega)
    have hg' := Lib.hid hg
    clear hg
    go_wp2_with fail
    refine (impl_isMarking _ _ _ _ _ _ h0 h1).mono ?_
    rintro e w2 ⟨rfl, hB⟩
    replace hW := hW.trans (hB.mono hW.size); replace h0 := h0.now hB; replace h1 := h1.now hB; replace hb0 := hb0.now hB
    obtain ⟨k0, k1⟩ := hb0.c2
    clear hB
    cases hm : okMarking gp m
    · have hE : Hid (fireF n gp m ev = ([], 2)) := by show _ = _; simp [fireF, hg'.out, hm]
      clear hm
      go_wp2
      go_ret2
      exact RetOwnI.of hE.out ⟨_, rfl, Own.nil, hW⟩
    · have hm' := Lib.hid hm
      clear hm
      go_wp2_with fail
      refine (impl_isEvent _ _ _ _).mono ?_
      rintro e w3 ⟨rfl, hB⟩
      replace hW := hW.trans (hB.mono hW.size); replace h0 := h0.now hB; replace h1 := h1.now hB; replace hb0 := hb0.now hB
      obtain ⟨k0, k1⟩ := hb0.c2
      clear hB
      rw [hw.out]
      cases hi : inB ev 0 ((n : Int) - 1)
      · have hE : Hid (fireF n gp m ev = ([], 2)) := by show _ = _; simp [fireF, hg'.out, hm'.out, hi]
        clear hi
        go_wp2
        go_ret2
        exact RetOwnI.of hE.out ⟨_, rfl, Own.nil, hW⟩
      · have hE : Hid (fireF n gp m ev = firedF n gp m ev) := by show _ = _; simp [fireF, hg'.out, hm'.out, hi]
        clear hi
        go_wp2_with fail
        refine (impl_fired _ n _ _ _ _ _ h0 h1 hm' (by omega) hgl).mono ?_
        rintro e w4 ⟨x, rfl, hO, hB⟩
        go_wp2
        go_ret2
        exact RetOwnI.of hE.out ⟨_, rfl, hO.rebase hW.size, hW.trans (hB.mono hW.size)⟩
set_option maxHeartbeats 2000000 in
set_option maxRecDepth 100000 in
theorem spec_l17Fire (v : Value) (n : Nat) (gp : List Place) (u : Value) (m : List Int) (ev : Int) (w : World) (h0 : Lst Place.cells 4 w w.heap.size v gp) (h1 : Lst intCell 1 w w.heap.size u m) (hg : Hid (okGraph n gp = true)) (hm : Hid (okMarking gp m = true)) (hgl : gp.length ≤ 30) :
    Calls Try.prog 125 #[.agg #[.int .i64 n, v], u, .int .i64 ev] w (RetOwnB intCell 1 2 w (fireM gp m ev) (okMarking gp (fireM gp m ev))) := by
  obtain ⟨A, c, rfl⟩ := h0.shape
  obtain ⟨C, d, rfl⟩ := h1.shape
  have hl := Lib.hid (okMarking_len hm.out)
  have hlen1 : m.length ≤ gp.length := by have := hl.out; omega
  have hlen2 : gp.length ≤ m.length := by have := hl.out; omega
  have hz := Lib.hid (fireM_len gp m ev hl.out)
  go_enter Try.func125, Try.ntmps125
  go_wp2_with fail
  have hW : Below w.heap.size w (w.alloc (.cells #[.int .i64 n, .slice A gp.length c] 26)) := (Below.refl _ _).alloc (Nat.le_refl _) _; have hb0 : Blk (w.alloc (.cells #[.int .i64 n, .slice A gp.length c] 26)) w.heap.size 26 #[.int .i64 n, .slice A gp.length c] := Blk.new _ _ _; replace h0 := h0.now hW; replace h1 := h1.now hW; generalize (w.alloc (.cells #[.int .i64 n, .slice A gp.length c] 26)) = W at *
  refine (spec_l01Own _ _ _ h1 (by omega)).mono ?_
  rintro e w2 ⟨y, rfl, hO, hB⟩
  obtain ⟨Y, cy, rfl⟩ := hO.shape
  go_wp2
  go_loopw [9] (fun i wr => ∃ k : Nat, k ≤ gp.length ∧ i = .int .i64 k ∧ Own intCell 1 2 wr W.heap.size (.slice Y m.length cy) (mix (fireM gp m ev) m k) ∧ Below W.heap.size W wr) (fun i _ => gp.length - (intOf i).toNat)
  case atStart => exact ⟨0, Nat.zero_le _, rfl, by rw [mix_zero]; exact hO, hB⟩
  case round =>
    clear hO hB
    obtain ⟨k, hk, rfl, hO, hB⟩ := hrel
    have hs := hB.size
    obtain ⟨k0, k1⟩ := (hb0.now hB).c2
    by_cases hlt : k < gp.length
    · have hlt3 : k < m.length := by omega
      obtain ⟨b, off, hb1, hb, d0, d1, d2, d3⟩ := places_at h0 k hlt
      cases hb1
      replace d0 := cell_keep d0 hB
      replace d1 := cell_keep d1 hB
      have hlen : k < (mix (fireM gp m ev) m k).length := by rw [mix_len hz.out]; exact hlt3
      obtain ⟨g, c', hA, hgb, hgl, hfz, _⟩ := hO.at_ intCell_len k hlen
      obtain rfl : Y = some ⟨g, 0, none⟩ := by injection hA
      clear hA
      obtain ⟨_, _, _, e0⟩ := own_ints_at hO k hlen
      rw [mix_get hz.out k hlt3] at e0
      have hx := okMarking_in hm.out m[k] (List.getElem_mem hlt3)
      have hw0 := hb0.lt
      have hw1 : w.heap.size ≠ g := by omega
      have hw2 : g ≠ w.heap.size := by omega
      have hw3 : b ≠ g := by omega
      have hw4 : g ≠ b := by omega
      have hS : Hid (mix (fireM gp m ev) m (k + 1) = (mix (fireM gp m ev) m k).set k (fire1 gp[k] m[k] ev)) := by
        show _ = _
        rw [← mix_set hz.out k hlt3 (by rw [hz.out]; exact hlt3), fireM_get _ _ _ _ hlt hlt3]
      have hN : Hid (fire1 gp[k] m[k] ev = m[k] → mix (fireM gp m ev) m (k + 1) = mix (fireM gp m ev) m k) := by
        intro e
        rw [hS.out, e]
        have := mix_get hz.out k hlt3 hlen
        rw [← this, List.set_getElem_self]
      cases hd : (gp[k].dst == ev)
      · cases hsr : (gp[k].src == ev)
        · have hv : Hid (fire1 gp[k] m[k] ev = m[k]) := by show _ = _; simp only [beq_eq_false_iff_ne] at hd hsr; simp [fire1, hd, hsr]
          go_wp2
          go_roundw
          case rel => exact ⟨k + 1, hlt, by go_num, by rw [hN.out hv.out]; exact hO, hB⟩
          case measure => simp [intOf]; omega
        · have hv : Hid (fire1 gp[k] m[k] ev = m[k] + 1) := by show _ = _; simp only [beq_eq_false_iff_ne, beq_iff_eq] at hd hsr; simp [fire1, hd, hsr]
          go_wp2
          go_roundw
          case rel => exact ⟨k + 1, hlt, by go_num, by rw [hS.out, hv.out]; exact hO.set1 k hlen _, hB.setCell hgb _⟩
          case measure => simp [intOf]; omega
      · cases hsr : (gp[k].src == ev)
        · have hv : Hid (fire1 gp[k] m[k] ev = m[k] - 1) := by show _ = _; simp only [beq_eq_false_iff_ne, beq_iff_eq] at hd hsr; simp [fire1, hd, hsr]
          go_wp2
          go_roundw
          case rel => exact ⟨k + 1, hlt, by go_num, by rw [hS.out, hv.out]; exact hO.set1 k hlen _, hB.setCell hgb _⟩
          case measure => simp [intOf]; omega
        · have hv : Hid (fire1 gp[k] m[k] ev = m[k]) := by show _ = _; simp only [beq_eq_false_iff_ne, beq_iff_eq] at hd hsr; simp [fire1, hd, hsr]
          go_wp2
          go_roundw
          case rel =>
            have hO2 := (hO.set1 k hlen (m[k] - 1)).set1 k (by simpa using hlen) m[k]
            rw [List.set_set] at hO2
            exact ⟨k + 1, hlt, by go_num, by rw [hS.out, hv.out]; exact hO2, (hB.setCell hgb _).setCell hgb _⟩
          case measure => simp [intOf]; omega
    · obtain rfl : k = gp.length := by omega
      have hmx : Hid (mix (fireM gp m ev) m gp.length = fireM gp m ev) := by show _ = _; rw [← hl.out]; exact mix_all hz.out
      rw [hmx.out] at hO
      go_wp2_with fail
      refine (spec_IsMarking _ _ _ _ _ _ (h0.now hB) hO.lst).mono ?_
      rintro e w3 ⟨rfl, hB3⟩
      rw [hg.out, Bool.true_and]
      go_wp2
      go_ret2
      exact ⟨_, rfl, (hO.now hB3).rebase hW.size, hW.trans ((hB.trans (hB3.mono hs)).mono hW.size)⟩
set_option maxHeartbeats 2000000 in
set_option maxRecDepth 100000 in
theorem spec_FireEvent (v : Value) (ge : Int) (gp : List Place) (u : Value) (m : List Int) (ev : Int) (w : World) (h0 : Lst Place.cells 4 w w.heap.size v gp) (h1 : Lst intCell 1 w w.heap.size u m) :
    Calls Try.prog 32 #[.agg #[.int .i64 ge, v], u, .int .i64 ev] w (RetOwnI intCell 1 2 w (fireF ge gp m ev).1 (fireF ge gp m ev).2) := by
  obtain ⟨A, c, rfl⟩ := h0.shape
  obtain ⟨C, d, rfl⟩ := h1.shape
  go_enter Try.func32, Try.ntmps32
  go_wp2_with fail
  have hW : Below w.heap.size w (w.alloc (.cells #[.int .i64 ge, .slice A gp.length c] 26)) := (Below.refl _ _).alloc (Nat.le_refl _) _; have hb0 : Blk (w.alloc (.cells #[.int .i64 ge, .slice A gp.length c] 26)) w.heap.size 26 #[.int .i64 ge, .slice A gp.length c] := Blk.new _ _ _; replace h0 := h0.now hW; replace h1 := h1.now hW; generalize (w.alloc (.cells #[.int .i64 ge, .slice A gp.length c] 26)) = W at *
  refine (spec_l17Code _ _ _ _ _ _ h0 h1).mono ?_
  rintro e w1 ⟨rfl, hB⟩
  replace hW := hW.trans (hB.mono hW.size); replace h0 := h0.now hB; replace h1 := h1.now hB; replace hb0 := hb0.now hB
  obtain ⟨k0, k1⟩ := hb0.c2
  clear hB
  cases hg : okGraph ge gp
  · have hE : Hid (fireF ge gp m ev = ([], 1)) := by show _ = _; simp [fireF, hg]
    clear hg
    simp only [if_true]
    go_wp2
    go_ret2
    exact RetOwnI.of hE.out ⟨_, rfl, Own.nil, hW⟩
  · obtain ⟨hge1, hge2⟩ := okGraph_ev hg
    have hgl := okGraph_len hg
    obtain ⟨n, rfl⟩ := Int.eq_ofNat_of_zero_le (show 0 ≤ ge by omega)
    have hg' := Lib.hid hg
    clear hg
    cases hm : okMarking gp m
    · have hE : Hid (fireF n gp m ev = ([], 2)) := by show _ = _; simp [fireF, hg'.out, hm]
      clear hm
      simp only [Bool.true_eq_false, if_false, if_true]
      go_wp2
      go_ret2
      exact RetOwnI.of hE.out ⟨_, rfl, Own.nil, hW⟩
    · have hm' := Lib.hid hm
      clear hm
      simp only [Bool.true_eq_false, if_false]
      cases hi : inB ev 0 ((n : Int) - 1)
      · have hE : Hid (fireF n gp m ev = ([], 2)) := by show _ = _; simp [fireF, hg'.out, hm'.out, hi]
        go_wp2_with (go_at_call 108; refine (spec_l01In _ _ _ _).mono ?_; rintro e w' ⟨rfl, rfl⟩)
        go_ret2
        exact RetOwnI.of hE.out ⟨_, rfl, Own.nil, hW⟩
      · have hE : Hid (fireF n gp m ev = firedF n gp m ev) := by show _ = _; simp [fireF, hg'.out, hm'.out, hi]
        have hi' := Lib.hid hi
        go_wp2_with (go_at_call 108; refine (spec_l01In _ _ _ _).mono ?_; rintro e w' ⟨rfl, rfl⟩)
        clear hi
        refine (spec_l17Enabled _ _ _ _ _ _ _ h0 h1 (okMarking_len hm'.out) (okMarking_pos hm'.out)).mono ?_
        rintro e w4 ⟨rfl, hB⟩
        replace hW := hW.trans (hB.mono hW.size); replace h0 := h0.now hB; replace h1 := h1.now hB; replace hb0 := hb0.now hB
        obtain ⟨k0, k1⟩ := hb0.c2
        clear hB
        cases hen : enB gp m ev
        · have hE' : Hid (fireF n gp m ev = ([], 5)) := by show _ = _; rw [hE.out]; simp [firedF, hen]
          clear hen
          go_wp2
          go_ret2
          exact RetOwnI.of hE'.out ⟨_, rfl, Own.nil, hW⟩
        · have hE' : Hid (fireF n gp m ev = if okMarking gp (fireM gp m ev) = false then ([], 3) else (fireM gp m ev, 0)) := by show _ = _; rw [hE.out]; simp only [firedF, hen, hi'.out, Bool.and_self, Bool.true_eq_false, if_false]
          clear hen
          go_wp2_with fail
          refine (spec_l17Fire _ n _ _ _ _ _ h0 h1 hg' hm' hgl).mono ?_
          rintro e w5 ⟨x, rfl, hO, hB⟩
          have hBt := hW.trans (hB.mono hW.size)
          cases hmk : okMarking gp (fireM gp m ev)
          · have hE'' : Hid (fireF n gp m ev = ([], 3)) := by show _ = _; rw [hE'.out, hmk]; rfl
            clear hmk
            go_wp2
            go_ret2
            exact RetOwnI.of hE''.out ⟨_, rfl, Own.nil, hBt⟩
          · have hE'' : Hid (fireF n gp m ev = (fireM gp m ev, 0)) := by show _ = _; rw [hE'.out, hmk]; rfl
            clear hmk
            go_wp2
            go_ret2
            exact RetOwnI.of hE''.out ⟨_, rfl, hO.rebase hW.size, hBt⟩
end Go.Proofs.Ytkbhbmoogkjafaa
