/-
  The reference's LeastRooms: its recursion over the rooms still to choose.
-/
import Derived.Test.YtbdklhahbeiffaaCmpL
import Derived.Test.YtbdklhahbeiffaaSuf
import Derived.Test.YtbdklhahbeiffaaSeqB
namespace Go.Proofs.Ytbdklhahbeiffaa
open Go.RowKit
set_option linter.unusedVariables false
set_option linter.unusedSimpArgs false
/-- Do these rooms suffice? -/
noncomputable def sufO (n : Nat) (gp : List Place) (l : List Int) (a b : Int) : List Int → Bool := fun r => sufB n (gp ++ backs gp l r l.length) a b
theorem sumI_addL : ∀ l : List Int, sumI l = addL l := by
  intro l
  induction l with
  | nil => rfl
  | cons x l ih => simp only [sumI, ih, addL, List.sum_cons]
/-- The rooms chosen are in range. -/
def PreR (gp : List Place) (l p : List Int) : Prop := ∀ k (h1 : k < l.length) (h2 : k < p.length), roomLo gp l[k] ≤ p[k] ∧ p[k] ≤ roomHi gp l[k]
/-- The list found, if one was. -/
def BestOk (gp : List Place) (l best : List Int) : Prop := best = [] ∨ roomsOk gp l best = true
theorem BestOk.small {gp : List Place} {l best : List Int} (hb : bufOk gp.length l = true) (h : BestOk gp l best) : (∀ x ∈ best, 0 ≤ x ∧ x ≤ 100) ∧ best.length ≤ 3 := by
  rcases h with rfl | h
  · simp
  · have hl := (bufOk_at hb).1
    have he := roomsOk_len h
    refine ⟨fun x hx => ?_, by omega⟩
    obtain ⟨k, hk, rfl⟩ := List.mem_iff_getElem.1 hx
    have := roomsOk_at h k (by omega) hk
    omega
theorem PreR.small {gp : List Place} {l p : List Int} (hb : bufOk gp.length l = true) (h : PreR gp l p) (hl : p.length ≤ l.length) : (∀ x ∈ p, 0 ≤ x ∧ x ≤ 100) ∧ p.length ≤ 3 := by
  have h3 := (bufOk_at hb).1
  refine ⟨fun x hx => ?_, by omega⟩
  obtain ⟨k, hk, rfl⟩ := List.mem_iff_getElem.1 hx
  have := h k (by omega) hk
  unfold roomLo roomHi at this
  omega
theorem PreR.ok {gp : List Place} {l p : List Int} (h : PreR gp l p) (hl : p.length = l.length) : roomsOk gp l p = true := lexR_ok.1 (lexR_mem.2 ⟨hl, h⟩)
theorem PreR.snoc {gp : List Place} {l p : List Int} {i : Int} {rest : List Int} (h : PreR gp l p) (hr : l.drop p.length = i :: rest) {x : Int} (h1 : roomLo gp i ≤ x) (h2 : x ≤ roomHi gp i) : PreR gp l (p ++ [x]) := by
  intro k k1 k2
  by_cases hk : k < p.length
  · rw [List.getElem_append_left hk]
    exact h k k1 hk
  · obtain rfl : k = p.length := by simp at k2; omega
    have e : l[p.length] = i := by
      have := List.drop_eq_getElem_cons k1
      rw [hr] at this
      exact (List.cons.inj this).1.symm
    rw [e]
    simp
    exact ⟨h1, h2⟩
theorem drop_snoc {l p : List Int} {i x : Int} {rest : List Int} (hr : l.drop p.length = i :: rest) : l.drop (p ++ [x]).length = rest := by
  rw [List.length_append, ← List.drop_drop, hr]
  rfl
theorem foldB_ok {suf : List Int → Bool} {gp : List Place} {l : List Int} : ∀ {L : List (List Int)} {b : List Int}, BestOk gp l b → (∀ r ∈ L, roomsOk gp l r = true) → BestOk gp l (L.foldl (stepB suf) b) := by
  intro L b hb hL
  rcases fold_mem suf L b with h | h
  · rw [h]
    exact hb
  · exact .inr (hL _ h)
theorem leastS_ok {suf : List Int → Bool} {gp : List Place} {l p rest best : List Int} (hb : BestOk gp l best) (hr : l.drop p.length = rest) (hp : PreR gp l p) (hpl : p.length ≤ l.length) : BestOk gp l (leastS suf gp p rest best) := by
  unfold leastS
  refine foldB_ok hb fun r hr2 => ?_
  obtain ⟨q, hq, rfl⟩ := List.mem_map.1 hr2
  rw [← lexR_ok, lexR_mem]
  rw [lexR_mem] at hq
  obtain ⟨hq1, hq2⟩ := hq
  subst hr
  refine ⟨by simp at hq1 ⊢; omega, fun k k1 k2 => ?_⟩
  by_cases hk : k < p.length
  · rw [List.getElem_append_left hk]
    exact hp k k1 hk
  · rw [List.getElem_append_right (by omega)]
    have := hq2 (k - p.length) (by simp; omega) (by simp at k2; omega)
    simp only [List.getElem_drop] at this
    have e : p.length + (k - p.length) = k := by omega
    simp only [e] at this
    exact this
/-- The rounds over one place's rooms. -/
def leastT (suf : List Int → Bool) (gp : List Place) (p rest : List Int) (lo : Int) (best : List Int) (t : Nat) : List Int := (List.range t).foldl (fun b (s : Nat) => leastS suf gp (p ++ [lo + s]) rest b) best
theorem leastT_step {suf : List Int → Bool} {gp : List Place} {p rest best bs : List Int} {lo : Int} {u : Nat} (h : leastT suf gp p rest lo best u = bs) : leastT suf gp p rest lo best (u + 1) = leastS suf gp (p ++ [lo + (u : Nat)]) rest bs := by
  unfold leastT at h ⊢
  rw [List.range_succ, List.foldl_append, h]
  rfl
theorem leastT_end {suf : List Int → Bool} {gp : List Place} {p rest best bs : List Int} {i : Int} (h : leastT suf gp p rest (roomLo gp i) best (roomN gp i) = bs) : leastS suf gp p (i :: rest) best = bs := by
  rw [leastS_cons]
  exact h
set_option maxHeartbeats 16000000 in
set_option maxRecDepth 100000 in
theorem spec_l16Least (v : Value) (n : Nat) (gp : List Place) (u : Value) (l : List Int) (a bb : Int) (suf : List Int → Bool) (hsuf : Hid (sufO n gp l a bb = suf)) (hok : Hid (okGraph n gp = true)) (hbuf : Hid (bufOk gp.length l = true)) (hlen30 : gp.length + l.length ≤ 30) (ha : -1000000 ≤ a ∧ a ≤ 1000000) (hbb : 1 ≤ bb ∧ bb ≤ 1000000) (base : Nat) :
    ∀ (rest p : List Int) (pv bv : Value) (best : List Int) (w : World), l.drop p.length = rest → PreR gp l p ∧ p.length ≤ l.length → BestOk gp l best → base ≤ w.heap.size →
      Lst Place.cells 4 w w.heap.size v gp → Lst intCell 1 w w.heap.size u l → Own intCell 1 2 w base pv p → Own intCell 1 2 w base bv best →
    Calls Try.prog 53 #[.agg #[.int .i64 n, v], u, pv, .agg #[.int .i64 a, .int .i64 bb], bv] w fun r w' => ∃ v', r = .returned v' ∧ Own intCell 1 2 w' base v' (leastS suf gp p rest best) ∧ Below w.heap.size w w' := by
  intro rest
  induction rest with
  | nil =>
    intro p pv bv best w hre hpre hbest hbase h0 h1 h2 h4
    obtain ⟨A, c, rfl⟩ := h0.shape
    obtain ⟨C, d, rfl⟩ := h1.shape
    obtain ⟨D, dd, rfl⟩ := h2.shape
    obtain ⟨E, ee, rfl⟩ := h4.shape
    have hll := (bufOk_at hbuf.out).1
    have hpl : p.length = l.length := by
      have := congrArg List.length hre
      simp at this
      omega
    have hroom := Lib.hid (hpre.1.ok hpl)
    obtain ⟨s1, s2⟩ := hpre.1.small hbuf.out hpre.2
    obtain ⟨s3, s4⟩ := hbest.small hbuf.out
    have s1H := Lib.hid s1
    have s3H := Lib.hid s3
    have hst := leastS_nil suf gp p best
    have q0 : ((p.length : Int) == (l.length : Int)) = true := by rw [hpl]; simp
    have q0n : p.length ≤ l.length ∧ l.length ≤ p.length := ⟨by omega, by omega⟩
    obtain ⟨q01, q02⟩ := q0n
    have hsfe : Hid (suf p = sufB n (gp ++ backs gp l p l.length) a bb) := by show _ = _; rw [← hsuf.out]; rfl
    obtain ⟨sb, hsb⟩ : ∃ sb, sufB n (gp ++ backs gp l p l.length) a bb = sb := ⟨_, rfl⟩
    rw [hsb] at hsfe
    have hsbH := Lib.hid hsb
    clear hsb s1 s3 hpl hpre hre
    by_cases hbe : best = []
    · have q1 : ((best.length : Int) == 0) = true := by rw [hbe]; rfl
      have q1n : best.length = 0 := by rw [hbe]; rfl
      have hR : Hid (leastS suf gp p [] best = if sb = true then p else best) := by
        show _ = _
        rw [hst]
        unfold stepB
        rw [hsfe.out]
        simp [hbe]
      clear hst
      subst hbe
      go_enter Try.func53, Try.ntmps53
      go_wp2_with fail
      have hW : Below w.heap.size w ((w.alloc (.cells #[.int .i64 (n : Int), .slice A gp.length c] 32)).alloc (.cells #[.int .i64 a, .int .i64 bb] 34)) := (((Below.refl _ _).alloc (Nat.le_refl _) _).alloc (by first | (simp; done) | (simp; omega)) _); have hb0 : Blk ((w.alloc (.cells #[.int .i64 (n : Int), .slice A gp.length c] 32)).alloc (.cells #[.int .i64 a, .int .i64 bb] 34)) (w.heap.size) 32 #[.int .i64 (n : Int), .slice A gp.length c] := ((Blk.newAt w _ (by first | rfl | (simp; done) | (simp; omega))).alloc _); have hb1 : Blk ((w.alloc (.cells #[.int .i64 (n : Int), .slice A gp.length c] 32)).alloc (.cells #[.int .i64 a, .int .i64 bb] 34)) (w.heap.size + 1) 34 #[.int .i64 a, .int .i64 bb] := (Blk.newAt (w.alloc (.cells #[.int .i64 (n : Int), .slice A gp.length c] 32)) _ (by first | rfl | (simp; done) | (simp; omega))); replace h0 := h0.now hW; replace h1 := h1.now hW; replace h2 := h2.now hW; replace h4 := h4.now hW; have hsW : w.heap.size + 2 = ((w.alloc (.cells #[.int .i64 (n : Int), .slice A gp.length c] 32)).alloc (.cells #[.int .i64 a, .int .i64 bb] 34)).heap.size := (by first | rfl | (simp; done) | (simp; omega)); generalize ((w.alloc (.cells #[.int .i64 (n : Int), .slice A gp.length c] 32)).alloc (.cells #[.int .i64 a, .int .i64 bb] 34)) = W at *; replace hsW := Lib.hid hsW
      obtain ⟨k0, k1⟩ := hb0.c2
      obtain ⟨r0, r1⟩ := hb1.c2
      go_wp2_with fail
      refine (spec_l16Suffice _ n gp _ l _ p a bb _ h0 h1 h2.lst hok hbuf hroom hlen30 ha hbb).mono ?_
      rintro e w2 ⟨rfl, hB⟩
      rw [hsbH.out]
      replace hW := hW.trans (hB.mono hW.size)
      have g2 := h2.now hB
      have g4 := h4.now hB
      cases sb
      · have hR' : Hid (leastS suf gp p [] [] = []) := by show _ = _; rw [hR.out]; rfl
        clear hR k0 k1 r0 r1
        go_wp2
        go_ret
        exact ⟨_, rfl, by rw [hR'.out]; exact g4, hW⟩
      · have hR' : Hid (leastS suf gp p [] [] = p) := by show _ = _; rw [hR.out]; rfl
        clear hR k0 k1 r0 r1
        go_wp2
        go_ret
        exact ⟨_, rfl, by rw [hR'.out]; exact g2, hW⟩
    · have q1 : ((best.length : Int) == 0) = false := by have := List.length_pos_iff.2 hbe; rw [beq_eq_false_iff_ne]; omega
      have q1n : ¬ best.length = 0 := by have := List.length_pos_iff.2 hbe; omega
      by_cases hlt : addL p < addL best
      · have hR : Hid (leastS suf gp p [] best = if sb = true then p else best) := by
          show _ = _
          rw [hst]
          unfold stepB
          rw [hsfe.out]
          simp [hlt]
        rw [← sumI_addL, ← sumI_addL] at hlt
        have hlt' : decide (sumI p < sumI best) = true := decide_eq_true hlt
        clear hst hbe hlt
        go_enter Try.func53, Try.ntmps53
        go_wp2_with fail
        have hW : Below w.heap.size w ((w.alloc (.cells #[.int .i64 (n : Int), .slice A gp.length c] 32)).alloc (.cells #[.int .i64 a, .int .i64 bb] 34)) := (((Below.refl _ _).alloc (Nat.le_refl _) _).alloc (by first | (simp; done) | (simp; omega)) _); have hb0 : Blk ((w.alloc (.cells #[.int .i64 (n : Int), .slice A gp.length c] 32)).alloc (.cells #[.int .i64 a, .int .i64 bb] 34)) (w.heap.size) 32 #[.int .i64 (n : Int), .slice A gp.length c] := ((Blk.newAt w _ (by first | rfl | (simp; done) | (simp; omega))).alloc _); have hb1 : Blk ((w.alloc (.cells #[.int .i64 (n : Int), .slice A gp.length c] 32)).alloc (.cells #[.int .i64 a, .int .i64 bb] 34)) (w.heap.size + 1) 34 #[.int .i64 a, .int .i64 bb] := (Blk.newAt (w.alloc (.cells #[.int .i64 (n : Int), .slice A gp.length c] 32)) _ (by first | rfl | (simp; done) | (simp; omega))); replace h0 := h0.now hW; replace h1 := h1.now hW; replace h2 := h2.now hW; replace h4 := h4.now hW; have hsW : w.heap.size + 2 = ((w.alloc (.cells #[.int .i64 (n : Int), .slice A gp.length c] 32)).alloc (.cells #[.int .i64 a, .int .i64 bb] 34)).heap.size := (by first | rfl | (simp; done) | (simp; omega)); generalize ((w.alloc (.cells #[.int .i64 (n : Int), .slice A gp.length c] 32)).alloc (.cells #[.int .i64 a, .int .i64 bb] 34)) = W at *; replace hsW := Lib.hid hsW
        refine (spec_l16Sum _ p _ h2.lst s1H (by omega)).mono ?_
        rintro e w1 ⟨rfl, rfl⟩
        go_wp2_with fail
        refine (spec_l16Sum _ best _ h4.lst s3H (by omega)).mono ?_
        rintro e w1 ⟨rfl, rfl⟩
        obtain ⟨k0, k1⟩ := hb0.c2
        obtain ⟨r0, r1⟩ := hb1.c2
        go_wp2_with fail
        refine (spec_l16Suffice _ n gp _ l _ p a bb _ h0 h1 h2.lst hok hbuf hroom hlen30 ha hbb).mono ?_
        rintro e w2 ⟨rfl, hB⟩
        rw [hsbH.out]
        replace hW := hW.trans (hB.mono hW.size)
        have g2 := h2.now hB
        have g4 := h4.now hB
        cases sb
        · have hR' : Hid (leastS suf gp p [] best = best) := by show _ = _; rw [hR.out]; rfl
          clear hR k0 k1 r0 r1
          go_wp2
          go_ret
          exact ⟨_, rfl, by rw [hR'.out]; exact g4, hW⟩
        · have hR' : Hid (leastS suf gp p [] best = p) := by show _ = _; rw [hR.out]; rfl
          clear hR k0 k1 r0 r1
          go_wp2
          go_ret
          exact ⟨_, rfl, by rw [hR'.out]; exact g2, hW⟩
      · have hR : Hid (leastS suf gp p [] best = best) := by
          show _ = _
          rw [hst]
          unfold stepB
          rw [if_neg]
          rintro ⟨h9 | h9, _⟩
          · exact hbe h9
          · exact hlt h9
        rw [← sumI_addL, ← sumI_addL] at hlt
        have hlt' : decide (sumI p < sumI best) = false := decide_eq_false hlt
        clear hst hbe hlt
        go_enter Try.func53, Try.ntmps53
        go_wp2_with fail
        have hW : Below w.heap.size w ((w.alloc (.cells #[.int .i64 (n : Int), .slice A gp.length c] 32)).alloc (.cells #[.int .i64 a, .int .i64 bb] 34)) := (((Below.refl _ _).alloc (Nat.le_refl _) _).alloc (by first | (simp; done) | (simp; omega)) _); have hb0 : Blk ((w.alloc (.cells #[.int .i64 (n : Int), .slice A gp.length c] 32)).alloc (.cells #[.int .i64 a, .int .i64 bb] 34)) (w.heap.size) 32 #[.int .i64 (n : Int), .slice A gp.length c] := ((Blk.newAt w _ (by first | rfl | (simp; done) | (simp; omega))).alloc _); have hb1 : Blk ((w.alloc (.cells #[.int .i64 (n : Int), .slice A gp.length c] 32)).alloc (.cells #[.int .i64 a, .int .i64 bb] 34)) (w.heap.size + 1) 34 #[.int .i64 a, .int .i64 bb] := (Blk.newAt (w.alloc (.cells #[.int .i64 (n : Int), .slice A gp.length c] 32)) _ (by first | rfl | (simp; done) | (simp; omega))); replace h0 := h0.now hW; replace h1 := h1.now hW; replace h2 := h2.now hW; replace h4 := h4.now hW; have hsW : w.heap.size + 2 = ((w.alloc (.cells #[.int .i64 (n : Int), .slice A gp.length c] 32)).alloc (.cells #[.int .i64 a, .int .i64 bb] 34)).heap.size := (by first | rfl | (simp; done) | (simp; omega)); generalize ((w.alloc (.cells #[.int .i64 (n : Int), .slice A gp.length c] 32)).alloc (.cells #[.int .i64 a, .int .i64 bb] 34)) = W at *; replace hsW := Lib.hid hsW
        refine (spec_l16Sum _ p _ h2.lst s1H (by omega)).mono ?_
        rintro e w1 ⟨rfl, rfl⟩
        go_wp2_with fail
        refine (spec_l16Sum _ best _ h4.lst s3H (by omega)).mono ?_
        rintro e w1 ⟨rfl, rfl⟩
        go_wp2
        go_ret
        exact ⟨_, rfl, by rw [hR.out]; exact h4, hW⟩
  | cons i rest ih =>
    intro p pv bv best w hre hpre hbest hbase h0 h1 h2 h4
    obtain ⟨A, c, rfl⟩ := h0.shape
    obtain ⟨C, d, rfl⟩ := h1.shape
    obtain ⟨D, dd, rfl⟩ := h2.shape
    obtain ⟨E, ee, rfl⟩ := h4.shape
    have hih := Lib.hid ih
    clear ih
    have hll := (bufOk_at hbuf.out).1
    have hpl : p.length < l.length := by
      have := congrArg List.length hre
      simp at this
      omega
    obtain ⟨q, hq1, hql⟩ := (bufOk_at hbuf.out).2 p.length hpl
    have hi : i = (q : Int) := by
      have := List.drop_eq_getElem_cons hpl
      rw [hre] at this
      rw [(List.cons.inj this).1, hq1]
    have hpp := okGraph_place hok.out (List.getElem_mem hql)
    have hlo : Hid (roomLo gp i = max 1 gp[q].tokens) := by show _ = _; unfold roomLo; rw [hi, plAt_nat _ _ hql]
    have hhi : Hid (roomHi gp i = min 8 (gp[q].tokens + 5)) := by show _ = _; unfold roomHi; rw [hi, plAt_nat _ _ hql]
    have ht := hpp.2.2.2
    obtain ⟨N, hN⟩ : ∃ N, roomN gp i = N := ⟨_, rfl⟩
    have hlob : 1 ≤ roomLo gp i ∧ roomHi gp i ≤ 8 ∧ roomLo gp i ≤ roomHi gp i ∧ roomHi gp i + 1 = roomLo gp i + (N : Int) := by
      rw [← hN]
      unfold roomN
      rw [hlo.out, hhi.out]
      omega
    have hreH := Lib.hid hre
    have hpreH := Lib.hid hpre
    have hbestH := Lib.hid hbest
    have hNH := Lib.hid hN
    have hiH := Lib.hid hi
    obtain ⟨lo, hlod⟩ : ∃ lo, roomLo gp i = lo := ⟨_, rfl⟩
    obtain ⟨hi', hhid⟩ : ∃ hi', roomHi gp i = hi' := ⟨_, rfl⟩
    rw [hlod] at hlo hlob
    rw [hhid] at hhi hlob
    have hloH := Lib.hid hlod
    have hhiH := Lib.hid hhid
    have q0 : ((p.length : Int) == (l.length : Int)) = false := by rw [beq_eq_false_iff_ne]; omega
    have q0n : ¬ p.length = l.length := by omega
    obtain ⟨b, off, hA1, _, d0, d1, d2, d3⟩ := places_at h0 q hql
    cases hA1
    obtain ⟨b2, off2, hC1, _, e0⟩ := ints_at h1 p.length hpl
    cases hC1
    rw [hq1] at e0
    have hq1H := Lib.hid hq1
    clear hre hpre hbest hN hi hlod hhid hq1 hpp
    have hLL : Hid (∀ x : Int, (p ++ [x]).length = p.length + 1) := fun x => by simp
    go_enter Try.func53, Try.ntmps53
    go_wp2_with fail
    have hW : Below w.heap.size w ((w.alloc (.cells #[.int .i64 (n : Int), .slice (some ⟨b, off, none⟩) gp.length c] 32)).alloc (.cells #[.int .i64 a, .int .i64 bb] 34)) := (((Below.refl _ _).alloc (Nat.le_refl _) _).alloc (by first | (simp; done) | (simp; omega)) _); have hb0 : Blk ((w.alloc (.cells #[.int .i64 (n : Int), .slice (some ⟨b, off, none⟩) gp.length c] 32)).alloc (.cells #[.int .i64 a, .int .i64 bb] 34)) (w.heap.size) 32 #[.int .i64 (n : Int), .slice (some ⟨b, off, none⟩) gp.length c] := ((Blk.newAt w _ (by first | rfl | (simp; done) | (simp; omega))).alloc _); have hb1 : Blk ((w.alloc (.cells #[.int .i64 (n : Int), .slice (some ⟨b, off, none⟩) gp.length c] 32)).alloc (.cells #[.int .i64 a, .int .i64 bb] 34)) (w.heap.size + 1) 34 #[.int .i64 a, .int .i64 bb] := (Blk.newAt (w.alloc (.cells #[.int .i64 (n : Int), .slice (some ⟨b, off, none⟩) gp.length c] 32)) _ (by first | rfl | (simp; done) | (simp; omega))); replace h0 := h0.now hW; replace h1 := h1.now hW; replace h2 := h2.now hW; replace h4 := h4.now hW; have hsW : w.heap.size + 2 = ((w.alloc (.cells #[.int .i64 (n : Int), .slice (some ⟨b, off, none⟩) gp.length c] 32)).alloc (.cells #[.int .i64 a, .int .i64 bb] 34)).heap.size := (by first | rfl | (simp; done) | (simp; omega)); generalize ((w.alloc (.cells #[.int .i64 (n : Int), .slice (some ⟨b, off, none⟩) gp.length c] 32)).alloc (.cells #[.int .i64 a, .int .i64 bb] 34)) = W at *; replace hsW := Lib.hid hsW
    obtain ⟨k0, k1⟩ := hb0.c2
    replace d0 := cell_keep d0 hW
    replace d1 := cell_keep d1 hW
    replace d2 := cell_keep d2 hW
    replace d3 := cell_keep d3 hW
    replace e0 := cell_keep e0 hW
    have hk1 : (0 : Int) ≤ (p.length : Int) := by omega
    have hk2 : (p.length : Int) < (l.length : Int) := by omega
    have hq0 : (0 : Int) ≤ (q : Int) := by omega
    have hq2 : (q : Int) < (gp.length : Int) := by omega
    go_wp2_with fail
    go_region_held3 (fun w' => w'.cell? ⟨w.heap.size, 1, none⟩ = some (.slice (some ⟨b, off, none⟩) gp.length c) ∧ w'.cell? ⟨b2, off2 + p.length, none⟩ = some (.int .i64 q) ∧ w'.cell? ⟨b, off + q * 4, none⟩ = some (.int .i64 gp[q].src) ∧ w'.cell? ⟨b, off + q * 4 + 1, none⟩ = some (.int .i64 gp[q].dst) ∧ w'.cell? ⟨b, off + q * 4 + 2, none⟩ = some (.int .i64 gp[q].delay) ∧ w'.cell? ⟨b, off + q * 4 + 3, none⟩ = some (.int .i64 gp[q].tokens)) (first | exact ⟨k1, e0, d0, d1, d2, d3⟩ | exact ⟨k1', e0', d0', d1', d2', d3'⟩ | go_keep) (first | (go_at_call 112; refine (spec_l16Rooms _ _ _ _ _ ht.1 ht.2).mono ?_; rintro e w2 ⟨rfl, hB2⟩; have k1' := cell_keep (w := W.drew) k1 hB2; have e0' := cell_keep (w := W.drew) e0 hB2; have d0' := cell_keep (w := W.drew) d0 hB2; have d1' := cell_keep (w := W.drew) d1 hB2; have d2' := cell_keep (w := W.drew) d2 hB2; have d3' := cell_keep (w := W.drew) d3 hB2; rw [← hlo.out, ← hhi.out]))
    have hD : Below W.heap.size W w2 := (Below.drew (Below.refl _ W)).trans hB2
    replace hW := hW.trans (hD.mono hW.size); replace h0 := h0.now hD; replace h1 := h1.now hD; replace h2 := h2.now hD; replace h4 := h4.now hD; replace hb0 := hb0.now hD; replace hb1 := hb1.now hD
    clear hD hB2 k0 k1 d0 d1 d2 d3 e0 k1' e0' d0' d1' d2' d3' hlo hhi
    obtain ⟨Wl, hWl⟩ : ∃ Wl : World, Wl = w2 := ⟨_, rfl⟩
    subst hWl
    go_wp2
    go_loopw [4, 14] (fun be cv wr => ∃ (u : Nat) (bs : List Int) (BA : Option Addr) (bc : Nat), u ≤ N ∧ cv = .int .i64 (lo + (u : Nat)) ∧ be = .slice BA bs.length bc ∧ Own intCell 1 2 wr base (.slice BA bs.length bc) bs ∧ Hid (leastT suf gp p rest lo best u = bs) ∧ Hid (BestOk gp l bs) ∧ Below Wl.heap.size Wl wr) (fun _ cv _ => (hi' + 1 - intOf cv).toNat)
    case atStart => exact ⟨0, best, E, ee, Nat.zero_le _, by simp, rfl, h4, rfl, hbestH.out, Below.refl _ _⟩
    case round =>
      clear h4
      obtain ⟨u, bs, BA, bc, hu, rfl, rfl, h4, hF, hbs0, hB⟩ := hrel
      by_cases hlt : u < N
      · have q3 : lo + (u : Nat) ≤ hi' := by omega
        have hlo0 := hlob
        have hre2 : Hid (List.drop (p ++ [lo + (u : Nat)]).length l = rest) := drop_snoc hreH.out
        have hpre2 : Hid (PreR gp l (p ++ [lo + (u : Nat)]) ∧ (p ++ [lo + (u : Nat)]).length ≤ l.length) := ⟨hpreH.out.1.snoc hreH.out (by rw [hloH.out]; omega) (by rw [hhiH.out]; omega), by rw [List.length_append]; exact hpl⟩
        obtain ⟨Vq, hVq⟩ : ∃ Vq : World, Vq = wr := ⟨_, rfl⟩
        subst hVq
        have hBV : Below Wl.heap.size Wl Vq := hB
        have hBd2 : Below Vq.heap.size Vq Vq.drew := Below.drew (Below.refl _ Vq)
        obtain ⟨x0, x1⟩ := (hb0.now hBV).c2
        obtain ⟨x2, x3⟩ := (hb1.now hBV).c2
        replace x0 := cell_keep x0 hBd2
        replace x1 := cell_keep x1 hBd2
        replace x2 := cell_keep x2 hBd2
        replace x3 := cell_keep x3 hBd2
        have g0 := (h0.now hBV).now hBd2
        have g1 := (h1.now hBV).now hBd2
        have g2 := (h2.now hBV).now hBd2
        have g4 := h4.now hBd2
        have hbV : base ≤ Vq.drew.heap.size := Nat.le_trans hbase (Nat.le_trans hW.size hBV.size)
        have hlen2 : p.length ≤ 1048576 := by omega
        have hlen : p.length + [lo + (u : Nat)].length ≤ 1099511627776 := by simp; omega
        have hLL : Hid ((p ++ [lo + (u : Nat)]).length = p.length + 1) := hLL.out _
        clear h4 hB
        go_wp2_with fail
        refine wp_region_held_drew (S := fun w' => w'.cell? ⟨w.heap.size, 0, none⟩ = some (.int .i64 (n : Nat)) ∧ w'.cell? ⟨w.heap.size, 1, none⟩ = some (.slice (some ⟨b, off, none⟩) gp.length c) ∧ w'.cell? ⟨w.heap.size + 1, 0, none⟩ = some (.int .i64 a) ∧ w'.cell? ⟨w.heap.size + 1, 1, none⟩ = some (.int .i64 bb)) (by kernel_rfl) ⟨x0, x1, x2, x3⟩ (fun hH => ?_)
        refine tkH 0 (v := ?_) rfl (fun _ _ _ h => h) (Or.inl ⟨by rfl, ?_⟩) hH ?_
        rotate_left
        · intro w9 hSw
          try dsimp only at hSw
          obtain ⟨s0, s1, s2, s3⟩ := hSw
          go_simp
          try with_reducible rfl
        try simp only [Act.put, List.setIfInBounds_toArray, List.set_cons_zero, List.set_cons_succ]
        refine tkH 1 (v := ?_) rfl (fun _ _ _ h => h) (Or.inl ⟨by rfl, ?_⟩) hH ?_
        rotate_left
        · intro w9 hSw
          try dsimp only at hSw
          obtain ⟨s0, s1, s2, s3⟩ := hSw
          go_simp
          try with_reducible rfl
        try simp only [Act.put, List.setIfInBounds_toArray, List.set_cons_zero, List.set_cons_succ]
        refine tkH 2 (v := ?_) rfl (fun _ _ _ h => h) (Or.inl ⟨by rfl, ?_⟩) hH ?_
        rotate_left
        · intro w9 hSw
          try dsimp only at hSw
          obtain ⟨s0, s1, s2, s3⟩ := hSw
          go_simp
          try with_reducible rfl
        try simp only [Act.put, List.setIfInBounds_toArray, List.set_cons_zero, List.set_cons_succ]
        refine tkH 4 (v := ?_) rfl (fun _ _ _ h => h) (Or.inl ⟨by rfl, ?_⟩) hH ?_
        rotate_left
        · intro w9 hSw
          try dsimp only at hSw
          obtain ⟨s0, s1, s2, s3⟩ := hSw
          go_simp
          try with_reducible rfl
        try simp only [Act.put, List.setIfInBounds_toArray, List.set_cons_zero, List.set_cons_succ]
        refine tkH 7 (v := ?_) rfl (fun _ _ _ h => h) (Or.inl ⟨by rfl, ?_⟩) hH ?_
        rotate_left
        · intro w9 hSw
          try dsimp only at hSw
          obtain ⟨s0, s1, s2, s3⟩ := hSw
          go_simp
          try with_reducible rfl
        try simp only [Act.put, List.setIfInBounds_toArray, List.set_cons_zero, List.set_cons_succ]
        refine tkH 8 (v := ?_) rfl (fun _ _ _ h => h) (Or.inl ⟨by rfl, ?_⟩) hH ?_
        rotate_left
        · intro w9 hSw
          try dsimp only at hSw
          obtain ⟨s0, s1, s2, s3⟩ := hSw
          go_simp
          try with_reducible rfl
        try simp only [Act.put, List.setIfInBounds_toArray, List.set_cons_zero, List.set_cons_succ]
        refine wpAnyH_ready (rs := [3, 5]) (by kernel_rfl) (by simp) ?_
        refine AllReadyH.cons rfl (fun K hK => ?_) (AllReadyH.cons rfl (fun K hK => ?_) AllReadyH.nil)
        · go_simp
          go_at_call 113
          refine (spec_l01Own _ _ _ g2.lst hlen2).mono ?_
          rintro e5 w5 ⟨x5, rfl, hO5, hB5⟩
          obtain ⟨X, cx, rfl⟩ := own_shape_n hO5 rfl
          have x0a := cell_keep (w := Vq.drew) x0 hB5
          have x1a := cell_keep (w := Vq.drew) x1 hB5
          have x2a := cell_keep (w := Vq.drew) x2 hB5
          have x3a := cell_keep (w := Vq.drew) x3 hB5
          refine hK.out _ _ ⟨x0a, x1a, x2a, x3a⟩ (fun hH => ?_)
          clear hK K
          try simp only [Act.put, List.setIfInBounds_toArray, List.set_cons_zero, List.set_cons_succ]
          have hZ : Below w5.heap.size w5 (w5.alloc (.cells #[.int .i64 (lo + (u : Nat))] 2)) := (Below.refl _ _).alloc (Nat.le_refl _) _
          have x0b := cell_keep x0a hZ
          have x1b := cell_keep x1a hZ
          have x2b := cell_keep x2a hZ
          have x3b := cell_keep x3a hZ
          have hLst := lst_new1 intCell 1 intCell_len w5 2 (lo + (u : Nat)) _ rfl _ rfl
          have hbs := Nat.le_trans hB5.size hZ.size
          refine wpAnyH_ready (rs := [5]) (by kernel_rfl) (by simp) ?_
          refine AllReadyH.cons rfl (fun K hK => ?_) AllReadyH.nil
          go_simp
          refine hK.out _ _ ⟨x0b, x1b, x2b, x3b⟩ (fun hH => ?_)
          clear hK K
          try simp only [Act.put, List.setIfInBounds_toArray, List.set_cons_zero, List.set_cons_succ]
          refine wpAnyH_ready (rs := [6]) (by kernel_rfl) (by simp) ?_
          refine AllReadyH.cons rfl (fun K hK => ?_) AllReadyH.nil
          refine step_append_lst rfl _ _ 38 rfl intCell 1 intCell_one (by omega) (Vq.drew.heap.size) 2 _ 8 Try.underlying38 info_i64 rfl _ p rfl (hO5.now hZ) _ _ _ _ [lo + (u : Nat)] rfl hLst hlen (by omega) hbs ?_
          intro v1 wz hO1 hG hD1
          obtain ⟨V1, cv1, rfl⟩ := own_shape_n hO1 hLL.out
          have hBz : Below Vq.drew.heap.size Vq.drew wz := below_app (hB5.trans (hZ.mono hB5.size)) hbs hG (hO5.now hZ) (Nat.le_refl _)
          have x0c := cell_keep (w := Vq.drew) x0 hBz
          have x1c := cell_keep (w := Vq.drew) x1 hBz
          have x2c := cell_keep (w := Vq.drew) x2 hBz
          have x3c := cell_keep (w := Vq.drew) x3 hBz
          refine hK.out _ _ ⟨x0c, x1c, x2c, x3c⟩ (fun hH => ?_)
          clear hK K
          try simp only [Act.put, List.setIfInBounds_toArray, List.set_cons_zero, List.set_cons_succ]
          refine wpAnyH_ready (rs := [9]) (by kernel_rfl) (by simp) ?_
          refine AllReadyH.cons rfl (fun K hK => ?_) AllReadyH.nil
          go_simp
          go_at_call 53
          refine (hih.out (p ++ [lo + (u : Nat)]) _ _ bs wz (hre2.out) (hpre2.out) hbs0.out (Nat.le_trans hbV hBz.size) (g0.now hBz) (g1.now hBz) (hO1.rebase hbV) (g4.now hBz)).mono ?_
          rintro e7 w7 ⟨v7, rfl, hL7, hB7⟩
          have x0d := cell_keep (w := Vq.drew) x0 (hBz.trans (hB7.mono hBz.size))
          have x1d := cell_keep (w := Vq.drew) x1 (hBz.trans (hB7.mono hBz.size))
          have x2d := cell_keep (w := Vq.drew) x2 (hBz.trans (hB7.mono hBz.size))
          have x3d := cell_keep (w := Vq.drew) x3 (hBz.trans (hB7.mono hBz.size))
          refine hK.out _ _ ⟨x0d, x1d, x2d, x3d⟩ (fun hH => ?_)
          clear hK K
          try simp only [Act.put, List.setIfInBounds_toArray, List.set_cons_zero, List.set_cons_succ]
          refine tkH 10 (v := ?_) rfl (fun _ _ _ h => h) (Or.inl ⟨by rfl, ?_⟩) hH ?_
          rotate_left
          · intro w9 hSw
            try dsimp only at hSw
            obtain ⟨s0, s1, s2, s3⟩ := hSw
            go_simp
            try with_reducible rfl
          try simp only [Act.put, List.setIfInBounds_toArray, List.set_cons_zero, List.set_cons_succ]
          refine wpAnyH_done (by kernel_rfl) ?_ _
          have hBt := hBV.trans ((hBd2.trans (hBz.trans (hB7.mono hBz.size))).mono hBV.size)
          clear x0 x1 x2 x3 x0a x1a x2a x3a x0b x1b x2b x3b x0c x1c x2c x3c x0d x1d x2d x3d hH
          have hbs7 := Lib.hid (leastS_ok (suf := suf) hbs0.out hre2.out hpre2.out.1 hpre2.out.2)
          have hF7 := Lib.hid (leastT_step hF.out)
          obtain ⟨b7, hb7⟩ : ∃ b7, leastS suf gp (p ++ [lo + (u : Nat)]) rest bs = b7 := ⟨_, rfl⟩
          rw [hb7] at hL7 hbs7 hF7
          clear hb7
          obtain ⟨V7, c7, rfl⟩ := hL7.shape
          go_wp2
          go_roundw
          all_goals (first | exact ⟨u + 1, b7, V7, c7, hlt, by go_num, rfl, hL7, hF7, hbs7, hBt⟩ | exact ⟨⟨u + 1, b7, V7, c7, hlt, by go_num, rfl, hL7, hF7, hbs7, hBt⟩, by simp [intOf]; omega⟩ | (simp [intOf]; omega) | rfl)
        · have hZ : Below Vq.drew.heap.size Vq.drew (Vq.drew.alloc (.cells #[.int .i64 (lo + (u : Nat))] 2)) := (Below.refl _ _).alloc (Nat.le_refl _) _
          have x0b := cell_keep (w := Vq.drew) x0 hZ
          have x1b := cell_keep (w := Vq.drew) x1 hZ
          have x2b := cell_keep (w := Vq.drew) x2 hZ
          have x3b := cell_keep (w := Vq.drew) x3 hZ
          go_simp
          refine hK.out _ _ ⟨x0b, x1b, x2b, x3b⟩ (fun hH => ?_)
          clear hK K
          try simp only [Act.put, List.setIfInBounds_toArray, List.set_cons_zero, List.set_cons_succ]
          refine wpAnyH_ready (rs := [3]) (by kernel_rfl) (by simp) ?_
          refine AllReadyH.cons rfl (fun K hK => ?_) AllReadyH.nil
          go_simp
          go_at_call 113
          refine (spec_l01Own _ _ _ (g2.now hZ).lst hlen2).mono ?_
          rintro e5 w5 ⟨x5, rfl, hO5, hB5⟩
          obtain ⟨X, cx, rfl⟩ := own_shape_n hO5 rfl
          have x0a := cell_keep x0b hB5
          have x1a := cell_keep x1b hB5
          have x2a := cell_keep x2b hB5
          have x3a := cell_keep x3b hB5
          have hLst0 : Lst intCell 1 (Vq.drew.alloc (.cells #[.int .i64 (lo + (u : Nat))] 2)) (Vq.drew.alloc (.cells #[.int .i64 (lo + (u : Nat))] 2)).heap.size (.slice (some ⟨Vq.drew.heap.size, 0, none⟩) 1 1) [lo + (u : Nat)] := (lst_new1 intCell 1 intCell_len Vq.drew 2 (lo + (u : Nat)) _ rfl _ rfl).more (by simp)
          have hLst := hLst0.now hB5
          have hbs := hB5.size
          refine hK.out _ _ ⟨x0a, x1a, x2a, x3a⟩ (fun hH => ?_)
          clear hK K
          try simp only [Act.put, List.setIfInBounds_toArray, List.set_cons_zero, List.set_cons_succ]
          refine wpAnyH_ready (rs := [6]) (by kernel_rfl) (by simp) ?_
          refine AllReadyH.cons rfl (fun K hK => ?_) AllReadyH.nil
          refine step_append_lst rfl _ _ 38 rfl intCell 1 intCell_one (by omega) ((Vq.drew.alloc (.cells #[.int .i64 (lo + (u : Nat))] 2)).heap.size) 2 _ 8 Try.underlying38 info_i64 rfl _ p rfl hO5 _ _ _ _ [lo + (u : Nat)] rfl hLst hlen (by omega) hbs ?_
          intro v1 wz hO1 hG hD1
          obtain ⟨V1, cv1, rfl⟩ := own_shape_n hO1 hLL.out
          have hBz : Below Vq.drew.heap.size Vq.drew wz := below_app (hZ.trans (hB5.mono hZ.size)) (Nat.le_trans hZ.size hbs) hG hO5 hZ.size
          have x0c := cell_keep (w := Vq.drew) x0 hBz
          have x1c := cell_keep (w := Vq.drew) x1 hBz
          have x2c := cell_keep (w := Vq.drew) x2 hBz
          have x3c := cell_keep (w := Vq.drew) x3 hBz
          refine hK.out _ _ ⟨x0c, x1c, x2c, x3c⟩ (fun hH => ?_)
          clear hK K
          try simp only [Act.put, List.setIfInBounds_toArray, List.set_cons_zero, List.set_cons_succ]
          refine wpAnyH_ready (rs := [9]) (by kernel_rfl) (by simp) ?_
          refine AllReadyH.cons rfl (fun K hK => ?_) AllReadyH.nil
          go_simp
          go_at_call 53
          refine (hih.out (p ++ [lo + (u : Nat)]) _ _ bs wz (hre2.out) (hpre2.out) hbs0.out (Nat.le_trans hbV hBz.size) (g0.now hBz) (g1.now hBz) (hO1.rebase (Nat.le_trans hbV hZ.size)) (g4.now hBz)).mono ?_
          rintro e7 w7 ⟨v7, rfl, hL7, hB7⟩
          have x0d := cell_keep (w := Vq.drew) x0 (hBz.trans (hB7.mono hBz.size))
          have x1d := cell_keep (w := Vq.drew) x1 (hBz.trans (hB7.mono hBz.size))
          have x2d := cell_keep (w := Vq.drew) x2 (hBz.trans (hB7.mono hBz.size))
          have x3d := cell_keep (w := Vq.drew) x3 (hBz.trans (hB7.mono hBz.size))
          refine hK.out _ _ ⟨x0d, x1d, x2d, x3d⟩ (fun hH => ?_)
          clear hK K
          try simp only [Act.put, List.setIfInBounds_toArray, List.set_cons_zero, List.set_cons_succ]
          refine tkH 10 (v := ?_) rfl (fun _ _ _ h => h) (Or.inl ⟨by rfl, ?_⟩) hH ?_
          rotate_left
          · intro w9 hSw
            try dsimp only at hSw
            obtain ⟨s0, s1, s2, s3⟩ := hSw
            go_simp
            try with_reducible rfl
          try simp only [Act.put, List.setIfInBounds_toArray, List.set_cons_zero, List.set_cons_succ]
          refine wpAnyH_done (by kernel_rfl) ?_ _
          have hBt := hBV.trans ((hBd2.trans (hBz.trans (hB7.mono hBz.size))).mono hBV.size)
          clear x0 x1 x2 x3 x0a x1a x2a x3a x0b x1b x2b x3b x0c x1c x2c x3c x0d x1d x2d x3d hH
          have hbs7 := Lib.hid (leastS_ok (suf := suf) hbs0.out hre2.out hpre2.out.1 hpre2.out.2)
          have hF7 := Lib.hid (leastT_step hF.out)
          obtain ⟨b7, hb7⟩ : ∃ b7, leastS suf gp (p ++ [lo + (u : Nat)]) rest bs = b7 := ⟨_, rfl⟩
          rw [hb7] at hL7 hbs7 hF7
          clear hb7
          obtain ⟨V7, c7, rfl⟩ := hL7.shape
          go_wp2
          go_roundw
          all_goals (first | exact ⟨u + 1, b7, V7, c7, hlt, by go_num, rfl, hL7, hF7, hbs7, hBt⟩ | exact ⟨⟨u + 1, b7, V7, c7, hlt, by go_num, rfl, hL7, hF7, hbs7, hBt⟩, by simp [intOf]; omega⟩ | (simp [intOf]; omega) | rfl)
      · obtain rfl : u = N := by omega
        have q3 : ¬ lo + (u : Nat) ≤ hi' := by omega
        have hE := Lib.hid (leastT_end (suf := suf) (p := p) (rest := rest) (best := best) (i := i) (bs := bs) (by rw [hNH.out, hloH.out]; exact hF.out))
        go_wp2
        go_ret
        exact ⟨_, rfl, by rw [hE.out]; exact h4, hW.trans (hB.mono hW.size)⟩
/-- What LeastRooms gives. -/
noncomputable def leastRF (ge : Int) (gp : List Place) (l : List Int) (a b : Int) : List Int × Int :=
  if okGraph ge gp = false ∨ ratioOk a b = false then ([], 1) else if bufOk gp.length l = false then ([], 2) else if 30 < gp.length + l.length then ([], 3)
  else if leastF (sufO ge.toNat gp l a b) gp l = [] then ([], 4) else (leastF (sufO ge.toNat gp l a b) gp l, 0)
theorem leastRF_bad {ge : Int} {gp : List Place} {l : List Int} {a b : Int} (h : okGraph ge gp = false ∨ ratioOk a b = false) : leastRF ge gp l a b = ([], 1) := if_pos h
theorem leastRF_buf {ge : Int} {gp : List Place} {l : List Int} {a b : Int} (h : okGraph ge gp = true) (h2 : ratioOk a b = true) (h3 : bufOk gp.length l = false) : leastRF ge gp l a b = ([], 2) := by
  unfold leastRF
  rw [if_neg (by rintro (h4 | h4) <;> simp_all), if_pos h3]
theorem leastRF_many {ge : Int} {gp : List Place} {l : List Int} {a b : Int} (h : okGraph ge gp = true) (h2 : ratioOk a b = true) (h3 : bufOk gp.length l = true) (h4 : 30 < gp.length + l.length) : leastRF ge gp l a b = ([], 3) := by
  unfold leastRF
  rw [if_neg (by rintro (h4 | h4) <;> simp_all), if_neg (by simp [h3]), if_pos h4]
theorem leastRF_ok {n : Nat} {gp : List Place} {l best : List Int} {a b : Int} (h : okGraph n gp = true) (h2 : ratioOk a b = true) (h3 : bufOk gp.length l = true) (h4 : ¬ 30 < gp.length + l.length) (hb : leastF (sufO n gp l a b) gp l = best) :
    leastRF n gp l a b = (best, if best = [] then 4 else 0) := by
  unfold leastRF
  rw [if_neg (by rintro (h4 | h4) <;> simp_all), if_neg (by simp [h3]), if_neg h4, Int.toNat_natCast, hb]
  split
  · rename_i h5
    rw [h5]
  · rfl
set_option maxHeartbeats 4000000 in
set_option maxRecDepth 100000 in
theorem spec_LeastRooms (v : Value) (ge : Int) (gp : List Place) (u : Value) (l : List Int) (a b : Int) (w : World) (h0 : Lst Place.cells 4 w w.heap.size v gp) (h1 : Lst intCell 1 w w.heap.size u l) :
    Calls Try.prog 14 #[.agg #[.int .i64 ge, v], u, .agg #[.int .i64 a, .int .i64 b]] w (RetOwnI intCell 1 2 w (leastRF ge gp l a b).1 (leastRF ge gp l a b).2) := by
  obtain ⟨A, c, rfl⟩ := h0.shape
  obtain ⟨C, d, rfl⟩ := h1.shape
  go_enter Try.func14, Try.ntmps14
  go_wp2_with fail
  have hW : Below w.heap.size w ((w.alloc (.cells #[.int .i64 ge, .slice A gp.length c] 32)).alloc (.cells #[.int .i64 a, .int .i64 b] 34)) := (((Below.refl _ _).alloc (Nat.le_refl _) _).alloc (by first | (simp; done) | (simp; omega)) _); have hb0 : Blk ((w.alloc (.cells #[.int .i64 ge, .slice A gp.length c] 32)).alloc (.cells #[.int .i64 a, .int .i64 b] 34)) (w.heap.size) 32 #[.int .i64 ge, .slice A gp.length c] := ((Blk.newAt w _ (by first | rfl | (simp; done) | (simp; omega))).alloc _); have hb1 : Blk ((w.alloc (.cells #[.int .i64 ge, .slice A gp.length c] 32)).alloc (.cells #[.int .i64 a, .int .i64 b] 34)) (w.heap.size + 1) 34 #[.int .i64 a, .int .i64 b] := (Blk.newAt (w.alloc (.cells #[.int .i64 ge, .slice A gp.length c] 32)) _ (by first | rfl | (simp; done) | (simp; omega))); replace h0 := h0.now hW; replace h1 := h1.now hW; have hsW : w.heap.size + 2 = ((w.alloc (.cells #[.int .i64 ge, .slice A gp.length c] 32)).alloc (.cells #[.int .i64 a, .int .i64 b] 34)).heap.size := (by first | rfl | (simp; done) | (simp; omega)); generalize ((w.alloc (.cells #[.int .i64 ge, .slice A gp.length c] 32)).alloc (.cells #[.int .i64 a, .int .i64 b] 34)) = W at *; replace hsW := Lib.hid hsW
  refine (spec_IsEventGraph _ ge gp _ h0).mono ?_
  rintro e w1 ⟨rfl, hB⟩
  replace hW := hW.trans (hB.mono hW.size); replace h0 := h0.now hB; replace h1 := h1.now hB; replace hb0 := hb0.now hB; replace hb1 := hb1.now hB
  clear hB
  obtain ⟨k0, k1⟩ := hb0.c2
  obtain ⟨r0, r1⟩ := hb1.c2
  cases hg : okGraph ge gp
  · have hE := Lib.hid (leastRF_bad (l := l) (a := a) (b := b) (.inl hg))
    clear hg
    go_wp2
    go_ret2
    exact RetOwnI.of hE.out ⟨_, rfl, Own.nil, hW⟩
  · have hgH := Lib.hid hg
    clear hg
    go_wp2_with fail
    clear k0 k1 r0 r1
    refine (spec_IsRatio a b _).mono ?_
    rintro e w2 ⟨rfl, hB⟩
    replace hW := hW.trans (hB.mono hW.size); replace h0 := h0.now hB; replace h1 := h1.now hB; replace hb0 := hb0.now hB; replace hb1 := hb1.now hB
    clear hB
    obtain ⟨k0, k1⟩ := hb0.c2
    obtain ⟨r0, r1⟩ := hb1.c2
    cases hq : ratioOk a b
    · have hE := Lib.hid (leastRF_bad (ge := ge) (gp := gp) (l := l) (.inr hq))
      clear hq
      go_wp2
      go_ret2
      exact RetOwnI.of hE.out ⟨_, rfl, Own.nil, hW⟩
    · have hqH := Lib.hid hq
      have hrl := ratioOk_le hq
      clear hq
      go_wp2_with fail
      clear k0 k1 r0 r1
      refine (spec_l16Code _ ge gp _ l _ h0 h1).mono ?_
      rintro e w3 ⟨rfl, hB⟩
      replace hW := hW.trans (hB.mono hW.size); replace h0 := h0.now hB; replace h1 := h1.now hB; replace hb0 := hb0.now hB; replace hb1 := hb1.now hB
      clear hB
      obtain ⟨k0, k1⟩ := hb0.c2
      obtain ⟨r0, r1⟩ := hb1.c2
      cases hbf : bufOk gp.length l
      · have hE := Lib.hid (leastRF_buf (l := l) hgH.out hqH.out hbf)
        have hc : bufCode ge gp l = 2 := by unfold bufCode; rw [hgH.out, hbf]; rfl
        rw [hc]
        clear hbf hc
        go_wp2
        go_ret2
        exact RetOwnI.of hE.out ⟨_, rfl, Own.nil, hW⟩
      · have hc : bufCode ge gp l = 0 := by unfold bufCode; rw [hgH.out, hbf]; rfl
        have hll := (bufOk_at hbf).1
        have hgl := okGraph_len hgH.out
        have hbfH := Lib.hid hbf
        rw [hc]
        clear hbf hc
        by_cases h30 : 30 < gp.length + l.length
        · have hE := Lib.hid (leastRF_many (l := l) hgH.out hqH.out hbfH.out h30)
          have h30' : decide ((30 : Int) < (gp.length : Int) + (l.length : Int)) = true := decide_eq_true (by omega)
          clear h30
          go_wp2
          go_ret2
          exact RetOwnI.of hE.out ⟨_, rfl, Own.nil, hW⟩
        · have h30' : decide ((30 : Int) < (gp.length : Int) + (l.length : Int)) = false := decide_eq_false (by omega)
          have hge := okGraph_ev hgH.out
          obtain ⟨n, rfl⟩ := Int.eq_ofNat_of_zero_le (show 0 ≤ ge by omega)
          obtain ⟨suf, hsuf⟩ : ∃ suf, sufO n gp l a b = suf := ⟨_, rfl⟩
          obtain ⟨best, hbest⟩ : ∃ best, leastF suf gp l = best := ⟨_, rfl⟩
          have hE := Lib.hid (leastRF_ok (best := best) hgH.out hqH.out hbfH.out h30 (by rw [hsuf]; exact hbest))
          have hsufH := Lib.hid hsuf
          have hbestH := Lib.hid hbest
          have h30q : gp.length + l.length ≤ 30 := by omega
          clear hsuf hbest h30
          go_wp2_with fail
          refine (spec_l16Least _ n gp _ l a b suf hsufH hgH hbfH h30q (by omega) (by omega) w.heap.size l [] _ _ [] _ rfl ⟨by intro k _ h; simp at h, by simp⟩ (.inl rfl) hW.size h0 h1 Own.nil Own.nil).mono ?_
          rintro e w4 ⟨v4, rfl, hO4, hB⟩
          rw [leastS_all, hbestH.out] at hO4
          obtain ⟨V4, c4, rfl⟩ := hO4.shape
          replace hW := hW.trans (hB.mono hW.size)
          clear k0 k1 r0 r1 hB
          by_cases hn : best = []
          · subst hn
            have hE' : Hid (leastRF (n : Int) gp l a b = ([], 4)) := hE.out
            clear hE
            go_wp2
            go_ret2
            exact RetOwnI.of hE'.out ⟨_, rfl, Own.nil, hW⟩
          · have hE' : Hid (leastRF (n : Int) gp l a b = (best, 0)) := by show _ = _; rw [hE.out, if_neg hn]
            have p9 : ((best.length : Int) == 0) = false := by have := List.length_pos_iff.2 hn; rw [beq_eq_false_iff_ne]; omega
            have p7 : ¬ best.length = 0 := by have := List.length_pos_iff.2 hn; omega
            clear hn hE
            go_wp2
            go_ret2
            exact RetOwnI.of hE'.out ⟨_, rfl, hO4, hW⟩
end Go.Proofs.Ytbdklhahbeiffaa
