/-
  The reference's SimplifyGraph.
-/
import Derived.Test.YtbdklhahbeiffaaSmpI
import Derived.Test.YtbdklhahbeiffaaDr
namespace Go.Proofs.Ytbdklhahbeiffaa
open Go.RowKit
set_option linter.unusedVariables false
set_option linter.unusedSimpArgs false
def lessL : List Int → List Int → Bool
  | [], [] => false
  | [], _ :: _ => true
  | _ :: _, [] => false
  | a :: l, b :: m => if a = b then lessL l m else decide (a < b)
theorem lessL_nil (m : List Int) : lessL [] m = decide (0 < m.length) := by cases m <;> simp [lessL]
theorem lessL_nilR (l : List Int) : lessL l [] = false := by cases l <;> simp [lessL]
theorem lessL_end {l m : List Int} {k : Nat} (hk : k ≤ l.length) (hm : k ≤ m.length) (h : k = l.length ∨ k = m.length) : lessL (l.drop k) (m.drop k) = decide (l.length < m.length) := by
  rcases h with rfl | rfl
  · rw [List.drop_length, lessL_nil, List.length_drop]
    congr 1
    exact propext (by omega)
  · rw [List.drop_length, lessL_nilR]
    exact (decide_eq_false (by omega)).symm
theorem lessL_step {l m : List Int} {k : Nat} (hk : k < l.length) (hm : k < m.length) : lessL (l.drop k) (m.drop k) = if l[k] = m[k] then lessL (l.drop (k + 1)) (m.drop (k + 1)) else decide (l[k] < m[k]) := by
  rw [List.drop_eq_getElem_cons hk, List.drop_eq_getElem_cons hm, lessL]
theorem lessL_key (p q : Place) : lessL [p.src, p.dst, p.tokens] [q.src, q.dst, q.tokens] = keyLt p q := by
  simp only [lessL, keyLt]
  by_cases h1 : p.src = q.src
  · by_cases h2 : p.dst = q.dst
    · by_cases h3 : p.tokens = q.tokens
      · simp [h1, h2, h3]
      · simp [h1, h2, h3]
    · simp [h1, h2]
  · simp [h1]
set_option maxHeartbeats 2000000 in
set_option maxRecDepth 100000 in
theorem spec_l01Less (v : Value) (l : List Int) (u : Value) (m : List Int) (w : World) (h0 : Lst intCell 1 w w.heap.size v l) (h1 : Lst intCell 1 w w.heap.size u m) (hl : l.length ≤ 1000) (hm : m.length ≤ 1000) :
    Calls Try.prog 155 #[v, u] w fun e w' => e = .returned (.bool (lessL l m)) ∧ Below w.heap.size w w' := by
  obtain ⟨A, c, rfl⟩ := h0.shape
  obtain ⟨C, d, rfl⟩ := h1.shape
  go_enter Try.func155, Try.ntmps155
  go_wp2
  go_loopw [5] (fun i wr => ∃ k : Nat, k ≤ l.length ∧ k ≤ m.length ∧ i = .int .i64 k ∧ Hid (lessL l m = lessL (l.drop k) (m.drop k)) ∧ Below w.heap.size w wr) (fun i _ => l.length - (intOf i).toNat)
  case atStart => exact ⟨0, by omega, by omega, rfl, rfl, Below.refl _ _⟩
  case round =>
    obtain ⟨k, hk, hkm, rfl, hN, hB⟩ := hrel
    by_cases hlt : k < l.length
    · by_cases hlm : k < m.length
      · obtain ⟨b1, o1, rfl, hb1, x0⟩ := ints_at h0 k hlt
        obtain ⟨b2, o2, rfl, hb2, y0⟩ := ints_at h1 k hlm
        have hd := hN.out
        rw [lessL_step hlt hlm] at hd
        generalize l[k] = xa at *
        generalize m[k] = xb at *
        replace x0 := (hB.cell (p := ⟨b1, o1 + k, none⟩) hb1).trans x0
        replace y0 := (hB.cell (p := ⟨b2, o2 + k, none⟩) hb2).trans y0
        have hd2 := Lib.hid hd
        clear hd hN
        have i1 : (k : Int) < (l.length : Int) := by omega
        have i2 : (k : Int) < (m.length : Int) := by omega
        by_cases hx : xa = xb
        · subst hx
          have hN : Hid (lessL l m = lessL (l.drop (k + 1)) (m.drop (k + 1))) := by
            have := hd2.out
            rw [if_pos rfl] at this
            exact this
          clear hd2
          go_wp2
          go_region
          go_wp2
          go_roundw
          case rel => exact ⟨k + 1, by omega, by omega, by go_num, hN, hB.drew⟩
          case measure => simp [intOf]; omega
        · have hF : Hid (lessL l m = decide (xa < xb)) := by
            have := hd2.out
            rw [if_neg hx] at this
            exact this
          have q1 : (xa != xb) = true := by simpa using hx
          clear hd2
          go_wp2
          go_region
          go_wp2
          go_region
          go_wp2
          go_ret
          exact ⟨ret_bool hF.out.symm, hB.drew.drew⟩
      · have hF := Lib.hid (lessL_end hk hkm (.inr (by omega)))
        have i1 : (k : Int) < (l.length : Int) := by omega
        have i2 : ¬ (k : Int) < (m.length : Int) := by omega
        go_wp2
        go_ret
        exact ⟨by rw [hN.out, hF.out]; simp, hB⟩
    · have hF := Lib.hid (lessL_end hk hkm (.inl (by omega)))
      have i1 : ¬ (k : Int) < (l.length : Int) := by omega
      go_wp2
      go_ret
      exact ⟨by rw [hN.out, hF.out]; simp, hB⟩
set_option maxHeartbeats 2000000 in
set_option maxRecDepth 100000 in
theorem spec_l11Before (p q : Place) (w : World) :
    Calls Try.prog 101 #[.agg (Place.cells p).toArray, .agg (Place.cells q).toArray] w fun e w' => e = .returned (.bool (keyLt p q)) ∧ Below w.heap.size w w' := by
  have hE : Hid (keyLt p q = lessL [p.src, p.dst, p.tokens] [q.src, q.dst, q.tokens]) := (lessL_key p q).symm
  rw [hE.out]
  clear hE
  obtain ⟨a0, a1, a2, a3⟩ := p
  obtain ⟨b0, b1, b2, b3⟩ := q
  show Calls Try.prog 101 #[.agg #[.int .i64 a0, .int .i64 a1, .int .i64 a2, .int .i64 a3], .agg #[.int .i64 b0, .int .i64 b1, .int .i64 b2, .int .i64 b3]] w _
  dsimp only
  go_enter Try.func101, Try.ntmps101
  go_wp2_with fail
  have e1 : ((w.alloc (.cells #[.int .i64 a0, .int .i64 a1, .int .i64 a2, .int .i64 a3] 101)).alloc (.cells #[.int .i64 b0, .int .i64 b1, .int .i64 b2, .int .i64 b3] 101)).heap.size = w.heap.size + 1 + 1 := by simp
  have e2 : (((w.alloc (.cells #[.int .i64 a0, .int .i64 a1, .int .i64 a2, .int .i64 a3] 101)).alloc (.cells #[.int .i64 b0, .int .i64 b1, .int .i64 b2, .int .i64 b3] 101)).alloc (.cells #[.int .i64 a0, .int .i64 a1, .int .i64 a3] 2)).heap.size = w.heap.size + 1 + 1 + 1 := by simp
  have hL1 := (lst_newN ((w.alloc (.cells #[.int .i64 a0, .int .i64 a1, .int .i64 a2, .int .i64 a3] 101)).alloc (.cells #[.int .i64 b0, .int .i64 b1, .int .i64 b2, .int .i64 b3] 101)) 2 [a0, a1, a3] (by simp)).alloc (.cells #[.int .i64 b0, .int .i64 b1, .int .i64 b3] 2)
  have hL2 := lst_newN (((w.alloc (.cells #[.int .i64 a0, .int .i64 a1, .int .i64 a2, .int .i64 a3] 101)).alloc (.cells #[.int .i64 b0, .int .i64 b1, .int .i64 b2, .int .i64 b3] 101)).alloc (.cells #[.int .i64 a0, .int .i64 a1, .int .i64 a3] 2)) 2 [b0, b1, b3] (by simp)
  rw [e1] at hL1
  rw [e2] at hL2
  have hB0 : Below w.heap.size w ((((w.alloc (.cells #[.int .i64 a0, .int .i64 a1, .int .i64 a2, .int .i64 a3] 101)).alloc (.cells #[.int .i64 b0, .int .i64 b1, .int .i64 b2, .int .i64 b3] 101)).alloc (.cells #[.int .i64 a0, .int .i64 a1, .int .i64 a3] 2)).alloc (.cells #[.int .i64 b0, .int .i64 b1, .int .i64 b3] 2)) := ((((Below.refl _ _).alloc (Nat.le_refl _) _).alloc (by simp) _).alloc (by simp; omega) _).alloc (by simp; omega) _
  refine (spec_l01Less _ [a0, a1, a3] _ [b0, b1, b3] _ hL1 hL2 (by simp) (by simp)).mono ?_
  rintro e w1 ⟨rfl, hB⟩
  have hB1 := hB0.trans (hB.mono (by simp; omega))
  clear hB hL1 hL2 e1 e2 hB0
  go_wp2
  go_ret
  exact ⟨rfl, hB1⟩
theorem below_undrew {w w' : World} (h : Below w.drew.heap.size w.drew w') : Below w.heap.size w w' := ⟨h.os, h.tape, h.output, h.size, h.block⟩
theorem befN_at {p : Place} : ∀ {S : List Place} (h : befN S p < S.length), keyLt S[befN S p] p = false
  | [], h => absurd h (by simp)
  | a :: S, h => by
    cases ha : keyLt a p with
    | false =>
      have e : befN (a :: S) p = 0 := by simp [befN, List.takeWhile_cons, ha]
      simp only [e]
      simpa using ha
    | true =>
      have e : befN (a :: S) p = befN S p + 1 := by simp [befN, List.takeWhile_cons, ha]
      have h2 : befN S p < S.length := by rw [e] at h; simpa using h
      have := befN_at h2
      simp only [e]
      simpa using this
theorem simpF_snoc (gp : List Place) (k : Nat) (hk : k < gp.length) : simpF (gp.take (k + 1)) = insP (simpF (gp.take k)) gp[k] := by
  unfold simpF
  rw [List.take_add_one, List.getElem?_eq_getElem hk, List.foldl_append]
  rfl
theorem insP_in {S : List Place} {p q : Place} {j : Nat} (hj : j = befN S p) (hl : j < S.length) (hq : S[j] = q) (h : keyLt p q = true) : insP S p = (S.take j ++ [p]) ++ S.drop j := by
  subst hj
  unfold insP
  rw [List.getElem?_eq_getElem hl, hq]
  simp [h]
theorem insP_up {S : List Place} {p q : Place} {j : Nat} (hj : j = befN S p) (hl : j < S.length) (hq : S[j] = q) (h : keyLt p q = false) : insP S p = S.set j { q with delay := max q.delay p.delay } := by
  subst hj
  unfold insP
  rw [List.getElem?_eq_getElem hl, hq]
  simp [h]
theorem insP_end {S : List Place} {p : Place} {j : Nat} (hj : j = befN S p) (hl : j = S.length) : insP S p = (S.take j ++ [p]) ++ S.drop j := by
  subst hj
  unfold insP
  rw [List.getElem?_eq_none (by omega)]
  simp
theorem insP_len (S : List Place) (p : Place) : (insP S p).length ≤ S.length + 1 := by
  have := befN_le S p
  unfold insP
  split
  · split
    · simp; omega
    · simp
  · simp; omega
theorem simpF_len (gp : List Place) : ∀ k, k ≤ gp.length → (simpF (gp.take k)).length ≤ k := by
  intro k
  induction k with
  | zero => intro _; simp [simpF]
  | succ k ih =>
    intro h
    rw [simpF_snoc gp k (by omega)]
    have := insP_len (simpF (gp.take k)) gp[k]
    have := ih (by omega)
    omega
theorem lst_dropP {w : World} {B b n c : Nat} {l : List Place} (h : Lst Place.cells 4 w B (.slice (some ⟨b, 0, none⟩) n c) l) (k : Nat) (hk : k ≤ l.length) : Lst Place.cells 4 w B (.slice (if c = k then some ⟨b, 0, none⟩ else some ⟨b, k * 4, none⟩) (n - k) (c - k)) (l.drop k) := by
  obtain ⟨h1, h2, A', c', hv, hc, hr⟩ := h
  injection hv with hA hn hcc
  subst hA
  subst hcc
  subst hn
  by_cases hck : c = k
  · rw [if_pos hck]
    exact ⟨flat_len Place.cells 4 Place.cells_len _, by simp; omega, some ⟨b, 0, none⟩, c - k, by rw [List.length_drop], by simp; omega, fun hp => absurd hp (by simp; omega)⟩
  rw [if_neg hck]
  refine ⟨flat_len Place.cells 4 Place.cells_len _, by simp; omega, some ⟨b, k * 4, none⟩, c - k, by rw [List.length_drop], by simp; omega, fun hp => ?_⟩
  obtain ⟨b', off', hA, hb, hcell⟩ := hr (by simp at hp; omega)
  injection hA with hA
  injection hA with hb1 ho1
  subst hb1
  subst ho1
  refine ⟨b, k * 4, rfl, hb, fun j u hu => ?_⟩
  have e : l.flatMap Place.cells = (l.take k).flatMap Place.cells ++ (l.drop k).flatMap Place.cells := by rw [← List.flatMap_append, List.take_append_drop]
  have el : ((l.take k).flatMap Place.cells).length = k * 4 := by rw [flat_len Place.cells 4 Place.cells_len, List.length_take, Nat.min_eq_left hk]
  have := hcell (k * 4 + j) u (by rw [e, List.getElem?_append_right (by omega), el, Nat.add_sub_cancel_left]; exact hu)
  rw [Nat.zero_add] at this
  exact this
theorem own_newP (w : World) (base : Nat) (hb : base ≤ w.heap.size) (x : Place) : Own Place.cells 4 101 (w.alloc (.cells (Place.cells x).toArray 101)) base (.slice (some ⟨w.heap.size, 0, none⟩) 1 1) [x] :=
  ⟨by simp [Place.cells], .inr ⟨w.heap.size, 1, (Place.cells x).toArray, rfl, hb, heap_alloc_new w _, Nat.le_refl _, by simp [maxLen], by simp [Place.cells], by simp [Place.cells]⟩⟩
/-- The row of places, the graph's box and the place's box, while a place is being inserted. -/
structure InsB (w1 : World) (ge : Int) (g cs pb : Nat) (S : List Place) (p : Place) (V0 V : World) : Prop where
  own : Own Place.cells 4 101 V w1.heap.size (.slice (some ⟨g, 0, none⟩) S.length cs) S
  box : Blk V (w1.heap.size + 1) 32 #[.int .i64 ge, .slice (some ⟨g, 0, none⟩) S.length cs]
  plc : Blk V pb 101 #[.int .i64 p.src, .int .i64 p.dst, .int .i64 p.delay, .int .i64 p.tokens]
  bel : Below w1.heap.size w1 V
  le : V0.heap.size ≤ V.heap.size
  wg : w1.heap.size ≤ g
  glt : g < V0.heap.size
  plt : pb < V0.heap.size
  xlt : w1.heap.size + 1 < V0.heap.size
section
variable {w1 : World} {ge : Int} {g cs pb : Nat} {S : List Place} {p : Place} {V0 V : World}
theorem InsB.alloc (h : InsB w1 ge g cs pb S p V0 V) (o : Obj) : InsB w1 ge g cs pb S p V0 (V.alloc o) :=
  ⟨h.own.alloc o, h.box.alloc o, h.plc.alloc o, h.bel.alloc h.bel.size o, Nat.le_trans h.le (by simp), h.wg, h.glt, h.plt, h.xlt⟩
theorem InsB.grown {V' : World} {v : Value} (h : InsB w1 ge g cs pb S p V0 V) (hG : V.grownBy V' v.ownBlock) (hv : ∀ k, v.ownBlock = some k → V0.heap.size ≤ k) : InsB w1 ge g cs pb S p V0 V' := by
  have h1 := h.wg
  have h2 := h.glt
  have h3 := h.plt
  have h4 := h.xlt
  refine ⟨own_kept h.own hG (fun k a b => ?_), h.box.grown hG (fun e => ?_), h.plc.grown hG (fun e => ?_), h.bel.grown hG h.bel.size (fun k hk => ?_), Nat.le_trans h.le ?_, h1, h2, h3, h4⟩
  · have := hv k b
    have := Option.some.inj a
    simp at this
    omega
  · have := hv _ e.symm
    omega
  · have := hv _ e.symm
    omega
  · have := hv k hk
    omega
  · obtain ⟨-, -, -, h5, -⟩ := hG
    exact h5
theorem InsB.cells (h : InsB w1 ge g cs pb S p V0 V) : V.cell? ⟨w1.heap.size + 1, 1, none⟩ = some (.slice (some ⟨g, 0, none⟩) S.length cs) ∧ V.cell? ⟨pb, 0, none⟩ = some (.int .i64 p.src) ∧ V.cell? ⟨pb, 1, none⟩ = some (.int .i64 p.dst) ∧ V.cell? ⟨pb, 2, none⟩ = some (.int .i64 p.delay) ∧ V.cell? ⟨pb, 3, none⟩ = some (.int .i64 p.tokens) := by
  obtain ⟨-, x1⟩ := h.box.c2
  obtain ⟨p0, p1, p2, p3⟩ := h.plc.c4
  exact ⟨x1, p0, p1, p2, p3⟩
end
def SepB (v : Value) (b : Nat) : Prop := ∀ k, v.ownBlock = some k → k ≠ b
theorem SepB.app {v v' : Value} {b : Nat} {w : World} (h : SepB v b) (hD : v'.ownBlock = v.ownBlock ∨ v'.ownBlock = some w.heap.size) (hb : b < w.heap.size) : SepB v' b := by
  intro k hk
  rcases hD with e | e
  · exact h k (e ▸ hk)
  · rw [e] at hk
    have := Option.some.inj hk
    omega
set_option maxHeartbeats 16000000 in
set_option maxRecDepth 100000 in
theorem spec_SimplifyGraph (v : Value) (ge : Int) (gp : List Place) (w : World) (h0 : Lst Place.cells 4 w w.heap.size v gp) :
    Calls Try.prog 44 #[.agg #[.int .i64 ge, v]] w (RetGI 101 w (simplF ge gp).1 (simplF ge gp).2.1 (simplF ge gp).2.2) := by
  obtain ⟨A, c, rfl⟩ := h0.shape
  go_enter Try.func44, Try.ntmps44
  go_wp2_with fail
  have hW : Below w.heap.size w ((w.alloc (.cells #[.int .i64 ge, .slice A gp.length c] 32)).alloc (.cells #[.int .i64 0, .slice none 0 0] 32)) := (((Below.refl _ _).alloc (Nat.le_refl _) _).alloc (by first | (simp; done) | (simp; omega)) _); have hb0 : Blk ((w.alloc (.cells #[.int .i64 ge, .slice A gp.length c] 32)).alloc (.cells #[.int .i64 0, .slice none 0 0] 32)) (w.heap.size) 32 #[.int .i64 ge, .slice A gp.length c] := ((Blk.newAt w _ (by first | rfl | (simp; done) | (simp; omega))).alloc _); have hb1 : Blk ((w.alloc (.cells #[.int .i64 ge, .slice A gp.length c] 32)).alloc (.cells #[.int .i64 0, .slice none 0 0] 32)) (w.heap.size + 1) 32 #[.int .i64 0, .slice none 0 0] := (Blk.newAt (w.alloc (.cells #[.int .i64 ge, .slice A gp.length c] 32)) _ (by first | rfl | (simp; done) | (simp; omega))); replace h0 := h0.now hW; have hsW : w.heap.size + 2 = ((w.alloc (.cells #[.int .i64 ge, .slice A gp.length c] 32)).alloc (.cells #[.int .i64 0, .slice none 0 0] 32)).heap.size := (by first | rfl | (simp; done) | (simp; omega)); generalize ((w.alloc (.cells #[.int .i64 ge, .slice A gp.length c] 32)).alloc (.cells #[.int .i64 0, .slice none 0 0] 32)) = W at *; replace hsW := Lib.hid hsW
  refine (spec_IsEventGraph _ _ _ _ h0).mono ?_
  rintro e w1 ⟨rfl, hB⟩
  replace hW := hW.trans (hB.mono hW.size); replace h0 := h0.now hB; replace hb0 := hb0.now hB; replace hb1 := hb1.now hB
  clear hB
  obtain ⟨k0, k1⟩ := hb0.c2
  obtain ⟨r0, r1⟩ := hb1.c2
  obtain ⟨z0, z1⟩ := hb1.f2
  cases hg : okGraph ge gp
  · have hE : Hid (simplF ge gp = (0, [], 1)) := by show _ = _; simp [simplF, hg]
    clear hg
    go_wp2
    refine bodyPost_ret (v := .tuple #[.agg #[.int .i64 0, .slice none 0 0], .int .i64 1]) (by simp [results, Try.results44, go_sem, r0, r1]) rfl (RetGI.of hE.out ⟨_, rfl, Own.nil, ?_⟩)
    first | exact hW | exact ((hW.setCell (by simp) _).setCell (by simp) _)
  · have hE : Hid (simplF ge gp = (ge, simpF gp, 0)) := by show _ = _; simp [simplF, hg]
    have hl := okGraph_len hg
    clear hg
    go_wp2_with fail
    clear k0 k1 r0 r1 z0 z1
    go_loopw [5, 6, 7] (fun i _ _ wr => ∃ (k g cs : Nat), k ≤ gp.length ∧ i = .int .i64 k ∧ Own Place.cells 4 101 wr w1.heap.size (.slice (some ⟨g, 0, none⟩) (simpF (gp.take k)).length cs) (simpF (gp.take k)) ∧ Blk wr (w1.heap.size + 1) 32 #[.int .i64 ge, .slice (some ⟨g, 0, none⟩) (simpF (gp.take k)).length cs] ∧ Below w1.heap.size w1 wr) (fun i _ _ _ => gp.length - (intOf i).toNat)
    case atStart => exact ⟨0, w1.heap.size, 0, Nat.zero_le _, rfl, (own_new0 Place.cells 4 w1 101 w1.heap.size (Nat.le_refl _)).alloc _, Blk.newAt _ _ (by simp), ((Below.refl _ _).alloc (Nat.le_refl _) _).alloc (by simp) _⟩
    case round =>
      obtain ⟨k, g, cs, hk, rfl, hO, hx, hB⟩ := hrel
      by_cases hlt : k < gp.length
      · obtain ⟨b, off, rfl, hb, c0, c1, c2, c3⟩ := places_at (h0.now hB) k hlt
        have hS1 := simpF_len gp k hk
        have hsn := Lib.hid (simpF_snoc gp k hlt)
        generalize simpF (gp.take k) = S at *
        obtain ⟨p, hp⟩ : ∃ p, gp[k] = p := ⟨_, rfl⟩
        rw [hp] at c0 c1 c2 c3 hsn
        clear hp
        have hq0 := hb0.now hB
        obtain ⟨k0, k1⟩ := hq0.c2
        have l0 := hq0.lt
        have i1 : (0 : Int) ≤ (k : Int) := by omega
        have i2 : (k : Int) < (gp.length : Int) := by omega
        go_wp2_with fail
        have hO2 := hO.alloc (.cells #[.int .i64 p.src, .int .i64 p.dst, .int .i64 p.delay, .int .i64 p.tokens] 101)
        have hx2 := hx.alloc (.cells #[.int .i64 p.src, .int .i64 p.dst, .int .i64 p.delay, .int .i64 p.tokens] 101)
        have hp2 : Blk (wr.alloc (.cells #[.int .i64 p.src, .int .i64 p.dst, .int .i64 p.delay, .int .i64 p.tokens] 101)) wr.heap.size 101 #[.int .i64 p.src, .int .i64 p.dst, .int .i64 p.delay, .int .i64 p.tokens] := Blk.newAt wr _ rfl
        have hB2 := hB.alloc hB.size (.cells #[.int .i64 p.src, .int .i64 p.dst, .int .i64 p.delay, .int .i64 p.tokens] 101)
        have hxp := hx.lt
        have hgp := (hO.lt g rfl).2
        have hgw := (hO.lt g rfl).1
        have hcap : S.length ≤ cs := by
          rcases hO.2 with ⟨hv, _⟩ | ⟨g', cap, cur, hv, _, _, h1, _⟩
          · cases hv
          · injection hv with _ _ hc
            omega
        clear hO hx hB c0 c1 c2 c3 hq0 k0 k1 l0 hb h0 hb0
        generalize (wr.alloc (.cells #[.int .i64 p.src, .int .i64 p.dst, .int .i64 p.delay, .int .i64 p.tokens] 101)) = wq at *
        generalize wr.heap.size = pb at *
        by_cases hBn : befN S p < S.length
        · go_loopw [7] (fun j w2 => ∃ t : Nat, t ≤ befN S p ∧ j = .int .i64 t ∧ Below wq.heap.size wq w2) (fun j _ => S.length - (intOf j).toNat)
          case atStart => exact ⟨0, Nat.zero_le _, rfl, Below.refl _ _⟩
          case round =>
            obtain ⟨t, ht, rfl, hBt⟩ := hrel
            have hts : t < S.length := by omega
            have hOt := hO2.now hBt
            obtain ⟨-, -, -, q0, q1, q2, q3⟩ := own_places_at hOt t hts
            obtain ⟨q, hq⟩ : ∃ q, S[t] = q := ⟨_, rfl⟩
            rw [hq] at q0 q1 q2 q3
            obtain ⟨x0, x1⟩ := (hx2.now hBt).c2
            obtain ⟨p0, p1, p2, p3⟩ := (hp2.now hBt).c4
            have j1 : (t : Int) < (S.length : Int) := by omega
            by_cases hte : t = befN S p
            · have hbH : Hid (keyLt q p = false) := by
                have := befN_at hBn
                show _ = _
                rw [← hq]
                simp only [hte]
                exact this
              have hteH := Lib.hid hte
              have hqH := Lib.hid hq
              clear hte hq ht
              go_wp2
              refine wp_region_held_drew (S := fun w' => w'.cell? ⟨w1.heap.size + 1, 1, none⟩ = some (.slice (some ⟨g, 0, none⟩) S.length cs) ∧ w'.cell? ⟨pb, 0, none⟩ = some (.int .i64 p.src) ∧ w'.cell? ⟨pb, 1, none⟩ = some (.int .i64 p.dst) ∧ w'.cell? ⟨pb, 2, none⟩ = some (.int .i64 p.delay) ∧ w'.cell? ⟨pb, 3, none⟩ = some (.int .i64 p.tokens) ∧ w'.cell? ⟨g, t * 4, none⟩ = some (.int .i64 q.src) ∧ w'.cell? ⟨g, t * 4 + 1, none⟩ = some (.int .i64 q.dst) ∧ w'.cell? ⟨g, t * 4 + 2, none⟩ = some (.int .i64 q.delay) ∧ w'.cell? ⟨g, t * 4 + 3, none⟩ = some (.int .i64 q.tokens)) (by kernel_rfl) ⟨x1, p0, p1, p2, p3, q0, q1, q2, q3⟩ (fun hH => ?_)
              refine tkH 0 (v := ?_) rfl (fun _ _ _ h => h) (Or.inl ⟨by rfl, ?_⟩) hH ?_
              rotate_left
              · intro w9 hSw
                try dsimp only at hSw
                obtain ⟨s0, s1, s2, s3, s4, s5, s6, s7, s8⟩ := hSw
                go_simp
                try with_reducible rfl
              try simp only [Act.put, List.setIfInBounds_toArray, List.set_cons_zero, List.set_cons_succ]
              refine tkH 1 (v := ?_) rfl (fun _ _ _ h => h) (Or.inl ⟨by rfl, ?_⟩) hH ?_
              rotate_left
              · intro w9 hSw
                try dsimp only at hSw
                obtain ⟨s0, s1, s2, s3, s4, s5, s6, s7, s8⟩ := hSw
                go_simp
                try with_reducible rfl
              try simp only [Act.put, List.setIfInBounds_toArray, List.set_cons_zero, List.set_cons_succ]
              refine tkH 2 (v := ?_) rfl (fun _ _ _ h => h) (Or.inl ⟨by rfl, ?_⟩) hH ?_
              rotate_left
              · intro w9 hSw
                try dsimp only at hSw
                obtain ⟨s0, s1, s2, s3, s4, s5, s6, s7, s8⟩ := hSw
                go_simp
                try with_reducible rfl
              try simp only [Act.put, List.setIfInBounds_toArray, List.set_cons_zero, List.set_cons_succ]
              refine tkH 3 (v := ?_) rfl (fun _ _ _ h => h) (Or.inl ⟨by rfl, ?_⟩) hH ?_
              rotate_left
              · intro w9 hSw
                try dsimp only at hSw
                obtain ⟨s0, s1, s2, s3, s4, s5, s6, s7, s8⟩ := hSw
                go_simp
                try with_reducible rfl
              try simp only [Act.put, List.setIfInBounds_toArray, List.set_cons_zero, List.set_cons_succ]
              refine tkH 4 (v := ?_) rfl (fun _ _ _ h => h) (Or.inl ⟨by rfl, ?_⟩) hH ?_
              rotate_left
              · intro w9 hSw
                try dsimp only at hSw
                obtain ⟨s0, s1, s2, s3, s4, s5, s6, s7, s8⟩ := hSw
                go_simp
                try with_reducible rfl
              try simp only [Act.put, List.setIfInBounds_toArray, List.set_cons_zero, List.set_cons_succ]
              refine tkH 5 (v := ?_) rfl (fun _ _ _ h => h) (Or.inl ⟨by rfl, ?_⟩) hH ?_
              rotate_left
              · intro w9 hSw
                try dsimp only at hSw
                obtain ⟨s0, s1, s2, s3, s4, s5, s6, s7, s8⟩ := hSw
                go_simp
                try with_reducible rfl
              try simp only [Act.put, List.setIfInBounds_toArray, List.set_cons_zero, List.set_cons_succ]
              refine tkH 6 (v := ?_) rfl (fun _ _ _ h => h) (Or.inl ⟨by rfl, ?_⟩) hH ?_
              rotate_left
              · intro w9 hSw
                try dsimp only at hSw
                obtain ⟨s0, s1, s2, s3, s4, s5, s6, s7, s8⟩ := hSw
                go_simp
                try with_reducible rfl
              try simp only [Act.put, List.setIfInBounds_toArray, List.set_cons_zero, List.set_cons_succ]
              refine tkH 7 (v := ?_) rfl (fun _ _ _ h => h) (Or.inl ⟨by rfl, ?_⟩) hH ?_
              rotate_left
              · intro w9 hSw
                try dsimp only at hSw
                obtain ⟨s0, s1, s2, s3, s4, s5, s6, s7, s8⟩ := hSw
                go_simp
                try with_reducible rfl
              try simp only [Act.put, List.setIfInBounds_toArray, List.set_cons_zero, List.set_cons_succ]
              refine tkH 8 (v := ?_) rfl (fun _ _ _ h => h) (Or.inl ⟨by rfl, ?_⟩) hH ?_
              rotate_left
              · intro w9 hSw
                try dsimp only at hSw
                obtain ⟨s0, s1, s2, s3, s4, s5, s6, s7, s8⟩ := hSw
                go_simp
                try with_reducible rfl
              try simp only [Act.put, List.setIfInBounds_toArray, List.set_cons_zero, List.set_cons_succ]
              refine tkH 9 (v := ?_) rfl (fun _ _ _ h => h) (Or.inl ⟨by rfl, ?_⟩) hH ?_
              rotate_left
              · intro w9 hSw
                try dsimp only at hSw
                obtain ⟨s0, s1, s2, s3, s4, s5, s6, s7, s8⟩ := hSw
                go_simp
                try with_reducible rfl
              try simp only [Act.put, List.setIfInBounds_toArray, List.set_cons_zero, List.set_cons_succ]
              refine tkH 10 (v := ?_) rfl (fun _ _ _ h => h) (Or.inl ⟨by rfl, ?_⟩) hH ?_
              rotate_left
              · intro w9 hSw
                try dsimp only at hSw
                obtain ⟨s0, s1, s2, s3, s4, s5, s6, s7, s8⟩ := hSw
                go_simp
                try with_reducible rfl
              try simp only [Act.put, List.setIfInBounds_toArray, List.set_cons_zero, List.set_cons_succ]
              refine tkH 11 (v := ?_) rfl (fun _ _ _ h => h) (Or.inl ⟨by rfl, ?_⟩) hH ?_
              rotate_left
              · intro w9 hSw
                try dsimp only at hSw
                obtain ⟨s0, s1, s2, s3, s4, s5, s6, s7, s8⟩ := hSw
                go_simp
                try with_reducible rfl
              try simp only [Act.put, List.setIfInBounds_toArray, List.set_cons_zero, List.set_cons_succ]
              refine wpAnyH_ready (rs := [12]) (by kernel_rfl) (by simp) ?_
              refine AllReadyH.cons rfl (fun K hK => ?_) AllReadyH.nil
              go_simp
              go_at_call 101
              refine (spec_l11Before q p _).mono ?_
              rintro e9 w9 ⟨rfl, hb9⟩
              rw [hbH.out]
              have ex1 := cell_keep (w := wr.drew) x1 hb9
              have ep0 := cell_keep (w := wr.drew) p0 hb9
              have ep1 := cell_keep (w := wr.drew) p1 hb9
              have ep2 := cell_keep (w := wr.drew) p2 hb9
              have ep3 := cell_keep (w := wr.drew) p3 hb9
              have eq0 := cell_keep (w := wr.drew) q0 hb9
              have eq1 := cell_keep (w := wr.drew) q1 hb9
              have eq2 := cell_keep (w := wr.drew) q2 hb9
              have eq3 := cell_keep (w := wr.drew) q3 hb9
              refine hK.out _ _ ⟨ex1, ep0, ep1, ep2, ep3, eq0, eq1, eq2, eq3⟩ (fun hH => ?_)
              clear hK K
              try simp only [Act.put, List.setIfInBounds_toArray, List.set_cons_zero, List.set_cons_succ]
              refine tkH 13 (v := ?_) rfl (fun _ _ _ h => h) (Or.inl ⟨by rfl, ?_⟩) hH ?_
              rotate_left
              · intro w9 hSw
                try dsimp only at hSw
                obtain ⟨s0, s1, s2, s3, s4, s5, s6, s7, s8⟩ := hSw
                go_simp
                try with_reducible rfl
              try simp only [Act.put, List.setIfInBounds_toArray, List.set_cons_zero, List.set_cons_succ]
              refine wpAnyH_done (by kernel_rfl) ?_ _
              have hBu : Below wq.heap.size wq w9 := hBt.trans ((below_undrew hb9).mono hBt.size)
              clear q0 q1 q2 q3 x0 x1 p0 p1 p2 p3 hb9 hbH eq0 eq1 eq2 eq3 ex1 ep0 ep1 ep2 ep3 hH hOt
              try clear hH
              obtain ⟨x0, x1⟩ := (hx2.now hBu).c2
              obtain ⟨p0, p1, p2, p3⟩ := (hp2.now hBu).c4
              have hO9 := hO2.now hBu
              obtain ⟨-, -, -, q0, q1, q2, q3⟩ := own_places_at hO9 t hts
              rw [hqH.out] at q0 q1 q2 q3
              obtain ⟨b2, hb2⟩ : ∃ b2, keyLt p q = b2 := ⟨_, rfl⟩
              have hbH := Lib.hid hb2
              clear hb2 hO9
              go_wp2
              refine wp_region_held_drew (S := fun w' => w'.cell? ⟨w1.heap.size + 1, 1, none⟩ = some (.slice (some ⟨g, 0, none⟩) S.length cs) ∧ w'.cell? ⟨pb, 0, none⟩ = some (.int .i64 p.src) ∧ w'.cell? ⟨pb, 1, none⟩ = some (.int .i64 p.dst) ∧ w'.cell? ⟨pb, 2, none⟩ = some (.int .i64 p.delay) ∧ w'.cell? ⟨pb, 3, none⟩ = some (.int .i64 p.tokens) ∧ w'.cell? ⟨g, t * 4, none⟩ = some (.int .i64 q.src) ∧ w'.cell? ⟨g, t * 4 + 1, none⟩ = some (.int .i64 q.dst) ∧ w'.cell? ⟨g, t * 4 + 2, none⟩ = some (.int .i64 q.delay) ∧ w'.cell? ⟨g, t * 4 + 3, none⟩ = some (.int .i64 q.tokens)) (by kernel_rfl) ⟨x1, p0, p1, p2, p3, q0, q1, q2, q3⟩ (fun hH => ?_)
              refine tkH 0 (v := ?_) rfl (fun _ _ _ h => h) (Or.inl ⟨by rfl, ?_⟩) hH ?_
              rotate_left
              · intro w9 hSw
                try dsimp only at hSw
                obtain ⟨s0, s1, s2, s3, s4, s5, s6, s7, s8⟩ := hSw
                go_simp
                try with_reducible rfl
              try simp only [Act.put, List.setIfInBounds_toArray, List.set_cons_zero, List.set_cons_succ]
              refine tkH 1 (v := ?_) rfl (fun _ _ _ h => h) (Or.inl ⟨by rfl, ?_⟩) hH ?_
              rotate_left
              · intro w9 hSw
                try dsimp only at hSw
                obtain ⟨s0, s1, s2, s3, s4, s5, s6, s7, s8⟩ := hSw
                go_simp
                try with_reducible rfl
              try simp only [Act.put, List.setIfInBounds_toArray, List.set_cons_zero, List.set_cons_succ]
              refine tkH 2 (v := ?_) rfl (fun _ _ _ h => h) (Or.inl ⟨by rfl, ?_⟩) hH ?_
              rotate_left
              · intro w9 hSw
                try dsimp only at hSw
                obtain ⟨s0, s1, s2, s3, s4, s5, s6, s7, s8⟩ := hSw
                go_simp
                try with_reducible rfl
              try simp only [Act.put, List.setIfInBounds_toArray, List.set_cons_zero, List.set_cons_succ]
              refine tkH 3 (v := ?_) rfl (fun _ _ _ h => h) (Or.inl ⟨by rfl, ?_⟩) hH ?_
              rotate_left
              · intro w9 hSw
                try dsimp only at hSw
                obtain ⟨s0, s1, s2, s3, s4, s5, s6, s7, s8⟩ := hSw
                go_simp
                try with_reducible rfl
              try simp only [Act.put, List.setIfInBounds_toArray, List.set_cons_zero, List.set_cons_succ]
              refine tkH 4 (v := ?_) rfl (fun _ _ _ h => h) (Or.inl ⟨by rfl, ?_⟩) hH ?_
              rotate_left
              · intro w9 hSw
                try dsimp only at hSw
                obtain ⟨s0, s1, s2, s3, s4, s5, s6, s7, s8⟩ := hSw
                go_simp
                try with_reducible rfl
              try simp only [Act.put, List.setIfInBounds_toArray, List.set_cons_zero, List.set_cons_succ]
              refine tkH 5 (v := ?_) rfl (fun _ _ _ h => h) (Or.inl ⟨by rfl, ?_⟩) hH ?_
              rotate_left
              · intro w9 hSw
                try dsimp only at hSw
                obtain ⟨s0, s1, s2, s3, s4, s5, s6, s7, s8⟩ := hSw
                go_simp
                try with_reducible rfl
              try simp only [Act.put, List.setIfInBounds_toArray, List.set_cons_zero, List.set_cons_succ]
              refine tkH 6 (v := ?_) rfl (fun _ _ _ h => h) (Or.inl ⟨by rfl, ?_⟩) hH ?_
              rotate_left
              · intro w9 hSw
                try dsimp only at hSw
                obtain ⟨s0, s1, s2, s3, s4, s5, s6, s7, s8⟩ := hSw
                go_simp
                try with_reducible rfl
              try simp only [Act.put, List.setIfInBounds_toArray, List.set_cons_zero, List.set_cons_succ]
              refine tkH 7 (v := ?_) rfl (fun _ _ _ h => h) (Or.inl ⟨by rfl, ?_⟩) hH ?_
              rotate_left
              · intro w9 hSw
                try dsimp only at hSw
                obtain ⟨s0, s1, s2, s3, s4, s5, s6, s7, s8⟩ := hSw
                go_simp
                try with_reducible rfl
              try simp only [Act.put, List.setIfInBounds_toArray, List.set_cons_zero, List.set_cons_succ]
              refine tkH 8 (v := ?_) rfl (fun _ _ _ h => h) (Or.inl ⟨by rfl, ?_⟩) hH ?_
              rotate_left
              · intro w9 hSw
                try dsimp only at hSw
                obtain ⟨s0, s1, s2, s3, s4, s5, s6, s7, s8⟩ := hSw
                go_simp
                try with_reducible rfl
              try simp only [Act.put, List.setIfInBounds_toArray, List.set_cons_zero, List.set_cons_succ]
              refine tkH 9 (v := ?_) rfl (fun _ _ _ h => h) (Or.inl ⟨by rfl, ?_⟩) hH ?_
              rotate_left
              · intro w9 hSw
                try dsimp only at hSw
                obtain ⟨s0, s1, s2, s3, s4, s5, s6, s7, s8⟩ := hSw
                go_simp
                try with_reducible rfl
              try simp only [Act.put, List.setIfInBounds_toArray, List.set_cons_zero, List.set_cons_succ]
              refine tkH 10 (v := ?_) rfl (fun _ _ _ h => h) (Or.inl ⟨by rfl, ?_⟩) hH ?_
              rotate_left
              · intro w9 hSw
                try dsimp only at hSw
                obtain ⟨s0, s1, s2, s3, s4, s5, s6, s7, s8⟩ := hSw
                go_simp
                try with_reducible rfl
              try simp only [Act.put, List.setIfInBounds_toArray, List.set_cons_zero, List.set_cons_succ]
              refine tkH 11 (v := ?_) rfl (fun _ _ _ h => h) (Or.inl ⟨by rfl, ?_⟩) hH ?_
              rotate_left
              · intro w9 hSw
                try dsimp only at hSw
                obtain ⟨s0, s1, s2, s3, s4, s5, s6, s7, s8⟩ := hSw
                go_simp
                try with_reducible rfl
              try simp only [Act.put, List.setIfInBounds_toArray, List.set_cons_zero, List.set_cons_succ]
              refine wpAnyH_ready (rs := [12]) (by kernel_rfl) (by simp) ?_
              refine AllReadyH.cons rfl (fun K hK => ?_) AllReadyH.nil
              go_simp
              go_at_call 101
              refine (spec_l11Before p q _).mono ?_
              rintro e9 w8 ⟨rfl, hb9⟩
              rw [hbH.out]
              have ex1 := cell_keep (w := w9.drew) x1 hb9
              have ep0 := cell_keep (w := w9.drew) p0 hb9
              have ep1 := cell_keep (w := w9.drew) p1 hb9
              have ep2 := cell_keep (w := w9.drew) p2 hb9
              have ep3 := cell_keep (w := w9.drew) p3 hb9
              have eq0 := cell_keep (w := w9.drew) q0 hb9
              have eq1 := cell_keep (w := w9.drew) q1 hb9
              have eq2 := cell_keep (w := w9.drew) q2 hb9
              have eq3 := cell_keep (w := w9.drew) q3 hb9
              refine hK.out _ _ ⟨ex1, ep0, ep1, ep2, ep3, eq0, eq1, eq2, eq3⟩ (fun hH => ?_)
              clear hK K
              try simp only [Act.put, List.setIfInBounds_toArray, List.set_cons_zero, List.set_cons_succ]
              refine tkH 13 (v := ?_) rfl (fun _ _ _ h => h) (Or.inl ⟨by rfl, ?_⟩) hH ?_
              rotate_left
              · intro w9 hSw
                try dsimp only at hSw
                obtain ⟨s0, s1, s2, s3, s4, s5, s6, s7, s8⟩ := hSw
                go_simp
                try with_reducible rfl
              try simp only [Act.put, List.setIfInBounds_toArray, List.set_cons_zero, List.set_cons_succ]
              refine tkH 14 (v := ?_) rfl (fun _ _ _ h => h) (Or.inl ⟨by rfl, ?_⟩) hH ?_
              rotate_left
              · intro w9 hSw
                try dsimp only at hSw
                obtain ⟨s0, s1, s2, s3, s4, s5, s6, s7, s8⟩ := hSw
                go_simp
                try with_reducible rfl
              try simp only [Act.put, List.setIfInBounds_toArray, List.set_cons_zero, List.set_cons_succ]
              refine wpAnyH_done (by kernel_rfl) ?_ _
              have hBv : Below wq.heap.size wq w8 := hBu.trans ((below_undrew hb9).mono hBu.size)
              clear q0 q1 q2 q3 x0 x1 p0 p1 p2 p3 hb9 eq0 eq1 eq2 eq3 ex1 ep0 ep1 ep2 ep3 hH hBu hBt
              try clear hH
              obtain ⟨x0, x1⟩ := (hx2.now hBv).c2
              obtain ⟨p0, p1, p2, p3⟩ := (hp2.now hBv).c4
              have hO9 := hO2.now hBv
              have hx9 := hx2.now hBv
              have hp9 := hp2.now hBv
              have hB9 := hB2.trans (hBv.mono hB2.size)
              cases b2 with
              | true =>
                have hfin := Lib.hid (hsn.out.trans (insP_in hteH.out hts hqH.out hbH.out))
                clear hbH hteH hqH hsn hB2 hx2 hp2 hO2 hBv hBn
                have hNe : Hid (([] : List Place) ++ S.take t ++ [p] ++ S.drop t = simpF (gp.take (k + 1))) := by
                  show _ = _
                  rw [hfin.out, List.nil_append]
                have jc : (t : Int) ≤ (cs : Int) := by omega
                have jl : (t : Int) ≤ (S.length : Int) := by omega
                have hS40 : S.length ≤ 40 := by omega
                go_wp2
                refine wp_region_E (fun w' => w'.cell? ⟨w1.heap.size + 1, 1, none⟩ = some (.slice (some ⟨g, 0, none⟩) S.length cs) ∧ w'.cell? ⟨pb, 0, none⟩ = some (.int .i64 p.src) ∧ w'.cell? ⟨pb, 1, none⟩ = some (.int .i64 p.dst) ∧ w'.cell? ⟨pb, 2, none⟩ = some (.int .i64 p.delay) ∧ w'.cell? ⟨pb, 3, none⟩ = some (.int .i64 p.tokens)) 15 (by kernel_rfl) ?_
                have hS0 : (fun w' : World => w'.cell? ⟨w1.heap.size + 1, 1, none⟩ = some (.slice (some ⟨g, 0, none⟩) S.length cs) ∧ w'.cell? ⟨pb, 0, none⟩ = some (.int .i64 p.src) ∧ w'.cell? ⟨pb, 1, none⟩ = some (.int .i64 p.dst) ∧ w'.cell? ⟨pb, 2, none⟩ = some (.int .i64 p.delay) ∧ w'.cell? ⟨pb, 3, none⟩ = some (.int .i64 p.tokens)) w8.drew := ⟨x1, p0, p1, p2, p3⟩
                have hb : InsB w1 ge g cs pb S p w8.drew w8.drew := ⟨hO9, hx9, hp9, hB9.drew, Nat.le_refl _, hgw, (hO9.lt g rfl).2, hp9.lt, hx9.lt⟩
                clear hO9 hx9 hp9 hB9 x0 x1 p0 p1 p2 p3
                generalize w8.drew = V0 at *
                refine wpAnyE_take (i := 1) (v := ?_) rfl (by kernel_rfl) (by kernel_rfl) (by kernel_rfl) (by kernel_rfl) (by kernel_rfl) (fun _ _ _ h => h) hS0 (by rfl) ?_ ?_
                rotate_left
                · intro w9 hSw
                  try dsimp only at hSw
                  obtain ⟨s0, s1, s2, s3, s4⟩ := hSw
                  go_simp
                  try with_reducible rfl
                try simp only [Act.put, List.setIfInBounds_toArray, List.set_cons_zero, List.set_cons_succ]
                refine wpAnyE_take (i := 2) (v := ?_) rfl (by kernel_rfl) (by kernel_rfl) (by kernel_rfl) (by kernel_rfl) (by kernel_rfl) (fun _ _ _ h => h) hS0 (by rfl) ?_ ?_
                rotate_left
                · intro w9 hSw
                  try dsimp only at hSw
                  obtain ⟨s0, s1, s2, s3, s4⟩ := hSw
                  go_simp
                  try with_reducible rfl
                try simp only [Act.put, List.setIfInBounds_toArray, List.set_cons_zero, List.set_cons_succ]
                refine wpAnyE_take (i := 3) (v := ?_) rfl (by kernel_rfl) (by kernel_rfl) (by kernel_rfl) (by kernel_rfl) (by kernel_rfl) (fun _ _ _ h => h) hS0 (by rfl) ?_ ?_
                rotate_left
                · intro w9 hSw
                  try dsimp only at hSw
                  obtain ⟨s0, s1, s2, s3, s4⟩ := hSw
                  go_simp
                  try with_reducible rfl
                try simp only [Act.put, List.setIfInBounds_toArray, List.set_cons_zero, List.set_cons_succ]
                refine wpAnyE_take (i := 4) (v := ?_) rfl (by kernel_rfl) (by kernel_rfl) (by kernel_rfl) (by kernel_rfl) (by kernel_rfl) (fun _ _ _ h => h) hS0 (by rfl) ?_ ?_
                rotate_left
                · intro w9 hSw
                  try dsimp only at hSw
                  obtain ⟨s0, s1, s2, s3, s4⟩ := hSw
                  go_simp
                  try with_reducible rfl
                try simp only [Act.put, List.setIfInBounds_toArray, List.set_cons_zero, List.set_cons_succ]
                refine wpAnyE_take (i := 6) (v := ?_) rfl (by kernel_rfl) (by kernel_rfl) (by kernel_rfl) (by kernel_rfl) (by kernel_rfl) (fun _ _ _ h => h) hS0 (by rfl) ?_ ?_
                rotate_left
                · intro w9 hSw
                  try dsimp only at hSw
                  obtain ⟨s0, s1, s2, s3, s4⟩ := hSw
                  go_simp
                  try with_reducible rfl
                try simp only [Act.put, List.setIfInBounds_toArray, List.set_cons_zero, List.set_cons_succ]
                refine wpAnyE_take (i := 9) (v := ?_) rfl (by kernel_rfl) (by kernel_rfl) (by kernel_rfl) (by kernel_rfl) (by kernel_rfl) (fun _ _ _ h => h) hS0 (by rfl) ?_ ?_
                rotate_left
                · intro w9 hSw
                  try dsimp only at hSw
                  obtain ⟨s0, s1, s2, s3, s4⟩ := hSw
                  go_simp
                  try with_reducible rfl
                try simp only [Act.put, List.setIfInBounds_toArray, List.set_cons_zero, List.set_cons_succ]
                refine wpAnyE_take (i := 10) (v := ?_) rfl (by kernel_rfl) (by kernel_rfl) (by kernel_rfl) (by kernel_rfl) (by kernel_rfl) (fun _ _ _ h => h) hS0 (by rfl) ?_ ?_
                rotate_left
                · intro w9 hSw
                  try dsimp only at hSw
                  obtain ⟨s0, s1, s2, s3, s4⟩ := hSw
                  go_simp
                  try with_reducible rfl
                try simp only [Act.put, List.setIfInBounds_toArray, List.set_cons_zero, List.set_cons_succ]
                refine wpAnyE_take (i := 11) (v := ?_) rfl (by kernel_rfl) (by kernel_rfl) (by kernel_rfl) (by kernel_rfl) (by kernel_rfl) (fun _ _ _ h => h) hS0 (by rfl) ?_ ?_
                rotate_left
                · intro w9 hSw
                  try dsimp only at hSw
                  obtain ⟨s0, s1, s2, s3, s4⟩ := hSw
                  go_simp
                  try with_reducible rfl
                try simp only [Act.put, List.setIfInBounds_toArray, List.set_cons_zero, List.set_cons_succ]
                refine wpAnyE_take (i := 12) (v := ?_) rfl (by kernel_rfl) (by kernel_rfl) (by kernel_rfl) (by kernel_rfl) (by kernel_rfl) (fun _ _ _ h => h) hS0 (by rfl) ?_ ?_
                rotate_left
                · intro w9 hSw
                  try dsimp only at hSw
                  obtain ⟨s0, s1, s2, s3, s4⟩ := hSw
                  go_simp
                  try with_reducible rfl
                try simp only [Act.put, List.setIfInBounds_toArray, List.set_cons_zero, List.set_cons_succ]
                refine wpAnyE_two (i := 0) (j := 7) rfl rfl (by kernel_rfl) (fun K hK => ?_) (fun K hK => ?_)
                · go_simp
                  have hN := own_new0 Place.cells 4 V0 101 V0.heap.size hb.le
                  try simp only [World.size_alloc] at hN
                  replace hb := hb.alloc (.cells #[] 101)
                  have hc := hb.cells
                  refine hK.out _ _ (fun _ => hc) ?_
                  clear hK K hc
                  try simp only [Act.put, List.setIfInBounds_toArray, List.set_cons_zero, List.set_cons_succ]
                  refine wpAnyE_two (i := 5) (j := 7) rfl rfl (by kernel_rfl) (fun K hK => ?_) (fun K hK => ?_)
                  · have hNl := (hb.own.lst.take Place.cells_len t (by omega))
                    refine step_append_lst rfl _ _ 30 rfl Place.cells 4 Place.cells_one (by omega) V0.heap.size 101 _ 32 Try.underlying30 info_place rfl _ [] rfl hN _ _ _ _ (S.take t) rfl hNl (by simp <;> omega) (by omega) hb.le ?_
                    intro u5 wz5 hO1 hG1 hD1
                    replace hb := hb.grown hG1 (fun k hk => (hN.lt k hk).1)
                    clear hN hG1 hD1 hNl
                    have hN := hO1
                    clear hO1
                    have hc := hb.cells
                    refine hK.out _ _ (fun _ => hc) ?_
                    clear hK K hc
                    try simp only [Act.put, List.setIfInBounds_toArray, List.set_cons_zero, List.set_cons_succ]
                    refine wpAnyE_one (i := 7) rfl (by kernel_rfl) (fun K hK => ?_)
                    go_simp
                    have h7 := own_newP wz5 V0.heap.size hb.le p
                    have hs7 : SepB u5 wz5.heap.size := fun k h e => by have := (hN.lt k h).2; omega
                    try simp only [World.size_alloc] at hs7
                    replace hN := hN.alloc (.cells #[.int .i64 p.src, .int .i64 p.dst, .int .i64 p.delay, .int .i64 p.tokens] 101)
                    try simp only [World.size_alloc] at h7
                    replace hb := hb.alloc (.cells #[.int .i64 p.src, .int .i64 p.dst, .int .i64 p.delay, .int .i64 p.tokens] 101)
                    have hc := hb.cells
                    refine hK.out _ _ (fun _ => hc) ?_
                    clear hK K hc
                    try simp only [Act.put, List.setIfInBounds_toArray, List.set_cons_zero, List.set_cons_succ]
                    refine wpAnyE_one (i := 8) rfl (by kernel_rfl) (fun K hK => ?_)
                    have hNl := h7.lst
                    refine step_append_lst rfl _ _ 30 rfl Place.cells 4 Place.cells_one (by omega) V0.heap.size 101 _ 32 Try.underlying30 info_place rfl _ ([] ++ S.take t) rfl hN _ _ _ _ [p] rfl hNl (by simp <;> omega) (by omega) hb.le ?_
                    intro u8 wz8 hO1 hG1 hD1
                    have l7 := (h7.lt _ rfl).2
                    replace h7 := own_kept h7 hG1 (fun k a b => hs7 k b (Option.some.inj a).symm)
                    replace hs7 := hs7.app hD1 l7
                    clear l7
                    replace hb := hb.grown hG1 (fun k hk => (hN.lt k hk).1)
                    clear hN hG1 hD1 hNl
                    have hN := hO1
                    clear hO1
                    have hc := hb.cells
                    refine hK.out _ _ (fun _ => hc) ?_
                    clear hK K hc
                    try simp only [Act.put, List.setIfInBounds_toArray, List.set_cons_zero, List.set_cons_succ]
                    refine wpAnyE_one (i := 13) rfl (by kernel_rfl) (fun K hK => ?_)
                    have hNl := (lst_dropP hb.own.lst t (by omega))
                    refine step_append_lst rfl _ _ 30 rfl Place.cells 4 Place.cells_one (by omega) V0.heap.size 101 _ 32 Try.underlying30 info_place rfl _ ([] ++ S.take t ++ [p]) rfl hN _ _ _ _ (S.drop t) rfl hNl (by simp <;> omega) (by omega) hb.le ?_
                    intro u13 wz13 hO1 hG1 hD1
                    have l7 := (h7.lt _ rfl).2
                    replace h7 := own_kept h7 hG1 (fun k a b => hs7 k b (Option.some.inj a).symm)
                    replace hs7 := hs7.app hD1 l7
                    clear l7
                    replace hb := hb.grown hG1 (fun k hk => (hN.lt k hk).1)
                    clear hN hG1 hD1 hNl
                    have hN := hO1
                    clear hO1
                    rw [hNe.out] at hN
                    obtain ⟨g2, cs2, rfl, hg2, -⟩ := own_form hN (by rw [hfin.out]; simp; omega)
                    have hc := hb.cells
                    refine hK.out _ _ (fun _ => hc) ?_
                    clear hK K hc
                    try simp only [Act.put, List.setIfInBounds_toArray, List.set_cons_zero, List.set_cons_succ]
                    refine wpAnyE_one (i := 14) rfl (by kernel_rfl) (fun K hK => ?_)
                    go_simp
                    have hc := hb.cells
                    refine hK.out _ _ (fun _ => hc) ?_
                    clear hK K hc
                    try simp only [Act.put, List.setIfInBounds_toArray, List.set_cons_zero, List.set_cons_succ]
                    refine wpAnyE_one (i := 15) rfl (by kernel_rfl) (fun K hK => ?_)
                    have hX := hb.box
                    obtain ⟨f0, f1⟩ := hX.f2
                    obtain ⟨-, x1⟩ := hX.c2
                    have lX := hX.lt
                    go_simp
                    refine hK.out _ _ (fun h => absurd rfl h) ?_
                    clear hK K f0 f1 x1 lX
                    try simp only [Act.put, List.setIfInBounds_toArray, List.set_cons_zero, List.set_cons_succ]
                    refine wpAnyE_done (by kernel_rfl) ?_
                    clear h7 hs7
                    have hnb := Lib.hid (hN.ne_blk hX (by decide))
                    have hgb := hb.xlt
                    have hO7 : Own Place.cells 4 101 (wz13.setCell ⟨w1.heap.size + 1, 1, none⟩ (.slice (some ⟨g2, 0, none⟩) (simpF (gp.take (k + 1))).length cs2)) V0.heap.size (.slice (some ⟨g2, 0, none⟩) (simpF (gp.take (k + 1))).length cs2) (simpF (gp.take (k + 1))) := own_far hN (p := ⟨w1.heap.size + 1, 1, none⟩) hnb.out _
                    have hO8 := Lib.hid (hO7.rebase (show w1.heap.size ≤ V0.heap.size by omega))
                    have hX8 := Lib.hid (hX.set2b (u := (.slice (some ⟨g2, 0, none⟩) (simpF (gp.take (k + 1))).length cs2)))
                    have hB8 := Lib.hid (hb.bel.setCell (p := ⟨w1.heap.size + 1, 1, none⟩) (Nat.le_succ _) (.slice (some ⟨g2, 0, none⟩) (simpF (gp.take (k + 1))).length cs2))
                    clear hnb hO7 hN hX hb
                    go_wp2
                    go_roundw
                    case rel => exact ⟨k + 1, g2, cs2, hlt, by go_num, hO8.out, hX8.out, hB8.out⟩
                    case measure => simp [intOf]; omega
                  · go_simp
                    have h7 := own_newP (V0.alloc (.cells #[] 101)) V0.heap.size hb.le p
                    have hs7 : SepB (Value.slice (some ⟨V0.heap.size, 0, none⟩) 0 0) (V0.alloc (.cells #[] 101)).heap.size := fun k h e => by have := (hN.lt k h).2; omega
                    try simp only [World.size_alloc] at hs7
                    replace hN := hN.alloc (.cells #[.int .i64 p.src, .int .i64 p.dst, .int .i64 p.delay, .int .i64 p.tokens] 101)
                    try simp only [World.size_alloc] at h7
                    replace hb := hb.alloc (.cells #[.int .i64 p.src, .int .i64 p.dst, .int .i64 p.delay, .int .i64 p.tokens] 101)
                    have hc := hb.cells
                    refine hK.out _ _ (fun _ => hc) ?_
                    clear hK K hc
                    try simp only [Act.put, List.setIfInBounds_toArray, List.set_cons_zero, List.set_cons_succ]
                    refine wpAnyE_one (i := 5) rfl (by kernel_rfl) (fun K hK => ?_)
                    have hNl := (hb.own.lst.take Place.cells_len t (by omega))
                    refine step_append_lst rfl _ _ 30 rfl Place.cells 4 Place.cells_one (by omega) V0.heap.size 101 _ 32 Try.underlying30 info_place rfl _ [] rfl hN _ _ _ _ (S.take t) rfl hNl (by simp <;> omega) (by omega) hb.le ?_
                    intro u5 wz5 hO1 hG1 hD1
                    have l7 := (h7.lt _ rfl).2
                    replace h7 := own_kept h7 hG1 (fun k a b => hs7 k b (Option.some.inj a).symm)
                    replace hs7 := hs7.app hD1 l7
                    clear l7
                    replace hb := hb.grown hG1 (fun k hk => (hN.lt k hk).1)
                    clear hN hG1 hD1 hNl
                    have hN := hO1
                    clear hO1
                    have hc := hb.cells
                    refine hK.out _ _ (fun _ => hc) ?_
                    clear hK K hc
                    try simp only [Act.put, List.setIfInBounds_toArray, List.set_cons_zero, List.set_cons_succ]
                    refine wpAnyE_one (i := 8) rfl (by kernel_rfl) (fun K hK => ?_)
                    have hNl := h7.lst
                    refine step_append_lst rfl _ _ 30 rfl Place.cells 4 Place.cells_one (by omega) V0.heap.size 101 _ 32 Try.underlying30 info_place rfl _ ([] ++ S.take t) rfl hN _ _ _ _ [p] rfl hNl (by simp <;> omega) (by omega) hb.le ?_
                    intro u8 wz8 hO1 hG1 hD1
                    have l7 := (h7.lt _ rfl).2
                    replace h7 := own_kept h7 hG1 (fun k a b => hs7 k b (Option.some.inj a).symm)
                    replace hs7 := hs7.app hD1 l7
                    clear l7
                    replace hb := hb.grown hG1 (fun k hk => (hN.lt k hk).1)
                    clear hN hG1 hD1 hNl
                    have hN := hO1
                    clear hO1
                    have hc := hb.cells
                    refine hK.out _ _ (fun _ => hc) ?_
                    clear hK K hc
                    try simp only [Act.put, List.setIfInBounds_toArray, List.set_cons_zero, List.set_cons_succ]
                    refine wpAnyE_one (i := 13) rfl (by kernel_rfl) (fun K hK => ?_)
                    have hNl := (lst_dropP hb.own.lst t (by omega))
                    refine step_append_lst rfl _ _ 30 rfl Place.cells 4 Place.cells_one (by omega) V0.heap.size 101 _ 32 Try.underlying30 info_place rfl _ ([] ++ S.take t ++ [p]) rfl hN _ _ _ _ (S.drop t) rfl hNl (by simp <;> omega) (by omega) hb.le ?_
                    intro u13 wz13 hO1 hG1 hD1
                    have l7 := (h7.lt _ rfl).2
                    replace h7 := own_kept h7 hG1 (fun k a b => hs7 k b (Option.some.inj a).symm)
                    replace hs7 := hs7.app hD1 l7
                    clear l7
                    replace hb := hb.grown hG1 (fun k hk => (hN.lt k hk).1)
                    clear hN hG1 hD1 hNl
                    have hN := hO1
                    clear hO1
                    rw [hNe.out] at hN
                    obtain ⟨g2, cs2, rfl, hg2, -⟩ := own_form hN (by rw [hfin.out]; simp; omega)
                    have hc := hb.cells
                    refine hK.out _ _ (fun _ => hc) ?_
                    clear hK K hc
                    try simp only [Act.put, List.setIfInBounds_toArray, List.set_cons_zero, List.set_cons_succ]
                    refine wpAnyE_one (i := 14) rfl (by kernel_rfl) (fun K hK => ?_)
                    go_simp
                    have hc := hb.cells
                    refine hK.out _ _ (fun _ => hc) ?_
                    clear hK K hc
                    try simp only [Act.put, List.setIfInBounds_toArray, List.set_cons_zero, List.set_cons_succ]
                    refine wpAnyE_one (i := 15) rfl (by kernel_rfl) (fun K hK => ?_)
                    have hX := hb.box
                    obtain ⟨f0, f1⟩ := hX.f2
                    obtain ⟨-, x1⟩ := hX.c2
                    have lX := hX.lt
                    go_simp
                    refine hK.out _ _ (fun h => absurd rfl h) ?_
                    clear hK K f0 f1 x1 lX
                    try simp only [Act.put, List.setIfInBounds_toArray, List.set_cons_zero, List.set_cons_succ]
                    refine wpAnyE_done (by kernel_rfl) ?_
                    clear h7 hs7
                    have hnb := Lib.hid (hN.ne_blk hX (by decide))
                    have hgb := hb.xlt
                    have hO7 : Own Place.cells 4 101 (wz13.setCell ⟨w1.heap.size + 1, 1, none⟩ (.slice (some ⟨g2, 0, none⟩) (simpF (gp.take (k + 1))).length cs2)) V0.heap.size (.slice (some ⟨g2, 0, none⟩) (simpF (gp.take (k + 1))).length cs2) (simpF (gp.take (k + 1))) := own_far hN (p := ⟨w1.heap.size + 1, 1, none⟩) hnb.out _
                    have hO8 := Lib.hid (hO7.rebase (show w1.heap.size ≤ V0.heap.size by omega))
                    have hX8 := Lib.hid (hX.set2b (u := (.slice (some ⟨g2, 0, none⟩) (simpF (gp.take (k + 1))).length cs2)))
                    have hB8 := Lib.hid (hb.bel.setCell (p := ⟨w1.heap.size + 1, 1, none⟩) (Nat.le_succ _) (.slice (some ⟨g2, 0, none⟩) (simpF (gp.take (k + 1))).length cs2))
                    clear hnb hO7 hN hX hb
                    go_wp2
                    go_roundw
                    case rel => exact ⟨k + 1, g2, cs2, hlt, by go_num, hO8.out, hX8.out, hB8.out⟩
                    case measure => simp [intOf]; omega
                · go_simp
                  have h7 := own_newP V0 V0.heap.size hb.le p
                  try simp only [World.size_alloc] at h7
                  replace hb := hb.alloc (.cells #[.int .i64 p.src, .int .i64 p.dst, .int .i64 p.delay, .int .i64 p.tokens] 101)
                  have hc := hb.cells
                  refine hK.out _ _ (fun _ => hc) ?_
                  clear hK K hc
                  try simp only [Act.put, List.setIfInBounds_toArray, List.set_cons_zero, List.set_cons_succ]
                  refine wpAnyE_one (i := 0) rfl (by kernel_rfl) (fun K hK => ?_)
                  go_simp
                  have hN := own_new0 Place.cells 4 (V0.alloc (.cells #[.int .i64 p.src, .int .i64 p.dst, .int .i64 p.delay, .int .i64 p.tokens] 101)) 101 V0.heap.size hb.le
                  have hs7 : SepB (.slice (some ⟨(V0.alloc (.cells #[.int .i64 p.src, .int .i64 p.dst, .int .i64 p.delay, .int .i64 p.tokens] 101)).heap.size, 0, none⟩) 0 0) V0.heap.size := fun k h e => by have := Option.some.inj h; simp at this; omega
                  try simp only [World.size_alloc] at hs7
                  replace h7 := h7.alloc (.cells #[] 101)
                  try simp only [World.size_alloc] at hN
                  replace hb := hb.alloc (.cells #[] 101)
                  have hc := hb.cells
                  refine hK.out _ _ (fun _ => hc) ?_
                  clear hK K hc
                  try simp only [Act.put, List.setIfInBounds_toArray, List.set_cons_zero, List.set_cons_succ]
                  refine wpAnyE_one (i := 5) rfl (by kernel_rfl) (fun K hK => ?_)
                  have hNl := (hb.own.lst.take Place.cells_len t (by omega))
                  refine step_append_lst rfl _ _ 30 rfl Place.cells 4 Place.cells_one (by omega) V0.heap.size 101 _ 32 Try.underlying30 info_place rfl _ [] rfl hN _ _ _ _ (S.take t) rfl hNl (by simp <;> omega) (by omega) hb.le ?_
                  intro u5 wz5 hO1 hG1 hD1
                  have l7 := (h7.lt _ rfl).2
                  replace h7 := own_kept h7 hG1 (fun k a b => hs7 k b (Option.some.inj a).symm)
                  replace hs7 := hs7.app hD1 l7
                  clear l7
                  replace hb := hb.grown hG1 (fun k hk => (hN.lt k hk).1)
                  clear hN hG1 hD1 hNl
                  have hN := hO1
                  clear hO1
                  have hc := hb.cells
                  refine hK.out _ _ (fun _ => hc) ?_
                  clear hK K hc
                  try simp only [Act.put, List.setIfInBounds_toArray, List.set_cons_zero, List.set_cons_succ]
                  refine wpAnyE_one (i := 8) rfl (by kernel_rfl) (fun K hK => ?_)
                  have hNl := h7.lst
                  refine step_append_lst rfl _ _ 30 rfl Place.cells 4 Place.cells_one (by omega) V0.heap.size 101 _ 32 Try.underlying30 info_place rfl _ ([] ++ S.take t) rfl hN _ _ _ _ [p] rfl hNl (by simp <;> omega) (by omega) hb.le ?_
                  intro u8 wz8 hO1 hG1 hD1
                  have l7 := (h7.lt _ rfl).2
                  replace h7 := own_kept h7 hG1 (fun k a b => hs7 k b (Option.some.inj a).symm)
                  replace hs7 := hs7.app hD1 l7
                  clear l7
                  replace hb := hb.grown hG1 (fun k hk => (hN.lt k hk).1)
                  clear hN hG1 hD1 hNl
                  have hN := hO1
                  clear hO1
                  have hc := hb.cells
                  refine hK.out _ _ (fun _ => hc) ?_
                  clear hK K hc
                  try simp only [Act.put, List.setIfInBounds_toArray, List.set_cons_zero, List.set_cons_succ]
                  refine wpAnyE_one (i := 13) rfl (by kernel_rfl) (fun K hK => ?_)
                  have hNl := (lst_dropP hb.own.lst t (by omega))
                  refine step_append_lst rfl _ _ 30 rfl Place.cells 4 Place.cells_one (by omega) V0.heap.size 101 _ 32 Try.underlying30 info_place rfl _ ([] ++ S.take t ++ [p]) rfl hN _ _ _ _ (S.drop t) rfl hNl (by simp <;> omega) (by omega) hb.le ?_
                  intro u13 wz13 hO1 hG1 hD1
                  have l7 := (h7.lt _ rfl).2
                  replace h7 := own_kept h7 hG1 (fun k a b => hs7 k b (Option.some.inj a).symm)
                  replace hs7 := hs7.app hD1 l7
                  clear l7
                  replace hb := hb.grown hG1 (fun k hk => (hN.lt k hk).1)
                  clear hN hG1 hD1 hNl
                  have hN := hO1
                  clear hO1
                  rw [hNe.out] at hN
                  obtain ⟨g2, cs2, rfl, hg2, -⟩ := own_form hN (by rw [hfin.out]; simp; omega)
                  have hc := hb.cells
                  refine hK.out _ _ (fun _ => hc) ?_
                  clear hK K hc
                  try simp only [Act.put, List.setIfInBounds_toArray, List.set_cons_zero, List.set_cons_succ]
                  refine wpAnyE_one (i := 14) rfl (by kernel_rfl) (fun K hK => ?_)
                  go_simp
                  have hc := hb.cells
                  refine hK.out _ _ (fun _ => hc) ?_
                  clear hK K hc
                  try simp only [Act.put, List.setIfInBounds_toArray, List.set_cons_zero, List.set_cons_succ]
                  refine wpAnyE_one (i := 15) rfl (by kernel_rfl) (fun K hK => ?_)
                  have hX := hb.box
                  obtain ⟨f0, f1⟩ := hX.f2
                  obtain ⟨-, x1⟩ := hX.c2
                  have lX := hX.lt
                  go_simp
                  refine hK.out _ _ (fun h => absurd rfl h) ?_
                  clear hK K f0 f1 x1 lX
                  try simp only [Act.put, List.setIfInBounds_toArray, List.set_cons_zero, List.set_cons_succ]
                  refine wpAnyE_done (by kernel_rfl) ?_
                  clear h7 hs7
                  have hnb := Lib.hid (hN.ne_blk hX (by decide))
                  have hgb := hb.xlt
                  have hO7 : Own Place.cells 4 101 (wz13.setCell ⟨w1.heap.size + 1, 1, none⟩ (.slice (some ⟨g2, 0, none⟩) (simpF (gp.take (k + 1))).length cs2)) V0.heap.size (.slice (some ⟨g2, 0, none⟩) (simpF (gp.take (k + 1))).length cs2) (simpF (gp.take (k + 1))) := own_far hN (p := ⟨w1.heap.size + 1, 1, none⟩) hnb.out _
                  have hO8 := Lib.hid (hO7.rebase (show w1.heap.size ≤ V0.heap.size by omega))
                  have hX8 := Lib.hid (hX.set2b (u := (.slice (some ⟨g2, 0, none⟩) (simpF (gp.take (k + 1))).length cs2)))
                  have hB8 := Lib.hid (hb.bel.setCell (p := ⟨w1.heap.size + 1, 1, none⟩) (Nat.le_succ _) (.slice (some ⟨g2, 0, none⟩) (simpF (gp.take (k + 1))).length cs2))
                  clear hnb hO7 hN hX hb
                  go_wp2
                  go_roundw
                  case rel => exact ⟨k + 1, g2, cs2, hlt, by go_num, hO8.out, hX8.out, hB8.out⟩
                  case measure => simp [intOf]; omega
              | false =>
                have hfin := Lib.hid (hsn.out.trans (insP_up hteH.out hts hqH.out hbH.out))
                obtain ⟨-, -, hfz, q0, q1, q2, q3⟩ := own_places_at hO9 t hts
                have hq := hqH.out
                rw [hq] at q0 q1 q2 q3
                have f2 := hfz (t * 4 + 2)
                have hup := hO9.setP2 t hts (max q.delay p.delay)
                rw [hq] at hup
                have hxn : g ≠ w1.heap.size + 1 := by
                  have := hO9.ne_blk hx9 (by decide)
                  exact fun e => this (by rw [e]; rfl)
                have hxu := hx9.far (p := ⟨g, t * 4 + 2, none⟩) (Ne.symm hxn) (.int .i64 (max q.delay p.delay))
                have hBw := hB9.setCell (p := ⟨g, t * 4 + 2, none⟩) hgw (.int .i64 (max q.delay p.delay))
                have hup := Lib.hid hup
                have hxu := Lib.hid hxu
                have hBw := Lib.hid hBw
                clear hq hbH hteH hqH hsn hB2 hx2 hp2 hO2 hBv hBn hfz hO9 hx9 hp9 hB9
                go_wp2
                refine wp_region_E (fun w' => w'.cell? ⟨w1.heap.size + 1, 1, none⟩ = some (.slice (some ⟨g, 0, none⟩) S.length cs) ∧ w'.cell? ⟨pb, 0, none⟩ = some (.int .i64 p.src) ∧ w'.cell? ⟨pb, 1, none⟩ = some (.int .i64 p.dst) ∧ w'.cell? ⟨pb, 2, none⟩ = some (.int .i64 p.delay) ∧ w'.cell? ⟨pb, 3, none⟩ = some (.int .i64 p.tokens) ∧ w'.cell? ⟨g, t * 4, none⟩ = some (.int .i64 q.src) ∧ w'.cell? ⟨g, t * 4 + 1, none⟩ = some (.int .i64 q.dst) ∧ w'.cell? ⟨g, t * 4 + 2, none⟩ = some (.int .i64 q.delay) ∧ w'.cell? ⟨g, t * 4 + 3, none⟩ = some (.int .i64 q.tokens)) 14 (by kernel_rfl) ?_
                have hS0 : (fun w' : World => w'.cell? ⟨w1.heap.size + 1, 1, none⟩ = some (.slice (some ⟨g, 0, none⟩) S.length cs) ∧ w'.cell? ⟨pb, 0, none⟩ = some (.int .i64 p.src) ∧ w'.cell? ⟨pb, 1, none⟩ = some (.int .i64 p.dst) ∧ w'.cell? ⟨pb, 2, none⟩ = some (.int .i64 p.delay) ∧ w'.cell? ⟨pb, 3, none⟩ = some (.int .i64 p.tokens) ∧ w'.cell? ⟨g, t * 4, none⟩ = some (.int .i64 q.src) ∧ w'.cell? ⟨g, t * 4 + 1, none⟩ = some (.int .i64 q.dst) ∧ w'.cell? ⟨g, t * 4 + 2, none⟩ = some (.int .i64 q.delay) ∧ w'.cell? ⟨g, t * 4 + 3, none⟩ = some (.int .i64 q.tokens)) w8.drew := ⟨x1, p0, p1, p2, p3, q0, q1, q2, q3⟩
                refine wpAnyE_take (i := 0) (v := ?_) rfl (by kernel_rfl) (by kernel_rfl) (by kernel_rfl) (by kernel_rfl) (by kernel_rfl) (fun _ _ _ h => h) hS0 (by rfl) ?_ ?_
                rotate_left
                · intro w9 hSw
                  try dsimp only at hSw
                  obtain ⟨s0, s1, s2, s3, s4, s5, s6, s7, s8⟩ := hSw
                  go_simp
                  try with_reducible rfl
                try simp only [Act.put, List.setIfInBounds_toArray, List.set_cons_zero, List.set_cons_succ]
                refine wpAnyE_take (i := 1) (v := ?_) rfl (by kernel_rfl) (by kernel_rfl) (by kernel_rfl) (by kernel_rfl) (by kernel_rfl) (fun _ _ _ h => h) hS0 (by rfl) ?_ ?_
                rotate_left
                · intro w9 hSw
                  try dsimp only at hSw
                  obtain ⟨s0, s1, s2, s3, s4, s5, s6, s7, s8⟩ := hSw
                  go_simp
                  try with_reducible rfl
                try simp only [Act.put, List.setIfInBounds_toArray, List.set_cons_zero, List.set_cons_succ]
                refine wpAnyE_take (i := 2) (v := ?_) rfl (by kernel_rfl) (by kernel_rfl) (by kernel_rfl) (by kernel_rfl) (by kernel_rfl) (fun _ _ _ h => h) hS0 (by rfl) ?_ ?_
                rotate_left
                · intro w9 hSw
                  try dsimp only at hSw
                  obtain ⟨s0, s1, s2, s3, s4, s5, s6, s7, s8⟩ := hSw
                  go_simp
                  try with_reducible rfl
                try simp only [Act.put, List.setIfInBounds_toArray, List.set_cons_zero, List.set_cons_succ]
                refine wpAnyE_take (i := 3) (v := ?_) rfl (by kernel_rfl) (by kernel_rfl) (by kernel_rfl) (by kernel_rfl) (by kernel_rfl) (fun _ _ _ h => h) hS0 (by rfl) ?_ ?_
                rotate_left
                · intro w9 hSw
                  try dsimp only at hSw
                  obtain ⟨s0, s1, s2, s3, s4, s5, s6, s7, s8⟩ := hSw
                  go_simp
                  try with_reducible rfl
                try simp only [Act.put, List.setIfInBounds_toArray, List.set_cons_zero, List.set_cons_succ]
                refine wpAnyE_take (i := 4) (v := ?_) rfl (by kernel_rfl) (by kernel_rfl) (by kernel_rfl) (by kernel_rfl) (by kernel_rfl) (fun _ _ _ h => h) hS0 (by rfl) ?_ ?_
                rotate_left
                · intro w9 hSw
                  try dsimp only at hSw
                  obtain ⟨s0, s1, s2, s3, s4, s5, s6, s7, s8⟩ := hSw
                  go_simp
                  try with_reducible rfl
                try simp only [Act.put, List.setIfInBounds_toArray, List.set_cons_zero, List.set_cons_succ]
                refine wpAnyE_take (i := 5) (v := ?_) rfl (by kernel_rfl) (by kernel_rfl) (by kernel_rfl) (by kernel_rfl) (by kernel_rfl) (fun _ _ _ h => h) hS0 (by rfl) ?_ ?_
                rotate_left
                · intro w9 hSw
                  try dsimp only at hSw
                  obtain ⟨s0, s1, s2, s3, s4, s5, s6, s7, s8⟩ := hSw
                  go_simp
                  try with_reducible rfl
                try simp only [Act.put, List.setIfInBounds_toArray, List.set_cons_zero, List.set_cons_succ]
                refine wpAnyE_take (i := 6) (v := ?_) rfl (by kernel_rfl) (by kernel_rfl) (by kernel_rfl) (by kernel_rfl) (by kernel_rfl) (fun _ _ _ h => h) hS0 (by rfl) ?_ ?_
                rotate_left
                · intro w9 hSw
                  try dsimp only at hSw
                  obtain ⟨s0, s1, s2, s3, s4, s5, s6, s7, s8⟩ := hSw
                  go_simp
                  try with_reducible rfl
                try simp only [Act.put, List.setIfInBounds_toArray, List.set_cons_zero, List.set_cons_succ]
                refine wpAnyE_take (i := 7) (v := ?_) rfl (by kernel_rfl) (by kernel_rfl) (by kernel_rfl) (by kernel_rfl) (by kernel_rfl) (fun _ _ _ h => h) hS0 (by rfl) ?_ ?_
                rotate_left
                · intro w9 hSw
                  try dsimp only at hSw
                  obtain ⟨s0, s1, s2, s3, s4, s5, s6, s7, s8⟩ := hSw
                  go_simp
                  try with_reducible rfl
                try simp only [Act.put, List.setIfInBounds_toArray, List.set_cons_zero, List.set_cons_succ]
                refine wpAnyE_take (i := 8) (v := ?_) rfl (by kernel_rfl) (by kernel_rfl) (by kernel_rfl) (by kernel_rfl) (by kernel_rfl) (fun _ _ _ h => h) hS0 (by rfl) ?_ ?_
                rotate_left
                · intro w9 hSw
                  try dsimp only at hSw
                  obtain ⟨s0, s1, s2, s3, s4, s5, s6, s7, s8⟩ := hSw
                  go_simp
                  try with_reducible rfl
                try simp only [Act.put, List.setIfInBounds_toArray, List.set_cons_zero, List.set_cons_succ]
                refine wpAnyE_take (i := 9) (v := ?_) rfl (by kernel_rfl) (by kernel_rfl) (by kernel_rfl) (by kernel_rfl) (by kernel_rfl) (fun _ _ _ h => h) hS0 (by rfl) ?_ ?_
                rotate_left
                · intro w9 hSw
                  try dsimp only at hSw
                  obtain ⟨s0, s1, s2, s3, s4, s5, s6, s7, s8⟩ := hSw
                  go_simp
                  try with_reducible rfl
                try simp only [Act.put, List.setIfInBounds_toArray, List.set_cons_zero, List.set_cons_succ]
                refine wpAnyE_take (i := 10) (v := ?_) rfl (by kernel_rfl) (by kernel_rfl) (by kernel_rfl) (by kernel_rfl) (by kernel_rfl) (fun _ _ _ h => h) hS0 (by rfl) ?_ ?_
                rotate_left
                · intro w9 hSw
                  try dsimp only at hSw
                  obtain ⟨s0, s1, s2, s3, s4, s5, s6, s7, s8⟩ := hSw
                  go_simp
                  try with_reducible rfl
                try simp only [Act.put, List.setIfInBounds_toArray, List.set_cons_zero, List.set_cons_succ]
                refine wpAnyE_one (i := 11) rfl (by kernel_rfl) (fun K hK => ?_)
                go_simp
                refine hK.out _ _ (fun _ => ⟨x1, p0, p1, p2, p3, q0, q1, q2, q3⟩) ?_
                clear hK K
                try simp only [Act.put, List.setIfInBounds_toArray, List.set_cons_zero, List.set_cons_succ]
                refine wpAnyE_one (i := 12) rfl (by kernel_rfl) (fun K hK => ?_)
                go_simp
                refine hK.out _ _ (fun _ => ⟨x1, p0, p1, p2, p3, q0, q1, q2, q3⟩) ?_
                clear hK K
                try simp only [Act.put, List.setIfInBounds_toArray, List.set_cons_zero, List.set_cons_succ]
                refine wpAnyE_one (i := 13) rfl (by kernel_rfl) (fun K hK => ?_)
                go_simp
                refine hK.out _ _ (fun _ => ⟨x1, p0, p1, p2, p3, q0, q1, q2, q3⟩) ?_
                clear hK K
                try simp only [Act.put, List.setIfInBounds_toArray, List.set_cons_zero, List.set_cons_succ]
                refine wpAnyE_one (i := 14) rfl (by kernel_rfl) (fun K hK => ?_)
                go_simp
                refine hK.out _ _ (fun h => absurd rfl h) ?_
                clear hK K
                try simp only [Act.put, List.setIfInBounds_toArray, List.set_cons_zero, List.set_cons_succ]
                refine wpAnyE_done (by kernel_rfl) ?_
                clear q0 q1 q2 q3 x0 x1 p0 p1 p2 p3 f2 hS0
                have hlS : (S.set t ⟨q.src, q.dst, max q.delay p.delay, q.tokens⟩).length = S.length := List.length_set
                go_wp2
                go_roundw
                case rel =>
                  refine ⟨k + 1, g, cs, hlt, by go_num, ?_, ?_, ?_⟩
                  · rw [hfin.out, hlS]
                    exact hup.out
                  · rw [hfin.out, hlS]
                    exact hxu.out
                  · exact hBw.out.drew
                case measure => simp [intOf]; omega
            · have hbH : Hid (keyLt q p = true) := by
                show _ = _
                rw [← hq]
                exact befN_before (by omega) hts
              clear hq
              go_wp2
              refine wp_region_held_drew (S := fun w' => w'.cell? ⟨w1.heap.size + 1, 1, none⟩ = some (.slice (some ⟨g, 0, none⟩) S.length cs) ∧ w'.cell? ⟨pb, 0, none⟩ = some (.int .i64 p.src) ∧ w'.cell? ⟨pb, 1, none⟩ = some (.int .i64 p.dst) ∧ w'.cell? ⟨pb, 2, none⟩ = some (.int .i64 p.delay) ∧ w'.cell? ⟨pb, 3, none⟩ = some (.int .i64 p.tokens) ∧ w'.cell? ⟨g, t * 4, none⟩ = some (.int .i64 q.src) ∧ w'.cell? ⟨g, t * 4 + 1, none⟩ = some (.int .i64 q.dst) ∧ w'.cell? ⟨g, t * 4 + 2, none⟩ = some (.int .i64 q.delay) ∧ w'.cell? ⟨g, t * 4 + 3, none⟩ = some (.int .i64 q.tokens)) (by kernel_rfl) ⟨x1, p0, p1, p2, p3, q0, q1, q2, q3⟩ (fun hH => ?_)
              refine tkH 0 (v := ?_) rfl (fun _ _ _ h => h) (Or.inl ⟨by rfl, ?_⟩) hH ?_
              rotate_left
              · intro w9 hSw
                try dsimp only at hSw
                obtain ⟨s0, s1, s2, s3, s4, s5, s6, s7, s8⟩ := hSw
                go_simp
                try with_reducible rfl
              try simp only [Act.put, List.setIfInBounds_toArray, List.set_cons_zero, List.set_cons_succ]
              refine tkH 1 (v := ?_) rfl (fun _ _ _ h => h) (Or.inl ⟨by rfl, ?_⟩) hH ?_
              rotate_left
              · intro w9 hSw
                try dsimp only at hSw
                obtain ⟨s0, s1, s2, s3, s4, s5, s6, s7, s8⟩ := hSw
                go_simp
                try with_reducible rfl
              try simp only [Act.put, List.setIfInBounds_toArray, List.set_cons_zero, List.set_cons_succ]
              refine tkH 2 (v := ?_) rfl (fun _ _ _ h => h) (Or.inl ⟨by rfl, ?_⟩) hH ?_
              rotate_left
              · intro w9 hSw
                try dsimp only at hSw
                obtain ⟨s0, s1, s2, s3, s4, s5, s6, s7, s8⟩ := hSw
                go_simp
                try with_reducible rfl
              try simp only [Act.put, List.setIfInBounds_toArray, List.set_cons_zero, List.set_cons_succ]
              refine tkH 3 (v := ?_) rfl (fun _ _ _ h => h) (Or.inl ⟨by rfl, ?_⟩) hH ?_
              rotate_left
              · intro w9 hSw
                try dsimp only at hSw
                obtain ⟨s0, s1, s2, s3, s4, s5, s6, s7, s8⟩ := hSw
                go_simp
                try with_reducible rfl
              try simp only [Act.put, List.setIfInBounds_toArray, List.set_cons_zero, List.set_cons_succ]
              refine tkH 4 (v := ?_) rfl (fun _ _ _ h => h) (Or.inl ⟨by rfl, ?_⟩) hH ?_
              rotate_left
              · intro w9 hSw
                try dsimp only at hSw
                obtain ⟨s0, s1, s2, s3, s4, s5, s6, s7, s8⟩ := hSw
                go_simp
                try with_reducible rfl
              try simp only [Act.put, List.setIfInBounds_toArray, List.set_cons_zero, List.set_cons_succ]
              refine tkH 5 (v := ?_) rfl (fun _ _ _ h => h) (Or.inl ⟨by rfl, ?_⟩) hH ?_
              rotate_left
              · intro w9 hSw
                try dsimp only at hSw
                obtain ⟨s0, s1, s2, s3, s4, s5, s6, s7, s8⟩ := hSw
                go_simp
                try with_reducible rfl
              try simp only [Act.put, List.setIfInBounds_toArray, List.set_cons_zero, List.set_cons_succ]
              refine tkH 6 (v := ?_) rfl (fun _ _ _ h => h) (Or.inl ⟨by rfl, ?_⟩) hH ?_
              rotate_left
              · intro w9 hSw
                try dsimp only at hSw
                obtain ⟨s0, s1, s2, s3, s4, s5, s6, s7, s8⟩ := hSw
                go_simp
                try with_reducible rfl
              try simp only [Act.put, List.setIfInBounds_toArray, List.set_cons_zero, List.set_cons_succ]
              refine tkH 7 (v := ?_) rfl (fun _ _ _ h => h) (Or.inl ⟨by rfl, ?_⟩) hH ?_
              rotate_left
              · intro w9 hSw
                try dsimp only at hSw
                obtain ⟨s0, s1, s2, s3, s4, s5, s6, s7, s8⟩ := hSw
                go_simp
                try with_reducible rfl
              try simp only [Act.put, List.setIfInBounds_toArray, List.set_cons_zero, List.set_cons_succ]
              refine tkH 8 (v := ?_) rfl (fun _ _ _ h => h) (Or.inl ⟨by rfl, ?_⟩) hH ?_
              rotate_left
              · intro w9 hSw
                try dsimp only at hSw
                obtain ⟨s0, s1, s2, s3, s4, s5, s6, s7, s8⟩ := hSw
                go_simp
                try with_reducible rfl
              try simp only [Act.put, List.setIfInBounds_toArray, List.set_cons_zero, List.set_cons_succ]
              refine tkH 9 (v := ?_) rfl (fun _ _ _ h => h) (Or.inl ⟨by rfl, ?_⟩) hH ?_
              rotate_left
              · intro w9 hSw
                try dsimp only at hSw
                obtain ⟨s0, s1, s2, s3, s4, s5, s6, s7, s8⟩ := hSw
                go_simp
                try with_reducible rfl
              try simp only [Act.put, List.setIfInBounds_toArray, List.set_cons_zero, List.set_cons_succ]
              refine tkH 10 (v := ?_) rfl (fun _ _ _ h => h) (Or.inl ⟨by rfl, ?_⟩) hH ?_
              rotate_left
              · intro w9 hSw
                try dsimp only at hSw
                obtain ⟨s0, s1, s2, s3, s4, s5, s6, s7, s8⟩ := hSw
                go_simp
                try with_reducible rfl
              try simp only [Act.put, List.setIfInBounds_toArray, List.set_cons_zero, List.set_cons_succ]
              refine tkH 11 (v := ?_) rfl (fun _ _ _ h => h) (Or.inl ⟨by rfl, ?_⟩) hH ?_
              rotate_left
              · intro w9 hSw
                try dsimp only at hSw
                obtain ⟨s0, s1, s2, s3, s4, s5, s6, s7, s8⟩ := hSw
                go_simp
                try with_reducible rfl
              try simp only [Act.put, List.setIfInBounds_toArray, List.set_cons_zero, List.set_cons_succ]
              refine wpAnyH_ready (rs := [12]) (by kernel_rfl) (by simp) ?_
              refine AllReadyH.cons rfl (fun K hK => ?_) AllReadyH.nil
              go_simp
              go_at_call 101
              refine (spec_l11Before q p _).mono ?_
              rintro e9 w9 ⟨rfl, hb9⟩
              rw [hbH.out]
              have ex1 := cell_keep (w := wr.drew) x1 hb9
              have ep0 := cell_keep (w := wr.drew) p0 hb9
              have ep1 := cell_keep (w := wr.drew) p1 hb9
              have ep2 := cell_keep (w := wr.drew) p2 hb9
              have ep3 := cell_keep (w := wr.drew) p3 hb9
              have eq0 := cell_keep (w := wr.drew) q0 hb9
              have eq1 := cell_keep (w := wr.drew) q1 hb9
              have eq2 := cell_keep (w := wr.drew) q2 hb9
              have eq3 := cell_keep (w := wr.drew) q3 hb9
              refine hK.out _ _ ⟨ex1, ep0, ep1, ep2, ep3, eq0, eq1, eq2, eq3⟩ (fun hH => ?_)
              clear hK K
              try simp only [Act.put, List.setIfInBounds_toArray, List.set_cons_zero, List.set_cons_succ]
              refine tkH 13 (v := ?_) rfl (fun _ _ _ h => h) (Or.inl ⟨by rfl, ?_⟩) hH ?_
              rotate_left
              · intro w9 hSw
                try dsimp only at hSw
                obtain ⟨s0, s1, s2, s3, s4, s5, s6, s7, s8⟩ := hSw
                go_simp
                try with_reducible rfl
              try simp only [Act.put, List.setIfInBounds_toArray, List.set_cons_zero, List.set_cons_succ]
              refine wpAnyH_done (by kernel_rfl) ?_ _
              have hBu : Below wq.heap.size wq w9 := hBt.trans ((below_undrew hb9).mono hBt.size)
              clear q0 q1 q2 q3 x0 x1 p0 p1 p2 p3 hb9 hbH eq0 eq1 eq2 eq3 ex1 ep0 ep1 ep2 ep3 hH
              go_wp2
              go_roundw
              case rel => exact ⟨t + 1, by omega, by go_num, hBu⟩
              case measure => simp [intOf]; omega
        · have hBe : befN S p = S.length := by have := befN_le S p; omega
          go_loopw [7] (fun j w2 => ∃ t : Nat, t ≤ S.length ∧ j = .int .i64 t ∧ Below wq.heap.size wq w2) (fun j _ => S.length - (intOf j).toNat)
          case atStart => exact ⟨0, Nat.zero_le _, rfl, Below.refl _ _⟩
          case round =>
            obtain ⟨t, ht, rfl, hBt⟩ := hrel
            obtain ⟨x0, x1⟩ := (hx2.now hBt).c2
            obtain ⟨p0, p1, p2, p3⟩ := (hp2.now hBt).c4
            have hOt := hO2.now hBt
            by_cases hts : t < S.length
            · obtain ⟨-, -, -, q0, q1, q2, q3⟩ := own_places_at hOt t hts
              obtain ⟨q, hq⟩ : ∃ q, S[t] = q := ⟨_, rfl⟩
              rw [hq] at q0 q1 q2 q3
              have j1 : (t : Int) < (S.length : Int) := by omega
              have hbH : Hid (keyLt q p = true) := by
                show _ = _
                rw [← hq]
                exact befN_before (by omega) hts
              clear hq hBe hBn
              go_wp2
              refine wp_region_held_drew (S := fun w' => w'.cell? ⟨w1.heap.size + 1, 1, none⟩ = some (.slice (some ⟨g, 0, none⟩) S.length cs) ∧ w'.cell? ⟨pb, 0, none⟩ = some (.int .i64 p.src) ∧ w'.cell? ⟨pb, 1, none⟩ = some (.int .i64 p.dst) ∧ w'.cell? ⟨pb, 2, none⟩ = some (.int .i64 p.delay) ∧ w'.cell? ⟨pb, 3, none⟩ = some (.int .i64 p.tokens) ∧ w'.cell? ⟨g, t * 4, none⟩ = some (.int .i64 q.src) ∧ w'.cell? ⟨g, t * 4 + 1, none⟩ = some (.int .i64 q.dst) ∧ w'.cell? ⟨g, t * 4 + 2, none⟩ = some (.int .i64 q.delay) ∧ w'.cell? ⟨g, t * 4 + 3, none⟩ = some (.int .i64 q.tokens)) (by kernel_rfl) ⟨x1, p0, p1, p2, p3, q0, q1, q2, q3⟩ (fun hH => ?_)
              refine tkH 0 (v := ?_) rfl (fun _ _ _ h => h) (Or.inl ⟨by rfl, ?_⟩) hH ?_
              rotate_left
              · intro w9 hSw
                try dsimp only at hSw
                obtain ⟨s0, s1, s2, s3, s4, s5, s6, s7, s8⟩ := hSw
                go_simp
                try with_reducible rfl
              try simp only [Act.put, List.setIfInBounds_toArray, List.set_cons_zero, List.set_cons_succ]
              refine tkH 1 (v := ?_) rfl (fun _ _ _ h => h) (Or.inl ⟨by rfl, ?_⟩) hH ?_
              rotate_left
              · intro w9 hSw
                try dsimp only at hSw
                obtain ⟨s0, s1, s2, s3, s4, s5, s6, s7, s8⟩ := hSw
                go_simp
                try with_reducible rfl
              try simp only [Act.put, List.setIfInBounds_toArray, List.set_cons_zero, List.set_cons_succ]
              refine tkH 2 (v := ?_) rfl (fun _ _ _ h => h) (Or.inl ⟨by rfl, ?_⟩) hH ?_
              rotate_left
              · intro w9 hSw
                try dsimp only at hSw
                obtain ⟨s0, s1, s2, s3, s4, s5, s6, s7, s8⟩ := hSw
                go_simp
                try with_reducible rfl
              try simp only [Act.put, List.setIfInBounds_toArray, List.set_cons_zero, List.set_cons_succ]
              refine tkH 3 (v := ?_) rfl (fun _ _ _ h => h) (Or.inl ⟨by rfl, ?_⟩) hH ?_
              rotate_left
              · intro w9 hSw
                try dsimp only at hSw
                obtain ⟨s0, s1, s2, s3, s4, s5, s6, s7, s8⟩ := hSw
                go_simp
                try with_reducible rfl
              try simp only [Act.put, List.setIfInBounds_toArray, List.set_cons_zero, List.set_cons_succ]
              refine tkH 4 (v := ?_) rfl (fun _ _ _ h => h) (Or.inl ⟨by rfl, ?_⟩) hH ?_
              rotate_left
              · intro w9 hSw
                try dsimp only at hSw
                obtain ⟨s0, s1, s2, s3, s4, s5, s6, s7, s8⟩ := hSw
                go_simp
                try with_reducible rfl
              try simp only [Act.put, List.setIfInBounds_toArray, List.set_cons_zero, List.set_cons_succ]
              refine tkH 5 (v := ?_) rfl (fun _ _ _ h => h) (Or.inl ⟨by rfl, ?_⟩) hH ?_
              rotate_left
              · intro w9 hSw
                try dsimp only at hSw
                obtain ⟨s0, s1, s2, s3, s4, s5, s6, s7, s8⟩ := hSw
                go_simp
                try with_reducible rfl
              try simp only [Act.put, List.setIfInBounds_toArray, List.set_cons_zero, List.set_cons_succ]
              refine tkH 6 (v := ?_) rfl (fun _ _ _ h => h) (Or.inl ⟨by rfl, ?_⟩) hH ?_
              rotate_left
              · intro w9 hSw
                try dsimp only at hSw
                obtain ⟨s0, s1, s2, s3, s4, s5, s6, s7, s8⟩ := hSw
                go_simp
                try with_reducible rfl
              try simp only [Act.put, List.setIfInBounds_toArray, List.set_cons_zero, List.set_cons_succ]
              refine tkH 7 (v := ?_) rfl (fun _ _ _ h => h) (Or.inl ⟨by rfl, ?_⟩) hH ?_
              rotate_left
              · intro w9 hSw
                try dsimp only at hSw
                obtain ⟨s0, s1, s2, s3, s4, s5, s6, s7, s8⟩ := hSw
                go_simp
                try with_reducible rfl
              try simp only [Act.put, List.setIfInBounds_toArray, List.set_cons_zero, List.set_cons_succ]
              refine tkH 8 (v := ?_) rfl (fun _ _ _ h => h) (Or.inl ⟨by rfl, ?_⟩) hH ?_
              rotate_left
              · intro w9 hSw
                try dsimp only at hSw
                obtain ⟨s0, s1, s2, s3, s4, s5, s6, s7, s8⟩ := hSw
                go_simp
                try with_reducible rfl
              try simp only [Act.put, List.setIfInBounds_toArray, List.set_cons_zero, List.set_cons_succ]
              refine tkH 9 (v := ?_) rfl (fun _ _ _ h => h) (Or.inl ⟨by rfl, ?_⟩) hH ?_
              rotate_left
              · intro w9 hSw
                try dsimp only at hSw
                obtain ⟨s0, s1, s2, s3, s4, s5, s6, s7, s8⟩ := hSw
                go_simp
                try with_reducible rfl
              try simp only [Act.put, List.setIfInBounds_toArray, List.set_cons_zero, List.set_cons_succ]
              refine tkH 10 (v := ?_) rfl (fun _ _ _ h => h) (Or.inl ⟨by rfl, ?_⟩) hH ?_
              rotate_left
              · intro w9 hSw
                try dsimp only at hSw
                obtain ⟨s0, s1, s2, s3, s4, s5, s6, s7, s8⟩ := hSw
                go_simp
                try with_reducible rfl
              try simp only [Act.put, List.setIfInBounds_toArray, List.set_cons_zero, List.set_cons_succ]
              refine tkH 11 (v := ?_) rfl (fun _ _ _ h => h) (Or.inl ⟨by rfl, ?_⟩) hH ?_
              rotate_left
              · intro w9 hSw
                try dsimp only at hSw
                obtain ⟨s0, s1, s2, s3, s4, s5, s6, s7, s8⟩ := hSw
                go_simp
                try with_reducible rfl
              try simp only [Act.put, List.setIfInBounds_toArray, List.set_cons_zero, List.set_cons_succ]
              refine wpAnyH_ready (rs := [12]) (by kernel_rfl) (by simp) ?_
              refine AllReadyH.cons rfl (fun K hK => ?_) AllReadyH.nil
              go_simp
              go_at_call 101
              refine (spec_l11Before q p _).mono ?_
              rintro e9 w9 ⟨rfl, hb9⟩
              rw [hbH.out]
              have ex1 := cell_keep (w := wr.drew) x1 hb9
              have ep0 := cell_keep (w := wr.drew) p0 hb9
              have ep1 := cell_keep (w := wr.drew) p1 hb9
              have ep2 := cell_keep (w := wr.drew) p2 hb9
              have ep3 := cell_keep (w := wr.drew) p3 hb9
              have eq0 := cell_keep (w := wr.drew) q0 hb9
              have eq1 := cell_keep (w := wr.drew) q1 hb9
              have eq2 := cell_keep (w := wr.drew) q2 hb9
              have eq3 := cell_keep (w := wr.drew) q3 hb9
              refine hK.out _ _ ⟨ex1, ep0, ep1, ep2, ep3, eq0, eq1, eq2, eq3⟩ (fun hH => ?_)
              clear hK K
              try simp only [Act.put, List.setIfInBounds_toArray, List.set_cons_zero, List.set_cons_succ]
              refine tkH 13 (v := ?_) rfl (fun _ _ _ h => h) (Or.inl ⟨by rfl, ?_⟩) hH ?_
              rotate_left
              · intro w9 hSw
                try dsimp only at hSw
                obtain ⟨s0, s1, s2, s3, s4, s5, s6, s7, s8⟩ := hSw
                go_simp
                try with_reducible rfl
              try simp only [Act.put, List.setIfInBounds_toArray, List.set_cons_zero, List.set_cons_succ]
              refine wpAnyH_done (by kernel_rfl) ?_ _
              have hBu : Below wq.heap.size wq w9 := hBt.trans ((below_undrew hb9).mono hBt.size)
              clear q0 q1 q2 q3 x0 x1 p0 p1 p2 p3 hb9 hbH eq0 eq1 eq2 eq3 ex1 ep0 ep1 ep2 ep3 hH
              go_wp2
              go_roundw
              case rel => exact ⟨t + 1, by omega, by go_num, hBu⟩
              case measure => simp [intOf]; omega
            · have hte : t = S.length := by omega
              have j1 : ¬ (t : Int) < (S.length : Int) := by omega
              have hfin := Lib.hid (hsn.out.trans (insP_end (hte.trans hBe.symm) hte))
              have hNe : Hid (([] : List Place) ++ S.take t ++ [p] ++ S.drop t = simpF (gp.take (k + 1))) := by
                show _ = _
                rw [hfin.out, List.nil_append]
              have hx9 : Blk wr.drew.drew (w1.heap.size + 1) 32 #[.int .i64 ge, .slice (some ⟨g, 0, none⟩) S.length cs] := hx2.now hBt.drew.drew
              have hp9 : Blk wr.drew.drew pb 101 #[.int .i64 p.src, .int .i64 p.dst, .int .i64 p.delay, .int .i64 p.tokens] := hp2.now hBt.drew.drew
              have hB9 := (hB2.trans (hBt.mono hB2.size)).drew.drew
              have hO9 : Own Place.cells 4 101 wr.drew.drew w1.heap.size (.slice (some ⟨g, 0, none⟩) S.length cs) S := hO2.now hBt.drew.drew
              have jc : (t : Int) ≤ (cs : Int) := by omega
              have jl : (t : Int) ≤ (S.length : Int) := by omega
              have hS40 : S.length ≤ 40 := by omega
              have hts' := Lib.hid (Nat.le_of_eq hte)
              clear hBe hBn hsn hte hO2 hx2 hp2 hB2 hBt hOt
              go_wp2
              refine wp_region_held_drew (S := fun w' => w'.cell? ⟨w1.heap.size + 1, 1, none⟩ = some (.slice (some ⟨g, 0, none⟩) S.length cs) ∧ w'.cell? ⟨pb, 0, none⟩ = some (.int .i64 p.src) ∧ w'.cell? ⟨pb, 1, none⟩ = some (.int .i64 p.dst) ∧ w'.cell? ⟨pb, 2, none⟩ = some (.int .i64 p.delay) ∧ w'.cell? ⟨pb, 3, none⟩ = some (.int .i64 p.tokens)) (by kernel_rfl) ⟨x1, p0, p1, p2, p3⟩ (fun hH => ?_)
              refine tkH 0 (v := ?_) rfl (fun _ _ _ h => h) (Or.inl ⟨by rfl, ?_⟩) hH ?_
              rotate_left
              · intro w9 hSw
                try dsimp only at hSw
                obtain ⟨s0, s1, s2, s3, s4⟩ := hSw
                go_simp
                try with_reducible rfl
              try simp only [Act.put, List.setIfInBounds_toArray, List.set_cons_zero, List.set_cons_succ]
              refine tkH 1 (v := ?_) rfl (fun _ _ _ h => h) (Or.inl ⟨by rfl, ?_⟩) hH ?_
              rotate_left
              · intro w9 hSw
                try dsimp only at hSw
                obtain ⟨s0, s1, s2, s3, s4⟩ := hSw
                go_simp
                try with_reducible rfl
              try simp only [Act.put, List.setIfInBounds_toArray, List.set_cons_zero, List.set_cons_succ]
              refine tkH 2 (v := ?_) rfl (fun _ _ _ h => h) (Or.inl ⟨by rfl, ?_⟩) hH ?_
              rotate_left
              · intro w9 hSw
                try dsimp only at hSw
                obtain ⟨s0, s1, s2, s3, s4⟩ := hSw
                go_simp
                try with_reducible rfl
              try simp only [Act.put, List.setIfInBounds_toArray, List.set_cons_zero, List.set_cons_succ]
              refine tkH 3 (v := ?_) rfl (fun _ _ _ h => h) (Or.inl ⟨by rfl, ?_⟩) hH ?_
              rotate_left
              · intro w9 hSw
                try dsimp only at hSw
                obtain ⟨s0, s1, s2, s3, s4⟩ := hSw
                go_simp
                try with_reducible rfl
              try simp only [Act.put, List.setIfInBounds_toArray, List.set_cons_zero, List.set_cons_succ]
              refine tkH 4 (v := ?_) rfl (fun _ _ _ h => h) (Or.inl ⟨by rfl, ?_⟩) hH ?_
              rotate_left
              · intro w9 hSw
                try dsimp only at hSw
                obtain ⟨s0, s1, s2, s3, s4⟩ := hSw
                go_simp
                try with_reducible rfl
              try simp only [Act.put, List.setIfInBounds_toArray, List.set_cons_zero, List.set_cons_succ]
              refine tkH 5 (v := ?_) rfl (fun _ _ _ h => h) (Or.inl ⟨by rfl, ?_⟩) hH ?_
              rotate_left
              · intro w9 hSw
                try dsimp only at hSw
                obtain ⟨s0, s1, s2, s3, s4⟩ := hSw
                go_simp
                try with_reducible rfl
              try simp only [Act.put, List.setIfInBounds_toArray, List.set_cons_zero, List.set_cons_succ]
              refine tkH 6 (v := undef) rfl (fun _ _ _ h => h) (Or.inr ⟨by rfl, rfl⟩) hH ?_
              try simp only [Act.put, List.setIfInBounds_toArray, List.set_cons_zero, List.set_cons_succ]
              refine tkH 7 (v := undef) rfl (fun _ _ _ h => h) (Or.inr ⟨by rfl, rfl⟩) hH ?_
              try simp only [Act.put, List.setIfInBounds_toArray, List.set_cons_zero, List.set_cons_succ]
              refine tkH 8 (v := undef) rfl (fun _ _ _ h => h) (Or.inr ⟨by rfl, rfl⟩) hH ?_
              try simp only [Act.put, List.setIfInBounds_toArray, List.set_cons_zero, List.set_cons_succ]
              refine tkH 9 (v := undef) rfl (fun _ _ _ h => h) (Or.inr ⟨by rfl, rfl⟩) hH ?_
              try simp only [Act.put, List.setIfInBounds_toArray, List.set_cons_zero, List.set_cons_succ]
              refine tkH 10 (v := undef) rfl (fun _ _ _ h => h) (Or.inr ⟨by rfl, rfl⟩) hH ?_
              try simp only [Act.put, List.setIfInBounds_toArray, List.set_cons_zero, List.set_cons_succ]
              refine tkH 11 (v := undef) rfl (fun _ _ _ h => h) (Or.inr ⟨by rfl, rfl⟩) hH ?_
              try simp only [Act.put, List.setIfInBounds_toArray, List.set_cons_zero, List.set_cons_succ]
              refine tkH 12 (v := undef) rfl (fun _ _ _ h => h) (Or.inr ⟨by rfl, rfl⟩) hH ?_
              try simp only [Act.put, List.setIfInBounds_toArray, List.set_cons_zero, List.set_cons_succ]
              refine tkH 13 (v := ?_) rfl (fun _ _ _ h => h) (Or.inl ⟨by rfl, ?_⟩) hH ?_
              rotate_left
              · intro w9 hSw
                try dsimp only at hSw
                obtain ⟨s0, s1, s2, s3, s4⟩ := hSw
                go_simp
                try with_reducible rfl
              try simp only [Act.put, List.setIfInBounds_toArray, List.set_cons_zero, List.set_cons_succ]
              refine wpAnyH_done (by kernel_rfl) ?_ _
              go_wp2
              refine wp_region_held_drew (S := fun w' => w'.cell? ⟨w1.heap.size + 1, 1, none⟩ = some (.slice (some ⟨g, 0, none⟩) S.length cs) ∧ w'.cell? ⟨pb, 0, none⟩ = some (.int .i64 p.src) ∧ w'.cell? ⟨pb, 1, none⟩ = some (.int .i64 p.dst) ∧ w'.cell? ⟨pb, 2, none⟩ = some (.int .i64 p.delay) ∧ w'.cell? ⟨pb, 3, none⟩ = some (.int .i64 p.tokens)) (by kernel_rfl) ⟨x1, p0, p1, p2, p3⟩ (fun hH => ?_)
              refine tkH 0 (v := ?_) rfl (fun _ _ _ h => h) (Or.inl ⟨by rfl, ?_⟩) hH ?_
              rotate_left
              · intro w9 hSw
                try dsimp only at hSw
                obtain ⟨s0, s1, s2, s3, s4⟩ := hSw
                go_simp
                try with_reducible rfl
              try simp only [Act.put, List.setIfInBounds_toArray, List.set_cons_zero, List.set_cons_succ]
              refine tkH 1 (v := ?_) rfl (fun _ _ _ h => h) (Or.inl ⟨by rfl, ?_⟩) hH ?_
              rotate_left
              · intro w9 hSw
                try dsimp only at hSw
                obtain ⟨s0, s1, s2, s3, s4⟩ := hSw
                go_simp
                try with_reducible rfl
              try simp only [Act.put, List.setIfInBounds_toArray, List.set_cons_zero, List.set_cons_succ]
              refine tkH 2 (v := ?_) rfl (fun _ _ _ h => h) (Or.inl ⟨by rfl, ?_⟩) hH ?_
              rotate_left
              · intro w9 hSw
                try dsimp only at hSw
                obtain ⟨s0, s1, s2, s3, s4⟩ := hSw
                go_simp
                try with_reducible rfl
              try simp only [Act.put, List.setIfInBounds_toArray, List.set_cons_zero, List.set_cons_succ]
              refine tkH 3 (v := ?_) rfl (fun _ _ _ h => h) (Or.inl ⟨by rfl, ?_⟩) hH ?_
              rotate_left
              · intro w9 hSw
                try dsimp only at hSw
                obtain ⟨s0, s1, s2, s3, s4⟩ := hSw
                go_simp
                try with_reducible rfl
              try simp only [Act.put, List.setIfInBounds_toArray, List.set_cons_zero, List.set_cons_succ]
              refine tkH 4 (v := ?_) rfl (fun _ _ _ h => h) (Or.inl ⟨by rfl, ?_⟩) hH ?_
              rotate_left
              · intro w9 hSw
                try dsimp only at hSw
                obtain ⟨s0, s1, s2, s3, s4⟩ := hSw
                go_simp
                try with_reducible rfl
              try simp only [Act.put, List.setIfInBounds_toArray, List.set_cons_zero, List.set_cons_succ]
              refine tkH 5 (v := ?_) rfl (fun _ _ _ h => h) (Or.inl ⟨by rfl, ?_⟩) hH ?_
              rotate_left
              · intro w9 hSw
                try dsimp only at hSw
                obtain ⟨s0, s1, s2, s3, s4⟩ := hSw
                go_simp
                try with_reducible rfl
              try simp only [Act.put, List.setIfInBounds_toArray, List.set_cons_zero, List.set_cons_succ]
              refine tkH 6 (v := undef) rfl (fun _ _ _ h => h) (Or.inr ⟨by rfl, rfl⟩) hH ?_
              try simp only [Act.put, List.setIfInBounds_toArray, List.set_cons_zero, List.set_cons_succ]
              refine tkH 7 (v := undef) rfl (fun _ _ _ h => h) (Or.inr ⟨by rfl, rfl⟩) hH ?_
              try simp only [Act.put, List.setIfInBounds_toArray, List.set_cons_zero, List.set_cons_succ]
              refine tkH 8 (v := undef) rfl (fun _ _ _ h => h) (Or.inr ⟨by rfl, rfl⟩) hH ?_
              try simp only [Act.put, List.setIfInBounds_toArray, List.set_cons_zero, List.set_cons_succ]
              refine tkH 9 (v := undef) rfl (fun _ _ _ h => h) (Or.inr ⟨by rfl, rfl⟩) hH ?_
              try simp only [Act.put, List.setIfInBounds_toArray, List.set_cons_zero, List.set_cons_succ]
              refine tkH 10 (v := undef) rfl (fun _ _ _ h => h) (Or.inr ⟨by rfl, rfl⟩) hH ?_
              try simp only [Act.put, List.setIfInBounds_toArray, List.set_cons_zero, List.set_cons_succ]
              refine tkH 11 (v := undef) rfl (fun _ _ _ h => h) (Or.inr ⟨by rfl, rfl⟩) hH ?_
              try simp only [Act.put, List.setIfInBounds_toArray, List.set_cons_zero, List.set_cons_succ]
              refine tkH 12 (v := undef) rfl (fun _ _ _ h => h) (Or.inr ⟨by rfl, rfl⟩) hH ?_
              try simp only [Act.put, List.setIfInBounds_toArray, List.set_cons_zero, List.set_cons_succ]
              refine tkH 13 (v := undef) rfl (fun _ _ _ h => h) (Or.inr ⟨by rfl, rfl⟩) hH ?_
              try simp only [Act.put, List.setIfInBounds_toArray, List.set_cons_zero, List.set_cons_succ]
              refine tkH 14 (v := ?_) rfl (fun _ _ _ h => h) (Or.inl ⟨by rfl, ?_⟩) hH ?_
              rotate_left
              · intro w9 hSw
                try dsimp only at hSw
                obtain ⟨s0, s1, s2, s3, s4⟩ := hSw
                go_simp
                try with_reducible rfl
              try simp only [Act.put, List.setIfInBounds_toArray, List.set_cons_zero, List.set_cons_succ]
              refine wpAnyH_done (by kernel_rfl) ?_ _
              go_wp2
              refine wp_region_E (fun w' => w'.cell? ⟨w1.heap.size + 1, 1, none⟩ = some (.slice (some ⟨g, 0, none⟩) S.length cs) ∧ w'.cell? ⟨pb, 0, none⟩ = some (.int .i64 p.src) ∧ w'.cell? ⟨pb, 1, none⟩ = some (.int .i64 p.dst) ∧ w'.cell? ⟨pb, 2, none⟩ = some (.int .i64 p.delay) ∧ w'.cell? ⟨pb, 3, none⟩ = some (.int .i64 p.tokens)) 15 (by kernel_rfl) ?_
              have hS0 : (fun w' : World => w'.cell? ⟨w1.heap.size + 1, 1, none⟩ = some (.slice (some ⟨g, 0, none⟩) S.length cs) ∧ w'.cell? ⟨pb, 0, none⟩ = some (.int .i64 p.src) ∧ w'.cell? ⟨pb, 1, none⟩ = some (.int .i64 p.dst) ∧ w'.cell? ⟨pb, 2, none⟩ = some (.int .i64 p.delay) ∧ w'.cell? ⟨pb, 3, none⟩ = some (.int .i64 p.tokens)) wr.drew.drew.drew := ⟨x1, p0, p1, p2, p3⟩
              have hb : InsB w1 ge g cs pb S p wr.drew.drew.drew wr.drew.drew.drew := ⟨hO9, hx9, hp9, hB9.drew, Nat.le_refl _, hgw, (hO9.lt g rfl).2, hp9.lt, hx9.lt⟩
              clear hO9 hx9 hp9 hB9 x0 x1 p0 p1 p2 p3
              generalize wr.drew.drew.drew = V0 at *
              refine wpAnyE_take (i := 1) (v := ?_) rfl (by kernel_rfl) (by kernel_rfl) (by kernel_rfl) (by kernel_rfl) (by kernel_rfl) (fun _ _ _ h => h) hS0 (by rfl) ?_ ?_
              rotate_left
              · intro w9 hSw
                try dsimp only at hSw
                obtain ⟨s0, s1, s2, s3, s4⟩ := hSw
                go_simp
                try with_reducible rfl
              try simp only [Act.put, List.setIfInBounds_toArray, List.set_cons_zero, List.set_cons_succ]
              refine wpAnyE_take (i := 2) (v := ?_) rfl (by kernel_rfl) (by kernel_rfl) (by kernel_rfl) (by kernel_rfl) (by kernel_rfl) (fun _ _ _ h => h) hS0 (by rfl) ?_ ?_
              rotate_left
              · intro w9 hSw
                try dsimp only at hSw
                obtain ⟨s0, s1, s2, s3, s4⟩ := hSw
                go_simp
                try with_reducible rfl
              try simp only [Act.put, List.setIfInBounds_toArray, List.set_cons_zero, List.set_cons_succ]
              refine wpAnyE_take (i := 3) (v := ?_) rfl (by kernel_rfl) (by kernel_rfl) (by kernel_rfl) (by kernel_rfl) (by kernel_rfl) (fun _ _ _ h => h) hS0 (by rfl) ?_ ?_
              rotate_left
              · intro w9 hSw
                try dsimp only at hSw
                obtain ⟨s0, s1, s2, s3, s4⟩ := hSw
                go_simp
                try with_reducible rfl
              try simp only [Act.put, List.setIfInBounds_toArray, List.set_cons_zero, List.set_cons_succ]
              refine wpAnyE_take (i := 4) (v := ?_) rfl (by kernel_rfl) (by kernel_rfl) (by kernel_rfl) (by kernel_rfl) (by kernel_rfl) (fun _ _ _ h => h) hS0 (by rfl) ?_ ?_
              rotate_left
              · intro w9 hSw
                try dsimp only at hSw
                obtain ⟨s0, s1, s2, s3, s4⟩ := hSw
                go_simp
                try with_reducible rfl
              try simp only [Act.put, List.setIfInBounds_toArray, List.set_cons_zero, List.set_cons_succ]
              refine wpAnyE_take (i := 6) (v := ?_) rfl (by kernel_rfl) (by kernel_rfl) (by kernel_rfl) (by kernel_rfl) (by kernel_rfl) (fun _ _ _ h => h) hS0 (by rfl) ?_ ?_
              rotate_left
              · intro w9 hSw
                try dsimp only at hSw
                obtain ⟨s0, s1, s2, s3, s4⟩ := hSw
                go_simp
                try with_reducible rfl
              try simp only [Act.put, List.setIfInBounds_toArray, List.set_cons_zero, List.set_cons_succ]
              refine wpAnyE_take (i := 9) (v := ?_) rfl (by kernel_rfl) (by kernel_rfl) (by kernel_rfl) (by kernel_rfl) (by kernel_rfl) (fun _ _ _ h => h) hS0 (by rfl) ?_ ?_
              rotate_left
              · intro w9 hSw
                try dsimp only at hSw
                obtain ⟨s0, s1, s2, s3, s4⟩ := hSw
                go_simp
                try with_reducible rfl
              try simp only [Act.put, List.setIfInBounds_toArray, List.set_cons_zero, List.set_cons_succ]
              refine wpAnyE_take (i := 10) (v := ?_) rfl (by kernel_rfl) (by kernel_rfl) (by kernel_rfl) (by kernel_rfl) (by kernel_rfl) (fun _ _ _ h => h) hS0 (by rfl) ?_ ?_
              rotate_left
              · intro w9 hSw
                try dsimp only at hSw
                obtain ⟨s0, s1, s2, s3, s4⟩ := hSw
                go_simp
                try with_reducible rfl
              try simp only [Act.put, List.setIfInBounds_toArray, List.set_cons_zero, List.set_cons_succ]
              refine wpAnyE_take (i := 11) (v := ?_) rfl (by kernel_rfl) (by kernel_rfl) (by kernel_rfl) (by kernel_rfl) (by kernel_rfl) (fun _ _ _ h => h) hS0 (by rfl) ?_ ?_
              rotate_left
              · intro w9 hSw
                try dsimp only at hSw
                obtain ⟨s0, s1, s2, s3, s4⟩ := hSw
                go_simp
                try with_reducible rfl
              try simp only [Act.put, List.setIfInBounds_toArray, List.set_cons_zero, List.set_cons_succ]
              refine wpAnyE_take (i := 12) (v := ?_) rfl (by kernel_rfl) (by kernel_rfl) (by kernel_rfl) (by kernel_rfl) (by kernel_rfl) (fun _ _ _ h => h) hS0 (by rfl) ?_ ?_
              rotate_left
              · intro w9 hSw
                try dsimp only at hSw
                obtain ⟨s0, s1, s2, s3, s4⟩ := hSw
                go_simp
                try with_reducible rfl
              try simp only [Act.put, List.setIfInBounds_toArray, List.set_cons_zero, List.set_cons_succ]
              refine wpAnyE_two (i := 0) (j := 7) rfl rfl (by kernel_rfl) (fun K hK => ?_) (fun K hK => ?_)
              · go_simp
                have hN := own_new0 Place.cells 4 V0 101 V0.heap.size hb.le
                try simp only [World.size_alloc] at hN
                replace hb := hb.alloc (.cells #[] 101)
                have hc := hb.cells
                refine hK.out _ _ (fun _ => hc) ?_
                clear hK K hc
                try simp only [Act.put, List.setIfInBounds_toArray, List.set_cons_zero, List.set_cons_succ]
                refine wpAnyE_two (i := 5) (j := 7) rfl rfl (by kernel_rfl) (fun K hK => ?_) (fun K hK => ?_)
                · have hNl := (hb.own.lst.take Place.cells_len t (by omega))
                  refine step_append_lst rfl _ _ 30 rfl Place.cells 4 Place.cells_one (by omega) V0.heap.size 101 _ 32 Try.underlying30 info_place rfl _ [] rfl hN _ _ _ _ (S.take t) rfl hNl (by simp <;> omega) (by omega) hb.le ?_
                  intro u5 wz5 hO1 hG1 hD1
                  replace hb := hb.grown hG1 (fun k hk => (hN.lt k hk).1)
                  clear hN hG1 hD1 hNl
                  have hN := hO1
                  clear hO1
                  have hc := hb.cells
                  refine hK.out _ _ (fun _ => hc) ?_
                  clear hK K hc
                  try simp only [Act.put, List.setIfInBounds_toArray, List.set_cons_zero, List.set_cons_succ]
                  refine wpAnyE_one (i := 7) rfl (by kernel_rfl) (fun K hK => ?_)
                  go_simp
                  have h7 := own_newP wz5 V0.heap.size hb.le p
                  have hs7 : SepB u5 wz5.heap.size := fun k h e => by have := (hN.lt k h).2; omega
                  try simp only [World.size_alloc] at hs7
                  replace hN := hN.alloc (.cells #[.int .i64 p.src, .int .i64 p.dst, .int .i64 p.delay, .int .i64 p.tokens] 101)
                  try simp only [World.size_alloc] at h7
                  replace hb := hb.alloc (.cells #[.int .i64 p.src, .int .i64 p.dst, .int .i64 p.delay, .int .i64 p.tokens] 101)
                  have hc := hb.cells
                  refine hK.out _ _ (fun _ => hc) ?_
                  clear hK K hc
                  try simp only [Act.put, List.setIfInBounds_toArray, List.set_cons_zero, List.set_cons_succ]
                  refine wpAnyE_one (i := 8) rfl (by kernel_rfl) (fun K hK => ?_)
                  have hNl := h7.lst
                  refine step_append_lst rfl _ _ 30 rfl Place.cells 4 Place.cells_one (by omega) V0.heap.size 101 _ 32 Try.underlying30 info_place rfl _ ([] ++ S.take t) rfl hN _ _ _ _ [p] rfl hNl (by simp <;> omega) (by omega) hb.le ?_
                  intro u8 wz8 hO1 hG1 hD1
                  have l7 := (h7.lt _ rfl).2
                  replace h7 := own_kept h7 hG1 (fun k a b => hs7 k b (Option.some.inj a).symm)
                  replace hs7 := hs7.app hD1 l7
                  clear l7
                  replace hb := hb.grown hG1 (fun k hk => (hN.lt k hk).1)
                  clear hN hG1 hD1 hNl
                  have hN := hO1
                  clear hO1
                  have hc := hb.cells
                  refine hK.out _ _ (fun _ => hc) ?_
                  clear hK K hc
                  try simp only [Act.put, List.setIfInBounds_toArray, List.set_cons_zero, List.set_cons_succ]
                  refine wpAnyE_one (i := 13) rfl (by kernel_rfl) (fun K hK => ?_)
                  have hNl := (lst_dropP hb.own.lst t (by omega))
                  refine step_append_lst rfl _ _ 30 rfl Place.cells 4 Place.cells_one (by omega) V0.heap.size 101 _ 32 Try.underlying30 info_place rfl _ ([] ++ S.take t ++ [p]) rfl hN _ _ _ _ (S.drop t) rfl hNl (by simp <;> omega) (by omega) hb.le ?_
                  intro u13 wz13 hO1 hG1 hD1
                  have l7 := (h7.lt _ rfl).2
                  replace h7 := own_kept h7 hG1 (fun k a b => hs7 k b (Option.some.inj a).symm)
                  replace hs7 := hs7.app hD1 l7
                  clear l7
                  replace hb := hb.grown hG1 (fun k hk => (hN.lt k hk).1)
                  clear hN hG1 hD1 hNl
                  have hN := hO1
                  clear hO1
                  rw [hNe.out] at hN
                  obtain ⟨g2, cs2, rfl, hg2, -⟩ := own_form hN (by rw [hfin.out]; simp; omega)
                  have hc := hb.cells
                  refine hK.out _ _ (fun _ => hc) ?_
                  clear hK K hc
                  try simp only [Act.put, List.setIfInBounds_toArray, List.set_cons_zero, List.set_cons_succ]
                  refine wpAnyE_one (i := 14) rfl (by kernel_rfl) (fun K hK => ?_)
                  go_simp
                  have hc := hb.cells
                  refine hK.out _ _ (fun _ => hc) ?_
                  clear hK K hc
                  try simp only [Act.put, List.setIfInBounds_toArray, List.set_cons_zero, List.set_cons_succ]
                  refine wpAnyE_one (i := 15) rfl (by kernel_rfl) (fun K hK => ?_)
                  have hX := hb.box
                  obtain ⟨f0, f1⟩ := hX.f2
                  obtain ⟨-, x1⟩ := hX.c2
                  have lX := hX.lt
                  go_simp
                  refine hK.out _ _ (fun h => absurd rfl h) ?_
                  clear hK K f0 f1 x1 lX
                  try simp only [Act.put, List.setIfInBounds_toArray, List.set_cons_zero, List.set_cons_succ]
                  refine wpAnyE_done (by kernel_rfl) ?_
                  clear h7 hs7
                  have hnb := Lib.hid (hN.ne_blk hX (by decide))
                  have hgb := hb.xlt
                  have hO7 : Own Place.cells 4 101 (wz13.setCell ⟨w1.heap.size + 1, 1, none⟩ (.slice (some ⟨g2, 0, none⟩) (simpF (gp.take (k + 1))).length cs2)) V0.heap.size (.slice (some ⟨g2, 0, none⟩) (simpF (gp.take (k + 1))).length cs2) (simpF (gp.take (k + 1))) := own_far hN (p := ⟨w1.heap.size + 1, 1, none⟩) hnb.out _
                  have hO8 := Lib.hid (hO7.rebase (show w1.heap.size ≤ V0.heap.size by omega))
                  have hX8 := Lib.hid (hX.set2b (u := (.slice (some ⟨g2, 0, none⟩) (simpF (gp.take (k + 1))).length cs2)))
                  have hB8 := Lib.hid (hb.bel.setCell (p := ⟨w1.heap.size + 1, 1, none⟩) (Nat.le_succ _) (.slice (some ⟨g2, 0, none⟩) (simpF (gp.take (k + 1))).length cs2))
                  clear hnb hO7 hN hX hb
                  go_wp2
                  go_roundw
                  case rel => exact ⟨k + 1, g2, cs2, hlt, by go_num, hO8.out, hX8.out, hB8.out⟩
                  case measure => simp [intOf]; omega
                · go_simp
                  have h7 := own_newP (V0.alloc (.cells #[] 101)) V0.heap.size hb.le p
                  have hs7 : SepB (Value.slice (some ⟨V0.heap.size, 0, none⟩) 0 0) (V0.alloc (.cells #[] 101)).heap.size := fun k h e => by have := (hN.lt k h).2; omega
                  try simp only [World.size_alloc] at hs7
                  replace hN := hN.alloc (.cells #[.int .i64 p.src, .int .i64 p.dst, .int .i64 p.delay, .int .i64 p.tokens] 101)
                  try simp only [World.size_alloc] at h7
                  replace hb := hb.alloc (.cells #[.int .i64 p.src, .int .i64 p.dst, .int .i64 p.delay, .int .i64 p.tokens] 101)
                  have hc := hb.cells
                  refine hK.out _ _ (fun _ => hc) ?_
                  clear hK K hc
                  try simp only [Act.put, List.setIfInBounds_toArray, List.set_cons_zero, List.set_cons_succ]
                  refine wpAnyE_one (i := 5) rfl (by kernel_rfl) (fun K hK => ?_)
                  have hNl := (hb.own.lst.take Place.cells_len t (by omega))
                  refine step_append_lst rfl _ _ 30 rfl Place.cells 4 Place.cells_one (by omega) V0.heap.size 101 _ 32 Try.underlying30 info_place rfl _ [] rfl hN _ _ _ _ (S.take t) rfl hNl (by simp <;> omega) (by omega) hb.le ?_
                  intro u5 wz5 hO1 hG1 hD1
                  have l7 := (h7.lt _ rfl).2
                  replace h7 := own_kept h7 hG1 (fun k a b => hs7 k b (Option.some.inj a).symm)
                  replace hs7 := hs7.app hD1 l7
                  clear l7
                  replace hb := hb.grown hG1 (fun k hk => (hN.lt k hk).1)
                  clear hN hG1 hD1 hNl
                  have hN := hO1
                  clear hO1
                  have hc := hb.cells
                  refine hK.out _ _ (fun _ => hc) ?_
                  clear hK K hc
                  try simp only [Act.put, List.setIfInBounds_toArray, List.set_cons_zero, List.set_cons_succ]
                  refine wpAnyE_one (i := 8) rfl (by kernel_rfl) (fun K hK => ?_)
                  have hNl := h7.lst
                  refine step_append_lst rfl _ _ 30 rfl Place.cells 4 Place.cells_one (by omega) V0.heap.size 101 _ 32 Try.underlying30 info_place rfl _ ([] ++ S.take t) rfl hN _ _ _ _ [p] rfl hNl (by simp <;> omega) (by omega) hb.le ?_
                  intro u8 wz8 hO1 hG1 hD1
                  have l7 := (h7.lt _ rfl).2
                  replace h7 := own_kept h7 hG1 (fun k a b => hs7 k b (Option.some.inj a).symm)
                  replace hs7 := hs7.app hD1 l7
                  clear l7
                  replace hb := hb.grown hG1 (fun k hk => (hN.lt k hk).1)
                  clear hN hG1 hD1 hNl
                  have hN := hO1
                  clear hO1
                  have hc := hb.cells
                  refine hK.out _ _ (fun _ => hc) ?_
                  clear hK K hc
                  try simp only [Act.put, List.setIfInBounds_toArray, List.set_cons_zero, List.set_cons_succ]
                  refine wpAnyE_one (i := 13) rfl (by kernel_rfl) (fun K hK => ?_)
                  have hNl := (lst_dropP hb.own.lst t (by omega))
                  refine step_append_lst rfl _ _ 30 rfl Place.cells 4 Place.cells_one (by omega) V0.heap.size 101 _ 32 Try.underlying30 info_place rfl _ ([] ++ S.take t ++ [p]) rfl hN _ _ _ _ (S.drop t) rfl hNl (by simp <;> omega) (by omega) hb.le ?_
                  intro u13 wz13 hO1 hG1 hD1
                  have l7 := (h7.lt _ rfl).2
                  replace h7 := own_kept h7 hG1 (fun k a b => hs7 k b (Option.some.inj a).symm)
                  replace hs7 := hs7.app hD1 l7
                  clear l7
                  replace hb := hb.grown hG1 (fun k hk => (hN.lt k hk).1)
                  clear hN hG1 hD1 hNl
                  have hN := hO1
                  clear hO1
                  rw [hNe.out] at hN
                  obtain ⟨g2, cs2, rfl, hg2, -⟩ := own_form hN (by rw [hfin.out]; simp; omega)
                  have hc := hb.cells
                  refine hK.out _ _ (fun _ => hc) ?_
                  clear hK K hc
                  try simp only [Act.put, List.setIfInBounds_toArray, List.set_cons_zero, List.set_cons_succ]
                  refine wpAnyE_one (i := 14) rfl (by kernel_rfl) (fun K hK => ?_)
                  go_simp
                  have hc := hb.cells
                  refine hK.out _ _ (fun _ => hc) ?_
                  clear hK K hc
                  try simp only [Act.put, List.setIfInBounds_toArray, List.set_cons_zero, List.set_cons_succ]
                  refine wpAnyE_one (i := 15) rfl (by kernel_rfl) (fun K hK => ?_)
                  have hX := hb.box
                  obtain ⟨f0, f1⟩ := hX.f2
                  obtain ⟨-, x1⟩ := hX.c2
                  have lX := hX.lt
                  go_simp
                  refine hK.out _ _ (fun h => absurd rfl h) ?_
                  clear hK K f0 f1 x1 lX
                  try simp only [Act.put, List.setIfInBounds_toArray, List.set_cons_zero, List.set_cons_succ]
                  refine wpAnyE_done (by kernel_rfl) ?_
                  clear h7 hs7
                  have hnb := Lib.hid (hN.ne_blk hX (by decide))
                  have hgb := hb.xlt
                  have hO7 : Own Place.cells 4 101 (wz13.setCell ⟨w1.heap.size + 1, 1, none⟩ (.slice (some ⟨g2, 0, none⟩) (simpF (gp.take (k + 1))).length cs2)) V0.heap.size (.slice (some ⟨g2, 0, none⟩) (simpF (gp.take (k + 1))).length cs2) (simpF (gp.take (k + 1))) := own_far hN (p := ⟨w1.heap.size + 1, 1, none⟩) hnb.out _
                  have hO8 := Lib.hid (hO7.rebase (show w1.heap.size ≤ V0.heap.size by omega))
                  have hX8 := Lib.hid (hX.set2b (u := (.slice (some ⟨g2, 0, none⟩) (simpF (gp.take (k + 1))).length cs2)))
                  have hB8 := Lib.hid (hb.bel.setCell (p := ⟨w1.heap.size + 1, 1, none⟩) (Nat.le_succ _) (.slice (some ⟨g2, 0, none⟩) (simpF (gp.take (k + 1))).length cs2))
                  clear hnb hO7 hN hX hb
                  go_wp2
                  go_roundw
                  case rel => exact ⟨k + 1, g2, cs2, hlt, by go_num, hO8.out, hX8.out, hB8.out⟩
                  case measure => simp [intOf]; omega
              · go_simp
                have h7 := own_newP V0 V0.heap.size hb.le p
                try simp only [World.size_alloc] at h7
                replace hb := hb.alloc (.cells #[.int .i64 p.src, .int .i64 p.dst, .int .i64 p.delay, .int .i64 p.tokens] 101)
                have hc := hb.cells
                refine hK.out _ _ (fun _ => hc) ?_
                clear hK K hc
                try simp only [Act.put, List.setIfInBounds_toArray, List.set_cons_zero, List.set_cons_succ]
                refine wpAnyE_one (i := 0) rfl (by kernel_rfl) (fun K hK => ?_)
                go_simp
                have hN := own_new0 Place.cells 4 (V0.alloc (.cells #[.int .i64 p.src, .int .i64 p.dst, .int .i64 p.delay, .int .i64 p.tokens] 101)) 101 V0.heap.size hb.le
                have hs7 : SepB (.slice (some ⟨(V0.alloc (.cells #[.int .i64 p.src, .int .i64 p.dst, .int .i64 p.delay, .int .i64 p.tokens] 101)).heap.size, 0, none⟩) 0 0) V0.heap.size := fun k h e => by have := Option.some.inj h; simp at this; omega
                try simp only [World.size_alloc] at hs7
                replace h7 := h7.alloc (.cells #[] 101)
                try simp only [World.size_alloc] at hN
                replace hb := hb.alloc (.cells #[] 101)
                have hc := hb.cells
                refine hK.out _ _ (fun _ => hc) ?_
                clear hK K hc
                try simp only [Act.put, List.setIfInBounds_toArray, List.set_cons_zero, List.set_cons_succ]
                refine wpAnyE_one (i := 5) rfl (by kernel_rfl) (fun K hK => ?_)
                have hNl := (hb.own.lst.take Place.cells_len t (by omega))
                refine step_append_lst rfl _ _ 30 rfl Place.cells 4 Place.cells_one (by omega) V0.heap.size 101 _ 32 Try.underlying30 info_place rfl _ [] rfl hN _ _ _ _ (S.take t) rfl hNl (by simp <;> omega) (by omega) hb.le ?_
                intro u5 wz5 hO1 hG1 hD1
                have l7 := (h7.lt _ rfl).2
                replace h7 := own_kept h7 hG1 (fun k a b => hs7 k b (Option.some.inj a).symm)
                replace hs7 := hs7.app hD1 l7
                clear l7
                replace hb := hb.grown hG1 (fun k hk => (hN.lt k hk).1)
                clear hN hG1 hD1 hNl
                have hN := hO1
                clear hO1
                have hc := hb.cells
                refine hK.out _ _ (fun _ => hc) ?_
                clear hK K hc
                try simp only [Act.put, List.setIfInBounds_toArray, List.set_cons_zero, List.set_cons_succ]
                refine wpAnyE_one (i := 8) rfl (by kernel_rfl) (fun K hK => ?_)
                have hNl := h7.lst
                refine step_append_lst rfl _ _ 30 rfl Place.cells 4 Place.cells_one (by omega) V0.heap.size 101 _ 32 Try.underlying30 info_place rfl _ ([] ++ S.take t) rfl hN _ _ _ _ [p] rfl hNl (by simp <;> omega) (by omega) hb.le ?_
                intro u8 wz8 hO1 hG1 hD1
                have l7 := (h7.lt _ rfl).2
                replace h7 := own_kept h7 hG1 (fun k a b => hs7 k b (Option.some.inj a).symm)
                replace hs7 := hs7.app hD1 l7
                clear l7
                replace hb := hb.grown hG1 (fun k hk => (hN.lt k hk).1)
                clear hN hG1 hD1 hNl
                have hN := hO1
                clear hO1
                have hc := hb.cells
                refine hK.out _ _ (fun _ => hc) ?_
                clear hK K hc
                try simp only [Act.put, List.setIfInBounds_toArray, List.set_cons_zero, List.set_cons_succ]
                refine wpAnyE_one (i := 13) rfl (by kernel_rfl) (fun K hK => ?_)
                have hNl := (lst_dropP hb.own.lst t (by omega))
                refine step_append_lst rfl _ _ 30 rfl Place.cells 4 Place.cells_one (by omega) V0.heap.size 101 _ 32 Try.underlying30 info_place rfl _ ([] ++ S.take t ++ [p]) rfl hN _ _ _ _ (S.drop t) rfl hNl (by simp <;> omega) (by omega) hb.le ?_
                intro u13 wz13 hO1 hG1 hD1
                have l7 := (h7.lt _ rfl).2
                replace h7 := own_kept h7 hG1 (fun k a b => hs7 k b (Option.some.inj a).symm)
                replace hs7 := hs7.app hD1 l7
                clear l7
                replace hb := hb.grown hG1 (fun k hk => (hN.lt k hk).1)
                clear hN hG1 hD1 hNl
                have hN := hO1
                clear hO1
                rw [hNe.out] at hN
                obtain ⟨g2, cs2, rfl, hg2, -⟩ := own_form hN (by rw [hfin.out]; simp; omega)
                have hc := hb.cells
                refine hK.out _ _ (fun _ => hc) ?_
                clear hK K hc
                try simp only [Act.put, List.setIfInBounds_toArray, List.set_cons_zero, List.set_cons_succ]
                refine wpAnyE_one (i := 14) rfl (by kernel_rfl) (fun K hK => ?_)
                go_simp
                have hc := hb.cells
                refine hK.out _ _ (fun _ => hc) ?_
                clear hK K hc
                try simp only [Act.put, List.setIfInBounds_toArray, List.set_cons_zero, List.set_cons_succ]
                refine wpAnyE_one (i := 15) rfl (by kernel_rfl) (fun K hK => ?_)
                have hX := hb.box
                obtain ⟨f0, f1⟩ := hX.f2
                obtain ⟨-, x1⟩ := hX.c2
                have lX := hX.lt
                go_simp
                refine hK.out _ _ (fun h => absurd rfl h) ?_
                clear hK K f0 f1 x1 lX
                try simp only [Act.put, List.setIfInBounds_toArray, List.set_cons_zero, List.set_cons_succ]
                refine wpAnyE_done (by kernel_rfl) ?_
                clear h7 hs7
                have hnb := Lib.hid (hN.ne_blk hX (by decide))
                have hgb := hb.xlt
                have hO7 : Own Place.cells 4 101 (wz13.setCell ⟨w1.heap.size + 1, 1, none⟩ (.slice (some ⟨g2, 0, none⟩) (simpF (gp.take (k + 1))).length cs2)) V0.heap.size (.slice (some ⟨g2, 0, none⟩) (simpF (gp.take (k + 1))).length cs2) (simpF (gp.take (k + 1))) := own_far hN (p := ⟨w1.heap.size + 1, 1, none⟩) hnb.out _
                have hO8 := Lib.hid (hO7.rebase (show w1.heap.size ≤ V0.heap.size by omega))
                have hX8 := Lib.hid (hX.set2b (u := (.slice (some ⟨g2, 0, none⟩) (simpF (gp.take (k + 1))).length cs2)))
                have hB8 := Lib.hid (hb.bel.setCell (p := ⟨w1.heap.size + 1, 1, none⟩) (Nat.le_succ _) (.slice (some ⟨g2, 0, none⟩) (simpF (gp.take (k + 1))).length cs2))
                clear hnb hO7 hN hX hb
                go_wp2
                go_roundw
                case rel => exact ⟨k + 1, g2, cs2, hlt, by go_num, hO8.out, hX8.out, hB8.out⟩
                case measure => simp [intOf]; omega
      · obtain rfl : k = gp.length := by omega
        rw [List.take_length] at hO hx
        have hb2 := hb1.now hB
        obtain ⟨k0, k1⟩ := (hb0.now hB).c2
        obtain ⟨x0, x1⟩ := hx.c2
        obtain ⟨r0, r1⟩ := hb2.c2
        obtain ⟨z0, z1⟩ := hb2.f2
        have hw1 := hb1.lt
        go_wp2
        refine bodyPost_ret (v := .tuple #[.agg #[.int .i64 ge, .slice (some ⟨g, 0, none⟩) (simpF gp).length cs], .int .i64 0]) (by simp [results, Try.results44, go_sem, r0, r1]) rfl (RetGI.of hE.out ⟨_, rfl, ?_, ?_⟩)
        · exact ((hO.far (p := ⟨w.heap.size + 1, 0, none⟩) hw1 _).far (p := ⟨w.heap.size + 1, 1, none⟩) hw1 _).rebase hW.size
        · exact ((hW.trans (hB.mono hW.size)).setCell (by simp) _).setCell (by simp) _
end Go.Proofs.Ytbdklhahbeiffaa
