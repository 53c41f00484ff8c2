/-
  The walks of RoomsSuffice, the program's and the reference's.
-/
import Derived.Test.YtbdklhahbeiffaaLimitA
import Derived.Test.YtbdklhahbeiffaaCirQ
import Derived.Test.YtbdklhahbeiffaaPotA
import Derived.Test.YtbdklhahbeiffaaCirI
import Derived.Test.YtbdklhahbeiffaaCirS
namespace Go.Proofs.Ytbdklhahbeiffaa
open Go.RowKit
set_option linter.unusedVariables false
set_option linter.unusedSimpArgs false

theorem okPlace_iff (e : Int) (he : 1 ≤ e ∧ e ≤ 10) (p : Place) : okPlace e p = true ↔ (0 ≤ p.src ∧ p.src < e) ∧ (0 ≤ p.dst ∧ p.dst < e) ∧ (0 ≤ p.delay ∧ p.delay ≤ 1000) ∧ (0 ≤ p.tokens ∧ p.tokens ≤ 5) := by
  have hw : wrap64 (e - 1) = e - 1 := by unfold wrap64; omega
  unfold okPlace
  rw [hw]
  simp only [Bool.and_eq_true, inB_iff]
  omega
theorem roomsOk_rng {gp : List Place} {l r : List Int} (h : roomsOk gp l r = true) (k : Nat) (hk : k < l.length) : max 1 (plAt gp (l.getD k 0)).tokens ≤ r.getD k 0 ∧ r.getD k 0 ≤ min 8 ((plAt gp (l.getD k 0)).tokens + 5) := by
  unfold roomsOk roomsUp at h
  simp only [Bool.and_eq_true, decide_eq_true_eq, List.all_eq_true, List.mem_range] at h
  have h3 := h.2 k hk
  rwa [inB_iff] at h3
/-- The limited graph is a valid one. -/
theorem lim_ok {ge : Int} {gp : List Place} {l r : List Int} (hg : okGraph ge gp = true) (hb : bufOk gp.length l = true) (hr : roomsOk gp l r = true) (hlen : gp.length + l.length ≤ 30) : okGraph ge (gp ++ backs gp l r l.length) = true := by
  have he := okGraph_ev hg
  unfold okGraph
  rw [Bool.and_eq_true, Bool.and_eq_true, List.all_eq_true]
  refine ⟨⟨(inB_iff _ _ _).2 he, by simp [backs_len]; omega⟩, fun p hp => ?_⟩
  rw [okPlace_iff _ he]
  rcases List.mem_append.1 hp with h | h
  · exact okGraph_place hg h
  · unfold backs at h
    obtain ⟨j, hj, rfl⟩ := List.mem_map.1 h
    have hj := List.mem_range.1 hj
    obtain ⟨q, hq, hql⟩ := (bufOk_at hb).2 j hj
    have hrg := roomsOk_rng hr j hj
    have e : l.getD j 0 = (q : Int) := by simp [List.getD, List.getElem?_eq_getElem hj, hq]
    rw [e] at hrg ⊢
    rw [plAt_nat _ _ hql] at hrg
    have hp2 := okGraph_place hg (List.getElem_mem hql)
    unfold backP
    rw [plAt_nat _ _ hql]
    simp only
    omega
theorem limCode_zero {ge : Int} {gp : List Place} {l r : List Int} (h : limCode ge gp l r = 0) : okGraph ge gp = true ∧ bufOk gp.length l = true ∧ roomsOk gp l r = true ∧ gp.length + l.length ≤ 30 := by
  unfold limCode at h
  split at h
  · omega
  · split at h
    · omega
    · split at h
      · omega
      · split at h
        · omega
        · refine ⟨by simp_all, by simp_all, by simp_all, by omega⟩
theorem ratioOk_le {a b : Int} (h : ratioOk a b = true) : (-1000000 ≤ a ∧ a ≤ 1000000) ∧ 1 ≤ b ∧ b ≤ 1000000 := by
  unfold ratioOk at h
  simp only [Bool.and_eq_true, inB_iff] at h
  exact ⟨h.1.1, h.1.2⟩
open Classical in
/-- Live, and no circuit beats the ratio. -/
noncomputable def sufB (n : Nat) (gp : List Place) (a b : Int) : Bool := (orderF n gp).isSome && decide (¬ OverC gp a b 0)
theorem sufB_dead {n : Nat} {gp : List Place} {a b : Int} (h : (orderF n gp).isSome = false) : sufB n gp a b = false := by unfold sufB; rw [h]; rfl
theorem sufB_over {n : Nat} {gp : List Place} {a b : Int} (h : OverC gp a b 0) : sufB n gp a b = false := by unfold sufB; simp [h]
theorem sufB_ok {n : Nat} {gp : List Place} {a b : Int} (h : (orderF n gp).isSome = true) (h2 : ¬ OverC gp a b 0) : sufB n gp a b = true := by unfold sufB; simp [h, h2]
/-- What RoomsSuffice gives. -/
noncomputable def sufF (ge : Int) (gp : List Place) (l r : List Int) (a b : Int) : Bool × Int :=
  if okGraph ge gp = false ∨ ratioOk a b = false then (false, 1) else if limCode ge gp l r = 0 then (sufB ge.toNat (gp ++ backs gp l r l.length) a b, 0) else (false, limCode ge gp l r)
theorem sufF_bad {ge : Int} {gp : List Place} {l r : List Int} {a b : Int} (h : okGraph ge gp = false ∨ ratioOk a b = false) : sufF ge gp l r a b = (false, 1) := if_pos h
theorem sufF_code {ge : Int} {gp : List Place} {l r : List Int} {a b : Int} (h : okGraph ge gp = true) (h2 : ratioOk a b = true) (h3 : limCode ge gp l r ≠ 0) : sufF ge gp l r a b = (false, limCode ge gp l r) := by
  unfold sufF
  rw [if_neg (by rintro (h4 | h4) <;> simp_all), if_neg h3]
theorem sufF_ok {ge : Int} {gp : List Place} {l r : List Int} {a b : Int} (h : okGraph ge gp = true) (h2 : ratioOk a b = true) (h3 : limCode ge gp l r = 0) : sufF ge gp l r a b = (sufB ge.toNat (gp ++ backs gp l r l.length) a b, 0) := by
  unfold sufF
  rw [if_neg (by rintro (h4 | h4) <;> simp_all), if_pos h3]
theorem limF_code {ge : Int} {gp : List Place} {l r : List Int} (h : limCode ge gp l r ≠ 0) : limF ge gp l r = (0, [], limCode ge gp l r) := if_neg h
theorem limF_ok {ge : Int} {gp : List Place} {l r : List Int} (h : limCode ge gp l r = 0) : limF ge gp l r = (ge, gp ++ backs gp l r l.length, 0) := if_pos h
end Go.Proofs.Ytbdklhahbeiffaa
namespace Go.Proofs.Ytbdklhahbeiffaa
open Go.RowKit
set_option linter.unusedVariables false
set_option linter.unusedSimpArgs false

theorem retBI_of {F : Bool × Int} {b : Bool} {c : Int} {r : Ending} {w w' : World} (hE : F = (b, c)) (hr : r = .returned (.tuple #[.bool b, .int .i64 c])) (hB : Below w.heap.size w w') :
    r = .returned (.tuple #[.bool F.1, .int .i64 F.2]) ∧ Below w.heap.size w w' := by
  subst hE
  exact ⟨hr, hB⟩
set_option maxHeartbeats 4000000 in
set_option maxRecDepth 100000 in
theorem impl_suffices (v : Value) (n : Nat) (gp : List Place) (a b : Int) (w : World) (h0 : Lst Place.cells 4 w w.heap.size v gp) (hg : Hid (okGraph n gp = true)) (ha : -1000000 ≤ a ∧ a ≤ 1000000) (hb : 1 ≤ b ∧ b ≤ 1000000) :
    Calls Try.prog 62 #[.agg #[.int .i64 n, v], .agg #[.int .i64 a, .int .i64 b]] w fun e w' => e = .returned (.bool (sufB n gp a b)) ∧ Below w.heap.size w w' := by
  obtain ⟨A, c, rfl⟩ := h0.shape
  have hnq := fun (w : World) (A : Option Addr) (l c : Nat) => Lib.run_eql_slice_nil (P := Try.prog) w 38 2 A l c 0 0 Try.underlying38
  go_enter Try.func62, Try.ntmps62
  go_wp2_with fail
  have hW : Below w.heap.size w ((w.alloc (.cells #[.int .i64 (n : Int), .slice A gp.length c] 32)).alloc (.cells #[.int .i64 a, .int .i64 b] 34)) := (((Below.refl _ _).alloc (Nat.le_refl _) _).alloc (by first | (simp; done) | (simp; omega)) _); have hb0 : Blk ((w.alloc (.cells #[.int .i64 (n : Int), .slice A gp.length c] 32)).alloc (.cells #[.int .i64 a, .int .i64 b] 34)) (w.heap.size) 32 #[.int .i64 (n : Int), .slice A gp.length c] := ((Blk.newAt w _ (by first | rfl | (simp; done) | (simp; omega))).alloc _); have hb1 : Blk ((w.alloc (.cells #[.int .i64 (n : Int), .slice A gp.length c] 32)).alloc (.cells #[.int .i64 a, .int .i64 b] 34)) (w.heap.size + 1) 34 #[.int .i64 a, .int .i64 b] := (Blk.newAt (w.alloc (.cells #[.int .i64 (n : Int), .slice A gp.length c] 32)) _ (by first | rfl | (simp; done) | (simp; omega))); replace h0 := h0.now hW; have hsW : w.heap.size + 2 = ((w.alloc (.cells #[.int .i64 (n : Int), .slice A gp.length c] 32)).alloc (.cells #[.int .i64 a, .int .i64 b] 34)).heap.size := (by first | rfl | (simp; done) | (simp; omega)); generalize ((w.alloc (.cells #[.int .i64 (n : Int), .slice A gp.length c] 32)).alloc (.cells #[.int .i64 a, .int .i64 b] 34)) = W at *; replace hsW := Lib.hid hsW
  refine (impl_isLive _ n gp _ h0 hg).mono ?_
  rintro e w1 ⟨rfl, hB⟩
  replace hW := hW.trans (hB.mono hW.size); replace h0 := h0.now hB; replace hb0 := hb0.now hB; replace hb1 := hb1.now hB
  clear hB
  obtain ⟨k0, k1⟩ := hb0.c2
  obtain ⟨r0, r1⟩ := hb1.c2
  cases ho : (orderF n gp).isSome
  · have hF := Lib.hid (sufB_dead (a := a) (b := b) ho)
    clear ho
    go_wp2
    go_ret
    exact ⟨ret_bool hF.out.symm, hW⟩
  · have hoH := Lib.hid ho
    clear ho
    go_wp2_with fail
    refine (impl_betterCircuit _ n gp a b _ h0 hg ha hb).mono ?_
    rintro e w2 ⟨u, m, rfl, hO, hR, hB⟩
    clear k0 k1 r0 r1
    replace hW := hW.trans (hB.mono hW.size)
    rcases hR.out with ⟨hm0, hv0, hno⟩ | ⟨hne, hc, hcw⟩
    · subst hv0
      have hF := Lib.hid (sufB_ok hoH.out hno)
      clear hno hm0 hR
      go_wp2
      go_ret
      exact ⟨ret_bool hF.out.symm, hW⟩
    · obtain ⟨UA, uc, rfl⟩ := hO.shape
      rw [ints_len] at hO ⊢
      have hmp := List.length_pos_iff.2 hne
      obtain ⟨b0, off0, hUA, _, _⟩ := ints_at hO.lst 0 (by rw [ints_len]; exact hmp)
      subst hUA
      have hF := Lib.hid (sufB_over (n := n) (gp := gp) (a := a) (b := b) ⟨_, hc, hcw⟩)
      clear hne hc hcw hR
      go_wp2
      go_ret
      exact ⟨ret_bool hF.out.symm, hW⟩
set_option maxHeartbeats 4000000 in
set_option maxRecDepth 100000 in
theorem spec_l16Suffice (v : Value) (n : Nat) (gp : List Place) (u : Value) (l : List Int) (t : Value) (r : List Int) (a b : Int) (w : World) (h0 : Lst Place.cells 4 w w.heap.size v gp) (h1 : Lst intCell 1 w w.heap.size u l) (h2 : Lst intCell 1 w w.heap.size t r)
    (hg : Hid (okGraph n gp = true)) (hb : Hid (bufOk gp.length l = true)) (hr : Hid (roomsOk gp l r = true)) (hl : gp.length + l.length ≤ 30) (ha : -1000000 ≤ a ∧ a ≤ 1000000) (hbb : 1 ≤ b ∧ b ≤ 1000000) :
    Calls Try.prog 77 #[.agg #[.int .i64 n, v], u, t, .agg #[.int .i64 a, .int .i64 b]] w fun e w' => e = .returned (.bool (sufB n (gp ++ backs gp l r l.length) a b)) ∧ Below w.heap.size w w' := by
  obtain ⟨A, c, rfl⟩ := h0.shape
  obtain ⟨C, d, rfl⟩ := h1.shape
  obtain ⟨D, dd, rfl⟩ := h2.shape
  have hgq := Lib.hid (lim_ok hg.out hb.out hr.out hl)
  obtain ⟨gq, hgqd⟩ : ∃ gq, gp ++ backs gp l r l.length = gq := ⟨_, rfl⟩
  rw [hgqd] at hgq ⊢
  replace hgqd := Lib.hid hgqd
  go_enter Try.func77, Try.ntmps77
  go_wp2_with fail
  have hW : Below w.heap.size w ((w.alloc (.cells #[.int .i64 (n : Int), .slice A gp.length c] 32)).alloc (.cells #[.int .i64 a, .int .i64 b] 34)) := (((Below.refl _ _).alloc (Nat.le_refl _) _).alloc (by first | (simp; done) | (simp; omega)) _); have hb0 : Blk ((w.alloc (.cells #[.int .i64 (n : Int), .slice A gp.length c] 32)).alloc (.cells #[.int .i64 a, .int .i64 b] 34)) (w.heap.size) 32 #[.int .i64 (n : Int), .slice A gp.length c] := ((Blk.newAt w _ (by first | rfl | (simp; done) | (simp; omega))).alloc _); have hb1 : Blk ((w.alloc (.cells #[.int .i64 (n : Int), .slice A gp.length c] 32)).alloc (.cells #[.int .i64 a, .int .i64 b] 34)) (w.heap.size + 1) 34 #[.int .i64 a, .int .i64 b] := (Blk.newAt (w.alloc (.cells #[.int .i64 (n : Int), .slice A gp.length c] 32)) _ (by first | rfl | (simp; done) | (simp; omega))); replace h0 := h0.now hW; replace h1 := h1.now hW; replace h2 := h2.now hW; have hsW : w.heap.size + 2 = ((w.alloc (.cells #[.int .i64 (n : Int), .slice A gp.length c] 32)).alloc (.cells #[.int .i64 a, .int .i64 b] 34)).heap.size := (by first | rfl | (simp; done) | (simp; omega)); generalize ((w.alloc (.cells #[.int .i64 (n : Int), .slice A gp.length c] 32)).alloc (.cells #[.int .i64 a, .int .i64 b] 34)) = W at *; replace hsW := Lib.hid hsW
  refine (spec_l16Limit _ n gp _ l _ r _ h0 h1 h2 hg hb hr).mono ?_
  rintro e w1 ⟨x, rfl, hO, hB⟩
  replace hW := hW.trans (hB.mono hW.size); replace hb1 := hb1.now hB
  clear hB h0 h1 h2 hb0
  rw [hgqd.out] at hO
  obtain ⟨X, cx, rfl⟩ := hO.shape
  have hA2 : Below w1.heap.size w1 (w1.alloc (.cells #[.int .i64 (n : Int), .slice X gq.length cx] 32)) := (Below.refl _ _).alloc (Nat.le_refl _) _
  have hbx := Blk.newAt w1 (t := 32) (cs := #[.int .i64 (n : Int), .slice X gq.length cx]) _ rfl
  go_wp2_with fail
  replace hW := hW.trans (hA2.mono hW.size); replace hO := hO.now hA2; replace hb1 := hb1.now hA2
  clear hA2
  refine (spec_l12Dead _ n gq _ hO.lst hgq).mono ?_
  rintro e w2 ⟨v2, out, rfl, hL2, hR2, hB⟩
  obtain ⟨V2, c2, rfl⟩ := hL2.shape
  rw [ints_len] at hL2 ⊢
  replace hbx := hbx.now hB
  replace hW := hW.trans (hB.mono hW.size); replace hO := hO.now hB; replace hb1 := hb1.now hB
  clear hB hL2
  obtain ⟨k0, k1⟩ := hbx.c2
  obtain ⟨r0, r1⟩ := hb1.c2
  by_cases ho : 0 < out.length
  · have q9 : ((out.length : Int) == 0) = false := by rw [beq_eq_false_iff_ne]; omega
    have hF := Lib.hid (sufB_dead (n := n) (gp := gq) (a := a) (b := b) (by have := hR2.out; rw [decide_eq_true ho] at this; cases h : orderF n gq with | none => rfl | some o => rw [h] at this; cases this))
    have q8 : ¬ out.length = 0 := by omega
    go_wp2
    go_ret
    exact ⟨ret_bool hF.out.symm, hW⟩
  · have q9 : ((out.length : Int) == 0) = true := by rw [beq_iff_eq]; omega
    have q8 : out.length = 0 := by omega
    have hlv : Hid ((orderF n gq).isSome = true) := by have := hR2.out; rw [decide_eq_false ho] at this; show _ = _; cases h : orderF n gq with | none => rw [h] at this; cases this | some o => rfl
    clear ho
    go_wp2_with fail
    refine (spec_l15Over _ n gq a b 0 _ hO.lst hgq ha hbb).mono ?_
    rintro e w3 ⟨v3, nx, rfl, hL3, hF3, hB⟩
    obtain ⟨V3, c3, rfl⟩ := hL3.shape
    rw [ints_len] at hL3 ⊢
    replace hW := hW.trans (hB.mono hW.size)
    clear hB k0 k1 r0 r1
    by_cases hn : nx = []
    · have p9 : ((nx.length : Int) == 0) = true := by rw [hn]; rfl
      have p8 : nx.length = 0 := by rw [hn]; rfl
      have hF := Lib.hid (sufB_ok hlv.out (hF3.out.1 hn))
      clear hn
      go_wp2
      go_ret
      exact ⟨ret_bool hF.out.symm, hW⟩
    · have p9 : ((nx.length : Int) == 0) = false := by have := List.length_pos_iff.2 hn; rw [beq_eq_false_iff_ne]; omega
      have p7 : ¬ nx.length = 0 := by have := List.length_pos_iff.2 hn; omega
      have hF := Lib.hid (sufB_over (n := n) (gp := gq) (a := a) (b := b) ⟨_, hF3.out.2 hn⟩)
      clear hn
      go_wp2
      go_ret
      exact ⟨ret_bool hF.out.symm, hW⟩
set_option maxHeartbeats 4000000 in
set_option maxRecDepth 100000 in
theorem impl_RoomsSuffice (v : Value) (ge : Int) (gp : List Place) (u : Value) (l : List Int) (t : Value) (r : List Int) (a b : Int) (w : World) (h0 : Lst Place.cells 4 w w.heap.size v gp) (h1 : Lst intCell 1 w w.heap.size u l) (h2 : Lst intCell 1 w w.heap.size t r) :
    Calls Try.prog 25 #[.agg #[.int .i64 ge, v], u, t, .agg #[.int .i64 a, .int .i64 b]] w fun e w' => e = .returned (.tuple #[.bool (sufF ge gp l r a b).1, .int .i64 (sufF ge gp l r a b).2]) ∧ Below w.heap.size w w' := by
  obtain ⟨A, c, rfl⟩ := h0.shape
  go_enter Try.func25, Try.ntmps25
  go_wp2_with fail
  have hW : Below w.heap.size w ((w.alloc (.cells #[.int .i64 ge, .slice A gp.length c] 32)).alloc (.cells #[.int .i64 a, .int .i64 b] 34)) := (((Below.refl _ _).alloc (Nat.le_refl _) _).alloc (by first | (simp; done) | (simp; omega)) _); have hb0 : Blk ((w.alloc (.cells #[.int .i64 ge, .slice A gp.length c] 32)).alloc (.cells #[.int .i64 a, .int .i64 b] 34)) (w.heap.size) 32 #[.int .i64 ge, .slice A gp.length c] := ((Blk.newAt w _ (by first | rfl | (simp; done) | (simp; omega))).alloc _); have hb1 : Blk ((w.alloc (.cells #[.int .i64 ge, .slice A gp.length c] 32)).alloc (.cells #[.int .i64 a, .int .i64 b] 34)) (w.heap.size + 1) 34 #[.int .i64 a, .int .i64 b] := (Blk.newAt (w.alloc (.cells #[.int .i64 ge, .slice A gp.length c] 32)) _ (by first | rfl | (simp; done) | (simp; omega))); replace h0 := h0.now hW; replace h1 := h1.now hW; replace h2 := h2.now hW; have hsW : w.heap.size + 2 = ((w.alloc (.cells #[.int .i64 ge, .slice A gp.length c] 32)).alloc (.cells #[.int .i64 a, .int .i64 b] 34)).heap.size := (by first | rfl | (simp; done) | (simp; omega)); generalize ((w.alloc (.cells #[.int .i64 ge, .slice A gp.length c] 32)).alloc (.cells #[.int .i64 a, .int .i64 b] 34)) = W at *; replace hsW := Lib.hid hsW
  refine (impl_IsEventGraph _ ge gp _ h0).mono ?_
  rintro e w1 ⟨rfl, hB⟩
  replace hW := hW.trans (hB.mono hW.size); replace h0 := h0.now hB; replace h1 := h1.now hB; replace h2 := h2.now hB; replace hb0 := hb0.now hB; replace hb1 := hb1.now hB
  clear hB
  obtain ⟨k0, k1⟩ := hb0.c2
  obtain ⟨r0, r1⟩ := hb1.c2
  cases hg : okGraph ge gp
  · have hE := Lib.hid (sufF_bad (l := l) (r := r) (a := a) (b := b) (.inl hg))
    clear hg
    go_wp2
    go_ret2
    exact retBI_of hE.out rfl hW
  · have hgH := Lib.hid hg
    clear hg
    go_wp2_with fail
    clear k0 k1 r0 r1
    refine (impl_IsRatio a b _).mono ?_
    rintro e w2 ⟨rfl, hB⟩
    replace hW := hW.trans (hB.mono hW.size); replace h0 := h0.now hB; replace h1 := h1.now hB; replace h2 := h2.now hB; replace hb0 := hb0.now hB; replace hb1 := hb1.now hB
    clear hB
    obtain ⟨k0, k1⟩ := hb0.c2
    obtain ⟨r0, r1⟩ := hb1.c2
    cases hq : ratioOk a b
    · have hE := Lib.hid (sufF_bad (ge := ge) (gp := gp) (l := l) (r := r) (.inr hq))
      clear hq
      go_wp2
      go_ret2
      exact retBI_of hE.out rfl hW
    · have hqH := Lib.hid hq
      have hrl := ratioOk_le hq
      clear hq
      go_wp2_with fail
      clear k0 k1 r0 r1
      refine (impl_LimitPlaces _ ge gp _ l _ r _ h0 h1 h2).mono ?_
      rintro e w3 ⟨x, rfl, hO, hB⟩
      replace hW := hW.trans (hB.mono hW.size); replace hb1 := hb1.now hB
      clear hB h0 h1 h2 hb0
      by_cases hc : limCode ge gp l r = 0
      · have hE := Lib.hid (sufF_ok hgH.out hqH.out hc)
        obtain ⟨h3, h4, h5, h6⟩ := limCode_zero hc
        have hgq := lim_ok h3 h4 h5 h6
        have hge := okGraph_ev h3
        obtain ⟨n, rfl⟩ := Int.eq_ofNat_of_zero_le (show 0 ≤ ge by omega)
        rw [limF_ok hc] at hO ⊢
        simp only [Int.toNat_natCast] at hE
        generalize gp ++ backs gp l r l.length = gq at *
        have hgqH := Lib.hid hgq
        obtain ⟨X, cx, rfl⟩ := hO.shape
        clear hc h3 h4 h5 h6 hgq
        have hA2 : Below w3.heap.size w3 (w3.alloc (.cells #[.int .i64 (n : Int), .slice X gq.length cx] 32)) := (Below.refl _ _).alloc (Nat.le_refl _) _
        obtain ⟨r0, r1⟩ := hb1.c2
        have l1 := hb1.lt
        go_wp2_with fail
        replace hW := hW.trans (hA2.mono hW.size); replace hO := hO.now hA2
        clear hA2 r0 r1 l1
        refine (impl_suffices _ n gq a b _ hO.lst hgqH (by omega) (by omega)).mono ?_
        rintro e w4 ⟨rfl, hB⟩
        go_wp2
        go_ret2
        exact retBI_of hE.out rfl (hW.trans (hB.mono hW.size))
      · have hE := Lib.hid (sufF_code hgH.out hqH.out hc)
        rw [limF_code hc] at hO ⊢
        obtain ⟨cd, hcd⟩ : ∃ cd, limCode ge gp l r = cd := ⟨_, rfl⟩
        rw [hcd] at hE hc hO ⊢
        have q1 : (cd != 0) = true := by simpa using hc
        obtain ⟨X, cx, rfl⟩ := hO.shape
        have hA2 : Below w3.heap.size w3 (w3.alloc (.cells #[.int .i64 0, .slice X ([] : List Place).length cx] 32)) := (Below.refl _ _).alloc (Nat.le_refl _) _
        clear hc hcd
        go_wp2
        go_ret2
        exact retBI_of hE.out rfl (hW.trans (hA2.mono hW.size))
set_option maxHeartbeats 4000000 in
set_option maxRecDepth 100000 in
theorem spec_RoomsSuffice (v : Value) (ge : Int) (gp : List Place) (u : Value) (l : List Int) (t : Value) (r : List Int) (a b : Int) (w : World) (h0 : Lst Place.cells 4 w w.heap.size v gp) (h1 : Lst intCell 1 w w.heap.size u l) (h2 : Lst intCell 1 w w.heap.size t r) :
    Calls Try.prog 26 #[.agg #[.int .i64 ge, v], u, t, .agg #[.int .i64 a, .int .i64 b]] w fun e w' => e = .returned (.tuple #[.bool (sufF ge gp l r a b).1, .int .i64 (sufF ge gp l r a b).2]) ∧ Below w.heap.size w w' := by
  obtain ⟨A, c, rfl⟩ := h0.shape
  go_enter Try.func26, Try.ntmps26
  go_wp2_with fail
  have hW : Below w.heap.size w ((w.alloc (.cells #[.int .i64 ge, .slice A gp.length c] 32)).alloc (.cells #[.int .i64 a, .int .i64 b] 34)) := (((Below.refl _ _).alloc (Nat.le_refl _) _).alloc (by first | (simp; done) | (simp; omega)) _); have hb0 : Blk ((w.alloc (.cells #[.int .i64 ge, .slice A gp.length c] 32)).alloc (.cells #[.int .i64 a, .int .i64 b] 34)) (w.heap.size) 32 #[.int .i64 ge, .slice A gp.length c] := ((Blk.newAt w _ (by first | rfl | (simp; done) | (simp; omega))).alloc _); have hb1 : Blk ((w.alloc (.cells #[.int .i64 ge, .slice A gp.length c] 32)).alloc (.cells #[.int .i64 a, .int .i64 b] 34)) (w.heap.size + 1) 34 #[.int .i64 a, .int .i64 b] := (Blk.newAt (w.alloc (.cells #[.int .i64 ge, .slice A gp.length c] 32)) _ (by first | rfl | (simp; done) | (simp; omega))); replace h0 := h0.now hW; replace h1 := h1.now hW; replace h2 := h2.now hW; have hsW : w.heap.size + 2 = ((w.alloc (.cells #[.int .i64 ge, .slice A gp.length c] 32)).alloc (.cells #[.int .i64 a, .int .i64 b] 34)).heap.size := (by first | rfl | (simp; done) | (simp; omega)); generalize ((w.alloc (.cells #[.int .i64 ge, .slice A gp.length c] 32)).alloc (.cells #[.int .i64 a, .int .i64 b] 34)) = W at *; replace hsW := Lib.hid hsW
  refine (spec_IsRatio a b _).mono ?_
  rintro e w1 ⟨rfl, hB⟩
  replace hW := hW.trans (hB.mono hW.size); replace h0 := h0.now hB; replace h1 := h1.now hB; replace h2 := h2.now hB; replace hb0 := hb0.now hB; replace hb1 := hb1.now hB
  clear hB
  obtain ⟨k0, k1⟩ := hb0.c2
  cases hq : ratioOk a b
  · have hE := Lib.hid (sufF_bad (ge := ge) (gp := gp) (l := l) (r := r) (.inr hq))
    clear hq
    go_wp2
    go_ret2
    exact retBI_of hE.out rfl hW
  · have hqH := Lib.hid hq
    have hrl := ratioOk_le hq
    clear hq
    go_wp2_with fail
    clear k0 k1
    refine (spec_l16All _ ge gp _ l _ r _ h0 h1 h2).mono ?_
    rintro e w3 ⟨rfl, hB⟩
    replace hW := hW.trans (hB.mono hW.size); replace h0 := h0.now hB; replace h1 := h1.now hB; replace h2 := h2.now hB; replace hb0 := hb0.now hB; replace hb1 := hb1.now hB
    clear hB
    obtain ⟨k0, k1⟩ := hb0.c2
    obtain ⟨r0, r1⟩ := hb1.c2
    by_cases hc : limCode ge gp l r = 0
    · obtain ⟨h3, h4, h5, h6⟩ := limCode_zero hc
      have hE := Lib.hid (sufF_ok h3 hqH.out hc)
      have hge := okGraph_ev h3
      obtain ⟨n, rfl⟩ := Int.eq_ofNat_of_zero_le (show 0 ≤ ge by omega)
      rw [hc]
      simp only [Int.toNat_natCast] at hE
      have h3H := Lib.hid h3
      have h4H := Lib.hid h4
      have h5H := Lib.hid h5
      clear hc h3 h4 h5
      go_wp2_with fail
      clear k0 k1 r0 r1
      refine (spec_l16Suffice _ n gp _ l _ r a b _ h0 h1 h2 h3H h4H h5H h6 (by omega) (by omega)).mono ?_
      rintro e w4 ⟨rfl, hB⟩
      go_wp2
      go_ret2
      exact retBI_of hE.out rfl (hW.trans (hB.mono hW.size))
    · have hE : Hid (sufF ge gp l r a b = (false, limCode ge gp l r)) := by
        by_cases hg : okGraph ge gp = true
        · exact sufF_code hg hqH.out hc
        · have hg' : okGraph ge gp = false := by simpa using hg
          show _ = _
          rw [sufF_bad (.inl hg')]
          simp [limCode, hg']
      obtain ⟨cd, hcd⟩ : ∃ cd, limCode ge gp l r = cd := ⟨_, rfl⟩
      rw [hcd] at hE hc ⊢
      have q1 : (cd != 0) = true := by simpa using hc
      clear hc hcd
      go_wp2
      go_ret2
      exact retBI_of hE.out rfl hW
end Go.Proofs.Ytbdklhahbeiffaa
