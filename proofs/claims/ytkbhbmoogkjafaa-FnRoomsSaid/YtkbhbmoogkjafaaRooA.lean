/-
  RoomTimes, CompareRatios, IsLive, the laws' comparison of graphs, and what the law of rooms asks.
-/
import Derived.Test.YtkbhbmoogkjafaaCirQ
import Derived.Test.YtkbhbmoogkjafaaRatioC
import Derived.Test.YtkbhbmoogkjafaaPot
import Derived.Test.YtkbhbmoogkjafaaLoad
import Derived.Test.YtkbhbmoogkjafaaCirI
import Derived.Test.YtkbhbmoogkjafaaCirS
import Derived.Test.YtkbhbmoogkjafaaSuf
/-
  A circuit that begins with another of its places is one again, and has the same ratio, and no circuit has more than the cycle time: plain Lean, no program in sight.
-/
namespace Go.Proofs.Ytkbhbmoogkjafaa
open Go.RowKit
set_option linter.unusedVariables false
set_option linter.unusedSimpArgs false
theorem max_exists {gp : List Place} {n : Nat} (hg : okGraph n gp = true) (hl : ∃ o, orderF n gp = some o) (hm : ∃ m, circuitB gp m = true) : ∃ a b, IsMax gp a b := by
  have key : ∀ N : Nat, ∀ m, circuitB gp m = true → muR (ratN gp m) (ratD gp m) ≤ N → ∃ a b, IsMax gp a b := by
    intro N
    induction N with
    | zero =>
      intro m h1 h2
      refine ⟨_, _, max_of hg hl h1 (fun ⟨m', h3, h4⟩ => ?_)⟩
      have := muR_lt hg hl (rat_facts hg hl h1).2.1 h3 h4
      omega
    | succ N ih =>
      intro m h1 h2
      by_cases hov : OverC gp (ratN gp m) (ratD gp m) 0
      · obtain ⟨m', h3, h4⟩ := hov
        have := muR_lt hg hl (rat_facts hg hl h1).2.1 h3 h4
        exact ih m' h3 (by omega)
      · exact ⟨_, _, max_of hg hl h1 hov⟩
  obtain ⟨m, hm⟩ := hm
  exact key _ m hm (Nat.le_refl _)
theorem ct_res (ge : Int) (gp : List Place) : CtRes ge gp (ctF ge gp).1 (ctF ge gp).2.1 (ctF ge gp).2.2 := by
  have hex : ∃ a b c, CtRes ge gp a b c := by
    cases hg : okGraph ge gp
    · exact ⟨_, _, _, ct_bad hg⟩
    · have hge := okGraph_ev hg
      obtain ⟨n, rfl⟩ := Int.eq_ofNat_of_zero_le (show 0 ≤ ge by omega)
      cases ho : orderF (n : Int).toNat gp with
      | none => exact ⟨_, _, _, ct_dead hg ho⟩
      | some o =>
        by_cases hm : ∃ m, circuitB gp m = true
        · obtain ⟨a, b, h⟩ := max_exists hg ⟨o, by simpa using ho⟩ hm
          exact ⟨_, _, _, ct_some hg ⟨o, ho⟩ h⟩
        · exact ⟨_, _, _, ct_none hg ⟨o, ho⟩ hm⟩
  obtain ⟨a, b, c, h⟩ := hex
  rw [ct_eq h]
  exact h
theorem circ_turn {gp : List Place} {x : Int} {t : List Int} (h : circuitB gp (x :: t) = true) : circuitB gp (t ++ [x]) = true ∧ (∀ a b, cwL a b gp (t ++ [x]) = cwL a b gp (x :: t)) := by
  have hC := circ_of_list h
  have hS := hC.shift 1
  have hall := ((circuit_iff gp _).1 h).2.1
  have hnn : ∀ k (hk : k < (x :: t).length), (((x :: t).getD k 0).toNat : Int) = (x :: t)[k] := fun k hk => by
    rw [List.getD_eq_getElem?_getD, List.getElem?_eq_getElem hk, Option.getD_some]
    have := (allB_at hall k hk).1
    omega
  have hlen : (x :: t).length = t.length + 1 := rfl
  have hE : t ++ [x] = ints ((List.range (x :: t).length).map fun i => (fun i => ((x :: t).getD (i % (x :: t).length) 0).toNat) (i + 1)) := by
    refine List.ext_getElem (by rw [ints_len]; simp) fun i h1 h2 => ?_
    have hi : i < t.length + 1 := by simpa using h1
    rw [ints_get _ i _ (by simpa using hi)]
    simp only [List.getElem_map, List.getElem_range]
    rcases Nat.lt_or_ge i t.length with h3 | h3
    · rw [hlen, Nat.mod_eq_of_lt (show i + 1 < t.length + 1 by omega), hnn (i + 1) (by rw [hlen]; omega), List.getElem_append_left h3]
      rfl
    · obtain rfl : i = t.length := by omega
      rw [hlen, Nat.mod_self, hnn 0 (by rw [hlen]; omega)]
      simp
  refine ⟨by rw [hE]; exact list_of_circ hS, fun a b => ?_⟩
  rw [hE, list_of_circ_sum, circ_of_list_sum]
  exact sumZ_shift (fun i => wgt a b (pl gp ((x :: t).getD (i % (x :: t).length) 0).toNat)) _ (fun i => by show wgt a b (pl gp ((x :: t).getD ((i + (x :: t).length) % (x :: t).length) 0).toNat) = _; rw [Nat.add_mod_right]) 1
theorem circ_turn_sums {gp : List Place} {x : Int} {t : List Int} (h : circuitB gp (x :: t) = true) : sumD gp (t ++ [x]) (t ++ [x]).length = sumD gp (x :: t) (x :: t).length ∧ sumK gp (t ++ [x]) (t ++ [x]).length = sumK gp (x :: t) (x :: t).length := by
  have h1 := (circ_turn h).2 0 1
  have h2 := (circ_turn h).2 (-1) 0
  unfold cwL at h1 h2
  omega
theorem ratio_of {a b : Int} (h0 : 0 ≤ a) (h1 : a ≤ 1000000) (h2 : 0 < b) (h3 : b ≤ 1000000) (hg : Nat.gcd a.toNat b.toNat = 1) : ratioOk a b = true := by
  unfold ratioOk
  obtain ⟨x, rfl⟩ := Int.eq_ofNat_of_zero_le h0
  obtain ⟨y, rfl⟩ := Int.eq_ofNat_of_zero_le (show 0 ≤ b by omega)
  rw [Int.toNat_natCast, Int.toNat_natCast] at hg
  rw [Bool.and_eq_true, Bool.and_eq_true, inB_iff, inB_iff, decide_eq_true_eq]
  exact ⟨⟨⟨by omega, h1⟩, by omega, h3⟩, by simpa using hg⟩
/-- What CompareRatios gives. -/
def cmpR (a b c d : Int) : Int × Int := if ratioOk a b = true ∧ ratioOk c d = true then (cmpI (a * d) (c * b), 0) else (0, 1)
/-- What the law asks. -/
theorem circ_law {ge : Int} {gp : List Place} {m : List Int} (h : (circRatio ge gp m).2.2 = 0) : okGraph ge gp = true ∧ ∃ x t, m = x :: t ∧ m.length ≤ 10 ∧ circuitB gp (t ++ [x]) = true ∧ circRatio ge gp (t ++ [x]) = circRatio ge gp m ∧ 0 ≤ (circRatio ge gp m).1 ∧ 0 ≤ (ctF ge gp).1 ∧
    ((ctF ge gp).2.2 = 5 ∨ (ctF ge gp).2.2 = 0 ∧ ratioOk (circRatio ge gp m).1 (circRatio ge gp m).2.1 = true ∧ ratioOk (ctF ge gp).1 (ctF ge gp).2.1 = true ∧ (circRatio ge gp m).1 * (ctF ge gp).2.1 ≤ (ctF ge gp).1 * (circRatio ge gp m).2.1) := by
  have hok : okGraph ge gp = true ∧ circuitB gp m = true ∧ sumK gp m m.length ≠ 0 := by
    unfold circRatio at h
    split at h
    · cases h
    · split at h
      · cases h
      · split at h
        · cases h
        · rename_i a b c
          exact ⟨by simpa using a, by simpa using b, c⟩
  obtain ⟨hg, hc, hs⟩ := hok
  have hge := okGraph_ev hg
  obtain ⟨n, rfl⟩ := Int.eq_ofNat_of_zero_le (show 0 ≤ ge by omega)
  have hcl := circuit_len hg hc
  have hR : circRatio n gp m = (ratN gp m, ratD gp m, 0) := by
    unfold circRatio
    rw [if_neg (by simp [hg]), if_neg (by simp [hc]), if_neg hs]
    rfl
  have hsl := sums_le hg ((circuit_iff gp m).1 hc).2.1 m.length (Nat.le_refl _)
  refine ⟨hg, ?_⟩
  cases m with
  | nil => have := ((circuit_iff gp _).1 hc).1; simp at this
  | cons x t =>
    obtain ⟨e1, e2⟩ := circ_turn_sums hc
    have hc2 := (circ_turn hc).1
    have hR2 : circRatio n gp (t ++ [x]) = circRatio n gp (x :: t) := by
      rw [hR]
      unfold circRatio
      rw [if_neg (by simp [hg]), if_neg (by simp [hc2]), if_neg (by rw [e2]; exact hs), e1, e2]
      rfl
    have hlow := low_facts (sumD gp (x :: t) (x :: t).length).toNat (sumK gp (x :: t) (x :: t).length).toNat (by omega)
    refine ⟨x, t, rfl, by omega, hc2, hR2, by rw [hR]; exact hlow.1, ?_⟩
    have hct := ct_res n gp
    cases ho : orderF (n : Int).toNat gp with
    | none => exact ⟨by rw [(hct.dead hg ho).1]; omega, .inl (hct.dead hg ho).2.2⟩
    | some o =>
      have hl : ∃ o, orderF n gp = some o := ⟨o, by simpa using ho⟩
      obtain ⟨hm, hz⟩ := hct.some hg ⟨o, ho⟩ ⟨_, hc⟩
      obtain ⟨r1, r2, r3, r4⟩ := rat_le hg hl hc
      obtain ⟨m1, m2⟩ := hm.le hg hl
      obtain ⟨f1, f2, f3, f4, _⟩ := rat_facts hg hl hc
      rw [hR]
      refine ⟨hm.1, .inr ⟨hz, (show ratioOk (ratN gp (x :: t)) (ratD gp (x :: t)) = true from ratio_of f1 (by omega) f2 (by omega) f3), ratio_of hm.1 (by omega) hm.2.1 (by omega) hm.2.2.1, ?_⟩⟩
      have hno := hm.2.2.2.1
      refine cross_le (live_tokens hg hl hc) f2 hm.2.1 f4 ?_
      show cwL _ _ gp (x :: t) ≤ 0
      exact Int.not_lt.1 fun hlt => hno ⟨_, hc, hlt⟩
end Go.Proofs.Ytkbhbmoogkjafaa
/-
  The walk of CompareRatios.
-/
namespace Go.Proofs.Ytkbhbmoogkjafaa
open Go.RowKit
set_option linter.unusedVariables false
set_option linter.unusedSimpArgs false
set_option maxHeartbeats 4000000 in
set_option maxRecDepth 100000 in
theorem impl_CompareRatios (a b c d : Int) (w : World) (ha : 0 ≤ a) (hc : 0 ≤ c) :
    Calls Try.prog 56 #[.agg #[.int .i64 a, .int .i64 b], .agg #[.int .i64 c, .int .i64 d]] w fun e w' => e = .returned (.tuple #[.int .i64 (cmpR a b c d).1, .int .i64 (cmpR a b c d).2]) ∧ Below w.heap.size w w' := by
  go_enter Try.func56, Try.ntmps56
  go_wp2_with fail
  have hW : Below w.heap.size w ((w.alloc (.cells #[.int .i64 a, .int .i64 b] 63)).alloc (.cells #[.int .i64 c, .int .i64 d] 63)) := (by repeat (first | exact Below.refl _ _ | assumption | refine Below.drew ?_ | refine Below.alloc ?_ (by simp <;> omega) _ | refine Below.setCell ?_ (by simp <;> omega) _))
  have hb0 := (Blk.newAt w (t := 63) (cs := #[.int .i64 a, .int .i64 b]) _ rfl).alloc (.cells #[.int .i64 c, .int .i64 d] 63)
  have hb1 := Blk.newAt (w.alloc (.cells #[.int .i64 a, .int .i64 b] 63)) (t := 63) (cs := #[.int .i64 c, .int .i64 d]) (w.heap.size + 1) (by simp)
  generalize (w.alloc (.cells #[.int .i64 a, .int .i64 b] 63)).alloc (.cells #[.int .i64 c, .int .i64 d] 63) = W at *
  refine (impl_IsRatio a b _).mono ?_
  rintro e w1 ⟨rfl, hB⟩
  replace hW := hW.trans (hB.mono hW.size); replace hb0 := hb0.now hB; replace hb1 := hb1.now hB
  clear hB
  obtain ⟨k0, k1⟩ := hb0.c2
  obtain ⟨r0, r1⟩ := hb1.c2
  have l0 := hb0.lt
  have l1 := hb1.lt
  cases hq : ratioOk a b
  · have hE : Hid (cmpR a b c d = (0, 1)) := by show _ = _; simp [cmpR, hq]
    clear hq
    go_wp2
    go_ret2
    exact ⟨ret_ii (congrArg Prod.fst hE.out).symm (congrArg Prod.snd hE.out).symm, hW⟩
  · have hq1 := Lib.hid hq
    clear hq
    go_wp2_with fail
    clear k0 k1 r0 r1 l0 l1
    refine (impl_IsRatio c d _).mono ?_
    rintro e w2 ⟨rfl, hB⟩
    replace hW := hW.trans (hB.mono hW.size); replace hb0 := hb0.now hB; replace hb1 := hb1.now hB
    clear hB
    obtain ⟨k0, k1⟩ := hb0.c2
    obtain ⟨r0, r1⟩ := hb1.c2
    have l0 := hb0.lt
    have l1 := hb1.lt
    cases hq : ratioOk c d
    · have hE : Hid (cmpR a b c d = (0, 1)) := by show _ = _; simp [cmpR, hq]
      clear hq
      go_wp2
      go_ret2
      exact ⟨ret_ii (congrArg Prod.fst hE.out).symm (congrArg Prod.snd hE.out).symm, hW⟩
    · have hE : Hid (cmpR a b c d = (cmpI (a * d) (c * b), 0)) := by show _ = _; unfold cmpR; rw [if_pos ⟨hq1.out, hq⟩]
      have hx := ratioOk_in hq1.out
      have hy := ratioOk_in hq
      clear hq
      go_wp2_with fail
      clear k0 k1 r0 r1 l0 l1
      refine (impl_compareRatios a b c d _ ⟨ha, by omega⟩ ⟨by omega, by omega⟩ ⟨hc, by omega⟩ ⟨by omega, by omega⟩).mono ?_
      rintro e w3 ⟨rfl, hB⟩
      generalize cmpI (a * d) (c * b) = z at *
      go_wp2
      go_ret2
      exact ⟨ret_ii (congrArg Prod.fst hE.out).symm (congrArg Prod.snd hE.out).symm, hW.trans (hB.mono hW.size)⟩
end Go.Proofs.Ytkbhbmoogkjafaa
/-
  The walks of RoomTimes, the program's and the reference's.
-/
namespace Go.Proofs.Ytkbhbmoogkjafaa
open Go.RowKit
set_option linter.unusedVariables false
set_option linter.unusedSimpArgs false
/-- The cycle time of the graph limited at one place, and 0/1 where there is none. -/
noncomputable def roomR (ge : Int) (gp : List Place) (i r : Int) : Ratio :=
  if (ctF ge (gp ++ backs gp [i] [r] 1)).2.2 = 0 then ⟨(ctF ge (gp ++ backs gp [i] [r] 1)).1, (ctF ge (gp ++ backs gp [i] [r] 1)).2.1⟩ else ⟨0, 1⟩
noncomputable def roomL (ge : Int) (gp : List Place) (i lo : Int) (k : Nat) : List Ratio := (List.range k).map fun (t : Nat) => roomR ge gp i (lo + t)
theorem roomL_len (ge : Int) (gp : List Place) (i lo : Int) (k : Nat) : (roomL ge gp i lo k).length = k := by simp [roomL]
theorem roomL_succ (ge : Int) (gp : List Place) (i lo : Int) (k : Nat) : roomL ge gp i lo (k + 1) = roomL ge gp i lo k ++ [roomR ge gp i (lo + k)] := by simp [roomL, List.range_succ]
/-- What RoomTimes gives. -/
noncomputable def roomTF (ge : Int) (gp : List Place) (i : Int) : List Ratio × Int :=
  if idxCode ge gp i = 0 then (if gp.length = 30 then ([], 3) else (roomL ge gp i (max 1 (plAt gp i).tokens) (min 8 ((plAt gp i).tokens + 5) + 1 - max 1 (plAt gp i).tokens).toNat, 0)) else ([], idxCode ge gp i)
theorem bufOk_oneT (n : Nat) (i : Int) : bufOk n [i] = inB i 0 ((n : Int) - 1) := by
  simp [bufOk, bufUp, inB, hasI]
theorem roomsOk_one (gp : List Place) (i r : Int) : roomsOk gp [i] [r] = inB r (max 1 (plAt gp i).tokens) (min 8 ((plAt gp i).tokens + 5)) := by
  simp [roomsOk, roomsUp]
theorem roomTF_len (ge : Int) (gp : List Place) (i : Int) : (roomTF ge gp i).1.length ≤ 1048576 := by
  unfold roomTF
  split
  · split
    · simp
    · rw [roomL_len]; omega
  · simp
theorem idx_tok {ge : Int} {gp : List Place} {i : Int} (h : idxCode ge gp i = 0) : okGraph ge gp = true ∧ 0 ≤ (plAt gp i).tokens ∧ (plAt gp i).tokens ≤ 5 := by
  obtain ⟨hg, h0, h1⟩ := idxCode_zero h
  obtain ⟨q, rfl⟩ := Int.eq_ofNat_of_zero_le h0
  rw [plAt_nat gp q (by omega)]
  exact ⟨hg, (okGraph_place hg (List.getElem_mem _)).2.2.2⟩
set_option maxHeartbeats 8000000 in
set_option maxRecDepth 100000 in
theorem impl_RoomTimes (v : Value) (ge : Int) (gp : List Place) (i : Int) (w : World) (h0 : Lst Place.cells 4 w w.heap.size v gp) :
    Calls Try.prog 64 #[.agg #[.int .i64 ge, v], .int .i64 i] w (RetOwnI Ratio.cells 2 63 w (roomTF ge gp i).1 (roomTF ge gp i).2) := by
  obtain ⟨A, c, rfl⟩ := h0.shape
  have hl := h0.len_le
  go_enter Try.func64, Try.ntmps64
  go_wp2_with fail
  have hW : Below w.heap.size w (w.alloc (.cells #[.int .i64 ge, .slice A gp.length c] 26)) := (Below.refl _ _).alloc (Nat.le_refl _) _; have hb0 : Blk (w.alloc (.cells #[.int .i64 ge, .slice A gp.length c] 26)) w.heap.size 26 #[.int .i64 ge, .slice A gp.length c] := Blk.new _ _ _; replace h0 := h0.now hW; generalize (w.alloc (.cells #[.int .i64 ge, .slice A gp.length c] 26)) = W at *
  refine (impl_IsEventGraph _ ge gp _ h0).mono ?_
  rintro e w1 ⟨rfl, hB⟩
  replace hW := hW.trans (hB.mono hW.size); replace h0 := h0.now hB; replace hb0 := hb0.now hB
  clear hB
  obtain ⟨k0, k1⟩ := hb0.c2
  have l0 := hb0.lt
  cases hg : okGraph ge gp
  · have hE : Hid (roomTF ge gp i = ([], 1)) := by show _ = _; simp [roomTF, idxCode, hg]
    clear hg
    go_wp2
    go_ret2
    exact RetOwnI.of hE.out ⟨_, rfl, Own.nil, hW⟩
  · have hgH := Lib.hid hg
    go_wp2_with fail
    clear k0 k1 l0
    have hZ : Below w1.heap.size w1 (w1.alloc (.cells #[.int .i64 i] 2)) := (Below.refl _ _).alloc (Nat.le_refl _) _
    have a1 := (lst_new1 intCell 1 intCell_len w1 2 i #[.int .i64 i] rfl w1.heap.size rfl).more (show w1.heap.size + 1 ≤ (w1.alloc (.cells #[.int .i64 i] 2)).heap.size by simp)
    replace hW := hW.trans (hZ.mono hW.size); replace h0 := h0.now hZ; replace hb0 := hb0.now hZ
    clear hZ
    refine (impl_areBuffers _ ge gp _ [i] _ h0 a1).mono ?_
    rintro e w2 ⟨rfl, hB⟩
    replace hW := hW.trans (hB.mono hW.size); replace h0 := h0.now hB; replace hb0 := hb0.now hB
    clear hB a1
    rw [bufOk_oneT]
    obtain ⟨k0, k1⟩ := hb0.c2
    have l0 := hb0.lt
    cases hi : inB i 0 ((gp.length : Int) - 1)
    · have hE : Hid (roomTF ge gp i = ([], 2)) := by show _ = _; simp [roomTF, idxCode, hg, hi]
      clear hg hi
      go_wp2
      go_ret2
      exact RetOwnI.of hE.out ⟨_, rfl, Own.nil, hW⟩
    · have hc : idxCode ge gp i = 0 := by simp [idxCode, hg, hi]
      obtain ⟨-, ht0, ht1⟩ := idx_tok hc
      have hgl := okGraph_len hg
      by_cases h30 : gp.length = 30
      · have hE : Hid (roomTF ge gp i = ([], 3)) := by show _ = _; simp [roomTF, hc, h30]
        have q30 : ((gp.length : Int) == 30) = true := by rw [beq_iff_eq]; omega
        clear hg hi hc h30
        go_wp2
        go_ret2
        exact RetOwnI.of hE.out ⟨_, rfl, Own.nil, hW⟩
      · have q30 : ((gp.length : Int) == 30) = false := by rw [beq_eq_false_iff_ne]; omega
        obtain ⟨lo, hlo⟩ : ∃ lo, max 1 (plAt gp i).tokens = lo := ⟨_, rfl⟩
        obtain ⟨hi', hhi⟩ : ∃ hi', min 8 ((plAt gp i).tokens + 5) = hi' := ⟨_, rfl⟩
        have hE : Hid (roomTF ge gp i = (roomL ge gp i lo (hi' + 1 - lo).toNat, 0)) := by show _ = _; unfold roomTF; rw [if_pos hc, if_neg h30, hlo, hhi]
        have hro : Hid (∀ r, lo ≤ r → r ≤ hi' → roomsOk gp [i] [r] = true) := fun r h1 h2 => by rw [roomsOk_one, hlo, hhi, inB_iff]; exact ⟨h1, h2⟩
        have hbu : Hid (bufOk gp.length [i] = true) := by show _ = _; rw [bufOk_oneT]; exact hi
        have hiB := (inB_iff _ _ _).1 hi
        obtain ⟨q, rfl⟩ := Int.eq_ofNat_of_zero_le hiB.1
        have hq : q < gp.length := by omega
        have hpq := plAt_nat gp q hq
        rw [hpq] at hlo hhi ht0 ht1
        have hge := okGraph_ev hg
        obtain ⟨n, rfl⟩ := Int.eq_ofNat_of_zero_le (show 0 ≤ ge by omega)
        have hl30 : gp.length + 1 ≤ 30 := by omega
        obtain ⟨b, off, hA, hb, d0, d1, d2, d3⟩ := places_at h0 q hq
        cases hA
        obtain ⟨⟨sr, dr, dl, tk⟩, hpe⟩ : ∃ p, gp[q] = p := ⟨_, rfl⟩
        rw [hpe] at d0 d1 d2 d3 hlo hhi ht0 ht1
        simp only at d0 d1 d2 d3 hlo hhi ht0 ht1
        have i1 : (0 : Int) ≤ (q : Int) := by omega
        have i2 : (q : Int) < (gp.length : Int) := by omega
        have hlo1 : 1 ≤ lo ∧ lo ≤ hi' ∧ hi' ≤ 8 := by omega
        clear hg hi hc h30 hpq hpe hiB
        go_wp2_with fail
        refine (impl_roomsOf sr dr dl tk _ ht0 ht1).mono ?_
        rintro e w3 ⟨rfl, hB⟩
        rw [hlo, hhi]
        replace hW := hW.trans (hB.mono hW.size); replace h0 := h0.now hB; replace hb0 := hb0.now hB
        clear hB k0 k1 l0 d0 d1 d2 d3 hlo hhi ht0 ht1 i1 i2
        go_wp2
        go_loopw [8, 9, 10, 11] (fun tv rv _ _ wr => ∃ (k : Nat) (L : List Ratio), rv = .int .i64 (lo + k) ∧ lo + (k : Int) ≤ hi' + 1 ∧ Hid (L = roomL n gp q lo k) ∧ Own Ratio.cells 2 63 wr w3.heap.size tv L ∧ Below w3.heap.size w3 wr) (fun _ rv _ _ _ => (hi' + 1 - intOf rv).toNat)
        case atStart => exact ⟨0, [], by simp, by omega, rfl, Own.nil, Below.refl _ _⟩
        case round =>
          obtain ⟨k, L, rfl, hk, hL, hO, hBr⟩ := hrel
          obtain ⟨TA, tc, rfl⟩ := hO.shape
          have hLl : Hid (L.length = k) := by show _ = _; rw [hL.out, roomL_len]
          have hs := hBr.size
          obtain ⟨k0, k1⟩ := (hb0.now hBr).c2
          have l0 := (hb0.now hBr).lt
          by_cases hlt : lo + (k : Int) ≤ hi'
          · skip
            have wk : IntKind.i64.wrap (lo + (k : Int) + 1) = lo + (k : Int) + 1 := IntWalk.i64_in _ (by omega)
            have hroom := hro.out (lo + (k : Int)) (by omega) hlt
            have hroomH := Lib.hid hroom
            have hlimq := Lib.hid (lim_ok hgH.out hbu.out hroom (by simpa using hl30))
            clear hroom
            go_wp2_with fail
            clear k0 k1 l0
            have hZ1 : Below wr.heap.size wr (wr.alloc (.cells #[.int .i64 (q : Nat)] 2)) := (Below.refl _ _).alloc (Nat.le_refl _) _
            have hZ : Below wr.heap.size wr ((wr.alloc (.cells #[.int .i64 (q : Nat)] 2)).alloc (.cells #[.int .i64 (lo + (k : Int))] 2)) := hZ1.alloc hZ1.size _
            have a1 := ((lst_new1 intCell 1 intCell_len wr 2 (q : Int) #[.int .i64 (q : Nat)] rfl wr.heap.size rfl).more (show wr.heap.size + 1 ≤ (wr.alloc (.cells #[.int .i64 (q : Nat)] 2)).heap.size by simp)).alloc (.cells #[.int .i64 (lo + (k : Int))] 2)
            have a2 := (lst_new1 intCell 1 intCell_len (wr.alloc (.cells #[.int .i64 (q : Nat)] 2)) 2 (lo + (k : Int)) #[.int .i64 (lo + (k : Int))] rfl (wr.heap.size + 1) (by simp)).more (show wr.heap.size + 1 + 1 ≤ ((wr.alloc (.cells #[.int .i64 (q : Nat)] 2)).alloc (.cells #[.int .i64 (lo + (k : Int))] 2)).heap.size by simp)
            have hOz := hO.now hZ
            have hBz := hBr.trans (hZ.mono hs)
            refine (impl_limited _ (n : Int) gp _ [(q : Int)] _ [lo + (k : Int)] _ (h0.now hBz) a1 a2 hgH hbu hroomH).mono ?_
            rintro e wa ⟨x, rfl, hG, hB2⟩
            replace hOz := hOz.now hB2
            replace hBz := hBz.trans (hB2.mono hBz.size)
            clear a1 a2 hZ hZ1 hO hB2
            obtain ⟨G, hGd⟩ : ∃ G, gp ++ backs gp [(q : Int)] [lo + (k : Int)] [(q : Int)].length = G := ⟨_, rfl⟩
            rw [hGd] at hG hlimq
            obtain ⟨GA, gc, rfl⟩ := hG.shape
            go_wp2_with fail
            refine (impl_cycleTime _ n G _ hG.lst hlimq).mono ?_
            rintro e wb ⟨rfl, hB2⟩
            replace hOz := hOz.now hB2
            replace hBz := hBz.trans (hB2.mono hBz.size)
            clear hB2 hG
            obtain ⟨ca, cb, cc9, hcd⟩ : ∃ ca cb cc9, ctF n G = (ca, cb, cc9) := ⟨_, _, _, rfl⟩
            rw [hcd]
            have hLs := roomL_succ n gp q lo k
            have hrr : roomR n gp q (lo + (k : Int)) = if cc9 = 0 then ⟨ca, cb⟩ else ⟨0, 1⟩ := by unfold roomR; rw [show gp ++ backs gp [(q : Int)] [lo + (k : Int)] 1 = G from hGd, hcd]
            clear hcd hGd hlimq
            have hs2 := hBz.size
            by_cases hc9 : cc9 = 0
            · have q9 : (cc9 != 0) = false := by simp [hc9]
              rw [if_pos hc9] at hrr
              have hLn : Hid (L ++ [⟨ca, cb⟩] = roomL n gp q lo (k + 1)) := by show _ = _; rw [hLs, hL.out, hrr]
              have hbx := Blk.newAt wb (t := 63) (cs := #[.int .i64 ca, .int .i64 cb]) _ rfl
              have hA9 : Below wb.heap.size wb (wb.alloc (.cells #[.int .i64 ca, .int .i64 cb] 63)) := (Below.refl _ _).alloc (Nat.le_refl _) _
              obtain ⟨x0, x1⟩ := hbx.c2
              have hO9 := Lib.hid ((hOz.now hA9).alloc (.cells #[.int .i64 ca, .int .i64 cb] 63))
              have hB9 := Lib.hid ((hBz.trans (hA9.mono hBz.size)).alloc (Nat.le_trans hBz.size hA9.size) (.cells #[.int .i64 ca, .int .i64 cb] 63))
              have hsz : Hid (w3.heap.size ≤ ((wb.alloc (.cells #[.int .i64 ca, .int .i64 cb] 63)).alloc (.cells #[.int .i64 ca, .int .i64 cb] 63)).heap.size) := hB9.out.size
              have hlenA : L.length + [(⟨ca, cb⟩ : Ratio)].length ≤ 1099511627776 := by have := hLl.out; simp; omega
              clear hOz hBz hrr hLs
              go_wp2_with (at_builtin; refine wpList_append_lst rfl _ _ 78 rfl Ratio.cells 2 Ratio.cells_one (by omega) w3.heap.size 63 _ 16 Try.underlying78 info_impl_ratio rfl _ _ rfl hO9.out _ _ _ _ [⟨ca, cb⟩] rfl (lst_new1 Ratio.cells 2 Ratio.cells_len _ _ _ _ rfl _ (by simp)) hlenA (by omega) hsz.out ?_; intro v' w9 hO1 hG1 hD1)
              go_roundw
              case rel => exact ⟨k + 1, _, by go_num, by omega, hLn, hO1, hB9.out.grown hG1 hB9.out.size (fun g hg => (hO9.out.lt g hg).1)⟩
              case measure => simp [intOf]; omega
            · have q9 : (cc9 != 0) = true := by simpa using hc9
              rw [if_neg hc9] at hrr
              have hLn : Hid (L ++ [⟨0, 1⟩] = roomL n gp q lo (k + 1)) := by show _ = _; rw [hLs, hL.out, hrr]
              have hbx := Blk.newAt wb (t := 63) (cs := #[.int .i64 ca, .int .i64 cb]) _ rfl
              have hA9 : Below wb.heap.size wb (wb.alloc (.cells #[.int .i64 ca, .int .i64 cb] 63)) := (Below.refl _ _).alloc (Nat.le_refl _) _
              have hf := hbx.frozen
              have hf0 := hf 0
              have hf1 := hf 1
              have hlx := hbx.lt
              replace hA9 : Below wb.heap.size wb (wb.alloc (.cells #[.int .i64 0, .int .i64 1] 63)) := (Below.refl _ _).alloc (Nat.le_refl _) _
              have hbx2 := Blk.newAt wb (t := 63) (cs := #[.int .i64 0, .int .i64 1]) _ rfl
              obtain ⟨c0, c1⟩ := hbx.c2
              obtain ⟨x0, x1⟩ := hbx2.c2
              have hO9 := Lib.hid ((hOz.now hA9).alloc (.cells #[.int .i64 0, .int .i64 1] 63))
              have hB9 := Lib.hid ((hBz.trans (hA9.mono hBz.size)).alloc (Nat.le_trans hBz.size hA9.size) (.cells #[.int .i64 0, .int .i64 1] 63))
              have hsz : Hid (w3.heap.size ≤ ((wb.alloc (.cells #[.int .i64 0, .int .i64 1] 63)).alloc (.cells #[.int .i64 (0), .int .i64 1] 63)).heap.size) := hB9.out.size
              have hlenA : L.length + [(⟨0, 1⟩ : Ratio)].length ≤ 1099511627776 := by have := hLl.out; simp; omega
              clear hOz hBz hrr hLs
              go_wp2_with (at_builtin; refine wpList_append_lst rfl _ _ 78 rfl Ratio.cells 2 Ratio.cells_one (by omega) w3.heap.size 63 _ 16 Try.underlying78 info_impl_ratio rfl _ _ rfl hO9.out _ _ _ _ [⟨0, 1⟩] rfl (lst_new1 Ratio.cells 2 Ratio.cells_len _ _ _ _ rfl _ (by simp)) hlenA (by omega) hsz.out ?_; intro v' w9 hO1 hG1 hD1)
              go_roundw
              case rel => exact ⟨k + 1, _, by go_num, by omega, hLn, hO1, hB9.out.grown hG1 hB9.out.size (fun g hg => (hO9.out.lt g hg).1)⟩
              case measure => simp [intOf]; omega
          · have hkk : (hi' + 1 - lo).toNat = k := by omega
            have hnl : hi' < lo + (k : Int) := by omega
            go_wp2
            go_ret2
            exact RetOwnI.of hE.out ⟨_, rfl, by rw [hkk, ← hL.out]; exact hO.rebase hW.size, hW.trans (hBr.mono hW.size)⟩
set_option maxHeartbeats 8000000 in
set_option maxRecDepth 100000 in
theorem spec_RoomTimes (v : Value) (ge : Int) (gp : List Place) (i : Int) (w : World) (h0 : Lst Place.cells 4 w w.heap.size v gp) :
    Calls Try.prog 63 #[.agg #[.int .i64 ge, v], .int .i64 i] w (RetOwnI Ratio.cells 2 63 w (roomTF ge gp i).1 (roomTF ge gp i).2) := by
  obtain ⟨A, c, rfl⟩ := h0.shape
  have hl := h0.len_le
  go_enter Try.func63, Try.ntmps63
  go_wp2_with fail
  have hW : Below w.heap.size w (w.alloc (.cells #[.int .i64 ge, .slice A gp.length c] 26)) := (Below.refl _ _).alloc (Nat.le_refl _) _; have hb0 : Blk (w.alloc (.cells #[.int .i64 ge, .slice A gp.length c] 26)) w.heap.size 26 #[.int .i64 ge, .slice A gp.length c] := Blk.new _ _ _; replace h0 := h0.now hW; generalize (w.alloc (.cells #[.int .i64 ge, .slice A gp.length c] 26)) = W at *
  refine (spec_RoomsOf _ ge gp i _ h0).mono ?_
  rintro e w1 ⟨rfl, hB⟩
  replace hW := hW.trans (hB.mono hW.size); replace h0 := h0.now hB; replace hb0 := hb0.now hB
  clear hB
  obtain ⟨k0, k1⟩ := hb0.c2
  have l0 := hb0.lt
  by_cases hc : idxCode ge gp i = 0
  · obtain ⟨hg, ht0, ht1⟩ := idx_tok hc
    obtain ⟨-, hi0, hi1⟩ := idxCode_zero hc
    have hF : roomsF ge gp i = (max 1 (plAt gp i).tokens, min 8 ((plAt gp i).tokens + 5), 0) := by unfold roomsF; rw [if_pos hc]; rfl
    rw [hF]
    have hgl := okGraph_len hg
    by_cases h30 : gp.length = 30
    · have hE : Hid (roomTF ge gp i = ([], 3)) := by show _ = _; simp [roomTF, hc, h30]
      have q30 : ((gp.length : Int) == 30) = true := by rw [beq_iff_eq]; omega
      clear hg hc h30 hF
      go_wp2
      go_ret2
      exact RetOwnI.of hE.out ⟨_, rfl, Own.nil, hW⟩
    · have q30 : ((gp.length : Int) == 30) = false := by rw [beq_eq_false_iff_ne]; omega
      obtain ⟨lo, hlo⟩ : ∃ lo, max 1 (plAt gp i).tokens = lo := ⟨_, rfl⟩
      obtain ⟨hi', hhi⟩ : ∃ hi', min 8 ((plAt gp i).tokens + 5) = hi' := ⟨_, rfl⟩
      have hE : Hid (roomTF ge gp i = (roomL ge gp i lo (hi' + 1 - lo).toNat, 0)) := by show _ = _; unfold roomTF; rw [if_pos hc, if_neg h30, hlo, hhi]
      have hro : Hid (∀ r, lo ≤ r → r ≤ hi' → roomsOk gp [i] [r] = true) := fun r h1 h2 => by rw [roomsOk_one, hlo, hhi, inB_iff]; exact ⟨h1, h2⟩
      have hbu : Hid (bufOk gp.length [i] = true) := by show _ = _; rw [bufOk_oneT, inB_iff]; exact ⟨hi0, by omega⟩
      have hgH := Lib.hid hg
      obtain ⟨q, rfl⟩ := Int.eq_ofNat_of_zero_le hi0
      have hge := okGraph_ev hg
      obtain ⟨n, rfl⟩ := Int.eq_ofNat_of_zero_le (show 0 ≤ ge by omega)
      have hl30 : gp.length + 1 ≤ 30 := by omega
      have hlo1 : 1 ≤ lo ∧ lo ≤ hi' ∧ hi' ≤ 8 := by omega
      rw [hlo, hhi]
      have hOo : Own Ratio.cells 2 63 (w1.alloc (.cells #[] 63)) w1.heap.size (.slice (some ⟨w1.heap.size, 0, none⟩) 0 0) ([] : List Ratio) := own_new0 Ratio.cells 2 w1 63 w1.heap.size (Nat.le_refl _)
      have hBo : Below w1.heap.size w1 (w1.alloc (.cells #[] 63)) := (Below.refl _ _).alloc (Nat.le_refl _) _
      have hOoH := Lib.hid hOo
      have hBoH := Lib.hid hBo
      clear hg hc h30 hF hlo hhi ht0 ht1 hOo hBo
      obtain ⟨w3, rfl⟩ : ∃ w3 : World, w3 = w1 := ⟨_, rfl⟩
      go_wp2
      go_loopw [9, 10, 11, 12] (fun tv rv _ _ wr => ∃ (k : Nat) (L : List Ratio), rv = .int .i64 (lo + k) ∧ lo + (k : Int) ≤ hi' + 1 ∧ Hid (L = roomL n gp q lo k) ∧ Own Ratio.cells 2 63 wr w3.heap.size tv L ∧ Below w3.heap.size w3 wr) (fun _ rv _ _ _ => (hi' + 1 - intOf rv).toNat)
      case atStart => exact ⟨0, [], by simp, by omega, rfl, hOoH.out, hBoH.out⟩
      case round =>
        clear hOoH hBoH
        obtain ⟨k, L, rfl, hk, hL, hO, hBr⟩ := hrel
        obtain ⟨TA, tc, rfl⟩ := hO.shape
        have hLl : Hid (L.length = k) := by show _ = _; rw [hL.out, roomL_len]
        have hs := hBr.size
        clear k0 k1 l0
        obtain ⟨k0, k1⟩ := (hb0.now hBr).c2
        have l0 := (hb0.now hBr).lt
        by_cases hlt : lo + (k : Int) ≤ hi'
        · skip
          have wk : IntKind.i64.wrap (lo + (k : Int) + 1) = lo + (k : Int) + 1 := IntWalk.i64_in _ (by omega)
          have hroom := hro.out (lo + (k : Int)) (by omega) hlt
          have hroomH := Lib.hid hroom
          have hlimq := Lib.hid (lim_ok hgH.out hbu.out hroom (by simpa using hl30))
          clear hroom
          go_wp2_with fail
          clear k0 k1 l0
          have hZ1 : Below wr.heap.size wr (wr.alloc (.cells #[.int .i64 (q : Nat)] 2)) := (Below.refl _ _).alloc (Nat.le_refl _) _
          have hZ : Below wr.heap.size wr ((wr.alloc (.cells #[.int .i64 (q : Nat)] 2)).alloc (.cells #[.int .i64 (lo + (k : Int))] 2)) := hZ1.alloc hZ1.size _
          have a1 := ((lst_new1 intCell 1 intCell_len wr 2 (q : Int) #[.int .i64 (q : Nat)] rfl wr.heap.size rfl).more (show wr.heap.size + 1 ≤ (wr.alloc (.cells #[.int .i64 (q : Nat)] 2)).heap.size by simp)).alloc (.cells #[.int .i64 (lo + (k : Int))] 2)
          have a2 := (lst_new1 intCell 1 intCell_len (wr.alloc (.cells #[.int .i64 (q : Nat)] 2)) 2 (lo + (k : Int)) #[.int .i64 (lo + (k : Int))] rfl (wr.heap.size + 1) (by simp)).more (show wr.heap.size + 1 + 1 ≤ ((wr.alloc (.cells #[.int .i64 (q : Nat)] 2)).alloc (.cells #[.int .i64 (lo + (k : Int))] 2)).heap.size by simp)
          have hOz := hO.now hZ
          have hBz := hBr.trans (hZ.mono hs)
          refine (spec_l16Limit _ (n : Int) gp _ [(q : Int)] _ [lo + (k : Int)] _ (h0.now hBz) a1 a2 hgH hbu hroomH).mono ?_
          rintro e wa ⟨x, rfl, hG, hB2⟩
          replace hOz := hOz.now hB2
          replace hBz := hBz.trans (hB2.mono hBz.size)
          clear a1 a2 hZ hZ1 hO hB2
          obtain ⟨G, hGd⟩ : ∃ G, gp ++ backs gp [(q : Int)] [lo + (k : Int)] [(q : Int)].length = G := ⟨_, rfl⟩
          rw [hGd] at hG hlimq
          obtain ⟨GA, gc, rfl⟩ := hG.shape
          go_wp2_with fail
          refine (spec_CycleTime _ (n : Int) G _ hG.lst).mono ?_
          rintro e wb ⟨rfl, hB2⟩
          replace hOz := hOz.now hB2
          replace hBz := hBz.trans (hB2.mono hBz.size)
          clear hB2 hG
          obtain ⟨ca, cb, cc9, hcd⟩ : ∃ ca cb cc9, ctF n G = (ca, cb, cc9) := ⟨_, _, _, rfl⟩
          rw [hcd]
          have hLs := roomL_succ n gp q lo k
          have hrr : roomR n gp q (lo + (k : Int)) = if cc9 = 0 then ⟨ca, cb⟩ else ⟨0, 1⟩ := by unfold roomR; rw [show gp ++ backs gp [(q : Int)] [lo + (k : Int)] 1 = G from hGd, hcd]
          clear hcd hGd hlimq
          have hs2 := hBz.size
          by_cases hc9 : cc9 = 0
          · have q9 : (cc9 != 0) = false := by simp [hc9]
            rw [if_pos hc9] at hrr
            have hLn : Hid (L ++ [⟨ca, cb⟩] = roomL n gp q lo (k + 1)) := by show _ = _; rw [hLs, hL.out, hrr]
            have hbx := Blk.newAt wb (t := 63) (cs := #[.int .i64 ca, .int .i64 cb]) _ rfl
            have hA9 : Below wb.heap.size wb (wb.alloc (.cells #[.int .i64 ca, .int .i64 cb] 63)) := (Below.refl _ _).alloc (Nat.le_refl _) _
            obtain ⟨x0, x1⟩ := hbx.c2
            have hO9 := Lib.hid ((hOz.now hA9).alloc (.cells #[.int .i64 ca, .int .i64 cb] 63))
            have hB9 := Lib.hid ((hBz.trans (hA9.mono hBz.size)).alloc (Nat.le_trans hBz.size hA9.size) (.cells #[.int .i64 ca, .int .i64 cb] 63))
            have hsz : Hid (w3.heap.size ≤ ((wb.alloc (.cells #[.int .i64 ca, .int .i64 cb] 63)).alloc (.cells #[.int .i64 ca, .int .i64 cb] 63)).heap.size) := hB9.out.size
            have hlenA : L.length + [(⟨ca, cb⟩ : Ratio)].length ≤ 1099511627776 := by have := hLl.out; simp; omega
            clear hOz hBz hrr hLs
            go_wp2_with (at_builtin; refine wpList_append_lst rfl _ _ 78 rfl Ratio.cells 2 Ratio.cells_one (by omega) w3.heap.size 63 _ 16 Try.underlying78 info_impl_ratio rfl _ _ rfl hO9.out _ _ _ _ [⟨ca, cb⟩] rfl (lst_new1 Ratio.cells 2 Ratio.cells_len _ _ _ _ rfl _ (by simp)) hlenA (by omega) hsz.out ?_; intro v' w9 hO1 hG1 hD1)
            go_roundw
            case rel => exact ⟨k + 1, _, by go_num, by omega, hLn, hO1, hB9.out.grown hG1 hB9.out.size (fun g hg => (hO9.out.lt g hg).1)⟩
            case measure => simp [intOf]; omega
          · have q9 : (cc9 != 0) = true := by simpa using hc9
            rw [if_neg hc9] at hrr
            have hLn : Hid (L ++ [⟨0, 1⟩] = roomL n gp q lo (k + 1)) := by show _ = _; rw [hLs, hL.out, hrr]
            have hbx := Blk.newAt wb (t := 63) (cs := #[.int .i64 ca, .int .i64 cb]) _ rfl
            have hA9 : Below wb.heap.size wb (wb.alloc (.cells #[.int .i64 ca, .int .i64 cb] 63)) := (Below.refl _ _).alloc (Nat.le_refl _) _
            have hf := hbx.frozen
            have hf0 := hf 0
            have hf1 := hf 1
            have hlx := hbx.lt
            replace hA9 : Below wb.heap.size wb (wb.alloc (.cells #[.int .i64 0, .int .i64 1] 63)) := (Below.refl _ _).alloc (Nat.le_refl _) _
            have hbx2 := Blk.newAt wb (t := 63) (cs := #[.int .i64 0, .int .i64 1]) _ rfl
            obtain ⟨c0, c1⟩ := hbx.c2
            obtain ⟨x0, x1⟩ := hbx2.c2
            have hO9 := Lib.hid ((hOz.now hA9).alloc (.cells #[.int .i64 0, .int .i64 1] 63))
            have hB9 := Lib.hid ((hBz.trans (hA9.mono hBz.size)).alloc (Nat.le_trans hBz.size hA9.size) (.cells #[.int .i64 0, .int .i64 1] 63))
            have hsz : Hid (w3.heap.size ≤ ((wb.alloc (.cells #[.int .i64 0, .int .i64 1] 63)).alloc (.cells #[.int .i64 (0), .int .i64 1] 63)).heap.size) := hB9.out.size
            have hlenA : L.length + [(⟨0, 1⟩ : Ratio)].length ≤ 1099511627776 := by have := hLl.out; simp; omega
            clear hOz hBz hrr hLs
            go_wp2_with (at_builtin; refine wpList_append_lst rfl _ _ 78 rfl Ratio.cells 2 Ratio.cells_one (by omega) w3.heap.size 63 _ 16 Try.underlying78 info_impl_ratio rfl _ _ rfl hO9.out _ _ _ _ [⟨0, 1⟩] rfl (lst_new1 Ratio.cells 2 Ratio.cells_len _ _ _ _ rfl _ (by simp)) hlenA (by omega) hsz.out ?_; intro v' w9 hO1 hG1 hD1)
            go_roundw
            case rel => exact ⟨k + 1, _, by go_num, by omega, hLn, hO1, hB9.out.grown hG1 hB9.out.size (fun g hg => (hO9.out.lt g hg).1)⟩
            case measure => simp [intOf]; omega
        · have hkk : (hi' + 1 - lo).toNat = k := by omega
          have hnl : hi' < lo + (k : Int) := by omega
          go_wp2
          go_ret2
          exact RetOwnI.of hE.out ⟨_, rfl, by rw [hkk, ← hL.out]; exact hO.rebase hW.size, hW.trans (hBr.mono hW.size)⟩
  · have hE : Hid (roomTF ge gp i = ([], idxCode ge gp i)) := by show _ = _; unfold roomTF; rw [if_neg hc]
    have hF : roomsF ge gp i = (0, 0, idxCode ge gp i) := by unfold roomsF; rw [if_neg hc]
    rw [hF]
    have q0 : (idxCode ge gp i == 0) = false := by simpa using hc
    have q1 : (idxCode ge gp i != 0) = true := by simpa using hc
    generalize idxCode ge gp i = code at *
    clear hc hF
    go_wp2
    go_ret2
    exact RetOwnI.of hE.out ⟨_, rfl, Own.nil, hW⟩
end Go.Proofs.Ytkbhbmoogkjafaa
/-
  More room never makes a graph slower: plain Lean, no program in sight.
-/
namespace Go.Proofs.Ytkbhbmoogkjafaa
open Go.RowKit
set_option linter.unusedVariables false
set_option linter.unusedSimpArgs false
/-- Two lists of places with the same ends and delays, the second with no fewer tokens. -/
def MoreT (gp gq : List Place) : Prop := gp.length = gq.length ∧ ∀ i, i < gp.length → (pl gp i).src = (pl gq i).src ∧ (pl gp i).dst = (pl gq i).dst ∧ (pl gp i).delay = (pl gq i).delay ∧ (pl gp i).tokens ≤ (pl gq i).tokens
theorem moreT_out {gp gq : List Place} (h : MoreT gp gq) (i : Nat) : (pl gp i).src = (pl gq i).src ∧ (pl gp i).dst = (pl gq i).dst ∧ (pl gp i).delay = (pl gq i).delay ∧ (pl gp i).tokens ≤ (pl gq i).tokens := by
  by_cases hi : i < gp.length
  · exact h.2 i hi
  · have e1 : pl gp i = ⟨0, 0, 0, 0⟩ := by unfold pl; simp [List.getD, List.getElem?_eq_none (Nat.le_of_not_lt hi)]
    have e2 : pl gq i = ⟨0, 0, 0, 0⟩ := by unfold pl; simp [List.getD, List.getElem?_eq_none (show gq.length ≤ i by have := h.1; omega)]
    rw [e1, e2]
    exact ⟨rfl, rfl, rfl, Int.le_refl _⟩
theorem plc_pl (gp : List Place) (m : List Int) (k : Nat) : plc gp m k = pl gp (m.getD k 0).toNat := rfl
theorem moreT_circ {gp gq : List Place} (h : MoreT gp gq) (m : List Int) : circuitB gp m = circuitB gq m := by
  rw [Bool.eq_iff_iff, circuit_iff, circuit_iff]
  have hs : ∀ k, (plc gp m k).src = (plc gq m k).src := fun k => by rw [plc_pl, plc_pl]; exact (moreT_out h _).1
  have hd : ∀ k, (plc gp m k).dst = (plc gq m k).dst := fun k => by rw [plc_pl, plc_pl]; exact (moreT_out h _).2.1
  simp only [hs, hd, h.1]
theorem moreT_sums {gp gq : List Place} (h : MoreT gp gq) (m : List Int) : ∀ k, sumD gp m k = sumD gq m k ∧ sumK gp m k ≤ sumK gq m k := by
  intro k
  induction k with
  | zero => simp [sumD, sumK]
  | succ k ih =>
    rw [sumD_succ, sumD_succ, sumK_succ, sumK_succ]
    have h1 := moreT_out h (m.getD k 0).toNat
    rw [← plc_pl, ← plc_pl] at h1
    omega
/-- A live graph is not slower than one with more tokens. -/
theorem moreT_time {n : Nat} {gp gq : List Place} (h : MoreT gp gq) (hg : okGraph n gp = true) (hg2 : okGraph n gq = true) (hl : ∃ o, orderF n gp = some o) (hl2 : ∃ o, orderF n gq = some o) {a b a' b' : Int} (hm : IsMax gp a b) (hm' : IsMax gq a' b') : a' * b ≤ a * b' := by
  obtain ⟨a0, b0, -, hno, -⟩ := hm
  obtain ⟨a0', b0', -, -, m, hc, hw⟩ := hm'
  have hc1 : circuitB gp m = true := by rw [moreT_circ h]; exact hc
  have hM := live_tokens hg hl hc1
  obtain ⟨e1, e2⟩ := moreT_sums h m m.length
  have h1 : cwL a b gp m ≤ 0 := Int.not_lt.1 fun hlt => hno ⟨m, hc1, hlt⟩
  unfold cwL at h1 hw
  rw [← e1] at hw
  generalize sumD gp m m.length = D at *
  generalize sumK gp m m.length = M at *
  generalize sumK gq m m.length = M2 at *
  have h2 : a' * M ≤ b' * D := by
    have : a' * M ≤ a' * M2 := Int.mul_le_mul_of_nonneg_left e2 a0'
    omega
  -- a' M b ≤ b' D b ≤ b' a M
  have h3 : b * (a' * M) ≤ b * (b' * D) := Int.mul_le_mul_of_nonneg_left h2 (by omega)
  have h4 : b' * (b * D) ≤ b' * (a * M) := Int.mul_le_mul_of_nonneg_left (by omega) (by omega)
  have h5 : b * (b' * D) = b' * (b * D) := by rw [← Int.mul_assoc, ← Int.mul_assoc, Int.mul_comm b b']
  have h6 : a' * b * M ≤ a * b' * M := by
    have e1 : a' * b * M = b * (a' * M) := by rw [Int.mul_comm a' b, Int.mul_assoc]
    have e2 : a * b' * M = b' * (a * M) := by rw [Int.mul_comm a b', Int.mul_assoc]
    omega
  exact Int.le_of_mul_le_mul_right h6 hM
theorem ratio_zero : ratioOk 0 1 = true := by decide
theorem roomR_ok {ge : Int} {gp : List Place} {i r : Int} (hg : okGraph ge (gp ++ backs gp [i] [r] 1) = true) : ratioOk (roomR ge gp i r).num (roomR ge gp i r).den = true ∧ 0 ≤ (roomR ge gp i r).num ∧ 0 < (roomR ge gp i r).den := by
  have hge := okGraph_ev hg
  obtain ⟨n, rfl⟩ := Int.eq_ofNat_of_zero_le (show 0 ≤ ge by omega)
  have hct := ct_res n (gp ++ backs gp [i] [r] 1)
  unfold roomR
  generalize gp ++ backs gp [i] [r] 1 = gq at *
  split
  · rename_i hz
    cases ho : orderF (n : Int).toNat gq with
    | none => have := (hct.dead hg ho).2.2; omega
    | some o =>
      by_cases hm : ∃ m, circuitB gq m = true
      · obtain ⟨hx, -⟩ := hct.some hg ⟨o, ho⟩ hm
        have hl := hx.le hg ⟨o, by simpa using ho⟩
        exact ⟨(show ratioOk (ctF n gq).1 (ctF n gq).2.1 = true from ratio_of hx.1 (by omega) hx.2.1 (by omega) hx.2.2.1), hx.1, hx.2.1⟩
      · have := (hct.none hg ⟨o, ho⟩ hm).2.2; omega
  · exact ⟨ratio_zero, Int.le_refl _, (show (0 : Int) < 1 by omega)⟩
theorem backs_more {gp : List Place} {i r r' : Int} (h : r ≤ r') : MoreT (gp ++ backs gp [i] [r] 1) (gp ++ backs gp [i] [r'] 1) := by
  refine ⟨by simp [backs_len], fun k hk => ?_⟩
  simp only [List.length_append, backs_len] at hk
  by_cases hlt : k < gp.length
  · have e : ∀ l : List Place, pl (gp ++ l) k = gp[k] := fun l => by
      unfold pl
      rw [List.getD_eq_getElem?_getD, List.getElem?_append_left hlt, List.getElem?_eq_getElem hlt, Option.getD_some]
    rw [e, e]
    exact ⟨rfl, rfl, rfl, Int.le_refl _⟩
  · obtain rfl : k = gp.length := by omega
    have e : ∀ r : Int, pl (gp ++ backs gp [i] [r] 1) gp.length = backP gp i r := fun r => by
      unfold pl backs
      simp [List.getD_eq_getElem?_getD]
    rw [e, e]
    unfold backP
    exact ⟨rfl, rfl, rfl, by show r - _ ≤ r' - _; omega⟩
/-- What the law asks: with one more room a live graph is not slower. -/
theorem room_law {n : Nat} {gp : List Place} {i r r' : Int} (h : r ≤ r') (hg : okGraph n (gp ++ backs gp [i] [r] 1) = true) (hg2 : okGraph n (gp ++ backs gp [i] [r'] 1) = true) (hl : ∃ o, orderF n (gp ++ backs gp [i] [r] 1) = some o) :
    (roomR n gp i r').num * (roomR n gp i r).den ≤ (roomR n gp i r).num * (roomR n gp i r').den := by
  have hM := backs_more (gp := gp) (i := i) h
  obtain ⟨-, p1, p2⟩ := roomR_ok hg
  obtain ⟨-, p3, p4⟩ := roomR_ok hg2
  have hc1 := ct_res n (gp ++ backs gp [i] [r] 1)
  have hc2 := ct_res n (gp ++ backs gp [i] [r'] 1)
  by_cases hz : (ctF n (gp ++ backs gp [i] [r'] 1)).2.2 = 0
  · have e2 : roomR n gp i r' = ⟨(ctF n (gp ++ backs gp [i] [r'] 1)).1, (ctF n (gp ++ backs gp [i] [r'] 1)).2.1⟩ := by unfold roomR; rw [if_pos hz]
    cases ho : orderF (n : Int).toNat (gp ++ backs gp [i] [r'] 1) with
    | none => have := (hc2.dead hg2 ho).2.2; omega
    | some o =>
      by_cases hm : ∃ m, circuitB (gp ++ backs gp [i] [r'] 1) m = true
      · obtain ⟨hx, -⟩ := hc2.some hg2 ⟨o, ho⟩ hm
        obtain ⟨o1, ho1⟩ := hl
        obtain ⟨m, hm⟩ := hm
        obtain ⟨hy, hy0⟩ := hc1.some hg ⟨o1, by simpa using ho1⟩ ⟨m, by rw [moreT_circ hM]; exact hm⟩
        have e1 : roomR n gp i r = ⟨(ctF n (gp ++ backs gp [i] [r] 1)).1, (ctF n (gp ++ backs gp [i] [r] 1)).2.1⟩ := by unfold roomR; rw [if_pos hy0]
        rw [e1, e2]
        exact moreT_time hM hg hg2 ⟨o1, ho1⟩ ⟨o, by simpa using ho⟩ hy hx
      · have := (hc2.none hg2 ⟨o, ho⟩ hm).2.2; omega
  · have e2 : roomR n gp i r' = ⟨0, 1⟩ := by unfold roomR; rw [if_neg hz]
    rw [e2]
    simp only [Int.zero_mul, Int.mul_one]
    exact p1
end Go.Proofs.Ytkbhbmoogkjafaa
/-
  The laws' comparison of graphs, and the program's IsLive; what the law of rooms asks.
-/
namespace Go.Proofs.Ytkbhbmoogkjafaa
open Go.RowKit
set_option linter.unusedVariables false
set_option linter.unusedSimpArgs false
set_option maxHeartbeats 4000000 in
set_option maxRecDepth 100000 in
theorem laws_likeGraphs9 (v u : Value) (ge : Int) (gp : List Place) (w : World) (h0 : Lst Place.cells 4 w w.heap.size v gp) (h1 : Lst Place.cells 4 w w.heap.size u gp) :
    Calls Try.prog 84 #[.agg #[.int .i64 ge, v], .agg #[.int .i64 ge, u]] w fun r w' => r = .returned (.bool true) ∧ Below w.heap.size w w' := by
  obtain ⟨A, c, rfl⟩ := h0.shape
  obtain ⟨C, d, rfl⟩ := h1.shape
  have hl := h0.len_le
  have hne : ((gp.length : Int) != (gp.length : Int)) = false := by simp
  have hne2 : (ge != ge) = false := by simp
  go_enter Try.func84, Try.ntmps84
  go_wp2
  have hW : Below w.heap.size w ((w.alloc (.cells #[.int .i64 ge, .slice A gp.length c] 26)).alloc (.cells #[.int .i64 ge, .slice C gp.length d] 26)) := (((Below.refl _ _).alloc (Nat.le_refl _) _).alloc (by first | (simp; done) | (simp; omega)) _); have hb0 : Blk ((w.alloc (.cells #[.int .i64 ge, .slice A gp.length c] 26)).alloc (.cells #[.int .i64 ge, .slice C gp.length d] 26)) (w.heap.size) 26 #[.int .i64 ge, .slice A gp.length c] := ((Blk.newAt w _ (by first | rfl | (simp; done) | (simp; omega))).alloc _); have hb1 : Blk ((w.alloc (.cells #[.int .i64 ge, .slice A gp.length c] 26)).alloc (.cells #[.int .i64 ge, .slice C gp.length d] 26)) (w.heap.size + 1) 26 #[.int .i64 ge, .slice C gp.length d] := (Blk.newAt (w.alloc (.cells #[.int .i64 ge, .slice A gp.length c] 26)) _ (by first | rfl | (simp; done) | (simp; omega))); replace h0 := h0.now hW; replace h1 := h1.now hW; have hsW : w.heap.size + 2 = ((w.alloc (.cells #[.int .i64 ge, .slice A gp.length c] 26)).alloc (.cells #[.int .i64 ge, .slice C gp.length d] 26)).heap.size := (by first | rfl | (simp; done) | (simp; omega)); generalize ((w.alloc (.cells #[.int .i64 ge, .slice A gp.length c] 26)).alloc (.cells #[.int .i64 ge, .slice C gp.length d] 26)) = W at *; replace hsW := Lib.hid hsW
  go_loopw [5] (fun i wr => ∃ k : Nat, k ≤ gp.length ∧ i = .int .i64 k ∧ Below W.heap.size W wr) (fun i _ => gp.length - (intOf i).toNat)
  case atStart => exact ⟨0, Nat.zero_le _, rfl, Below.refl _ _⟩
  case round =>
    obtain ⟨k, hk, rfl, hB⟩ := hrel
    obtain ⟨k0, k1⟩ := (hb0.now hB).c2
    obtain ⟨m0, m1⟩ := (hb1.now hB).c2
    have l0 := (hb0.now hB).lt
    have l1 := (hb1.now hB).lt
    by_cases hlt : k < gp.length
    · obtain ⟨b1, o1, hA, -, d0, d1, d2, d3⟩ := places_at (h0.now hB) k hlt
      cases hA
      obtain ⟨b2, o2, hA2, -, d4, d5, d6, d7⟩ := places_at (h1.now hB) k hlt
      cases hA2
      have i1 : (0 : Int) ≤ (k : Int) := by omega
      have i2 : (k : Int) < (gp.length : Int) := by omega
      generalize gp[k].src = x0 at *
      generalize gp[k].dst = x1 at *
      generalize gp[k].delay = x2 at *
      generalize gp[k].tokens = x3 at *
      have hDw : Below wr.heap.size wr wr.drew := Below.drew (Below.refl _ wr)
      replace d0 := cell_keep d0 hDw
      replace d1 := cell_keep d1 hDw
      replace d2 := cell_keep d2 hDw
      replace d3 := cell_keep d3 hDw
      replace d4 := cell_keep d4 hDw
      replace d5 := cell_keep d5 hDw
      replace d6 := cell_keep d6 hDw
      replace d7 := cell_keep d7 hDw
      have k1' := cell_keep k1 hDw
      have m1' := cell_keep m1 hDw
      have l0' : w.heap.size < wr.drew.heap.size := (hb0.now (hB.trans (hDw.mono hB.size))).lt
      go_wp2
      refine wp_region_held_drew (S := fun w' => w'.cell? ⟨w.heap.size, 1, none⟩ = some (.slice (some ⟨b1, o1, none⟩) gp.length c) ∧ w'.cell? ⟨w.heap.size + 1, 1, none⟩ = some (.slice (some ⟨b2, o2, none⟩) gp.length d) ∧ w'.cell? ⟨b1, o1 + k * 4, none⟩ = some (.int .i64 x0) ∧ w'.cell? ⟨b1, o1 + k * 4 + 1, none⟩ = some (.int .i64 x1) ∧ w'.cell? ⟨b1, o1 + k * 4 + 2, none⟩ = some (.int .i64 x2) ∧ w'.cell? ⟨b1, o1 + k * 4 + 3, none⟩ = some (.int .i64 x3) ∧ w'.cell? ⟨b2, o2 + k * 4, none⟩ = some (.int .i64 x0) ∧ w'.cell? ⟨b2, o2 + k * 4 + 1, none⟩ = some (.int .i64 x1) ∧ w'.cell? ⟨b2, o2 + k * 4 + 2, none⟩ = some (.int .i64 x2) ∧ w'.cell? ⟨b2, o2 + k * 4 + 3, none⟩ = some (.int .i64 x3)) (by kernel_rfl) ⟨k1', m1', d0, d1, d2, d3, d4, d5, d6, d7⟩ (fun hH => ?_)
      refine wpAnyH_take (i := 0) (oi := { dst := _, op := _, type := _, pos := _, after := _, guard := _ }) (v := ?_) rfl (by kernel_rfl) (by kernel_rfl) (by kernel_rfl) (fun _ _ _ h => h) (Or.inl ⟨by rfl, ?_⟩) hH ?_
      rotate_left
      · intro w9 hSw
        try dsimp only at hSw
        obtain ⟨s0, s1, s2, s3, s4, s5, s6, s7, s8, s9⟩ := hSw
        go_simp
        try with_reducible rfl
      try simp only [Act.put, List.setIfInBounds_toArray, List.set_cons_zero, List.set_cons_succ]
      refine wpAnyH_take (i := 1) (oi := { dst := _, op := _, type := _, pos := _, after := _, guard := _ }) (v := ?_) rfl (by kernel_rfl) (by kernel_rfl) (by kernel_rfl) (fun _ _ _ h => h) (Or.inl ⟨by rfl, ?_⟩) hH ?_
      rotate_left
      · intro w9 hSw
        try dsimp only at hSw
        obtain ⟨s0, s1, s2, s3, s4, s5, s6, s7, s8, s9⟩ := hSw
        go_simp
        try with_reducible rfl
      try simp only [Act.put, List.setIfInBounds_toArray, List.set_cons_zero, List.set_cons_succ]
      refine wpAnyH_take (i := 2) (oi := { dst := _, op := _, type := _, pos := _, after := _, guard := _ }) (v := ?_) rfl (by kernel_rfl) (by kernel_rfl) (by kernel_rfl) (fun _ _ _ h => h) (Or.inl ⟨by rfl, ?_⟩) hH ?_
      rotate_left
      · intro w9 hSw
        try dsimp only at hSw
        obtain ⟨s0, s1, s2, s3, s4, s5, s6, s7, s8, s9⟩ := hSw
        go_simp
        try with_reducible rfl
      try simp only [Act.put, List.setIfInBounds_toArray, List.set_cons_zero, List.set_cons_succ]
      refine wpAnyH_take (i := 3) (oi := { dst := _, op := _, type := _, pos := _, after := _, guard := _ }) (v := ?_) rfl (by kernel_rfl) (by kernel_rfl) (by kernel_rfl) (fun _ _ _ h => h) (Or.inl ⟨by rfl, ?_⟩) hH ?_
      rotate_left
      · intro w9 hSw
        try dsimp only at hSw
        obtain ⟨s0, s1, s2, s3, s4, s5, s6, s7, s8, s9⟩ := hSw
        go_simp
        try with_reducible rfl
      try simp only [Act.put, List.setIfInBounds_toArray, List.set_cons_zero, List.set_cons_succ]
      refine wpAnyH_take (i := 4) (oi := { dst := _, op := _, type := _, pos := _, after := _, guard := _ }) (v := ?_) rfl (by kernel_rfl) (by kernel_rfl) (by kernel_rfl) (fun _ _ _ h => h) (Or.inl ⟨by rfl, ?_⟩) hH ?_
      rotate_left
      · intro w9 hSw
        try dsimp only at hSw
        obtain ⟨s0, s1, s2, s3, s4, s5, s6, s7, s8, s9⟩ := hSw
        go_simp
        try with_reducible rfl
      try simp only [Act.put, List.setIfInBounds_toArray, List.set_cons_zero, List.set_cons_succ]
      refine wpAnyH_take (i := 5) (oi := { dst := _, op := _, type := _, pos := _, after := _, guard := _ }) (v := ?_) rfl (by kernel_rfl) (by kernel_rfl) (by kernel_rfl) (fun _ _ _ h => h) (Or.inl ⟨by rfl, ?_⟩) hH ?_
      rotate_left
      · intro w9 hSw
        try dsimp only at hSw
        obtain ⟨s0, s1, s2, s3, s4, s5, s6, s7, s8, s9⟩ := hSw
        go_simp
        try with_reducible rfl
      try simp only [Act.put, List.setIfInBounds_toArray, List.set_cons_zero, List.set_cons_succ]
      refine wpAnyH_take (i := 6) (oi := { dst := _, op := _, type := _, pos := _, after := _, guard := _ }) (v := ?_) rfl (by kernel_rfl) (by kernel_rfl) (by kernel_rfl) (fun _ _ _ h => h) (Or.inl ⟨by rfl, ?_⟩) hH ?_
      rotate_left
      · intro w9 hSw
        try dsimp only at hSw
        obtain ⟨s0, s1, s2, s3, s4, s5, s6, s7, s8, s9⟩ := hSw
        go_simp
        try with_reducible rfl
      try simp only [Act.put, List.setIfInBounds_toArray, List.set_cons_zero, List.set_cons_succ]
      refine wpAnyH_take (i := 7) (oi := { dst := _, op := _, type := _, pos := _, after := _, guard := _ }) (v := ?_) rfl (by kernel_rfl) (by kernel_rfl) (by kernel_rfl) (fun _ _ _ h => h) (Or.inl ⟨by rfl, ?_⟩) hH ?_
      rotate_left
      · intro w9 hSw
        try dsimp only at hSw
        obtain ⟨s0, s1, s2, s3, s4, s5, s6, s7, s8, s9⟩ := hSw
        go_simp
        try with_reducible rfl
      try simp only [Act.put, List.setIfInBounds_toArray, List.set_cons_zero, List.set_cons_succ]
      refine wpAnyH_take (i := 8) (oi := { dst := _, op := _, type := _, pos := _, after := _, guard := _ }) (v := ?_) rfl (by kernel_rfl) (by kernel_rfl) (by kernel_rfl) (fun _ _ _ h => h) (Or.inl ⟨by rfl, ?_⟩) hH ?_
      rotate_left
      · intro w9 hSw
        try dsimp only at hSw
        obtain ⟨s0, s1, s2, s3, s4, s5, s6, s7, s8, s9⟩ := hSw
        go_simp
        try with_reducible rfl
      try simp only [Act.put, List.setIfInBounds_toArray, List.set_cons_zero, List.set_cons_succ]
      refine wpAnyH_take (i := 9) (oi := { dst := _, op := _, type := _, pos := _, after := _, guard := _ }) (v := ?_) rfl (by kernel_rfl) (by kernel_rfl) (by kernel_rfl) (fun _ _ _ h => h) (Or.inl ⟨by rfl, ?_⟩) hH ?_
      rotate_left
      · intro w9 hSw
        try dsimp only at hSw
        obtain ⟨s0, s1, s2, s3, s4, s5, s6, s7, s8, s9⟩ := hSw
        go_simp
        try with_reducible rfl
      try simp only [Act.put, List.setIfInBounds_toArray, List.set_cons_zero, List.set_cons_succ]
      refine wpAnyH_take (i := 10) (oi := { dst := _, op := _, type := _, pos := _, after := _, guard := _ }) (v := ?_) rfl (by kernel_rfl) (by kernel_rfl) (by kernel_rfl) (fun _ _ _ h => h) (Or.inl ⟨by rfl, ?_⟩) hH ?_
      rotate_left
      · intro w9 hSw
        try dsimp only at hSw
        obtain ⟨s0, s1, s2, s3, s4, s5, s6, s7, s8, s9⟩ := hSw
        go_simp
        try with_reducible rfl
      try simp only [Act.put, List.setIfInBounds_toArray, List.set_cons_zero, List.set_cons_succ]
      refine wpAnyH_done (by kernel_rfl) ?_ _
      have hB' := hB.trans (hDw.mono hB.size)
      go_wp2
      go_roundw
      case rel => exact ⟨k + 1, hlt, by go_num, hB'⟩
      case measure => simp [intOf]; omega
    · obtain rfl : k = gp.length := by omega
      go_wp2
      go_ret
      exact ⟨rfl, hW.trans (hB.mono hW.size)⟩
set_option maxHeartbeats 1000000 in
set_option maxRecDepth 100000 in
theorem impl_IsLive (v : Value) (n : Nat) (gp : List Place) (w : World) (h0 : Lst Place.cells 4 w w.heap.size v gp) (hok : Hid (okGraph n gp = true)) :
    Calls Try.prog 85 #[.agg #[.int .i64 n, v]] w fun r w' => r = .returned (.tuple #[.bool (orderF n gp).isSome, .int .i64 0]) ∧ Below w.heap.size w w' := by
  obtain ⟨A, c, rfl⟩ := h0.shape
  go_enter Try.func85, Try.ntmps85
  go_wp2_with fail
  have hW : Below w.heap.size w (w.alloc (.cells #[.int .i64 (n:Int), .slice A gp.length c] 26)) := (Below.refl _ _).alloc (Nat.le_refl _) _; have hb0 : Blk (w.alloc (.cells #[.int .i64 (n:Int), .slice A gp.length c] 26)) w.heap.size 26 #[.int .i64 (n:Int), .slice A gp.length c] := Blk.new _ _ _; replace h0 := h0.now hW; generalize (w.alloc (.cells #[.int .i64 (n:Int), .slice A gp.length c] 26)) = W at *
  refine (impl_IsEventGraph _ (n : Int) gp _ h0).mono ?_
  rintro e w1 ⟨rfl, hB⟩
  rw [hok.out]
  replace hW := hW.trans (hB.mono hW.size); replace h0 := h0.now hB; replace hb0 := hb0.now hB
  clear hB
  obtain ⟨k0, k1⟩ := hb0.c2
  have l0 := hb0.lt
  go_wp2_with fail
  refine (impl_isLive _ n gp _ h0 hok).mono ?_
  rintro e w2 ⟨rfl, hB⟩
  obtain ⟨b, hb⟩ : ∃ b, (orderF n gp).isSome = b := ⟨_, rfl⟩
  have hbH := Lib.hid hb
  rw [hb]
  clear hb
  go_wp2
  go_ret2
  exact ⟨by rw [hbH.out]; rfl, hW.trans (hB.mono hW.size)⟩
/-- What the law asks. -/
theorem rooms_law {ge : Int} {gp : List Place} {i : Int} {L : List Ratio} (h : roomTF ge gp i = (L, 0)) :
    ∃ (n : Nat) (lo hi : Int), ge = (n : Int) ∧ roomsF ge gp i = (lo, hi, 0) ∧ (1 ≤ lo ∧ lo ≤ hi ∧ hi ≤ 8) ∧ (L.length : Int) = hi + 1 - lo ∧
      (∀ k (hk : k < L.length), limF ge gp [i] [lo + (k : Int)] = (ge, gp ++ backs gp [i] [lo + (k : Int)] 1, 0) ∧ okGraph n (gp ++ backs gp [i] [lo + (k : Int)] 1) = true ∧ ratioOk L[k].num L[k].den = true ∧ 0 ≤ L[k].num) ∧
      ∀ k (h1 : k + 1 < L.length) (h2 : k < L.length), (orderF n (gp ++ backs gp [i] [lo + (k : Int)] 1)).isSome = true → L[k + 1].num * L[k].den ≤ L[k].num * L[k + 1].den := by
  unfold roomTF at h
  split at h
  · rename_i hc
    split at h
    · cases h
    · rename_i h30
      obtain ⟨hg, ht0, ht1⟩ := idx_tok hc
      obtain ⟨-, hi0, hi1⟩ := idxCode_zero hc
      have hge := okGraph_ev hg
      have hgl := okGraph_len hg
      obtain ⟨n, rfl⟩ := Int.eq_ofNat_of_zero_le (show 0 ≤ ge by omega)
      have hF : roomsF (n : Int) gp i = (max 1 (plAt gp i).tokens, min 8 ((plAt gp i).tokens + 5), 0) := by unfold roomsF; rw [if_pos hc]; rfl
      have hL := congrArg Prod.fst h
      simp only at hL
      obtain ⟨lo, hlo⟩ : ∃ lo, max 1 (plAt gp i).tokens = lo := ⟨_, rfl⟩
      obtain ⟨hi, hhi⟩ : ∃ hi, min 8 ((plAt gp i).tokens + 5) = hi := ⟨_, rfl⟩
      rw [hlo, hhi] at hF hL
      have hb : 1 ≤ lo ∧ lo ≤ hi ∧ hi ≤ 8 := by omega
      have hbu : bufOk gp.length [i] = true := by rw [bufOk_oneT, inB_iff]; exact ⟨hi0, by omega⟩
      have hLl : (L.length : Int) = hi + 1 - lo := by rw [← hL, roomL_len]; omega
      have hall : ∀ k (hk : k < L.length), roomsOk gp [i] [lo + (k : Int)] = true ∧ okGraph n (gp ++ backs gp [i] [lo + (k : Int)] 1) = true := fun k hk => by
        have hr : roomsOk gp [i] [lo + (k : Int)] = true := by rw [roomsOk_one, hlo, hhi, inB_iff]; exact ⟨by omega, by omega⟩
        exact ⟨hr, by simpa using lim_ok hg hbu hr (by simp; omega)⟩
      have hget : ∀ k (hk : k < L.length), L[k] = roomR n gp i (lo + (k : Int)) := fun k hk => by subst hL; simp [roomL]
      refine ⟨n, lo, hi, rfl, hF, hb, hLl, fun k hk => ?_, fun k h1 h2 hlive => ?_⟩
      · obtain ⟨hr, hok⟩ := hall k hk
        have hlc : limCode (n : Int) gp [i] [lo + (k : Int)] = 0 := by
          unfold limCode
          rw [if_neg (by simp [hg]), if_neg (by simp [hbu]), if_neg (by simp [hr]), if_neg (by simp; omega)]
        obtain ⟨r1, r2, r3⟩ := roomR_ok (ge := (n : Int)) hok
        rw [hget k hk]
        exact ⟨by unfold limF; rw [if_pos hlc]; rfl, hok, r1, r2⟩
      · rw [hget k h2, hget (k + 1) h1]
        have ho : ∃ o, orderF n (gp ++ backs gp [i] [lo + (k : Int)] 1) = some o := Option.isSome_iff_exists.1 hlive
        exact room_law (by omega) (hall k h2).2 (hall (k + 1) h1).2 ho
  · rename_i hc
    exact absurd (congrArg Prod.snd h) hc
end Go.Proofs.Ytkbhbmoogkjafaa
