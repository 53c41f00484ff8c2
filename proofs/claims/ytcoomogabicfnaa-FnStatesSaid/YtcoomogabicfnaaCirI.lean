/-
  The walk of the program's cycle time.
-/
import Derived.Test.YtcoomogabicfnaaCirQ
import Derived.Test.YtcoomogabicfnaaBet
import Derived.Test.YtcoomogabicfnaaLive
namespace Go.Proofs.Ytcoomogabicfnaa
open Go.RowKit
set_option linter.unusedVariables false
set_option linter.unusedSimpArgs false


set_option maxHeartbeats 400000 in
set_option maxRecDepth 100000 in
theorem hc1_index (c1 : Value) (v : Value) (l : List Place) (F : Place → Bool) (w : World) (h0 : Lst Place.cells 4 w w.heap.size v l)
    (hclo : ∀ (p : Place), p ∈ l → ∀ (W : World), Below w.heap.size w W → Calls Try.prog 91 #[.agg #[.int .i64 p.src, .int .i64 p.dst, .int .i64 p.delay, .int .i64 p.tokens], c1] W fun e W' => e = .returned (.bool (F p)) ∧ Below W.heap.size W W') :
    Calls Try.prog 71 #[v, .func (.func 91) #[] #[c1]] w fun e w' => e = .returned (.int .i64 (idxP F l)) ∧ Below w.heap.size w w' := by
  obtain ⟨A, c, rfl⟩ := h0.shape
  have hl := h0.len_le
  have hC := Lib.hid hclo
  clear hclo
  go_enter Try.func71, Try.ntmps71
  go_wp2
  go_loopw [5, 8] (fun _ i wr => ∃ k : Nat, k ≤ l.length ∧ i = .int .i64 k ∧ Hid (∀ j (hj : j < k) (hl : j < l.length), F l[j] = false) ∧ Below w.heap.size w wr) (fun _ i _ => l.length - (intOf i).toNat)
  case atStart => exact ⟨0, Nat.zero_le _, rfl, fun j hj => absurd hj (by omega), Below.refl _ _⟩
  case round =>
    obtain ⟨k, hk, rfl, hN, hB⟩ := hrel
    by_cases hlt : k < l.length
    · obtain ⟨b, off, rfl, hb, d0, d1, d2, d3⟩ := places_at h0 k hlt
      obtain ⟨hc, hf⟩ := bcell hB
      cases heq : F l[k]
      · have hN' : Hid (∀ j (hj : j < k + 1) (hl : j < l.length), F l[j] = false) := by
          intro j hj hl2
          rcases Nat.lt_or_ge j k with h | h
          · exact hN.out j h hl2
          · obtain rfl : j = k := by omega
            exact heq
        go_wp2_with (go_at_call 91; refine (hC.out l[k] (List.getElem_mem hlt) _ hB).mono ?_; rintro e w1 ⟨rfl, hb1⟩)
        go_roundw
        case rel => exact ⟨k + 1, hlt, by go_num, hN', hB.trans (hb1.mono hB.size)⟩
        case measure => simp [intOf]; omega
      · have hF : Hid (idxP F l = k) := idxP_hit F l k hlt (fun j hj => hN.out j hj (by omega)) heq
        go_wp2_with (go_at_call 91; refine (hC.out l[k] (List.getElem_mem hlt) _ hB).mono ?_; rintro e w1 ⟨rfl, hb1⟩)
        go_ret
        exact ⟨ret_int hF.out.symm, hB.trans (hb1.mono hB.size)⟩
    · obtain rfl : k = l.length := by omega
      have hF : Hid (idxP F l = -1) := idxP_miss F l fun j hj => hN.out j hj hj
      go_wp2
      go_ret
      exact ⟨ret_int hF.out.symm, hB⟩

set_option maxHeartbeats 400000 in
set_option maxRecDepth 100000 in
theorem hc1_contains (c1 : Value) (v : Value) (l : List Place) (F : Place → Bool) (w : World) (h0 : Lst Place.cells 4 w w.heap.size v l)
    (hclo : ∀ (p : Place), p ∈ l → ∀ (W : World), Below w.heap.size w W → Calls Try.prog 91 #[.agg #[.int .i64 p.src, .int .i64 p.dst, .int .i64 p.delay, .int .i64 p.tokens], c1] W fun e W' => e = .returned (.bool (F p)) ∧ Below W.heap.size W W') :
    Calls Try.prog 47 #[v, .func (.func 91) #[] #[c1]] w fun e w' => e = .returned (.bool (l.any F)) ∧ Below w.heap.size w w' := by
  have hC := Lib.hid hclo
  clear hclo
  go_enter Try.func47, Try.ntmps47
  go_wp2_with (go_at_call 71; refine (hc1_index _ _ _ F _ h0 hC.out).mono ?_; rintro e w1 ⟨rfl, hb1⟩)
  go_ret
  exact ⟨ret_bool (idxP_any F l), hb1⟩
set_option maxHeartbeats 2000000 in
set_option maxRecDepth 100000 in
theorem impl_hasCircuit_1 (p : Place) (n : Nat) (gp : List Place) (A : Option Addr) (c eb : Nat) (w : World) (hb0 : Blk w eb 26 #[.int .i64 (n : Int), .slice A gp.length c]) (h0 : Lst Place.cells 4 w w.heap.size (.slice A gp.length c) gp) (hg : Hid (okGraph n gp = true)) (hp : p ∈ gp) :
    Calls Try.prog 91 #[.agg #[.int .i64 p.src, .int .i64 p.dst, .int .i64 p.delay, .int .i64 p.tokens], .pointer (some ⟨eb, 0, none⟩)] w fun e w' => e = .returned (.bool (decide (0 ≤ distD n gp p.dst.toNat p.src.toNat))) ∧ Below w.heap.size w w' := by
  have hpp := okGraph_place hg.out hp
  obtain ⟨ps, pd, pdl, pt⟩ := p
  simp only at hpp ⊢
  obtain ⟨s, rfl⟩ := Int.eq_ofNat_of_zero_le hpp.1.1
  obtain ⟨d, rfl⟩ := Int.eq_ofNat_of_zero_le hpp.2.1.1
  have hs : s < n := by omega
  have hd : d < n := by omega
  rw [Int.toNat_natCast, Int.toNat_natCast]
  clear hp hpp
  have hN : Below w.heap.size w (w.alloc (.cells #[.int .i64 s, .int .i64 d, .int .i64 pdl, .int .i64 pt] 46)) := (Below.refl _ _).alloc (Nat.le_refl _) _
  have hbp : Blk (w.alloc (.cells #[.int .i64 s, .int .i64 d, .int .i64 pdl, .int .i64 pt] 46)) w.heap.size 46 #[.int .i64 s, .int .i64 d, .int .i64 pdl, .int .i64 pt] := Blk.new _ _ _
  replace h0 := h0.now hN
  replace hb0 := hb0.now hN
  obtain ⟨k0, k1⟩ := hb0.c2
  obtain ⟨p0, p1, _, _⟩ := hbp.c4
  go_enter Try.func91, Try.ntmps91
  go_wp2_with fail
  generalize (w.alloc (.cells #[.int .i64 s, .int .i64 d, .int .i64 pdl, .int .i64 pt] 46)) = V at *
  have hVd : Below V.heap.size V V.drew := Below.drew (Below.refl _ V)
  replace h0 := h0.now hVd
  have i1 : (0 : Int) ≤ (s : Int) := by omega
  have i2 : (s : Int) < (n : Int) := by omega
  clear hb0 hbp
  refine wp_region_held_drew (S := fun w' => w'.cell? ⟨eb, 0, none⟩ = some (.int .i64 (n : Nat)) ∧ w'.cell? ⟨eb, 1, none⟩ = some (.slice A gp.length c) ∧ w'.cell? ⟨w.heap.size, 0, none⟩ = some (.int .i64 (s : Nat)) ∧ w'.cell? ⟨w.heap.size, 1, none⟩ = some (.int .i64 (d : Nat))) (by kernel_rfl) ⟨k0, k1, p0, p1⟩ (fun hH => ?_)
  refine tkH 0 (v := ?_) rfl (fun _ _ _ h => h) (Or.inl ⟨by rfl, ?_⟩) hH ?_
  rotate_left
  · intro w9 hSw
    try dsimp only at hSw
    obtain ⟨s0, s1, s2, s3⟩ := hSw
    go_simp
    try with_reducible rfl
  try simp only [Act.put, List.setIfInBounds_toArray, List.set_cons_zero, List.set_cons_succ]
  refine tkH 1 (v := ?_) rfl (fun _ _ _ h => h) (Or.inl ⟨by rfl, ?_⟩) hH ?_
  rotate_left
  · intro w9 hSw
    try dsimp only at hSw
    obtain ⟨s0, s1, s2, s3⟩ := hSw
    go_simp
    try with_reducible rfl
  try simp only [Act.put, List.setIfInBounds_toArray, List.set_cons_zero, List.set_cons_succ]
  refine tkH 2 (v := ?_) rfl (fun _ _ _ h => h) (Or.inl ⟨by rfl, ?_⟩) hH ?_
  rotate_left
  · intro w9 hSw
    try dsimp only at hSw
    obtain ⟨s0, s1, s2, s3⟩ := hSw
    go_simp
    try with_reducible rfl
  try simp only [Act.put, List.setIfInBounds_toArray, List.set_cons_zero, List.set_cons_succ]
  refine tkH 4 (v := ?_) rfl (fun _ _ _ h => h) (Or.inl ⟨by rfl, ?_⟩) hH ?_
  rotate_left
  · intro w9 hSw
    try dsimp only at hSw
    obtain ⟨s0, s1, s2, s3⟩ := hSw
    go_simp
    try with_reducible rfl
  try simp only [Act.put, List.setIfInBounds_toArray, List.set_cons_zero, List.set_cons_succ]
  refine tkH 5 (v := ?_) rfl (fun _ _ _ h => h) (Or.inl ⟨by rfl, ?_⟩) hH ?_
  rotate_left
  · intro w9 hSw
    try dsimp only at hSw
    obtain ⟨s0, s1, s2, s3⟩ := hSw
    go_simp
    try with_reducible rfl
  try simp only [Act.put, List.setIfInBounds_toArray, List.set_cons_zero, List.set_cons_succ]
  refine wpAnyH_ready (rs := [3]) (by kernel_rfl) (by simp) ?_
  refine AllReadyH.cons rfl (fun K hK => ?_) AllReadyH.nil
  go_simp
  go_at_call 92
  refine (impl_tokenDistances _ n gp d _ h0 hg hd).mono ?_
  rintro e5 w5 ⟨x5, rfl, hO5, hB5⟩
  obtain ⟨g5, c5, rfl, rc⟩ := dist_at hO5 s hs
  have k0a := cell_keep (w := V.drew) k0 hB5
  have k1a := cell_keep (w := V.drew) k1 hB5
  have p0a := cell_keep (w := V.drew) p0 hB5
  have p1a := cell_keep (w := V.drew) p1 hB5
  refine hK.out _ _ ⟨k0a, k1a, p0a, p1a⟩ (fun hH => ?_)
  clear hK K
  try simp only [Act.put, List.setIfInBounds_toArray, List.set_cons_zero, List.set_cons_succ]
  refine tkH 6 (v := ?_) rfl (fun _ _ _ h => h) (Or.inl ⟨by rfl, ?_⟩) hH ?_
  rotate_left
  · intro w9 hSw
    try dsimp only at hSw
    obtain ⟨s0, s1, s2, s3⟩ := hSw
    go_simp
    try with_reducible rfl
  try simp only [Act.put, List.setIfInBounds_toArray, List.set_cons_zero, List.set_cons_succ]
  refine wpAnyH_ready (rs := [7]) (by kernel_rfl) (by simp) ?_
  refine AllReadyH.cons rfl (fun K hK => ?_) AllReadyH.nil
  go_simp
  refine hK.out _ _ ⟨k0a, k1a, p0a, p1a⟩ (fun hH => ?_)
  clear hK K
  try simp only [Act.put, List.setIfInBounds_toArray, List.set_cons_zero, List.set_cons_succ]
  refine tkH 8 (v := ?_) rfl (fun _ _ _ h => h) (Or.inl ⟨by rfl, ?_⟩) hH ?_
  rotate_left
  · intro w9 hSw
    try dsimp only at hSw
    obtain ⟨s0, s1, s2, s3⟩ := hSw
    go_simp
    try with_reducible rfl
  try simp only [Act.put, List.setIfInBounds_toArray, List.set_cons_zero, List.set_cons_succ]
  refine tkH 9 (v := ?_) rfl (fun _ _ _ h => h) (Or.inl ⟨by rfl, ?_⟩) hH ?_
  rotate_left
  · intro w9 hSw
    try dsimp only at hSw
    obtain ⟨s0, s1, s2, s3⟩ := hSw
    go_simp
    try with_reducible rfl
  try simp only [Act.put, List.setIfInBounds_toArray, List.set_cons_zero, List.set_cons_succ]
  refine wpAnyH_done (by kernel_rfl) ?_ _
  go_wp2
  go_ret
  exact ⟨rfl, hN.trans ((hVd.trans (Below.mono (w := V.drew) hB5 (Nat.le_refl _))).mono hN.size)⟩
set_option maxHeartbeats 2000000 in
set_option maxRecDepth 100000 in
theorem impl_hasCircuit (v : Value) (n : Nat) (gp : List Place) (w : World) (h0 : Lst Place.cells 4 w w.heap.size v gp) (hg : Hid (okGraph n gp = true)) :
    Calls Try.prog 68 #[.agg #[.int .i64 n, v]] w fun e w' => e = .returned (.bool (gp.any fun p => decide (0 ≤ distD n gp p.dst.toNat p.src.toNat))) ∧ Below w.heap.size w w' := by
  obtain ⟨A, c, rfl⟩ := h0.shape
  go_enter Try.func68, Try.ntmps68
  go_wp2_with fail
  have hW : Below w.heap.size w (w.alloc (.cells #[.int .i64 (n:Int), .slice A gp.length c] 26)) := (Below.refl _ _).alloc (Nat.le_refl _) _; have hb0 : Blk (w.alloc (.cells #[.int .i64 (n:Int), .slice A gp.length c] 26)) w.heap.size 26 #[.int .i64 (n:Int), .slice A gp.length c] := Blk.new _ _ _; replace h0 := h0.now hW; generalize (w.alloc (.cells #[.int .i64 (n:Int), .slice A gp.length c] 26)) = W at *
  refine (hc1_contains _ _ gp (fun p => decide (0 ≤ distD n gp p.dst.toNat p.src.toNat)) _ h0 ?_).mono ?_
  · intro p hp W' hWW
    exact impl_hasCircuit_1 p n gp A c _ W' (hb0.now hWW) (h0.now hWW) hg hp
  rintro e w3 ⟨rfl, hB⟩
  go_wp2
  go_ret
  exact ⟨rfl, hW.trans (hB.mono hW.size)⟩
def cellZ (w : World) (g k : Nat) : Int := match w.cell? ⟨g, k, none⟩ with
  | some (.int _ z) => z
  | _ => 0
theorem cellZ_of {w : World} {g k : Nat} {z : Int} (h : w.cell? ⟨g, k, none⟩ = some (.int .i64 z)) : cellZ w g k = z := by simp [cellZ, h]
theorem has_any {gp : List Place} {n : Nat} (hg : okGraph n gp = true) : (gp.any fun p => decide (0 ≤ distD n gp p.dst.toNat p.src.toNat)) = true ↔ ∃ m, circuitB gp m = true := by
  rw [← has_circuit hg, List.any_eq_true]
  constructor
  · rintro ⟨p, hp, h⟩; exact ⟨p, hp, by simpa using h⟩
  · rintro ⟨p, hp, h⟩; exact ⟨p, hp, by simpa using h⟩
theorem blkR {w : World} {g : Nat} {t : TypeId} {a b c d : Value} (h : Blk w g t #[a, b]) : Blk ((w.setCell ⟨g, 0, none⟩ c).setCell ⟨g, 1, none⟩ d) g t #[c, d] := h.set2a.set2b
/-- What betterCircuit gives. -/
def BetC (gp : List Place) (a b : Int) (u : Value) (m : List Nat) : Prop := (m = [] ∧ u = .slice none 0 0 ∧ ¬ OverC gp a b 0) ∨ (m ≠ [] ∧ circuitB gp (ints m) = true ∧ 0 < cwL a b gp (ints m))
set_option maxHeartbeats 8000000 in
set_option maxRecDepth 100000 in
theorem impl_cycleTime (v : Value) (n : Nat) (gp : List Place) (w : World) (h0 : Lst Place.cells 4 w w.heap.size v gp) (hg : Hid (okGraph n gp = true)) :
    Calls Try.prog 45 #[.agg #[.int .i64 n, v]] w fun e w' => e = .returned (.tuple #[.agg #[.int .i64 (ctF n gp).1, .int .i64 (ctF n gp).2.1], .int .i64 (ctF n gp).2.2]) ∧ Below w.heap.size w w' := by
  obtain ⟨A, c, rfl⟩ := h0.shape
  have hn := okGraph_ev hg.out
  have hgl := okGraph_len hg.out
  go_enter Try.func45, Try.ntmps45
  go_wp2_with fail
  have hW : Below w.heap.size w ((w.alloc (.cells #[.int .i64 (n : Int), .slice A gp.length c] 26)).alloc (.cells #[.int .i64 0, .int .i64 0] 37)) := (((Below.refl _ _).alloc (Nat.le_refl _) _).alloc (by first | (simp; done) | (simp; omega)) _); have hb0 : Blk ((w.alloc (.cells #[.int .i64 (n : Int), .slice A gp.length c] 26)).alloc (.cells #[.int .i64 0, .int .i64 0] 37)) (w.heap.size) 26 #[.int .i64 (n : Int), .slice A gp.length c] := ((Blk.newAt w _ (by first | rfl | (simp; done) | (simp; omega))).alloc _); have hb1 : Blk ((w.alloc (.cells #[.int .i64 (n : Int), .slice A gp.length c] 26)).alloc (.cells #[.int .i64 0, .int .i64 0] 37)) (w.heap.size + 1) 37 #[.int .i64 0, .int .i64 0] := (Blk.newAt (w.alloc (.cells #[.int .i64 (n : Int), .slice A gp.length c] 26)) _ (by first | rfl | (simp; done) | (simp; omega))); replace h0 := h0.now hW; have hsW : w.heap.size + 2 = ((w.alloc (.cells #[.int .i64 (n : Int), .slice A gp.length c] 26)).alloc (.cells #[.int .i64 0, .int .i64 0] 37)).heap.size := (by first | rfl | (simp; done) | (simp; omega)); generalize ((w.alloc (.cells #[.int .i64 (n : Int), .slice A gp.length c] 26)).alloc (.cells #[.int .i64 0, .int .i64 0] 37)) = W at *; replace hsW := Lib.hid hsW
  refine (impl_isLive _ n gp _ h0 hg).mono ?_
  rintro e w1 ⟨rfl, hB⟩
  replace hW := hW.trans (hB.mono hW.size); replace h0 := h0.now hB; replace hb0 := hb0.now hB; replace hb1 := hb1.now hB
  clear hB
  obtain ⟨k0, k1⟩ := hb0.c2
  obtain ⟨r0, r1⟩ := hb1.c2
  obtain ⟨z0, z1⟩ := hb1.f2
  cases ho : orderF n gp with
  | none =>
    have hE : Hid (ctF n gp = (0, 0, 5)) := ct_eq (ct_dead hg.out (by simpa using ho))
    clear ho
    go_wp2
    refine bodyPost_ret (v := .tuple #[.agg #[.int .i64 0, .int .i64 0], .int .i64 5]) (by simp [results, Try.results45, go_sem, r0, r1]) rfl (retR_of hE.out rfl ?_)
    first | exact hW | exact ((hW.setCell (by simp <;> omega) _).setCell (by simp <;> omega) _)
  | some o =>
    have hoH : Hid (∃ o, orderF n gp = some o) := ⟨o, ho⟩
    clear ho r0 r1 z0 z1
    go_wp2_with fail
    refine (impl_hasCircuit _ n gp _ h0 hg).mono ?_
    rintro e w2 ⟨rfl, hB⟩
    clear k0 k1
    replace hW := hW.trans (hB.mono hW.size); replace h0 := h0.now hB; replace hb0 := hb0.now hB; replace hb1 := hb1.now hB
    clear hB
    obtain ⟨k0, k1⟩ := hb0.c2
    obtain ⟨r0, r1⟩ := hb1.c2
    obtain ⟨z0, z1⟩ := hb1.f2
    cases hm : (gp.any fun p => decide (0 ≤ distD n gp p.dst.toNat p.src.toNat))
    · have hE : Hid (ctF n gp = (0, 0, 4)) := ct_eq (ct_none hg.out (by simpa using hoH.out) (fun h => by rw [(has_any hg.out).2 h] at hm; cases hm))
      clear hm
      go_wp2
      refine bodyPost_ret (v := .tuple #[.agg #[.int .i64 0, .int .i64 0], .int .i64 4]) (by simp [results, Try.results45, go_sem, r0, r1]) rfl (retR_of hE.out rfl ?_)
      first | exact hW | exact ((hW.setCell (by simp <;> omega) _).setCell (by simp <;> omega) _)
    · have hmH := Lib.hid ((has_any hg.out).1 hm)
      clear hm r0 r1 z0 z1
      obtain ⟨mu, hmu⟩ : ∃ mu : Int → Int → Nat, mu = muR := ⟨_, rfl⟩
      have hmuH : Hid (∀ a b m, 0 < b → circuitB gp m = true → 0 < cwL a b gp m → mu (ratN gp m) (ratD gp m) < mu a b) := fun a b m h1 h2 h3 => by rw [hmu]; exact muR_lt hg.out hoH.out h1 h2 h3
      clear hmu
      have hst : Hid (RatSt gp 0 1) := .inl ⟨rfl, rfl⟩
      have hA : Below w2.heap.size w2 (w2.alloc (.cells #[.int .i64 0, .int .i64 1] 37)) := (Below.refl _ _).alloc (Nat.le_refl _) _
      have hbr : Blk (w2.alloc (.cells #[.int .i64 0, .int .i64 1] 37)) w2.heap.size 37 #[.int .i64 0, .int .i64 1] := Blk.new _ _ _
      have g0 := h0.now hA
      have l0 := hb0.lt
      have hnq := fun (w : World) (A : Option Addr) (l c : Nat) => run_neq_slice_nil (P := Try.prog) (w := w) 50 2 A l c Try.underlying50
      go_wp2_with fail
      clear k0 k1 l0
      refine (impl_betterCircuit _ n gp 0 1 _ g0 hg (by omega) (by omega)).mono ?_
      rintro e w3 ⟨u3, m3, rfl, hO3, hR3, hB3⟩
      have hst0 : Hid (BetC gp 0 1 u3 m3) := hR3
      replace hbr := hbr.now hB3
      have hBt := hA.trans (hB3.mono hA.size)
      have hL3 := hO3.lst
      clear hA g0 hB3 hO3 hR3
      go_wp2
      go_loopw [5] (fun ci wr => ∃ (a b : Int) (m : List Nat), Lst intCell 1 wr wr.heap.size ci (ints m) ∧ Hid (BetC gp a b ci m) ∧ Hid (RatSt gp a b) ∧ Blk wr w2.heap.size 37 #[.int .i64 a, .int .i64 b] ∧ Below w2.heap.size w2 wr) (fun _ wr => mu (cellZ wr w2.heap.size 0) (cellZ wr w2.heap.size 1))
      case atStart => exact ⟨0, 1, m3, hL3, hst0, hst, hbr, hBt⟩
      case round =>
        clear hL3 hst0 hst hbr hBt
        obtain ⟨a, b, m, hL, hC, hS, hbr, hB⟩ := hrel
        obtain ⟨k0, k1⟩ := (hb0.now hB).c2
        obtain ⟨r0, r1⟩ := hbr.c2
        rcases hC.out with ⟨hm0, hv0, hno⟩ | ⟨hne, hc, hcw⟩
        · subst hm0
          subst hv0
          have hE : Hid (ctF n gp = (a, b, 0)) := ct_eq (ct_some hg.out (by simpa using hoH.out) (hS.out.max hg.out hoH.out hmH.out hno))
          have hb1r := hb1.now hB
          have lb := hb1r.lt
          obtain ⟨z0, z1⟩ := hb1r.f2
          obtain ⟨x0, x1⟩ := hb1r.c2
          clear hno hL
          go_wp2
          refine bodyPost_ret (v := .tuple #[.agg #[.int .i64 a, .int .i64 b], .int .i64 0]) (by simp [results, Try.results45, go_sem, x0, x1]) rfl (retR_of hE.out rfl ?_)
          have hWr := hW.trans (hB.mono hW.size)
          first | exact hWr | exact (hWr.setCell (by simp <;> omega) _).setCell (by simp <;> omega) _
        · obtain ⟨UA, uc, rfl⟩ := hL.shape
          rw [ints_len] at hL ⊢
          have hmp := List.length_pos_iff.2 hne
          obtain ⟨b0, off0, hUA, _, _⟩ := ints_at hL 0 (by rw [ints_len]; exact hmp)
          subst hUA
          have hab : Hid (allB (ints m) 0 ((gp.length : Int) - 1) = true) := ((circuit_iff gp _).1 hc).2.1
          have hlen := circuit_len hg.out hc
          rw [ints_len] at hlen
          obtain ⟨⟨s1, s2⟩, s3, s4⟩ := sums_le hg.out hab.out (ints m).length (Nat.le_refl _)
          have hgn := okGraph_ev hg.out
          have htk := live_tokens hg.out hoH.out hc
          have hrl := rat_le hg.out hoH.out hc
          have hlt := Lib.hid (hmuH.out a b (ints m) (hS.out.le hg.out hoH.out).2.2.1 hc hcw)
          have hS' : Hid (RatSt gp (ratN gp (ints m)) (ratD gp (ints m))) := .inr ⟨ints m, hc, rfl, rfl⟩
          have hcz := Lib.hid (And.intro (cellZ_of r0) (cellZ_of r1))
          obtain ⟨D, hD⟩ := Int.eq_ofNat_of_zero_le s1
          obtain ⟨M, hM⟩ := Int.eq_ofNat_of_zero_le s3
          have hDH := Lib.hid hD
          have hMH := Lib.hid hM
          rw [hD, ints_len] at s2
          rw [hM, ints_len] at s4
          rw [hM] at htk
          have hrn : Hid (lowN D M = ratN gp (ints m) ∧ lowD D M = ratD gp (ints m)) := by unfold ratN ratD; rw [hD, hM]; exact ⟨rfl, rfl⟩
          have hoL := Lib.hid (ints_len m)
          clear hc hcw hne hD hM s1 s3 hS
          go_wp2_with fail
          refine (impl_circuitSums _ n gp _ (ints m) _ (h0.now hB) (by simpa [hoL.out] using hL) hg hab (by rw [hoL.out]; omega)).mono ?_
          rintro e w4 ⟨rfl, hB4⟩
          rw [hDH.out, hMH.out]
          replace hB := hB.trans (hB4.mono hB.size)
          replace hbr := hbr.now hB4
          clear hB4 hL k0 k1 r0 r1
          go_wp2_with fail
          refine (impl_ratioOf D M _ (by omega) (by omega) (by omega)).mono ?_
          rintro e w5 ⟨rfl, hB5⟩
          rw [hrn.out.1, hrn.out.2]
          replace hB := hB.trans (hB5.mono hB.size)
          replace hbr := hbr.now hB5
          clear hB5 hDH hMH hrn s2 s4 htk
          obtain ⟨ra, hra⟩ : ∃ ra, ratN gp (ints m) = ra := ⟨_, rfl⟩
          obtain ⟨rb, hrb⟩ : ∃ rb, ratD gp (ints m) = rb := ⟨_, rfl⟩
          rw [hra, hrb] at hS' hlt hrl
          simp only [hra, hrb]
          clear hra hrb
          have lr := hbr.lt
          obtain ⟨z0, z1⟩ := hbr.f2
          obtain ⟨k0, k1⟩ := (hb0.now hB).c2
          have l0 := (hb0.now hB).lt
          have hbr2 := Blk.set2b (Blk.set2a (u := .int .i64 ra) hbr) (u := .int .i64 rb)
          have hBs := (hB.setCell (p := ⟨w2.heap.size, 0, none⟩) (Nat.le_refl _) (.int .i64 ra)).setCell (p := ⟨w2.heap.size, 1, none⟩) (Nat.le_refl _) (.int .i64 rb)
          have g0 := h0.now hBs
          have hbg := hb0.now hBs
          have hbl := (hb0.lt : w.heap.size < w2.heap.size)
          have hne1 : ¬ w2.heap.size = w.heap.size := by omega
          have hne2 : ¬ w.heap.size = w2.heap.size := by omega
          obtain ⟨r0, r1⟩ := hbr.c2
          go_wp2_with fail
          clear k0 k1 l0 lr z0 z1 r0 r1 hbr hB
          refine (impl_betterCircuit _ n gp ra rb _ g0 hg (by omega) (by omega)).mono ?_
          rintro e w6 ⟨u6, m6, rfl, hO6, hR6, hB6⟩
          have hR7 : Hid (BetC gp ra rb u6 m6) := hR6
          have hL6 := hO6.lst
          replace hbr2 := hbr2.now hB6
          replace hBs := hBs.trans (hB6.mono hBs.size)
          have hcz2 := Lib.hid (And.intro (cellZ_of hbr2.c2.1) (cellZ_of hbr2.c2.2))
          clear hB6 g0 hbg hO6 hR6
          go_wp2
          go_roundw
          case rel => exact ⟨ra, rb, m6, hL6, hR7, hS', hbr2, hBs⟩
          case measure => rw [hcz.out.1, hcz.out.2, hcz2.out.1, hcz2.out.2]; exact hlt.out
set_option maxHeartbeats 4000000 in
set_option maxRecDepth 100000 in
theorem impl_CycleTime (v : Value) (ge : Int) (gp : List Place) (w : World) (h0 : Lst Place.cells 4 w w.heap.size v gp) :
    Calls Try.prog 18 #[.agg #[.int .i64 ge, v]] w fun e w' => e = .returned (.tuple #[.agg #[.int .i64 (ctF ge gp).1, .int .i64 (ctF ge gp).2.1], .int .i64 (ctF ge gp).2.2]) ∧ Below w.heap.size w w' := by
  obtain ⟨A, c, rfl⟩ := h0.shape
  go_enter Try.func18, Try.ntmps18
  go_wp2_with fail
  have hW : Below w.heap.size w ((w.alloc (.cells #[.int .i64 ge, .slice A gp.length c] 26)).alloc (.cells #[.int .i64 0, .int .i64 0] 37)) := (((Below.refl _ _).alloc (Nat.le_refl _) _).alloc (by first | (simp; done) | (simp; omega)) _); have hb0 : Blk ((w.alloc (.cells #[.int .i64 ge, .slice A gp.length c] 26)).alloc (.cells #[.int .i64 0, .int .i64 0] 37)) (w.heap.size) 26 #[.int .i64 ge, .slice A gp.length c] := ((Blk.newAt w _ (by first | rfl | (simp; done) | (simp; omega))).alloc _); have hb1 : Blk ((w.alloc (.cells #[.int .i64 ge, .slice A gp.length c] 26)).alloc (.cells #[.int .i64 0, .int .i64 0] 37)) (w.heap.size + 1) 37 #[.int .i64 0, .int .i64 0] := (Blk.newAt (w.alloc (.cells #[.int .i64 ge, .slice A gp.length c] 26)) _ (by first | rfl | (simp; done) | (simp; omega))); replace h0 := h0.now hW; have hsW : w.heap.size + 2 = ((w.alloc (.cells #[.int .i64 ge, .slice A gp.length c] 26)).alloc (.cells #[.int .i64 0, .int .i64 0] 37)).heap.size := (by first | rfl | (simp; done) | (simp; omega)); generalize ((w.alloc (.cells #[.int .i64 ge, .slice A gp.length c] 26)).alloc (.cells #[.int .i64 0, .int .i64 0] 37)) = W at *; replace hsW := Lib.hid hsW
  refine (impl_IsEventGraph _ ge gp _ h0).mono ?_
  rintro e w1 ⟨rfl, hB⟩
  replace hW := hW.trans (hB.mono hW.size); replace h0 := h0.now hB; replace hb0 := hb0.now hB; replace hb1 := hb1.now hB
  clear hB
  obtain ⟨k0, k1⟩ := hb0.c2
  cases hg : okGraph ge gp
  · have hE := Lib.hid (ct_eq (ct_bad hg))
    obtain ⟨z0, z1⟩ := hb1.f2
    have lb := hb1.lt
    obtain ⟨x0, x1⟩ := hb1.c2
    clear hg
    go_wp2
    refine bodyPost_ret (v := .tuple #[.agg #[.int .i64 0, .int .i64 0], .int .i64 1]) (by simp [results, Try.results18, go_sem, x0, x1]) rfl (retR_of hE.out rfl ?_)
    first | exact hW | exact (hW.setCell (by simp <;> omega) _).setCell (by simp <;> omega) _
  · have hge := okGraph_ev hg
    obtain ⟨n, rfl⟩ := Int.eq_ofNat_of_zero_le (show 0 ≤ ge by omega)
    have hgH := Lib.hid hg
    clear hg
    go_wp2_with fail
    refine (impl_cycleTime _ n gp _ h0 hgH).mono ?_
    rintro e w2 ⟨rfl, hB⟩
    clear k0 k1
    replace hW := hW.trans (hB.mono hW.size); replace hb1 := hb1.now hB
    clear hB
    obtain ⟨a, b, cd, hctF⟩ : ∃ a b cd, ctF n gp = (a, b, cd) := ⟨_, _, _, rfl⟩
    rw [hctF]
    have hE := Lib.hid hctF
    clear hctF
    obtain ⟨z0, z1⟩ := hb1.f2
    have lb := hb1.lt
    obtain ⟨x0, x1⟩ := hb1.c2
    go_wp2
    refine bodyPost_ret (v := .tuple #[.agg #[.int .i64 a, .int .i64 b], .int .i64 cd]) (by simp [results, Try.results18, go_sem, x0, x1]) rfl (retR_of hE.out rfl ?_)
    first | exact hW | exact (hW.setCell (by simp <;> omega) _).setCell (by simp <;> omega) _
end Go.Proofs.Ytcoomogabicfnaa
