/-
  The walks of UnrollGraph, the program's and the reference's.
-/
import Derived.Test.YtobbidlbihnodaaMore
import Derived.Test.YtobbidlbihnodaaDraw
import Derived.IntWalk
namespace Go.Proofs.Ytobbidlbihnodaa
open Go.RowKit
set_option linter.unusedVariables false
set_option linter.unusedSimpArgs false

/-- One place of the unrolled graph. -/
def unrP (ge : Int) (n : Nat) (p : Place) (r : Nat) : Place := ⟨r * ge + p.src, (((r + p.tokens.toNat) % n : Nat) : Int) * ge + p.dst, p.delay, (((r + p.tokens.toNat) / n : Nat) : Int)⟩
def unrJ (ge : Int) (n : Nat) (p : Place) (j : Nat) : List Place := (List.range j).map (unrP ge n p)
def unrL (ge : Int) (n : Nat) (gp : List Place) : List Place := gp.flatMap fun p => unrJ ge n p n
theorem unrJ_succ (ge : Int) (n : Nat) (p : Place) (j : Nat) : unrJ ge n p (j + 1) = unrJ ge n p j ++ [unrP ge n p j] := by simp [unrJ, List.range_succ]
theorem unrJ_len (ge : Int) (n : Nat) (p : Place) (j : Nat) : (unrJ ge n p j).length = j := by simp [unrJ]
theorem unrL_len (ge : Int) (n : Nat) (gp : List Place) : (unrL ge n gp).length = gp.length * n := by
  induction gp with
  | nil => simp [unrL]
  | cons a l ih =>
    simp only [unrL, List.flatMap_cons, List.length_append, unrJ_len, List.length_cons, Nat.add_mul] at ih ⊢
    omega
theorem unrL_succ (ge : Int) (n : Nat) (gp : List Place) (k : Nat) (h : k < gp.length) : unrL ge n (gp.take (k + 1)) = unrL ge n (gp.take k) ++ unrJ ge n gp[k] n := by
  unfold unrL
  rw [take_succ_get _ _ h, List.flatMap_append]
  simp only [List.flatMap_cons, List.flatMap_nil, List.append_nil]
def unrollF (ge : Int) (gp : List Place) (n : Int) : Int × List Place × Int :=
  if okGraph ge gp = false then (0, [], 1) else if inB n 1 10 = false then (0, [], 2) else checkedF (ge * n) (unrL ge n.toNat gp)
theorem unrollF_len (ge : Int) (gp : List Place) (n : Int) : (unrollF ge gp n).2.1.length ≤ 1048576 := by
  unfold unrollF
  cases hg : okGraph ge gp
  · simp
  · have := okGraph_len hg
    cases hi : inB n 1 10
    · simp
    · have h2 := (inB_iff _ _ _).1 hi
      have h3 := checkedF_len (ge * n) (unrL ge n.toNat gp)
      rw [unrL_len] at h3
      have h4 : gp.length * n.toNat ≤ 30 * 10 := Nat.mul_le_mul this (by omega)
      simp only [Bool.true_eq_false, if_false]
      omega
theorem mulG {a b : Int} {m n : Int} (ha : 0 ≤ a) (hb : 0 ≤ b) (h1 : a ≤ m) (h2 : b ≤ n) (hm : 0 ≤ m) : 0 ≤ a * b ∧ a * b ≤ m * n := ⟨Int.mul_nonneg ha hb, Int.mul_le_mul h1 h2 hb hm⟩
set_option maxHeartbeats 4000000 in
set_option maxRecDepth 100000 in
theorem impl_UnrollGraph (v : Value) (ge : Int) (gp : List Place) (nI : Int) (w : World) (h0 : Lst Place.cells 4 w w.heap.size v gp) :
    Calls Try.prog 18 #[.agg #[.int .i64 ge, v], .int .i64 nI] w (RetGI 78 w (unrollF ge gp nI).1 (unrollF ge gp nI).2.1 (unrollF ge gp nI).2.2) := by
  obtain ⟨A, c, rfl⟩ := h0.shape
  go_enter Try.func18, Try.ntmps18
  go_wp2_with fail
  have hW : Below w.heap.size w ((w.alloc (.cells #[.int .i64 ge, .slice A gp.length c] 28)).alloc (.cells #[.int .i64 0, .slice none 0 0] 28)) := (((Below.refl _ _).alloc (Nat.le_refl _) _).alloc (by first | (simp; done) | (simp; omega)) _); have hb0 : Blk ((w.alloc (.cells #[.int .i64 ge, .slice A gp.length c] 28)).alloc (.cells #[.int .i64 0, .slice none 0 0] 28)) (w.heap.size) 28 #[.int .i64 ge, .slice A gp.length c] := ((Blk.newAt w _ (by first | rfl | (simp; done) | (simp; omega))).alloc _); have hb1 : Blk ((w.alloc (.cells #[.int .i64 ge, .slice A gp.length c] 28)).alloc (.cells #[.int .i64 0, .slice none 0 0] 28)) (w.heap.size + 1) 28 #[.int .i64 0, .slice none 0 0] := (Blk.newAt (w.alloc (.cells #[.int .i64 ge, .slice A gp.length c] 28)) _ (by first | rfl | (simp; done) | (simp; omega))); replace h0 := h0.now hW; have hsW : w.heap.size + 2 = ((w.alloc (.cells #[.int .i64 ge, .slice A gp.length c] 28)).alloc (.cells #[.int .i64 0, .slice none 0 0] 28)).heap.size := (by first | rfl | (simp; done) | (simp; omega)); generalize ((w.alloc (.cells #[.int .i64 ge, .slice A gp.length c] 28)).alloc (.cells #[.int .i64 0, .slice none 0 0] 28)) = W at *; replace hsW := Lib.hid hsW
  refine (impl_IsEventGraph _ _ _ _ h0).mono ?_
  rintro e w1 ⟨rfl, hB⟩
  replace hW := hW.trans (hB.mono hW.size); replace h0 := h0.now hB; replace hb0 := hb0.now hB; replace hb1 := hb1.now hB
  clear hB
  obtain ⟨k0, k1⟩ := hb0.c2
  obtain ⟨r0, r1⟩ := hb1.c2
  obtain ⟨z0, z1⟩ := hb1.f2
  have l0 := hb0.lt
  have l1 := hb1.lt
  cases hg : okGraph ge gp
  · have hE : Hid (unrollF ge gp nI = (0, [], 1)) := by show _ = _; simp [unrollF, hg]
    clear hg
    go_wp2
    refine bodyPost_ret (v := .tuple #[.agg #[.int .i64 0, .slice none 0 0], .int .i64 1]) (by simp [results, Try.results18, go_sem, r0, r1]) rfl (RetGI.of hE.out ⟨_, rfl, Own.nil, ?_⟩)
    first | exact hW | exact ((hW.setCell (by simp <;> omega) _).setCell (by simp <;> omega) _)
  · obtain ⟨hge1, hge2⟩ := okGraph_ev hg
    have hgl := okGraph_len hg
    have hg' := Lib.hid hg
    clear hg
    cases hi : inB nI 1 10
    · have hE : Hid (unrollF ge gp nI = (0, [], 2)) := by show _ = _; simp [unrollF, hg'.out, hi]
      go_wp2_with (go_at_call 62; refine (impl_within _ _ _ _).mono ?_; rintro e w' ⟨rfl, rfl⟩)
      refine bodyPost_ret (v := .tuple #[.agg #[.int .i64 0, .slice none 0 0], .int .i64 2]) (by simp [results, Try.results18, go_sem, r0, r1]) rfl (RetGI.of hE.out ⟨_, rfl, Own.nil, ?_⟩)
      first | exact hW | exact ((hW.setCell (by simp <;> omega) _).setCell (by simp <;> omega) _)
    · obtain ⟨hn1, hn2⟩ := (inB_iff _ _ _).1 hi
      obtain ⟨n, rfl⟩ := Int.eq_ofNat_of_zero_le (show 0 ≤ nI by omega)
      have hE : Hid (unrollF ge gp n = checkedF (ge * n) (unrL ge n gp)) := by show _ = _; simp [unrollF, hg'.out, hi]
      obtain ⟨u1, u2⟩ := mulG (a := ge) (b := n) (m := 10) (n := 10) (by omega) (by omega) (by omega) (by omega) (by omega)
      clear r0 r1 z0 z1
      go_wp2_with (go_at_call 62; refine (impl_within _ _ _ _).mono ?_; rintro e w' ⟨rfl, rfl⟩)
      clear hi k0 k1 u1 u2
      go_loopw [8, 9, 10, 27] (fun _ _ _ i wr => ∃ k : Nat, k ≤ gp.length ∧ i = .int .i64 k ∧ (∃ y, Blk wr (w1.heap.size) 28 #[.int .i64 (ge * n), y] ∧ Own Place.cells 4 78 wr w1.heap.size y (unrL ge n (gp.take k))) ∧ Below w1.heap.size w1 wr) (fun _ _ _ i _ => gp.length - (intOf i).toNat)
      case atStart => exact ⟨0, Nat.zero_le _, rfl, ⟨_, Blk.newAt _ _ rfl, Own.nil⟩, (Below.refl _ _).alloc (Nat.le_refl _) _⟩
      case round =>
        obtain ⟨k, hk, rfl, ⟨y, hbo, hO⟩, hB⟩ := hrel
        have hs := hB.size
        have l0w := (hb0.now hB).lt
        have lo := hbo.lt
        obtain ⟨Y, cy, rfl⟩ := hO.shape
        obtain ⟨k0, k1⟩ := (hb0.now hB).c2
        by_cases hlt : k < gp.length
        · obtain ⟨b, off, hb1', hbb, d0, d1, d2, d3⟩ := places_at (h0.now hB) k hlt
          cases hb1'
          have hp := okGraph_place hg'.out (List.getElem_mem hlt)
          obtain ⟨t, ht⟩ := Int.eq_ofNat_of_zero_le hp.2.2.2.1
          have ht5 : t ≤ 5 := by omega
          rw [ht] at d3
          have ht' := Lib.hid ht
          clear ht
          have hlt3 := Lib.hid hO.lt
          go_wp2
          obtain ⟨wo, rfl⟩ : ∃ wo : World, wo = wr := ⟨_, rfl⟩
          go_loopw [9, 10, 32] (fun _ _ i w2 => ∃ j : Nat, j ≤ n ∧ i = .int .i64 j ∧ (∃ y, Blk w2 (w1.heap.size) 28 #[.int .i64 (ge * n), y] ∧ Own Place.cells 4 78 w2 w1.heap.size y (unrL ge n (gp.take k) ++ unrJ ge n gp[k] j) ∧ Hid (∀ z, y.ownBlock = some z → z ≠ wo.heap.size)) ∧ Blk w2 wo.heap.size 78 #[.int .i64 gp[k].src, .int .i64 gp[k].dst, .int .i64 gp[k].delay, .int .i64 t] ∧ Below w1.heap.size w1 w2) (fun _ _ i _ => n - (intOf i).toNat)
          case atStart => exact ⟨0, Nat.zero_le _, rfl, ⟨_, hbo.alloc _, by simpa [unrJ] using hO.alloc _, fun z hz e => absurd (hlt3.out z hz).2 (by omega)⟩, Blk.newAt _ _ rfl, hB.alloc hs _⟩
          case round =>
            clear hbo hO hlt3 k0 k1 d0 d1 d2 d3 hB hs l0w
            obtain ⟨j, hj, rfl, ⟨y2, hbo, hO, hdis⟩, hbp, hB⟩ := hrel
            have hLK : (unrL ge n (gp.take k) ++ unrJ ge n gp[k] j).length = k * n + j := by rw [List.length_append, unrL_len, unrJ_len, List.length_take, Nat.min_eq_left hk]
            obtain ⟨Y, cy, rfl⟩ := own_shape_n hO hLK
            have hLK' := Lib.hid hLK
            clear hLK
            have hsV := hB.size
            have lP := Lib.hid hbp.lt
            have lP2 := hbp.lt
            have lo2 := hbo.lt
            have c0 := ((hb0.now hB).c2).1
            have l0v := (hb0.now hB).lt
            have hlt3 := Lib.hid hO.lt
            by_cases hlt2 : j < n
            · have hpp := okGraph_place hg'.out (List.getElem_mem hlt)
              obtain ⟨sv, hsv⟩ : ∃ sv, (j + t) % n = sv := ⟨_, rfl⟩
              obtain ⟨qv, hqv⟩ : ∃ qv, (j + t) / n = qv := ⟨_, rfl⟩
              have hsvn : sv < n := by rw [← hsv]; exact Nat.mod_lt _ (by omega)
              have hqvn : qv ≤ j + t := by rw [← hqv]; exact Nat.div_le_self _ _
              have hX : Hid (unrP ge n gp[k] j = ⟨j * ge + gp[k].src, sv * ge + gp[k].dst, gp[k].delay, qv⟩) := by
                show _ = _
                unfold unrP
                rw [ht'.out, Int.toNat_natCast, hsv, hqv]
              have hT : Hid ((unrL ge n (gp.take k) ++ unrJ ge n gp[k] j) ++ [⟨j * ge + gp[k].src, sv * ge + gp[k].dst, gp[k].delay, qv⟩] = unrL ge n (gp.take k) ++ unrJ ge n gp[k] (j + 1)) := by show _ = _; rw [unrJ_succ, ← hX.out, List.append_assoc]
              have hkn : k * n + j ≤ 400 := by have := Nat.mul_le_mul (show k ≤ 30 by omega) (show n ≤ 10 by omega); omega
              have hlen : (unrL ge n (gp.take k) ++ unrJ ge n gp[k] j).length + [(⟨j * ge + gp[k].src, sv * ge + gp[k].dst, gp[k].delay, qv⟩ : Place)].length ≤ 1099511627776 := by rw [hLK'.out]; simp; omega
              have hLL2 : Hid (((unrL ge n (gp.take k) ++ unrJ ge n gp[k] j) ++ [(⟨j * ge + gp[k].src, sv * ge + gp[k].dst, gp[k].delay, qv⟩ : Place)]).length = k * n + j + 1) := by show _ = _; rw [List.length_append, hLK'.out]; rfl
              have hr1 : ((j : Int) + (t : Int)) % (n : Int) = (sv : Int) := by rw [← hsv]; simp
              have hq1 : ((j : Int) + (t : Int)) / (n : Int) = (qv : Int) := by rw [← hqv]; simp
              have hq2 : Int.tdiv ((j : Int) + (t : Int)) (n : Int) = (qv : Int) := by rw [Int.tdiv_eq_ediv_of_nonneg (by omega)]; exact hq1
              have hr2 : Int.tmod ((j : Int) + (t : Int)) (n : Int) = (sv : Int) := by rw [Int.tmod_eq_emod_of_nonneg (by omega)]; exact hr1
              obtain ⟨e1, e2⟩ := mulG (a := (j : Int)) (b := ge) (m := 10) (n := 10) (by omega) (by omega) (by omega) (by omega) (by omega)
              obtain ⟨e3, e4⟩ := mulG (a := (sv : Int)) (b := ge) (m := 10) (n := 10) (by omega) (by omega) (by omega) (by omega) (by omega)
              have w1' : IntKind.i64.wrap ((j : Int) * ge) = j * ge := IntWalk.i64_in _ (by omega)
              have w2' : IntKind.i64.wrap ((j : Int) * ge + gp[k].src) = j * ge + gp[k].src := IntWalk.i64_in _ (by omega)
              have w3' : IntKind.i64.wrap ((sv : Int) * ge) = sv * ge := IntWalk.i64_in _ (by omega)
              have w4' : IntKind.i64.wrap ((sv : Int) * ge + gp[k].dst) = sv * ge + gp[k].dst := IntWalk.i64_in _ (by omega)
              have w5' : IntKind.i64.wrap ((j : Int) + (t : Int)) = j + t := IntWalk.i64_in _ (by omega)
              have w6' : IntKind.i64.wrap (qv : Int) = qv := IntWalk.i64_in _ (by omega)
              have hm1 : (n : Int) ≠ 0 := by omega
              have hm2 : ((n : Int) == 0) = false := by simp; omega
              have hm3 : n ≠ 0 := by omega
              have hm5 : (1 : Int) ≤ (n : Int) := by omega
              have hjt : (0 : Int) ≤ (j : Int) + (t : Int) := by omega
              have hgne : wo.heap.size ≠ w1.heap.size := by omega
              clear hsv hqv
              have hW12 := Lib.hid (And.intro w1' (And.intro w2' (And.intro w3' (And.intro w4' (And.intro w5' w6')))))
              clear w1' w2' w3' w4' w5' w6'
              obtain ⟨p0, p1, p2, p3⟩ := hbp.c4
              go_wp2_with fail
              clear p0 p1 p2 p3
              obtain ⟨w1', w2', w3', w4', w5', w6'⟩ := hW12.out
              have hdV : Below wr.heap.size wr wr.drew := (Below.refl _ _).drew
              have c0' := cell_keep c0 hdV
              replace hB := hB.trans (hdV.mono hB.size); replace hO := hO.now hdV; replace hbo := hbo.now hdV; replace hbp := hbp.now hdV
              obtain ⟨o0, o1⟩ := hbo.c2
              obtain ⟨p0, p1, p2, p3⟩ := hbp.c4
              have qbo := hbo.alloc (.cells #[.int .i64 (j * ge + gp[k].src), .int .i64 (sv * ge + gp[k].dst), .int .i64 gp[k].delay, .int .i64 qv] 78)
              have qpp := hbp.alloc (.cells #[.int .i64 (j * ge + gp[k].src), .int .i64 (sv * ge + gp[k].dst), .int .i64 gp[k].delay, .int .i64 qv] 78)
              have qO := hO.alloc (.cells #[.int .i64 (j * ge + gp[k].src), .int .i64 (sv * ge + gp[k].dst), .int .i64 gp[k].delay, .int .i64 qv] 78)
              have c0a := cell_keep c0' ((Below.refl _ _).alloc (Nat.le_refl _) (.cells #[.int .i64 (j * ge + gp[k].src), .int .i64 (sv * ge + gp[k].dst), .int .i64 gp[k].delay, .int .i64 qv] 78))
              obtain ⟨o0a, o1a⟩ := qbo.c2
              obtain ⟨p0a, p1a, p2a, p3a⟩ := qpp.c4
              have hLst := lst_new1 Place.cells 4 Place.cells_len wr.drew 78 ⟨j * ge + gp[k].src, sv * ge + gp[k].dst, gp[k].delay, qv⟩ _ rfl _ rfl
              refine wp_region_E (fun w' => w'.cell? ⟨w1.heap.size, 1, none⟩ = some (.slice Y (k * n + j) cy) ∧ w'.cell? ⟨w.heap.size, 0, none⟩ = some (.int .i64 ge) ∧ w'.cell? ⟨wo.heap.size, 0, none⟩ = some (.int .i64 gp[k].src) ∧ w'.cell? ⟨wo.heap.size, 1, none⟩ = some (.int .i64 gp[k].dst) ∧ w'.cell? ⟨wo.heap.size, 2, none⟩ = some (.int .i64 gp[k].delay) ∧ w'.cell? ⟨wo.heap.size, 3, none⟩ = some (.int .i64 t)) 28 (by kernel_rfl) ?_
              have hS0 : (fun w' : World => w'.cell? ⟨w1.heap.size, 1, none⟩ = some (.slice Y (k * n + j) cy) ∧ w'.cell? ⟨w.heap.size, 0, none⟩ = some (.int .i64 ge) ∧ w'.cell? ⟨wo.heap.size, 0, none⟩ = some (.int .i64 gp[k].src) ∧ w'.cell? ⟨wo.heap.size, 1, none⟩ = some (.int .i64 gp[k].dst) ∧ w'.cell? ⟨wo.heap.size, 2, none⟩ = some (.int .i64 gp[k].delay) ∧ w'.cell? ⟨wo.heap.size, 3, none⟩ = some (.int .i64 t)) wr.drew := ⟨o1, c0', p0, p1, p2, p3⟩
              refine wpAnyE_take (i := 0) (v := ?_) rfl (by kernel_rfl) (by kernel_rfl) (by kernel_rfl) (by kernel_rfl) (by kernel_rfl) (fun _ _ _ h => h) hS0 (by rfl) ?_ ?_
              rotate_left
              · intro w9 hSw
                try dsimp only at hSw
                obtain ⟨s0, s1, s2, s3, s4, s5⟩ := hSw
                go_simp
                try with_reducible rfl
              try simp only [Act.put, List.setIfInBounds_toArray, List.set_cons_zero, List.set_cons_succ]
              refine wpAnyE_take (i := 1) (v := ?_) rfl (by kernel_rfl) (by kernel_rfl) (by kernel_rfl) (by kernel_rfl) (by kernel_rfl) (fun _ _ _ h => h) hS0 (by rfl) ?_ ?_
              rotate_left
              · intro w9 hSw
                try dsimp only at hSw
                obtain ⟨s0, s1, s2, s3, s4, s5⟩ := hSw
                go_simp
                try with_reducible rfl
              try simp only [Act.put, List.setIfInBounds_toArray, List.set_cons_zero, List.set_cons_succ]
              refine wpAnyE_take (i := 2) (v := ?_) rfl (by kernel_rfl) (by kernel_rfl) (by kernel_rfl) (by kernel_rfl) (by kernel_rfl) (fun _ _ _ h => h) hS0 (by rfl) ?_ ?_
              rotate_left
              · intro w9 hSw
                try dsimp only at hSw
                obtain ⟨s0, s1, s2, s3, s4, s5⟩ := hSw
                go_simp
                try with_reducible rfl
              try simp only [Act.put, List.setIfInBounds_toArray, List.set_cons_zero, List.set_cons_succ]
              refine wpAnyE_take (i := 3) (v := ?_) rfl (by kernel_rfl) (by kernel_rfl) (by kernel_rfl) (by kernel_rfl) (by kernel_rfl) (fun _ _ _ h => h) hS0 (by rfl) ?_ ?_
              rotate_left
              · intro w9 hSw
                try dsimp only at hSw
                obtain ⟨s0, s1, s2, s3, s4, s5⟩ := hSw
                go_simp
                try with_reducible rfl
              try simp only [Act.put, List.setIfInBounds_toArray, List.set_cons_zero, List.set_cons_succ]
              refine wpAnyE_take (i := 4) (v := ?_) rfl (by kernel_rfl) (by kernel_rfl) (by kernel_rfl) (by kernel_rfl) (by kernel_rfl) (fun _ _ _ h => h) hS0 (by rfl) ?_ ?_
              rotate_left
              · intro w9 hSw
                try dsimp only at hSw
                obtain ⟨s0, s1, s2, s3, s4, s5⟩ := hSw
                go_simp
                try with_reducible rfl
              try simp only [Act.put, List.setIfInBounds_toArray, List.set_cons_zero, List.set_cons_succ]
              refine wpAnyE_take (i := 5) (v := ?_) rfl (by kernel_rfl) (by kernel_rfl) (by kernel_rfl) (by kernel_rfl) (by kernel_rfl) (fun _ _ _ h => h) hS0 (by rfl) ?_ ?_
              rotate_left
              · intro w9 hSw
                try dsimp only at hSw
                obtain ⟨s0, s1, s2, s3, s4, s5⟩ := hSw
                go_simp
                try with_reducible rfl
              try simp only [Act.put, List.setIfInBounds_toArray, List.set_cons_zero, List.set_cons_succ]
              refine wpAnyE_take (i := 6) (v := ?_) rfl (by kernel_rfl) (by kernel_rfl) (by kernel_rfl) (by kernel_rfl) (by kernel_rfl) (fun _ _ _ h => h) hS0 (by rfl) ?_ ?_
              rotate_left
              · intro w9 hSw
                try dsimp only at hSw
                obtain ⟨s0, s1, s2, s3, s4, s5⟩ := hSw
                go_simp
                try with_reducible rfl
              try simp only [Act.put, List.setIfInBounds_toArray, List.set_cons_zero, List.set_cons_succ]
              refine wpAnyE_take (i := 7) (v := ?_) rfl (by kernel_rfl) (by kernel_rfl) (by kernel_rfl) (by kernel_rfl) (by kernel_rfl) (fun _ _ _ h => h) hS0 (by rfl) ?_ ?_
              rotate_left
              · intro w9 hSw
                try dsimp only at hSw
                obtain ⟨s0, s1, s2, s3, s4, s5⟩ := hSw
                go_simp
                try with_reducible rfl
              try simp only [Act.put, List.setIfInBounds_toArray, List.set_cons_zero, List.set_cons_succ]
              refine wpAnyE_take (i := 8) (v := ?_) rfl (by kernel_rfl) (by kernel_rfl) (by kernel_rfl) (by kernel_rfl) (by kernel_rfl) (fun _ _ _ h => h) hS0 (by rfl) ?_ ?_
              rotate_left
              · intro w9 hSw
                try dsimp only at hSw
                obtain ⟨s0, s1, s2, s3, s4, s5⟩ := hSw
                go_simp
                try with_reducible rfl
              try simp only [Act.put, List.setIfInBounds_toArray, List.set_cons_zero, List.set_cons_succ]
              refine wpAnyE_take (i := 9) (v := ?_) rfl (by kernel_rfl) (by kernel_rfl) (by kernel_rfl) (by kernel_rfl) (by kernel_rfl) (fun _ _ _ h => h) hS0 (by rfl) ?_ ?_
              rotate_left
              · intro w9 hSw
                try dsimp only at hSw
                obtain ⟨s0, s1, s2, s3, s4, s5⟩ := hSw
                go_simp
                try with_reducible rfl
              try simp only [Act.put, List.setIfInBounds_toArray, List.set_cons_zero, List.set_cons_succ]
              refine wpAnyE_take (i := 10) (v := ?_) rfl (by kernel_rfl) (by kernel_rfl) (by kernel_rfl) (by kernel_rfl) (by kernel_rfl) (fun _ _ _ h => h) hS0 (by rfl) ?_ ?_
              rotate_left
              · intro w9 hSw
                try dsimp only at hSw
                obtain ⟨s0, s1, s2, s3, s4, s5⟩ := hSw
                go_simp
                try with_reducible rfl
              try simp only [Act.put, List.setIfInBounds_toArray, List.set_cons_zero, List.set_cons_succ]
              refine wpAnyE_take (i := 11) (v := ?_) rfl (by kernel_rfl) (by kernel_rfl) (by kernel_rfl) (by kernel_rfl) (by kernel_rfl) (fun _ _ _ h => h) hS0 (by rfl) ?_ ?_
              rotate_left
              · intro w9 hSw
                try dsimp only at hSw
                obtain ⟨s0, s1, s2, s3, s4, s5⟩ := hSw
                go_simp
                try with_reducible rfl
              try simp only [Act.put, List.setIfInBounds_toArray, List.set_cons_zero, List.set_cons_succ]
              refine wpAnyE_take (i := 12) (v := ?_) rfl (by kernel_rfl) (by kernel_rfl) (by kernel_rfl) (by kernel_rfl) (by kernel_rfl) (fun _ _ _ h => h) hS0 (by rfl) ?_ ?_
              rotate_left
              · intro w9 hSw
                try dsimp only at hSw
                obtain ⟨s0, s1, s2, s3, s4, s5⟩ := hSw
                go_simp
                try with_reducible rfl
              try simp only [Act.put, List.setIfInBounds_toArray, List.set_cons_zero, List.set_cons_succ]
              refine wpAnyE_take (i := 13) (v := ?_) rfl (by kernel_rfl) (by kernel_rfl) (by kernel_rfl) (by kernel_rfl) (by kernel_rfl) (fun _ _ _ h => h) hS0 (by rfl) ?_ ?_
              rotate_left
              · intro w9 hSw
                try dsimp only at hSw
                obtain ⟨s0, s1, s2, s3, s4, s5⟩ := hSw
                go_simp
                try with_reducible rfl
              try simp only [Act.put, List.setIfInBounds_toArray, List.set_cons_zero, List.set_cons_succ]
              refine wpAnyE_take (i := 14) (v := ?_) rfl (by kernel_rfl) (by kernel_rfl) (by kernel_rfl) (by kernel_rfl) (by kernel_rfl) (fun _ _ _ h => h) hS0 (by rfl) ?_ ?_
              rotate_left
              · intro w9 hSw
                try dsimp only at hSw
                obtain ⟨s0, s1, s2, s3, s4, s5⟩ := hSw
                go_simp
                try with_reducible rfl
              try simp only [Act.put, List.setIfInBounds_toArray, List.set_cons_zero, List.set_cons_succ]
              refine wpAnyE_take (i := 15) (v := ?_) rfl (by kernel_rfl) (by kernel_rfl) (by kernel_rfl) (by kernel_rfl) (by kernel_rfl) (fun _ _ _ h => h) hS0 (by rfl) ?_ ?_
              rotate_left
              · intro w9 hSw
                try dsimp only at hSw
                obtain ⟨s0, s1, s2, s3, s4, s5⟩ := hSw
                go_simp
                try with_reducible rfl
              try simp only [Act.put, List.setIfInBounds_toArray, List.set_cons_zero, List.set_cons_succ]
              refine wpAnyE_take (i := 16) (v := ?_) rfl (by kernel_rfl) (by kernel_rfl) (by kernel_rfl) (by kernel_rfl) (by kernel_rfl) (fun _ _ _ h => h) hS0 (by rfl) ?_ ?_
              rotate_left
              · intro w9 hSw
                try dsimp only at hSw
                obtain ⟨s0, s1, s2, s3, s4, s5⟩ := hSw
                go_simp
                try with_reducible rfl
              try simp only [Act.put, List.setIfInBounds_toArray, List.set_cons_zero, List.set_cons_succ]
              refine wpAnyE_take (i := 17) (v := ?_) rfl (by kernel_rfl) (by kernel_rfl) (by kernel_rfl) (by kernel_rfl) (by kernel_rfl) (fun _ _ _ h => h) hS0 (by rfl) ?_ ?_
              rotate_left
              · intro w9 hSw
                try dsimp only at hSw
                obtain ⟨s0, s1, s2, s3, s4, s5⟩ := hSw
                go_simp
                try with_reducible rfl
              try simp only [Act.put, List.setIfInBounds_toArray, List.set_cons_zero, List.set_cons_succ]
              refine wpAnyE_take (i := 18) (v := ?_) rfl (by kernel_rfl) (by kernel_rfl) (by kernel_rfl) (by kernel_rfl) (by kernel_rfl) (fun _ _ _ h => h) hS0 (by rfl) ?_ ?_
              rotate_left
              · intro w9 hSw
                try dsimp only at hSw
                obtain ⟨s0, s1, s2, s3, s4, s5⟩ := hSw
                go_simp
                try with_reducible rfl
              try simp only [Act.put, List.setIfInBounds_toArray, List.set_cons_zero, List.set_cons_succ]
              refine wpAnyE_take (i := 19) (v := ?_) rfl (by kernel_rfl) (by kernel_rfl) (by kernel_rfl) (by kernel_rfl) (by kernel_rfl) (fun _ _ _ h => h) hS0 (by rfl) ?_ ?_
              rotate_left
              · intro w9 hSw
                try dsimp only at hSw
                obtain ⟨s0, s1, s2, s3, s4, s5⟩ := hSw
                go_simp
                try with_reducible rfl
              try simp only [Act.put, List.setIfInBounds_toArray, List.set_cons_zero, List.set_cons_succ]
              refine wpAnyE_take (i := 20) (v := ?_) rfl (by kernel_rfl) (by kernel_rfl) (by kernel_rfl) (by kernel_rfl) (by kernel_rfl) (fun _ _ _ h => h) hS0 (by rfl) ?_ ?_
              rotate_left
              · intro w9 hSw
                try dsimp only at hSw
                obtain ⟨s0, s1, s2, s3, s4, s5⟩ := hSw
                go_simp
                try with_reducible rfl
              try simp only [Act.put, List.setIfInBounds_toArray, List.set_cons_zero, List.set_cons_succ]
              refine wpAnyE_take (i := 21) (v := ?_) rfl (by kernel_rfl) (by kernel_rfl) (by kernel_rfl) (by kernel_rfl) (by kernel_rfl) (fun _ _ _ h => h) hS0 (by rfl) ?_ ?_
              rotate_left
              · intro w9 hSw
                try dsimp only at hSw
                obtain ⟨s0, s1, s2, s3, s4, s5⟩ := hSw
                go_simp
                try with_reducible rfl
              try simp only [Act.put, List.setIfInBounds_toArray, List.set_cons_zero, List.set_cons_succ]
              refine wpAnyE_take (i := 22) (v := ?_) rfl (by kernel_rfl) (by kernel_rfl) (by kernel_rfl) (by kernel_rfl) (by kernel_rfl) (fun _ _ _ h => h) hS0 (by rfl) ?_ ?_
              rotate_left
              · intro w9 hSw
                try dsimp only at hSw
                obtain ⟨s0, s1, s2, s3, s4, s5⟩ := hSw
                go_simp
                try with_reducible rfl
              try simp only [Act.put, List.setIfInBounds_toArray, List.set_cons_zero, List.set_cons_succ]
              refine wpAnyE_take (i := 23) (v := ?_) rfl (by kernel_rfl) (by kernel_rfl) (by kernel_rfl) (by kernel_rfl) (by kernel_rfl) (fun _ _ _ h => h) hS0 (by rfl) ?_ ?_
              rotate_left
              · intro w9 hSw
                try dsimp only at hSw
                obtain ⟨s0, s1, s2, s3, s4, s5⟩ := hSw
                go_simp
                try with_reducible rfl
              try simp only [Act.put, List.setIfInBounds_toArray, List.set_cons_zero, List.set_cons_succ]
              refine wpAnyE_take (i := 24) (v := ?_) rfl (by kernel_rfl) (by kernel_rfl) (by kernel_rfl) (by kernel_rfl) (by kernel_rfl) (fun _ _ _ h => h) hS0 (by rfl) ?_ ?_
              rotate_left
              · intro w9 hSw
                try dsimp only at hSw
                obtain ⟨s0, s1, s2, s3, s4, s5⟩ := hSw
                go_simp
                try with_reducible rfl
              try simp only [Act.put, List.setIfInBounds_toArray, List.set_cons_zero, List.set_cons_succ]
              refine wpAnyE_one (i := 25) rfl (by kernel_rfl) (fun K hK => ?_)
              go_simp
              refine hK.out _ _ (fun _ => ⟨o1a, c0a, p0a, p1a, p2a, p3a⟩) ?_
              clear hK K
              try simp only [Act.put, List.setIfInBounds_toArray, List.set_cons_zero, List.set_cons_succ]
              refine wpAnyE_one (i := 26) rfl (by kernel_rfl) (fun K hK => ?_)
              refine step_append_lst rfl _ _ 26 rfl Place.cells 4 Place.cells_one (by omega) w1.heap.size 78 _ 32 Try.underlying26 info_place rfl (.slice Y (k * n + j) cy) (unrL ge n (gp.take k) ++ unrJ ge n gp[k] j) rfl qO _ _ _ _ [⟨j * ge + gp[k].src, sv * ge + gp[k].dst, gp[k].delay, qv⟩] rfl hLst hlen (by omega) (Nat.le_trans hsV (by simp)) ?_
              intro v1 wz hO1 hG hD
              obtain ⟨V1, cv1, rfl⟩ := own_shape_n hO1 hLL2.out
              have hbo' := qbo.grown hG (Ne.symm (qO.ne_blk qbo (by decide)))
              obtain ⟨o0b, o1b⟩ := hbo'.c2
              obtain ⟨z0b, z1b⟩ := hbo'.f2
              have hpp' := qpp.grown hG (fun hk => hdis.out _ hk.symm rfl)
              obtain ⟨p0b, p1b, p2b, p3b⟩ := hpp'.c4
              have c0b := cell_kept c0a hG (fun hk => by have q1 := (hlt3.out _ hk).1; have q2 := l0; simp only at q1 q2; omega)
              refine hK.out _ _ (fun _ => ⟨o1b, c0b, p0b, p1b, p2b, p3b⟩) ?_
              clear hK K
              try simp only [Act.put, List.setIfInBounds_toArray, List.set_cons_zero, List.set_cons_succ]
              refine wpAnyE_one (i := 27) rfl (by kernel_rfl) (fun K hK => ?_)
              go_simp
              refine hK.out _ _ (fun _ => ⟨o1b, c0b, p0b, p1b, p2b, p3b⟩) ?_
              clear hK K
              try simp only [Act.put, List.setIfInBounds_toArray, List.set_cons_zero, List.set_cons_succ]
              refine wpAnyE_one (i := 28) rfl (by kernel_rfl) (fun K hK => ?_)
              go_simp
              refine hK.out _ _ (fun h => absurd rfl h) ?_
              clear hK K
              try simp only [Act.put, List.setIfInBounds_toArray, List.set_cons_zero, List.set_cons_succ]
              refine wpAnyE_done (by kernel_rfl) ?_
              have hdis' : Hid (∀ z, (Value.slice V1 (k * n + j + 1) cv1).ownBlock = some z → z ≠ wo.heap.size) := by
                intro z hz e
                rcases hD with h | h
                · rw [h] at hz; exact hdis.out z hz e
                · rw [h] at hz
                  injection hz with hz
                  have := lP.out
                  simp at hz
                  omega
              clear p0b p1b p2b p3b c0b o0a o1a p0a p1a p2a p3a c0a p0 p1 p2 p3 c0' o0 o1 hS0
              go_wp2
              go_roundw
              case rel => exact ⟨j + 1, hlt2, by go_num, ⟨_, hbo'.set2b, by rw [← hT.out]; exact own_far hO1 (p := ⟨w1.heap.size, 1, none⟩) (hO1.ne_blk hbo' (by decide)) _, hdis'⟩, hpp'.far (p := ⟨w1.heap.size, 1, none⟩) hgne _, (below_app (hB.alloc hsV _) (Nat.le_trans hsV (by simp)) hG qO (Nat.le_refl _)).setCell (show w1.heap.size ≤ w1.heap.size by omega) _⟩
              case measure => simp [intOf]; omega
            · obtain rfl : j = n := by omega
              go_wp2
              go_roundw
              case rel => exact ⟨k + 1, hlt, by go_num, ⟨_, hbo, by rw [unrL_succ ge j gp k hlt]; exact hO⟩, hB⟩
              case measure => simp [intOf]; omega
        · obtain rfl : k = gp.length := by omega
          rw [List.take_length] at hO
          obtain ⟨o0, o1⟩ := hbo.c2
          go_wp2_with fail
          refine (impl_checkedGraph _ _ _ w1.heap.size _ hO).mono ?_
          rintro e w4 ⟨z, rfl, hO5, hB5⟩
          obtain ⟨Z, cz, rfl⟩ := hO5.shape
          have hb1' := (hb1.now hB).now hB5
          generalize checkedF (ge * n) (unrL ge n gp) = T at *
          obtain ⟨r0, r1⟩ := hb1'.c2
          obtain ⟨z0, z1⟩ := hb1'.f2
          have hBt := hW.trans ((hB.trans (hB5.mono hs)).mono hW.size)
          go_wp2
          refine bodyPost_ret (v := .tuple #[.agg #[.int .i64 T.1, .slice Z T.2.1.length cz], .int .i64 T.2.2]) (by simp [results, Try.results18, go_sem, r0, r1]) rfl (by rw [hE.out]; exact ⟨_, rfl, ((hO5.far (p := ⟨w.heap.size + 1, 0, none⟩) l1 _).far (p := ⟨w.heap.size + 1, 1, none⟩) l1 _).rebase hW.size, (hBt.setCell (by simp <;> omega) _).setCell (by simp <;> omega) _⟩)
set_option maxHeartbeats 4000000 in
set_option maxRecDepth 100000 in
theorem spec_UnrollGraph (v : Value) (ge : Int) (gp : List Place) (nI : Int) (w : World) (h0 : Lst Place.cells 4 w w.heap.size v gp) :
    Calls Try.prog 16 #[.agg #[.int .i64 ge, v], .int .i64 nI] w (RetGI 78 w (unrollF ge gp nI).1 (unrollF ge gp nI).2.1 (unrollF ge gp nI).2.2) := by
  obtain ⟨A, c, rfl⟩ := h0.shape
  go_enter Try.func16, Try.ntmps16
  go_wp2_with fail
  have hW : Below w.heap.size w ((w.alloc (.cells #[.int .i64 ge, .slice A gp.length c] 28)).alloc (.cells #[.int .i64 0, .slice none 0 0] 28)) := (((Below.refl _ _).alloc (Nat.le_refl _) _).alloc (by first | (simp; done) | (simp; omega)) _); have hb0 : Blk ((w.alloc (.cells #[.int .i64 ge, .slice A gp.length c] 28)).alloc (.cells #[.int .i64 0, .slice none 0 0] 28)) (w.heap.size) 28 #[.int .i64 ge, .slice A gp.length c] := ((Blk.newAt w _ (by first | rfl | (simp; done) | (simp; omega))).alloc _); have hb1 : Blk ((w.alloc (.cells #[.int .i64 ge, .slice A gp.length c] 28)).alloc (.cells #[.int .i64 0, .slice none 0 0] 28)) (w.heap.size + 1) 28 #[.int .i64 0, .slice none 0 0] := (Blk.newAt (w.alloc (.cells #[.int .i64 ge, .slice A gp.length c] 28)) _ (by first | rfl | (simp; done) | (simp; omega))); replace h0 := h0.now hW; have hsW : w.heap.size + 2 = ((w.alloc (.cells #[.int .i64 ge, .slice A gp.length c] 28)).alloc (.cells #[.int .i64 0, .slice none 0 0] 28)).heap.size := (by first | rfl | (simp; done) | (simp; omega)); generalize ((w.alloc (.cells #[.int .i64 ge, .slice A gp.length c] 28)).alloc (.cells #[.int .i64 0, .slice none 0 0] 28)) = W at *; replace hsW := Lib.hid hsW
  refine (spec_IsEventGraph _ _ _ _ h0).mono ?_
  rintro e w1 ⟨rfl, hB⟩
  replace hW := hW.trans (hB.mono hW.size); replace h0 := h0.now hB; replace hb0 := hb0.now hB; replace hb1 := hb1.now hB
  clear hB
  obtain ⟨k0, k1⟩ := hb0.c2
  obtain ⟨r0, r1⟩ := hb1.c2
  obtain ⟨z0, z1⟩ := hb1.f2
  have l0 := hb0.lt
  have l1 := hb1.lt
  cases hg : okGraph ge gp
  · have hE : Hid (unrollF ge gp nI = (0, [], 1)) := by show _ = _; simp [unrollF, hg]
    clear hg
    go_wp2
    refine bodyPost_ret (v := .tuple #[.agg #[.int .i64 0, .slice none 0 0], .int .i64 1]) (by simp [results, Try.results16, go_sem, r0, r1]) rfl (RetGI.of hE.out ⟨_, rfl, Own.nil, ?_⟩)
    first | exact hW | exact ((hW.setCell (by simp <;> omega) _).setCell (by simp <;> omega) _)
  · obtain ⟨hge1, hge2⟩ := okGraph_ev hg
    have hgl := okGraph_len hg
    have hg' := Lib.hid hg
    clear hg
    cases hi : inB nI 1 10
    · have hE : Hid (unrollF ge gp nI = (0, [], 2)) := by show _ = _; simp [unrollF, hg'.out, hi]
      go_wp2_with (go_at_call 58; refine (spec_l01In _ _ _ _).mono ?_; rintro e w' ⟨rfl, rfl⟩)
      refine bodyPost_ret (v := .tuple #[.agg #[.int .i64 0, .slice none 0 0], .int .i64 2]) (by simp [results, Try.results16, go_sem, r0, r1]) rfl (RetGI.of hE.out ⟨_, rfl, Own.nil, ?_⟩)
      first | exact hW | exact ((hW.setCell (by simp <;> omega) _).setCell (by simp <;> omega) _)
    · obtain ⟨hn1, hn2⟩ := (inB_iff _ _ _).1 hi
      obtain ⟨n, rfl⟩ := Int.eq_ofNat_of_zero_le (show 0 ≤ nI by omega)
      have hE : Hid (unrollF ge gp n = checkedF (n * ge) (unrL ge n gp)) := by show _ = _; simp [unrollF, hg'.out, hi, Int.mul_comm]
      obtain ⟨u1, u2⟩ := mulG (a := n) (b := ge) (m := 10) (n := 10) (by omega) (by omega) (by omega) (by omega) (by omega)
      clear r0 r1 z0 z1
      go_wp2_with (go_at_call 58; refine (spec_l01In _ _ _ _).mono ?_; rintro e w' ⟨rfl, rfl⟩)
      clear hi k0 k1 u1 u2
      go_loopw [7, 8, 9, 10] (fun i _ _ _ wr => ∃ k : Nat, k ≤ gp.length ∧ i = .int .i64 k ∧ (∃ y, Blk wr (w1.heap.size + 1) 28 #[.int .i64 (n * ge), y] ∧ Own Place.cells 4 78 wr w1.heap.size y (unrL ge n (gp.take k))) ∧ Below w1.heap.size w1 wr) (fun i _ _ _ _ => gp.length - (intOf i).toNat)
      case atStart => exact ⟨0, Nat.zero_le _, rfl, ⟨_, Blk.newAt _ _ (by simp), (own_new0 Place.cells 4 w1 78 w1.heap.size (Nat.le_refl _)).alloc _⟩, ((Below.refl _ _).alloc (Nat.le_refl _) _).alloc (by simp) _⟩
      case round =>
        obtain ⟨k, hk, rfl, ⟨y, hbo, hO⟩, hB⟩ := hrel
        have hs := hB.size
        have l0w := (hb0.now hB).lt
        have lo := hbo.lt
        obtain ⟨Y, cy, rfl⟩ := hO.shape
        obtain ⟨k0, k1⟩ := (hb0.now hB).c2
        by_cases hlt : k < gp.length
        · obtain ⟨b, off, hb1', hbb, d0, d1, d2, d3⟩ := places_at (h0.now hB) k hlt
          cases hb1'
          have hp := okGraph_place hg'.out (List.getElem_mem hlt)
          obtain ⟨t, ht⟩ := Int.eq_ofNat_of_zero_le hp.2.2.2.1
          have ht5 : t ≤ 5 := by omega
          rw [ht] at d3
          have ht' := Lib.hid ht
          clear ht
          have hlt3 := Lib.hid hO.lt
          go_wp2
          obtain ⟨wo, rfl⟩ : ∃ wo : World, wo = wr := ⟨_, rfl⟩
          go_loopw [9, 10] (fun i _ w2 => ∃ j : Nat, j ≤ n ∧ i = .int .i64 j ∧ (∃ y, Blk w2 (w1.heap.size + 1) 28 #[.int .i64 (n * ge), y] ∧ Own Place.cells 4 78 w2 w1.heap.size y (unrL ge n (gp.take k) ++ unrJ ge n gp[k] j) ∧ Hid (∀ z, y.ownBlock = some z → z ≠ wo.heap.size)) ∧ Blk w2 wo.heap.size 78 #[.int .i64 gp[k].src, .int .i64 gp[k].dst, .int .i64 gp[k].delay, .int .i64 t] ∧ Below w1.heap.size w1 w2) (fun i _ _ => n - (intOf i).toNat)
          case atStart => exact ⟨0, Nat.zero_le _, rfl, ⟨_, hbo.alloc _, by simpa [unrJ] using hO.alloc _, fun z hz e => absurd (hlt3.out z hz).2 (by omega)⟩, Blk.newAt _ _ rfl, hB.alloc hs _⟩
          case round =>
            clear hbo hO hlt3 k0 k1 d0 d1 d2 d3 hB hs l0w
            obtain ⟨j, hj, rfl, ⟨y2, hbo, hO, hdis⟩, hbp, hB⟩ := hrel
            have hLK : (unrL ge n (gp.take k) ++ unrJ ge n gp[k] j).length = k * n + j := by rw [List.length_append, unrL_len, unrJ_len, List.length_take, Nat.min_eq_left hk]
            obtain ⟨Y, cy, rfl⟩ := own_shape_n hO hLK
            have hLK' := Lib.hid hLK
            clear hLK
            have hsV := hB.size
            have lP := Lib.hid hbp.lt
            have lP2 := hbp.lt
            have lo2 := hbo.lt
            have c0 := ((hb0.now hB).c2).1
            have l0v := (hb0.now hB).lt
            have hlt3 := Lib.hid hO.lt
            by_cases hlt2 : j < n
            · have hpp := okGraph_place hg'.out (List.getElem_mem hlt)
              obtain ⟨sv, hsv⟩ : ∃ sv, (j + t) % n = sv := ⟨_, rfl⟩
              obtain ⟨qv, hqv⟩ : ∃ qv, (j + t) / n = qv := ⟨_, rfl⟩
              have hsvn : sv < n := by rw [← hsv]; exact Nat.mod_lt _ (by omega)
              have hqvn : qv ≤ j + t := by rw [← hqv]; exact Nat.div_le_self _ _
              have hX : Hid (unrP ge n gp[k] j = ⟨j * ge + gp[k].src, sv * ge + gp[k].dst, gp[k].delay, qv⟩) := by
                show _ = _
                unfold unrP
                rw [ht'.out, Int.toNat_natCast, hsv, hqv]
              have hT : Hid ((unrL ge n (gp.take k) ++ unrJ ge n gp[k] j) ++ [⟨j * ge + gp[k].src, sv * ge + gp[k].dst, gp[k].delay, qv⟩] = unrL ge n (gp.take k) ++ unrJ ge n gp[k] (j + 1)) := by show _ = _; rw [unrJ_succ, ← hX.out, List.append_assoc]
              have hkn : k * n + j ≤ 400 := by have := Nat.mul_le_mul (show k ≤ 30 by omega) (show n ≤ 10 by omega); omega
              have hlen : (unrL ge n (gp.take k) ++ unrJ ge n gp[k] j).length + [(⟨j * ge + gp[k].src, sv * ge + gp[k].dst, gp[k].delay, qv⟩ : Place)].length ≤ 1099511627776 := by rw [hLK'.out]; simp; omega
              have hLL2 : Hid (((unrL ge n (gp.take k) ++ unrJ ge n gp[k] j) ++ [(⟨j * ge + gp[k].src, sv * ge + gp[k].dst, gp[k].delay, qv⟩ : Place)]).length = k * n + j + 1) := by show _ = _; rw [List.length_append, hLK'.out]; rfl
              have hr1 : ((j : Int) + (t : Int)) % (n : Int) = (sv : Int) := by rw [← hsv]; simp
              have hq1 : ((j : Int) + (t : Int)) / (n : Int) = (qv : Int) := by rw [← hqv]; simp
              have hq2 : Int.tdiv ((j : Int) + (t : Int)) (n : Int) = (qv : Int) := by rw [Int.tdiv_eq_ediv_of_nonneg (by omega)]; exact hq1
              have hr2 : Int.tmod ((j : Int) + (t : Int)) (n : Int) = (sv : Int) := by rw [Int.tmod_eq_emod_of_nonneg (by omega)]; exact hr1
              obtain ⟨e1, e2⟩ := mulG (a := (j : Int)) (b := ge) (m := 10) (n := 10) (by omega) (by omega) (by omega) (by omega) (by omega)
              obtain ⟨e3, e4⟩ := mulG (a := (sv : Int)) (b := ge) (m := 10) (n := 10) (by omega) (by omega) (by omega) (by omega) (by omega)
              have w1' : IntKind.i64.wrap ((j : Int) * ge) = j * ge := IntWalk.i64_in _ (by omega)
              have w2' : IntKind.i64.wrap ((j : Int) * ge + gp[k].src) = j * ge + gp[k].src := IntWalk.i64_in _ (by omega)
              have w3' : IntKind.i64.wrap ((sv : Int) * ge) = sv * ge := IntWalk.i64_in _ (by omega)
              have w4' : IntKind.i64.wrap ((sv : Int) * ge + gp[k].dst) = sv * ge + gp[k].dst := IntWalk.i64_in _ (by omega)
              have w5' : IntKind.i64.wrap ((j : Int) + (t : Int)) = j + t := IntWalk.i64_in _ (by omega)
              have w6' : IntKind.i64.wrap (qv : Int) = qv := IntWalk.i64_in _ (by omega)
              have hm1 : (n : Int) ≠ 0 := by omega
              have hm2 : ((n : Int) == 0) = false := by simp; omega
              have hm3 : n ≠ 0 := by omega
              have hm5 : (1 : Int) ≤ (n : Int) := by omega
              have hjt : (0 : Int) ≤ (j : Int) + (t : Int) := by omega
              have hgne : wo.heap.size ≠ w1.heap.size + 1 := by omega
              clear hsv hqv
              have hW12 := Lib.hid (And.intro w1' (And.intro w2' (And.intro w3' (And.intro w4' (And.intro w5' w6')))))
              clear w1' w2' w3' w4' w5' w6'
              obtain ⟨p0, p1, p2, p3⟩ := hbp.c4
              go_wp2_with fail
              clear p0 p1 p2 p3
              obtain ⟨w1', w2', w3', w4', w5', w6'⟩ := hW12.out
              have hdV : Below wr.heap.size wr wr.drew := (Below.refl _ _).drew
              have c0' := cell_keep c0 hdV
              replace hB := hB.trans (hdV.mono hB.size); replace hO := hO.now hdV; replace hbo := hbo.now hdV; replace hbp := hbp.now hdV
              obtain ⟨o0, o1⟩ := hbo.c2
              obtain ⟨p0, p1, p2, p3⟩ := hbp.c4
              have qbo := hbo.alloc (.cells #[.int .i64 (j * ge + gp[k].src), .int .i64 (sv * ge + gp[k].dst), .int .i64 gp[k].delay, .int .i64 qv] 78)
              have qpp := hbp.alloc (.cells #[.int .i64 (j * ge + gp[k].src), .int .i64 (sv * ge + gp[k].dst), .int .i64 gp[k].delay, .int .i64 qv] 78)
              have qO := hO.alloc (.cells #[.int .i64 (j * ge + gp[k].src), .int .i64 (sv * ge + gp[k].dst), .int .i64 gp[k].delay, .int .i64 qv] 78)
              have c0a := cell_keep c0' ((Below.refl _ _).alloc (Nat.le_refl _) (.cells #[.int .i64 (j * ge + gp[k].src), .int .i64 (sv * ge + gp[k].dst), .int .i64 gp[k].delay, .int .i64 qv] 78))
              obtain ⟨o0a, o1a⟩ := qbo.c2
              obtain ⟨p0a, p1a, p2a, p3a⟩ := qpp.c4
              have hLst := lst_new1 Place.cells 4 Place.cells_len wr.drew 78 ⟨j * ge + gp[k].src, sv * ge + gp[k].dst, gp[k].delay, qv⟩ _ rfl _ rfl
              refine wp_region_E (fun w' => w'.cell? ⟨w1.heap.size + 1, 1, none⟩ = some (.slice Y (k * n + j) cy) ∧ w'.cell? ⟨w.heap.size, 0, none⟩ = some (.int .i64 ge) ∧ w'.cell? ⟨wo.heap.size, 0, none⟩ = some (.int .i64 gp[k].src) ∧ w'.cell? ⟨wo.heap.size, 1, none⟩ = some (.int .i64 gp[k].dst) ∧ w'.cell? ⟨wo.heap.size, 2, none⟩ = some (.int .i64 gp[k].delay) ∧ w'.cell? ⟨wo.heap.size, 3, none⟩ = some (.int .i64 t)) 27 (by kernel_rfl) ?_
              have hS0 : (fun w' : World => w'.cell? ⟨w1.heap.size + 1, 1, none⟩ = some (.slice Y (k * n + j) cy) ∧ w'.cell? ⟨w.heap.size, 0, none⟩ = some (.int .i64 ge) ∧ w'.cell? ⟨wo.heap.size, 0, none⟩ = some (.int .i64 gp[k].src) ∧ w'.cell? ⟨wo.heap.size, 1, none⟩ = some (.int .i64 gp[k].dst) ∧ w'.cell? ⟨wo.heap.size, 2, none⟩ = some (.int .i64 gp[k].delay) ∧ w'.cell? ⟨wo.heap.size, 3, none⟩ = some (.int .i64 t)) wr.drew := ⟨o1, c0', p0, p1, p2, p3⟩
              refine wpAnyE_take (i := 0) (v := ?_) rfl (by kernel_rfl) (by kernel_rfl) (by kernel_rfl) (by kernel_rfl) (by kernel_rfl) (fun _ _ _ h => h) hS0 (by rfl) ?_ ?_
              rotate_left
              · intro w9 hSw
                try dsimp only at hSw
                obtain ⟨s0, s1, s2, s3, s4, s5⟩ := hSw
                go_simp
                try with_reducible rfl
              try simp only [Act.put, List.setIfInBounds_toArray, List.set_cons_zero, List.set_cons_succ]
              refine wpAnyE_take (i := 1) (v := ?_) rfl (by kernel_rfl) (by kernel_rfl) (by kernel_rfl) (by kernel_rfl) (by kernel_rfl) (fun _ _ _ h => h) hS0 (by rfl) ?_ ?_
              rotate_left
              · intro w9 hSw
                try dsimp only at hSw
                obtain ⟨s0, s1, s2, s3, s4, s5⟩ := hSw
                go_simp
                try with_reducible rfl
              try simp only [Act.put, List.setIfInBounds_toArray, List.set_cons_zero, List.set_cons_succ]
              refine wpAnyE_take (i := 2) (v := ?_) rfl (by kernel_rfl) (by kernel_rfl) (by kernel_rfl) (by kernel_rfl) (by kernel_rfl) (fun _ _ _ h => h) hS0 (by rfl) ?_ ?_
              rotate_left
              · intro w9 hSw
                try dsimp only at hSw
                obtain ⟨s0, s1, s2, s3, s4, s5⟩ := hSw
                go_simp
                try with_reducible rfl
              try simp only [Act.put, List.setIfInBounds_toArray, List.set_cons_zero, List.set_cons_succ]
              refine wpAnyE_take (i := 3) (v := ?_) rfl (by kernel_rfl) (by kernel_rfl) (by kernel_rfl) (by kernel_rfl) (by kernel_rfl) (fun _ _ _ h => h) hS0 (by rfl) ?_ ?_
              rotate_left
              · intro w9 hSw
                try dsimp only at hSw
                obtain ⟨s0, s1, s2, s3, s4, s5⟩ := hSw
                go_simp
                try with_reducible rfl
              try simp only [Act.put, List.setIfInBounds_toArray, List.set_cons_zero, List.set_cons_succ]
              refine wpAnyE_take (i := 4) (v := ?_) rfl (by kernel_rfl) (by kernel_rfl) (by kernel_rfl) (by kernel_rfl) (by kernel_rfl) (fun _ _ _ h => h) hS0 (by rfl) ?_ ?_
              rotate_left
              · intro w9 hSw
                try dsimp only at hSw
                obtain ⟨s0, s1, s2, s3, s4, s5⟩ := hSw
                go_simp
                try with_reducible rfl
              try simp only [Act.put, List.setIfInBounds_toArray, List.set_cons_zero, List.set_cons_succ]
              refine wpAnyE_take (i := 5) (v := ?_) rfl (by kernel_rfl) (by kernel_rfl) (by kernel_rfl) (by kernel_rfl) (by kernel_rfl) (fun _ _ _ h => h) hS0 (by rfl) ?_ ?_
              rotate_left
              · intro w9 hSw
                try dsimp only at hSw
                obtain ⟨s0, s1, s2, s3, s4, s5⟩ := hSw
                go_simp
                try with_reducible rfl
              try simp only [Act.put, List.setIfInBounds_toArray, List.set_cons_zero, List.set_cons_succ]
              refine wpAnyE_take (i := 6) (v := ?_) rfl (by kernel_rfl) (by kernel_rfl) (by kernel_rfl) (by kernel_rfl) (by kernel_rfl) (fun _ _ _ h => h) hS0 (by rfl) ?_ ?_
              rotate_left
              · intro w9 hSw
                try dsimp only at hSw
                obtain ⟨s0, s1, s2, s3, s4, s5⟩ := hSw
                go_simp
                try with_reducible rfl
              try simp only [Act.put, List.setIfInBounds_toArray, List.set_cons_zero, List.set_cons_succ]
              refine wpAnyE_take (i := 7) (v := ?_) rfl (by kernel_rfl) (by kernel_rfl) (by kernel_rfl) (by kernel_rfl) (by kernel_rfl) (fun _ _ _ h => h) hS0 (by rfl) ?_ ?_
              rotate_left
              · intro w9 hSw
                try dsimp only at hSw
                obtain ⟨s0, s1, s2, s3, s4, s5⟩ := hSw
                go_simp
                try with_reducible rfl
              try simp only [Act.put, List.setIfInBounds_toArray, List.set_cons_zero, List.set_cons_succ]
              refine wpAnyE_take (i := 8) (v := ?_) rfl (by kernel_rfl) (by kernel_rfl) (by kernel_rfl) (by kernel_rfl) (by kernel_rfl) (fun _ _ _ h => h) hS0 (by rfl) ?_ ?_
              rotate_left
              · intro w9 hSw
                try dsimp only at hSw
                obtain ⟨s0, s1, s2, s3, s4, s5⟩ := hSw
                go_simp
                try with_reducible rfl
              try simp only [Act.put, List.setIfInBounds_toArray, List.set_cons_zero, List.set_cons_succ]
              refine wpAnyE_take (i := 9) (v := ?_) rfl (by kernel_rfl) (by kernel_rfl) (by kernel_rfl) (by kernel_rfl) (by kernel_rfl) (fun _ _ _ h => h) hS0 (by rfl) ?_ ?_
              rotate_left
              · intro w9 hSw
                try dsimp only at hSw
                obtain ⟨s0, s1, s2, s3, s4, s5⟩ := hSw
                go_simp
                try with_reducible rfl
              try simp only [Act.put, List.setIfInBounds_toArray, List.set_cons_zero, List.set_cons_succ]
              refine wpAnyE_take (i := 10) (v := ?_) rfl (by kernel_rfl) (by kernel_rfl) (by kernel_rfl) (by kernel_rfl) (by kernel_rfl) (fun _ _ _ h => h) hS0 (by rfl) ?_ ?_
              rotate_left
              · intro w9 hSw
                try dsimp only at hSw
                obtain ⟨s0, s1, s2, s3, s4, s5⟩ := hSw
                go_simp
                try with_reducible rfl
              try simp only [Act.put, List.setIfInBounds_toArray, List.set_cons_zero, List.set_cons_succ]
              refine wpAnyE_take (i := 11) (v := ?_) rfl (by kernel_rfl) (by kernel_rfl) (by kernel_rfl) (by kernel_rfl) (by kernel_rfl) (fun _ _ _ h => h) hS0 (by rfl) ?_ ?_
              rotate_left
              · intro w9 hSw
                try dsimp only at hSw
                obtain ⟨s0, s1, s2, s3, s4, s5⟩ := hSw
                go_simp
                try with_reducible rfl
              try simp only [Act.put, List.setIfInBounds_toArray, List.set_cons_zero, List.set_cons_succ]
              refine wpAnyE_take (i := 12) (v := ?_) rfl (by kernel_rfl) (by kernel_rfl) (by kernel_rfl) (by kernel_rfl) (by kernel_rfl) (fun _ _ _ h => h) hS0 (by rfl) ?_ ?_
              rotate_left
              · intro w9 hSw
                try dsimp only at hSw
                obtain ⟨s0, s1, s2, s3, s4, s5⟩ := hSw
                go_simp
                try with_reducible rfl
              try simp only [Act.put, List.setIfInBounds_toArray, List.set_cons_zero, List.set_cons_succ]
              refine wpAnyE_take (i := 13) (v := ?_) rfl (by kernel_rfl) (by kernel_rfl) (by kernel_rfl) (by kernel_rfl) (by kernel_rfl) (fun _ _ _ h => h) hS0 (by rfl) ?_ ?_
              rotate_left
              · intro w9 hSw
                try dsimp only at hSw
                obtain ⟨s0, s1, s2, s3, s4, s5⟩ := hSw
                go_simp
                try with_reducible rfl
              try simp only [Act.put, List.setIfInBounds_toArray, List.set_cons_zero, List.set_cons_succ]
              refine wpAnyE_take (i := 14) (v := ?_) rfl (by kernel_rfl) (by kernel_rfl) (by kernel_rfl) (by kernel_rfl) (by kernel_rfl) (fun _ _ _ h => h) hS0 (by rfl) ?_ ?_
              rotate_left
              · intro w9 hSw
                try dsimp only at hSw
                obtain ⟨s0, s1, s2, s3, s4, s5⟩ := hSw
                go_simp
                try with_reducible rfl
              try simp only [Act.put, List.setIfInBounds_toArray, List.set_cons_zero, List.set_cons_succ]
              refine wpAnyE_take (i := 15) (v := ?_) rfl (by kernel_rfl) (by kernel_rfl) (by kernel_rfl) (by kernel_rfl) (by kernel_rfl) (fun _ _ _ h => h) hS0 (by rfl) ?_ ?_
              rotate_left
              · intro w9 hSw
                try dsimp only at hSw
                obtain ⟨s0, s1, s2, s3, s4, s5⟩ := hSw
                go_simp
                try with_reducible rfl
              try simp only [Act.put, List.setIfInBounds_toArray, List.set_cons_zero, List.set_cons_succ]
              refine wpAnyE_take (i := 16) (v := ?_) rfl (by kernel_rfl) (by kernel_rfl) (by kernel_rfl) (by kernel_rfl) (by kernel_rfl) (fun _ _ _ h => h) hS0 (by rfl) ?_ ?_
              rotate_left
              · intro w9 hSw
                try dsimp only at hSw
                obtain ⟨s0, s1, s2, s3, s4, s5⟩ := hSw
                go_simp
                try with_reducible rfl
              try simp only [Act.put, List.setIfInBounds_toArray, List.set_cons_zero, List.set_cons_succ]
              refine wpAnyE_take (i := 17) (v := ?_) rfl (by kernel_rfl) (by kernel_rfl) (by kernel_rfl) (by kernel_rfl) (by kernel_rfl) (fun _ _ _ h => h) hS0 (by rfl) ?_ ?_
              rotate_left
              · intro w9 hSw
                try dsimp only at hSw
                obtain ⟨s0, s1, s2, s3, s4, s5⟩ := hSw
                go_simp
                try with_reducible rfl
              try simp only [Act.put, List.setIfInBounds_toArray, List.set_cons_zero, List.set_cons_succ]
              refine wpAnyE_take (i := 18) (v := ?_) rfl (by kernel_rfl) (by kernel_rfl) (by kernel_rfl) (by kernel_rfl) (by kernel_rfl) (fun _ _ _ h => h) hS0 (by rfl) ?_ ?_
              rotate_left
              · intro w9 hSw
                try dsimp only at hSw
                obtain ⟨s0, s1, s2, s3, s4, s5⟩ := hSw
                go_simp
                try with_reducible rfl
              try simp only [Act.put, List.setIfInBounds_toArray, List.set_cons_zero, List.set_cons_succ]
              refine wpAnyE_take (i := 19) (v := ?_) rfl (by kernel_rfl) (by kernel_rfl) (by kernel_rfl) (by kernel_rfl) (by kernel_rfl) (fun _ _ _ h => h) hS0 (by rfl) ?_ ?_
              rotate_left
              · intro w9 hSw
                try dsimp only at hSw
                obtain ⟨s0, s1, s2, s3, s4, s5⟩ := hSw
                go_simp
                try with_reducible rfl
              try simp only [Act.put, List.setIfInBounds_toArray, List.set_cons_zero, List.set_cons_succ]
              refine wpAnyE_take (i := 20) (v := ?_) rfl (by kernel_rfl) (by kernel_rfl) (by kernel_rfl) (by kernel_rfl) (by kernel_rfl) (fun _ _ _ h => h) hS0 (by rfl) ?_ ?_
              rotate_left
              · intro w9 hSw
                try dsimp only at hSw
                obtain ⟨s0, s1, s2, s3, s4, s5⟩ := hSw
                go_simp
                try with_reducible rfl
              try simp only [Act.put, List.setIfInBounds_toArray, List.set_cons_zero, List.set_cons_succ]
              refine wpAnyE_take (i := 21) (v := ?_) rfl (by kernel_rfl) (by kernel_rfl) (by kernel_rfl) (by kernel_rfl) (by kernel_rfl) (fun _ _ _ h => h) hS0 (by rfl) ?_ ?_
              rotate_left
              · intro w9 hSw
                try dsimp only at hSw
                obtain ⟨s0, s1, s2, s3, s4, s5⟩ := hSw
                go_simp
                try with_reducible rfl
              try simp only [Act.put, List.setIfInBounds_toArray, List.set_cons_zero, List.set_cons_succ]
              refine wpAnyE_take (i := 22) (v := ?_) rfl (by kernel_rfl) (by kernel_rfl) (by kernel_rfl) (by kernel_rfl) (by kernel_rfl) (fun _ _ _ h => h) hS0 (by rfl) ?_ ?_
              rotate_left
              · intro w9 hSw
                try dsimp only at hSw
                obtain ⟨s0, s1, s2, s3, s4, s5⟩ := hSw
                go_simp
                try with_reducible rfl
              try simp only [Act.put, List.setIfInBounds_toArray, List.set_cons_zero, List.set_cons_succ]
              refine wpAnyE_take (i := 23) (v := ?_) rfl (by kernel_rfl) (by kernel_rfl) (by kernel_rfl) (by kernel_rfl) (by kernel_rfl) (fun _ _ _ h => h) hS0 (by rfl) ?_ ?_
              rotate_left
              · intro w9 hSw
                try dsimp only at hSw
                obtain ⟨s0, s1, s2, s3, s4, s5⟩ := hSw
                go_simp
                try with_reducible rfl
              try simp only [Act.put, List.setIfInBounds_toArray, List.set_cons_zero, List.set_cons_succ]
              refine wpAnyE_one (i := 24) rfl (by kernel_rfl) (fun K hK => ?_)
              go_simp
              refine hK.out _ _ (fun _ => ⟨o1a, c0a, p0a, p1a, p2a, p3a⟩) ?_
              clear hK K
              try simp only [Act.put, List.setIfInBounds_toArray, List.set_cons_zero, List.set_cons_succ]
              refine wpAnyE_one (i := 25) rfl (by kernel_rfl) (fun K hK => ?_)
              refine step_append_lst rfl _ _ 26 rfl Place.cells 4 Place.cells_one (by omega) w1.heap.size 78 _ 32 Try.underlying26 info_place rfl (.slice Y (k * n + j) cy) (unrL ge n (gp.take k) ++ unrJ ge n gp[k] j) rfl qO _ _ _ _ [⟨j * ge + gp[k].src, sv * ge + gp[k].dst, gp[k].delay, qv⟩] rfl hLst hlen (by omega) (Nat.le_trans hsV (by simp)) ?_
              intro v1 wz hO1 hG hD
              obtain ⟨V1, cv1, rfl⟩ := own_shape_n hO1 hLL2.out
              have hbo' := qbo.grown hG (Ne.symm (qO.ne_blk qbo (by decide)))
              obtain ⟨o0b, o1b⟩ := hbo'.c2
              obtain ⟨z0b, z1b⟩ := hbo'.f2
              have hpp' := qpp.grown hG (fun hk => hdis.out _ hk.symm rfl)
              obtain ⟨p0b, p1b, p2b, p3b⟩ := hpp'.c4
              have c0b := cell_kept c0a hG (fun hk => by have q1 := (hlt3.out _ hk).1; have q2 := l0; simp only at q1 q2; omega)
              refine hK.out _ _ (fun _ => ⟨o1b, c0b, p0b, p1b, p2b, p3b⟩) ?_
              clear hK K
              try simp only [Act.put, List.setIfInBounds_toArray, List.set_cons_zero, List.set_cons_succ]
              refine wpAnyE_one (i := 26) rfl (by kernel_rfl) (fun K hK => ?_)
              go_simp
              refine hK.out _ _ (fun _ => ⟨o1b, c0b, p0b, p1b, p2b, p3b⟩) ?_
              clear hK K
              try simp only [Act.put, List.setIfInBounds_toArray, List.set_cons_zero, List.set_cons_succ]
              refine wpAnyE_one (i := 27) rfl (by kernel_rfl) (fun K hK => ?_)
              go_simp
              refine hK.out _ _ (fun h => absurd rfl h) ?_
              clear hK K
              try simp only [Act.put, List.setIfInBounds_toArray, List.set_cons_zero, List.set_cons_succ]
              refine wpAnyE_done (by kernel_rfl) ?_
              have hdis' : Hid (∀ z, (Value.slice V1 (k * n + j + 1) cv1).ownBlock = some z → z ≠ wo.heap.size) := by
                intro z hz e
                rcases hD with h | h
                · rw [h] at hz; exact hdis.out z hz e
                · rw [h] at hz
                  injection hz with hz
                  have := lP.out
                  simp at hz
                  omega
              clear p0b p1b p2b p3b c0b o0a o1a p0a p1a p2a p3a c0a p0 p1 p2 p3 c0' o0 o1 hS0
              go_wp2
              go_roundw
              case rel => exact ⟨j + 1, hlt2, by go_num, ⟨_, hbo'.set2b, by rw [← hT.out]; exact own_far hO1 (p := ⟨w1.heap.size + 1, 1, none⟩) (hO1.ne_blk hbo' (by decide)) _, hdis'⟩, hpp'.far (p := ⟨w1.heap.size + 1, 1, none⟩) hgne _, (below_app (hB.alloc hsV _) (Nat.le_trans hsV (by simp)) hG qO (Nat.le_refl _)).setCell (show w1.heap.size ≤ w1.heap.size + 1 by omega) _⟩
              case measure => simp [intOf]; omega
            · obtain rfl : j = n := by omega
              go_wp2
              go_roundw
              case rel => exact ⟨k + 1, hlt, by go_num, ⟨_, hbo, by rw [unrL_succ ge j gp k hlt]; exact hO⟩, hB⟩
              case measure => simp [intOf]; omega
        · obtain rfl : k = gp.length := by omega
          rw [List.take_length] at hO
          obtain ⟨o0, o1⟩ := hbo.c2
          go_wp2_with fail
          refine (spec_l19Result _ _ _ w1.heap.size _ hO).mono ?_
          rintro e w4 ⟨z, rfl, hO5, hB5⟩
          obtain ⟨Z, cz, rfl⟩ := hO5.shape
          have hb1' := (hb1.now hB).now hB5
          generalize checkedF (n * ge) (unrL ge n gp) = T at *
          obtain ⟨r0, r1⟩ := hb1'.c2
          obtain ⟨z0, z1⟩ := hb1'.f2
          have hBt := hW.trans ((hB.trans (hB5.mono hs)).mono hW.size)
          go_wp2
          refine bodyPost_ret (v := .tuple #[.agg #[.int .i64 T.1, .slice Z T.2.1.length cz], .int .i64 T.2.2]) (by simp [results, Try.results16, go_sem, r0, r1]) rfl (by rw [hE.out]; exact ⟨_, rfl, ((hO5.far (p := ⟨w.heap.size + 1, 0, none⟩) l1 _).far (p := ⟨w.heap.size + 1, 1, none⟩) l1 _).rebase hW.size, (hBt.setCell (by simp <;> omega) _).setCell (by simp <;> omega) _⟩)
end Go.Proofs.Ytobbidlbihnodaa
