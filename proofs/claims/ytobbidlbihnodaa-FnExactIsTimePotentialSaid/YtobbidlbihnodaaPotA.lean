/-
  The walks of IsTimePotential, the program's and the reference's.
-/
import Derived.Test.YtobbidlbihnodaaPot
namespace Go.Proofs.Ytobbidlbihnodaa
open Go.RowKit
set_option linter.unusedVariables false
set_option linter.unusedSimpArgs false

def xAt (x : List Int) (i : Int) : Int := x.getD i.toNat 0
theorem xAt_nat (x : List Int) (q : Nat) (h : q < x.length) : xAt x q = x[q] := by simp [xAt, List.getD, List.getElem?_eq_getElem h]
/-- The weight of a place for the ratio a / b. -/
def wgt (a b : Int) (p : Place) : Int := b * p.delay - a * p.tokens
theorem wgt_le {a b : Int} {p : Place} (ha : -1000000 ≤ a ∧ a ≤ 1000000) (hb : 1 ≤ b ∧ b ≤ 1000000) (hd : 0 ≤ p.delay ∧ p.delay ≤ 1000) (ht : 0 ≤ p.tokens ∧ p.tokens ≤ 5) :
    (0 ≤ b * p.delay ∧ b * p.delay ≤ 1000000000) ∧ (-5000000 ≤ a * p.tokens ∧ a * p.tokens ≤ 5000000) := by
  refine ⟨⟨Int.mul_nonneg (by omega) hd.1, Int.le_trans (Int.mul_le_mul hb.2 hd.2 hd.1 (by omega)) (by omega)⟩, ?_⟩
  have h : p.tokens = 0 ∨ p.tokens = 1 ∨ p.tokens = 2 ∨ p.tokens = 3 ∨ p.tokens = 4 ∨ p.tokens = 5 := by omega
  rcases h with h | h | h | h | h | h <;> rw [h] <;> omega
/-- The place keeps the potential's bound. -/
def keeps (a b : Int) (x : List Int) (p : Place) : Bool := !decide (xAt x p.dst < xAt x p.src + wgt a b p)
def isPot (ge : Int) (gp : List Place) (a b : Int) (x : List Int) : Bool :=
  okGraph ge gp && ratioOk a b && decide ((x.length : Int) = ge) && allB x (-1000000) 1000000 && gp.all (keeps a b x)
theorem allB_mem {m : List Int} {lo hi : Int} (h : allB m lo hi = true) (k : Nat) (hk : k < m.length) : lo ≤ m[k] ∧ m[k] ≤ hi := by
  unfold allB at h
  rw [List.all_eq_true] at h
  have := h _ (List.getElem_mem hk)
  simpa [inB] using this
set_option maxHeartbeats 400000 in
set_option maxRecDepth 100000 in
theorem impl_placeWeight (p : Place) (a b : Int) (w : World) (ha : -1000000 ≤ a ∧ a ≤ 1000000) (hb : 1 ≤ b ∧ b ≤ 1000000) (hd : 0 ≤ p.delay ∧ p.delay ≤ 1000) (ht : 0 ≤ p.tokens ∧ p.tokens ≤ 5) :
    Calls Try.prog 73 #[.agg #[.int .i64 p.src, .int .i64 p.dst, .int .i64 p.delay, .int .i64 p.tokens], .agg #[.int .i64 a, .int .i64 b]] w fun e w' => e = .returned (.int .i64 (wgt a b p)) ∧ Below w.heap.size w w' := by
  obtain ⟨⟨p1, p2⟩, q1, q2⟩ := wgt_le ha hb hd ht
  have hE : Hid (wgt a b p = b * p.delay - a * p.tokens) := rfl
  go_enter Try.func73, Try.ntmps73
  go_wp2
  go_ret
  exact ⟨ret_int hE.out.symm, (by repeat (first | exact Below.refl _ _ | assumption | refine Below.drew ?_ | refine Below.alloc ?_ (by simp <;> omega) _ | refine Below.setCell ?_ (by simp <;> omega) _))⟩

set_option maxHeartbeats 400000 in
set_option maxRecDepth 100000 in
theorem g3_index (c1 : Value) (c2 : Value) (v : Value) (l : List Place) (F : Place → Bool) (w : World) (h0 : Lst Place.cells 4 w w.heap.size v l)
    (hclo : ∀ (p : Place), p ∈ l → ∀ (W : World), Below w.heap.size w W → Calls Try.prog 72 #[.agg #[.int .i64 p.src, .int .i64 p.dst, .int .i64 p.delay, .int .i64 p.tokens], c1, c2] W fun e W' => e = .returned (.bool (F p)) ∧ Below W.heap.size W W') :
    Calls Try.prog 119 #[v, .func (.func 72) #[] #[c1, c2]] w fun e w' => e = .returned (.int .i64 (idxP F l)) ∧ Below w.heap.size w w' := by
  obtain ⟨A, c, rfl⟩ := h0.shape
  have hl := h0.len_le
  have hC := Lib.hid hclo
  clear hclo
  go_enter Try.func119, Try.ntmps119
  go_wp2
  go_loopw [5, 8] (fun _ i wr => ∃ k : Nat, k ≤ l.length ∧ i = .int .i64 k ∧ Hid (∀ j (hj : j < k) (hl : j < l.length), F l[j] = false) ∧ Below w.heap.size w wr) (fun _ i _ => l.length - (intOf i).toNat)
  case atStart => exact ⟨0, Nat.zero_le _, rfl, fun j hj => absurd hj (by omega), Below.refl _ _⟩
  case round =>
    obtain ⟨k, hk, rfl, hN, hB⟩ := hrel
    by_cases hlt : k < l.length
    · obtain ⟨b, off, rfl, hb, d0, d1, d2, d3⟩ := places_at h0 k hlt
      obtain ⟨hc, hf⟩ := bcell hB
      cases heq : F l[k]
      · have hN' : Hid (∀ j (hj : j < k + 1) (hl : j < l.length), F l[j] = false) := by
          intro j hj hl2
          rcases Nat.lt_or_ge j k with h | h
          · exact hN.out j h hl2
          · obtain rfl : j = k := by omega
            exact heq
        go_wp2_with (go_at_call 72; refine (hC.out l[k] (List.getElem_mem hlt) _ hB).mono ?_; rintro e w1 ⟨rfl, hb1⟩)
        go_roundw
        case rel => exact ⟨k + 1, hlt, by go_num, hN', hB.trans (hb1.mono hB.size)⟩
        case measure => simp [intOf]; omega
      · have hF : Hid (idxP F l = k) := idxP_hit F l k hlt (fun j hj => hN.out j hj (by omega)) heq
        go_wp2_with (go_at_call 72; refine (hC.out l[k] (List.getElem_mem hlt) _ hB).mono ?_; rintro e w1 ⟨rfl, hb1⟩)
        go_ret
        exact ⟨ret_int hF.out.symm, hB.trans (hb1.mono hB.size)⟩
    · obtain rfl : k = l.length := by omega
      have hF : Hid (idxP F l = -1) := idxP_miss F l fun j hj => hN.out j hj hj
      go_wp2
      go_ret
      exact ⟨ret_int hF.out.symm, hB⟩

set_option maxHeartbeats 400000 in
set_option maxRecDepth 100000 in
theorem g3_contains (c1 : Value) (c2 : Value) (v : Value) (l : List Place) (F : Place → Bool) (w : World) (h0 : Lst Place.cells 4 w w.heap.size v l)
    (hclo : ∀ (p : Place), p ∈ l → ∀ (W : World), Below w.heap.size w W → Calls Try.prog 72 #[.agg #[.int .i64 p.src, .int .i64 p.dst, .int .i64 p.delay, .int .i64 p.tokens], c1, c2] W fun e W' => e = .returned (.bool (F p)) ∧ Below W.heap.size W W') :
    Calls Try.prog 71 #[v, .func (.func 72) #[] #[c1, c2]] w fun e w' => e = .returned (.bool (l.any F)) ∧ Below w.heap.size w w' := by
  have hC := Lib.hid hclo
  clear hclo
  go_enter Try.func71, Try.ntmps71
  go_wp2_with (go_at_call 119; refine (g3_index _ _ _ _ F _ h0 hC.out).mono ?_; rintro e w1 ⟨rfl, hb1⟩)
  go_ret
  exact ⟨ret_bool (idxP_any F l), hb1⟩
set_option maxHeartbeats 2000000 in
set_option maxRecDepth 100000 in
theorem impl_IsTimePotential_1 (p : Place) (ge a b : Int) (C : Option Addr) (x : List Int) (d : Nat) (gx gr : Nat) (w : World) (hx : Blk w gx 37 #[.slice C x.length d]) (hr : Blk w gr 39 #[.int .i64 a, .int .i64 b]) (h1 : Lst intCell 1 w w.heap.size (.slice C x.length d) x)
    (hp : (0 ≤ p.src ∧ p.src < ge) ∧ (0 ≤ p.dst ∧ p.dst < ge) ∧ (0 ≤ p.delay ∧ p.delay ≤ 1000) ∧ (0 ≤ p.tokens ∧ p.tokens ≤ 5)) (hlen : Hid ((x.length : Int) = ge)) (hall : Hid (allB x (-1000000) 1000000 = true)) (ha : -1000000 ≤ a ∧ a ≤ 1000000) (hb : 1 ≤ b ∧ b ≤ 1000000) :
    Calls Try.prog 72 #[.agg #[.int .i64 p.src, .int .i64 p.dst, .int .i64 p.delay, .int .i64 p.tokens], .pointer (some ⟨gx, 0, none⟩), .pointer (some ⟨gr, 0, none⟩)] w fun e w' => e = .returned (.bool (!keeps a b x p)) ∧ Below w.heap.size w w' := by
  obtain ⟨ps, pd, pdl, pt⟩ := p
  simp only at hp
  have hlen' := hlen.out
  obtain ⟨s, rfl⟩ := Int.eq_ofNat_of_zero_le hp.1.1
  obtain ⟨t, rfl⟩ := Int.eq_ofNat_of_zero_le hp.2.1.1
  have hs : s < x.length := by omega
  have ht : t < x.length := by omega
  clear hlen'
  obtain ⟨b2, off2, hb2, hbb2, e0⟩ := ints_at h1 s hs
  cases hb2
  obtain ⟨_, _, hb2, hbb3, f0⟩ := ints_at h1 t ht
  cases hb2
  have hxs := allB_mem hall.out s hs
  have hxt := allB_mem hall.out t ht
  obtain ⟨⟨m1, m2⟩, n1, n2⟩ := wgt_le (p := ⟨s, t, pdl, pt⟩) ha hb hp.2.2.1 hp.2.2.2
  simp only at m1 m2 n1 n2
  have hE : Hid ((!keeps a b x ⟨s, t, pdl, pt⟩) = decide (x[t] < x[s] + wgt a b ⟨s, t, pdl, pt⟩)) := by show _ = _; simp only [keeps, Bool.not_not, xAt_nat x s hs, xAt_nat x t ht]
  have hwv : wgt a b ⟨s, t, pdl, pt⟩ = b * pdl - a * pt := rfl
  have hwb : -2000000000 ≤ wgt a b ⟨s, t, pdl, pt⟩ ∧ wgt a b ⟨s, t, pdl, pt⟩ ≤ 2000000000 := by rw [hwv]; omega
  have hcall := Lib.hid (fun W => impl_placeWeight ⟨s, t, pdl, pt⟩ a b W ha hb hp.2.2.1 hp.2.2.2)
  generalize wgt a b ⟨s, t, pdl, pt⟩ = q at *
  clear hwv m1 m2 n1 n2
  obtain ⟨hwb1, hwb2⟩ := hwb
  have hsm : IntKind.i64.wrap (x[s] + q) = x[s] + q := IntWalk.i64_in _ (by omega)
  have x0 : w.cell? ⟨gx, 0, none⟩ = some (.slice (some ⟨b2, off2, none⟩) x.length d) := by simpa using hx.cell 0
  obtain ⟨r0, r1⟩ := hr.c2
  have lx := hx.lt
  have lr := hr.lt
  have i1 : (0 : Int) ≤ (s : Int) := by omega
  have i2 : (s : Int) < (x.length : Int) := by omega
  have i3 : (0 : Int) ≤ (t : Int) := by omega
  have i4 : (t : Int) < (x.length : Int) := by omega
  go_enter Try.func72, Try.ntmps72
  go_wp2_with fail
  have hN : Below w.heap.size w (w.alloc (.cells #[.int .i64 s, .int .i64 t, .int .i64 pdl, .int .i64 pt] 78)) := (Below.refl _ _).alloc (Nat.le_refl _) _
  have hbp : Blk (w.alloc (.cells #[.int .i64 s, .int .i64 t, .int .i64 pdl, .int .i64 pt] 78)) w.heap.size 78 #[.int .i64 s, .int .i64 t, .int .i64 pdl, .int .i64 pt] := Blk.new _ _ _
  replace e0 := cell_keep e0 hN
  replace f0 := cell_keep f0 hN
  replace x0 := cell_keep x0 hN
  replace r0 := cell_keep r0 hN
  replace r1 := cell_keep r1 hN
  generalize (w.alloc (.cells #[.int .i64 s, .int .i64 t, .int .i64 pdl, .int .i64 pt] 78)) = V at *
  obtain ⟨p0, p1, p2, p3⟩ := hbp.c4
  go_region_held3 (fun w' => w'.cell? ⟨gx, 0, none⟩ = some (.slice (some ⟨b2, off2, none⟩) x.length d) ∧ w'.cell? ⟨w.heap.size, 0, none⟩ = some (.int .i64 s) ∧ w'.cell? ⟨w.heap.size, 1, none⟩ = some (.int .i64 t) ∧ w'.cell? ⟨w.heap.size, 2, none⟩ = some (.int .i64 pdl) ∧ w'.cell? ⟨w.heap.size, 3, none⟩ = some (.int .i64 pt) ∧ w'.cell? ⟨b2, off2 + s, none⟩ = some (.int .i64 x[s]) ∧ w'.cell? ⟨b2, off2 + t, none⟩ = some (.int .i64 x[t]) ∧ w'.cell? ⟨gr, 0, none⟩ = some (.int .i64 a) ∧ w'.cell? ⟨gr, 1, none⟩ = some (.int .i64 b)) (first | exact ⟨x0, p0, p1, p2, p3, e0, f0, r0, r1⟩ | exact ⟨cell_keep (w := V.drew) x0 hB2, cell_keep (w := V.drew) p0 hB2, cell_keep (w := V.drew) p1 hB2, cell_keep (w := V.drew) p2 hB2, cell_keep (w := V.drew) p3 hB2, cell_keep (w := V.drew) e0 hB2, cell_keep (w := V.drew) f0 hB2, cell_keep (w := V.drew) r0 hB2, cell_keep (w := V.drew) r1 hB2⟩ | go_keep) (first | (go_at_call 73; refine (hcall.out _).mono ?_; rintro e w2 ⟨rfl, hB2⟩))
  go_wp2
  go_ret
  exact ⟨ret_bool hE.out.symm, hN.trans (((Below.refl _ V).drew.trans (Below.mono (w := V.drew) hB2 (Nat.le_refl _))).mono hN.size)⟩
set_option maxHeartbeats 2000000 in
set_option maxRecDepth 100000 in
theorem impl_IsTimePotential (v : Value) (ge : Int) (gp : List Place) (a b : Int) (u : Value) (x : List Int) (w : World) (h0 : Lst Place.cells 4 w w.heap.size v gp) (h1 : Lst intCell 1 w w.heap.size u x) :
    Calls Try.prog 25 #[.agg #[.int .i64 ge, v], .agg #[.int .i64 a, .int .i64 b], u] w fun e w' => e = .returned (.bool (isPot ge gp a b x)) ∧ Below w.heap.size w w' := by
  obtain ⟨A, c, rfl⟩ := h0.shape
  obtain ⟨C, d, rfl⟩ := h1.shape
  have hxl := h1.len_le
  go_enter Try.func25, Try.ntmps25
  go_wp2_with fail
  have hW : Below w.heap.size w (((w.alloc (.cells #[.int .i64 ge, .slice A gp.length c] 28)).alloc (.cells #[.int .i64 a, .int .i64 b] 39)).alloc (.cells #[.slice C x.length d] 37)) := ((((Below.refl _ _).alloc (Nat.le_refl _) _).alloc (by first | (simp; done) | (simp; omega)) _).alloc (by first | (simp; done) | (simp; omega)) _); have hb0 : Blk (((w.alloc (.cells #[.int .i64 ge, .slice A gp.length c] 28)).alloc (.cells #[.int .i64 a, .int .i64 b] 39)).alloc (.cells #[.slice C x.length d] 37)) (w.heap.size) 28 #[.int .i64 ge, .slice A gp.length c] := (((Blk.newAt w _ (by first | rfl | (simp; done) | (simp; omega))).alloc _).alloc _); have hb1 : Blk (((w.alloc (.cells #[.int .i64 ge, .slice A gp.length c] 28)).alloc (.cells #[.int .i64 a, .int .i64 b] 39)).alloc (.cells #[.slice C x.length d] 37)) (w.heap.size + 1) 39 #[.int .i64 a, .int .i64 b] := ((Blk.newAt (w.alloc (.cells #[.int .i64 ge, .slice A gp.length c] 28)) _ (by first | rfl | (simp; done) | (simp; omega))).alloc _); have hb2 : Blk (((w.alloc (.cells #[.int .i64 ge, .slice A gp.length c] 28)).alloc (.cells #[.int .i64 a, .int .i64 b] 39)).alloc (.cells #[.slice C x.length d] 37)) (w.heap.size + 1 + 1) 37 #[.slice C x.length d] := (Blk.newAt ((w.alloc (.cells #[.int .i64 ge, .slice A gp.length c] 28)).alloc (.cells #[.int .i64 a, .int .i64 b] 39)) _ (by first | rfl | (simp; done) | (simp; omega))); replace h0 := h0.now hW; replace h1 := h1.now hW; have hsW : w.heap.size + 3 = (((w.alloc (.cells #[.int .i64 ge, .slice A gp.length c] 28)).alloc (.cells #[.int .i64 a, .int .i64 b] 39)).alloc (.cells #[.slice C x.length d] 37)).heap.size := (by first | rfl | (simp; done) | (simp; omega)); generalize (((w.alloc (.cells #[.int .i64 ge, .slice A gp.length c] 28)).alloc (.cells #[.int .i64 a, .int .i64 b] 39)).alloc (.cells #[.slice C x.length d] 37)) = W at *; replace hsW := Lib.hid hsW
  refine (impl_IsEventGraph _ _ _ _ h0).mono ?_
  rintro e w1 ⟨rfl, hB⟩
  replace hW := hW.trans (hB.mono hW.size); replace h0 := h0.now hB; replace h1 := h1.now hB; replace hb0 := hb0.now hB; replace hb1 := hb1.now hB; replace hb2 := hb2.now hB
  clear hB
  obtain ⟨k0, k1⟩ := hb0.c2
  obtain ⟨r0, r1⟩ := hb1.c2
  have x0 : w1.cell? ⟨w.heap.size + 1 + 1, 0, none⟩ = some (.slice C x.length d) := by simpa using hb2.cell 0
  cases hg : okGraph ge gp
  · have hE : Hid (isPot ge gp a b x = false) := by show _ = _; simp [isPot, hg]
    clear hg
    go_wp2
    go_ret
    exact ⟨ret_bool hE.out.symm, hW⟩
  · obtain ⟨hge1, hge2⟩ := okGraph_ev hg
    have hg' := Lib.hid hg
    clear hg
    go_wp2_with fail
    refine (impl_IsRatio _ _ _).mono ?_
    rintro e w2 ⟨rfl, hB⟩
    clear k0 k1 r0 r1 x0
    replace hW := hW.trans (hB.mono hW.size); replace h0 := h0.now hB; replace h1 := h1.now hB; replace hb0 := hb0.now hB; replace hb1 := hb1.now hB; replace hb2 := hb2.now hB
    clear hB
    obtain ⟨k0, k1⟩ := hb0.c2
    obtain ⟨r0, r1⟩ := hb1.c2
    have x0 : w2.cell? ⟨w.heap.size + 1 + 1, 0, none⟩ = some (.slice C x.length d) := by simpa using hb2.cell 0
    cases hr : ratioOk a b
    · have hE : Hid (isPot ge gp a b x = false) := by show _ = _; simp [isPot, hr]
      clear hr
      go_wp2
      go_ret
      exact ⟨ret_bool hE.out.symm, hW⟩
    · obtain ⟨ha, hb⟩ := ratioOk_in hr
      have hr' := Lib.hid hr
      clear hr
      by_cases hl : (x.length : Int) = ge
      · have hq : ((x.length : Int) != ge) = false := by simp [hl]
        have hl' := Lib.hid hl
        clear hl
        cases hx : allB x (-1000000) 1000000
        · have hE : Hid (isPot ge gp a b x = false) := by show _ = _; simp [isPot, hx]
          go_wp2_with (go_at_call 70; refine (impl_allWithin _ _ _ _ _ h1).mono ?_; rintro e w3 ⟨rfl, rfl⟩)
          go_ret
          exact ⟨ret_bool hE.out.symm, hW⟩
        · have hE : Hid (isPot ge gp a b x = gp.all (keeps a b x)) := by show _ = _; simp only [isPot, hg'.out, hr'.out, hx, decide_eq_true hl'.out, Bool.true_and]
          have hx' := Lib.hid hx
          go_wp2_with (go_at_call 70; refine (impl_allWithin _ _ _ _ _ h1).mono ?_; rintro e w3 ⟨rfl, rfl⟩)
          clear hx
          refine (g3_contains _ _ _ gp (fun p => !keeps a b x p) _ h0 ?_).mono ?_
          · intro p hp W hWW
            exact impl_IsTimePotential_1 p ge a b C x d _ _ W (hb2.now hWW) (hb1.now hWW) (h1.now hWW) (okGraph_place hg'.out hp) hl' hx' ha hb
          rintro e w3 ⟨rfl, hB⟩
          go_wp2
          go_ret
          exact ⟨ret_bool (by rw [hE.out, List.all_eq_not_any_not]), hW.trans (hB.mono hW.size)⟩
      · have hq : ((x.length : Int) != ge) = true := by simpa using hl
        have hE : Hid (isPot ge gp a b x = false) := by show _ = _; simp [isPot, hl]
        clear hl
        go_wp2
        go_ret
        exact ⟨ret_bool hE.out.symm, hW⟩
def isVal (a : Int) : Bool := decide (a = -1000000000000000) || inB a (-1000000) 1000000
set_option maxHeartbeats 400000 in
set_option maxRecDepth 100000 in
theorem spec_IsValue (a : Int) (w : World) : Calls Try.prog 137 #[.int .i64 a] w fun e w' => e = .returned (.bool (isVal a)) ∧ w = w' := by
  by_cases h : a = -1000000000000000
  · have hq : (a == -1000000000000000) = true := by simp [h]
    have hE : Hid (isVal a = true) := by show _ = _; simp [isVal, h]
    clear h
    go_enter Try.func137, Try.ntmps137
    go_wp2
    go_ret
    exact ⟨ret_bool hE.out.symm, rfl⟩
  · have hq : (a == -1000000000000000) = false := by simpa using h
    have hE : Hid (isVal a = inB a (-1000000) 1000000) := by show _ = _; simp [isVal, h]
    clear h
    go_enter Try.func137, Try.ntmps137
    go_wp2_with (go_at_call 113; refine (spec_l01Finite _ _).mono ?_; rintro e w' ⟨rfl, rfl⟩)
    go_ret
    exact ⟨ret_bool hE.out.symm, rfl⟩
set_option maxHeartbeats 400000 in
set_option maxRecDepth 100000 in
theorem spec_l01AllF (v : Value) (l : List Int) (w : World) (h0 : Lst intCell 1 w w.heap.size v l) :
    Calls Try.prog 115 #[v, .bool true] w fun e w' => e = .returned (.bool (allB l (-1000000) 1000000)) ∧ w = w' := by
  obtain ⟨A, c, rfl⟩ := h0.shape
  have hl := h0.len_le
  go_enter Try.func115, Try.ntmps115
  go_wp2
  go_loop [5] (fun i => ∃ k : Nat, k ≤ l.length ∧ i = .int .i64 k ∧ Hid (allB (l.take k) (-1000000) 1000000 = true)) (fun i => l.length - (intOf i).toNat)
  case atStart => exact ⟨0, Nat.zero_le _, rfl, rfl⟩
  case round =>
    obtain ⟨k, hk, rfl, hA⟩ := hrel
    by_cases hlt : k < l.length
    · obtain ⟨b, off, rfl, hb, c0⟩ := ints_at h0 k hlt
      by_cases hbot : l[k] = -1000000000000000
      · have hq : (l[k] == -1000000000000000) = true := by simp [hbot]
        have hF := Lib.hid (allB_false l k hlt (-1000000) 1000000 (by rw [hbot]; rfl))
        have hv : Hid (isVal l[k] = true) := by show _ = _; simp [isVal, hbot]
        have hcall := Lib.hid (fun W => hv.out ▸ spec_IsValue l[k] W)
        clear hbot
        go_wp2_with (go_at_call 137; refine (hcall.out _).mono ?_; rintro e w' ⟨rfl, rfl⟩)
        go_ret
        exact ⟨ret_bool hF.out.symm, rfl⟩
      · have hq : (l[k] == -1000000000000000) = false := by simpa using hbot
        have hv0 : isVal l[k] = inB l[k] (-1000000) 1000000 := by simp [isVal, hbot]
        clear hbot
        cases heq : inB l[k] (-1000000) 1000000
        · have hF := Lib.hid (allB_false l k hlt (-1000000) 1000000 heq)
          rw [heq] at hv0
          have hcall := Lib.hid (fun W => hv0 ▸ spec_IsValue l[k] W)
          clear hv0 heq
          go_wp2_with (go_at_call 137; refine (hcall.out _).mono ?_; rintro e w' ⟨rfl, rfl⟩)
          go_ret
          exact ⟨ret_bool hF.out.symm, rfl⟩
        · have hA' : Hid (allB (l.take (k + 1)) (-1000000) 1000000 = true) := by show _ = _; rw [take_succ_get _ _ hlt, allB_snoc, hA.out, heq]; rfl
          rw [heq] at hv0
          have hcall := Lib.hid (fun W => hv0 ▸ spec_IsValue l[k] W)
          clear hv0 heq
          go_wp2_with (go_at_call 137; refine (hcall.out _).mono ?_; rintro e w' ⟨rfl, rfl⟩)
          go_round
          case rel => exact ⟨k + 1, hlt, by go_num, hA'⟩
          case measure => simp [intOf]; omega
    · obtain rfl : k = l.length := by omega
      go_wp2
      go_ret
      exact ⟨ret_bool (by have := hA.out; rw [List.take_length] at this; exact this.symm), rfl⟩
set_option maxHeartbeats 1000000 in
set_option maxRecDepth 100000 in
theorem spec_l01DivisorI (a b : Int) (w : World) (ha1 : -2000000000 ≤ a) (ha2 : a ≤ 2000000000) (hb1 : -2000000000 ≤ b) (hb2 : b ≤ 2000000000) :
    Calls Try.prog 114 #[.int .i64 a, .int .i64 b] w fun e w' => e = .returned (.int .i64 (Nat.gcd a.natAbs b.natAbs : Nat)) ∧ Below w.heap.size w w' := by
  have h1 : max a (-a) = (a.natAbs : Int) := by omega
  have h2 : max b (-b) = (b.natAbs : Int) := by omega
  obtain ⟨s, hs⟩ : ∃ s, a.natAbs = s := ⟨_, rfl⟩
  obtain ⟨t, ht⟩ : ∃ t, b.natAbs = t := ⟨_, rfl⟩
  have hs2 : s ≤ 2000000000 := by omega
  have ht2 : t ≤ 2000000000 := by omega
  rw [hs, ht]
  rw [hs] at h1
  rw [ht] at h2
  have hs' := Lib.hid hs
  have ht' := Lib.hid ht
  clear hs ht
  by_cases ca : a < -a
  all_goals by_cases cb : b < -b
  all_goals
    go_enter Try.func114, Try.ntmps114
    go_wp2
    clear h1 h2
    go_loopw [0, 1] (fun p q wr => ∃ x y : Nat, p = .int .i64 x ∧ q = .int .i64 y ∧ Hid (Nat.gcd x y = Nat.gcd s t) ∧ x ≤ 2000000000 ∧ y ≤ 2000000000 ∧ Below w.heap.size w wr) (fun _ q _ => (intOf q).toNat)
    case atStart => exact ⟨s, t, by have := hs'.out; first | rfl | (congr 1; omega), by have := ht'.out; first | rfl | (congr 1; omega), rfl, hs2, ht2, Below.refl _ _⟩
    case round =>
      obtain ⟨x, y, rfl, rfl, hG, hx, hy, hB⟩ := hrel
      by_cases hpos : 0 < y
      · have hm1 : (y : Int) ≠ 0 := by omega
        have hm2 : ((y : Int) == 0) = false := by simp; omega
        have hm3 : y ≠ 0 := by omega
        have hm5 : (1 : Int) ≤ (y : Int) := by omega
        have hlt : Hid (x % y < y) := Nat.mod_lt _ hpos
        have hG' : Hid (Nat.gcd y (x % y) = Nat.gcd s t) := (gcd_step x y).trans hG.out
        go_wp2_with fail
        go_quiet (fail)
        go_wp2
        go_roundw
        case rel => exact ⟨y, x % y, rfl, by first | rfl | go_num, hG', hy, Nat.le_trans (Nat.mod_le _ _) hx, below_drewN hB _⟩
        case measure => have := hlt.out; simp [intOf]; omega
      · obtain rfl : y = 0 := by omega
        have hz : Hid (x = Nat.gcd s t) := by show _ = _; rw [← hG.out]; simp
        go_wp2
        go_ret
        exact ⟨ret_int (by rw [hz.out]), hB⟩
set_option maxHeartbeats 1000000 in
set_option maxRecDepth 100000 in
theorem spec_IsRatio (a b : Int) (w : World) :
    Calls Try.prog 67 #[.agg #[.int .i64 a, .int .i64 b]] w fun e w' => e = .returned (.bool (ratioOk a b)) ∧ Below w.heap.size w w' := by
  have hW : Below w.heap.size w (w.alloc (.cells #[.int .i64 a, .int .i64 b] 39)) := (Below.refl _ _).alloc (Nat.le_refl _) _
  cases h1 : inB a (-1000000) 1000000
  · have hE : Hid (ratioOk a b = false) := by show _ = _; simp [ratioOk, h1]
    have c1 := Lib.hid (fun W => h1 ▸ spec_l01Finite a W)
    clear h1
    go_enter Try.func67, Try.ntmps67
    go_wp2_with (go_at_call 113; refine (c1.out _).mono ?_; rintro e w' ⟨rfl, rfl⟩)
    go_ret
    exact ⟨ret_bool hE.out.symm, hW⟩
  · have ha := (inB_iff _ _ _).1 h1
    have c1 := Lib.hid (fun W => h1 ▸ spec_l01Finite a W)
    have h1' := Lib.hid h1
    clear h1
    cases h2 : inB b 1 1000000
    · have hE : Hid (ratioOk a b = false) := by show _ = _; simp [ratioOk, h2]
      have c2 := Lib.hid (fun W => h2 ▸ spec_l01In b 1 1000000 W)
      clear h2
      go_enter Try.func67, Try.ntmps67
      go_wp2_with (first | (go_at_call 113; refine (c1.out _).mono ?_; rintro e w' ⟨rfl, rfl⟩) | (go_at_call 58; refine (c2.out _).mono ?_; rintro e w' ⟨rfl, rfl⟩))
      go_ret
      exact ⟨ret_bool hE.out.symm, hW⟩
    · have hb := (inB_iff _ _ _).1 h2
      have c2 := Lib.hid (fun W => h2 ▸ spec_l01In b 1 1000000 W)
      have hE : Hid (ratioOk a b = (((Nat.gcd a.natAbs b.natAbs : Nat) : Int) == 1)) := by
        show _ = _
        simp only [ratioOk, h1'.out, h2, Bool.true_and]
        rw [Bool.eq_iff_iff]
        simp
        omega
      clear h2
      go_enter Try.func67, Try.ntmps67
      go_wp2_with (first | (go_at_call 113; refine (c1.out _).mono ?_; rintro e w' ⟨rfl, rfl⟩) | (go_at_call 58; refine (c2.out _).mono ?_; rintro e w' ⟨rfl, rfl⟩))
      refine (spec_l01DivisorI _ _ _ (by omega) (by omega) (by omega) (by omega)).mono ?_
      rintro e w1 ⟨rfl, hB⟩
      go_wp2
      go_ret
      exact ⟨ret_bool hE.out.symm, hW.trans (hB.mono hW.size)⟩
set_option maxHeartbeats 2000000 in
set_option maxRecDepth 100000 in
theorem spec_l15Holds (v : Value) (ge : Int) (gp : List Place) (a b : Int) (u : Value) (x : List Int) (w : World) (h0 : Lst Place.cells 4 w w.heap.size v gp) (h1 : Lst intCell 1 w w.heap.size u x) (hg : Hid (okGraph ge gp = true)) (ha : -1000000 ≤ a ∧ a ≤ 1000000) (hb : 1 ≤ b ∧ b ≤ 1000000) :
    Calls Try.prog 68 #[.agg #[.int .i64 ge, v], .agg #[.int .i64 a, .int .i64 b], u] w fun e w' => e = .returned (.bool (decide ((x.length : Int) = ge) && allB x (-1000000) 1000000 && gp.all (keeps a b x))) ∧ Below w.heap.size w w' := by
  obtain ⟨A, c, rfl⟩ := h0.shape
  obtain ⟨C, d, rfl⟩ := h1.shape
  have hxl := h1.len_le
  have hgl := okGraph_len hg.out
  have hE0 : Hid (∀ F, F = (decide ((x.length : Int) = ge) && allB x (-1000000) 1000000 && gp.all (keeps a b x)) → F = (decide ((x.length : Int) = ge) && allB x (-1000000) 1000000 && gp.all (keeps a b x))) := fun F h => h
  generalize hF : (decide ((x.length : Int) = ge) && allB x (-1000000) 1000000 && gp.all (keeps a b x)) = F at *
  have hF' := Lib.hid hF
  clear hF hE0
  by_cases hl : (x.length : Int) = ge
  · have hq : ((x.length : Int) != ge) = false := by simp [hl]
    have hl' := Lib.hid hl
    clear hl
    go_enter Try.func68, Try.ntmps68
    go_wp2_with fail
    have hW : Below w.heap.size w ((w.alloc (.cells #[.int .i64 ge, .slice A gp.length c] 28)).alloc (.cells #[.int .i64 a, .int .i64 b] 39)) := (((Below.refl _ _).alloc (Nat.le_refl _) _).alloc (by first | (simp; done) | (simp; omega)) _); have hb0 : Blk ((w.alloc (.cells #[.int .i64 ge, .slice A gp.length c] 28)).alloc (.cells #[.int .i64 a, .int .i64 b] 39)) (w.heap.size) 28 #[.int .i64 ge, .slice A gp.length c] := ((Blk.newAt w _ (by first | rfl | (simp; done) | (simp; omega))).alloc _); have hb1 : Blk ((w.alloc (.cells #[.int .i64 ge, .slice A gp.length c] 28)).alloc (.cells #[.int .i64 a, .int .i64 b] 39)) (w.heap.size + 1) 39 #[.int .i64 a, .int .i64 b] := (Blk.newAt (w.alloc (.cells #[.int .i64 ge, .slice A gp.length c] 28)) _ (by first | rfl | (simp; done) | (simp; omega))); replace h0 := h0.now hW; replace h1 := h1.now hW; have hsW : w.heap.size + 2 = ((w.alloc (.cells #[.int .i64 ge, .slice A gp.length c] 28)).alloc (.cells #[.int .i64 a, .int .i64 b] 39)).heap.size := (by first | rfl | (simp; done) | (simp; omega)); generalize ((w.alloc (.cells #[.int .i64 ge, .slice A gp.length c] 28)).alloc (.cells #[.int .i64 a, .int .i64 b] 39)) = W at *; replace hsW := Lib.hid hsW
    cases hx : allB x (-1000000) 1000000
    · have hE : Hid (F = false) := by show _ = _; rw [← hF'.out, hx]; simp
      go_wp2_with (go_at_call 115; refine (spec_l01AllF _ _ _ h1).mono ?_; rintro e w3 ⟨rfl, rfl⟩)
      go_ret
      exact ⟨ret_bool hE.out.symm, hW⟩
    · have hE : Hid (F = gp.all (keeps a b x)) := by show _ = _; rw [← hF'.out, hx, decide_eq_true hl'.out]; rfl
      have hx' := Lib.hid hx
      obtain ⟨k0, k1⟩ := hb0.c2
      go_wp2_with (go_at_call 115; refine (spec_l01AllF _ _ _ h1).mono ?_; rintro e w3 ⟨rfl, rfl⟩)
      clear hx k0 k1
      go_loopw [7, 8] (fun i _ wr => ∃ k : Nat, k ≤ gp.length ∧ i = .int .i64 k ∧ Hid ((gp.take k).all (keeps a b x) = true) ∧ Below W.heap.size W wr) (fun i _ _ => gp.length - (intOf i).toNat)
      case atStart => exact ⟨0, Nat.zero_le _, rfl, rfl, Below.refl _ _⟩
      case round =>
        obtain ⟨k, hk, rfl, hA, hB⟩ := hrel
        have hs := hB.size
        obtain ⟨k0, k1⟩ := (hb0.now hB).c2
        by_cases hlt : k < gp.length
        · obtain ⟨b1, off, hb1', hbb, d0, d1, d2, d3⟩ := places_at (h0.now hB) k hlt
          cases hb1'
          have hp := okGraph_place hg.out (List.getElem_mem hlt)
          obtain ⟨⟨m1, m2⟩, n1, n2⟩ := wgt_le (p := gp[k]) ha hb hp.2.2.1 hp.2.2.2
          obtain ⟨s, hse⟩ := Int.eq_ofNat_of_zero_le hp.1.1
          obtain ⟨t, hte⟩ := Int.eq_ofNat_of_zero_le hp.2.1.1
          have hlo := hl'.out
          have hsl : s < x.length := by omega
          have htl : t < x.length := by omega
          clear hlo
          obtain ⟨b2, off2, hb2, hbb2, e0⟩ := ints_at (h1.now hB) s hsl
          cases hb2
          obtain ⟨_, _, hb2, hbb3, f0⟩ := ints_at (h1.now hB) t htl
          cases hb2
          have hxs := allB_mem hx'.out s hsl
          have hxt := allB_mem hx'.out t htl
          have hK : Hid (keeps a b x gp[k] = !decide (x[t] < x[s] + b * gp[k].delay - a * gp[k].tokens)) := by
            show _ = _
            simp only [keeps, wgt, hse, hte, xAt_nat x s hsl, xAt_nat x t htl]
            congr 1
            exact decide_eq_decide.2 (by omega)
          rw [hse] at d0
          rw [hte] at d1
          have hse' := Lib.hid hse
          have hte' := Lib.hid hte
          clear hse hte
          obtain ⟨dl, hdl⟩ : ∃ dl, gp[k].delay = dl := ⟨_, rfl⟩
          obtain ⟨tk, htk⟩ : ∃ tk, gp[k].tokens = tk := ⟨_, rfl⟩
          rw [hdl] at d2 hK m1 m2 hp
          rw [htk] at d3 hK n1 n2 hp
          clear hdl htk hp
          go_wp2_with fail
          have hN : Below W.heap.size W (wr.alloc (.cells #[.int .i64 s, .int .i64 t, .int .i64 dl, .int .i64 tk] 78)) := hB.alloc hs _
          have hNw : Below wr.heap.size wr (wr.alloc (.cells #[.int .i64 s, .int .i64 t, .int .i64 dl, .int .i64 tk] 78)) := (Below.refl _ _).alloc (Nat.le_refl _) _
          have hbp : Blk (wr.alloc (.cells #[.int .i64 s, .int .i64 t, .int .i64 dl, .int .i64 tk] 78)) wr.heap.size 78 #[.int .i64 s, .int .i64 t, .int .i64 dl, .int .i64 tk] := Blk.new _ _ _
          replace e0 := cell_keep e0 hNw
          replace f0 := cell_keep f0 hNw
          clear d0 d1 d2 d3 hNw k0 k1
          generalize (wr.alloc (.cells #[.int .i64 s, .int .i64 t, .int .i64 dl, .int .i64 tk] 78)) = V at *
          obtain ⟨p0, p1, p2, p3⟩ := hbp.c4
          obtain ⟨r0, r1⟩ := (hb1.now hN).c2
          have g1 : IntKind.i64.wrap (b * dl) = b * dl := IntWalk.i64_in _ (by omega)
          have g2 : IntKind.i64.wrap (x[s] + b * dl) = x[s] + b * dl := IntWalk.i64_in _ (by omega)
          have g3 : IntKind.i64.wrap (a * tk) = a * tk := IntWalk.i64_in _ (by omega)
          have g4 : IntKind.i64.wrap (x[s] + b * dl - a * tk) = x[s] + b * dl - a * tk := IntWalk.i64_in _ (by omega)
          have i1 : (0 : Int) ≤ (s : Int) := by omega
          have i2 : (s : Int) < (x.length : Int) := by omega
          have i3 : (0 : Int) ≤ (t : Int) := by omega
          have i4 : (t : Int) < (x.length : Int) := by omega
          by_cases hc : x[t] < x[s] + b * dl - a * tk
          · have hd : decide (x[t] < x[s] + b * dl - a * tk) = true := decide_eq_true hc
            have hE' : Hid (F = false) := by
              show _ = _
              rw [hE.out, List.all_eq_false]
              exact ⟨_, List.getElem_mem hlt, by rw [hK.out, hd]; simp⟩
            go_quiet (fail)
            go_wp2
            go_ret
            exact ⟨ret_bool hE'.out.symm, hW.trans ((below_drewN hN _).mono hW.size)⟩
          · have hd : decide (x[t] < x[s] + b * dl - a * tk) = false := decide_eq_false hc
            have hA' : Hid ((gp.take (k + 1)).all (keeps a b x) = true) := by
              show _ = _
              rw [take_succ_get _ _ hlt, List.all_append, hA.out]
              simp [hK.out, hd]
            go_quiet (fail)
            go_wp2
            go_roundw
            case rel => exact ⟨k + 1, hlt, by go_num, hA', below_drewN hN _⟩
            case measure => simp [intOf]; omega
        · obtain rfl : k = gp.length := by omega
          have hE' : Hid (F = true) := by show _ = _; rw [hE.out]; have := hA.out; rw [List.take_length] at this; exact this
          go_wp2
          go_ret
          exact ⟨ret_bool hE'.out.symm, hW.trans (hB.mono hW.size)⟩
  · have hq : ((x.length : Int) != ge) = true := by simpa using hl
    have hE : Hid (F = false) := by show _ = _; rw [← hF'.out, decide_eq_false hl]; rfl
    clear hl
    go_enter Try.func68, Try.ntmps68
    go_wp2
    go_ret
    exact ⟨ret_bool hE.out.symm, (by repeat (first | exact Below.refl _ _ | assumption | refine Below.drew ?_ | refine Below.alloc ?_ (by simp <;> omega) _ | refine Below.setCell ?_ (by simp <;> omega) _))⟩
set_option maxHeartbeats 2000000 in
set_option maxRecDepth 100000 in
theorem spec_IsTimePotential (v : Value) (ge : Int) (gp : List Place) (a b : Int) (u : Value) (x : List Int) (w : World) (h0 : Lst Place.cells 4 w w.heap.size v gp) (h1 : Lst intCell 1 w w.heap.size u x) :
    Calls Try.prog 22 #[.agg #[.int .i64 ge, v], .agg #[.int .i64 a, .int .i64 b], u] w fun e w' => e = .returned (.bool (isPot ge gp a b x)) ∧ Below w.heap.size w w' := by
  obtain ⟨A, c, rfl⟩ := h0.shape
  obtain ⟨C, d, rfl⟩ := h1.shape
  go_enter Try.func22, Try.ntmps22
  go_wp2_with fail
  have hW : Below w.heap.size w ((w.alloc (.cells #[.int .i64 ge, .slice A gp.length c] 28)).alloc (.cells #[.int .i64 a, .int .i64 b] 39)) := (((Below.refl _ _).alloc (Nat.le_refl _) _).alloc (by first | (simp; done) | (simp; omega)) _); have hb0 : Blk ((w.alloc (.cells #[.int .i64 ge, .slice A gp.length c] 28)).alloc (.cells #[.int .i64 a, .int .i64 b] 39)) (w.heap.size) 28 #[.int .i64 ge, .slice A gp.length c] := ((Blk.newAt w _ (by first | rfl | (simp; done) | (simp; omega))).alloc _); have hb1 : Blk ((w.alloc (.cells #[.int .i64 ge, .slice A gp.length c] 28)).alloc (.cells #[.int .i64 a, .int .i64 b] 39)) (w.heap.size + 1) 39 #[.int .i64 a, .int .i64 b] := (Blk.newAt (w.alloc (.cells #[.int .i64 ge, .slice A gp.length c] 28)) _ (by first | rfl | (simp; done) | (simp; omega))); replace h0 := h0.now hW; replace h1 := h1.now hW; have hsW : w.heap.size + 2 = ((w.alloc (.cells #[.int .i64 ge, .slice A gp.length c] 28)).alloc (.cells #[.int .i64 a, .int .i64 b] 39)).heap.size := (by first | rfl | (simp; done) | (simp; omega)); generalize ((w.alloc (.cells #[.int .i64 ge, .slice A gp.length c] 28)).alloc (.cells #[.int .i64 a, .int .i64 b] 39)) = W at *; replace hsW := Lib.hid hsW
  refine (spec_IsEventGraph _ _ _ _ h0).mono ?_
  rintro e w1 ⟨rfl, hB⟩
  replace hW := hW.trans (hB.mono hW.size); replace h0 := h0.now hB; replace h1 := h1.now hB; replace hb0 := hb0.now hB; replace hb1 := hb1.now hB
  clear hB
  obtain ⟨k0, k1⟩ := hb0.c2
  obtain ⟨r0, r1⟩ := hb1.c2
  cases hg : okGraph ge gp
  · have hE : Hid (isPot ge gp a b x = false) := by show _ = _; simp [isPot, hg]
    clear hg
    go_wp2
    go_ret
    exact ⟨ret_bool hE.out.symm, hW⟩
  · have hg' := Lib.hid hg
    clear hg
    go_wp2_with fail
    refine (spec_IsRatio _ _ _).mono ?_
    rintro e w2 ⟨rfl, hB⟩
    clear k0 k1 r0 r1
    replace hW := hW.trans (hB.mono hW.size); replace h0 := h0.now hB; replace h1 := h1.now hB; replace hb0 := hb0.now hB; replace hb1 := hb1.now hB
    clear hB
    obtain ⟨k0, k1⟩ := hb0.c2
    obtain ⟨r0, r1⟩ := hb1.c2
    cases hr : ratioOk a b
    · have hE : Hid (isPot ge gp a b x = false) := by show _ = _; simp [isPot, hr]
      clear hr
      go_wp2
      go_ret
      exact ⟨ret_bool hE.out.symm, hW⟩
    · obtain ⟨ha, hb⟩ := ratioOk_in hr
      have hE : Hid (isPot ge gp a b x = (decide ((x.length : Int) = ge) && allB x (-1000000) 1000000 && gp.all (keeps a b x))) := by show _ = _; simp only [isPot, hg'.out, hr, Bool.true_and]
      clear hr
      go_wp2_with fail
      refine (spec_l15Holds _ _ _ _ _ _ _ _ h0 h1 hg' ha hb).mono ?_
      rintro e w3 ⟨rfl, hB⟩
      rw [← hE.out]
      go_wp2
      go_ret
      exact ⟨rfl, hW.trans (hB.mono hW.size)⟩
end Go.Proofs.Ytobbidlbihnodaa
