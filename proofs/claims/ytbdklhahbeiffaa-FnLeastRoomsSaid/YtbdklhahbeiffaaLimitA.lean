/-
  The walks of LimitPlaces and LimitPlace, the program's and the reference's.
-/
import Derived.Test.YtbdklhahbeiffaaMore
import Derived.Test.YtbdklhahbeiffaaRooms
import Derived.IntWalk
import Derived.Test.YtbdklhahbeiffaaCore
namespace Go.Proofs.Ytbdklhahbeiffaa
open Go.RowKit
set_option linter.unusedVariables false
set_option linter.unusedSimpArgs false

/-- The place with the index i. -/
def plAt (gp : List Place) (i : Int) : Place := gp.getD i.toNat ⟨0, 0, 0, 0⟩
theorem plAt_nat (gp : List Place) (q : Nat) (h : q < gp.length) : plAt gp q = gp[q] := by simp [plAt, List.getD, List.getElem?_eq_getElem h]
/-- The place that gives back the room of another one. -/
def backP (gp : List Place) (i r : Int) : Place := ⟨(plAt gp i).dst, (plAt gp i).src, 0, r - (plAt gp i).tokens⟩
def backs (gp : List Place) (l r : List Int) (k : Nat) : List Place := (List.range k).map fun j => backP gp (l.getD j 0) (r.getD j 0)
theorem backs_len (gp : List Place) (l r : List Int) (k : Nat) : (backs gp l r k).length = k := by simp [backs]
theorem backs_succ (gp : List Place) (l r : List Int) (k : Nat) (h : k < l.length) (h2 : k < r.length) : backs gp l r (k + 1) = backs gp l r k ++ [backP gp l[k] r[k]] := by
  simp [backs, List.range_succ, List.getD, List.getElem?_eq_getElem h, List.getElem?_eq_getElem h2]
/-- Every room is one of its place. -/
def roomsUp (gp : List Place) (l r : List Int) (k : Nat) : Bool := (List.range k).all fun j => inB (r.getD j 0) (max 1 (plAt gp (l.getD j 0)).tokens) (min 8 ((plAt gp (l.getD j 0)).tokens + 5))
def roomsOk (gp : List Place) (l r : List Int) : Bool := decide (r.length = l.length) && roomsUp gp l r l.length
theorem roomsUp_succ (gp : List Place) (l r : List Int) (k : Nat) (h : k < l.length) (h2 : k < r.length) : roomsUp gp l r (k + 1) = (roomsUp gp l r k && inB r[k] (max 1 (plAt gp l[k]).tokens) (min 8 ((plAt gp l[k]).tokens + 5))) := by
  simp [roomsUp, List.range_succ, List.all_append, List.getD, List.getElem?_eq_getElem h, List.getElem?_eq_getElem h2]
theorem roomsUp_false (gp : List Place) (l r : List Int) (k n : Nat) (h : k < l.length) (h2 : k < r.length) (hn : k < n) (h3 : inB r[k] (max 1 (plAt gp l[k]).tokens) (min 8 ((plAt gp l[k]).tokens + 5)) = false) : roomsUp gp l r n = false := by
  unfold roomsUp
  rw [List.all_eq_false]
  exact ⟨k, List.mem_range.2 hn, by simp [List.getD, List.getElem?_eq_getElem h, List.getElem?_eq_getElem h2, h3]⟩
/-- The code of a graph, of places and of their rooms. -/
def limCode (ge : Int) (gp : List Place) (l r : List Int) : Int :=
  if okGraph ge gp = false then 1 else if bufOk gp.length l = false then 2 else if roomsOk gp l r = false then 2 else if 30 < gp.length + l.length then 3 else 0
/-- What LimitPlaces gives. -/
def limF (ge : Int) (gp : List Place) (l r : List Int) : Int × List Place × Int :=
  if limCode ge gp l r = 0 then (ge, gp ++ backs gp l r l.length, 0) else (0, [], limCode ge gp l r)
theorem limF_len (ge : Int) (gp : List Place) (l r : List Int) : (limF ge gp l r).2.1.length ≤ 1048576 := by
  unfold limF
  split
  · rename_i h
    unfold limCode at h
    split at h
    · omega
    · split at h
      · omega
      · split at h
        · omega
        · split at h
          · omega
          · simp [backs_len]; omega
  · simp
theorem allB_at2 {m : List Int} {lo hi : Int} (h : allB m lo hi = true) (k : Nat) (hk : k < m.length) : lo ≤ m[k] ∧ m[k] ≤ hi := by
  unfold allB at h
  rw [List.all_eq_true] at h
  have := h _ (List.getElem_mem hk)
  simpa [inB] using this
theorem bufOk_at {n : Nat} {l : List Int} (h : bufOk n l = true) : (1 ≤ l.length ∧ l.length ≤ 3) ∧ ∀ k (hk : k < l.length), ∃ q : Nat, l[k] = (q : Int) ∧ q < n := by
  unfold bufOk at h
  rw [Bool.and_eq_true, inB_iff] at h
  refine ⟨by omega, fun k hk => ?_⟩
  have h2 := h.2
  unfold bufUp at h2
  rw [List.all_eq_true] at h2
  have h3 := h2 k (List.mem_range.2 hk)
  rw [Bool.and_eq_true, inB_iff] at h3
  have e : l.getD k 0 = l[k] := by simp [List.getD, List.getElem?_eq_getElem hk]
  rw [e] at h3
  exact ⟨l[k].toNat, by omega, by omega⟩
theorem roomsOk_len {gp : List Place} {l r : List Int} (h : roomsOk gp l r = true) : r.length = l.length := by
  unfold roomsOk at h
  simp only [Bool.and_eq_true, decide_eq_true_eq] at h
  exact h.1
theorem roomsOk_at {gp : List Place} {l r : List Int} (h : roomsOk gp l r = true) (k : Nat) (hk : k < l.length) (h2 : k < r.length) : 1 ≤ r[k] ∧ r[k] ≤ 8 := by
  unfold roomsOk roomsUp at h
  simp only [Bool.and_eq_true, decide_eq_true_eq, List.all_eq_true, List.mem_range] at h
  have h3 := h.2 k hk
  rw [inB_iff] at h3
  have e : r.getD k 0 = r[k] := by simp [List.getD, List.getElem?_eq_getElem h2]
  rw [e] at h3
  omega

theorem bufOk_not {n : Nat} {l : List Int} (h : l.length < 1 ∨ (allB l 0 ((n : Int) - 1) && decide ((l.length : Int) ≤ 3)) = false) : bufOk n l = false := by
  cases e : bufOk n l
  · rfl
  · obtain ⟨h1, h2⟩ := bufOk_at e
    rcases h with h | h
    · omega
    · rw [Bool.and_eq_false_iff] at h
      rcases h with h | h
      · unfold allB at h
        rw [List.all_eq_false] at h
        obtain ⟨x, hx, hx2⟩ := h
        obtain ⟨k, hk, rfl⟩ := List.mem_iff_getElem.1 hx
        obtain ⟨q, hq, hql⟩ := h2 k hk
        exact absurd ((inB_iff _ _ _).2 ⟨by omega, by omega⟩) hx2
      · simp only [decide_eq_false_iff_not] at h; omega
def bufCode (ge : Int) (gp : List Place) (l : List Int) : Int := if okGraph ge gp = false then 1 else if bufOk gp.length l = false then 2 else 0
set_option maxHeartbeats 1000000 in
set_option maxRecDepth 100000 in
theorem spec_l16Code (v : Value) (ge : Int) (gp : List Place) (u : Value) (l : List Int) (w : World) (h0 : Lst Place.cells 4 w w.heap.size v gp) (h1 : Lst intCell 1 w w.heap.size u l) :
    Calls Try.prog 52 #[.agg #[.int .i64 ge, v], u] w fun e w' => e = .returned (.int .i64 (bufCode ge gp l)) ∧ Below w.heap.size w w' := by
  obtain ⟨A, c, rfl⟩ := h0.shape
  obtain ⟨C, d, rfl⟩ := h1.shape
  have hm := h1.len_le
  have hl := h0.len_le
  have hN := Lib.hid (fun h => bufOk_not (n := gp.length) (l := l) h)
  have hcap : l.length ≤ d := by obtain ⟨_, _, A', c', hv, hc, _⟩ := h1; injection hv with _ _ hcc; omega
  go_enter Try.func52, Try.ntmps52
  go_wp2_with fail
  have hW : Below w.heap.size w (w.alloc (.cells #[.int .i64 ge, .slice A gp.length c] 32)) := (Below.refl _ _).alloc (Nat.le_refl _) _; have hb0 : Blk (w.alloc (.cells #[.int .i64 ge, .slice A gp.length c] 32)) w.heap.size 32 #[.int .i64 ge, .slice A gp.length c] := Blk.new _ _ _; replace h0 := h0.now hW; replace h1 := h1.now hW; generalize (w.alloc (.cells #[.int .i64 ge, .slice A gp.length c] 32)) = W at *
  refine (spec_IsEventGraph _ _ _ _ h0).mono ?_
  rintro e w1 ⟨rfl, hB⟩
  replace hW := hW.trans (hB.mono hW.size); replace h0 := h0.now hB; replace h1 := h1.now hB; replace hb0 := hb0.now hB
  clear hB
  obtain ⟨k0, k1⟩ := hb0.c2
  cases hg : okGraph ge gp
  · have hQ : Hid (bufCode ge gp l = 1) := by show _ = _; simp [bufCode, hg]
    clear hg
    go_wp2
    go_ret
    exact ⟨ret_int hQ.out.symm, hW⟩
  · have hg' := Lib.hid hg
    by_cases hz : l.length < 1
    · have hQ : Hid (bufCode ge gp l = 2) := by show _ = _; simp [bufCode, hg, hN.out (.inl hz)]
      have hz1 : decide ((l.length : Int) < 1) = true := decide_eq_true (by omega)
      clear hg hz
      go_wp2
      go_ret
      exact ⟨ret_int hQ.out.symm, hW⟩
    · have hz1 : decide ((l.length : Int) < 1) = false := decide_eq_false (by omega)
      have hpos : 1 ≤ l.length := by omega
      clear hg hz
      cases ha : (allB l 0 ((gp.length : Int) - 1) && decide ((l.length : Int) ≤ 3))
      · have hQ : Hid (bufCode ge gp l = 2) := by show _ = _; simp [bufCode, hg'.out, hN.out (.inr ha)]
        go_wp2_with (go_at_call 109; refine (spec_l01Within _ _ _ _ _ _ h1).mono ?_; rintro e w2 ⟨rfl, rfl⟩)
        go_ret
        exact ⟨ret_int hQ.out.symm, hW⟩
      · have ha2 := ha
        rw [Bool.and_eq_true, decide_eq_true_eq] at ha2
        obtain ⟨ha3, h3⟩ := ha2
        have ha' := Lib.hid ha3
        clear ha
        have hE : Hid (bufOk gp.length l = bufUp gp.length l l.length) := by show _ = _; unfold bufOk; rw [(inB_iff _ _ _).2 ⟨by omega, by omega⟩]; rfl
        go_wp2_with (go_at_call 109; refine (spec_l01Within _ _ _ _ _ _ h1).mono ?_; rintro e w2 ⟨rfl, rfl⟩)
        clear ha3
        go_loopw [5] (fun i wr => ∃ k : Nat, k ≤ l.length ∧ i = .int .i64 k ∧ Hid (bufUp gp.length l k = true) ∧ Below w1.heap.size w1 wr) (fun i _ => l.length - (intOf i).toNat)
        case atStart => exact ⟨0, Nat.zero_le _, rfl, rfl, Below.refl _ _⟩
        case round =>
          obtain ⟨k, hk, rfl, hN2, hB⟩ := hrel
          by_cases hlt : k < l.length
          · obtain ⟨b, off, hb1, hbb, c0⟩ := ints_at (h1.now hB) k hlt
            cases hb1
            have hgd : Hid (l.getD k 0 = l[k]) := by show _ = _; simp [List.getD, List.getElem?_eq_getElem hlt]
            have hin : Hid (inB l[k] 0 ((gp.length : Int) - 1) = true) := by show _ = _; rw [inB_iff]; exact allB_at2 ha'.out k hlt
            have ht := fun n => ((Lst.take intCell_len (h1.now hB) k (by omega)).now (below_drewN (Below.refl _ wr) n))
            have hk1 : (0 : Int) ≤ (k : Int) := by omega
            have hk2 : (k : Int) ≤ (d : Int) := by omega
            have hk3 : (k : Int) < (l.length : Int) := by omega
            cases hr : hasI (l.take k) l[k]
            · have hN' : Hid (bufUp gp.length l (k + 1) = true) := by show _ = _; rw [bufUp_succ, hN2.out, hgd.out, hin.out, hr]; rfl
              have hcall := Lib.hid (fun n => hr ▸ spec_l01Has _ (l.take k) l[k] _ (ht n))
              clear hr ht
              go_wp2_with fail
              go_quiet ((go_at_call 110; exact quiet_left (hcall.out _)))
              go_wp2
              go_roundw
              case rel => exact ⟨k + 1, hlt, by go_num, hN', below_drewN hB _⟩
              case measure => simp [intOf]; omega
            · have hF : Hid (bufUp gp.length l l.length = false) := bufUp_false _ _ k _ hlt (by rw [hgd.out, hin.out, hr]; rfl)
              have hQ : Hid (bufCode ge gp l = 2) := by show _ = _; simp [bufCode, hg'.out, hE.out, hF.out]
              have hcall := Lib.hid (fun n => hr ▸ spec_l01Has _ (l.take k) l[k] _ (ht n))
              clear hr ht
              go_wp2_with fail
              go_quiet ((go_at_call 110; exact quiet_left (hcall.out _)))
              go_wp2
              go_ret
              exact ⟨ret_int hQ.out.symm, hW.trans ((below_drewN hB _).mono hW.size)⟩
          · obtain rfl : k = l.length := by omega
            have hQ : Hid (bufCode ge gp l = 0) := by show _ = _; simp [bufCode, hg'.out, hE.out, hN2.out]
            go_wp2
            go_ret
            exact ⟨ret_int hQ.out.symm, hW.trans (hB.mono hW.size)⟩
theorem limCode_eq (ge : Int) (gp : List Place) (l r : List Int) : limCode ge gp l r = if bufCode ge gp l ≠ 0 then bufCode ge gp l else if roomsOk gp l r = false then 2 else if 30 < gp.length + l.length then 3 else 0 := by
  unfold limCode bufCode
  cases okGraph ge gp <;> cases bufOk gp.length l <;> simp
set_option maxHeartbeats 1000000 in
set_option maxRecDepth 100000 in
theorem impl_areRooms (v : Value) (ge : Int) (gp : List Place) (u : Value) (l : List Int) (t : Value) (r : List Int) (w : World) (h0 : Lst Place.cells 4 w w.heap.size v gp) (h1 : Lst intCell 1 w w.heap.size u l) (h2 : Lst intCell 1 w w.heap.size t r) (hg : Hid (okGraph ge gp = true)) (hb : Hid (bufOk gp.length l = true)) :
    Calls Try.prog 131 #[.agg #[.int .i64 ge, v], u, t] w fun e w' => e = .returned (.bool (roomsOk gp l r)) ∧ Below w.heap.size w w' := by
  obtain ⟨A, c, rfl⟩ := h0.shape
  obtain ⟨C, d, rfl⟩ := h1.shape
  obtain ⟨D, f, rfl⟩ := h2.shape
  have hm := h1.len_le
  have hm2 := h2.len_le
  have hE := Lib.hid (show roomsOk gp l r = (decide (r.length = l.length) && roomsUp gp l r l.length) from rfl)
  by_cases h : r.length = l.length
  · have hq : ((r.length : Int) != (l.length : Int)) = false := by simp [h]
    have hlen1 : l.length ≤ r.length := by omega
    have hE' : Hid (roomsOk gp l r = roomsUp gp l r l.length) := by show _ = _; rw [hE.out, decide_eq_true h]; rfl
    clear h
    go_enter Try.func131, Try.ntmps131
    go_wp2
    have hW : Below w.heap.size w (w.alloc (.cells #[.int .i64 ge, .slice A gp.length c] 32)) := (Below.refl _ _).alloc (Nat.le_refl _) _; have hb0 : Blk (w.alloc (.cells #[.int .i64 ge, .slice A gp.length c] 32)) w.heap.size 32 #[.int .i64 ge, .slice A gp.length c] := Blk.new _ _ _; replace h0 := h0.now hW; replace h1 := h1.now hW; replace h2 := h2.now hW; generalize (w.alloc (.cells #[.int .i64 ge, .slice A gp.length c] 32)) = W at *
    go_loopw [7, 8, 9, 10, 18] (fun _ _ _ _ i wr => ∃ k : Nat, k ≤ l.length ∧ i = .int .i64 k ∧ Hid (roomsUp gp l r k = true) ∧ Below W.heap.size W wr) (fun _ _ _ _ i _ => l.length - (intOf i).toNat)
    case atStart => exact ⟨0, Nat.zero_le _, rfl, rfl, Below.refl _ _⟩
    case round =>
      obtain ⟨k, hk, rfl, hA, hB⟩ := hrel
      have hs := hB.size
      by_cases hlt : k < l.length
      · have hlt2 : k < r.length := by omega
        obtain ⟨k0, k1⟩ := (hb0.now hB).c2
        have k2 := (hb0.now hB).lt
        obtain ⟨q, hq1, hql⟩ := (bufOk_at hb.out).2 k hlt
        obtain ⟨b, off, hb1, hbb, d0, d1, d2, d3⟩ := places_at (h0.now hB) q hql
        cases hb1
        obtain ⟨b2, off2, hb2, hbb2, e0⟩ := ints_at (h1.now hB) k hlt
        cases hb2
        obtain ⟨b3, off3, hb3, hbb3, f0⟩ := ints_at (h2.now hB) k hlt2
        cases hb3
        rw [hq1] at e0
        have hS := Lib.hid (roomsUp_succ gp l r k hlt hlt2)
        have hF := Lib.hid (roomsUp_false gp l r k l.length hlt hlt2 hlt)
        have hpl : Hid (plAt gp l[k] = gp[q]) := by show _ = _; rw [hq1]; exact plAt_nat gp q hql
        have hp := okGraph_place hg.out (List.getElem_mem hql)
        have ht := hp.2.2.2
        have hq1' := Lib.hid hq1
        clear hq1
        go_wp2_with fail
        refine (impl_roomsOf _ _ _ _ _ ht.1 ht.2).mono ?_
        rintro e w2 ⟨rfl, hB2⟩
        replace f0 := cell_keep f0 hB2
        have hBt := hB.trans (hB2.mono hs)
        cases hin : inB r[k] (max 1 gp[q].tokens) (min 8 (gp[q].tokens + 5))
        · have hF' : Hid (roomsOk gp l r = false) := by show _ = _; rw [hE'.out]; exact hF.out (by rw [hpl.out]; exact hin)
          go_wp2_with (go_at_call 87; refine (impl_within _ _ _ _).mono ?_; rintro e w3 ⟨rfl, rfl⟩)
          go_ret
          exact ⟨ret_bool hF'.out.symm, hW.trans (hBt.mono hW.size)⟩
        · have hA' : Hid (roomsUp gp l r (k + 1) = true) := by show _ = _; rw [hS.out, hA.out, hpl.out, hin]; rfl
          go_wp2_with (go_at_call 87; refine (impl_within _ _ _ _).mono ?_; rintro e w3 ⟨rfl, rfl⟩)
          go_roundw
          case rel => exact ⟨k + 1, hlt, by go_num, hA', hBt⟩
          case measure => simp [intOf]; omega
      · obtain rfl : k = l.length := by omega
        go_wp2
        go_ret
        exact ⟨ret_bool (by rw [hE'.out, hA.out]), hW.trans (hB.mono hW.size)⟩
  · have hq : ((r.length : Int) != (l.length : Int)) = true := by rw [bne_iff_ne]; omega
    have hE' : Hid (roomsOk gp l r = false) := by show _ = _; rw [hE.out, decide_eq_false h]; rfl
    clear h
    go_enter Try.func131, Try.ntmps131
    go_wp2
    go_ret
    exact ⟨ret_bool hE'.out.symm, (by repeat (first | exact Below.refl _ _ | assumption | refine Below.drew ?_ | refine Below.alloc ?_ (by simp <;> omega) _ | refine Below.setCell ?_ (by simp <;> omega) _))⟩
set_option maxHeartbeats 1000000 in
set_option maxRecDepth 100000 in
theorem impl_limited (v : Value) (ge : Int) (gp : List Place) (u : Value) (l : List Int) (t : Value) (r : List Int) (w : World) (h0 : Lst Place.cells 4 w w.heap.size v gp) (h1 : Lst intCell 1 w w.heap.size u l) (h2 : Lst intCell 1 w w.heap.size t r) (hg : Hid (okGraph ge gp = true)) (hb : Hid (bufOk gp.length l = true)) (hr : Hid (roomsOk gp l r = true)) :
    Calls Try.prog 63 #[.agg #[.int .i64 ge, v], u, t] w (RetG 101 w ge (gp ++ backs gp l r l.length)) := by
  obtain ⟨A, c, rfl⟩ := h0.shape
  obtain ⟨C, d, rfl⟩ := h1.shape
  obtain ⟨D, f, rfl⟩ := h2.shape
  have hm := (bufOk_at hb.out).1
  have hlen1 : l.length ≤ r.length := by have := roomsOk_len hr.out; omega
  have hgl := okGraph_len hg.out
  go_enter Try.func63, Try.ntmps63
  go_wp2_with fail
  have hW : Below w.heap.size w ((w.alloc (.cells #[.int .i64 ge, .slice A gp.length c] 32)).alloc (.cells #[.int .i64 0, .slice none 0 0] 32)) := (((Below.refl _ _).alloc (Nat.le_refl _) _).alloc (by first | (simp; done) | (simp; omega)) _); have hb0 : Blk ((w.alloc (.cells #[.int .i64 ge, .slice A gp.length c] 32)).alloc (.cells #[.int .i64 0, .slice none 0 0] 32)) (w.heap.size) 32 #[.int .i64 ge, .slice A gp.length c] := ((Blk.newAt w _ (by first | rfl | (simp; done) | (simp; omega))).alloc _); have hb1 : Blk ((w.alloc (.cells #[.int .i64 ge, .slice A gp.length c] 32)).alloc (.cells #[.int .i64 0, .slice none 0 0] 32)) (w.heap.size + 1) 32 #[.int .i64 0, .slice none 0 0] := (Blk.newAt (w.alloc (.cells #[.int .i64 ge, .slice A gp.length c] 32)) _ (by first | rfl | (simp; done) | (simp; omega))); replace h0 := h0.now hW; replace h1 := h1.now hW; replace h2 := h2.now hW; have hsW : w.heap.size + 2 = ((w.alloc (.cells #[.int .i64 ge, .slice A gp.length c] 32)).alloc (.cells #[.int .i64 0, .slice none 0 0] 32)).heap.size := (by first | rfl | (simp; done) | (simp; omega)); generalize ((w.alloc (.cells #[.int .i64 ge, .slice A gp.length c] 32)).alloc (.cells #[.int .i64 0, .slice none 0 0] 32)) = W at *; replace hsW := Lib.hid hsW
  refine (impl_cloneGraph _ _ _ _ h0 (by omega)).mono ?_
  rintro e w3 ⟨x, rfl, hO, hB⟩
  obtain ⟨X, cx, rfl⟩ := hO.shape
  obtain ⟨k0, k1⟩ := (hb0.now hB).c2
  have n1 := (hb0.now hB).lt
  have hs := hB.size
  have l1 := hb1.lt
  go_wp2
  clear n1 k0 k1
  go_loopw [8, 9, 10, 15] (fun _ _ _ i wr => ∃ k : Nat, k ≤ l.length ∧ i = .int .i64 k ∧ (∃ y, Blk wr w3.heap.size 32 #[.int .i64 ge, y] ∧ Own Place.cells 4 101 wr W.heap.size y (gp ++ backs gp l r k)) ∧ Below W.heap.size W wr) (fun _ _ _ i _ => l.length - (intOf i).toNat)
  case atStart => exact ⟨0, Nat.zero_le _, rfl, ⟨_, Blk.newAt _ _ rfl, by simpa [backs] using hO.alloc _⟩, hB.alloc hs _⟩
  case round =>
    clear hO hB
    obtain ⟨k, hk, rfl, ⟨y, hbo, hO⟩, hB⟩ := hrel
    obtain ⟨Y, cy, rfl⟩ := hO.shape
    rw [show (gp ++ backs gp l r k).length = gp.length + k by simp [backs_len]] at hO hbo
    have hs3 := hB.size
    have lo := hbo.lt
    by_cases hlt : k < l.length
    · have hlt2 : k < r.length := by omega
      obtain ⟨k0, k1⟩ := (hb0.now hB).c2
      have n0 := (hb0.now hB).lt
      obtain ⟨q, hq1, hql⟩ := (bufOk_at hb.out).2 k hlt
      obtain ⟨b, off, hb1', hbb, d0, d1, d2, d3⟩ := places_at (h0.now hB) q hql
      cases hb1'
      obtain ⟨b2, off2, hb2, hbb2, e0⟩ := ints_at (h1.now hB) k hlt
      cases hb2
      obtain ⟨b3, off3, hb3, hbb3, f0⟩ := ints_at h2 k hlt2
      cases hb3
      replace f0 := cell_keep f0 hB
      rw [hq1] at e0
      have hx : Hid (backP gp l[k] r[k] = ⟨gp[q].dst, gp[q].src, 0, r[k] - gp[q].tokens⟩) := by show _ = _; rw [hq1]; simp only [backP, plAt_nat gp q hql]
      have hT : Hid ((gp ++ backs gp l r k) ++ [⟨gp[q].dst, gp[q].src, 0, r[k] - gp[q].tokens⟩] = gp ++ backs gp l r (k + 1)) := by show _ = _; rw [backs_succ gp l r k hlt hlt2, List.append_assoc, hx.out]
      have hp := okGraph_place hg.out (List.getElem_mem hql)
      have hrk := roomsOk_at hr.out k hlt hlt2
      have hlen : (gp ++ backs gp l r k).length + [(⟨gp[q].dst, gp[q].src, 0, r[k] - gp[q].tokens⟩ : Place)].length ≤ 1099511627776 := by simp [backs_len]; omega
      have hLL2 : Hid (((gp ++ backs gp l r k) ++ [(⟨gp[q].dst, gp[q].src, 0, r[k] - gp[q].tokens⟩ : Place)]).length = gp.length + k + 1) := by show _ = _; simp only [List.length_append, backs_len, List.length_cons, List.length_nil]
      have hq1' := Lib.hid hq1
      clear hq1
      have hw : IntKind.i64.wrap (r[k] - gp[q].tokens) = r[k] - gp[q].tokens := IntWalk.i64_in _ (by omega)
      have hw' := Lib.hid hw
      clear hw
      have hlt3 := Lib.hid hO.lt
      go_wp2_with fail
      have pB := hB.alloc hs3 (.cells #[.int .i64 gp[q].src, .int .i64 gp[q].dst, .int .i64 gp[q].delay, .int .i64 gp[q].tokens] 101)
      have pO := hO.alloc (.cells #[.int .i64 gp[q].src, .int .i64 gp[q].dst, .int .i64 gp[q].delay, .int .i64 gp[q].tokens] 101)
      have pbo := hbo.alloc (.cells #[.int .i64 gp[q].src, .int .i64 gp[q].dst, .int .i64 gp[q].delay, .int .i64 gp[q].tokens] 101)
      have pp : Blk (wr.alloc (.cells #[.int .i64 gp[q].src, .int .i64 gp[q].dst, .int .i64 gp[q].delay, .int .i64 gp[q].tokens] 101)) wr.heap.size 101 #[.int .i64 gp[q].src, .int .i64 gp[q].dst, .int .i64 gp[q].delay, .int .i64 gp[q].tokens] := Blk.new _ _ _
      have f0' : (wr.alloc (.cells #[.int .i64 gp[q].src, .int .i64 gp[q].dst, .int .i64 gp[q].delay, .int .i64 gp[q].tokens] 101)).cell? ⟨b3, off3 + k, none⟩ = some (.int .i64 r[k]) := cell_keep f0 ((Below.refl _ _).alloc (Nat.le_refl _) _)
      clear d0 d1 d2 d3 e0 f0 hO hB hbo k0 k1
      generalize (wr.alloc (.cells #[.int .i64 gp[q].src, .int .i64 gp[q].dst, .int .i64 gp[q].delay, .int .i64 gp[q].tokens] 101)) = V at *
      have hdV : Below V.heap.size V V.drew := (Below.refl _ _).drew
      replace f0' := cell_keep f0' hdV
      replace pB := pB.trans (hdV.mono pB.size); replace pO := pO.now hdV; replace pbo := pbo.now hdV; replace pp := pp.now hdV
      have lV := pp.lt
      have lo2 := pbo.lt
      have hsV := pB.size
      obtain ⟨o0, o1⟩ := pbo.c2
      obtain ⟨p0, p1, p2, p3⟩ := pp.c4
      have qbo := pbo.alloc (.cells #[.int .i64 gp[q].dst, .int .i64 gp[q].src, .int .i64 0, .int .i64 (r[k] - gp[q].tokens)] 101)
      have qpp := pp.alloc (.cells #[.int .i64 gp[q].dst, .int .i64 gp[q].src, .int .i64 0, .int .i64 (r[k] - gp[q].tokens)] 101)
      have qO := pO.alloc (.cells #[.int .i64 gp[q].dst, .int .i64 gp[q].src, .int .i64 0, .int .i64 (r[k] - gp[q].tokens)] 101)
      have f0a := cell_keep f0' ((Below.refl _ _).alloc (Nat.le_refl _) (.cells #[.int .i64 gp[q].dst, .int .i64 gp[q].src, .int .i64 0, .int .i64 (r[k] - gp[q].tokens)] 101))
      obtain ⟨o0a, o1a⟩ := qbo.c2
      obtain ⟨p0a, p1a, p2a, p3a⟩ := qpp.c4
      have hw := hw'.out
      have hLst := lst_new1 Place.cells 4 Place.cells_len V.drew 101 ⟨gp[q].dst, gp[q].src, 0, r[k] - gp[q].tokens⟩ _ rfl _ rfl
      refine wp_region_E (fun w' => w'.cell? ⟨w3.heap.size, 1, none⟩ = some (.slice Y (gp.length + k) cy) ∧ w'.cell? ⟨wr.heap.size, 0, none⟩ = some (.int .i64 gp[q].src) ∧ w'.cell? ⟨wr.heap.size, 1, none⟩ = some (.int .i64 gp[q].dst) ∧ w'.cell? ⟨wr.heap.size, 3, none⟩ = some (.int .i64 gp[q].tokens) ∧ w'.cell? ⟨b3, off3 + k, none⟩ = some (.int .i64 r[k])) 17 (by kernel_rfl) ?_
      have hS0 : (fun w' : World => w'.cell? ⟨w3.heap.size, 1, none⟩ = some (.slice Y (gp.length + k) cy) ∧ w'.cell? ⟨wr.heap.size, 0, none⟩ = some (.int .i64 gp[q].src) ∧ w'.cell? ⟨wr.heap.size, 1, none⟩ = some (.int .i64 gp[q].dst) ∧ w'.cell? ⟨wr.heap.size, 3, none⟩ = some (.int .i64 gp[q].tokens) ∧ w'.cell? ⟨b3, off3 + k, none⟩ = some (.int .i64 r[k])) V.drew := ⟨o1, p0, p1, p3, f0'⟩
      refine wpAnyE_take (i := 0) (v := ?_) rfl (by kernel_rfl) (by kernel_rfl) (by kernel_rfl) (by kernel_rfl) (by kernel_rfl) (fun _ _ _ h => h) hS0 (by rfl) ?_ ?_
      rotate_left
      · intro w9 hSw
        try dsimp only at hSw
        obtain ⟨s0, s1, s2, s3, s4⟩ := hSw
        go_simp
        try with_reducible rfl
      try simp only [Act.put, List.setIfInBounds_toArray, List.set_cons_zero, List.set_cons_succ]
      refine wpAnyE_take (i := 1) (v := ?_) rfl (by kernel_rfl) (by kernel_rfl) (by kernel_rfl) (by kernel_rfl) (by kernel_rfl) (fun _ _ _ h => h) hS0 (by rfl) ?_ ?_
      rotate_left
      · intro w9 hSw
        try dsimp only at hSw
        obtain ⟨s0, s1, s2, s3, s4⟩ := hSw
        go_simp
        try with_reducible rfl
      try simp only [Act.put, List.setIfInBounds_toArray, List.set_cons_zero, List.set_cons_succ]
      refine wpAnyE_take (i := 2) (v := ?_) rfl (by kernel_rfl) (by kernel_rfl) (by kernel_rfl) (by kernel_rfl) (by kernel_rfl) (fun _ _ _ h => h) hS0 (by rfl) ?_ ?_
      rotate_left
      · intro w9 hSw
        try dsimp only at hSw
        obtain ⟨s0, s1, s2, s3, s4⟩ := hSw
        go_simp
        try with_reducible rfl
      try simp only [Act.put, List.setIfInBounds_toArray, List.set_cons_zero, List.set_cons_succ]
      refine wpAnyE_take (i := 3) (v := ?_) rfl (by kernel_rfl) (by kernel_rfl) (by kernel_rfl) (by kernel_rfl) (by kernel_rfl) (fun _ _ _ h => h) hS0 (by rfl) ?_ ?_
      rotate_left
      · intro w9 hSw
        try dsimp only at hSw
        obtain ⟨s0, s1, s2, s3, s4⟩ := hSw
        go_simp
        try with_reducible rfl
      try simp only [Act.put, List.setIfInBounds_toArray, List.set_cons_zero, List.set_cons_succ]
      refine wpAnyE_take (i := 4) (v := ?_) rfl (by kernel_rfl) (by kernel_rfl) (by kernel_rfl) (by kernel_rfl) (by kernel_rfl) (fun _ _ _ h => h) hS0 (by rfl) ?_ ?_
      rotate_left
      · intro w9 hSw
        try dsimp only at hSw
        obtain ⟨s0, s1, s2, s3, s4⟩ := hSw
        go_simp
        try with_reducible rfl
      try simp only [Act.put, List.setIfInBounds_toArray, List.set_cons_zero, List.set_cons_succ]
      refine wpAnyE_take (i := 5) (v := ?_) rfl (by kernel_rfl) (by kernel_rfl) (by kernel_rfl) (by kernel_rfl) (by kernel_rfl) (fun _ _ _ h => h) hS0 (by rfl) ?_ ?_
      rotate_left
      · intro w9 hSw
        try dsimp only at hSw
        obtain ⟨s0, s1, s2, s3, s4⟩ := hSw
        go_simp
        try with_reducible rfl
      try simp only [Act.put, List.setIfInBounds_toArray, List.set_cons_zero, List.set_cons_succ]
      refine wpAnyE_take (i := 6) (v := ?_) rfl (by kernel_rfl) (by kernel_rfl) (by kernel_rfl) (by kernel_rfl) (by kernel_rfl) (fun _ _ _ h => h) hS0 (by rfl) ?_ ?_
      rotate_left
      · intro w9 hSw
        try dsimp only at hSw
        obtain ⟨s0, s1, s2, s3, s4⟩ := hSw
        go_simp
        try with_reducible rfl
      try simp only [Act.put, List.setIfInBounds_toArray, List.set_cons_zero, List.set_cons_succ]
      refine wpAnyE_take (i := 7) (v := ?_) rfl (by kernel_rfl) (by kernel_rfl) (by kernel_rfl) (by kernel_rfl) (by kernel_rfl) (fun _ _ _ h => h) hS0 (by rfl) ?_ ?_
      rotate_left
      · intro w9 hSw
        try dsimp only at hSw
        obtain ⟨s0, s1, s2, s3, s4⟩ := hSw
        go_simp
        try with_reducible rfl
      try simp only [Act.put, List.setIfInBounds_toArray, List.set_cons_zero, List.set_cons_succ]
      refine wpAnyE_take (i := 8) (v := ?_) rfl (by kernel_rfl) (by kernel_rfl) (by kernel_rfl) (by kernel_rfl) (by kernel_rfl) (fun _ _ _ h => h) hS0 (by rfl) ?_ ?_
      rotate_left
      · intro w9 hSw
        try dsimp only at hSw
        obtain ⟨s0, s1, s2, s3, s4⟩ := hSw
        go_simp
        try with_reducible rfl
      try simp only [Act.put, List.setIfInBounds_toArray, List.set_cons_zero, List.set_cons_succ]
      refine wpAnyE_take (i := 9) (v := ?_) rfl (by kernel_rfl) (by kernel_rfl) (by kernel_rfl) (by kernel_rfl) (by kernel_rfl) (fun _ _ _ h => h) hS0 (by rfl) ?_ ?_
      rotate_left
      · intro w9 hSw
        try dsimp only at hSw
        obtain ⟨s0, s1, s2, s3, s4⟩ := hSw
        go_simp
        try with_reducible rfl
      try simp only [Act.put, List.setIfInBounds_toArray, List.set_cons_zero, List.set_cons_succ]
      refine wpAnyE_take (i := 10) (v := ?_) rfl (by kernel_rfl) (by kernel_rfl) (by kernel_rfl) (by kernel_rfl) (by kernel_rfl) (fun _ _ _ h => h) hS0 (by rfl) ?_ ?_
      rotate_left
      · intro w9 hSw
        try dsimp only at hSw
        obtain ⟨s0, s1, s2, s3, s4⟩ := hSw
        go_simp
        try with_reducible rfl
      try simp only [Act.put, List.setIfInBounds_toArray, List.set_cons_zero, List.set_cons_succ]
      refine wpAnyE_take (i := 11) (v := ?_) rfl (by kernel_rfl) (by kernel_rfl) (by kernel_rfl) (by kernel_rfl) (by kernel_rfl) (fun _ _ _ h => h) hS0 (by rfl) ?_ ?_
      rotate_left
      · intro w9 hSw
        try dsimp only at hSw
        obtain ⟨s0, s1, s2, s3, s4⟩ := hSw
        go_simp
        try with_reducible rfl
      try simp only [Act.put, List.setIfInBounds_toArray, List.set_cons_zero, List.set_cons_succ]
      refine wpAnyE_take (i := 12) (v := ?_) rfl (by kernel_rfl) (by kernel_rfl) (by kernel_rfl) (by kernel_rfl) (by kernel_rfl) (fun _ _ _ h => h) hS0 (by rfl) ?_ ?_
      rotate_left
      · intro w9 hSw
        try dsimp only at hSw
        obtain ⟨s0, s1, s2, s3, s4⟩ := hSw
        go_simp
        try with_reducible rfl
      try simp only [Act.put, List.setIfInBounds_toArray, List.set_cons_zero, List.set_cons_succ]
      refine wpAnyE_take (i := 13) (v := ?_) rfl (by kernel_rfl) (by kernel_rfl) (by kernel_rfl) (by kernel_rfl) (by kernel_rfl) (fun _ _ _ h => h) hS0 (by rfl) ?_ ?_
      rotate_left
      · intro w9 hSw
        try dsimp only at hSw
        obtain ⟨s0, s1, s2, s3, s4⟩ := hSw
        go_simp
        try with_reducible rfl
      try simp only [Act.put, List.setIfInBounds_toArray, List.set_cons_zero, List.set_cons_succ]
      refine wpAnyE_one (i := 14) rfl (by kernel_rfl) (fun K hK => ?_)
      go_simp
      refine hK.out _ _ (fun _ => ⟨o1a, p0a, p1a, p3a, f0a⟩) ?_
      clear hK K
      try simp only [Act.put, List.setIfInBounds_toArray, List.set_cons_zero, List.set_cons_succ]
      refine wpAnyE_one (i := 15) rfl (by kernel_rfl) (fun K hK => ?_)
      refine step_append_lst rfl _ _ 30 rfl Place.cells 4 Place.cells_one (by omega) W.heap.size 101 _ 32 Try.underlying30 info_place rfl (.slice Y (gp.length + k) cy) (gp ++ backs gp l r k) rfl qO _ _ _ _ [⟨gp[q].dst, gp[q].src, 0, r[k] - gp[q].tokens⟩] rfl hLst hlen (by omega) (Nat.le_trans hsV (by simp)) ?_
      intro v1 w1 hO1 hG hD
      obtain ⟨V1, cv1, rfl⟩ := own_shape_n hO1 hLL2.out
      have hbo' := qbo.grown hG (Ne.symm (qO.ne_blk qbo (by decide)))
      obtain ⟨o0b, o1b⟩ := hbo'.c2
      obtain ⟨z0b, z1b⟩ := hbo'.f2
      have hpp' := qpp.grown hG (fun hk => absurd (hlt3.out _ hk.symm).2 (Nat.lt_irrefl _))
      obtain ⟨p0b, p1b, p2b, p3b⟩ := hpp'.c4
      have f0b := cell_kept f0a hG (fun hk => by have q1 := (hlt3.out _ hk).1; have q2 := hbb3; simp only at q1 q2; omega)
      refine hK.out _ _ (fun _ => ⟨o1b, p0b, p1b, p3b, f0b⟩) ?_
      clear hK K
      try simp only [Act.put, List.setIfInBounds_toArray, List.set_cons_zero, List.set_cons_succ]
      refine wpAnyE_one (i := 16) rfl (by kernel_rfl) (fun K hK => ?_)
      go_simp
      refine hK.out _ _ (fun _ => ⟨o1b, p0b, p1b, p3b, f0b⟩) ?_
      clear hK K
      try simp only [Act.put, List.setIfInBounds_toArray, List.set_cons_zero, List.set_cons_succ]
      refine wpAnyE_one (i := 17) rfl (by kernel_rfl) (fun K hK => ?_)
      go_simp
      refine hK.out _ _ (fun h => absurd rfl h) ?_
      clear hK K
      try simp only [Act.put, List.setIfInBounds_toArray, List.set_cons_zero, List.set_cons_succ]
      refine wpAnyE_done (by kernel_rfl) ?_
      clear p0b p1b p2b p3b f0b o0a o1a p0a p1a p2a p3a f0a p0 p1 p2 p3 f0' o0 o1 hS0
      go_wp2
      go_roundw
      case rel => exact ⟨k + 1, hlt, by go_num, ⟨_, hbo'.set2b, by rw [← hT.out]; exact own_far hO1 (p := ⟨w3.heap.size, 1, none⟩) (hO1.ne_blk hbo' (by decide)) _⟩, (below_app (pB.alloc hsV _) (Nat.le_trans hsV (by simp)) hG qO (Nat.le_refl _)).setCell hs _⟩
      case measure => simp [intOf]; omega
    · obtain rfl : k = l.length := by omega
      obtain ⟨o0, o1⟩ := hbo.c2
      obtain ⟨r0, r1⟩ := (hb1.now hB).c2
      obtain ⟨z0, z1⟩ := (hb1.now hB).f2
      have hBt := hW.trans (hB.mono hW.size)
      go_wp2
      refine bodyPost_ret (v := .agg #[.int .i64 ge, .slice Y (gp.length + l.length) cy]) (by simp [results, Try.results63, go_sem, r0, r1]) rfl ⟨_, rfl, ((hO.far (p := ⟨w.heap.size + 1, 0, none⟩) l1 _).far (p := ⟨w.heap.size + 1, 1, none⟩) l1 _).rebase hW.size, (hBt.setCell (by simp <;> omega) _).setCell (by simp <;> omega) _⟩
set_option maxHeartbeats 1000000 in
set_option maxRecDepth 100000 in
theorem spec_l16Limit (v : Value) (ge : Int) (gp : List Place) (u : Value) (l : List Int) (t : Value) (r : List Int) (w : World) (h0 : Lst Place.cells 4 w w.heap.size v gp) (h1 : Lst intCell 1 w w.heap.size u l) (h2 : Lst intCell 1 w w.heap.size t r) (hg : Hid (okGraph ge gp = true)) (hb : Hid (bufOk gp.length l = true)) (hr : Hid (roomsOk gp l r = true)) :
    Calls Try.prog 130 #[.agg #[.int .i64 ge, v], u, t] w (RetG 101 w ge (gp ++ backs gp l r l.length)) := by
  obtain ⟨A, c, rfl⟩ := h0.shape
  obtain ⟨C, d, rfl⟩ := h1.shape
  obtain ⟨D, f, rfl⟩ := h2.shape
  have hm := (bufOk_at hb.out).1
  have hlen1 : l.length ≤ r.length := by have := roomsOk_len hr.out; omega
  have hgl := okGraph_len hg.out
  go_enter Try.func130, Try.ntmps130
  go_wp2_with fail
  have hW : Below w.heap.size w ((w.alloc (.cells #[.int .i64 ge, .slice A gp.length c] 32)).alloc (.cells #[.int .i64 0, .slice none 0 0] 32)) := (((Below.refl _ _).alloc (Nat.le_refl _) _).alloc (by first | (simp; done) | (simp; omega)) _); have hb0 : Blk ((w.alloc (.cells #[.int .i64 ge, .slice A gp.length c] 32)).alloc (.cells #[.int .i64 0, .slice none 0 0] 32)) (w.heap.size) 32 #[.int .i64 ge, .slice A gp.length c] := ((Blk.newAt w _ (by first | rfl | (simp; done) | (simp; omega))).alloc _); have hb1 : Blk ((w.alloc (.cells #[.int .i64 ge, .slice A gp.length c] 32)).alloc (.cells #[.int .i64 0, .slice none 0 0] 32)) (w.heap.size + 1) 32 #[.int .i64 0, .slice none 0 0] := (Blk.newAt (w.alloc (.cells #[.int .i64 ge, .slice A gp.length c] 32)) _ (by first | rfl | (simp; done) | (simp; omega))); replace h0 := h0.now hW; replace h1 := h1.now hW; replace h2 := h2.now hW; have hsW : w.heap.size + 2 = ((w.alloc (.cells #[.int .i64 ge, .slice A gp.length c] 32)).alloc (.cells #[.int .i64 0, .slice none 0 0] 32)).heap.size := (by first | rfl | (simp; done) | (simp; omega)); generalize ((w.alloc (.cells #[.int .i64 ge, .slice A gp.length c] 32)).alloc (.cells #[.int .i64 0, .slice none 0 0] 32)) = W at *; replace hsW := Lib.hid hsW
  refine (spec_l11Own _ _ _ _ h0 (by omega)).mono ?_
  rintro e w3 ⟨x, rfl, hO, hB⟩
  obtain ⟨X, cx, rfl⟩ := hO.shape
  obtain ⟨k0, k1⟩ := (hb0.now hB).c2
  have n1 := (hb0.now hB).lt
  have hs := hB.size
  have l1 := hb1.lt
  go_wp2
  clear n1 k0 k1
  go_loopw [8, 9] (fun i _ wr => ∃ k : Nat, k ≤ l.length ∧ i = .int .i64 k ∧ (∃ y, Blk wr w3.heap.size 32 #[.int .i64 ge, y] ∧ Own Place.cells 4 101 wr W.heap.size y (gp ++ backs gp l r k)) ∧ Below W.heap.size W wr) (fun i _ _ => l.length - (intOf i).toNat)
  case atStart => exact ⟨0, Nat.zero_le _, rfl, ⟨_, Blk.newAt _ _ rfl, by simpa [backs] using hO.alloc _⟩, hB.alloc hs _⟩
  case round =>
    clear hO hB
    obtain ⟨k, hk, rfl, ⟨y, hbo, hO⟩, hB⟩ := hrel
    obtain ⟨Y, cy, rfl⟩ := hO.shape
    rw [show (gp ++ backs gp l r k).length = gp.length + k by simp [backs_len]] at hO hbo
    have hs3 := hB.size
    have lo := hbo.lt
    by_cases hlt : k < l.length
    · have hlt2 : k < r.length := by omega
      obtain ⟨k0, k1⟩ := (hb0.now hB).c2
      have n0 := (hb0.now hB).lt
      obtain ⟨q, hq1, hql⟩ := (bufOk_at hb.out).2 k hlt
      obtain ⟨b, off, hb1', hbb, d0, d1, d2, d3⟩ := places_at (h0.now hB) q hql
      cases hb1'
      obtain ⟨b2, off2, hb2, hbb2, e0⟩ := ints_at (h1.now hB) k hlt
      cases hb2
      obtain ⟨b3, off3, hb3, hbb3, f0⟩ := ints_at h2 k hlt2
      cases hb3
      replace f0 := cell_keep f0 hB
      rw [hq1] at e0
      have hx : Hid (backP gp l[k] r[k] = ⟨gp[q].dst, gp[q].src, 0, r[k] - gp[q].tokens⟩) := by show _ = _; rw [hq1]; simp only [backP, plAt_nat gp q hql]
      have hT : Hid ((gp ++ backs gp l r k) ++ [⟨gp[q].dst, gp[q].src, 0, r[k] - gp[q].tokens⟩] = gp ++ backs gp l r (k + 1)) := by show _ = _; rw [backs_succ gp l r k hlt hlt2, List.append_assoc, hx.out]
      have hp := okGraph_place hg.out (List.getElem_mem hql)
      have hrk := roomsOk_at hr.out k hlt hlt2
      have hlen : (gp ++ backs gp l r k).length + [(⟨gp[q].dst, gp[q].src, 0, r[k] - gp[q].tokens⟩ : Place)].length ≤ 1099511627776 := by simp [backs_len]; omega
      have hLL2 : Hid (((gp ++ backs gp l r k) ++ [(⟨gp[q].dst, gp[q].src, 0, r[k] - gp[q].tokens⟩ : Place)]).length = gp.length + k + 1) := by show _ = _; simp only [List.length_append, backs_len, List.length_cons, List.length_nil]
      have hq1' := Lib.hid hq1
      clear hq1
      have hw : IntKind.i64.wrap (r[k] - gp[q].tokens) = r[k] - gp[q].tokens := IntWalk.i64_in _ (by omega)
      have hw' := Lib.hid hw
      clear hw
      have hlt3 := Lib.hid hO.lt
      go_wp2_with fail
      have hdw : Below wr.heap.size wr wr.drew := (Below.refl _ _).drew
      have k1_ := cell_keep k1 hdw
      have e0_ := cell_keep e0 hdw
      have d0_ := cell_keep d0 hdw
      have d1_ := cell_keep d1 hdw
      have d2_ := cell_keep d2 hdw
      have d3_ := cell_keep d3 hdw
      have hbz : Below wr.drew.heap.size wr.drew (wr.drew.alloc (.cells #[.int .i64 0, .int .i64 0, .int .i64 0, .int .i64 0] 101)) := (Below.refl _ _).alloc (Nat.le_refl _) _
      refine wp_region_E (fun w' => w'.cell? ⟨w.heap.size, 1, none⟩ = some (.slice (some ⟨b, off, none⟩) gp.length c) ∧ w'.cell? ⟨b2, off2 + k, none⟩ = some (.int .i64 q) ∧ w'.cell? ⟨b, off + q * 4, none⟩ = some (.int .i64 gp[q].src) ∧ w'.cell? ⟨b, off + q * 4 + 1, none⟩ = some (.int .i64 gp[q].dst) ∧ w'.cell? ⟨b, off + q * 4 + 2, none⟩ = some (.int .i64 gp[q].delay) ∧ w'.cell? ⟨b, off + q * 4 + 3, none⟩ = some (.int .i64 gp[q].tokens)) 9 (by kernel_rfl) ?_
      have hS0 : (fun w' : World => w'.cell? ⟨w.heap.size, 1, none⟩ = some (.slice (some ⟨b, off, none⟩) gp.length c) ∧ w'.cell? ⟨b2, off2 + k, none⟩ = some (.int .i64 q) ∧ w'.cell? ⟨b, off + q * 4, none⟩ = some (.int .i64 gp[q].src) ∧ w'.cell? ⟨b, off + q * 4 + 1, none⟩ = some (.int .i64 gp[q].dst) ∧ w'.cell? ⟨b, off + q * 4 + 2, none⟩ = some (.int .i64 gp[q].delay) ∧ w'.cell? ⟨b, off + q * 4 + 3, none⟩ = some (.int .i64 gp[q].tokens)) wr.drew := ⟨k1_, e0_, d0_, d1_, d2_, d3_⟩
      refine wpAnyE_take (i := 0) (v := ?_) rfl (by kernel_rfl) (by kernel_rfl) (by kernel_rfl) (by kernel_rfl) (by kernel_rfl) (fun _ _ _ h => h) hS0 (by rfl) ?_ ?_
      rotate_left
      · intro w9 hSw
        try dsimp only at hSw
        obtain ⟨s0, s1, s2, s3, s4, s5⟩ := hSw
        go_simp
        try with_reducible rfl
      try simp only [Act.put, List.setIfInBounds_toArray, List.set_cons_zero, List.set_cons_succ]
      refine wpAnyE_take (i := 1) (v := ?_) rfl (by kernel_rfl) (by kernel_rfl) (by kernel_rfl) (by kernel_rfl) (by kernel_rfl) (fun _ _ _ h => h) hS0 (by rfl) ?_ ?_
      rotate_left
      · intro w9 hSw
        try dsimp only at hSw
        obtain ⟨s0, s1, s2, s3, s4, s5⟩ := hSw
        go_simp
        try with_reducible rfl
      try simp only [Act.put, List.setIfInBounds_toArray, List.set_cons_zero, List.set_cons_succ]
      refine wpAnyE_take (i := 2) (v := ?_) rfl (by kernel_rfl) (by kernel_rfl) (by kernel_rfl) (by kernel_rfl) (by kernel_rfl) (fun _ _ _ h => h) hS0 (by rfl) ?_ ?_
      rotate_left
      · intro w9 hSw
        try dsimp only at hSw
        obtain ⟨s0, s1, s2, s3, s4, s5⟩ := hSw
        go_simp
        try with_reducible rfl
      try simp only [Act.put, List.setIfInBounds_toArray, List.set_cons_zero, List.set_cons_succ]
      refine wpAnyE_take (i := 3) (v := ?_) rfl (by kernel_rfl) (by kernel_rfl) (by kernel_rfl) (by kernel_rfl) (by kernel_rfl) (fun _ _ _ h => h) hS0 (by rfl) ?_ ?_
      rotate_left
      · intro w9 hSw
        try dsimp only at hSw
        obtain ⟨s0, s1, s2, s3, s4, s5⟩ := hSw
        go_simp
        try with_reducible rfl
      try simp only [Act.put, List.setIfInBounds_toArray, List.set_cons_zero, List.set_cons_succ]
      refine wpAnyE_take (i := 4) (v := ?_) rfl (by kernel_rfl) (by kernel_rfl) (by kernel_rfl) (by kernel_rfl) (by kernel_rfl) (fun _ _ _ h => h) hS0 (by rfl) ?_ ?_
      rotate_left
      · intro w9 hSw
        try dsimp only at hSw
        obtain ⟨s0, s1, s2, s3, s4, s5⟩ := hSw
        go_simp
        try with_reducible rfl
      try simp only [Act.put, List.setIfInBounds_toArray, List.set_cons_zero, List.set_cons_succ]
      refine wpAnyE_take (i := 5) (v := ?_) rfl (by kernel_rfl) (by kernel_rfl) (by kernel_rfl) (by kernel_rfl) (by kernel_rfl) (fun _ _ _ h => h) hS0 (by rfl) ?_ ?_
      rotate_left
      · intro w9 hSw
        try dsimp only at hSw
        obtain ⟨s0, s1, s2, s3, s4, s5⟩ := hSw
        go_simp
        try with_reducible rfl
      try simp only [Act.put, List.setIfInBounds_toArray, List.set_cons_zero, List.set_cons_succ]
      refine wpAnyE_take (i := 6) (v := ?_) rfl (by kernel_rfl) (by kernel_rfl) (by kernel_rfl) (by kernel_rfl) (by kernel_rfl) (fun _ _ _ h => h) hS0 (by rfl) ?_ ?_
      rotate_left
      · intro w9 hSw
        try dsimp only at hSw
        obtain ⟨s0, s1, s2, s3, s4, s5⟩ := hSw
        go_simp
        try with_reducible rfl
      try simp only [Act.put, List.setIfInBounds_toArray, List.set_cons_zero, List.set_cons_succ]
      refine wpAnyE_take (i := 7) (v := ?_) rfl (by kernel_rfl) (by kernel_rfl) (by kernel_rfl) (by kernel_rfl) (by kernel_rfl) (fun _ _ _ h => h) hS0 (by rfl) ?_ ?_
      rotate_left
      · intro w9 hSw
        try dsimp only at hSw
        obtain ⟨s0, s1, s2, s3, s4, s5⟩ := hSw
        go_simp
        try with_reducible rfl
      try simp only [Act.put, List.setIfInBounds_toArray, List.set_cons_zero, List.set_cons_succ]
      refine wpAnyE_one (i := 8) rfl (by kernel_rfl) (fun K hK => ?_)
      go_simp
      refine hK.out _ _ (fun _ => ⟨cell_keep k1_ hbz, cell_keep e0_ hbz, cell_keep d0_ hbz, cell_keep d1_ hbz, cell_keep d2_ hbz, cell_keep d3_ hbz⟩) ?_
      clear hK K
      try simp only [Act.put, List.setIfInBounds_toArray, List.set_cons_zero, List.set_cons_succ]
      refine wpAnyE_one (i := 9) rfl (by kernel_rfl) (fun K hK => ?_)
      go_simp
      refine hK.out _ _ (fun h => absurd rfl h) ?_
      clear hK K
      try simp only [Act.put, List.setIfInBounds_toArray, List.set_cons_zero, List.set_cons_succ]
      refine wpAnyE_done (by kernel_rfl) ?_
      clear hS0 hbz k1_ e0_ d0_ d1_ d2_ d3_
      go_wp2_with fail
      have hdP : Below (wr.alloc (.cells #[.int .i64 gp[q].src, .int .i64 gp[q].dst, .int .i64 gp[q].delay, .int .i64 gp[q].tokens] 101)).heap.size (wr.alloc (.cells #[.int .i64 gp[q].src, .int .i64 gp[q].dst, .int .i64 gp[q].delay, .int .i64 gp[q].tokens] 101)) (wr.alloc (.cells #[.int .i64 gp[q].src, .int .i64 gp[q].dst, .int .i64 gp[q].delay, .int .i64 gp[q].tokens] 101)).drew := (Below.refl _ _).drew
      have pB := (hB.alloc hs3 (.cells #[.int .i64 gp[q].src, .int .i64 gp[q].dst, .int .i64 gp[q].delay, .int .i64 gp[q].tokens] 101)).drew
      have pO := (hO.alloc (.cells #[.int .i64 gp[q].src, .int .i64 gp[q].dst, .int .i64 gp[q].delay, .int .i64 gp[q].tokens] 101)).now hdP
      have pbo := (hbo.alloc (.cells #[.int .i64 gp[q].src, .int .i64 gp[q].dst, .int .i64 gp[q].delay, .int .i64 gp[q].tokens] 101)).now hdP
      have pp : Blk (wr.alloc (.cells #[.int .i64 gp[q].src, .int .i64 gp[q].dst, .int .i64 gp[q].delay, .int .i64 gp[q].tokens] 101)) wr.heap.size 101 #[.int .i64 gp[q].src, .int .i64 gp[q].dst, .int .i64 gp[q].delay, .int .i64 gp[q].tokens] := Blk.new _ _ _
      replace pp := pp.now hdP
      have f0' := cell_keep (cell_keep f0 ((Below.refl _ _).alloc (Nat.le_refl _) (.cells #[.int .i64 gp[q].src, .int .i64 gp[q].dst, .int .i64 gp[q].delay, .int .i64 gp[q].tokens] 101))) hdP
      clear d0 d1 d2 d3 e0 f0 hO hB hbo k0 k1 hdP
      generalize (wr.alloc (.cells #[.int .i64 gp[q].src, .int .i64 gp[q].dst, .int .i64 gp[q].delay, .int .i64 gp[q].tokens] 101)).drew = V at *
      have hdV : Below V.heap.size V V.drew := (Below.refl _ _).drew
      replace f0' := cell_keep f0' hdV
      replace pB := pB.trans (hdV.mono pB.size); replace pO := pO.now hdV; replace pbo := pbo.now hdV; replace pp := pp.now hdV
      have lV := pp.lt
      have lo2 := pbo.lt
      have hsV := pB.size
      obtain ⟨o0, o1⟩ := pbo.c2
      obtain ⟨p0, p1, p2, p3⟩ := pp.c4
      have qbo := pbo.alloc (.cells #[.int .i64 gp[q].dst, .int .i64 gp[q].src, .int .i64 0, .int .i64 (r[k] - gp[q].tokens)] 101)
      have qpp := pp.alloc (.cells #[.int .i64 gp[q].dst, .int .i64 gp[q].src, .int .i64 0, .int .i64 (r[k] - gp[q].tokens)] 101)
      have qO := pO.alloc (.cells #[.int .i64 gp[q].dst, .int .i64 gp[q].src, .int .i64 0, .int .i64 (r[k] - gp[q].tokens)] 101)
      have f0a := cell_keep f0' ((Below.refl _ _).alloc (Nat.le_refl _) (.cells #[.int .i64 gp[q].dst, .int .i64 gp[q].src, .int .i64 0, .int .i64 (r[k] - gp[q].tokens)] 101))
      obtain ⟨o0a, o1a⟩ := qbo.c2
      obtain ⟨p0a, p1a, p2a, p3a⟩ := qpp.c4
      have hw := hw'.out
      have hLst := lst_new1 Place.cells 4 Place.cells_len V.drew 101 ⟨gp[q].dst, gp[q].src, 0, r[k] - gp[q].tokens⟩ _ rfl _ rfl
      refine wp_region_E (fun w' => w'.cell? ⟨w3.heap.size, 1, none⟩ = some (.slice Y (gp.length + k) cy) ∧ w'.cell? ⟨wr.heap.size, 0, none⟩ = some (.int .i64 gp[q].src) ∧ w'.cell? ⟨wr.heap.size, 1, none⟩ = some (.int .i64 gp[q].dst) ∧ w'.cell? ⟨wr.heap.size, 3, none⟩ = some (.int .i64 gp[q].tokens) ∧ w'.cell? ⟨b3, off3 + k, none⟩ = some (.int .i64 r[k])) 17 (by kernel_rfl) ?_
      have hS0 : (fun w' : World => w'.cell? ⟨w3.heap.size, 1, none⟩ = some (.slice Y (gp.length + k) cy) ∧ w'.cell? ⟨wr.heap.size, 0, none⟩ = some (.int .i64 gp[q].src) ∧ w'.cell? ⟨wr.heap.size, 1, none⟩ = some (.int .i64 gp[q].dst) ∧ w'.cell? ⟨wr.heap.size, 3, none⟩ = some (.int .i64 gp[q].tokens) ∧ w'.cell? ⟨b3, off3 + k, none⟩ = some (.int .i64 r[k])) V.drew := ⟨o1, p0, p1, p3, f0'⟩
      refine wpAnyE_take (i := 0) (v := ?_) rfl (by kernel_rfl) (by kernel_rfl) (by kernel_rfl) (by kernel_rfl) (by kernel_rfl) (fun _ _ _ h => h) hS0 (by rfl) ?_ ?_
      rotate_left
      · intro w9 hSw
        try dsimp only at hSw
        obtain ⟨s0, s1, s2, s3, s4⟩ := hSw
        go_simp
        try with_reducible rfl
      try simp only [Act.put, List.setIfInBounds_toArray, List.set_cons_zero, List.set_cons_succ]
      refine wpAnyE_take (i := 1) (v := ?_) rfl (by kernel_rfl) (by kernel_rfl) (by kernel_rfl) (by kernel_rfl) (by kernel_rfl) (fun _ _ _ h => h) hS0 (by rfl) ?_ ?_
      rotate_left
      · intro w9 hSw
        try dsimp only at hSw
        obtain ⟨s0, s1, s2, s3, s4⟩ := hSw
        go_simp
        try with_reducible rfl
      try simp only [Act.put, List.setIfInBounds_toArray, List.set_cons_zero, List.set_cons_succ]
      refine wpAnyE_take (i := 2) (v := ?_) rfl (by kernel_rfl) (by kernel_rfl) (by kernel_rfl) (by kernel_rfl) (by kernel_rfl) (fun _ _ _ h => h) hS0 (by rfl) ?_ ?_
      rotate_left
      · intro w9 hSw
        try dsimp only at hSw
        obtain ⟨s0, s1, s2, s3, s4⟩ := hSw
        go_simp
        try with_reducible rfl
      try simp only [Act.put, List.setIfInBounds_toArray, List.set_cons_zero, List.set_cons_succ]
      refine wpAnyE_take (i := 3) (v := ?_) rfl (by kernel_rfl) (by kernel_rfl) (by kernel_rfl) (by kernel_rfl) (by kernel_rfl) (fun _ _ _ h => h) hS0 (by rfl) ?_ ?_
      rotate_left
      · intro w9 hSw
        try dsimp only at hSw
        obtain ⟨s0, s1, s2, s3, s4⟩ := hSw
        go_simp
        try with_reducible rfl
      try simp only [Act.put, List.setIfInBounds_toArray, List.set_cons_zero, List.set_cons_succ]
      refine wpAnyE_take (i := 4) (v := ?_) rfl (by kernel_rfl) (by kernel_rfl) (by kernel_rfl) (by kernel_rfl) (by kernel_rfl) (fun _ _ _ h => h) hS0 (by rfl) ?_ ?_
      rotate_left
      · intro w9 hSw
        try dsimp only at hSw
        obtain ⟨s0, s1, s2, s3, s4⟩ := hSw
        go_simp
        try with_reducible rfl
      try simp only [Act.put, List.setIfInBounds_toArray, List.set_cons_zero, List.set_cons_succ]
      refine wpAnyE_take (i := 5) (v := ?_) rfl (by kernel_rfl) (by kernel_rfl) (by kernel_rfl) (by kernel_rfl) (by kernel_rfl) (fun _ _ _ h => h) hS0 (by rfl) ?_ ?_
      rotate_left
      · intro w9 hSw
        try dsimp only at hSw
        obtain ⟨s0, s1, s2, s3, s4⟩ := hSw
        go_simp
        try with_reducible rfl
      try simp only [Act.put, List.setIfInBounds_toArray, List.set_cons_zero, List.set_cons_succ]
      refine wpAnyE_take (i := 6) (v := ?_) rfl (by kernel_rfl) (by kernel_rfl) (by kernel_rfl) (by kernel_rfl) (by kernel_rfl) (fun _ _ _ h => h) hS0 (by rfl) ?_ ?_
      rotate_left
      · intro w9 hSw
        try dsimp only at hSw
        obtain ⟨s0, s1, s2, s3, s4⟩ := hSw
        go_simp
        try with_reducible rfl
      try simp only [Act.put, List.setIfInBounds_toArray, List.set_cons_zero, List.set_cons_succ]
      refine wpAnyE_take (i := 7) (v := ?_) rfl (by kernel_rfl) (by kernel_rfl) (by kernel_rfl) (by kernel_rfl) (by kernel_rfl) (fun _ _ _ h => h) hS0 (by rfl) ?_ ?_
      rotate_left
      · intro w9 hSw
        try dsimp only at hSw
        obtain ⟨s0, s1, s2, s3, s4⟩ := hSw
        go_simp
        try with_reducible rfl
      try simp only [Act.put, List.setIfInBounds_toArray, List.set_cons_zero, List.set_cons_succ]
      refine wpAnyE_take (i := 8) (v := ?_) rfl (by kernel_rfl) (by kernel_rfl) (by kernel_rfl) (by kernel_rfl) (by kernel_rfl) (fun _ _ _ h => h) hS0 (by rfl) ?_ ?_
      rotate_left
      · intro w9 hSw
        try dsimp only at hSw
        obtain ⟨s0, s1, s2, s3, s4⟩ := hSw
        go_simp
        try with_reducible rfl
      try simp only [Act.put, List.setIfInBounds_toArray, List.set_cons_zero, List.set_cons_succ]
      refine wpAnyE_take (i := 9) (v := ?_) rfl (by kernel_rfl) (by kernel_rfl) (by kernel_rfl) (by kernel_rfl) (by kernel_rfl) (fun _ _ _ h => h) hS0 (by rfl) ?_ ?_
      rotate_left
      · intro w9 hSw
        try dsimp only at hSw
        obtain ⟨s0, s1, s2, s3, s4⟩ := hSw
        go_simp
        try with_reducible rfl
      try simp only [Act.put, List.setIfInBounds_toArray, List.set_cons_zero, List.set_cons_succ]
      refine wpAnyE_take (i := 10) (v := ?_) rfl (by kernel_rfl) (by kernel_rfl) (by kernel_rfl) (by kernel_rfl) (by kernel_rfl) (fun _ _ _ h => h) hS0 (by rfl) ?_ ?_
      rotate_left
      · intro w9 hSw
        try dsimp only at hSw
        obtain ⟨s0, s1, s2, s3, s4⟩ := hSw
        go_simp
        try with_reducible rfl
      try simp only [Act.put, List.setIfInBounds_toArray, List.set_cons_zero, List.set_cons_succ]
      refine wpAnyE_take (i := 11) (v := ?_) rfl (by kernel_rfl) (by kernel_rfl) (by kernel_rfl) (by kernel_rfl) (by kernel_rfl) (fun _ _ _ h => h) hS0 (by rfl) ?_ ?_
      rotate_left
      · intro w9 hSw
        try dsimp only at hSw
        obtain ⟨s0, s1, s2, s3, s4⟩ := hSw
        go_simp
        try with_reducible rfl
      try simp only [Act.put, List.setIfInBounds_toArray, List.set_cons_zero, List.set_cons_succ]
      refine wpAnyE_take (i := 12) (v := ?_) rfl (by kernel_rfl) (by kernel_rfl) (by kernel_rfl) (by kernel_rfl) (by kernel_rfl) (fun _ _ _ h => h) hS0 (by rfl) ?_ ?_
      rotate_left
      · intro w9 hSw
        try dsimp only at hSw
        obtain ⟨s0, s1, s2, s3, s4⟩ := hSw
        go_simp
        try with_reducible rfl
      try simp only [Act.put, List.setIfInBounds_toArray, List.set_cons_zero, List.set_cons_succ]
      refine wpAnyE_take (i := 13) (v := ?_) rfl (by kernel_rfl) (by kernel_rfl) (by kernel_rfl) (by kernel_rfl) (by kernel_rfl) (fun _ _ _ h => h) hS0 (by rfl) ?_ ?_
      rotate_left
      · intro w9 hSw
        try dsimp only at hSw
        obtain ⟨s0, s1, s2, s3, s4⟩ := hSw
        go_simp
        try with_reducible rfl
      try simp only [Act.put, List.setIfInBounds_toArray, List.set_cons_zero, List.set_cons_succ]
      refine wpAnyE_one (i := 14) rfl (by kernel_rfl) (fun K hK => ?_)
      go_simp
      refine hK.out _ _ (fun _ => ⟨o1a, p0a, p1a, p3a, f0a⟩) ?_
      clear hK K
      try simp only [Act.put, List.setIfInBounds_toArray, List.set_cons_zero, List.set_cons_succ]
      refine wpAnyE_one (i := 15) rfl (by kernel_rfl) (fun K hK => ?_)
      refine step_append_lst rfl _ _ 30 rfl Place.cells 4 Place.cells_one (by omega) W.heap.size 101 _ 32 Try.underlying30 info_place rfl (.slice Y (gp.length + k) cy) (gp ++ backs gp l r k) rfl qO _ _ _ _ [⟨gp[q].dst, gp[q].src, 0, r[k] - gp[q].tokens⟩] rfl hLst hlen (by omega) (Nat.le_trans hsV (by simp)) ?_
      intro v1 w1 hO1 hG hD
      obtain ⟨V1, cv1, rfl⟩ := own_shape_n hO1 hLL2.out
      have hbo' := qbo.grown hG (Ne.symm (qO.ne_blk qbo (by decide)))
      obtain ⟨o0b, o1b⟩ := hbo'.c2
      obtain ⟨z0b, z1b⟩ := hbo'.f2
      have hpp' := qpp.grown hG (fun hk => absurd (hlt3.out _ hk.symm).2 (Nat.lt_irrefl _))
      obtain ⟨p0b, p1b, p2b, p3b⟩ := hpp'.c4
      have f0b := cell_kept f0a hG (fun hk => by have q1 := (hlt3.out _ hk).1; have q2 := hbb3; simp only at q1 q2; omega)
      refine hK.out _ _ (fun _ => ⟨o1b, p0b, p1b, p3b, f0b⟩) ?_
      clear hK K
      try simp only [Act.put, List.setIfInBounds_toArray, List.set_cons_zero, List.set_cons_succ]
      refine wpAnyE_one (i := 16) rfl (by kernel_rfl) (fun K hK => ?_)
      go_simp
      refine hK.out _ _ (fun _ => ⟨o1b, p0b, p1b, p3b, f0b⟩) ?_
      clear hK K
      try simp only [Act.put, List.setIfInBounds_toArray, List.set_cons_zero, List.set_cons_succ]
      refine wpAnyE_one (i := 17) rfl (by kernel_rfl) (fun K hK => ?_)
      go_simp
      refine hK.out _ _ (fun h => absurd rfl h) ?_
      clear hK K
      try simp only [Act.put, List.setIfInBounds_toArray, List.set_cons_zero, List.set_cons_succ]
      refine wpAnyE_done (by kernel_rfl) ?_
      clear p0b p1b p2b p3b f0b o0a o1a p0a p1a p2a p3a f0a p0 p1 p2 p3 f0' o0 o1 hS0
      go_wp2
      go_roundw
      case rel => exact ⟨k + 1, hlt, by go_num, ⟨_, hbo'.set2b, by rw [← hT.out]; exact own_far hO1 (p := ⟨w3.heap.size, 1, none⟩) (hO1.ne_blk hbo' (by decide)) _⟩, (below_app (pB.alloc hsV _) (Nat.le_trans hsV (by simp)) hG qO (Nat.le_refl _)).setCell hs _⟩
      case measure => simp [intOf]; omega
    · obtain rfl : k = l.length := by omega
      obtain ⟨o0, o1⟩ := hbo.c2
      obtain ⟨r0, r1⟩ := (hb1.now hB).c2
      obtain ⟨z0, z1⟩ := (hb1.now hB).f2
      have hBt := hW.trans (hB.mono hW.size)
      go_wp2
      refine bodyPost_ret (v := .agg #[.int .i64 ge, .slice Y (gp.length + l.length) cy]) (by simp [results, Try.results130, go_sem, r0, r1]) rfl ⟨_, rfl, ((hO.far (p := ⟨w.heap.size + 1, 0, none⟩) l1 _).far (p := ⟨w.heap.size + 1, 1, none⟩) l1 _).rebase hW.size, (hBt.setCell (by simp <;> omega) _).setCell (by simp <;> omega) _⟩
set_option maxHeartbeats 1000000 in
set_option maxRecDepth 100000 in
theorem spec_l16All (v : Value) (ge : Int) (gp : List Place) (u : Value) (l : List Int) (t : Value) (r : List Int) (w : World) (h0 : Lst Place.cells 4 w w.heap.size v gp) (h1 : Lst intCell 1 w w.heap.size u l) (h2 : Lst intCell 1 w w.heap.size t r) :
    Calls Try.prog 76 #[.agg #[.int .i64 ge, v], u, t] w fun e w' => e = .returned (.int .i64 (limCode ge gp l r)) ∧ Below w.heap.size w w' := by
  obtain ⟨A, c, rfl⟩ := h0.shape
  obtain ⟨C, d, rfl⟩ := h1.shape
  obtain ⟨D, f, rfl⟩ := h2.shape
  have hm := h1.len_le
  have hm2 := h2.len_le
  have hL := Lib.hid (limCode_eq ge gp l r)
  go_enter Try.func76, Try.ntmps76
  go_wp2_with fail
  have hW : Below w.heap.size w (w.alloc (.cells #[.int .i64 ge, .slice A gp.length c] 32)) := (Below.refl _ _).alloc (Nat.le_refl _) _; have hb0 : Blk (w.alloc (.cells #[.int .i64 ge, .slice A gp.length c] 32)) w.heap.size 32 #[.int .i64 ge, .slice A gp.length c] := Blk.new _ _ _; replace h0 := h0.now hW; replace h1 := h1.now hW; replace h2 := h2.now hW; generalize (w.alloc (.cells #[.int .i64 ge, .slice A gp.length c] 32)) = W at *
  refine (spec_l16Code _ _ _ _ _ _ h0 h1).mono ?_
  rintro e w1 ⟨rfl, hB⟩
  replace hW := hW.trans (hB.mono hW.size); replace h0 := h0.now hB; replace h1 := h1.now hB; replace h2 := h2.now hB; replace hb0 := hb0.now hB
  clear hB
  obtain ⟨k0, k1⟩ := hb0.c2
  by_cases hz : bufCode ge gp l = 0
  · have hg : okGraph ge gp = true := by cases e : okGraph ge gp <;> simp [bufCode, e] at hz ⊢
    have hb : Hid (bufOk gp.length l = true) := by show _ = _; cases e : bufOk gp.length l <;> simp [bufCode, e, hg] at hz ⊢
    have hg' := Lib.hid hg
    have hgl := okGraph_len hg
    have hz1 : (bufCode ge gp l != 0) = false := by simp [hz]
    have hz' := Lib.hid hz
    clear hg hz
    have hE := Lib.hid (show roomsOk gp l r = (decide (r.length = l.length) && roomsUp gp l r l.length) from rfl)
    by_cases h : r.length = l.length
    · have hq : ((r.length : Int) != (l.length : Int)) = false := by simp [h]
      have hlen1 : l.length ≤ r.length := by omega
      have hE' : Hid (roomsOk gp l r = roomsUp gp l r l.length) := by show _ = _; rw [hE.out, decide_eq_true h]; rfl
      clear h
      go_wp2
      go_loopw [8, 9, 10] (fun i _ _ wr => ∃ k : Nat, k ≤ l.length ∧ i = .int .i64 k ∧ Hid (roomsUp gp l r k = true) ∧ Below w1.heap.size w1 wr) (fun i _ _ _ => l.length - (intOf i).toNat)
      case atStart => exact ⟨0, Nat.zero_le _, rfl, rfl, Below.refl _ _⟩
      case round =>
        clear k0 k1
        obtain ⟨k, hk, rfl, hA, hB⟩ := hrel
        have hs := hB.size
        obtain ⟨k0, k1⟩ := (hb0.now hB).c2
        by_cases hlt : k < l.length
        · have hlt2 : k < r.length := by omega
          obtain ⟨q, hq1, hql⟩ := (bufOk_at hb.out).2 k hlt
          obtain ⟨b, off, hb1, hbb, d0, d1, d2, d3⟩ := places_at (h0.now hB) q hql
          cases hb1
          obtain ⟨b2, off2, hb2, hbb2, e0⟩ := ints_at (h1.now hB) k hlt
          cases hb2
          obtain ⟨b3, off3, hb3, hbb3, f0⟩ := ints_at (h2.now hB) k hlt2
          cases hb3
          rw [hq1] at e0
          have hS := Lib.hid (roomsUp_succ gp l r k hlt hlt2)
          have hF := Lib.hid (roomsUp_false gp l r k l.length hlt hlt2 hlt)
          have hpl : Hid (plAt gp l[k] = gp[q]) := by show _ = _; rw [hq1]; exact plAt_nat gp q hql
          have hp := okGraph_place hg'.out (List.getElem_mem hql)
          have ht := hp.2.2.2
          have hq1' := Lib.hid hq1
          clear hq1
          have hk1 : (0 : Int) ≤ (k : Int) := by omega
          have hk2 : (k : Int) < (l.length : Int) := by omega
          have hq0 : (0 : Int) ≤ (q : Int) := by omega
          have hq2 : (q : Int) < (gp.length : Int) := by omega
          go_wp2_with fail
          go_region_held3 (fun w' => w'.cell? ⟨w.heap.size, 1, none⟩ = some (.slice (some ⟨b, off, none⟩) gp.length c) ∧ w'.cell? ⟨b2, off2 + k, none⟩ = some (.int .i64 q) ∧ w'.cell? ⟨b, off + q * 4, none⟩ = some (.int .i64 gp[q].src) ∧ w'.cell? ⟨b, off + q * 4 + 1, none⟩ = some (.int .i64 gp[q].dst) ∧ w'.cell? ⟨b, off + q * 4 + 2, none⟩ = some (.int .i64 gp[q].delay) ∧ w'.cell? ⟨b, off + q * 4 + 3, none⟩ = some (.int .i64 gp[q].tokens)) (first | exact ⟨k1, e0, d0, d1, d2, d3⟩ | exact ⟨k1', e0', d0', d1', d2', d3'⟩ | go_keep) (first | (go_at_call 112; refine (spec_l16Rooms _ _ _ _ _ ht.1 ht.2).mono ?_; rintro e w2 ⟨rfl, hB2⟩; have k1' := cell_keep (w := wr.drew) k1 hB2; have e0' := cell_keep (w := wr.drew) e0 hB2; have d0' := cell_keep (w := wr.drew) d0 hB2; have d1' := cell_keep (w := wr.drew) d1 hB2; have d2' := cell_keep (w := wr.drew) d2 hB2; have d3' := cell_keep (w := wr.drew) d3 hB2; have f0' := cell_keep (w := wr.drew) f0 hB2))
          clear k0 k1 e0 d0 d1 d2 d3 e0' d0' d1' d2' d3' f0
          have hBt : Below w1.heap.size w1 w2 := hB.trans ((Below.drew (Below.refl _ wr)).trans (Below.mono (w := wr.drew) hB2 (Nat.le_refl _)) |>.mono hs)
          cases hin : inB r[k] (max 1 gp[q].tokens) (min 8 (gp[q].tokens + 5))
          · have hF' : Hid (limCode ge gp l r = 2) := by show _ = _; rw [hL.out, hz'.out, hE'.out, hF.out (by rw [hpl.out]; exact hin)]; simp
            go_wp2_with (go_at_call 89; refine (spec_l01In _ _ _ _).mono ?_; rintro e w3 ⟨rfl, rfl⟩)
            go_ret
            exact ⟨ret_int hF'.out.symm, hW.trans (hBt.mono hW.size)⟩
          · have hA' : Hid (roomsUp gp l r (k + 1) = true) := by show _ = _; rw [hS.out, hA.out, hpl.out, hin]; rfl
            go_wp2_with (go_at_call 89; refine (spec_l01In _ _ _ _).mono ?_; rintro e w3 ⟨rfl, rfl⟩)
            go_roundw
            case rel => exact ⟨k + 1, hlt, by go_num, hA', hBt⟩
            case measure => simp [intOf]; omega
        · obtain rfl : k = l.length := by omega
          by_cases h30 : 30 < gp.length + l.length
          · have hF' : Hid (limCode ge gp l r = 3) := by show _ = _; rw [hL.out, hz'.out, hE'.out, hA.out]; simp [h30]
            have h30' : decide ((30 : Int) < (gp.length : Int) + (l.length : Int)) = true := decide_eq_true (by omega)
            have hll := (bufOk_at hb.out).1
            clear h30
            go_wp2
            go_ret
            exact ⟨ret_int hF'.out.symm, hW.trans (hB.mono hW.size)⟩
          · have hF' : Hid (limCode ge gp l r = 0) := by show _ = _; rw [hL.out, hz'.out, hE'.out, hA.out]; simp [h30]
            have h30' : decide ((30 : Int) < (gp.length : Int) + (l.length : Int)) = false := decide_eq_false (by omega)
            have hll := (bufOk_at hb.out).1
            clear h30
            go_wp2
            go_ret
            exact ⟨ret_int hF'.out.symm, hW.trans (hB.mono hW.size)⟩
    · have hq : ((r.length : Int) != (l.length : Int)) = true := by rw [bne_iff_ne]; omega
      have hF' : Hid (limCode ge gp l r = 2) := by show _ = _; rw [hL.out, hz'.out, hE.out, decide_eq_false h]; simp
      clear h
      go_wp2
      go_ret
      exact ⟨ret_int hF'.out.symm, hW⟩
  · have hq : (bufCode ge gp l != 0) = true := by simpa using hz
    have hF : Hid (limCode ge gp l r = bufCode ge gp l) := by show _ = _; rw [hL.out, if_pos hz]
    clear hz
    go_wp2
    go_ret
    exact ⟨ret_int hF.out.symm, hW⟩
end Go.Proofs.Ytbdklhahbeiffaa
namespace Go.Proofs.Ytbdklhahbeiffaa
open Go.RowKit
set_option linter.unusedVariables false
set_option linter.unusedSimpArgs false

set_option maxHeartbeats 2000000 in
set_option maxRecDepth 100000 in
theorem impl_LimitPlaces (v : Value) (ge : Int) (gp : List Place) (u : Value) (l : List Int) (t : Value) (r : List Int) (w : World) (h0 : Lst Place.cells 4 w w.heap.size v gp) (h1 : Lst intCell 1 w w.heap.size u l) (h2 : Lst intCell 1 w w.heap.size t r) :
    Calls Try.prog 75 #[.agg #[.int .i64 ge, v], u, t] w (RetGI 101 w (limF ge gp l r).1 (limF ge gp l r).2.1 (limF ge gp l r).2.2) := by
  obtain ⟨A, c, rfl⟩ := h0.shape
  obtain ⟨C, d, rfl⟩ := h1.shape
  obtain ⟨D, f, rfl⟩ := h2.shape
  go_enter Try.func75, Try.ntmps75
  go_wp2_with fail
  have hW : Below w.heap.size w ((w.alloc (.cells #[.int .i64 ge, .slice A gp.length c] 32)).alloc (.cells #[.int .i64 0, .slice none 0 0] 32)) := (((Below.refl _ _).alloc (Nat.le_refl _) _).alloc (by first | (simp; done) | (simp; omega)) _); have hb0 : Blk ((w.alloc (.cells #[.int .i64 ge, .slice A gp.length c] 32)).alloc (.cells #[.int .i64 0, .slice none 0 0] 32)) (w.heap.size) 32 #[.int .i64 ge, .slice A gp.length c] := ((Blk.newAt w _ (by first | rfl | (simp; done) | (simp; omega))).alloc _); have hb1 : Blk ((w.alloc (.cells #[.int .i64 ge, .slice A gp.length c] 32)).alloc (.cells #[.int .i64 0, .slice none 0 0] 32)) (w.heap.size + 1) 32 #[.int .i64 0, .slice none 0 0] := (Blk.newAt (w.alloc (.cells #[.int .i64 ge, .slice A gp.length c] 32)) _ (by first | rfl | (simp; done) | (simp; omega))); replace h0 := h0.now hW; replace h1 := h1.now hW; replace h2 := h2.now hW; have hsW : w.heap.size + 2 = ((w.alloc (.cells #[.int .i64 ge, .slice A gp.length c] 32)).alloc (.cells #[.int .i64 0, .slice none 0 0] 32)).heap.size := (by first | rfl | (simp; done) | (simp; omega)); generalize ((w.alloc (.cells #[.int .i64 ge, .slice A gp.length c] 32)).alloc (.cells #[.int .i64 0, .slice none 0 0] 32)) = W at *; replace hsW := Lib.hid hsW
  refine (impl_IsEventGraph _ _ _ _ h0).mono ?_
  rintro e w1 ⟨rfl, hB⟩
  replace hW := hW.trans (hB.mono hW.size); replace h0 := h0.now hB; replace h1 := h1.now hB; replace h2 := h2.now hB; replace hb0 := hb0.now hB; replace hb1 := hb1.now hB
  clear hB
  obtain ⟨k0, k1⟩ := hb0.c2
  obtain ⟨r0, r1⟩ := hb1.c2
  obtain ⟨z0, z1⟩ := hb1.f2
  cases hg : okGraph ge gp
  · have hE : Hid (limF ge gp l r = (0, [], 1)) := by show _ = _; simp [limF, limCode, hg]
    clear hg
    go_wp2
    refine bodyPost_ret (v := .tuple #[.agg #[.int .i64 0, .slice none 0 0], .int .i64 1]) (by simp [results, Try.results75, go_sem, r0, r1]) rfl (RetGI.of hE.out ⟨_, rfl, Own.nil, ?_⟩)
    first | exact hW | exact ((hW.setCell (by simp <;> omega) _).setCell (by simp <;> omega) _)
  · have hgl := okGraph_len hg
    have hg' := Lib.hid hg
    clear hg r0 r1 z0 z1
    go_wp2_with fail
    refine (impl_areBuffers _ _ _ _ _ _ h0 h1).mono ?_
    rintro e w2 ⟨rfl, hB⟩
    clear k0 k1
    replace hW := hW.trans (hB.mono hW.size); replace h0 := h0.now hB; replace h1 := h1.now hB; replace h2 := h2.now hB; replace hb0 := hb0.now hB; replace hb1 := hb1.now hB
    clear hB
    obtain ⟨k0, k1⟩ := hb0.c2
    obtain ⟨r0, r1⟩ := hb1.c2
    obtain ⟨z0, z1⟩ := hb1.f2
    cases hb : bufOk gp.length l
    · have hE : Hid (limF ge gp l r = (0, [], 2)) := by show _ = _; simp [limF, limCode, hg'.out, hb]
      clear hb
      go_wp2
      refine bodyPost_ret (v := .tuple #[.agg #[.int .i64 0, .slice none 0 0], .int .i64 2]) (by simp [results, Try.results75, go_sem, r0, r1]) rfl (RetGI.of hE.out ⟨_, rfl, Own.nil, ?_⟩)
      first | exact hW | exact ((hW.setCell (by simp <;> omega) _).setCell (by simp <;> omega) _)
    · have hll := (bufOk_at hb).1
      have hb' := Lib.hid hb
      clear hb r0 r1 z0 z1
      go_wp2_with fail
      refine (impl_areRooms _ _ _ _ _ _ _ _ h0 h1 h2 hg' hb').mono ?_
      rintro e w3 ⟨rfl, hB⟩
      clear k0 k1
      replace hW := hW.trans (hB.mono hW.size); replace h0 := h0.now hB; replace h1 := h1.now hB; replace h2 := h2.now hB; replace hb0 := hb0.now hB; replace hb1 := hb1.now hB
      clear hB
      obtain ⟨k0, k1⟩ := hb0.c2
      obtain ⟨r0, r1⟩ := hb1.c2
      obtain ⟨z0, z1⟩ := hb1.f2
      cases hr : roomsOk gp l r
      · have hE : Hid (limF ge gp l r = (0, [], 2)) := by show _ = _; simp [limF, limCode, hg'.out, hb'.out, hr]
        clear hr
        go_wp2
        refine bodyPost_ret (v := .tuple #[.agg #[.int .i64 0, .slice none 0 0], .int .i64 2]) (by simp [results, Try.results75, go_sem, r0, r1]) rfl (RetGI.of hE.out ⟨_, rfl, Own.nil, ?_⟩)
        first | exact hW | exact ((hW.setCell (by simp <;> omega) _).setCell (by simp <;> omega) _)
      · have hr' := Lib.hid hr
        clear hr
        by_cases h30 : 30 < gp.length + l.length
        · have hE : Hid (limF ge gp l r = (0, [], 3)) := by show _ = _; simp [limF, limCode, hg'.out, hb'.out, hr'.out, h30]
          have h30' : decide ((30 : Int) < (gp.length : Int) + (l.length : Int)) = true := decide_eq_true (by omega)
          clear h30
          go_wp2
          refine bodyPost_ret (v := .tuple #[.agg #[.int .i64 0, .slice none 0 0], .int .i64 3]) (by simp [results, Try.results75, go_sem, r0, r1]) rfl (RetGI.of hE.out ⟨_, rfl, Own.nil, ?_⟩)
          first | exact hW | exact ((hW.setCell (by simp <;> omega) _).setCell (by simp <;> omega) _)
        · have hE : Hid (limF ge gp l r = (ge, gp ++ backs gp l r l.length, 0)) := by show _ = _; simp [limF, limCode, hg'.out, hb'.out, hr'.out, h30]
          have h30' : decide ((30 : Int) < (gp.length : Int) + (l.length : Int)) = false := decide_eq_false (by omega)
          clear h30 r0 r1 z0 z1
          have l1 := hb1.lt
          go_wp2_with fail
          refine (impl_limited _ _ _ _ _ _ _ _ h0 h1 h2 hg' hb' hr').mono ?_
          rintro e w4 ⟨x, rfl, hO, hB⟩
          obtain ⟨X, cx, rfl⟩ := hO.shape
          generalize gp ++ backs gp l r l.length = T at *
          obtain ⟨r0, r1⟩ := (hb1.now hB).c2
          obtain ⟨z0, z1⟩ := (hb1.now hB).f2
          have hBt := hW.trans (hB.mono hW.size)
          go_wp2
          refine bodyPost_ret (v := .tuple #[.agg #[.int .i64 ge, .slice X T.length cx], .int .i64 0]) (by simp [results, Try.results75, go_sem, r0, r1]) rfl (RetGI.of hE.out ⟨_, rfl, ((hO.far (p := ⟨w.heap.size + 1, 0, none⟩) l1 _).far (p := ⟨w.heap.size + 1, 1, none⟩) l1 _).rebase hW.size, (hBt.setCell (by simp <;> omega) _).setCell (by simp <;> omega) _⟩)
set_option maxHeartbeats 2000000 in
set_option maxRecDepth 100000 in
theorem spec_LimitPlaces (v : Value) (ge : Int) (gp : List Place) (u : Value) (l : List Int) (t : Value) (r : List Int) (w : World) (h0 : Lst Place.cells 4 w w.heap.size v gp) (h1 : Lst intCell 1 w w.heap.size u l) (h2 : Lst intCell 1 w w.heap.size t r) :
    Calls Try.prog 74 #[.agg #[.int .i64 ge, v], u, t] w (RetGI 101 w (limF ge gp l r).1 (limF ge gp l r).2.1 (limF ge gp l r).2.2) := by
  obtain ⟨A, c, rfl⟩ := h0.shape
  obtain ⟨C, d, rfl⟩ := h1.shape
  obtain ⟨D, f, rfl⟩ := h2.shape
  go_enter Try.func74, Try.ntmps74
  go_wp2_with fail
  have hW : Below w.heap.size w ((w.alloc (.cells #[.int .i64 ge, .slice A gp.length c] 32)).alloc (.cells #[.int .i64 0, .slice none 0 0] 32)) := (((Below.refl _ _).alloc (Nat.le_refl _) _).alloc (by first | (simp; done) | (simp; omega)) _); have hb0 : Blk ((w.alloc (.cells #[.int .i64 ge, .slice A gp.length c] 32)).alloc (.cells #[.int .i64 0, .slice none 0 0] 32)) (w.heap.size) 32 #[.int .i64 ge, .slice A gp.length c] := ((Blk.newAt w _ (by first | rfl | (simp; done) | (simp; omega))).alloc _); have hb1 : Blk ((w.alloc (.cells #[.int .i64 ge, .slice A gp.length c] 32)).alloc (.cells #[.int .i64 0, .slice none 0 0] 32)) (w.heap.size + 1) 32 #[.int .i64 0, .slice none 0 0] := (Blk.newAt (w.alloc (.cells #[.int .i64 ge, .slice A gp.length c] 32)) _ (by first | rfl | (simp; done) | (simp; omega))); replace h0 := h0.now hW; replace h1 := h1.now hW; replace h2 := h2.now hW; have hsW : w.heap.size + 2 = ((w.alloc (.cells #[.int .i64 ge, .slice A gp.length c] 32)).alloc (.cells #[.int .i64 0, .slice none 0 0] 32)).heap.size := (by first | rfl | (simp; done) | (simp; omega)); generalize ((w.alloc (.cells #[.int .i64 ge, .slice A gp.length c] 32)).alloc (.cells #[.int .i64 0, .slice none 0 0] 32)) = W at *; replace hsW := Lib.hid hsW
  refine (spec_l16All _ _ _ _ _ _ _ _ h0 h1 h2).mono ?_
  rintro e w1 ⟨rfl, hB⟩
  replace hW := hW.trans (hB.mono hW.size); replace h0 := h0.now hB; replace h1 := h1.now hB; replace h2 := h2.now hB; replace hb0 := hb0.now hB; replace hb1 := hb1.now hB
  clear hB
  obtain ⟨k0, k1⟩ := hb0.c2
  obtain ⟨r0, r1⟩ := hb1.c2
  obtain ⟨z0, z1⟩ := hb1.f2
  by_cases hz : limCode ge gp l r = 0
  · have hg : Hid (okGraph ge gp = true) := by show _ = _; cases e : okGraph ge gp <;> simp [limCode, e] at hz ⊢
    have hb : Hid (bufOk gp.length l = true) := by show _ = _; cases e : bufOk gp.length l <;> simp [limCode, e, hg.out] at hz ⊢
    have hr : Hid (roomsOk gp l r = true) := by show _ = _; cases e : roomsOk gp l r <;> simp [limCode, e, hg.out, hb.out] at hz ⊢
    have hE : Hid (limF ge gp l r = (ge, gp ++ backs gp l r l.length, 0)) := by show _ = _; simp [limF, hz]
    have hz1 : (limCode ge gp l r != 0) = false := by simp [hz]
    clear hz r0 r1 z0 z1
    have l1 := hb1.lt
    go_wp2_with fail
    refine (spec_l16Limit _ _ _ _ _ _ _ _ h0 h1 h2 hg hb hr).mono ?_
    rintro e w4 ⟨x, rfl, hO, hB⟩
    obtain ⟨X, cx, rfl⟩ := hO.shape
    generalize gp ++ backs gp l r l.length = T at *
    obtain ⟨r0, r1⟩ := (hb1.now hB).c2
    obtain ⟨z0, z1⟩ := (hb1.now hB).f2
    have hBt := hW.trans (hB.mono hW.size)
    go_wp2
    refine bodyPost_ret (v := .tuple #[.agg #[.int .i64 ge, .slice X T.length cx], .int .i64 0]) (by simp [results, Try.results74, go_sem, r0, r1]) rfl (RetGI.of hE.out ⟨_, rfl, ((hO.far (p := ⟨w.heap.size + 1, 0, none⟩) l1 _).far (p := ⟨w.heap.size + 1, 1, none⟩) l1 _).rebase hW.size, (hBt.setCell (by simp <;> omega) _).setCell (by simp <;> omega) _⟩)
  · have hE : Hid (limF ge gp l r = (0, [], limCode ge gp l r)) := by show _ = _; simp [limF, hz]
    have hz1 : (limCode ge gp l r != 0) = true := by simpa using hz
    clear hz
    go_wp2
    refine bodyPost_ret (v := .tuple #[.agg #[.int .i64 0, .slice none 0 0], .int .i64 (limCode ge gp l r)]) (by simp [results, Try.results74, go_sem, r0, r1]) rfl (RetGI.of hE.out ⟨_, rfl, Own.nil, ?_⟩)
    first | exact hW | exact ((hW.setCell (by simp <;> omega) _).setCell (by simp <;> omega) _)
end Go.Proofs.Ytbdklhahbeiffaa
