/-
  The walks of the reference's IsRun.
-/
import Derived.Test.YtlppfcamlggcnaaDoorRunP
import Derived.Test.YtlppfcamlggcnaaDoorInts
import Derived.Test.YtlppfcamlggcnaaDoorMore
namespace Go.Proofs.YtlppfcamlggcnaaDoor
open Go.RowKit
set_option linter.unusedVariables false
set_option linter.unusedSimpArgs false

set_option maxHeartbeats 4000000 in
set_option maxRecDepth 100000 in
theorem l14Count (v : Value) (l : List Firing) (e : Int) (w : World) (h0 : Lst Firing.cells 3 w w.heap.size v l) (hl : l.length ≤ 1000) :
    Calls Tryd.prog 69 #[v, .int .i64 e] w fun r w' => r = .returned (.int .i64 (timesIn l e).length) ∧ w = w' := by
  obtain ⟨A, c, rfl⟩ := h0.shape
  go_enter Tryd.func69, Tryd.ntmps69
  go_wp2
  go_loop [5, 6] (fun n i => ∃ k : Nat, k ≤ l.length ∧ i = .int .i64 k ∧ n = .int .i64 (timesIn (l.take k) e).length) (fun _ i => l.length - (intOf i).toNat)
  case atStart => exact ⟨0, Nat.zero_le _, rfl, rfl⟩
  case round =>
    obtain ⟨k, hk, rfl, rfl⟩ := hrel
    have hb := timesIn_len (l.take k) e
    rw [List.length_take, Nat.min_eq_left hk] at hb
    by_cases hlt : k < l.length
    · obtain ⟨b, off, rfl, hbb, c0, c1, c2⟩ := firings_at h0 k hlt
      have hts := Lib.hid (timesIn_snoc (l.take k) l[k] e)
      by_cases heq : l[k].event = e
      · have hq : (l[k].event == e) = true := by simp [heq]
        have hL : Hid ((timesIn (l.take (k + 1)) e).length = (timesIn (l.take k) e).length + 1) := by show _ = _; rw [take_succ_get _ _ hlt, hts.out, if_pos heq]; simp
        clear heq
        go_wp2
        go_round
        case rel => exact ⟨k + 1, hlt, by go_num, by rw [hL.out]; go_num⟩
        case measure => simp [intOf]; omega
      · have hq : (l[k].event == e) = false := by simp [heq]
        have hL : Hid ((timesIn (l.take (k + 1)) e).length = (timesIn (l.take k) e).length) := by show _ = _; rw [take_succ_get _ _ hlt, hts.out, if_neg heq]; simp
        clear heq
        go_wp2
        go_round
        case rel => exact ⟨k + 1, hlt, by go_num, by rw [hL.out]⟩
        case measure => simp [intOf]; omega
    · obtain rfl : k = l.length := by omega
      rw [List.take_length]
      go_wp2
      go_ret
      exact ⟨rfl, rfl⟩
set_option maxHeartbeats 4000000 in
set_option maxRecDepth 100000 in
theorem l14Find (v : Value) (l : List Firing) (e m : Int) (w : World) (h0 : Lst Firing.cells 3 w w.heap.size v l) (hl : l.length ≤ 1000) :
    Calls Tryd.prog 114 #[v, .int .i64 e, .int .i64 m] w fun r w' => r = .returned (.tuple #[.int .i64 ((findF l e m).getD 0), .bool (findF l e m).isSome]) ∧ w = w' := by
  obtain ⟨A, c, rfl⟩ := h0.shape
  go_enter Tryd.func114, Tryd.ntmps114
  go_wp2
  go_loop [8] (fun i => ∃ k : Nat, k ≤ l.length ∧ i = .int .i64 k ∧ Hid (findF (l.take k) e m = none)) (fun i => l.length - (intOf i).toNat)
  case atStart => exact ⟨0, Nat.zero_le _, rfl, rfl⟩
  case round =>
    obtain ⟨k, hk, rfl, hN⟩ := hrel
    by_cases hlt : k < l.length
    · obtain ⟨b, off, rfl, hbb, c0, c1, c2⟩ := firings_at h0 k hlt
      by_cases h1 : l[k].event = e
      · have q1 : (l[k].event == e) = true := by simp [h1]
        by_cases h2 : l[k].number = m
        · have q2 : (l[k].number == m) = true := by simp [h2]
          have hF : Hid (findF l e m = some l[k].time) := find_hit l e m k hlt hN.out h1 h2
          clear h1 h2
          go_wp2
          go_ret2
          exact ⟨by rw [hF.out]; rfl, rfl⟩
        · have q2 : (l[k].number == m) = false := by simp [h2]
          have hF : Hid (findF (l.take (k + 1)) e m = none) := find_next l e m k hlt hN.out (fun h => h2 h.2)
          clear h1 h2
          go_wp2
          go_round
          case rel => exact ⟨k + 1, hlt, by go_num, hF⟩
          case measure => simp [intOf]; omega
      · have q1 : (l[k].event == e) = false := by simp [h1]
        have hF : Hid (findF (l.take (k + 1)) e m = none) := find_next l e m k hlt hN.out (fun h => h1 h.1)
        clear h1
        go_wp2
        go_round
        case rel => exact ⟨k + 1, hlt, by go_num, hF⟩
        case measure => simp [intOf]; omega
    · obtain rfl : k = l.length := by omega
      have hF : Hid (findF l e m = none) := by have := hN.out; rwa [List.take_length] at this
      go_wp2
      go_ret2
      exact ⟨by rw [hF.out]; rfl, rfl⟩
set_option maxHeartbeats 4000000 in
set_option maxRecDepth 100000 in
theorem l14Ready (v : Value) (ge : Int) (gp : List Place) (u : Value) (l : List Firing) (e : Int) (w : World) (h0 : Lst Place.cells 4 w w.heap.size v gp) (h1 : Lst Firing.cells 3 w w.heap.size u l)
    (hok : okGraph ge gp = true) (hl : l.length ≤ 1000) (hr : RunOk ge l) :
    Calls Tryd.prog 93 #[.agg #[.int .i64 ge, v], u, .int .i64 e] w fun r w' => r = .returned (.tuple #[.int .i64 ((readyS gp (timesIn l) e).getD 0), .bool (readyS gp (timesIn l) e).isSome]) ∧ Below w.heap.size w w' := by
  obtain ⟨A, c, rfl⟩ := h0.shape
  obtain ⟨C, d, rfl⟩ := h1.shape
  have hgl := okGraph_len hok
  have hg' := Lib.hid hok
  have hr' := Lib.hid hr
  have hT := timesIn_len l e
  have hle := Lib.hid (readyS_le hok hr e)
  clear hok hr
  go_enter Tryd.func93, Tryd.ntmps93
  go_wp2_with fail
  have hW : Below w.heap.size w (w.alloc (.cells #[.int .i64 ge, .slice A gp.length c] 27)) := (Below.refl _ _).alloc (Nat.le_refl _) _; have hb0 : Blk (w.alloc (.cells #[.int .i64 ge, .slice A gp.length c] 27)) w.heap.size 27 #[.int .i64 ge, .slice A gp.length c] := Blk.new _ _ _; replace h0 := h0.now hW; replace h1 := h1.now hW; generalize (w.alloc (.cells #[.int .i64 ge, .slice A gp.length c] 27)) = W at *
  have hWs := hW.size
  obtain ⟨k0, k1⟩ := hb0.c2
  have l0 := hb0.lt
  go_wp2_with (go_at_call 69; refine (l14Count _ _ _ _ h1 hl).mono ?_; rintro r w' ⟨rfl, rfl⟩)
  clear k0 k1
  go_loopw [9, 10, 11, 12, 13] (fun t i _ _ _ wr => ∃ (k : Nat) (tv : Int), k ≤ gp.length ∧ i = .int .i64 k ∧ t = .int .i64 tv ∧ Hid (readyS (gp.take k) (timesIn l) e = some tv) ∧ Below W.heap.size W wr) (fun _ i _ _ _ _ => gp.length - (intOf i).toNat)
  case atStart => exact ⟨0, 0, Nat.zero_le _, rfl, rfl, rfl, Below.refl _ _⟩
  case round =>
    obtain ⟨k, tv, hk, rfl, rfl, hS, hB⟩ := hrel
    have hs := hB.size
    have l0w := (hb0.now hB).lt
    obtain ⟨k0, k1⟩ := (hb0.now hB).c2
    obtain ⟨t1, t2⟩ := hle.out k hk tv hS.out
    by_cases hlt : k < gp.length
    · obtain ⟨b, off, hA0, hbb, d0, d1, d2, d3⟩ := places_at (h0.now hB) k hlt
      cases hA0
      have hp := okGraph_place hg'.out (List.getElem_mem hlt)
      obtain ⟨p1, p2⟩ := hp.2.2.1
      obtain ⟨p3, p4⟩ := hp.2.2.2
      clear hp
      have hSS := readyS_succ gp (timesIn l) e k hlt
      rw [hS.out] at hSS
      simp only [stepR, Option.bind_some] at hSS
      by_cases hd : gp[k].dst = e
      · have q1 : (gp[k].dst != e) = false := by simp [hd]
        by_cases ht : ((timesIn l e).length : Int) + 1 ≤ gp[k].tokens
        · rw [if_pos (.inr ht)] at hSS
          have hS' := Lib.hid hSS
          have q2 : decide (((timesIn l e).length : Int) + 1 ≤ gp[k].tokens) = true := decide_eq_true ht
          clear hSS hd ht
          go_wp2
          go_roundw
          case rel => exact ⟨k + 1, tv, hlt, by go_num, rfl, hS', hB.alloc hs _⟩
          case measure => simp [intOf]; omega
        · rw [if_neg (by rintro (h | h); exact h hd; exact ht h)] at hSS
          obtain ⟨tk, htk⟩ := Int.eq_ofNat_of_zero_le p3
          rw [htk] at d3 ht hSS p3 p4
          rw [Int.toNat_natCast] at hSS
          have q2 : decide (((timesIn l e).length : Int) + 1 ≤ (tk : Int)) = false := decide_eq_false ht
          have hx := times_range hr'.out gp[k].src ((timesIn l e).length - tk)
          have hfn := find_num hr'.out.1 gp[k].src ((timesIn l e).length + 1 - tk) (by omega)
          rw [show (((timesIn l e).length + 1 - tk : Nat) : Int) = ((timesIn l e).length : Int) + 1 - tk by omega, show (timesIn l e).length + 1 - tk - 1 = (timesIn l e).length - tk by omega] at hfn
          by_cases hm : (timesIn l gp[k].src).length < (timesIn l e).length + 1 - tk
          · rw [if_neg (by omega)] at hfn
            rw [if_pos hm] at hSS
            have hF : Hid (readyS gp (timesIn l) e = none) := readyS_none _ _ _ _ hSS
            have hc : Hid (∀ V : World, Lst Firing.cells 3 V V.heap.size (.slice C l.length d) l → Calls Tryd.prog 114 #[.slice C l.length d, .int .i64 gp[k].src, .int .i64 (((timesIn l e).length : Int) + 1 - tk)] V fun r w' => r = .returned (.tuple #[.int .i64 0, .bool false]) ∧ V = w') :=
              fun V hV => by have := l14Find (.slice C l.length d) l gp[k].src (((timesIn l e).length : Int) + 1 - tk) V hV hl; rw [hfn] at this; exact this
            have ht' : (tk : Int) ≤ ((timesIn l e).length : Int) := by omega
            clear hSS hd ht hfn hm htk
            go_wp2_with (go_at_call 114; refine (hc.out _ ((h1.now hB).alloc _)).mono ?_; rintro r w' ⟨rfl, rfl⟩)
            go_ret2
            exact ⟨by rw [hF.out]; rfl, hW.trans ((hB.alloc hs _).mono hWs)⟩
          · rw [if_pos (by omega)] at hfn
            rw [if_neg hm] at hSS
            obtain ⟨x, hxe⟩ : ∃ x, (timesIn l gp[k].src).getD ((timesIn l e).length - tk) 0 = x := ⟨_, rfl⟩
            rw [hxe] at hfn hSS hx
            rw [max_if2] at hSS
            have hS' := Lib.hid hSS
            have hc : Hid (∀ V : World, Lst Firing.cells 3 V V.heap.size (.slice C l.length d) l → Calls Tryd.prog 114 #[.slice C l.length d, .int .i64 gp[k].src, .int .i64 (((timesIn l e).length : Int) + 1 - tk)] V fun r w' => r = .returned (.tuple #[.int .i64 x, .bool true]) ∧ V = w') :=
              fun V hV => by have := l14Find (.slice C l.length d) l gp[k].src (((timesIn l e).length : Int) + 1 - tk) V hV hl; rw [hfn] at this; exact this
            have ht' : (tk : Int) ≤ ((timesIn l e).length : Int) := by omega
            obtain ⟨x1, x2⟩ := hx
            clear hSS hd ht hfn hm htk hxe
            go_wp2_with (go_at_call 114; refine (hc.out _ ((h1.now hB).alloc _)).mono ?_; rintro r w' ⟨rfl, rfl⟩)
            go_roundw
            case rel => exact ⟨k + 1, _, hlt, by go_num, rfl, hS', hB.alloc hs _⟩
            case measure => simp [intOf]; omega
      · rw [if_pos (.inl hd)] at hSS
        have hS' := Lib.hid hSS
        have q1 : (gp[k].dst != e) = true := by simp [hd]
        clear hSS hd
        go_wp2
        go_roundw
        case rel => exact ⟨k + 1, tv, hlt, by go_num, rfl, hS', hB.alloc hs _⟩
        case measure => simp [intOf]; omega
    · obtain rfl : k = gp.length := by omega
      have hF : Hid (readyS gp (timesIn l) e = some tv) := by have := hS.out; rwa [List.take_length] at this
      go_wp2
      go_ret2
      exact ⟨by rw [hF.out]; rfl, hW.trans (hB.mono hWs)⟩
end Go.Proofs.YtlppfcamlggcnaaDoor
