/-
  The draws of line texts.
-/
import Derived.Test.YtcoomogabicfnaaGreatDoorDmg
import Derived.Test.YtcoomogabicfnaaGreatDoorTxt
import Derived.Test.YtcoomogabicfnaaGreatDoorBytes
import Derived.Test.YtcoomogabicfnaaGreatDoorMore
namespace Go.Proofs.YtcoomogabicfnaaGreatDoor
open Go.RowKit
set_option linter.unusedVariables false
set_option linter.unusedSimpArgs false
theorem cat_size {a b : ByteArray} {m n : Nat} (h1 : a.size ≤ m) (h2 : b.size ≤ n) : (a ++ b).size ≤ m + n := by rw [ByteArray.size_append]; omega
theorem info_byte : (Tryz.prog.info? 5).map (fun i => (i.zero, i.size, i.bytes)) = some (some (.int .u8 0), 1, 1) := by kernel_rfl
set_option maxHeartbeats 4000000 in
set_option maxRecDepth 100000 in
theorem spec_l18Name (n : Nat) (w : World) (hn : n ≤ 1000000) :
    Calls Tryz.prog 19 #[.int .i64 n] w fun e w' => ∃ t : ByteArray, e = .returned (.string t) ∧ t.size ≤ 5 ∧ Below w.heap.size w w' := by
  have e2 : (n : Int).tmod 8 = ((n % 8 : Nat) : Int) := (Int.ofNat_tmod n 8).symm
  have hr : n % 8 < 8 := Nat.mod_lt _ (by omega)
  have h : (n : Int).tmod 8 = 0 ∨ (n : Int).tmod 8 = 1 ∨ (n : Int).tmod 8 = 2 ∨ (n : Int).tmod 8 = 3 ∨ (n : Int).tmod 8 = 4 ∨ (n : Int).tmod 8 = 5 ∨ (n : Int).tmod 8 = 6 ∨ (n : Int).tmod 8 = 7 := by omega
  clear e2 hr
  have w0 : IntKind.i64.wrap 0 = 0 := by decide
  have w1 : IntKind.i64.wrap 1 = 1 := by decide
  have w2 : IntKind.i64.wrap 2 = 2 := by decide
  have w3 : IntKind.i64.wrap 3 = 3 := by decide
  have w4 : IntKind.i64.wrap 4 = 4 := by decide
  have w5 : IntKind.i64.wrap 5 = 5 := by decide
  have w6 : IntKind.i64.wrap 6 = 6 := by decide
  have w7 : IntKind.i64.wrap 7 = 7 := by decide
  rcases h with h | h | h | h | h | h | h | h
  all_goals
    go_enter Tryz.func19, Tryz.ntmps19
    go_wp2
    go_ret
    exact ⟨_, rfl, by decide, (by repeat (first | exact Below.refl _ _ | assumption | refine Below.drew ?_ | refine Below.alloc ?_ (by simp <;> omega) _ | refine Below.setCell ?_ (by simp <;> omega) _))⟩
set_option maxHeartbeats 16000000 in
set_option maxRecDepth 100000 in
theorem spec_l18Draw (g : Nat) (w : World) (h : Src w g) :
    Calls Tryz.prog 18 #[.pointer (some ⟨g, 0, none⟩)] w fun e w' => ∃ t : ByteArray, e = .returned (.string t) ∧ t.size ≤ 10000 ∧ Drawn w g w' := by
  have hS := h
  have hG : w.grownBy w (some g) := World.grownBy.refl _ _
  go_enter Tryz.func18, Tryz.ntmps18
  go_wp2_with fail
  refine (spec_l01Next g 4 _ hS (by omega)).mono ?_
  rintro e W9 ⟨y, rfl, hy, hNx⟩
  obtain ⟨y, rfl⟩ := Int.eq_ofNat_of_zero_le hy.1
  have by' := hy.2.1 (by omega)
  replace hS := hNx.1
  replace hG := grown_trans hG hNx.2
  clear hNx hy h
  obtain ⟨n, hn, hn4⟩ : ∃ n : Nat, IntKind.i64.wrap (1 + (y : Int)) = (n : Int) ∧ n ≤ 4 := ⟨y + 1, by rw [IntWalk.i64_in _ (by omega)]; omega, by omega⟩
  go_wp2
  go_loopw [3, 5] (fun tv ev wr => ∃ (t : ByteArray) (k : Nat), tv = .string t ∧ ev = .int .i64 k ∧ k ≤ n ∧ t.size ≤ 60 * k ∧ Src wr g ∧ w.grownBy wr (some g)) (fun _ ev _ => n - (intOf ev).toNat)
  case atStart => exact ⟨⟨#[]⟩, 0, rfl, rfl, Nat.zero_le _, Nat.le_refl _, hS, hG⟩
  case round =>
    obtain ⟨t, k, rfl, rfl, hk, hts, hS, hG⟩ := hrel
    by_cases hlt : k < n
    · skip
      have q0 : ¬ 9223372036854775807 < t.size + 8 := by omega
      go_wp2_with fail
      refine (spec_l18Name k _ (by omega)).mono ?_
      rintro e W9 ⟨nm, rfl, hnm, hbx⟩
      replace hS := hS.now hbx
      replace hG := grown_trans hG (below_grown hbx g)
      clear hbx
      have q1 : ¬ 9223372036854775807 < t.size + 8 + nm.size := by omega
      have q2 : ¬ 9223372036854775807 < t.size + 8 + nm.size + 1 := by omega
      go_wp2_with fail
      refine (spec_l01Next g 12 _ hS (by omega)).mono ?_
      rintro e W9 ⟨x, rfl, hx, hNx⟩
      obtain ⟨x, rfl⟩ := Int.eq_ofNat_of_zero_le hx.1
      have bdx := hx.2.1 (by omega)
      replace hS := hNx.1
      replace hG := grown_trans hG hNx.2
      clear hNx hx
      go_wp2_with fail
      refine (spec_l01Dec x _ (by omega)).mono ?_
      rintro e W9 ⟨rfl, hbx⟩
      replace hS := hS.now hbx
      replace hG := grown_trans hG (below_grown hbx g)
      clear hbx
      have dx := decB_size x
      have q3 : ¬ 9223372036854775807 < t.size + 8 + nm.size + 1 + (decB (x : Nat)).size := by omega
      have q4 : ¬ 9223372036854775807 < t.size + 8 + nm.size + 1 + (decB (x : Nat)).size + 1 := by omega
      go_wp2_with fail
      refine (spec_l01Next g 2 _ hS (by omega)).mono ?_
      rintro e W9 ⟨y, rfl, hy, hNx⟩
      obtain ⟨y, rfl⟩ := Int.eq_ofNat_of_zero_le hy.1
      have bdy := hy.2.1 (by omega)
      replace hS := hNx.1
      replace hG := grown_trans hG hNx.2
      clear hNx hy
      obtain ⟨zy, hzy, bzy⟩ : ∃ z : Nat, IntKind.i64.wrap (1 + (y : Int)) = (z : Int) ∧ z ≤ 2 := ⟨y + 1, by rw [IntWalk.i64_in _ (by omega)]; omega, by omega⟩
      go_wp2_with fail
      refine (spec_l01Dec zy _ (by omega)).mono ?_
      rintro e W9 ⟨rfl, hbx⟩
      replace hS := hS.now hbx
      replace hG := grown_trans hG (below_grown hbx g)
      clear hbx
      have dzy := decB_size zy
      have q5 : ¬ 9223372036854775807 < t.size + 8 + nm.size + 1 + (decB (x : Nat)).size + 1 + (decB (zy : Nat)).size := by omega
      have q6 : ¬ 9223372036854775807 < t.size + 8 + nm.size + 1 + (decB (x : Nat)).size + 1 + (decB (zy : Nat)).size + 1 := by omega
      go_wp2
      go_roundw
      case rel => exact ⟨_, k + 1, rfl, by go_num, hlt, Nat.le_trans (cat_size (cat_size (cat_size (cat_size (cat_size (cat_size (cat_size hts (n := 8) (by decide)) (n := 5) hnm) (n := 1) (by decide)) (n := 13) (show (decB (x : Nat)).size ≤ 13 by omega)) (n := 1) (by decide)) (n := 3) (show (decB (zy : Nat)).size ≤ 3 by omega)) (n := 1) (by decide)) (by omega), hS, hG⟩
      case measure => simp [intOf] <;> omega
    · obtain rfl : k = n := by omega
      clear hk
      go_wp2_with fail
      refine (spec_l01Next g 7 _ hS (by omega)).mono ?_
      rintro e W9 ⟨m, rfl, hm, hNx⟩
      obtain ⟨m, rfl⟩ := Int.eq_ofNat_of_zero_le hm.1
      have bm := hm.2.1 (by omega)
      replace hS := hNx.1
      replace hG := grown_trans hG hNx.2
      clear hNx hm
      go_wp2
      go_loopw [3, 6, 7, 8] (fun tv kv _ _ wr => ∃ (t : ByteArray) (k : Nat), tv = .string t ∧ kv = .int .i64 k ∧ k ≤ 6 ∧ t.size + 60 * k ≤ 600 ∧ Src wr g ∧ w.grownBy wr (some g)) (fun _ kv _ _ _ => (intOf kv).toNat)
      case atStart => exact ⟨t, m, rfl, rfl, by omega, by omega, hS, hG⟩
      case round =>
        clear hS hG hts bm
        obtain ⟨t, q, rfl, rfl, hq, hts0, hS, hG⟩ := hrel
        have hts : t.size ≤ 600 - 60 * q := by omega
        by_cases hlt : 0 < q
        · have hq1 : (0 : Int) < (q : Int) := by omega
          have wq : IntKind.i64.wrap ((q : Int) - 1) = ((q - 1 : Nat) : Int) := by rw [IntWalk.i64_in _ (by omega)]; omega
          have hnames : ∀ x : Int, NextOk (k : Int) x → ∃ z : Nat, x = (z : Int) ∧ z ≤ 1000000 := by
            intro x hx
            refine ⟨x.toNat, by have := hx.1; omega, ?_⟩
            by_cases h1 : (k : Int) ≤ 1
            · have := hx.2.2 h1; omega
            · have := hx.2.1 (by omega); omega
          have hnames := Lib.hid hnames
          go_wp2_with fail
          refine (spec_l01Next g k _ hS (by omega)).mono ?_
          rintro e W9 ⟨x1, rfl, hx, hNx⟩
          obtain ⟨x1, rfl, bx1⟩ := hnames.out _ hx
          replace hS := hNx.1
          replace hG := grown_trans hG hNx.2
          clear hNx hx
          go_wp2_with fail
          refine (spec_l18Name x1 _ bx1).mono ?_
          rintro e W9 ⟨na, rfl, hna, hbx⟩
          replace hS := hS.now hbx
          replace hG := grown_trans hG (below_grown hbx g)
          clear hbx
          go_wp2_with fail
          refine (spec_l01Next g k _ hS (by omega)).mono ?_
          rintro e W9 ⟨x2, rfl, hx, hNx⟩
          obtain ⟨x2, rfl, bx2⟩ := hnames.out _ hx
          replace hS := hNx.1
          replace hG := grown_trans hG hNx.2
          clear hNx hx
          go_wp2_with fail
          refine (spec_l18Name x2 _ bx2).mono ?_
          rintro e W9 ⟨nb, rfl, hnb, hbx⟩
          replace hS := hS.now hbx
          replace hG := grown_trans hG (below_grown hbx g)
          clear hbx hnames
          go_wp2_with fail
          refine (spec_l01Next g 3 _ hS (by omega)).mono ?_
          rintro e W9 ⟨z, rfl, hz, hNx⟩
          have hz0 := hz.1
          replace hS := hNx.1
          replace hG := grown_trans hG hNx.2
          clear hNx hz
          by_cases z0 : z = 0
          · subst z0
            have q0 : ¬ 9223372036854775807 < t.size + 5 := by omega
            have q1 : ¬ 9223372036854775807 < t.size + 5 + na.size := by omega
            have q2 : ¬ 9223372036854775807 < t.size + 5 + na.size + 1 := by omega
            have q3 : ¬ 9223372036854775807 < t.size + 5 + na.size + 1 + nb.size := by omega
            have q4 : ¬ 9223372036854775807 < t.size + 5 + na.size + 1 + nb.size + 1 := by omega
            go_wp2_with fail
            refine (spec_l01Next g 12 _ hS (by omega)).mono ?_
            rintro e W9 ⟨x, rfl, hx, hNx⟩
            obtain ⟨x, rfl⟩ := Int.eq_ofNat_of_zero_le hx.1
            have bdx := hx.2.1 (by omega)
            replace hS := hNx.1
            replace hG := grown_trans hG hNx.2
            clear hNx hx
            go_wp2_with fail
            refine (spec_l01Dec x _ (by omega)).mono ?_
            rintro e W9 ⟨rfl, hbx⟩
            replace hS := hS.now hbx
            replace hG := grown_trans hG (below_grown hbx g)
            clear hbx
            have dx := decB_size x
            have q5 : ¬ 9223372036854775807 < t.size + 5 + na.size + 1 + nb.size + 1 + (decB (x : Nat)).size := by omega
            have q6 : ¬ 9223372036854775807 < t.size + 5 + na.size + 1 + nb.size + 1 + (decB (x : Nat)).size + 1 := by omega
            go_wp2
            go_roundw
            case rel => exact ⟨_, q - 1, rfl, rfl, by omega, Nat.le_trans (Nat.add_le_add_right (cat_size (cat_size (cat_size (cat_size (cat_size (cat_size (cat_size hts (n := 5) (by decide)) (n := 5) hna) (n := 1) (by decide)) (n := 5) hnb) (n := 1) (by decide)) (n := 13) (show (decB (x : Nat)).size ≤ 13 by omega)) (n := 1) (by decide)) _) (by omega), hS, hG⟩
            case measure => simp [intOf] <;> omega
          · by_cases z1 : z = 1
            · subst z1
              have q0 : ¬ 9223372036854775807 < t.size + 5 := by omega
              have q1 : ¬ 9223372036854775807 < t.size + 5 + na.size := by omega
              have q2 : ¬ 9223372036854775807 < t.size + 5 + na.size + 1 := by omega
              have q3 : ¬ 9223372036854775807 < t.size + 5 + na.size + 1 + nb.size := by omega
              have q4 : ¬ 9223372036854775807 < t.size + 5 + na.size + 1 + nb.size + 1 := by omega
              go_wp2_with fail
              refine (spec_l01Next g 9 _ hS (by omega)).mono ?_
              rintro e W9 ⟨x, rfl, hx, hNx⟩
              obtain ⟨x, rfl⟩ := Int.eq_ofNat_of_zero_le hx.1
              have bdx := hx.2.1 (by omega)
              replace hS := hNx.1
              replace hG := grown_trans hG hNx.2
              clear hNx hx
              go_wp2_with fail
              refine (spec_l01Dec x _ (by omega)).mono ?_
              rintro e W9 ⟨rfl, hbx⟩
              replace hS := hS.now hbx
              replace hG := grown_trans hG (below_grown hbx g)
              clear hbx
              have dx := decB_size x
              have q5 : ¬ 9223372036854775807 < t.size + 5 + na.size + 1 + nb.size + 1 + (decB (x : Nat)).size := by omega
              have q6 : ¬ 9223372036854775807 < t.size + 5 + na.size + 1 + nb.size + 1 + (decB (x : Nat)).size + 1 := by omega
              go_wp2_with fail
              refine (spec_l01Next g 3 _ hS (by omega)).mono ?_
              rintro e W9 ⟨y, rfl, hy, hNx⟩
              obtain ⟨y, rfl⟩ := Int.eq_ofNat_of_zero_le hy.1
              have bdy := hy.2.1 (by omega)
              replace hS := hNx.1
              replace hG := grown_trans hG hNx.2
              clear hNx hy
              obtain ⟨zy, hzy, bzy⟩ : ∃ z : Nat, IntKind.i64.wrap (1 + (y : Int)) = (z : Int) ∧ z ≤ 3 := ⟨y + 1, by rw [IntWalk.i64_in _ (by omega)]; omega, by omega⟩
              go_wp2_with fail
              refine (spec_l01Dec zy _ (by omega)).mono ?_
              rintro e W9 ⟨rfl, hbx⟩
              replace hS := hS.now hbx
              replace hG := grown_trans hG (below_grown hbx g)
              clear hbx
              have dzy := decB_size zy
              have q7 : ¬ 9223372036854775807 < t.size + 5 + na.size + 1 + nb.size + 1 + (decB (x : Nat)).size + 1 + (decB (zy : Nat)).size := by omega
              have q8 : ¬ 9223372036854775807 < t.size + 5 + na.size + 1 + nb.size + 1 + (decB (x : Nat)).size + 1 + (decB (zy : Nat)).size + 1 := by omega
              go_wp2
              go_roundw
              case rel => exact ⟨_, q - 1, rfl, rfl, by omega, Nat.le_trans (Nat.add_le_add_right (cat_size (cat_size (cat_size (cat_size (cat_size (cat_size (cat_size (cat_size (cat_size hts (n := 5) (by decide)) (n := 5) hna) (n := 1) (by decide)) (n := 5) hnb) (n := 1) (by decide)) (n := 10) (show (decB (x : Nat)).size ≤ 10 by omega)) (n := 1) (by decide)) (n := 4) (show (decB (zy : Nat)).size ≤ 4 by omega)) (n := 1) (by decide)) _) (by omega), hS, hG⟩
              case measure => simp [intOf] <;> omega
            · have n0 : (z == 0) = false := by simpa using z0
              have n1 : (z == 1) = false := by simpa using z1
              clear z0 z1
              have q0 : ¬ 9223372036854775807 < t.size + 7 := by omega
              have q1 : ¬ 9223372036854775807 < t.size + 7 + na.size := by omega
              have q2 : ¬ 9223372036854775807 < t.size + 7 + na.size + 1 := by omega
              have q3 : ¬ 9223372036854775807 < t.size + 7 + na.size + 1 + nb.size := by omega
              have q4 : ¬ 9223372036854775807 < t.size + 7 + na.size + 1 + nb.size + 1 := by omega
              go_wp2_with fail
              refine (spec_l01Next g 3 _ hS (by omega)).mono ?_
              rintro e W9 ⟨y, rfl, hy, hNx⟩
              obtain ⟨y, rfl⟩ := Int.eq_ofNat_of_zero_le hy.1
              have bdy := hy.2.1 (by omega)
              replace hS := hNx.1
              replace hG := grown_trans hG hNx.2
              clear hNx hy
              obtain ⟨zy, hzy, bzy⟩ : ∃ z : Nat, IntKind.i64.wrap (1 + (y : Int)) = (z : Int) ∧ z ≤ 3 := ⟨y + 1, by rw [IntWalk.i64_in _ (by omega)]; omega, by omega⟩
              go_wp2_with fail
              refine (spec_l01Dec zy _ (by omega)).mono ?_
              rintro e W9 ⟨rfl, hbx⟩
              replace hS := hS.now hbx
              replace hG := grown_trans hG (below_grown hbx g)
              clear hbx
              have dzy := decB_size zy
              have q5 : ¬ 9223372036854775807 < t.size + 7 + na.size + 1 + nb.size + 1 + (decB (zy : Nat)).size := by omega
              have q6 : ¬ 9223372036854775807 < t.size + 7 + na.size + 1 + nb.size + 1 + (decB (zy : Nat)).size + 1 := by omega
              go_wp2
              go_roundw
              case rel => exact ⟨_, q - 1, rfl, rfl, by omega, Nat.le_trans (Nat.add_le_add_right (cat_size (cat_size (cat_size (cat_size (cat_size (cat_size (cat_size hts (n := 7) (by decide)) (n := 5) hna) (n := 1) (by decide)) (n := 5) hnb) (n := 1) (by decide)) (n := 4) (show (decB (zy : Nat)).size ≤ 4 by omega)) (n := 1) (by decide)) _) (by omega), hS, hG⟩
              case measure => simp [intOf] <;> omega
        · have hq1 : ¬ (0 : Int) < (q : Int) := by omega
          clear hts0
          replace hts : t.size ≤ 600 := by omega
          go_wp2_with fail
          refine (spec_l01Next g 24 _ hS (by omega)).mono ?_
          rintro e W9 ⟨z, rfl, hz, hNx⟩
          have hz0 := hz.1
          replace hS := hNx.1
          replace hG := grown_trans hG hNx.2
          clear hNx hz
          by_cases z0 : z = 0
          · subst z0
            have q0 : ¬ 9223372036854775807 < t.size + 16 := by omega
            go_wp2
            go_ret
            exact ⟨_, rfl, Nat.le_trans (cat_size hts (n := 16) (by decide)) (by omega), hS, hG⟩
          · by_cases z1 : z = 1
            · subst z1
              have q0 : ¬ 9223372036854775807 < t.size + 16 := by omega
              go_wp2
              go_ret
              exact ⟨_, rfl, Nat.le_trans (cat_size hts (n := 16) (by decide)) (by omega), hS, hG⟩
            · by_cases z2 : z = 2
              · subst z2
                have q0 : ¬ 9223372036854775807 < t.size + 15 := by omega
                go_wp2_with fail
                refine (spec_l01Pick g _ [5, 6] _ (hS.now ((Below.refl _ _).alloc (Nat.le_refl _) _)) (Blk.newAt _ _ rfl) (by simp) (by simp)).mono ?_
                rintro e W10 ⟨p, hp, rfl, hNx⟩
                obtain ⟨p, rfl, bp⟩ : ∃ pn : Nat, p = (pn : Int) ∧ pn ≤ 6 := by
                  simp only [List.mem_cons, List.not_mem_nil, or_false] at hp
                  rcases hp with rfl | rfl
                  · exact ⟨5, rfl, by omega⟩
                  · exact ⟨6, rfl, by omega⟩
                replace hS := hNx.1
                replace hG := grown_trans hG (grown_trans (below_grown ((Below.refl _ _).alloc (Nat.le_refl _) _) g) hNx.2)
                clear hNx hp
                have dp := decB_size p
                have q1 : ¬ 9223372036854775807 < t.size + 15 + (decB (p : Nat)).size := by omega
                have q2 : ¬ 9223372036854775807 < t.size + 15 + (decB (p : Nat)).size + 18 := by omega
                go_wp2_with fail
                refine (spec_l01Dec p _ (by omega)).mono ?_
                rintro e W11 ⟨rfl, hbx⟩
                replace hS := hS.now hbx
                replace hG := grown_trans hG (below_grown hbx g)
                clear hbx
                go_wp2
                go_ret
                exact ⟨_, rfl, Nat.le_trans (cat_size (cat_size (cat_size hts (n := 15) (by decide)) (show (decB (p : Nat)).size ≤ 7 by omega)) (n := 18) (by decide)) (by omega), hS, hG⟩
              · by_cases z3 : z = 3
                · subst z3
                  go_wp2
                  go_loopw [3, 9] (fun tv kv wr => ∃ (t : ByteArray) (k : Nat), tv = .string t ∧ kv = .int .i64 k ∧ k ≤ 28 ∧ t.size ≤ 600 + 17 * k ∧ Src wr g ∧ w.grownBy wr (some g)) (fun _ kv _ => 28 - (intOf kv).toNat)
                  case atStart => exact ⟨t, 0, rfl, rfl, by omega, by omega, hS, hG⟩
                  case round =>
                    clear hS hG hts
                    obtain ⟨t, r, rfl, rfl, hr, hts, hS, hG⟩ := hrel
                    by_cases hlt2 : r < 28
                    · have hr1 : (r : Int) < 28 := by omega
                      have q0 : ¬ 9223372036854775807 < t.size + 17 := by omega
                      go_wp2
                      go_roundw
                      case rel => exact ⟨_, r + 1, rfl, by go_num, hlt2, Nat.le_trans (cat_size hts (n := 17) (by decide)) (by omega), hS, hG⟩
                      case measure => simp [intOf] <;> omega
                    · have hr1 : ¬ (r : Int) < 28 := by omega
                      go_wp2
                      go_ret
                      exact ⟨_, rfl, by omega, hS, hG⟩
                · have n0 : (z == 0) = false := by simpa using z0
                  have n1 : (z == 1) = false := by simpa using z1
                  have n2 : (z == 2) = false := by simpa using z2
                  have n3 : (z == 3) = false := by simpa using z3
                  clear z0 z1 z2 z3
                  by_cases z4 : z = 4
                  · subst z4
                    go_wp2
                    go_ret
                    exact ⟨_, rfl, by decide, hS, hG⟩
                  · have n4 : (z == 4) = false := by simpa using z4
                    clear z4
                    go_wp2
                    go_ret
                    exact ⟨_, rfl, by omega, hS, hG⟩
end Go.Proofs.YtcoomogabicfnaaGreatDoor
