/-
  The walks of the functions that make matrices.
-/
import Derived.Test.YtcoomogabicfnaaMat
import Derived.Test.YtcoomogabicfnaaCore
namespace Go.Proofs.Ytcoomogabicfnaa
open Go.RowKit
set_option linter.unusedVariables false
set_option linter.unusedSimpArgs false
theorem run_enter {P : Program} {f : FuncId} {fn : Func} (hf : P.funcs[f]? = some fn) (hname : (fn.name == "runtime.NumGoroutine") = false) (hb : fn.body.isNone = false) :
    Hid (∀ (a : Array Value) (W : World), Sem.run P (callFunc f a) W = .ok (.enter f a) W) := by
  intro a W
  have h1 : fn.name ≠ "runtime.NumGoroutine" := by simpa using hname
  have h2 : ¬ fn.body = none := by intro e; rw [e] at hb; cases hb
  simp [callFunc, go_sem, hf, h2, h1]

set_option maxHeartbeats 4000000 in
set_option maxRecDepth 100000 in
theorem m_matrixBy (ff : FuncId) (hff : Hid (∀ (a : Array Value) (W : World), Sem.run Try.prog (callFunc ff a) W = .ok (.enter ff a) W)) (cap : Array Value) (m n : Nat) (F : Nat → Nat → Int) (w : World) (hm : m ≤ 1000) (hn : n ≤ 1000)
    (hclo : ∀ (i j : Nat), i < m → j < n → ∀ (W : World), Below w.heap.size w W → Calls Try.prog ff (#[.int .i64 i, .int .i64 j] ++ cap) W fun e W' => e = .returned (.int .i64 (F i j)) ∧ Below W.heap.size W W') :
    Calls Try.prog 24 #[.int .i64 m, .int .i64 n, .func (.func ff) #[] cap] w (RetM w (matF n F m)) := by
  have hC := Lib.hid hclo
  clear hclo
  have hmk := run_make_lst (P := Try.prog) Ref.cells 1 Ref.cells_len (by omega) ⟨none, 0, 0⟩ 28 50 _ 24 Try.underlying28 info_ref rfl .i64 .i64 m (by omega) (by omega)
  have hm1 := fun w => (hmk w).1
  have hm2 := Lib.hid ((hmk w).2 w.heap.size (Nat.le_refl _))
  have hmk2 := run_make_lst (P := Try.prog) intCell 1 intCell_len (by omega) (0 : Int) 50 2 _ 8 Try.underlying50 info_i64 rfl .i64 .i64 n (by omega) (by omega)
  have hm3 := fun w => (hmk2 w).1
  have hm4 := Lib.hid (fun w base h => (hmk2 w).2 base h)
  clear hmk hmk2
  go_enter Try.func24, Try.ntmps24
  go_wp2
  clear hm1
  go_loopw [8, 9, 14] (fun _ _ i wr => ∃ k : Nat, k ≤ m ∧ i = .int .i64 k ∧ OwnM wr w.heap.size (.slice (some ⟨w.heap.size, 0, none⟩) m m) (matF n F k ++ List.replicate (m - k) []) ∧ Below w.heap.size w wr) (fun _ _ i _ => m - (intOf i).toNat)
  case atStart => exact ⟨0, Nat.zero_le _, rfl, by simpa [matF] using OwnM.made hm2.out, (Below.refl _ _).alloc (Nat.le_refl _) _⟩
  case round =>
    clear hm2
    obtain ⟨k, hk, rfl, hM, hB⟩ := hrel
    have hs := hB.size
    by_cases hlt : k < m
    · have hkl : k < (matF n F k ++ List.replicate (m - k) ([] : List Int)).length := by simp [matF_len]; omega
      obtain ⟨g, cu, r0, hu, hgb, hgl, hfz, hcell, hr0, hne0, _, _⟩ := hM.row k hkl
      obtain rfl : g = w.heap.size := by injection hu with hu _ _; injection hu with hu; injection hu with hu _ _; exact hu.symm
      clear hu
      have hnew := hm4.out wr wr.heap.size (Nat.le_refl _)
      have hMs := hM.setNew (w2 := wr.alloc (.cells (madeCells (intCell 0).toArray (n * 1)) 2)) ((Below.refl _ _).alloc (Nat.le_refl _) _) k hkl ⟨some ⟨wr.heap.size, 0, none⟩, n, n⟩ (List.replicate n 0) hnew hs rfl
      have hBs := (hB.alloc hs (.cells (madeCells (intCell 0).toArray (n * 1)) 2)).setCell (p := ⟨w.heap.size, k, none⟩) (Nat.le_refl _) (Ref.val ⟨some ⟨wr.heap.size, 0, none⟩, n, n⟩)
      rw [World.setCell_alloc_past _ _ _ _ hgl] at hMs hBs
      simp only [Nat.mul_one] at hMs hBs
      have hMs' := Lib.hid hMs
      have hBs' := Lib.hid hBs
      clear hMs hBs hnew hr0 hne0
      have q1 : w.heap.size ≠ wr.heap.size := by omega
      simp only [Ref.val] at hcell
      go_wp2
      clear hcell hfz hM hB hm3
      go_loopw [9, 27] (fun _ i w2 => ∃ j : Nat, j ≤ n ∧ i = .int .i64 j ∧ OwnM w2 w.heap.size (.slice (some ⟨w.heap.size, 0, none⟩) m m) ((matF n F k ++ List.replicate (m - k) []).set k (rowF n (F k) j)) ∧ Below w.heap.size w w2) (fun _ i _ => n - (intOf i).toNat)
      case atStart => exact ⟨0, Nat.zero_le _, rfl, by rw [rowF_zero]; exact hMs'.out, hBs'.out⟩
      case round =>
        clear hMs' hBs' hs hgl hgb q1
        obtain ⟨j, hj, rfl, hM, hB⟩ := hrel
        by_cases hlt2 : j < n
        · have hkl2 : k < ((matF n F k ++ List.replicate (m - k) ([] : List Int)).set k (rowF n (F k) j)).length := by simpa using hkl
          obtain ⟨g, cu, r, hu, hgb, hgl, hfz, hcd, hr, hne, hset, _⟩ := hM.row k hkl2
          obtain rfl : g = w.heap.size := by injection hu with hu _ _; injection hu with hu; injection hu with hu _ _; exact hu.symm
          clear hu
          rw [List.getElem_set_self] at hr
          have hjl : j < (rowF n (F k) j).length := by rw [rowF_len _ _ _ hj]; exact hlt2
          obtain ⟨b, cr, hv, hbB, hbl0, _⟩ := hr.at_ intCell_len j hjl
          rw [rowF_len _ _ _ hj] at hv
          rw [hv] at hcd hr hset
          have hset' := Lib.hid hset
          clear hset hv hne
          have hBd := hB.drew
          have hcd' := cell_keep hcd (Below.drew (Below.refl _ wr))
          have i1 : (0 : Int) ≤ (k : Int) := by omega
          have i2 : (k : Int) < (m : Int) := by omega
          have i3 : (0 : Int) ≤ (j : Int) := by omega
          have i4 : (j : Int) < (n : Int) := by omega
          go_wp2_with fail
          refine wp_region_E (fun w' => w'.cell? ⟨w.heap.size, k, none⟩ = some (.slice (some ⟨b, 0, none⟩) n cr)) 10 (by kernel_rfl) ?_
          have hS0 : (fun w' : World => w'.cell? ⟨w.heap.size, k, none⟩ = some (.slice (some ⟨b, 0, none⟩) n cr)) wr.drew := hcd'
          refine wpAnyE_take (i := 0) (v := ?_) rfl (by kernel_rfl) (by kernel_rfl) (by kernel_rfl) (by kernel_rfl) (by kernel_rfl) (fun _ _ _ h => h) hS0 (by rfl) ?_ ?_
          rotate_left
          · intro w9 hSw
            try dsimp only at hSw
            obtain s0 := hSw
            go_simp
            try with_reducible rfl
          try simp only [Act.put, List.setIfInBounds_toArray, List.set_cons_zero, List.set_cons_succ]
          refine wpAnyE_take (i := 1) (v := ?_) rfl (by kernel_rfl) (by kernel_rfl) (by kernel_rfl) (by kernel_rfl) (by kernel_rfl) (fun _ _ _ h => h) hS0 (by rfl) ?_ ?_
          rotate_left
          · intro w9 hSw
            try dsimp only at hSw
            obtain s0 := hSw
            go_simp
            try with_reducible rfl
          try simp only [Act.put, List.setIfInBounds_toArray, List.set_cons_zero, List.set_cons_succ]
          refine wpAnyE_take (i := 2) (v := ?_) rfl (by kernel_rfl) (by kernel_rfl) (by kernel_rfl) (by kernel_rfl) (by kernel_rfl) (fun _ _ _ h => h) hS0 (by rfl) ?_ ?_
          rotate_left
          · intro w9 hSw
            try dsimp only at hSw
            obtain s0 := hSw
            go_simp
            try with_reducible rfl
          try simp only [Act.put, List.setIfInBounds_toArray, List.set_cons_zero, List.set_cons_succ]
          refine wpAnyE_take (i := 3) (v := ?_) rfl (by kernel_rfl) (by kernel_rfl) (by kernel_rfl) (by kernel_rfl) (by kernel_rfl) (fun _ _ _ h => h) hS0 (by rfl) ?_ ?_
          rotate_left
          · intro w9 hSw
            try dsimp only at hSw
            obtain s0 := hSw
            go_simp
            try with_reducible rfl
          try simp only [Act.put, List.setIfInBounds_toArray, List.set_cons_zero, List.set_cons_succ]
          refine wpAnyE_take (i := 4) (v := ?_) rfl (by kernel_rfl) (by kernel_rfl) (by kernel_rfl) (by kernel_rfl) (by kernel_rfl) (fun _ _ _ h => h) hS0 (by rfl) ?_ ?_
          rotate_left
          · intro w9 hSw
            try dsimp only at hSw
            obtain s0 := hSw
            go_simp
            try with_reducible rfl
          try simp only [Act.put, List.setIfInBounds_toArray, List.set_cons_zero, List.set_cons_succ]
          refine wpAnyE_take (i := 5) (v := ?_) rfl (by kernel_rfl) (by kernel_rfl) (by kernel_rfl) (by kernel_rfl) (by kernel_rfl) (fun _ _ _ h => h) hS0 (by rfl) ?_ ?_
          rotate_left
          · intro w9 hSw
            try dsimp only at hSw
            obtain s0 := hSw
            go_simp
            try with_reducible rfl
          try simp only [Act.put, List.setIfInBounds_toArray, List.set_cons_zero, List.set_cons_succ]
          refine wpAnyE_take (i := 6) (v := ?_) rfl (by kernel_rfl) (by kernel_rfl) (by kernel_rfl) (by kernel_rfl) (by kernel_rfl) (fun _ _ _ h => h) hS0 (by rfl) ?_ ?_
          rotate_left
          · intro w9 hSw
            try dsimp only at hSw
            obtain s0 := hSw
            go_simp
            try with_reducible rfl
          try simp only [Act.put, List.setIfInBounds_toArray, List.set_cons_zero, List.set_cons_succ]
          refine wpAnyE_take (i := 7) (v := ?_) rfl (by kernel_rfl) (by kernel_rfl) (by kernel_rfl) (by kernel_rfl) (by kernel_rfl) (fun _ _ _ h => h) hS0 (by rfl) ?_ ?_
          rotate_left
          · intro w9 hSw
            try dsimp only at hSw
            obtain s0 := hSw
            go_simp
            try with_reducible rfl
          try simp only [Act.put, List.setIfInBounds_toArray, List.set_cons_zero, List.set_cons_succ]
          refine wpAnyE_one (i := 8) rfl (by kernel_rfl) (fun K hK => ?_)
          go_simp
          rw [hff.out, Oper.upon_enter]
          refine (hC.out k j hlt hlt2 _ hBd).mono ?_
          rintro e wz ⟨rfl, hBz⟩
          try dsimp only
          have hcz : wz.cell? ⟨w.heap.size, k, none⟩ = some (.slice (some ⟨b, 0, none⟩) n cr) := cell_keep hcd' hBz
          refine hK.out _ _ (fun _ => hcz) ?_
          clear hK K
          try simp only [Act.put, List.setIfInBounds_toArray, List.set_cons_zero, List.set_cons_succ]
          refine wpAnyE_one (i := 9) rfl (by kernel_rfl) (fun K hK => ?_)
          go_simp
          refine hK.out _ _ (fun _ => hcz) ?_
          clear hK K
          try simp only [Act.put, List.setIfInBounds_toArray, List.set_cons_zero, List.set_cons_succ]
          have hBw : Below wr.heap.size wr wz := (Below.drew (Below.refl _ wr)).trans (Below.mono (w := wr.drew) hBz (Nat.le_refl _))
          have hrz := hr.now hBw
          obtain ⟨hbb, hbl, hfzz, hcellz⟩ := own_ints_at hrz j hjl
          refine wpAnyE_one (i := 10) rfl (by kernel_rfl) (fun K hK => ?_)
          go_simp
          refine hK.out _ _ (fun h => absurd rfl h) ?_
          clear hK K
          try simp only [Act.put, List.setIfInBounds_toArray, List.set_cons_zero, List.set_cons_succ]
          refine wpAnyE_done (by kernel_rfl) ?_
          have hMn := hset'.out _ _ (hrz.set1 j hjl (F k j)) (grown_set (p := ⟨b, j, none⟩) (grown_of_below hBw) rfl _)
          rw [rowF_set _ _ _ hlt2, List.set_set] at hMn
          have hBn := (hB.trans (hBw.mono hB.size)).setCell (p := ⟨b, j, none⟩) hbB (.int .i64 (F k j))
          clear hS0 hcz hcd hcd' hcellz hfzz hrz hr
          go_wp2
          go_roundw
          case rel => exact ⟨j + 1, hlt2, by go_num, hMn, hBn⟩
          case measure => simp [intOf]; omega
        · obtain rfl : j = n := by omega
          rw [rowF_all, matF_next _ _ _ _ hlt] at hM
          go_wp2
          go_roundw
          case rel => exact ⟨k + 1, hlt, by go_num, hM, hB⟩
          case measure => simp [intOf]; omega
    · obtain rfl : k = m := by omega
      simp only [Nat.sub_self, List.replicate_zero, List.append_nil] at hM
      go_wp2
      go_ret
      exact ⟨_, rfl, hM, hB⟩
end Go.Proofs.Ytcoomogabicfnaa
namespace Go.Proofs.Ytcoomogabicfnaa
open Go.RowKit
set_option linter.unusedVariables false
set_option linter.unusedSimpArgs false

set_option maxHeartbeats 4000000 in
set_option maxRecDepth 100000 in
theorem m1_matrixBy  (m n : Nat) (F : Nat → Nat → Int) (w : World) (hm : m ≤ 1000) (hn : n ≤ 1000)
    (hclo : ∀ (i j : Nat), i < m → j < n → ∀ (W : World), Below w.heap.size w W → Calls Try.prog 82 #[.int .i64 i, .int .i64 j] W fun e W' => e = .returned (.int .i64 (F i j)) ∧ Below W.heap.size W W') :
    Calls Try.prog 24 #[.int .i64 m, .int .i64 n, .func (.func 82) #[] #[]] w (RetM w (matF n F m)) := by
  have hC := Lib.hid hclo
  clear hclo
  have hmk := run_make_lst (P := Try.prog) Ref.cells 1 Ref.cells_len (by omega) ⟨none, 0, 0⟩ 28 50 _ 24 Try.underlying28 info_ref rfl .i64 .i64 m (by omega) (by omega)
  have hm1 := fun w => (hmk w).1
  have hm2 := Lib.hid ((hmk w).2 w.heap.size (Nat.le_refl _))
  have hmk2 := run_make_lst (P := Try.prog) intCell 1 intCell_len (by omega) (0 : Int) 50 2 _ 8 Try.underlying50 info_i64 rfl .i64 .i64 n (by omega) (by omega)
  have hm3 := fun w => (hmk2 w).1
  have hm4 := Lib.hid (fun w base h => (hmk2 w).2 base h)
  clear hmk hmk2
  go_enter Try.func24, Try.ntmps24
  go_wp2
  clear hm1
  go_loopw [8, 9, 14] (fun _ _ i wr => ∃ k : Nat, k ≤ m ∧ i = .int .i64 k ∧ OwnM wr w.heap.size (.slice (some ⟨w.heap.size, 0, none⟩) m m) (matF n F k ++ List.replicate (m - k) []) ∧ Below w.heap.size w wr) (fun _ _ i _ => m - (intOf i).toNat)
  case atStart => exact ⟨0, Nat.zero_le _, rfl, by simpa [matF] using OwnM.made hm2.out, (Below.refl _ _).alloc (Nat.le_refl _) _⟩
  case round =>
    clear hm2
    obtain ⟨k, hk, rfl, hM, hB⟩ := hrel
    have hs := hB.size
    by_cases hlt : k < m
    · have hkl : k < (matF n F k ++ List.replicate (m - k) ([] : List Int)).length := by simp [matF_len]; omega
      obtain ⟨g, cu, r0, hu, hgb, hgl, hfz, hcell, hr0, hne0, _, _⟩ := hM.row k hkl
      obtain rfl : g = w.heap.size := by injection hu with hu _ _; injection hu with hu; injection hu with hu _ _; exact hu.symm
      clear hu
      have hnew := hm4.out wr wr.heap.size (Nat.le_refl _)
      have hMs := hM.setNew (w2 := wr.alloc (.cells (madeCells (intCell 0).toArray (n * 1)) 2)) ((Below.refl _ _).alloc (Nat.le_refl _) _) k hkl ⟨some ⟨wr.heap.size, 0, none⟩, n, n⟩ (List.replicate n 0) hnew hs rfl
      have hBs := (hB.alloc hs (.cells (madeCells (intCell 0).toArray (n * 1)) 2)).setCell (p := ⟨w.heap.size, k, none⟩) (Nat.le_refl _) (Ref.val ⟨some ⟨wr.heap.size, 0, none⟩, n, n⟩)
      rw [World.setCell_alloc_past _ _ _ _ hgl] at hMs hBs
      simp only [Nat.mul_one] at hMs hBs
      have hMs' := Lib.hid hMs
      have hBs' := Lib.hid hBs
      clear hMs hBs hnew hr0 hne0
      have q1 : w.heap.size ≠ wr.heap.size := by omega
      simp only [Ref.val] at hcell
      go_wp2
      clear hcell hfz hM hB hm3
      go_loopw [9, 27] (fun _ i w2 => ∃ j : Nat, j ≤ n ∧ i = .int .i64 j ∧ OwnM w2 w.heap.size (.slice (some ⟨w.heap.size, 0, none⟩) m m) ((matF n F k ++ List.replicate (m - k) []).set k (rowF n (F k) j)) ∧ Below w.heap.size w w2) (fun _ i _ => n - (intOf i).toNat)
      case atStart => exact ⟨0, Nat.zero_le _, rfl, by rw [rowF_zero]; exact hMs'.out, hBs'.out⟩
      case round =>
        clear hMs' hBs' hs hgl hgb q1
        obtain ⟨j, hj, rfl, hM, hB⟩ := hrel
        by_cases hlt2 : j < n
        · have hkl2 : k < ((matF n F k ++ List.replicate (m - k) ([] : List Int)).set k (rowF n (F k) j)).length := by simpa using hkl
          obtain ⟨g, cu, r, hu, hgb, hgl, hfz, hcd, hr, hne, hset, _⟩ := hM.row k hkl2
          obtain rfl : g = w.heap.size := by injection hu with hu _ _; injection hu with hu; injection hu with hu _ _; exact hu.symm
          clear hu
          rw [List.getElem_set_self] at hr
          have hjl : j < (rowF n (F k) j).length := by rw [rowF_len _ _ _ hj]; exact hlt2
          obtain ⟨b, cr, hv, hbB, hbl0, _⟩ := hr.at_ intCell_len j hjl
          rw [rowF_len _ _ _ hj] at hv
          rw [hv] at hcd hr hset
          have hset' := Lib.hid hset
          clear hset hv hne
          have hBd := hB.drew
          have hcd' := cell_keep hcd (Below.drew (Below.refl _ wr))
          have i1 : (0 : Int) ≤ (k : Int) := by omega
          have i2 : (k : Int) < (m : Int) := by omega
          have i3 : (0 : Int) ≤ (j : Int) := by omega
          have i4 : (j : Int) < (n : Int) := by omega
          go_wp2_with fail
          refine wp_region_E (fun w' => w'.cell? ⟨w.heap.size, k, none⟩ = some (.slice (some ⟨b, 0, none⟩) n cr)) 10 (by kernel_rfl) ?_
          have hS0 : (fun w' : World => w'.cell? ⟨w.heap.size, k, none⟩ = some (.slice (some ⟨b, 0, none⟩) n cr)) wr.drew := hcd'
          refine wpAnyE_take (i := 0) (v := ?_) rfl (by kernel_rfl) (by kernel_rfl) (by kernel_rfl) (by kernel_rfl) (by kernel_rfl) (fun _ _ _ h => h) hS0 (by rfl) ?_ ?_
          rotate_left
          · intro w9 hSw
            try dsimp only at hSw
            obtain s0 := hSw
            go_simp
            try with_reducible rfl
          try simp only [Act.put, List.setIfInBounds_toArray, List.set_cons_zero, List.set_cons_succ]
          refine wpAnyE_take (i := 1) (v := ?_) rfl (by kernel_rfl) (by kernel_rfl) (by kernel_rfl) (by kernel_rfl) (by kernel_rfl) (fun _ _ _ h => h) hS0 (by rfl) ?_ ?_
          rotate_left
          · intro w9 hSw
            try dsimp only at hSw
            obtain s0 := hSw
            go_simp
            try with_reducible rfl
          try simp only [Act.put, List.setIfInBounds_toArray, List.set_cons_zero, List.set_cons_succ]
          refine wpAnyE_take (i := 2) (v := ?_) rfl (by kernel_rfl) (by kernel_rfl) (by kernel_rfl) (by kernel_rfl) (by kernel_rfl) (fun _ _ _ h => h) hS0 (by rfl) ?_ ?_
          rotate_left
          · intro w9 hSw
            try dsimp only at hSw
            obtain s0 := hSw
            go_simp
            try with_reducible rfl
          try simp only [Act.put, List.setIfInBounds_toArray, List.set_cons_zero, List.set_cons_succ]
          refine wpAnyE_take (i := 3) (v := ?_) rfl (by kernel_rfl) (by kernel_rfl) (by kernel_rfl) (by kernel_rfl) (by kernel_rfl) (fun _ _ _ h => h) hS0 (by rfl) ?_ ?_
          rotate_left
          · intro w9 hSw
            try dsimp only at hSw
            obtain s0 := hSw
            go_simp
            try with_reducible rfl
          try simp only [Act.put, List.setIfInBounds_toArray, List.set_cons_zero, List.set_cons_succ]
          refine wpAnyE_take (i := 4) (v := ?_) rfl (by kernel_rfl) (by kernel_rfl) (by kernel_rfl) (by kernel_rfl) (by kernel_rfl) (fun _ _ _ h => h) hS0 (by rfl) ?_ ?_
          rotate_left
          · intro w9 hSw
            try dsimp only at hSw
            obtain s0 := hSw
            go_simp
            try with_reducible rfl
          try simp only [Act.put, List.setIfInBounds_toArray, List.set_cons_zero, List.set_cons_succ]
          refine wpAnyE_take (i := 5) (v := ?_) rfl (by kernel_rfl) (by kernel_rfl) (by kernel_rfl) (by kernel_rfl) (by kernel_rfl) (fun _ _ _ h => h) hS0 (by rfl) ?_ ?_
          rotate_left
          · intro w9 hSw
            try dsimp only at hSw
            obtain s0 := hSw
            go_simp
            try with_reducible rfl
          try simp only [Act.put, List.setIfInBounds_toArray, List.set_cons_zero, List.set_cons_succ]
          refine wpAnyE_take (i := 6) (v := ?_) rfl (by kernel_rfl) (by kernel_rfl) (by kernel_rfl) (by kernel_rfl) (by kernel_rfl) (fun _ _ _ h => h) hS0 (by rfl) ?_ ?_
          rotate_left
          · intro w9 hSw
            try dsimp only at hSw
            obtain s0 := hSw
            go_simp
            try with_reducible rfl
          try simp only [Act.put, List.setIfInBounds_toArray, List.set_cons_zero, List.set_cons_succ]
          refine wpAnyE_take (i := 7) (v := ?_) rfl (by kernel_rfl) (by kernel_rfl) (by kernel_rfl) (by kernel_rfl) (by kernel_rfl) (fun _ _ _ h => h) hS0 (by rfl) ?_ ?_
          rotate_left
          · intro w9 hSw
            try dsimp only at hSw
            obtain s0 := hSw
            go_simp
            try with_reducible rfl
          try simp only [Act.put, List.setIfInBounds_toArray, List.set_cons_zero, List.set_cons_succ]
          refine wpAnyE_one (i := 8) rfl (by kernel_rfl) (fun K hK => ?_)
          go_simp
          refine (hC.out k j hlt hlt2 _ hBd).mono ?_
          rintro e wz ⟨rfl, hBz⟩
          try dsimp only
          have hcz : wz.cell? ⟨w.heap.size, k, none⟩ = some (.slice (some ⟨b, 0, none⟩) n cr) := cell_keep hcd' hBz
          refine hK.out _ _ (fun _ => hcz) ?_
          clear hK K
          try simp only [Act.put, List.setIfInBounds_toArray, List.set_cons_zero, List.set_cons_succ]
          refine wpAnyE_one (i := 9) rfl (by kernel_rfl) (fun K hK => ?_)
          go_simp
          refine hK.out _ _ (fun _ => hcz) ?_
          clear hK K
          try simp only [Act.put, List.setIfInBounds_toArray, List.set_cons_zero, List.set_cons_succ]
          have hBw : Below wr.heap.size wr wz := (Below.drew (Below.refl _ wr)).trans (Below.mono (w := wr.drew) hBz (Nat.le_refl _))
          have hrz := hr.now hBw
          obtain ⟨hbb, hbl, hfzz, hcellz⟩ := own_ints_at hrz j hjl
          refine wpAnyE_one (i := 10) rfl (by kernel_rfl) (fun K hK => ?_)
          go_simp
          refine hK.out _ _ (fun h => absurd rfl h) ?_
          clear hK K
          try simp only [Act.put, List.setIfInBounds_toArray, List.set_cons_zero, List.set_cons_succ]
          refine wpAnyE_done (by kernel_rfl) ?_
          have hMn := hset'.out _ _ (hrz.set1 j hjl (F k j)) (grown_set (p := ⟨b, j, none⟩) (grown_of_below hBw) rfl _)
          rw [rowF_set _ _ _ hlt2, List.set_set] at hMn
          have hBn := (hB.trans (hBw.mono hB.size)).setCell (p := ⟨b, j, none⟩) hbB (.int .i64 (F k j))
          clear hS0 hcz hcd hcd' hcellz hfzz hrz hr
          go_wp2
          go_roundw
          case rel => exact ⟨j + 1, hlt2, by go_num, hMn, hBn⟩
          case measure => simp [intOf]; omega
        · obtain rfl : j = n := by omega
          rw [rowF_all, matF_next _ _ _ _ hlt] at hM
          go_wp2
          go_roundw
          case rel => exact ⟨k + 1, hlt, by go_num, hM, hB⟩
          case measure => simp [intOf]; omega
    · obtain rfl : k = m := by omega
      simp only [Nat.sub_self, List.replicate_zero, List.append_nil] at hM
      go_wp2
      go_ret
      exact ⟨_, rfl, hM, hB⟩
end Go.Proofs.Ytcoomogabicfnaa
