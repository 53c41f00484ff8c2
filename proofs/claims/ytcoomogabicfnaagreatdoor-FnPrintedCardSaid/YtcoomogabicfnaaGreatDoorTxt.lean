/-
  Numbers as texts, both sides.
-/
import Derived.Test.YtcoomogabicfnaaGreatDoorRows
import Derived.Test.YtcoomogabicfnaaGreatDoorSrc
import Derived.Lib.AppendIntMem
import Derived.Shelf.Strconv.Itoa4
import Derived.Shelf.Lay
import Derived.Lib.AppendStr
import Derived.Ground.NamesProg
namespace Go.Proofs.YtcoomogabicfnaaGreatDoor
open Go.RowKit
set_option linter.unusedVariables false
set_option linter.unusedSimpArgs false
shelf_lay LaysM.n173 Nm 173 at Tryz as Tryz.lays173
/-- The bytes of a number's text. -/
def decB (n : Int) : ByteArray := ⟨(Lib.itoa n).toArray⟩
/-- What the package's table holds. -/
def TabOf (w : World) : Prop := Lib.TabIs Tryz.prog w "internal/strconv.uint64pow10" .u64 Lib.pow10Tab
theorem TabOf.now {w w' : World} (h : TabOf w) (hb : Below w.heap.size w w') : TabOf w' := (Lib.tabBelow_of_tabIs h) w' hb
set_option maxHeartbeats 400000 in
set_option maxRecDepth 100000 in
theorem impl_decimal (n : Int) (w : World) (hT : TabOf w) (h0 : -9223372036854775808 ≤ n) (h1 : n ≤ 9223372036854775807) :
    Calls Tryz.prog 50 #[.int .i64 n] w fun e w' => e = .returned (.string (decB n)) ∧ Below w.heap.size w w' := by
  have hc := Any.strconv_FormatInt_10 Tryz.lays173 n h0 h1 w hT
  change Calls Tryz.prog 72 _ _ _ at hc
  go_enter Tryz.func50, Tryz.ntmps50
  go_wp2_with fail
  refine hc.mono ?_
  rintro e w' ⟨rfl, k, os, rfl⟩
  have hB : Below w.heap.size w (Sort.grow (w.drewN k) os) := ⟨rfl, rfl, rfl, by simp [Sort.grow, World.drewN], fun i hi => by simp [Sort.grow, World.drewN, Array.getElem?_append, hi]⟩
  clear hc
  go_wp2
  go_ret
  exact ⟨rfl, hB⟩
/-- One byte, as a text. -/
theorem conv_one (w : World) (b : Nat) (x : Int) (h : w.cell? ⟨b, 0, none⟩ = some (.int .u8 x)) : (convert 22 9 (.slice (some ⟨b, 0, none⟩) 1 1)).run Tryz.prog w = .ok (.string (strOfNums [x])) w :=
  run_convert_bytes_arg w 22 5 Tryz.underlying22 Tryz.underlying5 b 0 1 1 [x] rfl (fun i hi => by
    obtain rfl : i = 0 := by omega
    simpa using h) _ Tryz.underlying9
theorem decB_small {n : Nat} (h : n < 10) : decB n = strOfNums [48 + (n : Int)] := by
  unfold decB Lib.itoa strOfNums
  rw [if_neg (by omega), Int.toNat_natCast, Lib.decDigits_one h]
  have : (48 + (n : Int)).toNat = 48 + n := by omega
  simp [this]
theorem decB_step {n : Nat} (h : ¬ n < 10) : decB n = decB (n / 10 : Nat) ++ strOfNums [48 + ((n % 10 : Nat) : Int)] := by
  unfold decB Lib.itoa strOfNums
  rw [if_neg (by omega), if_neg (by omega), Int.toNat_natCast, Int.toNat_natCast, Lib.decDigits, dif_neg h]
  have : (48 + ((n % 10 : Nat) : Int)).toNat = 48 + n % 10 := by omega
  rw [List.map_cons, List.map_nil, this]
  apply ByteArray.ext
  simp
theorem dec_len : ∀ n : Nat, (Lib.decDigits n).length ≤ n + 1 := by
  intro n
  induction n using Nat.strongRecOn with
  | _ n ih =>
  rw [Lib.decDigits]
  split
  · simp
  · rw [List.length_append, List.length_singleton]
    have := ih (n / 10) (by omega)
    omega
theorem decB_size (n : Nat) : (decB n).size ≤ n + 1 := by
  have := dec_len n
  unfold decB Lib.itoa
  rw [if_neg (by omega), Int.toNat_natCast]
  simpa [ByteArray.size] using this
set_option maxHeartbeats 4000000 in
set_option maxRecDepth 100000 in
theorem spec_l01Dec (n : Nat) (w : World) (hn : n ≤ 1000000000000) :
    Calls Tryz.prog 27 #[.int .i64 n] w fun e w' => e = .returned (.string (decB n)) ∧ Below w.heap.size w w' := by
  induction n using Nat.strongRecOn generalizing w with
  | _ n ih =>
  have hcv := conv_one
  by_cases h : n < 10
  · have h' : (n : Int) < 10 := by omega
    have hE : Hid (decB n = strOfNums [48 + (n : Int)]) := decB_small h
    rw [hE.out]
    clear ih
    go_enter Tryz.func27, Tryz.ntmps27
    go_wp2
    go_ret
    exact ⟨rfl, (by repeat (first | exact Below.refl _ _ | assumption | refine Below.drew ?_ | refine Below.alloc ?_ (by simp <;> omega) _ | refine Below.setCell ?_ (by simp <;> omega) _))⟩
  · have h' : ¬ (n : Int) < 10 := by omega
    have hE : Hid (decB n = decB (n / 10 : Nat) ++ strOfNums [48 + ((n % 10 : Nat) : Int)]) := decB_step h
    rw [hE.out]
    have hI := Lib.hid (fun w => ih (n / 10) (by omega) w (by omega))
    have e1 : (n : Int).tdiv 10 = ((n / 10 : Nat) : Int) := (Int.ofNat_tdiv n 10).symm
    have e2 : (n : Int).tmod 10 = ((n % 10 : Nat) : Int) := (Int.ofNat_tmod n 10).symm
    have hr : n % 10 < 10 := Nat.mod_lt _ (by omega)
    have hq : n / 10 ≤ 1000000000000 := by omega
    clear ih hE
    generalize n / 10 = q at *
    generalize n % 10 = r at *
    have r1 : (r : Int) < 10 := by omega
    have wq : IntKind.i64.wrap (q : Int) = (q : Int) := IntWalk.i64_in _ (by omega)
    have wr : IntKind.i64.wrap (r : Int) = (r : Int) := IntWalk.i64_in _ (by omega)
    have ws : IntKind.i64.wrap (48 + (r : Int)) = 48 + (r : Int) := IntWalk.i64_in _ (by omega)
    have wu : IntKind.u8.wrap (48 + (r : Int)) = 48 + (r : Int) := by simp [IntKind.wrap, IntKind.bits, IntKind.signed]; omega
    have hsz : ¬ 9223372036854775807 < (decB q).size + (strOfNums [48 + (r : Int)]).size := by
      have := decB_size q
      rw [strOfNums_size]
      simp
      omega
    go_enter Tryz.func27, Tryz.ntmps27
    go_wp2
    refine wp_region_held_drew (S := fun w' => True) (by kernel_rfl) trivial (fun hH => ?_)
    have hD0 : Below w.heap.size w w.drew := Below.drew (Below.refl _ w)
    generalize w.drew = V0 at *
    refine tkH 0 (v := ?_) rfl (fun _ _ _ h => h) (Or.inl ⟨by rfl, ?_⟩) hH ?_
    rotate_left
    · intro w9 hSw
      try dsimp only at hSw
      obtain s0 := hSw
      go_simp
      try with_reducible rfl
    try simp only [Act.put, List.setIfInBounds_toArray, List.set_cons_zero, List.set_cons_succ]
    refine tkH 1 (v := ?_) rfl (fun _ _ _ h => h) (Or.inl ⟨by rfl, ?_⟩) hH ?_
    rotate_left
    · intro w9 hSw
      try dsimp only at hSw
      obtain s0 := hSw
      go_simp
      try with_reducible rfl
    try simp only [Act.put, List.setIfInBounds_toArray, List.set_cons_zero, List.set_cons_succ]
    refine tkH 3 (v := ?_) rfl (fun _ _ _ h => h) (Or.inl ⟨by rfl, ?_⟩) hH ?_
    rotate_left
    · intro w9 hSw
      try dsimp only at hSw
      obtain s0 := hSw
      go_simp
      try with_reducible rfl
    try simp only [Act.put, List.setIfInBounds_toArray, List.set_cons_zero, List.set_cons_succ]
    refine tkH 4 (v := ?_) rfl (fun _ _ _ h => h) (Or.inl ⟨by rfl, ?_⟩) hH ?_
    rotate_left
    · intro w9 hSw
      try dsimp only at hSw
      obtain s0 := hSw
      go_simp
      try with_reducible rfl
    try simp only [Act.put, List.setIfInBounds_toArray, List.set_cons_zero, List.set_cons_succ]
    refine tkH 5 (v := ?_) rfl (fun _ _ _ h => h) (Or.inl ⟨by rfl, ?_⟩) hH ?_
    rotate_left
    · intro w9 hSw
      try dsimp only at hSw
      obtain s0 := hSw
      go_simp
      try with_reducible rfl
    try simp only [Act.put, List.setIfInBounds_toArray, List.set_cons_zero, List.set_cons_succ]
    refine tkH 6 (v := ?_) rfl (fun _ _ _ h => h) (Or.inl ⟨by rfl, ?_⟩) hH ?_
    rotate_left
    · intro w9 hSw
      try dsimp only at hSw
      obtain s0 := hSw
      go_simp
      try with_reducible rfl
    try simp only [Act.put, List.setIfInBounds_toArray, List.set_cons_zero, List.set_cons_succ]
    refine wpAnyH_ready (rs := [2, 7]) (by kernel_rfl) (by simp) ?_
    refine AllReadyH.cons rfl (fun K hK => ?_) (AllReadyH.cons rfl (fun K hK => ?_) AllReadyH.nil)
    · go_simp
      go_at_call 27
      refine (hI.out _).mono ?_
      rintro e9 w9 ⟨rfl, hb9⟩
      refine hK.out _ _ trivial (fun hH => ?_)
      clear hK K
      try simp only [Act.put, List.setIfInBounds_toArray, List.set_cons_zero, List.set_cons_succ]
      refine wpAnyH_ready (rs := [7]) (by kernel_rfl) (by simp) ?_
      refine AllReadyH.cons rfl (fun K hK => ?_) AllReadyH.nil
      go_simp
      refine hK.out _ _ trivial (fun hH => ?_)
      clear hK K
      try simp only [Act.put, List.setIfInBounds_toArray, List.set_cons_zero, List.set_cons_succ]
      refine wpAnyH_ready (rs := [8]) (by kernel_rfl) (by simp) ?_
      refine AllReadyH.cons rfl (fun K hK => ?_) AllReadyH.nil
      go_simp
      refine hK.out _ _ trivial (fun hH => ?_)
      clear hK K
      try simp only [Act.put, List.setIfInBounds_toArray, List.set_cons_zero, List.set_cons_succ]
      refine tkH 9 (v := ?_) rfl (fun _ _ _ h => h) (Or.inl ⟨by rfl, ?_⟩) hH ?_
      rotate_left
      · intro w9 hSw
        try dsimp only at hSw
        obtain s0 := hSw
        go_simp
        try with_reducible rfl
      try simp only [Act.put, List.setIfInBounds_toArray, List.set_cons_zero, List.set_cons_succ]
      refine tkH 10 (v := ?_) rfl (fun _ _ _ h => h) (Or.inl ⟨by rfl, ?_⟩) hH ?_
      rotate_left
      · intro w9 hSw
        try dsimp only at hSw
        obtain s0 := hSw
        go_simp
        try with_reducible rfl
      try simp only [Act.put, List.setIfInBounds_toArray, List.set_cons_zero, List.set_cons_succ]
      refine wpAnyH_done (by kernel_rfl) ?_ _
      go_wp2
      go_ret
      exact ⟨rfl, (hD0.trans (hb9.mono hD0.size)).alloc (Nat.le_trans hD0.size hb9.size) _⟩
    · go_simp
      refine hK.out _ _ trivial (fun hH => ?_)
      clear hK K
      try simp only [Act.put, List.setIfInBounds_toArray, List.set_cons_zero, List.set_cons_succ]
      have hD1 : Below w.heap.size w (V0.alloc (.cells #[.int .u8 (48 + (r : Int))] 5)) := hD0.alloc hD0.size _
      refine wpAnyH_ready (rs := [2, 8]) (by kernel_rfl) (by simp) ?_
      refine AllReadyH.cons rfl (fun K hK => ?_) (AllReadyH.cons rfl (fun K hK => ?_) AllReadyH.nil)
      · go_simp
        go_at_call 27
        refine (hI.out _).mono ?_
        rintro e9 w9 ⟨rfl, hb9⟩
        have c0 : w9.cell? ⟨V0.heap.size, 0, none⟩ = some (.int .u8 (48 + (r : Int))) := cell_keep (w := V0.alloc (.cells #[.int .u8 (48 + (r : Int))] 5)) (by simp) hb9
        refine hK.out _ _ trivial (fun hH => ?_)
        clear hK K
        try simp only [Act.put, List.setIfInBounds_toArray, List.set_cons_zero, List.set_cons_succ]
        refine wpAnyH_ready (rs := [8]) (by kernel_rfl) (by simp) ?_
        refine AllReadyH.cons rfl (fun K hK => ?_) AllReadyH.nil
        go_simp
        refine hK.out _ _ trivial (fun hH => ?_)
        clear hK K
        try simp only [Act.put, List.setIfInBounds_toArray, List.set_cons_zero, List.set_cons_succ]
        refine tkH 9 (v := ?_) rfl (fun _ _ _ h => h) (Or.inl ⟨by rfl, ?_⟩) hH ?_
        rotate_left
        · intro w9 hSw
          try dsimp only at hSw
          obtain s0 := hSw
          go_simp
          try with_reducible rfl
        try simp only [Act.put, List.setIfInBounds_toArray, List.set_cons_zero, List.set_cons_succ]
        refine tkH 10 (v := ?_) rfl (fun _ _ _ h => h) (Or.inl ⟨by rfl, ?_⟩) hH ?_
        rotate_left
        · intro w9 hSw
          try dsimp only at hSw
          obtain s0 := hSw
          go_simp
          try with_reducible rfl
        try simp only [Act.put, List.setIfInBounds_toArray, List.set_cons_zero, List.set_cons_succ]
        refine wpAnyH_done (by kernel_rfl) ?_ _
        go_wp2
        go_ret
        exact ⟨rfl, hD1.trans (hb9.mono hD1.size)⟩
      · go_simp
        refine hK.out _ _ trivial (fun hH => ?_)
        clear hK K
        try simp only [Act.put, List.setIfInBounds_toArray, List.set_cons_zero, List.set_cons_succ]
        refine wpAnyH_ready (rs := [2]) (by kernel_rfl) (by simp) ?_
        refine AllReadyH.cons rfl (fun K hK => ?_) AllReadyH.nil
        go_simp
        go_at_call 27
        refine (hI.out _).mono ?_
        rintro e9 w9 ⟨rfl, hb9⟩
        refine hK.out _ _ trivial (fun hH => ?_)
        clear hK K
        try simp only [Act.put, List.setIfInBounds_toArray, List.set_cons_zero, List.set_cons_succ]
        refine tkH 9 (v := ?_) rfl (fun _ _ _ h => h) (Or.inl ⟨by rfl, ?_⟩) hH ?_
        rotate_left
        · intro w9 hSw
          try dsimp only at hSw
          obtain s0 := hSw
          go_simp
          try with_reducible rfl
        try simp only [Act.put, List.setIfInBounds_toArray, List.set_cons_zero, List.set_cons_succ]
        refine tkH 10 (v := ?_) rfl (fun _ _ _ h => h) (Or.inl ⟨by rfl, ?_⟩) hH ?_
        rotate_left
        · intro w9 hSw
          try dsimp only at hSw
          obtain s0 := hSw
          go_simp
          try with_reducible rfl
        try simp only [Act.put, List.setIfInBounds_toArray, List.set_cons_zero, List.set_cons_succ]
        refine wpAnyH_done (by kernel_rfl) ?_ _
        go_wp2
        go_ret
        exact ⟨rfl, hD1.trans (hb9.mono hD1.size)⟩
/-- A text's bytes as numbers. -/
def strI (s : ByteArray) : List Int := s.data.toList.map fun b => (b.toNat : Int)
theorem strI_len (s : ByteArray) : (strI s).length = s.size := by
  unfold strI
  rw [List.length_map, Array.length_toList]
  rfl
theorem strI_cells (s : ByteArray) : (strI s).flatMap byteCell = Lib.strCells s := by
  unfold strI Lib.strCells
  induction s.data.toList with
  | nil => rfl
  | cons b l ih => simp [List.flatMap_cons, byteCell, ih]
theorem step_append_str {P : Program} {ops : Array Oper} {o : Oper} {a : Act} {K : Act → World → Prop} {Q : Exit → Act → World → Prop} {w : World} {E : Prop} (hgd : o.guard = none) (sl x : Operand) (t u : TypeId)
    (ho : o.op = .call { callee := .builtin .append, args := #[sl, x], argTypes := #[t, u] })
    (base : Nat) (e : TypeId) (ht : P.underlying t = some (.slice e)) (hu : P.underlying u = some .string)
    (hinfo : (P.info? e).map (fun i => (i.zero, i.size, i.bytes)) = some (some (.int .u8 0), 1, 1))
    (v : Value) (l : List Int) (hsv : a.eval sl = v) (hown : Own byteCell 1 e w base v l) (s : ByteArray) (hx : a.eval x = .string s)
    (h63 : l.length + s.size ≤ 140737488355328) (hbase : base ≤ w.heap.size)
    (h : ∀ v' w', Own byteCell 1 e w' base v' (l ++ strI s) → w.grownBy w' v.ownBlock → K (a.put o.dst v') w') :
    if Region.wanted o (yielded ops a.tmps) = true then Oper.wp P o a w K Q else E := by
  have hw : Region.wanted o (yielded ops a.tmps) = true := by simp [Region.wanted, hgd]
  rw [if_pos hw]
  obtain ⟨i, hi, hz0, hz1, hz2⟩ := info_parts hinfo
  obtain ⟨v', w', hrun, k1, k2, -⟩ := Lib.run_append_own_string (P := P) w base t u o.type e i ht hu hi hz0 hz1 hz2 v l.length _ hown s (by unfold maxLen; omega) h63 hbase
  unfold Oper.wp execOp
  simp only [ho, resolve, invoke, builtin, Sem.run_bind, Sem.run_pure, Result.andThen_ok, List.map_toArray, List.map_cons, List.map_nil, hsv, hx, hrun]
  refine h v' w' ?_ k2
  unfold Own
  rw [List.length_append, List.flatMap_append, strI_len, strI_cells]
  exact k1
end Go.Proofs.YtcoomogabicfnaaGreatDoor
