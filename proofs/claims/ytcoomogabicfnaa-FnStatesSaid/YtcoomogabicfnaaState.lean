/-
  The walks of StateMatrix, the program's and the reference's.
-/
import Derived.Test.YtcoomogabicfnaaStarF
namespace Go.Proofs.Ytcoomogabicfnaa
open Go.RowKit
set_option linter.unusedVariables false
set_option linter.unusedSimpArgs false
/-- The greatest number of tokens of a place, 1 at least. -/
def vmaxF (gp : List Place) : Int := gp.foldl (fun v p => max v p.tokens) 1
theorem vmaxF_succ (gp : List Place) (k : Nat) (h : k < gp.length) : vmaxF (gp.take (k + 1)) = max (vmaxF (gp.take k)) gp[k].tokens := by
  unfold vmaxF
  rw [take_succ_get _ _ h, List.foldl_append]
  rfl
theorem vmaxF_bd {ge : Int} {gp : List Place} (hg : okGraph ge gp = true) : ∀ k, k ≤ gp.length → 1 ≤ vmaxF (gp.take k) ∧ vmaxF (gp.take k) ≤ 5 := by
  intro k
  induction k with
  | zero => intro _; simp [vmaxF]
  | succ k ih =>
    intro hk
    have h1 := ih (by omega)
    have h2 := okGraph_place hg (List.getElem_mem (show k < gp.length by omega))
    rw [vmaxF_succ _ _ (by omega)]
    omega
def closK (n : Nat) (gp : List Place) (m : Int) : Nat → Nat → Int := mulF n (itF n (delF 0 gp) n) (delF m gp)
/-- The state matrix. -/
def stK (n : Nat) (gp : List Place) : Nat → Nat → Int := fun r c => if r < n then closK n gp (((c / n : Nat) : Int) + 1) r (c % n) else if r - n = c then 0 else bot
def stF (ge : Int) (gp : List Place) : List (List Int) × Int :=
  if liveC ge gp = 0 then (if 10 < vmaxF gp * ge then ([], 3) else (matF (vmaxF gp * ge).toNat (stK ge.toNat gp) (vmaxF gp * ge).toNat, 0)) else ([], liveC ge gp)
theorem stF_offs (ge : Int) (gp : List Place) : offs (stF ge gp).1 (stF ge gp).1.length ≤ 1048576 := by
  unfold stF
  split
  · split
    · simp [offs]
    · exact matF_offs _ _ _ (by omega) (by omega)
  · simp [offs]
theorem stF_dead {ge : Int} {gp : List Place} (h : liveC ge gp ≠ 0) : stF ge gp = ([], liveC ge gp) := if_neg h
theorem stF_great {ge : Int} {gp : List Place} (h : liveC ge gp = 0) (h2 : 10 < vmaxF gp * ge) : stF ge gp = ([], 3) := by unfold stF; rw [if_pos h, if_pos h2]
theorem stF_ok {ge : Int} {gp : List Place} {N : Nat} (h : liveC ge gp = 0) (h2 : ¬ 10 < vmaxF gp * ge) (hN : vmaxF gp * ge = (N : Int)) : stF ge gp = (matF N (stK ge.toNat gp) N, 0) := by
  unfold stF
  rw [if_pos h, if_neg h2, hN]
  rfl
/-- What the reference has written behind q blocks, i rows (and their ones below), k entries of the next row. -/
def stG (n : Nat) (gp : List Place) (q i k : Nat) : Nat → Nat → Int := fun r c => if c < q * n ∨ (c < q * n + n ∧ ((r < n ∧ (r < i ∨ (r = i ∧ c < q * n + k))) ∨ (r = c + n ∧ c < q * n + i))) then stK n gp r c else bot
theorem stG_zero (n : Nat) (gp : List Place) (N M : Nat) : matF N (stG n gp 0 0 0) M = matF N (fun _ _ => bot) M := by
  refine matF_congr fun r c _ _ => ?_
  unfold stG
  rw [if_neg (by omega)]
theorem stG_step (n : Nat) (gp : List Place) (q i k N M : Nat) (hi : i < n) (hk : k < n) : matF N (updF (stG n gp q i k) i (q * n + k) (closK n gp ((q : Int) + 1) i k)) M = matF N (stG n gp q i (k + 1)) M := by
  refine matF_congr fun r c _ _ => ?_
  have hv : stK n gp i (q * n + k) = closK n gp ((q : Int) + 1) i k := by
    unfold stK
    rw [if_pos hi]
    have e1 : (q * n + k) / n = q := by rw [Nat.mul_comm, Nat.mul_add_div (by omega), Nat.div_eq_of_lt hk, Nat.add_zero]
    have e2 : (q * n + k) % n = k := by rw [Nat.mul_comm, Nat.mul_add_mod, Nat.mod_eq_of_lt hk]
    rw [e1, e2]
  unfold updF
  split
  · rename_i h
    obtain ⟨rfl, rfl⟩ := h
    unfold stG
    rw [if_pos (by omega), hv]
  · rename_i h
    unfold stG
    generalize q * n = a at *
    by_cases h2 : c < a ∨ (c < a + n ∧ ((r < n ∧ (r < i ∨ (r = i ∧ c < a + k))) ∨ (r = c + n ∧ c < a + i)))
    · rw [if_pos h2, if_pos (by omega)]
    · rw [if_neg h2, if_neg (by omega)]
theorem stG_one (n : Nat) (gp : List Place) (q i N M : Nat) (hi : i < n) : matF N (updF (stG n gp q i n) (q * n + n + i) (q * n + i) 0) M = matF N (stG n gp q (i + 1) 0) M := by
  refine matF_congr fun r c _ _ => ?_
  have hv : stK n gp (q * n + n + i) (q * n + i) = 0 := by
    unfold stK
    rw [if_neg (by omega), if_pos (by omega)]
  unfold updF
  split
  · rename_i h
    obtain ⟨rfl, rfl⟩ := h
    unfold stG
    rw [if_pos (by omega), hv]
  · rename_i h
    unfold stG
    generalize q * n = a at *
    by_cases h2 : c < a ∨ (c < a + n ∧ ((r < n ∧ (r < i ∨ (r = i ∧ c < a + n))) ∨ (r = c + n ∧ c < a + i)))
    · rw [if_pos h2, if_pos (by omega)]
    · rw [if_neg h2, if_neg (by omega)]
theorem stG_last (n : Nat) (gp : List Place) (q i N : Nat) (hN : N = q * n + n) : matF N (stG n gp q i n) N = matF N (stG n gp q (i + 1) 0) N := by
  refine matF_congr fun r c hr hc => ?_
  unfold stG
  generalize q * n = a at *
  by_cases h2 : c < a ∨ (c < a + n ∧ ((r < n ∧ (r < i ∨ (r = i ∧ c < a + n))) ∨ (r = c + n ∧ c < a + i)))
  · rw [if_pos h2, if_pos (by omega)]
  · rw [if_neg h2, if_neg (by omega)]
theorem stG_block (n : Nat) (gp : List Place) (q N M : Nat) : matF N (stG n gp q n 0) M = matF N (stG n gp (q + 1) 0 0) M := by
  refine matF_congr fun r c _ _ => ?_
  unfold stG
  rw [Nat.succ_mul]
  generalize q * n = a at *
  by_cases h2 : c < a ∨ (c < a + n ∧ ((r < n ∧ (r < n ∨ (r = n ∧ c < a + 0))) ∨ (r = c + n ∧ c < a + n)))
  · rw [if_pos h2, if_pos (by omega)]
  · rw [if_neg h2]
    split
    · rename_i h3
      unfold stK
      rw [if_neg (by omega), if_neg (by omega)]
    · rfl
theorem stG_done (n : Nat) (gp : List Place) (q N : Nat) (hN : N = q * n) : matF N (stG n gp q 0 0) N = matF N (stK n gp) N := by
  refine matF_congr fun r c hr hc => ?_
  unfold stG
  rw [if_pos (by omega)]
theorem OwnM.keptT {w w' : World} {base b1 : Nat} {u v : Value} {M : List (List Int)} {rs : List Ref} (h : OwnM w base u M) (hv : Own Ref.cells 1 28 w b1 v rs) (hG : w.grownBy w' v.ownBlock) : OwnM w' base u M := by
  obtain ⟨r, hl, hO, hR, hD⟩ := h
  have key : ∀ k, v.ownBlock = some k → ∃ cur, Blk w k 28 cur := by
    intro k hk
    rcases hv.2 with ⟨rfl, _⟩ | ⟨g, cap, cur, rfl, _, hg, _⟩
    · cases hk
    · injection hk with hk
      subst hk
      exact ⟨cur, hg⟩
  refine ⟨r, hl, own_kept hO hG (fun k h1 h2 => ?_), fun i a b => own_kept (hR i a b) hG (fun k h1 h2 => ?_), hD⟩
  · obtain ⟨cur, hb⟩ := key k h2
    exact hO.ne_blk hb (by decide) h1
  · obtain ⟨cur, hb⟩ := key k h2
    exact (hR i a b).ne_blk hb (by decide) h1
theorem OwnM.farB {w : World} {base g i : Nat} {u x : Value} {M : List (List Int)} {t : TypeId} {cs : Array Value} (h : OwnM w base u M) (hb : Blk w g t cs) (h1 : 2 ≠ t) (h2 : 50 ≠ t) : OwnM (w.setCell ⟨g, i, none⟩ x) base u M := by
  obtain ⟨r, hl, hO, hR, hD⟩ := h
  exact ⟨r, hl, own_far hO (p := ⟨g, i, none⟩) (hO.ne_blk hb h2) _, fun i a b => own_far (hR i a b) (p := ⟨g, _, none⟩) ((hR i a b).ne_blk hb h1) _, hD⟩
theorem refs_at {w : World} {B : Nat} {u : Value} {rs : List Ref} (h : Lst Ref.cells 1 w B u rs) (q : Nat) (hq : q < rs.length) : ∃ b off c, u = .slice (some ⟨b, off, none⟩) rs.length c ∧ b < B ∧ w.cell? ⟨b, off + q, none⟩ = some rs[q].val := by
  obtain ⟨b, off, c, hu, hb, hc⟩ := h.at_ Ref.cells_len q hq
  exact ⟨b, off, c, hu, hb, by simpa using hc 0 _ (by omega) rfl⟩
set_option maxHeartbeats 4000000 in
set_option maxRecDepth 100000 in
theorem impl_StateMatrix1 (i j n V be bc : Nat) (gp : List Place) (u : Value) (rs : List Ref) (w : World) (hn : 1 ≤ n) (hn2 : n ≤ 10) (hV : V ≤ 5) (hi : i < V * n) (hj : j < V * n) (he : Blk w be 3 #[.int .i64 (n : Int)]) (hc : Blk w bc 47 #[u])
    (hl : rs.length = V) (hO : Lst Ref.cells 1 w w.heap.size u rs) (hM : Hid (∀ q (h : q < rs.length), LstM w w.heap.size rs[q].val (matF n (closK n gp ((q : Int) + 1)) n))) :
    Calls Try.prog 25 #[.int .i64 i, .int .i64 j, .pointer (some ⟨be, 0, none⟩), .pointer (some ⟨bc, 0, none⟩)] w fun e w' => e = .returned (.int .i64 (stK n gp i j)) ∧ Below w.heap.size w w' := by
  have e0 : w.cell? ⟨be, 0, none⟩ = some (.int .i64 (n : Int)) := by simpa using he.cell 0
  by_cases hlt : i < n
  · have hq0 : j / n < V := (Nat.div_lt_iff_lt_mul (by omega)).2 hj
    have hk0 : j % n < n := Nat.mod_lt _ (by omega)
    have hv : Hid (stK n gp i j = closK n gp (((j / n : Nat) : Int) + 1) i (j % n)) := if_pos hlt
    have dq := tdiv_nat j n
    have dr := tmod_nat j n
    obtain ⟨q, hq⟩ : ∃ q, j / n = q := ⟨_, rfl⟩
    obtain ⟨k, hk⟩ : ∃ k, j % n = k := ⟨_, rfl⟩
    rw [hq] at hq0 hv dq
    rw [hk] at hk0 hv dr
    have c0 : w.cell? ⟨bc, 0, none⟩ = some u := by simpa using hc.cell 0
    obtain ⟨b0, o0, c, rfl, hb0, c1⟩ := refs_at hO q (by omega)
    obtain ⟨b1, o1, cc, b2, o2, c2, hu, hb1, x1, hb2, x2⟩ := mat_at (hM.out q (by omega)) i k hlt hk0
    rw [hu] at c1
    rw [hl] at c0
    obtain ⟨xv, hxv⟩ : ∃ xv, closK n gp ((q : Int) + 1) i k = xv := ⟨_, rfl⟩
    rw [hxv] at x2 hv
    have i1 : (0 : Int) ≤ (q : Int) := by omega
    have i2 : (q : Int) < (V : Int) := by omega
    have i3 : (0 : Int) ≤ (i : Int) := by omega
    have i4 : (i : Int) < (n : Int) := by omega
    have i5 : (0 : Int) ≤ (k : Int) := by omega
    have i6 : (k : Int) < (n : Int) := by omega
    have i7 : ((n : Int) == 0) = false := by rw [beq_eq_false_iff_ne]; omega
    have i8 : ¬ n = 0 := by omega
    have wq : IntKind.i64.wrap (q : Int) = (q : Int) := IntWalk.i64_in _ (by omega)
    have wk : IntKind.i64.wrap (k : Int) = (k : Int) := IntWalk.i64_in _ (by omega)
    have hBd : Below w.heap.size w w.drew := Below.drew (Below.refl _ w)
    have z0 := cell_keep c0 hBd
    have z1 := cell_keep e0 hBd
    have z2 := cell_keep c1 hBd
    have z3 := cell_keep x1 hBd
    have z4 := cell_keep x2 hBd
    clear hO hM hxv hu hq hk hlt hc he
    go_enter Try.func25, Try.ntmps25
    go_wp2_with fail
    refine wp_region_held_drew (S := fun w' => w'.cell? ⟨bc, 0, none⟩ = some (.slice (some ⟨b0, o0, none⟩) V c) ∧ w'.cell? ⟨be, 0, none⟩ = some (.int .i64 (n : Nat)) ∧ w'.cell? ⟨b0, o0 + q, none⟩ = some (.slice (some ⟨b1, o1, none⟩) n cc) ∧ w'.cell? ⟨b1, o1 + i, none⟩ = some (.slice (some ⟨b2, o2, none⟩) n c2) ∧ w'.cell? ⟨b2, o2 + k, none⟩ = some (.int .i64 xv)) (by kernel_rfl) ⟨z0, z1, z2, z3, z4⟩ (fun hH => ?_)
    refine tkH 0 (v := ?_) rfl (fun _ _ _ h => h) (Or.inl ⟨by rfl, ?_⟩) hH ?_
    rotate_left
    · intro w9 hSw
      try dsimp only at hSw
      obtain ⟨s0, s1, s2, s3, s4⟩ := hSw
      go_simp
      try with_reducible rfl
    try simp only [Act.put, List.setIfInBounds_toArray, List.set_cons_zero, List.set_cons_succ]
    refine tkH 1 (v := ?_) rfl (fun _ _ _ h => h) (Or.inl ⟨by rfl, ?_⟩) hH ?_
    rotate_left
    · intro w9 hSw
      try dsimp only at hSw
      obtain ⟨s0, s1, s2, s3, s4⟩ := hSw
      go_simp
      try with_reducible rfl
    try simp only [Act.put, List.setIfInBounds_toArray, List.set_cons_zero, List.set_cons_succ]
    refine tkH 2 (v := ?_) rfl (fun _ _ _ h => h) (Or.inl ⟨by rfl, ?_⟩) hH ?_
    rotate_left
    · intro w9 hSw
      try dsimp only at hSw
      obtain ⟨s0, s1, s2, s3, s4⟩ := hSw
      go_simp
      try with_reducible rfl
    try simp only [Act.put, List.setIfInBounds_toArray, List.set_cons_zero, List.set_cons_succ]
    refine tkH 3 (v := ?_) rfl (fun _ _ _ h => h) (Or.inl ⟨by rfl, ?_⟩) hH ?_
    rotate_left
    · intro w9 hSw
      try dsimp only at hSw
      obtain ⟨s0, s1, s2, s3, s4⟩ := hSw
      go_simp
      try with_reducible rfl
    try simp only [Act.put, List.setIfInBounds_toArray, List.set_cons_zero, List.set_cons_succ]
    refine tkH 4 (v := ?_) rfl (fun _ _ _ h => h) (Or.inl ⟨by rfl, ?_⟩) hH ?_
    rotate_left
    · intro w9 hSw
      try dsimp only at hSw
      obtain ⟨s0, s1, s2, s3, s4⟩ := hSw
      go_simp
      try with_reducible rfl
    try simp only [Act.put, List.setIfInBounds_toArray, List.set_cons_zero, List.set_cons_succ]
    refine tkH 5 (v := ?_) rfl (fun _ _ _ h => h) (Or.inl ⟨by rfl, ?_⟩) hH ?_
    rotate_left
    · intro w9 hSw
      try dsimp only at hSw
      obtain ⟨s0, s1, s2, s3, s4⟩ := hSw
      go_simp
      try with_reducible rfl
    try simp only [Act.put, List.setIfInBounds_toArray, List.set_cons_zero, List.set_cons_succ]
    refine tkH 6 (v := ?_) rfl (fun _ _ _ h => h) (Or.inl ⟨by rfl, ?_⟩) hH ?_
    rotate_left
    · intro w9 hSw
      try dsimp only at hSw
      obtain ⟨s0, s1, s2, s3, s4⟩ := hSw
      go_simp
      try with_reducible rfl
    try simp only [Act.put, List.setIfInBounds_toArray, List.set_cons_zero, List.set_cons_succ]
    refine tkH 7 (v := ?_) rfl (fun _ _ _ h => h) (Or.inl ⟨by rfl, ?_⟩) hH ?_
    rotate_left
    · intro w9 hSw
      try dsimp only at hSw
      obtain ⟨s0, s1, s2, s3, s4⟩ := hSw
      go_simp
      try with_reducible rfl
    try simp only [Act.put, List.setIfInBounds_toArray, List.set_cons_zero, List.set_cons_succ]
    refine tkH 8 (v := ?_) rfl (fun _ _ _ h => h) (Or.inl ⟨by rfl, ?_⟩) hH ?_
    rotate_left
    · intro w9 hSw
      try dsimp only at hSw
      obtain ⟨s0, s1, s2, s3, s4⟩ := hSw
      go_simp
      try with_reducible rfl
    try simp only [Act.put, List.setIfInBounds_toArray, List.set_cons_zero, List.set_cons_succ]
    refine tkH 9 (v := ?_) rfl (fun _ _ _ h => h) (Or.inl ⟨by rfl, ?_⟩) hH ?_
    rotate_left
    · intro w9 hSw
      try dsimp only at hSw
      obtain ⟨s0, s1, s2, s3, s4⟩ := hSw
      go_simp
      try with_reducible rfl
    try simp only [Act.put, List.setIfInBounds_toArray, List.set_cons_zero, List.set_cons_succ]
    refine tkH 10 (v := ?_) rfl (fun _ _ _ h => h) (Or.inl ⟨by rfl, ?_⟩) hH ?_
    rotate_left
    · intro w9 hSw
      try dsimp only at hSw
      obtain ⟨s0, s1, s2, s3, s4⟩ := hSw
      go_simp
      try with_reducible rfl
    try simp only [Act.put, List.setIfInBounds_toArray, List.set_cons_zero, List.set_cons_succ]
    refine tkH 11 (v := ?_) rfl (fun _ _ _ h => h) (Or.inl ⟨by rfl, ?_⟩) hH ?_
    rotate_left
    · intro w9 hSw
      try dsimp only at hSw
      obtain ⟨s0, s1, s2, s3, s4⟩ := hSw
      go_simp
      try with_reducible rfl
    try simp only [Act.put, List.setIfInBounds_toArray, List.set_cons_zero, List.set_cons_succ]
    refine tkH 12 (v := ?_) rfl (fun _ _ _ h => h) (Or.inl ⟨by rfl, ?_⟩) hH ?_
    rotate_left
    · intro w9 hSw
      try dsimp only at hSw
      obtain ⟨s0, s1, s2, s3, s4⟩ := hSw
      go_simp
      try with_reducible rfl
    try simp only [Act.put, List.setIfInBounds_toArray, List.set_cons_zero, List.set_cons_succ]
    refine tkH 13 (v := ?_) rfl (fun _ _ _ h => h) (Or.inl ⟨by rfl, ?_⟩) hH ?_
    rotate_left
    · intro w9 hSw
      try dsimp only at hSw
      obtain ⟨s0, s1, s2, s3, s4⟩ := hSw
      go_simp
      try with_reducible rfl
    try simp only [Act.put, List.setIfInBounds_toArray, List.set_cons_zero, List.set_cons_succ]
    refine tkH 14 (v := ?_) rfl (fun _ _ _ h => h) (Or.inl ⟨by rfl, ?_⟩) hH ?_
    rotate_left
    · intro w9 hSw
      try dsimp only at hSw
      obtain ⟨s0, s1, s2, s3, s4⟩ := hSw
      go_simp
      try with_reducible rfl
    try simp only [Act.put, List.setIfInBounds_toArray, List.set_cons_zero, List.set_cons_succ]
    refine wpAnyH_done (by kernel_rfl) ?_ _
    go_wp2
    go_ret
    exact ⟨ret_int hv.out.symm, hBd⟩
  · have wS : IntKind.i64.wrap ((i : Int) - (n : Int)) = (i : Int) - (n : Int) := by
      have : V * n ≤ 5 * 10 := Nat.mul_le_mul hV hn2
      exact IntWalk.i64_in _ (by omega)
    have hnl : ¬ (i : Int) < (n : Int) := by omega
    by_cases hd : i - n = j
    · have hv : Hid (stK n gp i j = 0) := by show _ = _; unfold stK; rw [if_neg hlt, if_pos hd]
      have q1 : ((i : Int) - (n : Int) == (j : Int)) = true := by rw [beq_iff_eq]; omega
      clear hd hlt
      go_enter Try.func25, Try.ntmps25
      go_wp2
      go_ret
      exact ⟨ret_int hv.out.symm, Below.refl _ _⟩
    · have hv : Hid (stK n gp i j = bot) := by show _ = _; unfold stK; rw [if_neg hlt, if_neg hd]
      have q1 : ((i : Int) - (n : Int) == (j : Int)) = false := by rw [beq_eq_false_iff_ne]; omega
      clear hd hlt
      go_enter Try.func25, Try.ntmps25
      go_wp2
      go_ret
      exact ⟨ret_int hv.out.symm, Below.refl _ _⟩
theorem info_refM : (Try.prog.info? 28).map (fun i => (i.zero, i.size, i.bytes)) = some (some (.slice none 0 0), 1, 24) := by kernel_rfl
theorem liveC_bad {ge : Int} {gp : List Place} (h : okGraph ge gp = false) : liveC ge gp = 1 := by simp [liveC, h]
theorem liveC_dead {ge : Int} {gp : List Place} (h : okGraph ge gp = true) (h2 : (orderF ge.toNat gp).isNone = true) : liveC ge gp = 5 := by simp [liveC, h, h2]
theorem liveC_live {ge : Int} {gp : List Place} (h : okGraph ge gp = true) (h2 : (orderF ge.toNat gp).isNone = false) : liveC ge gp = 0 := by simp [liveC, h, h2]
/-- The program's list of closed matrices, in its box. -/
structure Cl (w0 w : World) (be bc n : Nat) (gp : List Place) (q : Nat) (cv : Value) (rs : List Ref) : Prop where
  ev : Blk w be 3 #[.int .i64 (n : Int)]
  cl : Blk w bc 47 #[cv]
  len : rs.length = q
  own : Own Ref.cells 1 28 w (bc + 1) cv rs
  mats : ∀ p (h : p < rs.length), OwnM w (bc + 1) rs[p].val (matF n (closK n gp ((p : Int) + 1)) n)
  bel : Below w0.heap.size w0 w
  hbe : w0.heap.size = be
  hbc : be + 1 = bc
theorem Cl.now {w0 w w' : World} {be bc n q : Nat} {gp : List Place} {cv : Value} {rs : List Ref} (h : Cl w0 w be bc n gp q cv rs) (hb : Below w.heap.size w w') : Cl w0 w' be bc n gp q cv rs :=
  ⟨h.ev.now hb, h.cl.now hb, h.len, h.own.now hb, fun p hp => (h.mats p hp).now hb, h.bel.trans (hb.mono h.bel.size), h.hbe, h.hbc⟩
theorem Cl.put {w0 w w' : World} {be bc n q : Nat} {gp : List Place} {cv v' : Value} {rs : List Ref} {r : Ref} (h : Cl w0 w be bc n gp q cv rs) (hM : OwnM w (bc + 1) r.val (matF n (closK n gp ((q : Int) + 1)) n)) (hG : w.grownBy w' cv.ownBlock)
    (hO : Own Ref.cells 1 28 w' (bc + 1) v' (rs ++ [r])) : Cl w0 (w'.setCell ⟨bc, 0, none⟩ v') be bc n gp (q + 1) v' (rs ++ [r]) := by
  have h1 := h.hbe
  have h2 := h.hbc
  have n1 := h.own.ne_blk h.ev (by decide)
  have n2 := h.own.ne_blk h.cl (by decide)
  have hcl := h.cl.grown hG (fun e => n2 e.symm)
  have hev := h.ev.grown hG (fun e => n1 e.symm)
  refine ⟨hev.far (p := ⟨bc, 0, none⟩) (by simp only; omega) _, by simpa using hcl.set_ 0 v', by simp [h.len], own_far hO (p := ⟨bc, 0, none⟩) (hO.ne_blk hcl (by decide)) _, fun p hp => ?_, ?_, h1, h2⟩
  · refine OwnM.farB ?_ hcl (by decide) (by decide)
    by_cases hlt : p < rs.length
    · rw [List.getElem_append_left hlt]
      exact (h.mats p hlt).keptT h.own hG
    · obtain rfl : p = rs.length := by simp at hp; omega
      have e : (rs ++ [r])[rs.length] = r := by simp
      rw [e, h.len]
      exact hM.keptT h.own hG
  · exact (h.bel.grown hG h.bel.size (fun k e => by have := (h.own.lt k e).1; omega)).setCell (p := ⟨bc, 0, none⟩) (by simp only; omega) _
set_option maxHeartbeats 8000000 in
set_option maxRecDepth 100000 in
theorem impl_StateMatrix (v : Value) (ge : Int) (gp : List Place) (w : World) (h0 : Lst Place.cells 4 w w.heap.size v gp) :
    Calls Try.prog 6 #[.agg #[.int .i64 ge, v]] w (RetMI w (stF ge gp).1 (stF ge gp).2) := by
  obtain ⟨A, c, rfl⟩ := h0.shape
  go_enter Try.func6, Try.ntmps6
  go_wp2_with fail
  have hW : Below w.heap.size w (w.alloc (.cells #[.int .i64 ge, .slice A gp.length c] 26)) := (Below.refl _ _).alloc (Nat.le_refl _) _; have hb0 : Blk (w.alloc (.cells #[.int .i64 ge, .slice A gp.length c] 26)) w.heap.size 26 #[.int .i64 ge, .slice A gp.length c] := Blk.new _ _ _; replace h0 := h0.now hW; generalize (w.alloc (.cells #[.int .i64 ge, .slice A gp.length c] 26)) = W at *
  refine (impl_IsEventGraph _ ge gp _ h0).mono ?_
  rintro e w1 ⟨rfl, hB⟩
  replace hW := hW.trans (hB.mono hW.size); replace h0 := h0.now hB; replace hb0 := hb0.now hB
  clear hB
  obtain ⟨k0, k1⟩ := hb0.c2
  cases hg : okGraph ge gp
  · have hE : Hid (stF ge gp = ([], 1)) := by
      have h := liveC_bad hg
      show _ = _
      rw [stF_dead (by omega), h]
    clear hg
    go_wp2
    go_ret2
    exact RetMI.of hE.out ⟨_, rfl, OwnM.nil, hW⟩
  · have hge := okGraph_ev hg
    obtain ⟨n, rfl⟩ := Int.eq_ofNat_of_zero_le (show 0 ≤ ge by omega)
    have hgH := Lib.hid hg
    have hvb := Lib.hid (vmaxF_bd hg)
    have hgl := okGraph_len hg
    clear hg
    go_wp2_with fail
    refine (impl_isLive _ n gp _ h0 hgH).mono ?_
    rintro e w2 ⟨rfl, hB⟩
    clear k0 k1
    replace hW := hW.trans (hB.mono hW.size); replace h0 := h0.now hB; replace hb0 := hb0.now hB
    clear hB
    obtain ⟨k0, k1⟩ := hb0.c2
    cases ho : (orderF n gp).isSome
    · have hE : Hid (stF n gp = ([], 5)) := by
        have h := liveC_dead hgH.out (by rw [Int.toNat_natCast]; cases h9 : orderF n gp with | none => rfl | some o => rw [h9] at ho; cases ho)
        show _ = _
        rw [stF_dead (by omega), h]
      clear ho
      go_wp2
      go_ret2
      exact RetMI.of hE.out ⟨_, rfl, OwnM.nil, hW⟩
    · have hlv : Hid (∃ o, orderF n gp = some o) := by
        cases h9 : orderF n gp with
        | none => rw [h9] at ho; cases ho
        | some o => exact ⟨o, rfl⟩
      have hlc : Hid (liveC n gp = 0) := liveC_live hgH.out (by rw [Int.toNat_natCast]; obtain ⟨o, h9⟩ := hlv.out; rw [h9]; rfl)
      clear ho
      go_wp2
      go_loopw [4, 6, 20] (fun vv _ i wr => ∃ k : Nat, k ≤ gp.length ∧ i = .int .i64 k ∧ vv = .int .i64 (vmaxF (gp.take k)) ∧ Below w2.heap.size w2 wr) (fun _ _ i _ => gp.length - (intOf i).toNat)
      case atStart => exact ⟨0, Nat.zero_le _, rfl, rfl, Below.refl _ _⟩
      case round =>
        clear k0 k1
        obtain ⟨k, hk, rfl, rfl, hB⟩ := hrel
        obtain ⟨k0, k1⟩ := (hb0.now hB).c2
        have l0 := (hb0.now hB).lt
        by_cases hlt : k < gp.length
        · obtain ⟨b, off, hA1, _, d0, d1, d2, d3⟩ := places_at (h0.now hB) k hlt
          cases hA1
          have hS := vmaxF_succ gp k hlt
          rw [max_if] at hS
          obtain ⟨vm, hvm⟩ : ∃ vm, vmaxF (gp.take k) = vm := ⟨_, rfl⟩
          obtain ⟨tk, htk⟩ : ∃ tk, gp[k].tokens = tk := ⟨_, rfl⟩
          rw [hvm, htk] at hS
          rw [hvm]
          rw [htk] at d3
          have hA2 : Below wr.heap.size wr (wr.alloc (.cells #[.int .i64 gp[k].src, .int .i64 gp[k].dst, .int .i64 gp[k].delay, .int .i64 tk] 46)) := (Below.refl _ _).alloc (Nat.le_refl _) _
          have hB2 := hB.trans (hA2.mono hB.size)
          clear hvm htk hB hA2
          by_cases hle : vm < tk
          · rw [if_pos hle] at hS
            have hSH := Lib.hid hS
            clear hS
            go_wp2
            go_roundw
            case rel => exact ⟨k + 1, hlt, by go_num, by rw [hSH.out], hB2⟩
            case measure => simp [intOf]; omega
          · rw [if_neg hle] at hS
            have hSH := Lib.hid hS
            clear hS
            go_wp2
            go_roundw
            case rel => exact ⟨k + 1, hlt, by go_num, by rw [hSH.out], hB2⟩
            case measure => simp [intOf]; omega
        · obtain rfl : k = gp.length := by omega
          obtain ⟨wa, rfl⟩ : ∃ wa : World, wa = wr := ⟨_, rfl⟩
          have hvb2 := hvb.out gp.length (Nat.le_refl _)
          rw [List.take_length] at hvb2 ⊢
          obtain ⟨V, hV⟩ := Int.eq_ofNat_of_zero_le (show 0 ≤ vmaxF gp by omega)
          have hVH := Lib.hid hV
          rw [hV] at hvb2 ⊢
          clear hV
          have hVn : V * n ≤ 5 * 10 := Nat.mul_le_mul (by omega) (by omega)
          obtain ⟨N, hN⟩ : ∃ N, V * n = N := ⟨_, rfl⟩
          have hNI : (V : Int) * (n : Int) = (N : Int) := by rw [← hN]; simp
          have wN : IntKind.i64.wrap ((V : Int) * (n : Int)) = (N : Int) := by rw [hNI]; exact IntWalk.i64_in _ (by omega)
          have hNV : Hid (vmaxF gp * (n : Int) = (N : Int)) := by rw [hVH.out]; exact hNI
          replace h0 := h0.now hB
          replace hb0 := hb0.now hB
          replace hW := hW.trans (hB.mono hW.size)
          by_cases hgt : (10 : Int) < (N : Int)
          · have hE : Hid (stF n gp = ([], 3)) := stF_great hlc.out (by rw [hNV.out]; exact hgt)
            clear hNI
            go_wp2
            go_ret2
            exact RetMI.of hE.out ⟨_, rfl, OwnM.nil, hW⟩
          · have hE : Hid (stF n gp = (matF N (stK n gp) N, 0)) := by
              have h9 := stF_ok hlc.out (by rw [hNV.out]; exact hgt) hNV.out
              rwa [Int.toNat_natCast] at h9
            have hN10 : N ≤ 10 := by omega
            have hNN := Lib.hid hN
            obtain ⟨be, hbe⟩ : ∃ be, wa.heap.size = be := ⟨_, rfl⟩
            have hA2 : Below wa.heap.size wa ((wa.alloc (.cells #[.int .i64 (n : Int)] 3)).alloc (.cells #[.slice none 0 0] 47)) := ((Below.refl _ _).alloc (Nat.le_refl _) _).alloc (by simp) _
            have hC : Hid (Cl wa ((wa.alloc (.cells #[.int .i64 (n : Int)] 3)).alloc (.cells #[.slice none 0 0] 47)) be (be + 1) n gp 0 (.slice none 0 0) []) :=
              ⟨(Blk.newAt wa be hbe).alloc _, Blk.newAt _ (be + 1) (by simp [hbe]), rfl, Own.nil, fun p hp => absurd hp (by simp), hA2, hbe, rfl⟩
            clear hN hNI hgt hA2 hB
            go_wp2
            try simp only [hbe]
            go_loopw [9, 37] (fun _ m wr => ∃ (q : Nat) (CA : Option Addr) (cc : Nat) (rs : List Ref), q ≤ V ∧ m = .int .i64 q ∧ Hid (Cl wa wr be (be + 1) n gp q (.slice CA q cc) rs)) (fun _ m _ => V - (intOf m).toNat)
            case atStart => exact ⟨0, none, 0, [], Nat.zero_le _, rfl, hC⟩
            case round =>
              clear hC k0 k1 l0
              obtain ⟨q, CA, cc, rs, hq, rfl, hC⟩ := hrel
              have hbel := hC.out.bel
              obtain ⟨k0, k1⟩ := (hb0.now hbel).c2
              have l0 := (hb0.now hbel).lt
              have e0 : wr.cell? ⟨be, 0, none⟩ = some (.int .i64 (n : Int)) := by simpa using hC.out.ev.cell 0
              have c0 : wr.cell? ⟨be + 1, 0, none⟩ = some (.slice CA q cc) := by simpa using hC.out.cl.cell 0
              have l1 := hC.out.cl.lt
              have hrl := hC.out.len
              by_cases hlt : q < V
              · have wq : IntKind.i64.wrap ((q : Int) + 1) = (q : Int) + 1 := IntWalk.i64_in _ (by omega)
                have hBd : Below wr.heap.size wr wr.drew := Below.drew (Below.refl _ wr)
                have z0 := cell_keep c0 hBd
                have z1 := cell_keep k0 hBd
                have z2 := cell_keep k1 hBd
                have hC2 := Lib.hid (hC.out.now hBd)
                have hb2 := (hb0.now hbel).now hBd
                have g2 := (h0.now hbel).now hBd
                have hlen : rs.length + [(⟨none, 0, 0⟩ : Ref)].length ≤ 1099511627776 := by simp; omega
                have hLL : ∀ r : Ref, Hid ((rs ++ [r]).length = q + 1) := fun r => by show _ = _; simp; omega
                have l2 : be + 1 < wr.drew.heap.size := l1
                clear k0 k1 l0 e0 c0 l1 hrl hC hbel hBd
                go_wp2_with fail
                refine wp_region_E (fun w' => w'.cell? ⟨be + 1, 0, none⟩ = some (.slice CA q cc) ∧ w'.cell? ⟨w.heap.size, 0, none⟩ = some (.int .i64 (n : Nat)) ∧ w'.cell? ⟨w.heap.size, 1, none⟩ = some (.slice A gp.length c)) 7 (by kernel_rfl) ?_
                have hS0 : (fun w' : World => w'.cell? ⟨be + 1, 0, none⟩ = some (.slice CA q cc) ∧ w'.cell? ⟨w.heap.size, 0, none⟩ = some (.int .i64 (n : Nat)) ∧ w'.cell? ⟨w.heap.size, 1, none⟩ = some (.slice A gp.length c)) wr.drew := ⟨z0, z1, z2⟩
                refine wpAnyE_take (i := 0) (v := ?_) rfl (by kernel_rfl) (by kernel_rfl) (by kernel_rfl) (by kernel_rfl) (by kernel_rfl) (fun _ _ _ h => h) hS0 (by rfl) ?_ ?_
                rotate_left
                · intro w9 hSw
                  try dsimp only at hSw
                  obtain ⟨s0, s1, s2⟩ := hSw
                  go_simp
                  try with_reducible rfl
                try simp only [Act.put, List.setIfInBounds_toArray, List.set_cons_zero, List.set_cons_succ]
                refine wpAnyE_take (i := 1) (v := ?_) rfl (by kernel_rfl) (by kernel_rfl) (by kernel_rfl) (by kernel_rfl) (by kernel_rfl) (fun _ _ _ h => h) hS0 (by rfl) ?_ ?_
                rotate_left
                · intro w9 hSw
                  try dsimp only at hSw
                  obtain ⟨s0, s1, s2⟩ := hSw
                  go_simp
                  try with_reducible rfl
                try simp only [Act.put, List.setIfInBounds_toArray, List.set_cons_zero, List.set_cons_succ]
                refine wpAnyE_take (i := 2) (v := ?_) rfl (by kernel_rfl) (by kernel_rfl) (by kernel_rfl) (by kernel_rfl) (by kernel_rfl) (fun _ _ _ h => h) hS0 (by rfl) ?_ ?_
                rotate_left
                · intro w9 hSw
                  try dsimp only at hSw
                  obtain ⟨s0, s1, s2⟩ := hSw
                  go_simp
                  try with_reducible rfl
                try simp only [Act.put, List.setIfInBounds_toArray, List.set_cons_zero, List.set_cons_succ]
                refine wpAnyE_take (i := 3) (v := ?_) rfl (by kernel_rfl) (by kernel_rfl) (by kernel_rfl) (by kernel_rfl) (by kernel_rfl) (fun _ _ _ h => h) hS0 (by rfl) ?_ ?_
                rotate_left
                · intro w9 hSw
                  try dsimp only at hSw
                  obtain ⟨s0, s1, s2⟩ := hSw
                  go_simp
                  try with_reducible rfl
                try simp only [Act.put, List.setIfInBounds_toArray, List.set_cons_zero, List.set_cons_succ]
                refine wpAnyE_one (i := 4) rfl (by kernel_rfl) (fun K hK => ?_)
                go_simp
                go_at_call 23
                refine (impl_closedMatrix _ n gp ((q : Int) + 1) wr.drew g2 hgH hlv).mono ?_
                rintro e5 w5 ⟨u5, rfl, hM5, hB5⟩
                unfold closedM at hM5
                obtain ⟨A5, c5, rfl⟩ := hM5.shape
                rw [matF_len] at hM5 ⊢
                have z0a := cell_keep (w := wr.drew) z0 hB5
                have z1a := cell_keep (w := wr.drew) z1 hB5
                have z2a := cell_keep (w := wr.drew) z2 hB5
                refine hK.out _ _ (fun _ => ⟨z0a, z1a, z2a⟩) ?_
                clear hK K
                try simp only [Act.put, List.setIfInBounds_toArray, List.set_cons_zero, List.set_cons_succ]
                refine wpAnyE_one (i := 5) rfl (by kernel_rfl) (fun K hK => ?_)
                have hZ : Below w5.heap.size w5 (w5.alloc (.cells #[.slice A5 n c5] 28)) := (Below.refl _ _).alloc (Nat.le_refl _) _
                have z0b := cell_keep z0a hZ
                have z1b := cell_keep z1a hZ
                have z2b := cell_keep z2a hZ
                go_simp
                refine hK.out _ _ (fun _ => ⟨z0b, z1b, z2b⟩) ?_
                clear hK K
                try simp only [Act.put, List.setIfInBounds_toArray, List.set_cons_zero, List.set_cons_succ]
                have hM6 : OwnM (w5.alloc (.cells #[.slice A5 n c5] 28)) (be + 1 + 1) (Ref.val ⟨A5, n, c5⟩) (matF n (closK n gp ((q : Int) + 1)) n) := (hM5.rebase (by omega)).now hZ
                have hC6 := Lib.hid ((hC2.out.now hB5).now hZ)
                have hb6 := (hb2.now hB5).now hZ
                have hLst := lst_new1 Ref.cells 1 Ref.cells_len w5 28 (⟨A5, n, c5⟩ : Ref) _ rfl _ rfl
                have hLL2 := hLL ⟨A5, n, c5⟩
                have hbs : be + 1 + 1 ≤ (w5.alloc (.cells #[.slice A5 n c5] 28)).heap.size := hC6.out.cl.lt
                have hown := hC6.out.own
                refine wpAnyE_one (i := 6) rfl (by kernel_rfl) (fun K hK => ?_)
                refine step_append_lst rfl _ _ 47 rfl Ref.cells 1 Ref.cells_one (by omega) (be + 1 + 1) 28 _ 24 Try.underlying47 info_refM rfl (.slice CA q cc) rs rfl hown _ _ _ _ [(⟨A5, n, c5⟩ : Ref)] rfl hLst hlen (by omega) hbs ?_
                intro v1 wz hO1 hG1 hD1
                obtain ⟨V1, cv1, rfl⟩ := own_shape_n hO1 hLL2.out
                have hbz := hb6.grown hG1 (fun e => hC6.out.own.ne_blk hb6 (by decide) e.symm)
                have hcz := hC6.out.cl.grown hG1 (fun e => hC6.out.own.ne_blk hC6.out.cl (by decide) e.symm)
                obtain ⟨z1c, z2c⟩ := hbz.c2
                have z0c : wz.cell? ⟨be + 1, 0, none⟩ = some (.slice CA q cc) := by simpa using hcz.cell 0
                have f0 := hcz.frozen 0
                have lz := hcz.lt
                have hC7 := Lib.hid (hC6.out.put hM6 hG1 hO1)
                refine hK.out _ _ (fun _ => ⟨z0c, z1c, z2c⟩) ?_
                clear hK K
                try simp only [Act.put, List.setIfInBounds_toArray, List.set_cons_zero, List.set_cons_succ]
                refine wpAnyE_one (i := 7) rfl (by kernel_rfl) (fun K hK => ?_)
                go_simp
                refine hK.out _ _ (fun h => absurd rfl h) ?_
                clear hK K
                try simp only [Act.put, List.setIfInBounds_toArray, List.set_cons_zero, List.set_cons_succ]
                refine wpAnyE_done (by kernel_rfl) ?_
                clear hS0 z0 z1 z2 z0a z1a z2a z0b z1b z2b z0c z1c z2c f0 lz
                go_wp2
                go_roundw
                case rel => exact ⟨q + 1, V1, cv1, _, hlt, by go_num, hC7⟩
                case measure => simp [intOf]; omega
              · obtain rfl : q = V := by omega
                clear hlt
                go_wp2_with fail
                refine (m_matrixBy _ (run_enter Try.func25 (by kernel_rfl) (by kernel_rfl)) #[.pointer (some ⟨be, 0, none⟩), .pointer (some ⟨be + 1, 0, none⟩)] N N (stK n gp) _ (by omega) (by omega) (fun i j hi hj Vw hVw => impl_StateMatrix1 i j n q be (be + 1) gp _ rs Vw (by omega) (by omega) (by omega) (by rw [hNN.out]; exact hi) (by rw [hNN.out]; exact hj) (hC.out.ev.now hVw) (hC.out.cl.now hVw) hC.out.len (hC.out.own.lst.now hVw) (fun p hp => (hC.out.mats p hp).lst.now hVw))).mono ?_
                rintro e w5 ⟨u5, rfl, hM5, hB5⟩
                clear k0 k1 l0 e0 c0 l1
                go_wp2
                go_ret2
                have hWt := hW.trans (hbel.mono hW.size)
                exact RetMI.of hE.out ⟨_, rfl, hM5.rebase hWt.size, hWt.trans (hB5.mono hWt.size)⟩
theorem OwnM.farL {w : World} {base : Nat} {u x : Value} {M : List (List Int)} {p : Addr} (h : OwnM w base u M) (hp : p.block < base) : OwnM (w.setCell p x) base u M := by
  obtain ⟨r, hl, hO, hR, hD⟩ := h
  exact ⟨r, hl, hO.far hp _, fun i a b => (hR i a b).far hp _, hD⟩
/-- All rows of a matrix lie below a block. -/
def Tops (w : World) (top : Nat) (u : Value) (n : Nat) : Prop := ∀ g j x k, u.ownBlock = some g → j < n → w.cell? ⟨g, j, none⟩ = some x → x.ownBlock = some k → k < top
theorem Tops.of {w : World} {base : Nat} {u : Value} {M : List (List Int)} (h : OwnM w base u M) : Tops w w.heap.size u M.length := fun g j x k h1 h2 h3 h4 => (h.lt h2 h1 h3 h4).2
theorem Tops.drew {w : World} {top n : Nat} {u : Value} (h : Tops w top u n) : Tops w.drew top u n := fun g j x k h1 h2 h3 h4 => h g j x k h1 h2 h3 h4
theorem Tops.below {w w' : World} {top n B : Nat} {u : Value} (h : Tops w top u n) (hb : Below B w w') (hu : ∀ g, u.ownBlock = some g → g < B) : Tops w' top u n := fun g j x k h1 h2 h3 h4 => h g j x k h1 h2 ((hb.cell (p := ⟨g, j, none⟩) (hu g h1)).symm.trans h3) h4
theorem Tops.far {w : World} {top n : Nat} {u y : Value} {p : Addr} (h : Tops w top u n) (hp : u.ownBlock ≠ some p.block) : Tops (w.setCell p y) top u n := fun g j x k h1 h2 h3 h4 =>
  h g j x k h1 h2 (by rw [← World.cell?_setCell_far w p ⟨g, j, none⟩ y (fun e => hp (by rw [h1]; exact congrArg some e.symm))]; exact h3) h4
set_option maxHeartbeats 16000000 in
set_option maxRecDepth 100000 in
theorem spec_StateMatrix (v : Value) (ge : Int) (gp : List Place) (w : World) (h0 : Lst Place.cells 4 w w.heap.size v gp) :
    Calls Try.prog 7 #[.agg #[.int .i64 ge, v]] w (RetMI w (stF ge gp).1 (stF ge gp).2) := by
  obtain ⟨A, c, rfl⟩ := h0.shape
  go_enter Try.func7, Try.ntmps7
  go_wp2_with fail
  have hW : Below w.heap.size w (w.alloc (.cells #[.int .i64 ge, .slice A gp.length c] 26)) := (Below.refl _ _).alloc (Nat.le_refl _) _; have hb0 : Blk (w.alloc (.cells #[.int .i64 ge, .slice A gp.length c] 26)) w.heap.size 26 #[.int .i64 ge, .slice A gp.length c] := Blk.new _ _ _; replace h0 := h0.now hW; generalize (w.alloc (.cells #[.int .i64 ge, .slice A gp.length c] 26)) = W at *
  refine (spec_l12Live _ ge gp _ h0).mono ?_
  rintro e w1 ⟨rfl, hB⟩
  replace hW := hW.trans (hB.mono hW.size); replace h0 := h0.now hB; replace hb0 := hb0.now hB
  clear hB
  by_cases hlc0 : liveC ge gp = 0
  · have hgo : okGraph ge gp = true := by
      cases hg : okGraph ge gp
      · rw [liveC_bad hg] at hlc0; cases hlc0
      · rfl
    have hge := okGraph_ev hgo
    obtain ⟨n, rfl⟩ := Int.eq_ofNat_of_zero_le (show 0 ≤ ge by omega)
    have hgH := Lib.hid hgo
    have hvb := Lib.hid (vmaxF_bd hgo)
    have hgl := okGraph_len hgo
    have hlc := Lib.hid hlc0
    rw [hlc0]
    clear hgo hlc0
    go_wp2
    go_loopw [5, 6] (fun vv i wr => ∃ k : Nat, k ≤ gp.length ∧ i = .int .i64 k ∧ vv = .int .i64 (vmaxF (gp.take k)) ∧ Below w1.heap.size w1 wr) (fun _ i _ => gp.length - (intOf i).toNat)
    case atStart => exact ⟨0, Nat.zero_le _, rfl, rfl, Below.refl _ _⟩
    case round =>
      obtain ⟨k, hk, rfl, rfl, hB⟩ := hrel
      obtain ⟨k0, k1⟩ := (hb0.now hB).c2
      by_cases hlt : k < gp.length
      · obtain ⟨b, off, hA1, _, d0, d1, d2, d3⟩ := places_at (h0.now hB) k hlt
        cases hA1
        have hS := vmaxF_succ gp k hlt
        rw [max_if] at hS
        obtain ⟨vm, hvm⟩ : ∃ vm, vmaxF (gp.take k) = vm := ⟨_, rfl⟩
        obtain ⟨tk, htk⟩ : ∃ tk, gp[k].tokens = tk := ⟨_, rfl⟩
        rw [hvm, htk] at hS
        rw [hvm]
        rw [htk] at d3
        clear hvm htk
        by_cases hle : vm < tk
        · rw [if_pos hle] at hS
          have hSH := Lib.hid hS
          clear hS
          go_wp2
          go_roundw
          case rel => exact ⟨k + 1, hlt, by go_num, by rw [hSH.out], hB⟩
          case measure => simp [intOf]; omega
        · rw [if_neg hle] at hS
          have hSH := Lib.hid hS
          clear hS
          go_wp2
          go_roundw
          case rel => exact ⟨k + 1, hlt, by go_num, by rw [hSH.out], hB⟩
          case measure => simp [intOf]; omega
      · obtain rfl : k = gp.length := by omega
        obtain ⟨wa, rfl⟩ : ∃ wa : World, wa = wr := ⟨_, rfl⟩
        have hvb2 := hvb.out gp.length (Nat.le_refl _)
        rw [List.take_length] at hvb2 ⊢
        obtain ⟨V, hV⟩ := Int.eq_ofNat_of_zero_le (show 0 ≤ vmaxF gp by omega)
        have hVH := Lib.hid hV
        rw [hV] at hvb2 ⊢
        clear hV
        have hVn : V * n ≤ 5 * 10 := Nat.mul_le_mul (by omega) (by omega)
        obtain ⟨N, hN⟩ : ∃ N, V * n = N := ⟨_, rfl⟩
        have hNI : (V : Int) * (n : Int) = (N : Int) := by rw [← hN]; simp
        have wN : IntKind.i64.wrap ((V : Int) * (n : Int)) = (N : Int) := by rw [hNI]; exact IntWalk.i64_in _ (by omega)
        have hNV : Hid (vmaxF gp * (n : Int) = (N : Int)) := by rw [hVH.out]; exact hNI
        replace h0 := h0.now hB
        replace hb0 := hb0.now hB
        replace hW := hW.trans (hB.mono hW.size)
        clear hB
        by_cases hgt : (10 : Int) < (N : Int)
        · have hE : Hid (stF n gp = ([], 3)) := stF_great hlc.out (by rw [hNV.out]; exact hgt)
          clear hNI
          go_wp2
          go_ret2
          exact RetMI.of hE.out ⟨_, rfl, OwnM.nil, hW⟩
        · have hE : Hid (stF n gp = (matF N (stK n gp) N, 0)) := by
            have h9 := stF_ok hlc.out (by rw [hNV.out]; exact hgt) hNV.out
            rwa [Int.toNat_natCast] at h9
          have hN10 : N ≤ 10 := by omega
          have hNN := Lib.hid hN
          clear hN hNI hgt
          go_wp2_with fail
          clear k0 k1
          refine (l02Bottom N N wa (by omega) (by omega)).mono ?_
          rintro e w3 ⟨u, rfl, hM, hB⟩
          have hLM : (matF N (fun _ _ => bot) N).length = N := matF_len _ _ _
          obtain ⟨A1, c1, rfl⟩ := hM.shape
          rw [hLM] at hM ⊢
          clear hLM
          have hone : ((0 + 1 : Nat) : Int) = 1 := rfl
          go_wp2
          go_loopw [8, 9, 10, 11] (fun mv _ _ _ wq => ∃ q : Nat, q ≤ V ∧ mv = .int .i64 ((q : Int) + 1) ∧ OwnM wq wa.heap.size (.slice A1 N c1) (matF N (stG n gp q 0 0) N) ∧ Below wa.heap.size wa wq) (fun mv _ _ _ _ => V + 1 - (intOf mv).toNat)
          case atStart => exact ⟨0, Nat.zero_le _, rfl, by rw [stG_zero]; exact hM, hB⟩
          case round =>
            clear hM hB hone
            obtain ⟨q, hq, rfl, hM, hB⟩ := hrel
            obtain ⟨wq, rfl⟩ : ∃ wq : World, wq = wr := ⟨_, rfl⟩
            obtain ⟨k0, k1⟩ := (hb0.now hB).c2
            have l0 := (hb0.now hB).lt
            by_cases hlt : q < V
            · have hqn : q * n + n ≤ N := by
                have h9 := Nat.mul_le_mul_right n (show q + 1 ≤ V by omega)
                rw [Nat.succ_mul, hNN.out] at h9
                exact h9
              have hle : (q : Int) + 1 ≤ (V : Int) := by omega
              go_wp2_with fail
              clear k0 k1 l0
              refine (spec_l13Closed _ n gp ((q : Int) + 1) wq (h0.now hB) hgH).mono ?_
              rintro e w5 ⟨u5, rfl, hM5, hB5⟩
              unfold closedM at hM5
              obtain ⟨A5, c5, rfl⟩ := hM5.shape
              rw [matF_len] at hM5 ⊢
              have hL5 := hM5.lst
              have hT0 := Tops.of hM
              rw [matF_len] at hT0
              have hT : Tops w5 wq.heap.size (.slice A1 N c1) N := hT0.below hB5 (fun g e => by obtain ⟨g9, _, _, hu9, _, hl9, _⟩ := hM.row 0 (by rw [matF_len]; omega); rw [matF_len] at hu9; rw [hu9] at e; have e2 : g9 = g := Option.some.inj e; omega)
              replace hM := hM.now hB5
              have hB3 := hB.trans (hB5.mono hB.size)
              clear hT0 hB5 hB
              obtain ⟨a, ha⟩ : ∃ a, q * n = a := ⟨_, rfl⟩
              have haH := Lib.hid ha
              rw [ha] at hqn
              have pa : IntKind.i64.wrap ((q : Int) * (n : Int)) = (a : Int) := by
                have h9 : (q : Int) * (n : Int) = (a : Int) := by rw [← ha]; simp
                rw [h9]
                exact IntWalk.i64_in _ (by omega)
              have pq : IntKind.i64.wrap (q : Int) = (q : Int) := IntWalk.i64_in _ (by omega)
              have wm1 : IntKind.i64.wrap ((q : Int) + 1 - 1) = (q : Int) := (IntWalk.i64_in _ (by omega)).trans (by omega)
              have pa2 : IntKind.i64.wrap (((q : Int) + 1) * (n : Int)) = ((a + n : Nat) : Int) := by
                have h9 : ((q : Int) + 1) * (n : Int) = ((a + n : Nat) : Int) := by rw [← ha]; simp [Int.add_mul]
                rw [h9]
                exact IntWalk.i64_in _ (by omega)
              clear ha
              go_wp2
              obtain ⟨b1, o1, _, _, _, _, hu5, _, _, _, _⟩ := mat_at hL5 0 0 (by omega) (by omega)
              cases hu5
              clear hL5
              go_loopw [10, 11] (fun iv _ wy => ∃ i : Nat, i ≤ n ∧ iv = .int .i64 i ∧ OwnM wy wa.heap.size (.slice A1 N c1) (matF N (stG n gp q i 0) N) ∧ OwnM wy wq.heap.size (.slice (some ⟨b1, o1, none⟩) n c5) (matF n (closK n gp ((q : Int) + 1)) n) ∧ Tops wy wq.heap.size (.slice A1 N c1) N ∧ Below wa.heap.size wa wy) (fun iv _ _ => n - (intOf iv).toNat)
              case atStart => exact ⟨0, Nat.zero_le _, rfl, hM, hM5, hT, hB3⟩
              case round =>
                clear hM hM5 hT hB3
                obtain ⟨i, hi, rfl, hM, hM5, hT, hB⟩ := hrel
                obtain ⟨k0, k1⟩ := (hb0.now hB).c2
                have l0 := (hb0.now hB).lt
                by_cases hlt2 : i < n
                · have hil' : (i : Int) < (n : Int) := by omega
                  go_wp2
                  clear k0 k1 l0
                  obtain ⟨wy0, rfl⟩ : ∃ wy0 : World, wy0 = wr := ⟨_, rfl⟩
                  go_loopw [11] (fun jv wy => ∃ k : Nat, k ≤ n ∧ jv = .int .i64 k ∧ OwnM wy wa.heap.size (.slice A1 N c1) (matF N (stG n gp q i k) N) ∧ OwnM wy wq.heap.size (.slice (some ⟨b1, o1, none⟩) n c5) (matF n (closK n gp ((q : Int) + 1)) n) ∧ Tops wy wq.heap.size (.slice A1 N c1) N ∧ Below wa.heap.size wa wy) (fun jv _ => n - (intOf jv).toNat)
                  case atStart => exact ⟨0, Nat.zero_le _, rfl, hM, hM5, hT, hB⟩
                  case round =>
                    clear hM hM5 hT hB
                    obtain ⟨k, hk, rfl, hM, hM5, hT, hB⟩ := hrel
                    obtain ⟨k0, k1⟩ := (hb0.now hB).c2
                    have l0 := (hb0.now hB).lt
                    by_cases hlt3 : k < n
                    · have hkl' : (k : Int) < (n : Int) := by omega
                      have hil : i < (matF N (stG n gp q i k) N).length := by rw [matF_len]; omega
                      obtain ⟨g, cu, r, hu, hgb, hgl, hfz, hci, hri, hne, hset, _⟩ := hM.row i hil
                      rw [matF_len] at hu
                      cases hu
                      rw [matF_get] at hri
                      obtain ⟨bi, ci, hv, hbiB, _, _⟩ := hri.at_ intCell_len 0 (by simp; omega)
                      rw [List.length_map, List.length_range] at hv
                      rw [hv] at hci hri hset hne
                      have htop : bi < wq.heap.size := hT g i _ bi rfl (by omega) hci rfl
                      have hneg : bi ≠ g := fun e => hne (congrArg some e)
                      obtain ⟨s1, hs1⟩ : ∃ s1, a + k = s1 := ⟨_, rfl⟩
                      have hs1N : s1 < N := by omega
                      have ws1 : IntKind.i64.wrap ((a : Int) + (k : Int)) = (s1 : Int) := by rw [← hs1]; exact IntWalk.i64_in _ (by omega)
                      obtain ⟨_, hbl, hfi, hij⟩ := own_ints_at hri s1 (by simpa using hs1N)
                      obtain ⟨_, _, _, r2, p2, c2, hu, _, y1, _, y2⟩ := mat_at hM5.lst i k hlt2 hlt3
                      cases hu
                      obtain ⟨xv, hxv⟩ : ∃ xv, closK n gp ((q : Int) + 1) i k = xv := ⟨_, rfl⟩
                      rw [hxv] at y2
                      have hBd : Below wr.heap.size wr wr.drew := Below.drew (Below.refl _ wr)
                      have hMn := hset _ _ ((hri.now hBd).set1 s1 (by simpa using hs1N) xv) (grown_set (p := ⟨bi, s1, none⟩) (grown_of_below hBd) rfl _)
                      rw [matF_upd, ← hs1, ← haH.out, ← hxv, stG_step n gp q i k N N hlt2 hlt3, haH.out, hs1, hxv] at hMn
                      have hBn := (hB.trans (hBd.mono hB.size)).setCell (p := ⟨bi, s1, none⟩) hbiB (.int .i64 xv)
                      have hTn := hT.drew.far (p := ⟨bi, s1, none⟩) (y := .int .i64 xv) (fun e => hneg (Option.some.inj e).symm)
                      have hM5n := (hM5.now hBd).farL (p := ⟨bi, s1, none⟩) (x := .int .i64 xv) htop
                      have hall := Lib.hid (And.intro hMn (And.intro hM5n (And.intro hTn hBn)))
                      have z0 := cell_keep hci hBd
                      have z1 := cell_keep y1 hBd
                      have z2 := cell_keep y2 hBd
                      have z3 := cell_keep k0 hBd
                      have hij' := cell_keep hij hBd
                      have i1 : (0 : Int) ≤ (i : Int) := by omega
                      have i2 : (i : Int) < (N : Int) := by omega
                      have i3 : (0 : Int) ≤ (k : Int) := by omega
                      have i5 : (0 : Int) ≤ (s1 : Int) := by omega
                      have i6 : (s1 : Int) < (N : Int) := by omega
                      clear hMn hBn hTn hM5n hset hri hv hM hM5 hB hT y1 y2 hxv hs1 hne hneg htop hij hBd
                      go_wp2_with fail
                      refine wp_region_E (fun w' => w'.cell? ⟨g, i, none⟩ = some (.slice (some ⟨bi, 0, none⟩) N ci) ∧ w'.cell? ⟨b1, o1 + i, none⟩ = some (.slice (some ⟨r2, p2, none⟩) n c2) ∧ w'.cell? ⟨r2, p2 + k, none⟩ = some (.int .i64 xv) ∧ w'.cell? ⟨w.heap.size, 0, none⟩ = some (.int .i64 (n : Nat))) 19 (by kernel_rfl) ?_
                      have hS0 : (fun w' : World => w'.cell? ⟨g, i, none⟩ = some (.slice (some ⟨bi, 0, none⟩) N ci) ∧ w'.cell? ⟨b1, o1 + i, none⟩ = some (.slice (some ⟨r2, p2, none⟩) n c2) ∧ w'.cell? ⟨r2, p2 + k, none⟩ = some (.int .i64 xv) ∧ w'.cell? ⟨w.heap.size, 0, none⟩ = some (.int .i64 (n : Nat))) wr.drew := ⟨z0, z1, z2, z3⟩
                      refine wpAnyE_take (i := 0) (v := ?_) rfl (by kernel_rfl) (by kernel_rfl) (by kernel_rfl) (by kernel_rfl) (by kernel_rfl) (fun _ _ _ h => h) hS0 (by rfl) ?_ ?_
                      rotate_left
                      · intro w9 hSw
                        try dsimp only at hSw
                        obtain ⟨s0, s1, s2, s3⟩ := hSw
                        go_simp
                        try with_reducible rfl
                      try simp only [Act.put, List.setIfInBounds_toArray, List.set_cons_zero, List.set_cons_succ]
                      refine wpAnyE_take (i := 1) (v := ?_) rfl (by kernel_rfl) (by kernel_rfl) (by kernel_rfl) (by kernel_rfl) (by kernel_rfl) (fun _ _ _ h => h) hS0 (by rfl) ?_ ?_
                      rotate_left
                      · intro w9 hSw
                        try dsimp only at hSw
                        obtain ⟨s0, s1, s2, s3⟩ := hSw
                        go_simp
                        try with_reducible rfl
                      try simp only [Act.put, List.setIfInBounds_toArray, List.set_cons_zero, List.set_cons_succ]
                      refine wpAnyE_take (i := 2) (v := ?_) rfl (by kernel_rfl) (by kernel_rfl) (by kernel_rfl) (by kernel_rfl) (by kernel_rfl) (fun _ _ _ h => h) hS0 (by rfl) ?_ ?_
                      rotate_left
                      · intro w9 hSw
                        try dsimp only at hSw
                        obtain ⟨s0, s1, s2, s3⟩ := hSw
                        go_simp
                        try with_reducible rfl
                      try simp only [Act.put, List.setIfInBounds_toArray, List.set_cons_zero, List.set_cons_succ]
                      refine wpAnyE_take (i := 3) (v := ?_) rfl (by kernel_rfl) (by kernel_rfl) (by kernel_rfl) (by kernel_rfl) (by kernel_rfl) (fun _ _ _ h => h) hS0 (by rfl) ?_ ?_
                      rotate_left
                      · intro w9 hSw
                        try dsimp only at hSw
                        obtain ⟨s0, s1, s2, s3⟩ := hSw
                        go_simp
                        try with_reducible rfl
                      try simp only [Act.put, List.setIfInBounds_toArray, List.set_cons_zero, List.set_cons_succ]
                      refine wpAnyE_take (i := 4) (v := ?_) rfl (by kernel_rfl) (by kernel_rfl) (by kernel_rfl) (by kernel_rfl) (by kernel_rfl) (fun _ _ _ h => h) hS0 (by rfl) ?_ ?_
                      rotate_left
                      · intro w9 hSw
                        try dsimp only at hSw
                        obtain ⟨s0, s1, s2, s3⟩ := hSw
                        go_simp
                        try with_reducible rfl
                      try simp only [Act.put, List.setIfInBounds_toArray, List.set_cons_zero, List.set_cons_succ]
                      refine wpAnyE_take (i := 5) (v := ?_) rfl (by kernel_rfl) (by kernel_rfl) (by kernel_rfl) (by kernel_rfl) (by kernel_rfl) (fun _ _ _ h => h) hS0 (by rfl) ?_ ?_
                      rotate_left
                      · intro w9 hSw
                        try dsimp only at hSw
                        obtain ⟨s0, s1, s2, s3⟩ := hSw
                        go_simp
                        try with_reducible rfl
                      try simp only [Act.put, List.setIfInBounds_toArray, List.set_cons_zero, List.set_cons_succ]
                      refine wpAnyE_take (i := 6) (v := ?_) rfl (by kernel_rfl) (by kernel_rfl) (by kernel_rfl) (by kernel_rfl) (by kernel_rfl) (fun _ _ _ h => h) hS0 (by rfl) ?_ ?_
                      rotate_left
                      · intro w9 hSw
                        try dsimp only at hSw
                        obtain ⟨s0, s1, s2, s3⟩ := hSw
                        go_simp
                        try with_reducible rfl
                      try simp only [Act.put, List.setIfInBounds_toArray, List.set_cons_zero, List.set_cons_succ]
                      refine wpAnyE_take (i := 7) (v := ?_) rfl (by kernel_rfl) (by kernel_rfl) (by kernel_rfl) (by kernel_rfl) (by kernel_rfl) (fun _ _ _ h => h) hS0 (by rfl) ?_ ?_
                      rotate_left
                      · intro w9 hSw
                        try dsimp only at hSw
                        obtain ⟨s0, s1, s2, s3⟩ := hSw
                        go_simp
                        try with_reducible rfl
                      try simp only [Act.put, List.setIfInBounds_toArray, List.set_cons_zero, List.set_cons_succ]
                      refine wpAnyE_take (i := 8) (v := ?_) rfl (by kernel_rfl) (by kernel_rfl) (by kernel_rfl) (by kernel_rfl) (by kernel_rfl) (fun _ _ _ h => h) hS0 (by rfl) ?_ ?_
                      rotate_left
                      · intro w9 hSw
                        try dsimp only at hSw
                        obtain ⟨s0, s1, s2, s3⟩ := hSw
                        go_simp
                        try with_reducible rfl
                      try simp only [Act.put, List.setIfInBounds_toArray, List.set_cons_zero, List.set_cons_succ]
                      refine wpAnyE_take (i := 9) (v := ?_) rfl (by kernel_rfl) (by kernel_rfl) (by kernel_rfl) (by kernel_rfl) (by kernel_rfl) (fun _ _ _ h => h) hS0 (by rfl) ?_ ?_
                      rotate_left
                      · intro w9 hSw
                        try dsimp only at hSw
                        obtain ⟨s0, s1, s2, s3⟩ := hSw
                        go_simp
                        try with_reducible rfl
                      try simp only [Act.put, List.setIfInBounds_toArray, List.set_cons_zero, List.set_cons_succ]
                      refine wpAnyE_take (i := 10) (v := ?_) rfl (by kernel_rfl) (by kernel_rfl) (by kernel_rfl) (by kernel_rfl) (by kernel_rfl) (fun _ _ _ h => h) hS0 (by rfl) ?_ ?_
                      rotate_left
                      · intro w9 hSw
                        try dsimp only at hSw
                        obtain ⟨s0, s1, s2, s3⟩ := hSw
                        go_simp
                        try with_reducible rfl
                      try simp only [Act.put, List.setIfInBounds_toArray, List.set_cons_zero, List.set_cons_succ]
                      refine wpAnyE_take (i := 11) (v := ?_) rfl (by kernel_rfl) (by kernel_rfl) (by kernel_rfl) (by kernel_rfl) (by kernel_rfl) (fun _ _ _ h => h) hS0 (by rfl) ?_ ?_
                      rotate_left
                      · intro w9 hSw
                        try dsimp only at hSw
                        obtain ⟨s0, s1, s2, s3⟩ := hSw
                        go_simp
                        try with_reducible rfl
                      try simp only [Act.put, List.setIfInBounds_toArray, List.set_cons_zero, List.set_cons_succ]
                      refine wpAnyE_take (i := 12) (v := ?_) rfl (by kernel_rfl) (by kernel_rfl) (by kernel_rfl) (by kernel_rfl) (by kernel_rfl) (fun _ _ _ h => h) hS0 (by rfl) ?_ ?_
                      rotate_left
                      · intro w9 hSw
                        try dsimp only at hSw
                        obtain ⟨s0, s1, s2, s3⟩ := hSw
                        go_simp
                        try with_reducible rfl
                      try simp only [Act.put, List.setIfInBounds_toArray, List.set_cons_zero, List.set_cons_succ]
                      refine wpAnyE_take (i := 13) (v := ?_) rfl (by kernel_rfl) (by kernel_rfl) (by kernel_rfl) (by kernel_rfl) (by kernel_rfl) (fun _ _ _ h => h) hS0 (by rfl) ?_ ?_
                      rotate_left
                      · intro w9 hSw
                        try dsimp only at hSw
                        obtain ⟨s0, s1, s2, s3⟩ := hSw
                        go_simp
                        try with_reducible rfl
                      try simp only [Act.put, List.setIfInBounds_toArray, List.set_cons_zero, List.set_cons_succ]
                      refine wpAnyE_take (i := 14) (v := ?_) rfl (by kernel_rfl) (by kernel_rfl) (by kernel_rfl) (by kernel_rfl) (by kernel_rfl) (fun _ _ _ h => h) hS0 (by rfl) ?_ ?_
                      rotate_left
                      · intro w9 hSw
                        try dsimp only at hSw
                        obtain ⟨s0, s1, s2, s3⟩ := hSw
                        go_simp
                        try with_reducible rfl
                      try simp only [Act.put, List.setIfInBounds_toArray, List.set_cons_zero, List.set_cons_succ]
                      refine wpAnyE_take (i := 15) (v := ?_) rfl (by kernel_rfl) (by kernel_rfl) (by kernel_rfl) (by kernel_rfl) (by kernel_rfl) (fun _ _ _ h => h) hS0 (by rfl) ?_ ?_
                      rotate_left
                      · intro w9 hSw
                        try dsimp only at hSw
                        obtain ⟨s0, s1, s2, s3⟩ := hSw
                        go_simp
                        try with_reducible rfl
                      try simp only [Act.put, List.setIfInBounds_toArray, List.set_cons_zero, List.set_cons_succ]
                      refine wpAnyE_take (i := 16) (v := ?_) rfl (by kernel_rfl) (by kernel_rfl) (by kernel_rfl) (by kernel_rfl) (by kernel_rfl) (fun _ _ _ h => h) hS0 (by rfl) ?_ ?_
                      rotate_left
                      · intro w9 hSw
                        try dsimp only at hSw
                        obtain ⟨s0, s1, s2, s3⟩ := hSw
                        go_simp
                        try with_reducible rfl
                      try simp only [Act.put, List.setIfInBounds_toArray, List.set_cons_zero, List.set_cons_succ]
                      refine wpAnyE_take (i := 17) (v := ?_) rfl (by kernel_rfl) (by kernel_rfl) (by kernel_rfl) (by kernel_rfl) (by kernel_rfl) (fun _ _ _ h => h) hS0 (by rfl) ?_ ?_
                      rotate_left
                      · intro w9 hSw
                        try dsimp only at hSw
                        obtain ⟨s0, s1, s2, s3⟩ := hSw
                        go_simp
                        try with_reducible rfl
                      try simp only [Act.put, List.setIfInBounds_toArray, List.set_cons_zero, List.set_cons_succ]
                      refine wpAnyE_take (i := 18) (v := ?_) rfl (by kernel_rfl) (by kernel_rfl) (by kernel_rfl) (by kernel_rfl) (by kernel_rfl) (fun _ _ _ h => h) hS0 (by rfl) ?_ ?_
                      rotate_left
                      · intro w9 hSw
                        try dsimp only at hSw
                        obtain ⟨s0, s1, s2, s3⟩ := hSw
                        go_simp
                        try with_reducible rfl
                      try simp only [Act.put, List.setIfInBounds_toArray, List.set_cons_zero, List.set_cons_succ]
                      refine wpAnyE_one (i := 19) rfl (by kernel_rfl) (fun K hK => ?_)
                      go_simp
                      refine hK.out _ _ (fun h => absurd rfl h) ?_
                      clear hK K
                      try simp only [Act.put, List.setIfInBounds_toArray, List.set_cons_zero, List.set_cons_succ]
                      refine wpAnyE_done (by kernel_rfl) ?_
                      clear hS0 z0 z1 z2 z3
                      go_wp2
                      go_roundw
                      case rel => exact ⟨k + 1, hlt3, by go_num, hall.out.1, hall.out.2.1, hall.out.2.2.1, hall.out.2.2.2⟩
                      case measure => simp [intOf]; omega
                    · obtain rfl : k = n := by omega
                      have hnl : ¬ (k : Int) < (k : Int) := by omega
                      by_cases hlast : q + 1 < V
                      · have hqn2 : a + k + k ≤ N := by
                          have h9 := Nat.mul_le_mul_right k (show q + 1 + 1 ≤ V by omega)
                          rw [Nat.succ_mul, Nat.succ_mul, hNN.out, haH.out] at h9
                          exact h9
                        have hlI : (q : Int) + 1 < (V : Int) := by omega
                        obtain ⟨R, hR⟩ : ∃ R, a + k + i = R := ⟨_, rfl⟩
                        obtain ⟨C2, hC2⟩ : ∃ C2, a + i = C2 := ⟨_, rfl⟩
                        have hRN : R < N := by omega
                        have hCN : C2 < N := by omega
                        obtain ⟨a2, ha2⟩ : ∃ a2, a + k = a2 := ⟨_, rfl⟩
                        rw [ha2] at pa2
                        have wR : IntKind.i64.wrap ((a2 : Int) + (i : Int)) = (R : Int) := by rw [← hR, ← ha2]; exact IntWalk.i64_in _ (by omega)
                        have wC : IntKind.i64.wrap ((a : Int) + (i : Int)) = (C2 : Int) := by rw [← hC2]; exact IntWalk.i64_in _ (by omega)
                        have hil : R < (matF N (stG k gp q i k) N).length := by rw [matF_len]; omega
                        obtain ⟨g, cu, r, hu, hgb, hgl, hfz, hci, hri, hne, hset, _⟩ := hM.row R hil
                        rw [matF_len] at hu
                        cases hu
                        rw [matF_get] at hri
                        obtain ⟨bi, ci, hv, hbiB, _, _⟩ := hri.at_ intCell_len 0 (by simp; omega)
                        rw [List.length_map, List.length_range] at hv
                        rw [hv] at hci hri hset hne
                        have htop : bi < wq.heap.size := hT g R _ bi rfl (by omega) hci rfl
                        have hneg : bi ≠ g := fun e => hne (congrArg some e)
                        obtain ⟨_, hbl, hfi, hij⟩ := own_ints_at hri C2 (by simpa using hCN)
                        have hBd : Below wr.heap.size wr wr.drew := Below.drew (Below.refl _ wr)
                        have hMn := hset _ _ ((hri.now hBd).set1 C2 (by simpa using hCN) 0) (grown_set (p := ⟨bi, C2, none⟩) (grown_of_below hBd) rfl _)
                        rw [matF_upd, ← hR, ← hC2, ← haH.out, stG_one k gp q i N N hlt2, haH.out, hC2] at hMn
                        have hBn := (hB.trans (hBd.mono hB.size)).setCell (p := ⟨bi, C2, none⟩) hbiB (.int .i64 0)
                        have hTn := hT.drew.far (p := ⟨bi, C2, none⟩) (y := .int .i64 0) (fun e => hneg (Option.some.inj e).symm)
                        have hM5n := (hM5.now hBd).farL (p := ⟨bi, C2, none⟩) (x := .int .i64 0) htop
                        have hall := Lib.hid (And.intro hMn (And.intro hM5n (And.intro hTn hBn)))
                        have z0 := cell_keep hci hBd
                        have z3 := cell_keep k0 hBd
                        have hij' := cell_keep hij hBd
                        have i1 : (0 : Int) ≤ (R : Int) := by omega
                        have i2 : (R : Int) < (N : Int) := by omega
                        have i5 : (0 : Int) ≤ (C2 : Int) := by omega
                        have i6 : (C2 : Int) < (N : Int) := by omega
                        clear hMn hBn hTn hM5n hset hri hv hM hM5 hB hT hR hC2 ha2 hne hneg htop hij hBd
                        go_wp2_with fail
                        refine wp_region_E (fun w' => w'.cell? ⟨g, R, none⟩ = some (.slice (some ⟨bi, 0, none⟩) N ci) ∧ w'.cell? ⟨w.heap.size, 0, none⟩ = some (.int .i64 (k : Nat))) 17 (by kernel_rfl) ?_
                        have hS0 : (fun w' : World => w'.cell? ⟨g, R, none⟩ = some (.slice (some ⟨bi, 0, none⟩) N ci) ∧ w'.cell? ⟨w.heap.size, 0, none⟩ = some (.int .i64 (k : Nat))) wr.drew := ⟨z0, z3⟩
                        refine wpAnyE_take (i := 0) (v := ?_) rfl (by kernel_rfl) (by kernel_rfl) (by kernel_rfl) (by kernel_rfl) (by kernel_rfl) (fun _ _ _ h => h) hS0 (by rfl) ?_ ?_
                        rotate_left
                        · intro w9 hSw
                          try dsimp only at hSw
                          obtain ⟨s0, s1⟩ := hSw
                          go_simp
                          try with_reducible rfl
                        try simp only [Act.put, List.setIfInBounds_toArray, List.set_cons_zero, List.set_cons_succ]
                        refine wpAnyE_take (i := 1) (v := ?_) rfl (by kernel_rfl) (by kernel_rfl) (by kernel_rfl) (by kernel_rfl) (by kernel_rfl) (fun _ _ _ h => h) hS0 (by rfl) ?_ ?_
                        rotate_left
                        · intro w9 hSw
                          try dsimp only at hSw
                          obtain ⟨s0, s1⟩ := hSw
                          go_simp
                          try with_reducible rfl
                        try simp only [Act.put, List.setIfInBounds_toArray, List.set_cons_zero, List.set_cons_succ]
                        refine wpAnyE_take (i := 2) (v := ?_) rfl (by kernel_rfl) (by kernel_rfl) (by kernel_rfl) (by kernel_rfl) (by kernel_rfl) (fun _ _ _ h => h) hS0 (by rfl) ?_ ?_
                        rotate_left
                        · intro w9 hSw
                          try dsimp only at hSw
                          obtain ⟨s0, s1⟩ := hSw
                          go_simp
                          try with_reducible rfl
                        try simp only [Act.put, List.setIfInBounds_toArray, List.set_cons_zero, List.set_cons_succ]
                        refine wpAnyE_take (i := 3) (v := ?_) rfl (by kernel_rfl) (by kernel_rfl) (by kernel_rfl) (by kernel_rfl) (by kernel_rfl) (fun _ _ _ h => h) hS0 (by rfl) ?_ ?_
                        rotate_left
                        · intro w9 hSw
                          try dsimp only at hSw
                          obtain ⟨s0, s1⟩ := hSw
                          go_simp
                          try with_reducible rfl
                        try simp only [Act.put, List.setIfInBounds_toArray, List.set_cons_zero, List.set_cons_succ]
                        refine wpAnyE_take (i := 4) (v := ?_) rfl (by kernel_rfl) (by kernel_rfl) (by kernel_rfl) (by kernel_rfl) (by kernel_rfl) (fun _ _ _ h => h) hS0 (by rfl) ?_ ?_
                        rotate_left
                        · intro w9 hSw
                          try dsimp only at hSw
                          obtain ⟨s0, s1⟩ := hSw
                          go_simp
                          try with_reducible rfl
                        try simp only [Act.put, List.setIfInBounds_toArray, List.set_cons_zero, List.set_cons_succ]
                        refine wpAnyE_take (i := 5) (v := ?_) rfl (by kernel_rfl) (by kernel_rfl) (by kernel_rfl) (by kernel_rfl) (by kernel_rfl) (fun _ _ _ h => h) hS0 (by rfl) ?_ ?_
                        rotate_left
                        · intro w9 hSw
                          try dsimp only at hSw
                          obtain ⟨s0, s1⟩ := hSw
                          go_simp
                          try with_reducible rfl
                        try simp only [Act.put, List.setIfInBounds_toArray, List.set_cons_zero, List.set_cons_succ]
                        refine wpAnyE_take (i := 6) (v := ?_) rfl (by kernel_rfl) (by kernel_rfl) (by kernel_rfl) (by kernel_rfl) (by kernel_rfl) (fun _ _ _ h => h) hS0 (by rfl) ?_ ?_
                        rotate_left
                        · intro w9 hSw
                          try dsimp only at hSw
                          obtain ⟨s0, s1⟩ := hSw
                          go_simp
                          try with_reducible rfl
                        try simp only [Act.put, List.setIfInBounds_toArray, List.set_cons_zero, List.set_cons_succ]
                        refine wpAnyE_take (i := 7) (v := ?_) rfl (by kernel_rfl) (by kernel_rfl) (by kernel_rfl) (by kernel_rfl) (by kernel_rfl) (fun _ _ _ h => h) hS0 (by rfl) ?_ ?_
                        rotate_left
                        · intro w9 hSw
                          try dsimp only at hSw
                          obtain ⟨s0, s1⟩ := hSw
                          go_simp
                          try with_reducible rfl
                        try simp only [Act.put, List.setIfInBounds_toArray, List.set_cons_zero, List.set_cons_succ]
                        refine wpAnyE_take (i := 8) (v := ?_) rfl (by kernel_rfl) (by kernel_rfl) (by kernel_rfl) (by kernel_rfl) (by kernel_rfl) (fun _ _ _ h => h) hS0 (by rfl) ?_ ?_
                        rotate_left
                        · intro w9 hSw
                          try dsimp only at hSw
                          obtain ⟨s0, s1⟩ := hSw
                          go_simp
                          try with_reducible rfl
                        try simp only [Act.put, List.setIfInBounds_toArray, List.set_cons_zero, List.set_cons_succ]
                        refine wpAnyE_take (i := 9) (v := ?_) rfl (by kernel_rfl) (by kernel_rfl) (by kernel_rfl) (by kernel_rfl) (by kernel_rfl) (fun _ _ _ h => h) hS0 (by rfl) ?_ ?_
                        rotate_left
                        · intro w9 hSw
                          try dsimp only at hSw
                          obtain ⟨s0, s1⟩ := hSw
                          go_simp
                          try with_reducible rfl
                        try simp only [Act.put, List.setIfInBounds_toArray, List.set_cons_zero, List.set_cons_succ]
                        refine wpAnyE_take (i := 10) (v := ?_) rfl (by kernel_rfl) (by kernel_rfl) (by kernel_rfl) (by kernel_rfl) (by kernel_rfl) (fun _ _ _ h => h) hS0 (by rfl) ?_ ?_
                        rotate_left
                        · intro w9 hSw
                          try dsimp only at hSw
                          obtain ⟨s0, s1⟩ := hSw
                          go_simp
                          try with_reducible rfl
                        try simp only [Act.put, List.setIfInBounds_toArray, List.set_cons_zero, List.set_cons_succ]
                        refine wpAnyE_take (i := 11) (v := ?_) rfl (by kernel_rfl) (by kernel_rfl) (by kernel_rfl) (by kernel_rfl) (by kernel_rfl) (fun _ _ _ h => h) hS0 (by rfl) ?_ ?_
                        rotate_left
                        · intro w9 hSw
                          try dsimp only at hSw
                          obtain ⟨s0, s1⟩ := hSw
                          go_simp
                          try with_reducible rfl
                        try simp only [Act.put, List.setIfInBounds_toArray, List.set_cons_zero, List.set_cons_succ]
                        refine wpAnyE_take (i := 12) (v := ?_) rfl (by kernel_rfl) (by kernel_rfl) (by kernel_rfl) (by kernel_rfl) (by kernel_rfl) (fun _ _ _ h => h) hS0 (by rfl) ?_ ?_
                        rotate_left
                        · intro w9 hSw
                          try dsimp only at hSw
                          obtain ⟨s0, s1⟩ := hSw
                          go_simp
                          try with_reducible rfl
                        try simp only [Act.put, List.setIfInBounds_toArray, List.set_cons_zero, List.set_cons_succ]
                        refine wpAnyE_take (i := 13) (v := ?_) rfl (by kernel_rfl) (by kernel_rfl) (by kernel_rfl) (by kernel_rfl) (by kernel_rfl) (fun _ _ _ h => h) hS0 (by rfl) ?_ ?_
                        rotate_left
                        · intro w9 hSw
                          try dsimp only at hSw
                          obtain ⟨s0, s1⟩ := hSw
                          go_simp
                          try with_reducible rfl
                        try simp only [Act.put, List.setIfInBounds_toArray, List.set_cons_zero, List.set_cons_succ]
                        refine wpAnyE_take (i := 14) (v := ?_) rfl (by kernel_rfl) (by kernel_rfl) (by kernel_rfl) (by kernel_rfl) (by kernel_rfl) (fun _ _ _ h => h) hS0 (by rfl) ?_ ?_
                        rotate_left
                        · intro w9 hSw
                          try dsimp only at hSw
                          obtain ⟨s0, s1⟩ := hSw
                          go_simp
                          try with_reducible rfl
                        try simp only [Act.put, List.setIfInBounds_toArray, List.set_cons_zero, List.set_cons_succ]
                        refine wpAnyE_take (i := 15) (v := ?_) rfl (by kernel_rfl) (by kernel_rfl) (by kernel_rfl) (by kernel_rfl) (by kernel_rfl) (fun _ _ _ h => h) hS0 (by rfl) ?_ ?_
                        rotate_left
                        · intro w9 hSw
                          try dsimp only at hSw
                          obtain ⟨s0, s1⟩ := hSw
                          go_simp
                          try with_reducible rfl
                        try simp only [Act.put, List.setIfInBounds_toArray, List.set_cons_zero, List.set_cons_succ]
                        refine wpAnyE_take (i := 16) (v := ?_) rfl (by kernel_rfl) (by kernel_rfl) (by kernel_rfl) (by kernel_rfl) (by kernel_rfl) (fun _ _ _ h => h) hS0 (by rfl) ?_ ?_
                        rotate_left
                        · intro w9 hSw
                          try dsimp only at hSw
                          obtain ⟨s0, s1⟩ := hSw
                          go_simp
                          try with_reducible rfl
                        try simp only [Act.put, List.setIfInBounds_toArray, List.set_cons_zero, List.set_cons_succ]
                        refine wpAnyE_one (i := 17) rfl (by kernel_rfl) (fun K hK => ?_)
                        go_simp
                        refine hK.out _ _ (fun h => absurd rfl h) ?_
                        clear hK K
                        try simp only [Act.put, List.setIfInBounds_toArray, List.set_cons_zero, List.set_cons_succ]
                        refine wpAnyE_done (by kernel_rfl) ?_
                        clear hS0 z0 z3
                        go_wp2
                        go_roundw
                        case rel => exact ⟨i + 1, hlt2, by go_num, hall.out.1, hall.out.2.1, hall.out.2.2.1, hall.out.2.2.2⟩
                        case measure => simp [intOf]; omega
                      · have hqV : q + 1 = V := by omega
                        have hNq : N = q * k + k := by rw [← hNN.out, ← hqV, Nat.succ_mul]
                        have hlI : ¬ (q : Int) + 1 < (V : Int) := by omega
                        rw [stG_last k gp q i N hNq] at hM
                        clear hNq hqV hlast
                        go_wp2
                        go_roundw
                        case rel => exact ⟨i + 1, hlt2, by go_num, hM, hM5, hT, hB⟩
                        case measure => simp [intOf]; omega
                · obtain rfl : i = n := by omega
                  rw [stG_block] at hM
                  have hnl : ¬ (i : Int) < (i : Int) := by omega
                  clear hlt2
                  go_wp2
                  go_roundw
                  case rel => exact ⟨q + 1, hlt, by go_num, hM, hB⟩
                  case measure => simp [intOf]; omega
            · obtain rfl : q = V := by omega
              have hD := stG_done n gp q N hNN.out.symm
              rw [hD] at hM
              have hnl : ¬ (q : Int) + 1 ≤ (q : Int) := by omega
              clear hD hlt
              go_wp2
              go_ret2
              exact RetMI.of hE.out ⟨_, rfl, hM.rebase hW.size, hW.trans (hB.mono hW.size)⟩
  · have hE : Hid (stF ge gp = ([], liveC ge gp)) := stF_dead hlc0
    obtain ⟨cd, hcd⟩ : ∃ cd, liveC ge gp = cd := ⟨_, rfl⟩
    rw [hcd] at hE hlc0 ⊢
    have q1 : (cd != 0) = true := by simpa using hlc0
    clear hcd hlc0
    go_wp2
    go_ret2
    exact RetMI.of hE.out ⟨_, rfl, OwnM.nil, hW⟩
end Go.Proofs.Ytcoomogabicfnaa
