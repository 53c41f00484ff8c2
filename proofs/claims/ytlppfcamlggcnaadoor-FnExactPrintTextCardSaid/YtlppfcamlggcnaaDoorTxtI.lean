/-
  Texts of runs, the program's side.
-/
import Derived.Test.YtlppfcamlggcnaaDoorTxt
import Derived.Test.YtlppfcamlggcnaaDoorName
import Derived.Shelf.Strings.OnBuilder
namespace Go.Proofs.YtlppfcamlggcnaaDoor
open Go.RowKit
set_option linter.unusedVariables false
set_option linter.unusedSimpArgs false
shelf_lay Lays.n156 Nm 156 at Tryd as Tryd.lays156
theorem builder_extra : Builder.Extra Tryd.prog Tryd.lays156_ren where
  sizeBuilder := by kernel_rfl
  liesBuilder := by kernel_rfl
  t5 := Tryd.underlying5
  a5 := Tryd.isAgg5
  z5 := Tryd.sizeOf5
  v5 := Tryd.zeroValue5
  infoByte := by kernel_rfl
  cellsByte := by kernel_rfl
  sizeByte := by kernel_rfl
  neB5 := by decide
/-- The elements of a list of texts, joined. -/
def joinB (l : List ByteArray) (sep : ByteArray) : ByteArray := ⟨(Lib.join (l.map (·.data.toList)) sep.data.toList).toArray⟩
theorem strings_Join (v : Value) (l : List ByteArray) (sep : ByteArray) (w : World) (h : Lst strCell 1 w w.heap.size v l) (hN : l.length ≤ 1000000) (hlen : (joinB l sep).size ≤ 140737488355328) :
    Calls Tryd.prog 64 #[v, .string sep] w fun e w' => e = .returned (.string (joinB l sep)) ∧ Below w.heap.size w w' := by
  have hn := h.len_le
  obtain ⟨A, c, rfl⟩ := h.shape
  cases A with
  | none =>
    obtain rfl := lst_none h
    refine (Any.strings_Join_none Tryd.lays156 builder_extra none c sep w).mono ?_
    rintro e w' ⟨he, rfl⟩
    exact ⟨by rw [he]; rfl, Below.refl _ _⟩
  | some a =>
    obtain ⟨h1, h2, A', c', hv, hc, hcell⟩ := h
    injection hv with hA _ hcc
    subst hcc
    by_cases h0 : l.length = 0
    · obtain rfl := List.eq_nil_of_length_eq_zero h0
      refine (Any.strings_Join_none Tryd.lays156 builder_extra (some a) c sep w).mono ?_
      rintro e w' ⟨he, rfl⟩
      exact ⟨by rw [he]; rfl, Below.refl _ _⟩
    · obtain ⟨b, off, hA2, hb, hcs⟩ := hcell (by omega)
      obtain rfl : a = ⟨b, off, none⟩ := by
        rw [← hA] at hA2
        exact Option.some.inj hA2
      refine Any.strings_Join Tryd.lays156 builder_extra b off c l sep w (fun j x hj => hcs j (.string x) ?_) hb (by omega) hc (by simpa [joinB, ByteArray.size] using hlen)
      obtain ⟨hjl, hx⟩ := List.getElem?_eq_some_iff.1 hj
      have := flat_get strCell 1 strCell_len l j 0 hjl (by omega)
      rw [Nat.mul_one, Nat.add_zero] at this
      rw [this, hx]
      rfl
/-- The text of a firing. -/
def partT (f : Firing) : ByteArray := (decB f.event ++ ⟨#[64]⟩) ++ decB f.time
def okT (f : Firing) : Bool := inB f.event 0 1000000 && inB f.time 0 1000000
def runTextF (l : List Firing) : ByteArray := if l.length ≤ 500 ∧ l.all okT = true then joinB (l.map partT) ⟨#[32]⟩ else ⟨#[]⟩
theorem decB_sizeI {n : Int} (h0 : 0 ≤ n) (h1 : n ≤ 1000000) : (decB n).size ≤ 1000001 := by
  obtain ⟨m, rfl⟩ := Int.eq_ofNat_of_zero_le h0
  have := decB_size m
  omega
theorem okT_in {f : Firing} (h : okT f = true) : (0 ≤ f.event ∧ f.event ≤ 1000000) ∧ 0 ≤ f.time ∧ f.time ≤ 1000000 := by
  simpa [okT, inB] using h
theorem partT_size {f : Firing} (h : okT f = true) : (partT f).size ≤ 2000003 := by
  obtain ⟨⟨h1, h2⟩, h3, h4⟩ := okT_in h
  have := decB_sizeI h1 h2
  have := decB_sizeI h3 h4
  have e : (partT f).size = (decB f.event).size + 1 + (decB f.time).size := by simp [partT, ByteArray.size_append]; rfl
  omega
theorem bsz (b : ByteArray) : b.size = b.data.toList.length := by rw [Array.length_toList]; rfl
theorem joinTail_len (sep : List UInt8) (N : Nat) (hs : sep.length = 1) : ∀ (r : List (List UInt8)), (∀ x ∈ r, x.length ≤ N) → (Lib.joinTail sep r).length ≤ r.length * (N + 1)
  | [], _ => by simp [Lib.joinTail]
  | x :: r, h => by
    have ih := joinTail_len sep N hs r (fun y hy => h y (by simp [hy]))
    have hx := h x (by simp)
    simp only [Lib.joinTail, List.map_cons, List.flatten_cons, List.length_append, hs, List.length_cons] at ih ⊢
    rw [Nat.add_mul]
    omega
theorem join_size {l : List ByteArray} {sep : ByteArray} {N : Nat} (hs : sep.size = 1) (h : ∀ x ∈ l, x.size ≤ N) : (joinB l sep).size ≤ l.length * (N + 1) := by
  cases l with
  | nil => exact Nat.zero_le _
  | cons a l =>
    have h1 : ∀ x ∈ l.map (·.data.toList), x.length ≤ N := by
      intro x hx
      obtain ⟨y, hy, rfl⟩ := List.mem_map.1 hx
      have := h y (by simp [hy])
      rwa [bsz] at this
    have h2 := joinTail_len sep.data.toList N (by rw [← bsz]; exact hs) (l.map (·.data.toList)) h1
    have h3 : a.data.toList.length ≤ N := by have := h a (by simp); rwa [bsz] at this
    have e : (joinB (a :: l) sep).size = (a.data.toList ++ Lib.joinTail sep.data.toList (l.map (·.data.toList))).length := by
      rw [bsz]
      simp only [joinB, List.map_cons, Lib.join_cons]
    rw [e, List.length_append, List.length_cons]
    rw [List.length_map] at h2
    rw [Nat.add_mul]
    omega
set_option maxHeartbeats 8000000 in
set_option maxRecDepth 100000 in
theorem impl_RunText (v : Value) (l : List Firing) (w : World) (h0 : Lst Firing.cells 3 w w.heap.size v l) (hT : TabOf w) :
    Calls Tryd.prog 22 #[v] w fun e w' => e = .returned (.string (runTextF l)) ∧ Below w.heap.size w w' := by
  obtain ⟨A, c, rfl⟩ := h0.shape
  by_cases h5 : l.length ≤ 500
  · have i5 : ¬ (500 : Int) < (l.length : Int) := by omega
    have hmk := run_make_lst (P := Tryd.prog) strCell 1 strCell_len (by omega) ByteArray.empty 28 9 _ 16 Tryd.underlying28 info_str rfl .i64 .i64 l.length (by omega) (by omega)
    have hm1 := fun w => (hmk w).1
    have hm2 := Lib.hid ((hmk w).2 w.heap.size (Nat.le_refl _))
    clear hmk
    go_enter Tryd.func22, Tryd.ntmps22
    go_wp2
    clear hm1
    go_loopw [4, 5, 14] (fun _ _ i wr => ∃ k : Nat, k ≤ l.length ∧ i = .int .i64 k ∧ Hid (∀ x ∈ l.take k, okT x = true) ∧ Own strCell 1 9 wr w.heap.size (.slice (some ⟨w.heap.size, 0, none⟩) l.length l.length) ((l.take k).map partT ++ List.replicate (l.length - k) ByteArray.empty) ∧ Below w.heap.size w wr) (fun _ _ i _ => l.length - (intOf i).toNat)
    case atStart => exact ⟨0, Nat.zero_le _, rfl, fun x hx => absurd hx (by simp), by simpa using hm2.out, (Below.refl _ _).alloc (Nat.le_refl _) _⟩
    case round =>
      clear hm2
      obtain ⟨k, hk, rfl, hN, hO, hB⟩ := hrel
      by_cases hlt : k < l.length
      · obtain ⟨b, off, rfl, hb, c0, c1, c2⟩ := firings_at h0 k hlt
        have hfm : l[k] ∈ l := List.getElem_mem _
        have htk : Hid (l.take (k + 1) = l.take k ++ [l[k]]) := by
          show _ = _
          rw [List.take_add_one, List.getElem?_eq_getElem hlt]
          rfl
        obtain ⟨f, hf⟩ : ∃ f, l[k] = f := ⟨_, rfl⟩
        rw [hf] at c0 c1 c2 hfm htk
        obtain ⟨hc, -⟩ := bcell hB
        replace c0 := (hc b _ hb).trans c0
        replace c1 := (hc b _ hb).trans c1
        replace c2 := (hc b _ hb).trans c2
        have hbad : Hid (okT f = false → runTextF l = ⟨#[]⟩) := by
          intro h
          refine if_neg (fun hh => ?_)
          have := List.all_eq_true.1 hh.2 f hfm
          rw [h] at this
          cases this
        have hfmH := Lib.hid hfm
        have hsw : b < wr.heap.size := Nat.lt_of_lt_of_le hb hB.size
        clear hc hf hfm
        obtain ⟨b1, hb1⟩ : ∃ b1, inB f.event 0 1000000 = b1 := ⟨_, rfl⟩
        obtain ⟨b2, hb2⟩ : ∃ b2, inB f.time 0 1000000 = b2 := ⟨_, rfl⟩
        have hb1H := Lib.hid hb1
        have hb2H := Lib.hid hb2
        clear hb1 hb2
        cases b1 with
        | false =>
          go_wp2_with (go_at_call 58; refine (impl_within _ _ _ _).mono ?_; rintro e w9 ⟨rfl, rfl⟩; rw [hb1H.out])
          go_ret
          exact ⟨by rw [hbad.out (by simp [okT, hb1H.out])]; rfl, hB.alloc hB.size _⟩
        | true =>
          cases b2 with
          | false =>
            go_wp2_with (go_at_call 58; refine (impl_within _ _ _ _).mono ?_; rintro e w9 ⟨rfl, rfl⟩; (first | rw [hb1H.out] | rw [hb2H.out]))
            go_ret
            exact ⟨by rw [hbad.out (by simp [okT, hb2H.out])]; rfl, hB.alloc hB.size _⟩
          | true =>
            go_wp2_with (go_at_call 58; refine (impl_within _ _ _ _).mono ?_; rintro e w9 ⟨rfl, rfl⟩; (first | rw [hb1H.out] | rw [hb2H.out]))
            have hok : okT f = true := by simp [okT, hb1H.out, hb2H.out]
            obtain ⟨⟨v1, v2⟩, v3, v4⟩ := okT_in hok
            have hokH := Lib.hid hok
            have hA : Below wr.heap.size wr (wr.alloc (.cells #[.int .i64 f.event, .int .i64 f.number, .int .i64 f.time] 87)) := (Below.refl _ _).alloc (Nat.le_refl _) _
            have hbx : Blk (wr.alloc (.cells #[.int .i64 f.event, .int .i64 f.number, .int .i64 f.time] 87)) wr.heap.size 87 #[.int .i64 f.event, .int .i64 f.number, .int .i64 f.time] := Blk.new wr _ _
            replace hO := hO.now hA
            replace hB := hB.trans (hA.mono hB.size)
            have hTq := hT.now hB
            clear c0 c1 c2 hA hbad hb1H hb2H hok
            generalize (wr.alloc (.cells #[.int .i64 f.event, .int .i64 f.number, .int .i64 f.time] 87)) = wq at *
            generalize wr.heap.size = pb at *
            obtain ⟨x0, -, x2⟩ := hbx.c3
            have hs1 := decB_sizeI v1 v2
            have hs2 := decB_sizeI v3 v4
            have z1 : ¬ 9223372036854775807 < (decB f.event).size + 1 := by omega
            have z2 : ¬ 9223372036854775807 < (decB f.event).size + 1 + (decB f.time).size := by omega
            have hkl : k < ((l.take k).map partT ++ List.replicate (l.length - k) ByteArray.empty).length := by simp; omega
            have i1 : (0 : Int) ≤ (k : Int) := by omega
            have i2 : (k : Int) < (l.length : Int) := by omega
            have hBd : Below wq.heap.size wq wq.drew := Below.drew (Below.refl _ wq)
            have hTd : TabOf wq.drew := hTq.now hBd
            replace hO := hO.now hBd
            replace hB := hB.trans (hBd.mono hB.size)
            refine wp_region_E (fun w' => w'.cell? ⟨pb, 0, none⟩ = some (.int .i64 f.event) ∧ w'.cell? ⟨pb, 2, none⟩ = some (.int .i64 f.time)) 11 (by kernel_rfl) ?_
            have hS0 : (fun w' : World => w'.cell? ⟨pb, 0, none⟩ = some (.int .i64 f.event) ∧ w'.cell? ⟨pb, 2, none⟩ = some (.int .i64 f.time)) wq.drew := ⟨x0, x2⟩
            refine wpAnyE_take (i := 0) (v := ?_) rfl (by kernel_rfl) (by kernel_rfl) (by kernel_rfl) (by kernel_rfl) (by kernel_rfl) (fun _ _ _ h => h) hS0 (by rfl) ?_ ?_
            rotate_left
            · intro w9 hSw
              try dsimp only at hSw
              obtain ⟨s0, s1⟩ := hSw
              go_simp
              try with_reducible rfl
            try simp only [Act.put, List.setIfInBounds_toArray, List.set_cons_zero, List.set_cons_succ]
            refine wpAnyE_take (i := 1) (v := ?_) rfl (by kernel_rfl) (by kernel_rfl) (by kernel_rfl) (by kernel_rfl) (by kernel_rfl) (fun _ _ _ h => h) hS0 (by rfl) ?_ ?_
            rotate_left
            · intro w9 hSw
              try dsimp only at hSw
              obtain ⟨s0, s1⟩ := hSw
              go_simp
              try with_reducible rfl
            try simp only [Act.put, List.setIfInBounds_toArray, List.set_cons_zero, List.set_cons_succ]
            refine wpAnyE_take (i := 2) (v := ?_) rfl (by kernel_rfl) (by kernel_rfl) (by kernel_rfl) (by kernel_rfl) (by kernel_rfl) (fun _ _ _ h => h) hS0 (by rfl) ?_ ?_
            rotate_left
            · intro w9 hSw
              try dsimp only at hSw
              obtain ⟨s0, s1⟩ := hSw
              go_simp
              try with_reducible rfl
            try simp only [Act.put, List.setIfInBounds_toArray, List.set_cons_zero, List.set_cons_succ]
            refine wpAnyE_take (i := 3) (v := ?_) rfl (by kernel_rfl) (by kernel_rfl) (by kernel_rfl) (by kernel_rfl) (by kernel_rfl) (fun _ _ _ h => h) hS0 (by rfl) ?_ ?_
            rotate_left
            · intro w9 hSw
              try dsimp only at hSw
              obtain ⟨s0, s1⟩ := hSw
              go_simp
              try with_reducible rfl
            try simp only [Act.put, List.setIfInBounds_toArray, List.set_cons_zero, List.set_cons_succ]
            refine wpAnyE_take (i := 6) (v := ?_) rfl (by kernel_rfl) (by kernel_rfl) (by kernel_rfl) (by kernel_rfl) (by kernel_rfl) (fun _ _ _ h => h) hS0 (by rfl) ?_ ?_
            rotate_left
            · intro w9 hSw
              try dsimp only at hSw
              obtain ⟨s0, s1⟩ := hSw
              go_simp
              try with_reducible rfl
            try simp only [Act.put, List.setIfInBounds_toArray, List.set_cons_zero, List.set_cons_succ]
            refine wpAnyE_take (i := 7) (v := ?_) rfl (by kernel_rfl) (by kernel_rfl) (by kernel_rfl) (by kernel_rfl) (by kernel_rfl) (fun _ _ _ h => h) hS0 (by rfl) ?_ ?_
            rotate_left
            · intro w9 hSw
              try dsimp only at hSw
              obtain ⟨s0, s1⟩ := hSw
              go_simp
              try with_reducible rfl
            try simp only [Act.put, List.setIfInBounds_toArray, List.set_cons_zero, List.set_cons_succ]
            refine wpAnyE_one (i := 4) rfl (by kernel_rfl) (fun K hK => ?_)
            go_simp
            go_at_call 63
            refine (impl_decimal f.event _ hTd (by omega) (by omega)).mono ?_
            rintro e9 wa ⟨rfl, hba⟩
            have y0 := cell_keep (w := wq.drew) x0 hba
            have y2 := cell_keep (w := wq.drew) x2 hba
            replace hTd := hTd.now hba
            replace hO := hO.now hba
            replace hB := hB.trans (hba.mono hB.size)
            refine hK.out _ _ (fun _ => ⟨y0, y2⟩) ?_
            clear hK K
            try simp only [Act.put, List.setIfInBounds_toArray, List.set_cons_zero, List.set_cons_succ]
            clear x0 x2
            have x0 := y0
            have x2 := y2
            clear y0 y2
            refine wpAnyE_take (i := 5) (v := ?_) rfl (by kernel_rfl) (by kernel_rfl) (by kernel_rfl) (by kernel_rfl) (by kernel_rfl) (fun _ _ _ h => h) ⟨x0, x2⟩ (by rfl) ?_ ?_
            rotate_left
            · intro w9 hSw
              try dsimp only at hSw
              obtain ⟨s0, s1⟩ := hSw
              go_simp
              try with_reducible rfl
            try simp only [Act.put, List.setIfInBounds_toArray, List.set_cons_zero, List.set_cons_succ]
            refine wpAnyE_one (i := 8) rfl (by kernel_rfl) (fun K hK => ?_)
            go_simp
            go_at_call 63
            refine (impl_decimal f.time _ hTd (by omega) (by omega)).mono ?_
            rintro e9 wb ⟨rfl, hbb⟩
            have y0 := cell_keep (w := wa) x0 hbb
            have y2 := cell_keep (w := wa) x2 hbb
            replace hTd := hTd.now hbb
            replace hO := hO.now hbb
            replace hB := hB.trans (hbb.mono hB.size)
            refine hK.out _ _ (fun _ => ⟨y0, y2⟩) ?_
            clear hK K
            try simp only [Act.put, List.setIfInBounds_toArray, List.set_cons_zero, List.set_cons_succ]
            clear x0 x2
            have x0 := y0
            have x2 := y2
            clear y0 y2
            refine wpAnyE_take (i := 9) (v := ?_) rfl (by kernel_rfl) (by kernel_rfl) (by kernel_rfl) (by kernel_rfl) (by kernel_rfl) (fun _ _ _ h => h) ⟨x0, x2⟩ (by rfl) ?_ ?_
            rotate_left
            · intro w9 hSw
              try dsimp only at hSw
              obtain ⟨s0, s1⟩ := hSw
              go_simp
              try with_reducible rfl
            try simp only [Act.put, List.setIfInBounds_toArray, List.set_cons_zero, List.set_cons_succ]
            obtain ⟨-, lg, hfz, ck⟩ := own_strs_at hO k hkl
            have fk := hfz k
            clear hfz
            refine wpAnyE_one (i := 10) rfl (by kernel_rfl) (fun K hK => ?_)
            go_simp
            refine hK.out _ _ (fun _ => ⟨x0, x2⟩) ?_
            clear hK K
            try simp only [Act.put, List.setIfInBounds_toArray, List.set_cons_zero, List.set_cons_succ]
            refine wpAnyE_one (i := 11) rfl (by kernel_rfl) (fun K hK => ?_)
            go_simp
            refine hK.out _ _ (fun h => absurd rfl h) ?_
            clear hK K
            try simp only [Act.put, List.setIfInBounds_toArray, List.set_cons_zero, List.set_cons_succ]
            refine wpAnyE_done (by kernel_rfl) ?_
            have hset := hO.setS k hkl (partT f)
            have hfin : Hid (((l.take k).map partT ++ List.replicate (l.length - k) ByteArray.empty).set k (partT f) = (l.take (k + 1)).map partT ++ List.replicate (l.length - (k + 1)) ByteArray.empty) := by
              show _ = _
              have e1 : ((l.take k).map partT).length = k := by simp; omega
              have e2 : l.length - k = (l.length - (k + 1)) + 1 := by omega
              rw [List.set_append_right _ _ (by omega), e1, Nat.sub_self, e2, List.replicate_succ, List.set_cons_zero, htk.out, List.map_append]
              simp
            rw [hfin.out] at hset
            have hset := Lib.hid hset
            have hBs := Lib.hid (hB.setCell (p := ⟨w.heap.size, k, none⟩) (Nat.le_refl _) (.string (partT f)))
            have hN2 : Hid (∀ x ∈ l.take (k + 1), okT x = true) := by
              intro x hx
              rw [htk.out] at hx
              rcases List.mem_append.1 hx with hx | hx
              · exact hN.out x hx
              · rw [List.mem_singleton.1 hx]
                exact hokH.out
            clear hO hB hN hS0
            go_wp2
            go_roundw
            case rel => exact ⟨k + 1, hlt, by go_num, hN2, hset.out, hBs.out⟩
            case measure => simp [intOf]; omega
      · obtain rfl : k = l.length := by omega
        have hall : l.all okT = true := by
          rw [List.all_eq_true]
          intro x hx
          exact hN.out x (by rw [List.take_length]; exact hx)
        have hE : Hid (runTextF l = joinB (l.map partT) ⟨#[32]⟩) := if_pos ⟨h5, hall⟩
        have hO2 : Own strCell 1 9 wr w.heap.size (.slice (some ⟨w.heap.size, 0, none⟩) (l.map partT).length l.length) (l.map partT) := by
          have := hO
          rw [List.take_length, Nat.sub_self, List.replicate_zero, List.append_nil] at this
          rw [List.length_map]
          exact this
        have hsz : (joinB (l.map partT) ⟨#[32]⟩).size ≤ 140737488355328 := by
          have h1 := join_size (l := l.map partT) (sep := ⟨#[32]⟩) (N := 2000003) rfl (fun x hx => by
            obtain ⟨y, hy, rfl⟩ := List.mem_map.1 hx
            exact partT_size (List.all_eq_true.1 hall y hy))
          rw [List.length_map] at h1
          omega
        have hJ := strings_Join _ (l.map partT) ⟨#[32]⟩ wr hO2.lst (by rw [List.length_map]; omega) hsz
        rw [List.length_map] at hJ
        clear hN hall hO hO2 hsz
        go_wp2_with fail
        refine hJ.mono ?_
        rintro e w1 ⟨rfl, hB1⟩
        go_wp2
        go_ret
        exact ⟨by rw [hE.out]; rfl, hB.trans (hB1.mono hB.size)⟩
  · have hE : Hid (runTextF l = ⟨#[]⟩) := if_neg (fun h => h5 h.1)
    have i5 : (500 : Int) < (l.length : Int) := by omega
    rw [hE.out]
    go_enter Tryd.func22, Tryd.ntmps22
    go_wp2
    go_ret
    exact ⟨rfl, Below.refl _ _⟩
end Go.Proofs.YtlppfcamlggcnaaDoor
