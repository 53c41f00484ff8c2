/-
  The line language. Plain Lean.
-/
import Derived.Test.YtcoomogabicfnaaGreatDoorTxtN
import Derived.Test.YtcoomogabicfnaaGreatDoorGraph
import Derived.Test.YtcoomogabicfnaaGreatDoorName
namespace Go.Proofs.YtcoomogabicfnaaGreatDoor
open Go.RowKit
set_option linter.unusedVariables false
set_option linter.unusedSimpArgs false
/-! The line language. -/
theorem okGraph_mk {ge : Int} {gp : List Place} (h1 : 1 ≤ ge ∧ ge ≤ 10) (h2 : gp.length ≤ 30) (h3 : ∀ p ∈ gp, (0 ≤ p.src ∧ p.src < ge) ∧ (0 ≤ p.dst ∧ p.dst < ge) ∧ (0 ≤ p.delay ∧ p.delay ≤ 1000) ∧ (0 ≤ p.tokens ∧ p.tokens ≤ 5)) : okGraph ge gp = true := by
  have hw : wrap64 (ge - 1) = ge - 1 := IntWalk.wrap64_in _ (by omega)
  simp only [okGraph, Bool.and_eq_true, decide_eq_true_eq, List.all_eq_true]
  refine ⟨⟨by simp [inB]; omega, h2⟩, fun p hp => ?_⟩
  have := h3 p hp
  simp only [okPlace, hw, inB, Bool.and_eq_true, decide_eq_true_eq]
  omega
def wStation : ByteArray := ⟨#[115, 116, 97, 116, 105, 111, 110]⟩
def wMove : ByteArray := ⟨#[109, 111, 118, 101]⟩
def wCart : ByteArray := ⟨#[99, 97, 114, 116]⟩
def wBuffer : ByteArray := ⟨#[98, 117, 102, 102, 101, 114]⟩
/-- How many names and numbers a kind of line has. -/
def formF (w : ByteArray) : Option (Nat × Nat) :=
  if w = wStation then some (1, 2) else if w = wMove then some (2, 1) else if w = wCart then some (2, 2) else if w = wBuffer then some (2, 1) else none
/-- All numbers, if all are numbers. -/
def digsF : List ByteArray → Option (List Int)
  | [] => some []
  | s :: r => match digF s with
    | none => none
    | some v => (digsF r).map fun l => v :: l
/-- A line's names and numbers. -/
def wordsF (ws : List ByteArray) : Option (List ByteArray × List Int) :=
  match formF (ws.headD ⟨#[]⟩) with
  | none => none
  | some (m, n) => if ws.length = 1 + m + n ∧ ((ws.drop 1).take m).all nameOk = true then (digsF (ws.drop (1 + m))).map fun l => ((ws.drop 1).take m, l) else none
/-- The place of a line that is no station. -/
def placeF (w : ByteArray) (a b d t : Int) : Place := if w = wMove then ⟨a, b, d, t⟩ else ⟨b, a, d, t⟩
def delayF (w : ByteArray) (xs : List Int) : Int := if w = wBuffer then 0 else xs.headD 0
def tokF (w : ByteArray) (xs : List Int) : Int := if w = wMove then 0 else xs.getLastD 0
/-- A line read behind others: its code, the names, the places. -/
def stepF (N : List ByteArray) (G : List Place) (w : ByteArray) (ns : List ByteArray) (d t : Int) : Int × List ByteArray × List Place :=
  if 1000 < d ∨ 5 < t then (2, N, G)
  else if w = wStation then
    if 0 ≤ findStr N (ns.getD 0 ⟨#[]⟩) then (5, N, G)
    else if N.length = 10 ∨ G.length = 30 then (3, N, G)
    else (0, N ++ [ns.getD 0 ⟨#[]⟩], G ++ [⟨N.length, N.length, d, t⟩])
  else if findStr N (ns.getD 0 ⟨#[]⟩) < 0 ∨ findStr N (ns.getD 1 ⟨#[]⟩) < 0 then (4, N, G)
  else if G.length = 30 then (3, N, G)
  else (0, N, G ++ [placeF w (findStr N (ns.getD 0 ⟨#[]⟩)) (findStr N (ns.getD 1 ⟨#[]⟩)) d t])
def lineF (N : List ByteArray) (G : List Place) (s : ByteArray) : Int × List ByteArray × List Place :=
  match wordsF (splitF 32 s) with
  | none => (6, N, G)
  | some (ns, xs) => stepF N G ((splitF 32 s).headD ⟨#[]⟩) ns (delayF ((splitF 32 s).headD ⟨#[]⟩) xs) (tokF ((splitF 32 s).headD ⟨#[]⟩) xs)
/-- What a text is compiled to: names, places, line, code. -/
structure Comp where
  ev : Int
  pl : List Place
  nm : List ByteArray
  ln : Int
  cd : Int
def linesF (N : List ByteArray) (G : List Place) (i : Nat) : List ByteArray → Comp
  | [] => if N = [] then ⟨0, [], [], 0, 6⟩ else ⟨N.length, G, N, 0, 0⟩
  | s :: r => if (lineF N G s).1 = 0 then linesF (lineF N G s).2.1 (lineF N G s).2.2 (i + 1) r else ⟨0, [], [], (i : Int) + 1, (lineF N G s).1⟩
def compF (s : ByteArray) : Comp :=
  if 2000 < s.size then ⟨0, [], [], 0, 3⟩
  else if (splitF 10 s).getLastD ⟨#[]⟩ ≠ ⟨#[]⟩ then ⟨0, [], [], 0, 6⟩
  else linesF [] [] 0 (splitF 10 s).dropLast
/-- What is kept from line to line. -/
structure LineOk (N : List ByteArray) (G : List Place) : Prop where
  few : N.length ≤ 10
  fewG : G.length ≤ 30
  nd : N.Nodup
  names : ∀ s ∈ N, nameOk s = true
  ok : ∀ p ∈ G, (0 ≤ p.src ∧ p.src < N.length) ∧ (0 ≤ p.dst ∧ p.dst < N.length) ∧ (0 ≤ p.delay ∧ p.delay ≤ 1000) ∧ (0 ≤ p.tokens ∧ p.tokens ≤ 5)
theorem findStr_range (l : List ByteArray) (s : ByteArray) : -1 ≤ findStr l s ∧ findStr l s < l.length := by
  unfold findStr
  cases h : l.findIdx? (fun x => x = s) with
  | none => simp; omega
  | some i =>
    have := (List.findIdx?_eq_some_iff_getElem.1 h).1
    simp
    omega
theorem findStr_neg {l : List ByteArray} {s : ByteArray} (h : findStr l s < 0) : s ∉ l := by
  intro hm
  unfold findStr at h
  cases hi : l.findIdx? (fun x => x = s) with
  | none =>
    have := List.findIdx?_eq_none_iff.1 hi s hm
    simp at this
  | some i =>
    rw [hi] at h
    simp at h
    omega
theorem digsF_mem : ∀ {l : List ByteArray} {m : List Int}, digsF l = some m → m.length = l.length ∧ ∀ x ∈ m, 0 ≤ x ∧ x ≤ 9999999999
  | [], m, h => by simp [digsF] at h; subst h; simp
  | s :: r, m, h => by
    simp only [digsF] at h
    split at h
    · cases h
    · rename_i v hv
      obtain ⟨k, hk, rfl⟩ := Option.map_eq_some_iff.1 h
      obtain ⟨h1, h2⟩ := digsF_mem hk
      refine ⟨by simp [h1], ?_⟩
      intro x hx
      rcases List.mem_cons.1 hx with rfl | hx
      · exact digF_lt hv
      · exact h2 x hx
theorem wordsF_some {ws ns : List ByteArray} {xs : List Int} (h : wordsF ws = some (ns, xs)) : ∃ m n, formF (ws.headD ⟨#[]⟩) = some (m, n) ∧ ws.length = 1 + m + n ∧ ns = (ws.drop 1).take m ∧ (∀ s ∈ ns, nameOk s = true) ∧ ns.length = m ∧ xs.length = n ∧ digsF (ws.drop (1 + m)) = some xs ∧ ∀ x ∈ xs, 0 ≤ x ∧ x ≤ 9999999999 := by
  unfold wordsF at h
  split at h
  · cases h
  · rename_i m n hf
    split at h
    · rename_i hc
      obtain ⟨k, hk, he⟩ := Option.map_eq_some_iff.1 h
      injection he with h1 h2
      subst h1 h2
      obtain ⟨h3, h4⟩ := digsF_mem hk
      refine ⟨m, n, hf, hc.1, rfl, List.all_eq_true.1 hc.2, ?_, ?_, hk, h4⟩
      · simp; omega
      · rw [h3]; simp; omega
    · cases h
theorem formF_cases {w : ByteArray} {m n : Nat} (h : formF w = some (m, n)) : (w = wStation ∧ m = 1 ∧ n = 2) ∨ (w = wMove ∧ m = 2 ∧ n = 1) ∨ (w = wCart ∧ m = 2 ∧ n = 2) ∨ (w = wBuffer ∧ m = 2 ∧ n = 1) := by
  unfold formF at h
  split at h
  · injection h with h; injection h with h1 h2; exact Or.inl ⟨by assumption, h1.symm, h2.symm⟩
  · split at h
    · injection h with h; injection h with h1 h2; exact Or.inr (Or.inl ⟨by assumption, h1.symm, h2.symm⟩)
    · split at h
      · injection h with h; injection h with h1 h2; exact Or.inr (Or.inr (Or.inl ⟨by assumption, h1.symm, h2.symm⟩))
      · split at h
        · injection h with h; injection h with h1 h2; exact Or.inr (Or.inr (Or.inr ⟨by assumption, h1.symm, h2.symm⟩))
        · cases h
theorem headD_mem {l : List Int} (h : 0 < l.length) : l.headD 0 ∈ l := by
  cases l with
  | nil => simp at h
  | cons a l => simp
theorem getLastD_mem {l : List Int} (h : 0 < l.length) : l.getLastD 0 ∈ l := by
  cases l with
  | nil => simp at h
  | cons a l => rw [List.getLastD_cons]; exact List.getLastD_mem_cons
theorem delayF_range {w : ByteArray} {xs : List Int} (h0 : 0 < xs.length) (h : ∀ x ∈ xs, 0 ≤ x ∧ x ≤ 9999999999) : 0 ≤ delayF w xs ∧ delayF w xs ≤ 9999999999 := by
  unfold delayF
  split
  · omega
  · exact h _ (headD_mem h0)
theorem tokF_range {w : ByteArray} {xs : List Int} (h0 : 0 < xs.length) (h : ∀ x ∈ xs, 0 ≤ x ∧ x ≤ 9999999999) : 0 ≤ tokF w xs ∧ tokF w xs ≤ 9999999999 := by
  unfold tokF
  split
  · omega
  · exact h _ (getLastD_mem h0)
theorem stepF_ok {N : List ByteArray} {G : List Place} (h : LineOk N G) {w : ByteArray} {ns : List ByteArray} {d t : Int} (hn : nameOk (ns.getD 0 ⟨#[]⟩) = true) (hd : 0 ≤ d) (ht : 0 ≤ t) (h0 : (stepF N G w ns d t).1 = 0) : LineOk (stepF N G w ns d t).2.1 (stepF N G w ns d t).2.2 := by
  unfold stepF at h0 ⊢
  by_cases h1 : 1000 < d ∨ 5 < t
  · rw [if_pos h1] at h0; cases h0
  rw [if_neg h1] at h0 ⊢
  have hd2 : d ≤ 1000 := by omega
  have ht2 : t ≤ 5 := by omega
  by_cases h2 : w = wStation
  · rw [if_pos h2] at h0 ⊢
    by_cases h3 : 0 ≤ findStr N (ns.getD 0 ⟨#[]⟩)
    · rw [if_pos h3] at h0; cases h0
    rw [if_neg h3] at h0 ⊢
    by_cases h4 : N.length = 10 ∨ G.length = 30
    · rw [if_pos h4] at h0; cases h0
    rw [if_neg h4]
    have hf := h.few
    have hg := h.fewG
    have hnot := findStr_neg (l := N) (s := ns.getD 0 ⟨#[]⟩) (by omega)
    refine ⟨by simp; omega, by simp; omega, ?_, ?_, ?_⟩
    · rw [List.nodup_append]
      refine ⟨h.nd, by simp, ?_⟩
      intro a ha b hb
      rw [List.mem_singleton.1 hb]
      exact fun e => hnot (e ▸ ha)
    · intro s hs
      rcases List.mem_append.1 hs with hs | hs
      · exact h.names s hs
      · rw [List.mem_singleton.1 hs]; exact hn
    · intro p hp
      rw [List.length_append, List.length_singleton]
      rcases List.mem_append.1 hp with hp | hp
      · have := h.ok p hp
        omega
      · rw [List.mem_singleton.1 hp]
        refine ⟨?_, ?_, ?_, ?_⟩ <;> simp only <;> omega
  · rw [if_neg h2] at h0 ⊢
    by_cases h3 : findStr N (ns.getD 0 ⟨#[]⟩) < 0 ∨ findStr N (ns.getD 1 ⟨#[]⟩) < 0
    · rw [if_pos h3] at h0; cases h0
    rw [if_neg h3] at h0 ⊢
    by_cases h4 : G.length = 30
    · rw [if_pos h4] at h0; cases h0
    rw [if_neg h4]
    have hg := h.fewG
    have r1 := findStr_range N (ns.getD 0 ⟨#[]⟩)
    have r2 := findStr_range N (ns.getD 1 ⟨#[]⟩)
    refine ⟨h.few, by simp; omega, h.nd, h.names, ?_⟩
    intro p hp
    rcases List.mem_append.1 hp with hp | hp
    · exact h.ok p hp
    · rw [List.mem_singleton.1 hp]
      unfold placeF
      split
      · refine ⟨?_, ?_, ?_, ?_⟩ <;> simp only <;> omega
      · refine ⟨?_, ?_, ?_, ?_⟩ <;> simp only <;> omega
theorem lineF_ok {N : List ByteArray} {G : List Place} (h : LineOk N G) {s : ByteArray} (h0 : (lineF N G s).1 = 0) : LineOk (lineF N G s).2.1 (lineF N G s).2.2 := by
  unfold lineF at h0 ⊢
  cases hw : wordsF (splitF 32 s) with
  | none => rw [hw] at h0; cases h0
  | some q =>
    obtain ⟨ns, xs⟩ := q
    rw [hw] at h0
    simp only at h0 ⊢
    obtain ⟨m, n, hf, hl, hns, hnm, hnl, hxl, hdg, hx⟩ := wordsF_some hw
    have hm : 1 ≤ m ∧ 1 ≤ n := by
      rcases formF_cases hf with ⟨_, a, b⟩ | ⟨_, a, b⟩ | ⟨_, a, b⟩ | ⟨_, a, b⟩ <;> omega
    refine stepF_ok h ?_ (delayF_range (by omega) hx).1 (tokF_range (by omega) hx).1 h0
    apply hnm
    rw [List.getD_eq_getElem?_getD, List.getElem?_eq_getElem (by omega)]
    exact List.getElem_mem _
theorem linesF_ok : ∀ (r : List ByteArray) (N : List ByteArray) (G : List Place) (i : Nat), LineOk N G → (linesF N G i r).cd = 0 → (linesF N G i r).ln = 0 ∧ (linesF N G i r).ev = (linesF N G i r).nm.length ∧ LineOk (linesF N G i r).nm (linesF N G i r).pl ∧ (linesF N G i r).nm ≠ []
  | [], N, G, i, h, h0 => by
    unfold linesF at h0 ⊢
    split
    · rename_i hN
      rw [if_pos hN] at h0
      cases h0
    · exact ⟨rfl, rfl, h, by assumption⟩
  | s :: r, N, G, i, h, h0 => by
    unfold linesF at h0 ⊢
    split
    · rename_i hl
      rw [if_pos hl] at h0
      exact linesF_ok r _ _ _ (lineF_ok h hl) h0
    · rename_i hl
      rw [if_neg hl] at h0
      exact absurd h0 hl
/-- A compiled text: a graph with one different name for each event. -/
theorem compF_ok {s : ByteArray} (h : (compF s).cd = 0) : (compF s).ln = 0 ∧ (compF s).ev = (compF s).nm.length ∧ okGraph (compF s).ev (compF s).pl = true ∧ (compF s).nm.Nodup ∧ ∀ x ∈ (compF s).nm, nameOk x = true := by
  unfold compF at h ⊢
  split
  · rename_i h1
    rw [if_pos h1] at h
    cases h
  · rename_i h1
    rw [if_neg h1] at h
    split
    · rename_i h2
      rw [if_pos h2] at h
      cases h
    · rename_i h2
      rw [if_neg h2] at h
      obtain ⟨a, b, c, d⟩ := linesF_ok _ _ _ _ ⟨by simp, by simp, by simp, by simp, by simp⟩ h
      have hpos : 0 < (linesF [] [] 0 (splitF 10 s).dropLast).nm.length := List.length_pos_iff.2 d
      have hf := c.few
      exact ⟨a, b, okGraph_mk (by omega) c.fewG (by rw [b]; exact c.ok), c.nd, c.names⟩

/-! Printed graphs. -/
/-- The first place from an event to itself. -/
def selfP (e : Nat) (p : Place) : Bool := decide (p.src = (e : Int)) && decide (p.dst = (e : Int))
def loopF (gp : List Place) (e : Nat) : Int := idxP (selfP e) gp
def loopsF (gp : List Place) (n : Nat) : List Int := (List.range n).map (loopF gp)
/-- The words of a line, and the line. -/
def statW (nm : ByteArray) (p : Place) : List ByteArray := [wStation, nm, decB p.delay, decB p.tokens]
def nmAt (N : List ByteArray) (i : Int) : ByteArray := N.getD i.toNat ⟨#[]⟩
def restW (N : List ByteArray) (p : Place) : List ByteArray :=
  if p.tokens = 0 then [wMove, nmAt N p.src, nmAt N p.dst, decB p.delay] else [wCart, nmAt N p.dst, nmAt N p.src, decB p.delay, decB p.tokens]
def lineT (ws : List ByteArray) : ByteArray := joinB ws ⟨#[32]⟩ ++ ⟨#[10]⟩
def catB (l : List ByteArray) : ByteArray := l.foldl (· ++ ·) ⟨#[]⟩
/-- All lines' words. -/
def pAt (gp : List Place) (i : Int) : Place := gp.getD i.toNat ⟨0, 0, 0, 0⟩
def statsF (gp : List Place) (N : List ByteArray) (n : Nat) : List (List ByteArray) := (List.range n).map fun e => statW (N.getD e ⟨#[]⟩) (pAt gp (loopF gp e))
def othersF (gp : List Place) (used : List Int) (k : Nat) : List Place := ((List.range k).filter fun i : Nat => !(used.contains (i : Int))).map fun i => gp.getD i ⟨0, 0, 0, 0⟩
def restsF (gp : List Place) (N : List ByteArray) (used : List Int) (k : Nat) : List (List ByteArray) := (othersF gp used k).map (restW N)
def printT (gp : List Place) (N : List ByteArray) : ByteArray := catB ((statsF gp N N.length ++ restsF gp N (loopsF gp N.length) gp.length).map lineT)
def namesOk (ge : Int) (N : List ByteArray) : Bool := decide ((N.length : Int) = ge) && (N.all nameOk && decide N.Nodup)
def printF (ge : Int) (gp : List Place) (N : List ByteArray) : ByteArray × Int :=
  if okGraph ge gp = false then (⟨#[]⟩, 1)
  else if namesOk ge N = false then (⟨#[]⟩, 2)
  else if (loopsF gp N.length).all (fun i => decide (0 ≤ i)) = false then (⟨#[]⟩, 5)
  else if 2000 < (printT gp N).size then (⟨#[]⟩, 3)
  else (printT gp N, 0)
theorem catB_data (l : List ByteArray) : (catB l).data.toList = (l.map (·.data.toList)).flatten := by
  have : ∀ (l : List ByteArray) (a : ByteArray), (l.foldl (· ++ ·) a).data.toList = a.data.toList ++ (l.map (·.data.toList)).flatten := by
    intro l
    induction l with
    | nil => intro a; simp
    | cons x l ih => intro a; rw [List.foldl_cons, ih]; simp [ByteArray.data_append]
  unfold catB
  rw [this]
  rfl
theorem catB_snoc (l : List ByteArray) (x : ByteArray) : catB (l ++ [x]) = catB l ++ x := by simp [catB]
theorem lineT_data (ws : List ByteArray) : (lineT ws).data.toList = (joinB ws ⟨#[32]⟩).data.toList ++ [10] := by simp [lineT, ByteArray.data_append]
/-- Lines, cut again. -/
theorem cutAt_lines (c : UInt8) : ∀ (l : List (List UInt8)), (∀ x ∈ l, c ∉ x) → cutAt c (l.map (· ++ [c])).flatten = l ++ [[]]
  | [], _ => rfl
  | x :: l, h => by
    rw [List.map_cons, List.flatten_cons, List.append_assoc, List.singleton_append, cutAt_hit _ (h x (by simp)), cutAt_lines c l (fun y hy => h y (by simp [hy]))]
    rfl
theorem splitF_lines {W : List (List ByteArray)} (h : ∀ ws ∈ W, (10 : UInt8) ∉ (joinB ws ⟨#[32]⟩).data.toList) : splitF 10 (catB (W.map lineT)) = W.map (fun ws => joinB ws ⟨#[32]⟩) ++ [⟨#[]⟩] := by
  unfold splitF
  have e1 : (catB (W.map lineT)).data.toList = ((W.map (fun ws => (joinB ws ⟨#[32]⟩).data.toList)).map (· ++ [10])).flatten := by
    rw [catB_data, List.map_map, List.map_map]
    exact congrArg List.flatten (List.map_congr_left fun ws _ => lineT_data ws)
  rw [e1, cutAt_lines 10 _ (by
    intro x hx
    obtain ⟨ws, hw, rfl⟩ := List.mem_map.1 hx
    exact h ws hw), List.map_append, List.map_map]
  congr 1
theorem join_no {c : UInt8} (hc : c ≠ 32) {ws : List ByteArray} (h : ∀ x ∈ ws, c ∉ x.data.toList) : c ∉ (joinB ws ⟨#[32]⟩).data.toList := by
  cases ws with
  | nil => simp [joinB, Lib.join_nil]
  | cons x r =>
    simp only [joinB, List.map_cons, Lib.join_cons, List.toList_toArray, List.mem_append, not_or]
    refine ⟨h x (by simp), ?_⟩
    simp only [Lib.joinTail, List.map_map, List.mem_flatten, List.mem_map, not_exists, not_and]
    rintro l ⟨y, hy, rfl⟩
    simp only [Function.comp, List.mem_append, not_or]
    exact ⟨by simpa using hc, h y (by simp [hy])⟩
theorem lowB_no {s : ByteArray} (h : nameOk s = true) {c : UInt8} (hc : lowB c = false) : c ∉ s.data.toList := by
  intro hm
  unfold nameOk at h
  rw [Bool.and_eq_true] at h
  rw [List.all_eq_true.1 h.2 c hm] at hc
  cases hc
theorem dec_no (n : Int) {c : UInt8} (h : isDig c = false) (h2 : c ≠ 45) : c ∉ (decB n).data.toList := by rw [decB_data]; exact itoa_no h h2
theorem nmAt_ok {N : List ByteArray} (h : ∀ s ∈ N, nameOk s = true) {i : Int} (h0 : 0 ≤ i ∧ i < N.length) : nameOk (nmAt N i) = true ∧ nmAt N i ∈ N := by
  unfold nmAt
  rw [List.getD_eq_getElem?_getD, List.getElem?_eq_getElem (by omega)]
  exact ⟨h _ (List.getElem_mem _), List.getElem_mem _⟩
theorem findStr_at {N : List ByteArray} (h : N.Nodup) {k : Nat} (hk : k < N.length) : findStr N N[k] = k :=
  findStr_hit N _ k hk (fun j hj e => by
    have := (List.pairwise_iff_getElem.1 h) j k (by omega) hk hj
    exact this e) rfl
theorem findStr_nm {N : List ByteArray} (h : N.Nodup) {i : Int} (h0 : 0 ≤ i ∧ i < N.length) : findStr N (nmAt N i) = i := by
  unfold nmAt
  rw [List.getD_eq_getElem?_getD, List.getElem?_eq_getElem (show i.toNat < N.length by omega), Option.getD_some, findStr_at h]
  omega
theorem digF_dec {n : Int} (h0 : 0 ≤ n) (h1 : n ≤ 1000000) : digF (decB n) = some n := by
  refine (digF_iff _ _).2 ⟨?_, h0, ⟨by omega, by omega⟩, rfl⟩
  obtain ⟨u, rfl⟩ : ∃ u : Nat, n = (u : Int) := ⟨n.toNat, by omega⟩
  rw [bsize, decB_nat]
  exact nDig10 (by omega)
theorem words_stat {nm : ByteArray} {p : Place} (h : nameOk nm = true) (hd : 0 ≤ p.delay ∧ p.delay ≤ 1000) (ht : 0 ≤ p.tokens ∧ p.tokens ≤ 5) : wordsF (statW nm p) = some ([nm], [p.delay, p.tokens]) := by
  have e1 : digF (decB p.delay) = some p.delay := digF_dec hd.1 (by omega)
  have e2 : digF (decB p.tokens) = some p.tokens := digF_dec ht.1 (by omega)
  simp [wordsF, statW, formF, h, digsF, e1, e2]
theorem words_move {a b : ByteArray} {d : Int} (ha : nameOk a = true) (hb : nameOk b = true) (hd : 0 ≤ d ∧ d ≤ 1000) : wordsF [wMove, a, b, decB d] = some ([a, b], [d]) := by
  have e1 : digF (decB d) = some d := digF_dec hd.1 (by omega)
  have f : formF wMove = some (2, 1) := by decide
  simp [wordsF, f, ha, hb, digsF, e1]
theorem words_cart {a b : ByteArray} {d t : Int} (ha : nameOk a = true) (hb : nameOk b = true) (hd : 0 ≤ d ∧ d ≤ 1000) (ht : 0 ≤ t ∧ t ≤ 5) : wordsF [wCart, a, b, decB d, decB t] = some ([a, b], [d, t]) := by
  have e1 : digF (decB d) = some d := digF_dec hd.1 (by omega)
  have e2 : digF (decB t) = some t := digF_dec ht.1 (by omega)
  have f : formF wCart = some (2, 2) := by decide
  simp [wordsF, f, ha, hb, digsF, e1, e2]

theorem idxP_at {α : Type} {F : α → Bool} {l : List α} (h : 0 ≤ idxP F l) : ∃ i : Nat, idxP F l = (i : Int) ∧ ∃ hi : i < l.length, F l[i] = true := by
  unfold idxP at h ⊢
  cases hf : l.findIdx? F with
  | none => rw [hf] at h; simp at h
  | some i =>
    obtain ⟨h1, h2, _⟩ := List.findIdx?_eq_some_iff_getElem.1 hf
    exact ⟨i, rfl, h1, h2⟩
/-- The places that are printed first, and the others. -/
def firstsF (gp : List Place) (n : Nat) : List Place := (List.range n).map fun e => pAt gp (loopF gp e)
theorem first_at' {gp : List Place} {e : Nat} (h : 0 ≤ loopF gp e) : ∃ i : Nat, loopF gp e = i ∧ ∃ hi : i < gp.length, pAt gp (loopF gp e) = gp[i] ∧ gp[i].src = (e : Int) ∧ gp[i].dst = (e : Int) := by
  obtain ⟨i, hi, hl, hF⟩ := idxP_at h
  refine ⟨i, hi, hl, ?_, ?_⟩
  · unfold pAt loopF
    rw [hi, Int.toNat_natCast, List.getD_eq_getElem?_getD, List.getElem?_eq_getElem hl]
    rfl
  · simpa [selfP] using hF
theorem lineF_words {N : List ByteArray} {G : List Place} {ws ns : List ByteArray} {xs : List Int} (h0 : ws ≠ []) (h1 : ∀ x ∈ ws, (32 : UInt8) ∉ x.data.toList) (h2 : wordsF ws = some (ns, xs)) :
    lineF N G (joinB ws ⟨#[32]⟩) = stepF N G (ws.headD ⟨#[]⟩) ns (delayF (ws.headD ⟨#[]⟩) xs) (tokF (ws.headD ⟨#[]⟩) xs) := by
  unfold lineF
  rw [splitF_joinB 32 h0 h1]
  simp only [h2]
theorem linesF_step {N M : List ByteArray} {G H : List Place} {i : Nat} {s : ByteArray} {r : List ByteArray} (h : lineF N G s = (0, M, H)) : linesF N G i (s :: r) = linesF M H (i + 1) r := by
  simp only [linesF, h, if_true]
theorem nm_no {s : ByteArray} (h : nameOk s = true) : (32 : UInt8) ∉ s.data.toList ∧ (10 : UInt8) ∉ s.data.toList := ⟨lowB_no h (by decide), lowB_no h (by decide)⟩
theorem dec_no2 (n : Int) : (32 : UInt8) ∉ (decB n).data.toList ∧ (10 : UInt8) ∉ (decB n).data.toList := ⟨dec_no n (by decide) (by decide), dec_no n (by decide) (by decide)⟩
theorem statW_no {nm : ByteArray} (h : nameOk nm = true) (p : Place) : ∀ x ∈ statW nm p, (32 : UInt8) ∉ x.data.toList ∧ (10 : UInt8) ∉ x.data.toList := by
  intro x hx
  simp only [statW, List.mem_cons, List.mem_nil_iff, or_false] at hx
  rcases hx with rfl | rfl | rfl | rfl
  · decide
  · exact nm_no h
  · exact dec_no2 _
  · exact dec_no2 _
theorem restW_no {N : List ByteArray} {p : Place} (h1 : nameOk (nmAt N p.src) = true) (h2 : nameOk (nmAt N p.dst) = true) : ∀ x ∈ restW N p, (32 : UInt8) ∉ x.data.toList ∧ (10 : UInt8) ∉ x.data.toList := by
  intro x hx
  unfold restW at hx
  split at hx
  · simp only [List.mem_cons, List.mem_nil_iff, or_false] at hx
    rcases hx with rfl | rfl | rfl | rfl
    · decide
    · exact nm_no h1
    · exact nm_no h2
    · exact dec_no2 _
  · simp only [List.mem_cons, List.mem_nil_iff, or_false] at hx
    rcases hx with rfl | rfl | rfl | rfl | rfl
    · decide
    · exact nm_no h2
    · exact nm_no h1
    · exact dec_no2 _
    · exact dec_no2 _
theorem line_stat {N : List ByteArray} {G : List Place} {k : Nat} {p : Place} (hk : k < N.length) (hN : N.Nodup) (h10 : N.length ≤ 10) (hG : G.length < 30) (hn : nameOk N[k] = true) (hd : 0 ≤ p.delay ∧ p.delay ≤ 1000) (ht : 0 ≤ p.tokens ∧ p.tokens ≤ 5) (hs : p.src = (k : Int)) (hs2 : p.dst = (k : Int)) :
    lineF (N.take k) G (joinB (statW N[k] p) ⟨#[32]⟩) = (0, N.take (k + 1), G ++ [p]) := by
  rw [lineF_words (by simp [statW]) (fun x hx => (statW_no hn p x hx).1) (words_stat hn hd ht)]
  have e0 : (statW N[k] p).headD ⟨#[]⟩ = wStation := rfl
  have e1 : delayF wStation [p.delay, p.tokens] = p.delay := by
    unfold delayF
    rw [if_neg (by decide)]
    rfl
  have e2 : tokF wStation [p.delay, p.tokens] = p.tokens := by
    unfold tokF
    rw [if_neg (by decide)]
    rfl
  rw [e0, e1, e2]
  have e3 : findStr (N.take k) N[k] = -1 := findStr_miss _ _ (fun j hj e => by
    have hj2 : j < k := by simp at hj; omega
    rw [List.getElem_take] at e
    exact (List.pairwise_iff_getElem.1 hN) j k (by omega) hk hj2 e)
  unfold stepF
  rw [if_neg (by omega), if_pos rfl]
  simp only [List.getD_cons_zero, e3]
  rw [if_neg (by decide), if_neg (by rw [List.length_take]; omega)]
  refine congrArg (Prod.mk (0 : Int)) (congr (congrArg Prod.mk ?_) ?_)
  · rw [List.take_succ_eq_append_getElem hk]
  · have : (⟨((N.take k).length : Int), ((N.take k).length : Int), p.delay, p.tokens⟩ : Place) = p := by
      have e : ((N.take k).length : Int) = k := by rw [List.length_take]; omega
      rw [e]
      cases p
      simp at hs hs2
      simp [hs, hs2]
    rw [this]
theorem line_rest {N : List ByteArray} {G : List Place} {p : Place} (hN : N.Nodup) (hn : ∀ s ∈ N, nameOk s = true) (hG : G.length < 30) (hs : 0 ≤ p.src ∧ p.src < N.length) (hs2 : 0 ≤ p.dst ∧ p.dst < N.length) (hd : 0 ≤ p.delay ∧ p.delay ≤ 1000) (ht : 0 ≤ p.tokens ∧ p.tokens ≤ 5) :
    lineF N G (joinB (restW N p) ⟨#[32]⟩) = (0, N, G ++ [p]) := by
  have h1 := nmAt_ok hn hs
  have h2 := nmAt_ok hn hs2
  have f1 := findStr_nm hN hs
  have f2 := findStr_nm hN hs2
  have hno := restW_no h1.1 h2.1
  unfold restW at hno ⊢
  split
  · rename_i h0
    rw [if_pos h0] at hno
    rw [lineF_words (by simp) (fun x hx => (hno x hx).1) (words_move h1.1 h2.1 hd)]
    have e1 : delayF wMove [p.delay] = p.delay := by
      unfold delayF
      rw [if_neg (by decide)]
      rfl
    have e2 : tokF wMove [p.delay] = 0 := by
      unfold tokF
      rw [if_pos rfl]
    simp only [List.headD_cons, e1, e2]
    unfold stepF
    rw [if_neg (by omega), if_neg (by decide)]
    simp only [List.getD_cons_zero, List.getD_cons_succ, f1, f2]
    rw [if_neg (by omega), if_neg (by omega)]
    have : placeF wMove p.src p.dst p.delay 0 = p := by
      unfold placeF
      rw [if_pos rfl]
      cases p
      simp at h0
      simp [h0]
    rw [this]
  · rename_i h0
    rw [if_neg h0] at hno
    rw [lineF_words (by simp) (fun x hx => (hno x hx).1) (words_cart h2.1 h1.1 hd ht)]
    have e1 : delayF wCart [p.delay, p.tokens] = p.delay := by
      unfold delayF
      rw [if_neg (by decide)]
      rfl
    have e2 : tokF wCart [p.delay, p.tokens] = p.tokens := by
      unfold tokF
      rw [if_neg (by decide)]
      rfl
    simp only [List.headD_cons, e1, e2]
    unfold stepF
    rw [if_neg (by omega), if_neg (by decide)]
    simp only [List.getD_cons_zero, List.getD_cons_succ, f1, f2]
    rw [if_neg (by omega), if_neg (by omega)]
    have : placeF wCart p.dst p.src p.delay p.tokens = p := by
      unfold placeF
      rw [if_neg (by decide)]
    rw [this]
theorem lines_rests {N : List ByteArray} (hN : N.Nodup) (hn : ∀ s ∈ N, nameOk s = true) (h0 : N ≠ []) : ∀ (O : List Place) (G : List Place) (i : Nat), (G ++ O).length ≤ 30 → (∀ p ∈ O, (0 ≤ p.src ∧ p.src < N.length) ∧ (0 ≤ p.dst ∧ p.dst < N.length) ∧ (0 ≤ p.delay ∧ p.delay ≤ 1000) ∧ (0 ≤ p.tokens ∧ p.tokens ≤ 5)) →
    linesF N G i ((O.map (restW N)).map fun ws => joinB ws ⟨#[32]⟩) = ⟨N.length, G ++ O, N, 0, 0⟩
  | [], G, i, _, _ => by simp [linesF, h0]
  | p :: O, G, i, hl, hO => by
    obtain ⟨a, b, c, d⟩ := hO p (by simp)
    have hl2 := hl
    rw [List.length_append, List.length_cons] at hl2
    simp only [List.map_cons]
    rw [linesF_step (line_rest hN hn (by omega) a b c d), lines_rests hN hn h0 O (G ++ [p]) (i + 1) (by simpa using hl) (fun q hq => hO q (by simp [hq]))]
    simp
theorem lines_stats {N : List ByteArray} {F : Nat → Place} (hN : N.Nodup) (hn : ∀ s ∈ N, nameOk s = true) (h10 : N.length ≤ 10) (hF : ∀ k, k < N.length → (F k).src = (k : Int) ∧ (F k).dst = (k : Int) ∧ (0 ≤ (F k).delay ∧ (F k).delay ≤ 1000) ∧ (0 ≤ (F k).tokens ∧ (F k).tokens ≤ 5)) (R : List ByteArray) :
    ∀ (m k : Nat), k + m = N.length → linesF (N.take k) ((List.range k).map F) k (((List.range' k m).map fun e => joinB (statW (N.getD e ⟨#[]⟩) (F e)) ⟨#[32]⟩) ++ R) = linesF N ((List.range N.length).map F) N.length R
  | 0, k, h => by
    obtain rfl : k = N.length := by omega
    simp
  | m + 1, k, h => by
    have hk : k < N.length := by omega
    obtain ⟨a, b, c, d⟩ := hF k hk
    have e : N.getD k ⟨#[]⟩ = N[k] := by rw [List.getD_eq_getElem?_getD, List.getElem?_eq_getElem hk]; rfl
    rw [List.range'_succ, List.map_cons, List.cons_append, e, linesF_step (line_stat hk hN h10 (by simp; omega) (hn _ (List.getElem_mem _)) c d a b)]
    have := lines_stats hN hn h10 hF R m (k + 1) (by omega)
    rw [List.range_succ, List.map_append, List.map_singleton] at this
    exact this
theorem namesOk_parts {ge : Int} {N : List ByteArray} (h : namesOk ge N = true) : (N.length : Int) = ge ∧ (∀ s ∈ N, nameOk s = true) ∧ N.Nodup := by
  simpa [namesOk] using h
theorem used_nodup {gp : List Place} {n : Nat} (h : ∀ e, e < n → 0 ≤ loopF gp e) : (loopsF gp n).Nodup := by
  unfold loopsF
  rw [List.nodup_iff_pairwise_ne, List.pairwise_map]
  refine List.Pairwise.imp_of_mem ?_ (List.nodup_iff_pairwise_ne.1 List.nodup_range)
  intro a b ha hb hne he
  obtain ⟨i, hi, hl, _, h1, _⟩ := first_at' (h a (List.mem_range.1 ha))
  obtain ⟨j, hj, hl2, _, h2, _⟩ := first_at' (h b (List.mem_range.1 hb))
  have : i = j := by omega
  subst this
  omega
/-- The others are those that are not first. -/
theorem others_mem {gp : List Place} {used : List Int} {p : Place} : p ∈ othersF gp used gp.length ↔ ∃ i : Nat, ∃ hi : i < gp.length, gp[i] = p ∧ (i : Int) ∉ used := by
  unfold othersF
  simp only [List.mem_map, List.mem_filter, List.mem_range, Bool.not_eq_true', List.contains_eq_mem, decide_eq_false_iff_not]
  constructor
  · rintro ⟨i, ⟨hi, hn⟩, rfl⟩
    refine ⟨i, hi, ?_, hn⟩
    rw [List.getD_eq_getElem?_getD, List.getElem?_eq_getElem hi]
    rfl
  · rintro ⟨i, hi, rfl, hn⟩
    refine ⟨i, ⟨hi, hn⟩, ?_⟩
    rw [List.getD_eq_getElem?_getD, List.getElem?_eq_getElem hi]
    rfl
theorem printed_mem {gp : List Place} {n : Nat} (h : ∀ e, e < n → 0 ≤ loopF gp e) (p : Place) : p ∈ firstsF gp n ++ othersF gp (loopsF gp n) gp.length ↔ p ∈ gp := by
  rw [List.mem_append, others_mem]
  constructor
  · rintro (h1 | ⟨i, hi, rfl, _⟩)
    · unfold firstsF at h1
      obtain ⟨e, he, rfl⟩ := List.mem_map.1 h1
      obtain ⟨i, _, hl, hp, _⟩ := first_at' (h e (List.mem_range.1 he))
      rw [hp]
      exact List.getElem_mem _
    · exact List.getElem_mem _
  · intro hp
    obtain ⟨i, hi, rfl⟩ := List.getElem_of_mem hp
    by_cases hu : (i : Int) ∈ loopsF gp n
    · left
      unfold loopsF at hu
      obtain ⟨e, he, hle⟩ := List.mem_map.1 hu
      obtain ⟨j, hj, hl, hp2, _⟩ := first_at' (h e (List.mem_range.1 he))
      have : j = i := by omega
      subst this
      exact List.mem_map.2 ⟨e, he, hp2⟩
    · exact Or.inr ⟨i, hi, rfl, hu⟩
theorem filter_split {α : Type} (f : α → Bool) : ∀ l : List α, (l.filter f).length + (l.filter fun x => !f x).length = l.length
  | [] => rfl
  | a :: l => by
    have := filter_split f l
    cases h : f a <;> simp [h] <;> omega
theorem printed_len {gp : List Place} {n : Nat} (h : ∀ e, e < n → 0 ≤ loopF gp e) : (firstsF gp n ++ othersF gp (loopsF gp n) gp.length).length = gp.length := by
  have hs := filter_split (fun i : Nat => (loopsF gp n).contains (i : Int)) (List.range gp.length)
  have hu : ((List.range gp.length).filter fun i : Nat => (loopsF gp n).contains (i : Int)).length = n := by
    have hp : (((List.range gp.length).filter fun i : Nat => (loopsF gp n).contains (i : Int)).map fun i : Nat => (i : Int)).Perm (loopsF gp n) := by
      refine (List.perm_ext_iff_of_nodup ?_ (used_nodup h)).2 ?_
      · rw [List.nodup_iff_pairwise_ne, List.pairwise_map]
        refine List.Pairwise.imp ?_ (List.Pairwise.filter _ (List.nodup_iff_pairwise_ne.1 List.nodup_range))
        intro a b hab e
        exact hab (by omega)
      · intro x
        simp only [List.mem_map, List.mem_filter, List.mem_range, List.contains_eq_mem, decide_eq_true_eq]
        constructor
        · rintro ⟨i, ⟨_, hm⟩, rfl⟩
          exact hm
        · intro hx
          unfold loopsF at hx
          obtain ⟨e, he, rfl⟩ := List.mem_map.1 hx
          obtain ⟨i, hi, hl, _⟩ := first_at' (h e (List.mem_range.1 he))
          exact ⟨i, ⟨hl, by rw [← hi]; exact List.mem_map.2 ⟨e, he, rfl⟩⟩, hi.symm⟩
    have := hp.length_eq
    rw [List.length_map] at this
    rw [this]
    simp [loopsF]
  rw [List.length_append]
  have e1 : (firstsF gp n).length = n := by simp [firstsF]
  have e2 : (othersF gp (loopsF gp n) gp.length).length = ((List.range gp.length).filter fun i : Nat => !(loopsF gp n).contains (i : Int)).length := by simp [othersF]
  rw [e1, e2]
  rw [hu, List.length_range] at hs
  exact hs
/-- A printed graph is compiled to one with the same places, up to their order. -/
theorem print_compile {ge : Int} {gp : List Place} {N : List ByteArray} (h : (printF ge gp N).2 = 0) :
    compF (printF ge gp N).1 = ⟨ge, firstsF gp N.length ++ othersF gp (loopsF gp N.length) gp.length, N, 0, 0⟩ ∧ okGraph ge gp = true ∧ (∀ e, e < N.length → 0 ≤ loopF gp e) := by
  unfold printF at h ⊢
  by_cases h1 : okGraph ge gp = false
  · rw [if_pos h1] at h; cases h
  rw [if_neg h1] at h ⊢
  by_cases h2 : namesOk ge N = false
  · rw [if_pos h2] at h; cases h
  rw [if_neg h2] at h ⊢
  by_cases h3 : (loopsF gp N.length).all (fun i => decide (0 ≤ i)) = false
  · rw [if_pos h3] at h; cases h
  rw [if_neg h3] at h ⊢
  by_cases h4 : 2000 < (printT gp N).size
  · rw [if_pos h4] at h; cases h
  rw [if_neg h4]
  have hok : okGraph ge gp = true := by simpa using h1
  obtain ⟨k1, k2, k3⟩ := namesOk_parts (by simpa using h2 : namesOk ge N = true)
  have hev := okGraph_ev hok
  have hlen := okGraph_len hok
  have hl : ∀ e, e < N.length → 0 ≤ loopF gp e := by
    intro e he
    have h3' : (loopsF gp N.length).all (fun i => decide (0 ≤ i)) = true := by simpa using h3
    have := List.all_eq_true.1 h3' (loopF gp e) (List.mem_map.2 ⟨e, List.mem_range.2 he, rfl⟩)
    simpa using this
  refine ⟨?_, hok, hl⟩
  have hpl : ∀ p ∈ gp, (0 ≤ p.src ∧ p.src < N.length) ∧ (0 ≤ p.dst ∧ p.dst < N.length) ∧ (0 ≤ p.delay ∧ p.delay ≤ 1000) ∧ (0 ≤ p.tokens ∧ p.tokens ≤ 5) := by
    intro p hp
    have := okGraph_place hok hp
    omega
  have hfir : ∀ k, k < N.length → (pAt gp (loopF gp k)).src = (k : Int) ∧ (pAt gp (loopF gp k)).dst = (k : Int) ∧ (0 ≤ (pAt gp (loopF gp k)).delay ∧ (pAt gp (loopF gp k)).delay ≤ 1000) ∧ (0 ≤ (pAt gp (loopF gp k)).tokens ∧ (pAt gp (loopF gp k)).tokens ≤ 5) := by
    intro k hk
    obtain ⟨i, _, hi, hp, hs, hd⟩ := first_at' (hl k hk)
    rw [hp]
    have := hpl _ (List.getElem_mem hi)
    exact ⟨hs, hd, this.2.2.1, this.2.2.2⟩
  have hoth : ∀ p ∈ othersF gp (loopsF gp N.length) gp.length, p ∈ gp := fun p hp => (printed_mem hl p).1 (List.mem_append.2 (Or.inr hp))
  have hsplit : splitF 10 (printT gp N) = ((statsF gp N N.length ++ restsF gp N (loopsF gp N.length) gp.length).map fun ws => joinB ws ⟨#[32]⟩) ++ [⟨#[]⟩] := by
    unfold printT
    refine splitF_lines ?_
    intro ws hws
    refine join_no (by decide) ?_
    rcases List.mem_append.1 hws with hws | hws
    · unfold statsF at hws
      obtain ⟨e, he, rfl⟩ := List.mem_map.1 hws
      have he := List.mem_range.1 he
      have hn : nameOk (N.getD e ⟨#[]⟩) = true := by
        rw [List.getD_eq_getElem?_getD, List.getElem?_eq_getElem he]
        exact k2 _ (List.getElem_mem _)
      exact fun x hx => (statW_no hn _ x hx).2
    · unfold restsF at hws
      obtain ⟨p, hp, rfl⟩ := List.mem_map.1 hws
      have := hpl p (hoth p hp)
      exact fun x hx => (restW_no (nmAt_ok k2 this.1).1 (nmAt_ok k2 this.2.1).1 x hx).2
  have hne : N ≠ [] := by
    intro e
    rw [e] at k1
    simp at k1
    omega
  unfold compF
  rw [if_neg h4, hsplit, List.getLastD_concat, if_neg (by simp), List.dropLast_concat, List.map_append]
  have h5 := lines_stats (F := fun e => pAt gp (loopF gp e)) k3 k2 (by omega) hfir ((restsF gp N (loopsF gp N.length) gp.length).map fun ws => joinB ws ⟨#[32]⟩) N.length 0 (by omega)
  rw [← List.range_eq_range'] at h5
  simp only [List.take_zero, List.range_zero, List.map_nil] at h5
  have e1 : (statsF gp N N.length).map (fun ws => joinB ws ⟨#[32]⟩) = (List.range N.length).map fun e => joinB (statW (N.getD e ⟨#[]⟩) (pAt gp (loopF gp e))) ⟨#[32]⟩ := by
    unfold statsF
    rw [List.map_map]
    rfl
  rw [e1, h5]
  have h6 := lines_rests k3 k2 hne (othersF gp (loopsF gp N.length) gp.length) (firstsF gp N.length) N.length (by rw [printed_len hl]; exact hlen) (fun p hp => hpl p (hoth p hp))
  unfold restsF
  unfold firstsF at h6 ⊢
  rw [h6, k1]

end Go.Proofs.YtcoomogabicfnaaGreatDoor
