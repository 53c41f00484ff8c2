/-
  Firing leads from each reachable marking to a reachable one, told once: plain Lean, no program in sight.
-/
import Derived.Test.YthamppcpjmnnkaaReach
namespace Go.Proofs.Ythamppcpjmnnkaa
open Go.RowKit
set_option linter.unusedVariables false
set_option linter.unusedSimpArgs false
/-- Told once, and the markings before the i-th lead to told ones. -/
structure ReCl (gp : List Place) (n i : Nat) (F : List (List Int)) : Prop where
  nd : F.Nodup
  ne : 0 < F.length
  cl : ∀ j (h : j < F.length), j < i → ∀ e : Nat, e < n → enB gp F[j] (e : Int) = true → okMarking gp (fireM gp F[j] (e : Int)) = true ∧ fireM gp F[j] (e : Int) ∈ F
theorem reFire_law {gp : List Place} {cur : List Int} {e : Nat} {F G : List (List Int)} (hnd : F.Nodup) (hg : reFire gp cur e F = some G) :
    G.Nodup ∧ (∃ r, G = F ++ r) ∧ okMarking gp (fireM gp cur (e : Int)) = true ∧ fireM gp cur (e : Int) ∈ G := by
  unfold reFire at hg
  split at hg
  · cases hg
  · rename_i h1
    have h1' : okMarking gp (fireM gp cur (e : Int)) = true := by simpa using h1
    split at hg
    · rename_i h2
      cases hg
      exact ⟨hnd, ⟨[], by simp⟩, h1', List.contains_iff_mem.1 h2⟩
    · rename_i h2
      split at hg
      · cases hg
      · cases hg
        refine ⟨List.nodup_append.2 ⟨hnd, by simp, fun a ha b hb => ?_⟩, ⟨_, rfl⟩, h1', by simp⟩
        rw [List.mem_singleton.1 hb]
        intro e
        subst e
        exact h2 (List.contains_iff_mem.2 ha)
theorem reEv_law {gp : List Place} {cur : List Int} {F : List (List Int)} (hnd : F.Nodup) : ∀ n G, reEv gp n cur F = some G →
    G.Nodup ∧ (∃ r, G = F ++ r) ∧ ∀ e : Nat, e < n → enB gp cur (e : Int) = true → okMarking gp (fireM gp cur (e : Int)) = true ∧ fireM gp cur (e : Int) ∈ G := by
  intro n
  induction n with
  | zero => intro G hg; cases hg; exact ⟨hnd, ⟨[], by simp⟩, fun e he => absurd he (by omega)⟩
  | succ n ih =>
    intro G hg
    rw [reEv_succ] at hg
    cases h1 : reEv gp n cur F with
    | none => rw [h1] at hg; cases hg
    | some G1 =>
      rw [h1] at hg
      obtain ⟨h2, ⟨r, hr⟩, h3⟩ := ih G1 h1
      simp only [reStep, Option.bind_some] at hg
      split at hg
      · rename_i hb
        cases hg
        refine ⟨h2, ⟨r, hr⟩, fun e he hen => ?_⟩
        rcases Nat.lt_or_ge e n with h | h
        · exact h3 e h hen
        · obtain rfl : e = n := by omega
          rw [hb] at hen; cases hen
      · obtain ⟨k1, ⟨r2, hr2⟩, k2, k3⟩ := reFire_law h2 hg
        refine ⟨k1, ⟨r ++ r2, by rw [hr2, hr, List.append_assoc]⟩, fun e he hen => ?_⟩
        rcases Nat.lt_or_ge e n with h | h
        · exact ⟨(h3 e h hen).1, by rw [hr2]; exact List.mem_append_left _ (h3 e h hen).2⟩
        · obtain rfl : e = n := by omega
          exact ⟨k2, k3⟩
theorem ReCl.all {gp : List Place} {n : Nat} : ∀ (f i : Nat) (F G : List (List Int)), ReOk gp F → 301 ≤ f + i → ReCl gp n i F → reAll gp n f i F = some G → ReCl gp n G.length G := by
  intro f
  induction f with
  | zero =>
    intro i F G ho hf h hg
    cases hg
    have := ho.len
    exact ⟨h.nd, h.ne, fun j hj _ => h.cl j hj (by omega)⟩
  | succ f ih =>
    intro i F G ho hf h hg
    simp only [reAll] at hg
    split at hg
    · rename_i hi
      cases h1 : reEv gp n F[i] F with
      | none => rw [h1] at hg; cases hg
      | some G1 =>
        rw [h1] at hg
        obtain ⟨k1, ⟨r, hr⟩, k2⟩ := reEv_law h.nd n G1 h1
        have hlen : F.length ≤ G1.length := by rw [hr]; simp
        refine ih (i + 1) G1 G (ho.ev _ _ _ h1).1 (by omega) ⟨k1, by have := h.ne; omega, fun j hj hji e he hen => ?_⟩ hg
        have hjF : j < F.length := by omega
        have hget : G1[j] = F[j] := append_get hr j hjF hj
        rw [hget] at hen ⊢
        rcases Nat.lt_or_ge j i with h2 | h2
        · obtain ⟨a, b⟩ := h.cl j hjF h2 e he hen
          exact ⟨a, by rw [hr]; exact List.mem_append_left _ b⟩
        · obtain rfl : j = i := by omega
          exact k2 e he hen
    · rename_i hi
      cases hg
      exact ⟨h.nd, h.ne, fun j hj _ => h.cl j hj (by omega)⟩
/-- How many of a list are x. -/
def cntL (T : List (List Int)) (x : List Int) (k : Nat) : Nat := (T.take k).countP fun l => decide (l = x)
theorem cntL_succ (T : List (List Int)) (x : List Int) (k : Nat) (h : k < T.length) : cntL T x (k + 1) = cntL T x k + if T[k] = x then 1 else 0 := by
  unfold cntL
  rw [take_succ_get _ _ h, List.countP_append]
  by_cases e : T[k] = x <;> simp [e]
theorem cntL_one {T : List (List Int)} {x : List Int} (hnd : T.Nodup) (hx : x ∈ T) : cntL T x T.length = 1 := by
  unfold cntL
  rw [List.take_length]
  induction T with
  | nil => cases hx
  | cons a T ih =>
    rw [List.nodup_cons] at hnd
    rw [List.countP_cons]
    by_cases e : a = x
    · subst e
      have h0 : List.countP (fun l => decide (l = a)) T = 0 := by
        rw [List.countP_eq_zero]
        intro b hb
        simp only [decide_eq_true_eq]
        rintro rfl
        exact hnd.1 hb
      simp [h0]
    · have hx' : x ∈ T := by
        rcases List.mem_cons.1 hx with h | h
        · exact absurd h.symm e
        · exact h
      simp [e, ih hnd.2 hx']
/-- What the law asks of the reachable markings. -/
theorem reach_law {ge : Int} {gp : List Place} {F : List (List Int)} (h : reachF ge gp = (F, 0)) :
    okGraph ge gp = true ∧ 0 < F.length ∧ F.length ≤ 300 ∧ ∀ i (hi : i < F.length), okMarking gp F[i] = true ∧ enF ge gp F[i] = (enL gp F[i] ge.toNat, 0) ∧
      ∀ e ∈ enL gp F[i] ge.toNat, fireF ge gp F[i] e = (fireM gp F[i] e, 0) ∧ cntL F (fireM gp F[i] e) F.length = 1 := by
  cases hg : okGraph ge gp
  · simp [reachF, hg] at h
  · obtain ⟨hge1, hge2⟩ := okGraph_ev hg
    obtain ⟨n, rfl⟩ := Int.eq_ofNat_of_zero_le (show 0 ≤ ge by omega)
    cases hr : reAll gp n 301 0 [firstF gp] with
    | none => rw [reach_none hg hr] at h; cases h
    | some G =>
      rw [reach_some hg hr] at h
      obtain rfl : G = F := congrArg Prod.fst h
      have h1 := ReOk.all _ _ _ _ (ReOk.start hg) hr
      have h2 := ReCl.all (n := n) _ _ _ _ (ReOk.start hg) (by omega) ⟨by simp, by simp, fun j _ hj => absurd hj (by omega)⟩ hr
      refine ⟨rfl, h2.ne, h1.len, fun i hi => ?_⟩
      have hm := h1.ok _ (List.getElem_mem hi)
      refine ⟨hm, ?_, fun e he => ?_⟩
      · simp [enF, hg, hm]
      · rw [Int.toNat_natCast] at he
        obtain ⟨⟨e0, e1⟩, e2⟩ := (enL_mem _ _ _ _).1 he
        obtain ⟨q, rfl⟩ := Int.eq_ofNat_of_zero_le e0
        obtain ⟨k1, k2⟩ := h2.cl i hi hi q (by omega) e2
        refine ⟨?_, cntL_one h2.nd k2⟩
        have hin : inB (q : Int) 0 ((n : Int) - 1) = true := (inB_iff _ _ _).2 ⟨by omega, by omega⟩
        simp [fireF, firedF, hg, hm, hin, e2, k1, Int.toNat_natCast]
end Go.Proofs.Ythamppcpjmnnkaa
