/-
  The walks of TokenBound, the program's and the reference's.
-/
import Derived.Test.YtcoomogabicfnaaDist
namespace Go.Proofs.Ytcoomogabicfnaa
open Go.RowKit
set_option linter.unusedVariables false
set_option linter.unusedSimpArgs false
def tokB (ge : Int) (gp : List Place) (i : Int) : Int × Int :=
  if idxCode ge gp i = 0 then (if distD ge.toNat gp (gp.getD i.toNat ⟨0, 0, 0, 0⟩).dst.toNat (gp.getD i.toNat ⟨0, 0, 0, 0⟩).src.toNat < 0 then (0, 4)
    else ((gp.getD i.toNat ⟨0, 0, 0, 0⟩).tokens + distD ge.toNat gp (gp.getD i.toNat ⟨0, 0, 0, 0⟩).dst.toNat (gp.getD i.toNat ⟨0, 0, 0, 0⟩).src.toNat, 0)) else (0, idxCode ge gp i)
theorem tokB_zero {n : Nat} {gp : List Place} {k s d : Nat} (hk : k < gp.length) (hc : idxCode n gp k = 0) (hs : gp[k].src = (s : Int)) (hd : gp[k].dst = (d : Int)) :
    tokB n gp k = if distD n gp d s < 0 then (0, 4) else (gp[k].tokens + distD n gp d s, 0) := by
  have e : gp.getD k ⟨0, 0, 0, 0⟩ = gp[k] := by simp [List.getD, List.getElem?_eq_getElem hk]
  simp only [tokB, hc, if_true, Int.toNat_natCast, e, hs, hd]
theorem distD_small {n : Nat} {gp : List Place} (hg : okGraph n gp = true) (f i : Nat) (hf : f < n) (hi : i < n) : -1 ≤ distD n gp f i ∧ distD n gp f i ≤ 1000 ∧ (itF n (tokF gp) n i f = bot ∨ itF n (tokF gp) n i f ≤ 0) := by
  have hge := okGraph_ev hg
  have h := finM_it (tok_fin hg n) (by omega) (by omega) n (by omega) i f hi hf
  have hle := it_le (n := n) (F := tokF gp) (x := fun _ => some 0) ?_ f hf 0 rfl (by omega) n i hi
  · unfold distD
    split
    · rename_i hb
      exact ⟨by omega, by omega, .inl hb⟩
    · rename_i hne
      obtain ⟨b, hb, hle⟩ := hle hne
      injection hb with hb
      rcases h with h | h
      · exact absurd h hne
      · exact ⟨by omega, by omega, .inr (by omega)⟩
  · intro a m ha hm hne x hx
    injection hx with hx
    have hw := wgtF_from (fun p => - p.tokens) gp gp.length (Nat.le_refl _) a m
    rw [List.take_length] at hw
    rcases hw with hw | ⟨p, hp, _, _, e⟩
    · exact absurd hw hne
    · have := okGraph_place hg hp
      refine ⟨0, rfl, ?_⟩
      unfold tokF
      rw [e]
      omega
end Go.Proofs.Ytcoomogabicfnaa
