/- One node of a tree as a tree by itself. -/
import Derived.Test.YtkennmpbmbacpaaGreatDoorTreeR
set_option linter.unusedSimpArgs false
set_option linter.unusedVariables false
set_option linter.unusedSectionVars false
namespace Go.Proofs.YtkennmpbmbacpaaGreatDoor
open Go.RowKit

theorem TreeR.sub {w : World} {t : List Nd} {A : Option Addr} {n cap k : Nat} (h : TreeR w (.slice A n cap) t) (hk : k < t.length) : ∃ b off, A = some ⟨b, off, none⟩ ∧ TreeR w (.slice (some ⟨b, off + k * 7, none⟩) 1 (cap - k)) [kth t k] := by
  obtain ⟨cs, h1, ⟨A', cap', e, c1, c2, h4⟩, h3⟩ := h
  injection e with e1 e2 e3
  subst e1 e3
  have hkc : k < cs.length := by omega
  rcases h4 with rfl | ⟨b, off, rfl, hb, hat⟩
  · simp at hkc
  · refine ⟨b, off, rfl, [cs[k]], rfl, ⟨_, _, rfl, by simp; omega, by omega, .inr ⟨b, off + k * 7, rfl, hb, fun i x hx j u hu => ?_⟩⟩, fun i c x hc hx => ?_⟩
    · have hi : i = 0 := by
        have := (List.getElem?_eq_some_iff.1 hx).1
        simp at this; omega
      subst hi
      have hx' : cs[k] = x := by simpa using hx
      have := hat k (cs[k]) (List.getElem?_eq_getElem hkc) j u (by rw [hx']; exact hu)
      rw [Nat.zero_mul, Nat.add_zero]
      exact this
    · have hi : i = 0 := by
        have := (List.getElem?_eq_some_iff.1 hc).1
        simp at this; omega
      subst hi
      have hc' : cs[k] = c := by simpa using hc
      have hx' : kth t k = x := by simpa using hx
      rw [← hc', ← hx']
      exact h3 k _ _ (List.getElem?_eq_getElem hkc) (kth_at hk)
end Go.Proofs.YtkennmpbmbacpaaGreatDoor
