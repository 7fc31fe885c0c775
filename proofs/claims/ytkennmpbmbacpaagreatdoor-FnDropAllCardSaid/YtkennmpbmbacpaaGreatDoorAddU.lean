/- Small laws for texts that change a row of a tree. -/
import Derived.Test.YtkennmpbmbacpaaGreatDoorCopyI
import Derived.Test.YtkennmpbmbacpaaGreatDoorFile3
set_option linter.unusedSimpArgs false
set_option linter.unusedVariables false
set_option linter.unusedSectionVars false
namespace Go.Proofs.YtkennmpbmbacpaaGreatDoor
open Go.RowKit

theorem Below.of_grown {B : Nat} {w w' : World} {row : Option Nat} (h : w.grownBy w' row) (hB : B ≤ w.heap.size) (hr : ∀ j, row = some j → B ≤ j) : Below B w w' :=
  ⟨h.os, h.tape, h.output, h.size, fun k hk => h.block k (by omega) (fun e => by have := hr k e.symm; omega)⟩
theorem sep_ne {a b : Option Nat} {g : Nat} (h : Sep a b) (hb : b = some g) : a ≠ some g := fun e => by
  rcases h with h | h
  · rw [h] at e; cases e
  · exact h (e.trans hb.symm)
end Go.Proofs.YtkennmpbmbacpaaGreatDoor
