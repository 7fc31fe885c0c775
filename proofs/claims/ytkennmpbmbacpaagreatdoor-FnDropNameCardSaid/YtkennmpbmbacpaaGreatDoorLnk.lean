/- How often the nodes of a valid tree are named: what LinksOf gives; small facts for the drawn laws on making and taking away. -/
import Derived.Test.YtkennmpbmbacpaaGreatDoorMakeL
import Derived.Test.YtkennmpbmbacpaaGreatDoorMH
set_option linter.unusedSimpArgs false
set_option linter.unusedVariables false
set_option linter.unusedSectionVars false
namespace Go.Proofs.YtkennmpbmbacpaaGreatDoor
open Go.RowKit

theorem tree_links {t : List Nd} (h : treeB t = true) : (linksF t).length = t.length ∧ ∀ n, n < t.length → (linksF t)[n]? = some (lnk t n) := by
  obtain ⟨h1, _, h3, _⟩ := tree_all h
  obtain ⟨_, n2⟩ := inB_iffL.1 h1
  have e := links_of_rows (t := t) (by omega) h3
  rw [e]
  exact ⟨cntL_len _ _, fun n hn => cntL_get hn⟩
theorem lnk_le (t : List Nd) (n : Nat) : 0 ≤ lnk t n ∧ lnk t n ≤ ((kidsOf t).length : Int) := by
  unfold lnk
  have : (kidsOf t).count (n : Int) ≤ (kidsOf t).length := List.count_le_length
  omega
end Go.Proofs.YtkennmpbmbacpaaGreatDoor
