/- The exact law on WayValid: the walk. -/
import Derived.Test.YtaadobcfijegcaaDoorWayS
set_option linter.unusedSimpArgs false
set_option linter.unusedVariables false
set_option linter.unusedSectionVars false
namespace Go.Proofs.YtaadobcfijegcaaDoor
open Go.RowKit

theorem walkFnExactWayValid (a : ByteArray) (w : World) (hsh : w.ShapedOpen Tryd.prog) (ha : a.size ≤ maxLen) :
    Calls Tryd.prog 3 #[.string a] w fun e w' => e = .returned (.bool true) ∧ Below w.heap.size w w' := by
  unfold maxLen at ha
  by_cases hm : (1048576 : Int) < (a.size : Int)
  · go_enter Tryd.func3, Tryd.ntmps3
    go_wp2
    go_ret
    exact ⟨rfl, Below.refl _ _⟩
  · have hm' : a.size ≤ 1048576 := by omega
    go_enter Tryd.func3, Tryd.ntmps3
    go_wp2_with fail
    refine (wayValidS_of a w hm').mono ?_
    rintro e w1 ⟨rfl, b1⟩
    go_wp2_with fail
    refine (wayValidI_of a w1 ((maxL_of hsh).below b1) hm').mono ?_
    rintro e w2 ⟨rfl, b2⟩
    have c2 := Below.step b2 b1.size b1
    go_wp2
    go_ret
    exact ⟨rfl, c2⟩
end Go.Proofs.YtaadobcfijegcaaDoor
