/- Ways: the exact law on FollowWay: the walk. -/
import Derived.Test.YtaadobcfijegcaaDoorFollowS
set_option linter.unusedSimpArgs false
set_option linter.unusedVariables false
set_option linter.unusedSectionVars false
namespace Go.Proofs.YtaadobcfijegcaaDoor
open Go.RowKit

set_option maxRecDepth 100000 in
theorem walkFnExactFollowWay (a : ByteArray) (b : ByteArray) (w : World) (hsh : w.ShapedOpen Tryd.prog) (ha : a.size ≤ maxLen) (hb : b.size ≤ maxLen) :
    Calls Tryd.prog 9 #[.string a, .string b] w fun e w' => e = .returned (.bool true) ∧ Below w.heap.size w w' := by
  unfold maxLen at ha hb
  by_cases hm : (1048576 : Int) < (a.size : Int)
  · go_enter Tryd.func9, Tryd.ntmps9
    go_wp2
    go_ret
    exact ⟨rfl, Below.refl _ _⟩
  · by_cases hm2 : (1048576 : Int) < (b.size : Int)
    · go_enter Tryd.func9, Tryd.ntmps9
      go_wp2
      go_ret
      exact ⟨rfl, Below.refl _ _⟩
    · have hmx := maxL_of hsh
      have h1 := followS_of a b w (by omega) (by omega)
      have h2 := fun w (hm : MaxL w) => followI_of a b w hm (by omega) (by omega)
      generalize mk (followF a.data.toList b.data.toList) = y at h1 h2
      go_enter Tryd.func9, Tryd.ntmps9
      go_wp2_with fail
      refine h1.mono ?_
      rintro e w1 ⟨rfl, b1⟩
      go_wp2_with fail
      refine (h2 w1 (hmx.below b1)).mono ?_
      rintro e w2 ⟨rfl, b2⟩
      have c2 := Below.step b2 b1.size b1
      clear h1 h2
      go_wp2
      go_ret
      exact ⟨rfl, c2⟩
end Go.Proofs.YtaadobcfijegcaaDoor
