/- The exact law on RoomFor: the walk. -/
import Derived.Test.YtffppecflamcgaaRoomI
import Derived.Test.YtffppecflamcgaaRoomS
import Derived.Test.YtffppecflamcgaaToLimit
set_option linter.unusedSimpArgs false
set_option linter.unusedVariables false
set_option linter.unusedSectionVars false
namespace Go.Proofs.Ytffppecflamcgaa
open Go.RowKit

theorem walkFnExactRoomFor (A : Option Addr) (cap : Nat) (l : List (Int × Int × Int)) (n : Int) (w : World) (h0 : Sl3 w (.slice A l.length cap) l) (hn : l.length ≤ cap) (hc : cap ≤ maxLen) (_hn : (Lit.int .i64 n).wf = true) :
    Calls Try.prog 4 #[.slice A l.length cap, .int .i64 n] w fun e w' => e = .returned (.bool true) ∧ Below w.heap.size w w' := by
  by_cases hm : (1048576 : Int) < (l.length : Int)
  · have hv := szV_no hm
    go_enter Try.func4, Try.ntmps4
    go_wp2_with (go_at_call 11; refine (szLimitS_any _ _ _ _ _ hn hc (by decide) (by decide)).mono ?_; rintro e w' ⟨rfl, rfl⟩; simp only [hv])
    go_ret
    exact ⟨rfl, Below.refl _ _⟩
  · have hv := szV_yes hm
    have hm' : l.length ≤ 1048576 := by omega
    have hp : ¬ (1048576 : Int) - (l.length : Int) < 0 := by omega
    go_enter Try.func4, Try.ntmps4
    go_wp2_with (go_at_call 11; refine (szLimitS_any _ _ _ _ _ hn hc (by decide) (by decide)).mono ?_; rintro e w' ⟨rfl, rfl⟩; simp only [hv])
    go_wp2_with fail
    refine (toLimitS_of _ l _ h0 hm').mono ?_
    rintro e w1 ⟨rfl, o1, b1⟩
    have s1 := sl3_of_own o1 (Nat.le_refl _) (by omega)
    go_wp2_with fail
    refine (roomS_of _ l n _ s1 hm').mono ?_
    rintro e w2 ⟨rfl, b2⟩
    have c2 := Below.step b2 b1.size b1
    go_wp2_with fail
    refine (toLimitS_of _ l _ (h0.below c2) hm').mono ?_
    rintro e w3 ⟨rfl, o3, b3⟩
    have s3 := sl3_of_own o3 (Nat.le_refl _) (by omega)
    have c3 := Below.step b3 c2.size c2
    go_wp2_with fail
    refine (roomI_of _ l n _ s3).mono ?_
    rintro e w4 ⟨rfl, b4⟩
    have c4 := Below.step b4 c3.size c3
    go_wp2_with fail
    refine (toLimitS_of _ l _ (h0.below c4) hm').mono ?_
    rintro e w5 ⟨rfl, o5, b5⟩
    have s5 := sl3_of_own o5 (Nat.le_refl _) (by omega)
    have c5 := Below.step b5 c4.size c4
    have s3' := (s3.below b4).below b5
    go_wp2_with fail
    refine (eqLimitS_of _ _ l _ s3' s5).mono ?_
    rintro e w6 ⟨rfl, b6⟩
    have c6 := Below.step b6 c5.size c5
    go_wp2
    go_ret
    exact ⟨rfl, c6⟩
end Go.Proofs.Ytffppecflamcgaa
