/- The drawn law on LimitsValid: the walk. -/
import Derived.Test.YtffppecflamcgaaDrawL2
import Derived.Test.YtffppecflamcgaaAppG
import Derived.Test.YtffppecflamcgaaLimI
import Derived.Test.YtffppecflamcgaaLimS
import Derived.Test.YtffppecflamcgaaName
set_option linter.unusedSimpArgs false
set_option linter.unusedVariables false
set_option linter.unusedSectionVars false
namespace Go.Proofs.Ytffppecflamcgaa
open Go.RowKit

set_option maxHeartbeats 1000000 in
theorem walkFnLimitsValid (a : Option Addr) (len cap : Nat) (zs : List Int) (w : World) (hrow : IsRow .u8 w a len cap zs) :
    Calls Try.prog 5 #[.slice a len cap] w fun e w' => e = .returned (.bool true) ∧ Below w.heap.size w w' := by
  obtain ⟨hl1, hl2⟩ := hrow.len_le
  unfold maxLen at hl2
  by_cases hbig : (1048576 : Int) < (len : Int)
  · go_enter Try.func5, Try.ntmps5
    go_wp2
    go_ret
    exact ⟨rfl, Below.refl _ _⟩
  · go_enter Try.func5, Try.ntmps5
    go_wp2_with fail
    refine (drawLV_any a len cap zs _ hrow).mono ?_
    rintro e w1 ⟨v, l, rfl, hl, o1, b1⟩
    obtain ⟨A1, k1, rfl⟩ := own_shape o1
    go_wp2_with fail
    refine (limitsValidI_of _ l _ (own_sl3 o1)).mono ?_
    rintro e w2 ⟨rfl, b2⟩
    have o2 := own_below o1 b2
    have c2 := Below.step b2 b1.size b1
    go_wp2_with fail
    refine (limitsValidS_of _ l _ (own_sl3 o2) (by omega)).mono ?_
    rintro e w3 ⟨rfl, b3⟩
    have o3 := own_below o2 b3
    have c3 := Below.step b3 c2.size c2
    have O3 := Lib.hid o3
    go_wp2_with (at_builtin; refine wpList_appG _ rfl (.tmp 17) (.tmp 18) rfl w3.heap.size _ [(0, 0, 0)] rfl (own_one w3 (Nat.le_refl _) 0 0 0) w.heap.size (.slice A1 l.length k1) l rfl (own_alloc o3 _) (by simp; omega) (by simp) ?_)
    intro v4 w4 o4 hg4
    have b4 : Below w3.heap.size w3 w4 := Below.grown (Below.alloc (Below.refl _ _) (Nat.le_refl _) _) hg4 (by simp) (by intro k hk; cases hk; exact Nat.le_refl _)
    have c4 := Below.step b4 c3.size c3
    have o34 := own_below o3 b4
    have hself : limB ((0, 0, 0) :: l) = false := limB_self
    go_wp2_with fail
    refine (limitsValidI_of _ ((0, 0, 0) :: l) _ (own_sl3 o4)).mono ?_
    rintro e w5 ⟨rfl, b5⟩
    rw [hself]
    have c5 := Below.step b5 c4.size c4
    have o5 := own_below o34 b5
    obtain ⟨A', k', e', s1, s2, s3⟩ := own_sl3 o5
    injection e' with e1 _ e3
    subst e1 e3
    have hdiv : ((l.length / 2 : Nat) : Int) = (l.length : Int) / 2 := by omega
    have htl : (l.take (l.length / 2)).length = l.length / 2 := by rw [List.length_take]; omega
    have sl : Sl3 w5 (.slice A1 (l.length / 2) k1) (l.take (l.length / 2)) := by
      refine ⟨A1, k1, by rw [htl], by rw [htl]; omega, s2, ?_⟩
      rcases s3 with s3 | ⟨b, off, e, hb, hc⟩
      · exact .inl (by rw [s3]; rfl)
      · refine .inr ⟨b, off, e, hb, fun i hi => ?_⟩
        rw [htl] at hi
        rw [ti_take hi (by omega)]
        exact hc i (by omega)
    have SL := Lib.hid sl; clear sl s3
    unfold maxLen at s2
    cases hok : limB l
    · go_wp2_with (go_at_call 19; refine (alive_any _).mono ?_; rintro e w' ⟨rfl, rfl⟩)
      go_ret
      exact ⟨rfl, c5⟩
    · have htake : limB (l.take (l.length / 2)) = true := limB_take (by omega) hok
      go_wp2_with fail
      refine (limitsValidI_of _ (l.take (l.length / 2)) _ SL.out).mono ?_
      rintro e w6 ⟨rfl, b6⟩
      rw [htake]
      go_wp2_with (go_at_call 19; refine (alive_any _).mono ?_; rintro e w' ⟨rfl, rfl⟩)
      go_ret
      exact ⟨rfl, Below.step b6 c5.size c5⟩
end Go.Proofs.Ytffppecflamcgaa
