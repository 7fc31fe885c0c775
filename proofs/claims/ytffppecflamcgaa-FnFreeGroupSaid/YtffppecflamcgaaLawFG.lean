/- The drawn law on FreeGroup: the walk. -/
import Derived.Test.YtffppecflamcgaaDrawL3
import Derived.Test.YtffppecflamcgaaAppG
import Derived.Test.YtffppecflamcgaaUseI
import Derived.Test.YtffppecflamcgaaFreeS
import Derived.Test.YtffppecflamcgaaUseS
import Derived.Test.YtffppecflamcgaaName
set_option linter.unusedSimpArgs false
set_option linter.unusedVariables false
set_option linter.unusedSectionVars false
namespace Go.Proofs.Ytffppecflamcgaa
open Go.RowKit

theorem eqL_self (l : List T3) : eqL l l = true := decide_eq_true rfl
theorem free_cases (l : List T3) (n m : Int) : freeF l n m = ([], false) ∨ freeF l n m = (l, false) ∨ (roomOk l n = true ∧ 0 ≤ m ∧ limB (chgL l n (-m)) = true ∧ freeF l n m = (chgL l n (-m), true)) := by
  by_cases h1 : roomF l n < 0 ∨ m < 0
  · exact .inl (freeF_no h1)
  · have h2 : ¬ roomF l n < 0 := by omega
    have h3 : ¬ m < 0 := by omega
    cases h4 : limB (chgL l n (-m))
    · exact .inr (.inl (freeF_bad h2 h3 h4))
    · rcases room_cases l n with ⟨hok, _⟩ | ⟨_, hno⟩
      · exact .inr (.inr ⟨hok, by omega, rfl, freeF_yes h2 h3 h4⟩)
      · omega
set_option maxHeartbeats 2000000 in
theorem walkFnFreeGroup (a : Option Addr) (len cap : Nat) (zs : List Int) (w : World) (hrow : IsRow .u8 w a len cap zs) :
    Calls Try.prog 10 #[.slice a len cap] w fun e w' => e = .returned (.bool true) ∧ Below w.heap.size w w' := by
  obtain ⟨hl1, hl2⟩ := hrow.len_le
  unfold maxLen at hl2
  by_cases hbig : (1048576 : Int) < (len : Int)
  · go_enter Try.func10, Try.ntmps10
    go_wp2
    go_ret
    exact ⟨rfl, Below.refl _ _⟩
  · go_enter Try.func10, Try.ntmps10
    go_wp2_with fail
    refine (drawFG_any a len cap zs _ hrow).mono ?_
    rintro e w1 ⟨v, l, n, m, rfl, hl, n0, n1, m1, o1, b1⟩
    go_wp2_with fail
    have hk := free_cases l n m
    rcases hk with hk | hk | ⟨hok, m0, hx, hk⟩
    · have H2 := freeI_of v l n m w1 (own_sl3 o1) m1
      rw [hk] at H2
      refine H2.mono ?_
      rintro e w2 ⟨x, rfl, ox, b2⟩
      clear H2
      have o2 := own_below o1 b2
      have c2 := Below.step b2 b1.size b1
      go_wp2_with fail
      have H3 := freeS_of v l n m w2 (own_sl3 o2) (by omega)
      rw [hk] at H3
      refine H3.mono ?_
      rintro e w3 ⟨y, rfl, oy, b3⟩
      clear H3
      have o3 := own_below o2 b3
      have ox3 := own_below ox b3
      have c3 := Below.step b3 c2.size c2
      go_wp2_with fail
      refine (sameLimits_of _ _ _ _ _ (own_sl3 ox3) (own_sl3 oy)).mono ?_
      rintro e w4 ⟨rfl, b4⟩
      rw [eqL_self]
      have o4 := own_below o3 b4
      have ox4 := own_below ox3 b4
      have c4 := Below.step b4 c3.size c3
      have C4 := Lib.hid c4
      go_wp2_with fail
      refine (sameLimits_of _ _ _ _ _ (own_sl3 ox4) (own_sl3 o4)).mono ?_
      rintro e w5 ⟨rfl, b5⟩
      have c5 := Below.step b5 c4.size c4
      obtain ⟨A2, k2, rfl⟩ := own_shape ox4
      clear ox ox3 ox4 o4
      have hc : eqL [] l = true ∨ eqL [] l = false := (Bool.eq_false_or_eq_true _)
      rcases hc with hc | hc
      all_goals
        rw [hc]
        go_wp2_with (go_at_call 19; refine (alive_any _).mono ?_; rintro e w' ⟨rfl, rfl⟩)
        go_ret
        exact ⟨rfl, c5⟩
    · have H2 := freeI_of v l n m w1 (own_sl3 o1) m1
      rw [hk] at H2
      refine H2.mono ?_
      rintro e w2 ⟨x, rfl, ox, b2⟩
      clear H2
      have o2 := own_below o1 b2
      have c2 := Below.step b2 b1.size b1
      go_wp2_with fail
      have H3 := freeS_of v l n m w2 (own_sl3 o2) (by omega)
      rw [hk] at H3
      refine H3.mono ?_
      rintro e w3 ⟨y, rfl, oy, b3⟩
      clear H3
      have o3 := own_below o2 b3
      have ox3 := own_below ox b3
      have c3 := Below.step b3 c2.size c2
      go_wp2_with fail
      refine (sameLimits_of _ _ _ _ _ (own_sl3 ox3) (own_sl3 oy)).mono ?_
      rintro e w4 ⟨rfl, b4⟩
      rw [eqL_self]
      have o4 := own_below o3 b4
      have ox4 := own_below ox3 b4
      have c4 := Below.step b4 c3.size c3
      have C4 := Lib.hid c4
      go_wp2_with fail
      refine (sameLimits_of _ _ _ _ _ (own_sl3 ox4) (own_sl3 o4)).mono ?_
      rintro e w5 ⟨rfl, b5⟩
      have c5 := Below.step b5 c4.size c4
      obtain ⟨A2, k2, rfl⟩ := own_shape ox4
      clear ox ox3 ox4 o4
      rw [eqL_self]
      go_wp2_with (go_at_call 19; refine (alive_any _).mono ?_; rintro e w' ⟨rfl, rfl⟩)
      go_ret
      exact ⟨rfl, c5⟩
    · have H2 := freeI_of v l n m w1 (own_sl3 o1) m1
      rw [hk] at H2
      refine H2.mono ?_
      rintro e w2 ⟨x, rfl, ox, b2⟩
      clear H2
      have o2 := own_below o1 b2
      have c2 := Below.step b2 b1.size b1
      go_wp2_with fail
      have H3 := freeS_of v l n m w2 (own_sl3 o2) (by omega)
      rw [hk] at H3
      refine H3.mono ?_
      rintro e w3 ⟨y, rfl, oy, b3⟩
      clear H3
      have o3 := own_below o2 b3
      have ox3 := own_below ox b3
      have c3 := Below.step b3 c2.size c2
      go_wp2_with fail
      refine (sameLimits_of _ _ _ _ _ (own_sl3 ox3) (own_sl3 oy)).mono ?_
      rintro e w4 ⟨rfl, b4⟩
      rw [eqL_self]
      have o4 := own_below o3 b4
      have ox4 := own_below ox3 b4
      have c4 := Below.step b4 c3.size c3
      have C4 := Lib.hid c4
      go_wp2_with fail
      have H5 := chargeI_of x (chgL l n (-m)) n m w4 (own_sl3 ox4)
      rw [free_back hok m0 hx] at H5
      refine H5.mono ?_
      rintro e w5 ⟨z, rfl, oz, b5⟩
      clear H5
      have o5 := own_below o4 b5
      have ox5 := own_below ox4 b5
      have c5 := Below.step b5 c4.size c4
      go_wp2_with fail
      refine (limitsValidI_of _ _ _ (own_sl3 ox5)).mono ?_
      rintro e w6 ⟨rfl, b6⟩
      rw [hx]
      have o6 := own_below o5 b6
      have ox6 := own_below ox5 b6
      have oz6 := own_below oz b6
      have c6 := Below.step b6 c5.size c5
      go_wp2_with fail
      refine (sameLimits_of _ _ _ _ _ (own_sl3 oz6) (own_sl3 o6)).mono ?_
      rintro e w9 ⟨rfl, b9⟩
      rw [eqL_self]
      have c9 := Below.step b9 c6.size c6
      go_wp2
      go_ret
      exact ⟨rfl, c9⟩
end Go.Proofs.Ytffppecflamcgaa
