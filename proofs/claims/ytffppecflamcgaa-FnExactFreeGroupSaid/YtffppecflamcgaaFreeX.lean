/- The exact law on FreeGroup: the walk. -/
import Derived.Test.YtffppecflamcgaaToLimit
import Derived.Test.YtffppecflamcgaaMark
import Derived.Test.YtffppecflamcgaaUseI
import Derived.Test.YtffppecflamcgaaFreeS
set_option linter.unusedSimpArgs false
set_option linter.unusedVariables false
set_option linter.unusedSectionVars false
namespace Go.Proofs.Ytffppecflamcgaa
open Go.RowKit

theorem freeF_short (l : List T3) (n d : Int) (h : l.length ≤ 1048576) : (freeF l n d).1.length ≤ 1048576 := by
  unfold freeF
  split
  · simp
  · split
    · first | exact h | (rw [chgL_len]; exact h)
    · first | exact h | (rw [chgL_len]; exact h)

set_option maxHeartbeats 4000000 in
theorem walkFnExactFreeGroup (A : Option Addr) (cap : Nat) (l : List (Int × Int × Int)) (n d : Int) (w : World) (h0 : Sl3 w (.slice A l.length cap) l) (hn : l.length ≤ cap) (hc : cap ≤ maxLen) (hn1 : (Lit.int .i64 n).wf = true) (hd1 : (Lit.int .i64 d).wf = true) :
    Calls Try.prog 7 #[.slice A l.length cap, .int .i64 n, .int .i64 d] w fun e w' => e = .returned (.bool true) ∧ Below w.heap.size w w' := by
  by_cases hm : (1048576 : Int) < (l.length : Int)
  · have hv := szV_no hm
    clear hn1 hd1
    go_enter Try.func7, Try.ntmps7
    go_wp2_with (go_at_call 11; refine (szLimitS_any _ _ _ _ _ hn hc (by decide) (by decide)).mono ?_; rintro e w' ⟨rfl, rfl⟩; simp only [hv])
    go_ret
    exact ⟨rfl, Below.refl _ _⟩
  · have hv := szV_yes hm
    have hm' : l.length ≤ 1048576 := by omega
    have hp : ¬ (1048576 : Int) - (l.length : Int) < 0 := by omega
    have hdd : d ≤ 9223372036854775807 := by
      have h := hd1
      simp only [Lit.wf, Bool.and_eq_true, decide_eq_true_eq] at h
      exact h.2
    clear hn1 hd1
    have hs := freeF_short l n d hm'
    obtain ⟨R, hR⟩ : ∃ R, R = freeF l n d := ⟨_, rfl⟩
    rw [← hR] at hs
    have HR := Lib.hid hR; clear hR
    have hk : ¬ (1 : Int) + 3 * (l.length : Int) < 0 := by omega
    have hq : ¬ (1 : Int) + 3 * (R.1.length : Int) < 0 := by omega
    go_enter Try.func7, Try.ntmps7
    go_wp2_with (go_at_call 11; refine (szLimitS_any _ _ _ _ _ hn hc (by decide) (by decide)).mono ?_; rintro e w' ⟨rfl, rfl⟩; simp only [hv])
    go_wp2_with fail
    refine (toLimitS_of _ l _ h0 hm').mono ?_
    rintro e w1 ⟨rfl, o1, b1⟩
    have c1 := b1
    have L_1 : Own _ w1 _ l := o1
    clear o1
    go_wp2_with fail
    refine (freeS_of _ l n d _ (own_sl3 L_1) hm').mono ?_
    rintro e w2 ⟨vW, rfl, o2, b2⟩
    rw [← HR.out] at o2 ⊢
    have L_2 := own_below L_1 b2
    have c2 := Below.step b2 c1.size c1
    have W_2 : Own _ w2 _ R.1 := o2
    clear o2
    go_wp2_with fail
    refine (toLimitS_of _ l _ (h0.below c2) hm').mono ?_
    rintro e w3 ⟨rfl, o3, b3⟩
    have W_3 := own_below W_2 b3
    have c3 := Below.step b3 c2.size c2
    have X_3 : Own _ w3 _ l := o3
    clear o3
    have apWX := apart_of W_3 X_3 (Nat.le_refl _) W_2
    go_wp2_with fail
    refine (freeI_of _ l n d _ (own_sl3 X_3) hdd).mono ?_
    rintro e w4 ⟨vG, rfl, o4, b4⟩
    rw [← HR.out] at o4 ⊢
    have W_4 := own_below W_3 b4
    have X_4 := own_below X_3 b4
    have c4 := Below.step b4 c3.size c3
    have G_4 : Own _ w4 _ R.1 := o4
    clear o4
    have apXG := apart_of X_4 G_4 (Nat.le_refl _) X_3
    have apWG := apart_of W_4 G_4 (Nat.le_refl _) W_3
    have apGX := apart_fo X_4 G_4 (Nat.le_refl _) X_3
    go_wp2_with fail
    refine (eqLimitS_of _ _ R.1 _ (own_sl3 G_4) (own_sl3 W_4)).mono ?_
    rintro e w5 ⟨rfl, b5⟩
    have W_5 := own_below W_4 b5
    have X_5 := own_below X_4 b5
    have G_5 := own_below G_4 b5
    have c5 := Below.step b5 c4.size c4
    go_wp2_with fail
    refine (toLimitS_of _ l _ (h0.below c5) hm').mono ?_
    rintro e w6 ⟨rfl, o6, b6⟩
    have W_6 := own_below W_5 b6
    have X_6 := own_below X_5 b6
    have G_6 := own_below G_5 b6
    have c6 := Below.step b6 c5.size c5
    have Y_6 : Own _ w6 _ l := o6
    clear o6
    go_wp2_with fail
    refine (eqLimitS_of _ _ l _ (own_sl3 X_6) (own_sl3 Y_6)).mono ?_
    rintro e w7 ⟨rfl, b7⟩
    have W_7 := own_below W_6 b7
    have X_7 := own_below X_6 b7
    have G_7 := own_below G_6 b7
    have Y_7 := own_below Y_6 b7
    have c7 := Below.step b7 c6.size c6
    go_wp2_with fail
    refine (mark_of _ _ l _ X_7 hm').mono ?_
    rintro e w8 ⟨rfl, o8, g8⟩
    have c8 := c7.grown g8 c7.size (fun j hj => Nat.le_trans c2.size (X_7.lt j hj).1)
    have W_8 := own_kept W_7 g8 apWX
    have G_8 := own_kept G_7 g8 apGX
    have X_8 : Own _ w8 _ (markL l.length) := o8
    clear o8
    go_wp2_with fail
    refine (eqLimitS_of _ _ R.1 _ (own_sl3 G_8) (own_sl3 W_8)).mono ?_
    rintro e w9 ⟨rfl, b9⟩
    have W_9 := own_below W_8 b9
    have G_9 := own_below G_8 b9
    have c9 := Below.step b9 c8.size c8
    go_wp2_with fail
    refine (mark_of _ _ R.1 _ G_9 hs).mono ?_
    rintro e w10 ⟨rfl, o10, g10⟩
    have c10 := c9.grown g10 c9.size (fun j hj => Nat.le_trans c3.size (G_9.lt j hj).1)
    have W_10 := own_kept W_9 g10 apWG
    have G_10 : Own _ w10 _ (markL R.1.length) := o10
    clear o10
    go_wp2_with fail
    refine (held_of _ R.1.length _ (own_sl3 G_10) hs).mono ?_
    rintro e w11 ⟨rfl, b11⟩
    have W_11 := own_below W_10 b11
    have G_11 := own_below G_10 b11
    have c11 := Below.step b11 c10.size c10
    go_wp2_with fail
    refine (toLimitS_of _ l _ (h0.below c11) hm').mono ?_
    rintro e w12 ⟨rfl, o12, b12⟩
    have W_12 := own_below W_11 b12
    have G_12 := own_below G_11 b12
    have c12 := Below.step b12 c11.size c11
    have Z_12 : Own _ w12 _ l := o12
    clear o12
    go_wp2_with fail
    refine (freeI_of _ l n d _ (own_sl3 Z_12) hdd).mono ?_
    rintro e w13 ⟨vH, rfl, o13, b13⟩
    rw [← HR.out] at o13 ⊢
    have W_13 := own_below W_12 b13
    have G_13 := own_below G_12 b13
    have Z_13 := own_below Z_12 b13
    have c13 := Below.step b13 c12.size c12
    have H_13 : Own _ w13 _ R.1 := o13
    clear o13
    go_wp2_with fail
    refine (eqLimitS_of _ _ R.1 _ (own_sl3 H_13) (own_sl3 W_13)).mono ?_
    rintro e w14 ⟨rfl, b14⟩
    have W_14 := own_below W_13 b14
    have G_14 := own_below G_13 b14
    have H_14 := own_below H_13 b14
    have c14 := Below.step b14 c13.size c13
    go_wp2_with fail
    refine (held_of _ R.1.length _ (own_sl3 G_14) hs).mono ?_
    rintro e w15 ⟨rfl, b15⟩
    have W_15 := own_below W_14 b15
    have G_15 := own_below G_14 b15
    have H_15 := own_below H_14 b15
    have c15 := Below.step b15 c14.size c14
    go_wp2
    go_ret
    exact ⟨rfl, c15⟩
end Go.Proofs.Ytffppecflamcgaa