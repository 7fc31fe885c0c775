/- The package's 'ClassOf' and 'MayDo', for valid arguments. -/
import Derived.Test.YthfneaaenlgegaaDoorMayI
set_option linter.unusedSimpArgs false
set_option linter.unusedVariables false
set_option linter.unusedSectionVars false
namespace Go.Proofs.YthfneaaenlgegaaDoor
open Go.RowKit

theorem clsF_range (b d owner group : Int) : 0 ≤ clsF b d owner group := by
  unfold clsF
  split
  · decide
  · split <;> decide
set_option maxHeartbeats 4000000 in
theorem classIv_any (a b c d owner group : Int) (w : World) (g1 : credB a b c d = true) (g2 : inB owner 0 99 = true) (g3 : inB group 0 7 = true) : Calls Tryd.prog 62 #[.agg #[.int .i64 a, .int .i64 b, .int .i64 c, .int .i64 d], .int .i64 owner, .int .i64 group] w fun e w' => e = .returned (.int .i64 (clsF b d owner group)) ∧ Below w.heap.size w w' := by
  have HC := Lib.hid (fun w => clsI_any a b c d owner group w)
  have HV := Lib.hid (fun w => credI_any a b c d w)
  generalize clsF b d owner group = cl at HC
  go_enter Tryd.func62, Tryd.ntmps62
  go_wp2_with (first | (go_at_call 82; refine (isUserI_any _ _).mono ?_; rintro e w' ⟨rfl, rfl⟩) | (go_at_call 83; refine (isGroupI_any _ _).mono ?_; rintro e w' ⟨rfl, rfl⟩) | (go_at_call 92; refine (HC.out _).mono ?_; rintro e w' ⟨rfl, hb⟩; obtain ⟨d1, os1, rfl⟩ := ext_of_below hb; clear hb) | (go_at_call 49; refine (HV.out _).mono ?_; rintro e w' ⟨rfl, hb⟩; obtain ⟨d1, os1, rfl⟩ := ext_of_below hb; clear hb; rw [g1]))
  all_goals
    go_ret
    exact ⟨rfl, (by (repeat (first | exact Below.refl _ _ | exact Hbl.out | refine Below.ext ?_ (by first | omega | (simp; omega) | simp) | refine Below.setCell ?_ (by first | omega | (simp; omega) | simp) _ | refine Below.alloc ?_ (by first | omega | (simp; omega) | simp) _ | refine Below.drew ?_ | refine below_drewN ?_ _ | refine Below.step (by assumption) (by first | omega | (simp; omega) | simp) ?_)))⟩
set_option maxHeartbeats 4000000 in
theorem mayDoI_any (a b c d owner group mode want : Int) (w : World) (g1 : credB a b c d = true) (g2 : inB owner 0 99 = true) (g3 : inB group 0 7 = true) (g4 : inB mode 0 1023 = true) (g5 : inB want 0 7 = true) :
    Calls Tryd.prog 27 #[.agg #[.int .i64 a, .int .i64 b, .int .i64 c, .int .i64 d], .int .i64 owner, .int .i64 group, .int .i64 mode, .int .i64 want] w fun e w' => e = .returned (.bool (mayF a b c d owner group mode want)) ∧ Below w.heap.size w w' := by
  have HC := Lib.hid (fun w => classIv_any a b c d owner group w g1 g2 g3)
  have HV := Lib.hid (fun w => mayI_any a b c d owner group mode want w g1 g2 g3 g4 g5)
  have h0 := clsF_range b d owner group
  generalize clsF b d owner group = cl at HC h0
  generalize mayF a b c d owner group mode want = r at HV
  have h1 : decide (0 ≤ cl) = true := decide_eq_true h0
  go_enter Tryd.func27, Tryd.ntmps27
  go_wp2_with (first | (go_at_call 63; refine (isModeI_any _ _).mono ?_; rintro e w' ⟨rfl, rfl⟩) | (go_at_call 60; refine (isRightsJ_any _ _).mono ?_; rintro e w' ⟨rfl, rfl⟩) | (go_at_call 62; refine (HC.out _).mono ?_; rintro e w' ⟨rfl, hb⟩; obtain ⟨d1, os1, rfl⟩ := ext_of_below hb; clear hb) | (go_at_call 64; refine (HV.out _).mono ?_; rintro e w' ⟨rfl, hb⟩; obtain ⟨d2, os2, rfl⟩ := ext_of_below hb; clear hb))
  all_goals
    go_ret
    exact ⟨rfl, (by (repeat (first | exact Below.refl _ _ | exact Hbl.out | refine Below.ext ?_ (by first | omega | (simp; omega) | simp) | refine Below.setCell ?_ (by first | omega | (simp; omega) | simp) _ | refine Below.alloc ?_ (by first | omega | (simp; omega) | simp) _ | refine Below.drew ?_ | refine below_drewN ?_ _ | refine Below.step (by assumption) (by first | omega | (simp; omega) | simp) ?_)))⟩
end Go.Proofs.YthfneaaenlgegaaDoor
