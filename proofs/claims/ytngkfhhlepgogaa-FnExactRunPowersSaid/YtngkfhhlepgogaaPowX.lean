/- The exact laws on powers: the walks. -/
import Derived.Test.YtngkfhhlepgogaaPow2
set_option linter.unusedSimpArgs false
set_option linter.unusedVariables false
set_option linter.unusedSectionVars false
namespace Go.Proofs.Ytngkfhhlepgogaa
open Go.RowKit

theorem toPowers_any (m c i b : Int) (w : World) : Calls Try.prog 13 #[.agg #[.int .i64 m, .int .i64 c, .int .i64 i, .int .i64 b]] w fun e w' =>
    e = .returned (.agg #[.int .i64 m, .int .i64 c, .int .i64 i, .int .i64 b]) ∧ Below w.heap.size w w' := by
  go_enter Try.func13, Try.ntmps13
  go_wp2
  refine bodyPost_ret (v := .agg #[.int .i64 m, .int .i64 c, .int .i64 i, .int .i64 b]) ?_ rfl ⟨rfl, ?_⟩
  · simp [results, Try.results13, go_sem]
  · (repeat (first | exact Below.refl _ _ | refine Below.ext ?_ (by simp; try omega) | refine Below.setCell ?_ (by simp; try omega) _ | refine Below.alloc ?_ (by simp; try omega) _ | refine Below.drew ?_ | refine Below.step (by assumption) (by simp; try omega) ?_))
theorem eqPowers_same (m c i b : Int) (w : World) : Calls Try.prog 15 #[.agg #[.int .i64 m, .int .i64 c, .int .i64 i, .int .i64 b], .agg #[.int .i64 m, .int .i64 c, .int .i64 i, .int .i64 b]] w fun e w' =>
    e = .returned (.bool true) ∧ Below w.heap.size w w' := by
  go_enter Try.func15, Try.ntmps15
  go_wp2
  go_ret
  exact ⟨rfl, (by (repeat (first | exact Below.refl _ _ | refine Below.ext ?_ (by simp; try omega) | refine Below.setCell ?_ (by simp; try omega) _ | refine Below.alloc ?_ (by simp; try omega) _ | refine Below.drew ?_ | refine Below.step (by assumption) (by simp; try omega) ?_)))⟩

theorem walkFnExactDropPowers (m c i b : Int) (g : Int) (w : World) : Calls Try.prog 3 #[.agg #[.int .i64 m, .int .i64 c, .int .i64 i, .int .i64 b], .int .i64 g] w fun e w' =>
    e = .returned (.bool true) ∧ Below w.heap.size w w' := by
  go_enter Try.func3, Try.ntmps3
  go_wp2_with (first
      | (go_at_call 13; refine (toPowers_any _ _ _ _ _).mono ?_; rintro e w' ⟨rfl, hb⟩; obtain ⟨d1, os1, rfl⟩ := ext_of_below hb; clear hb)
      | (go_at_call 15; refine (eqPowers_same _ _ _ _ _).mono ?_; rintro e w' ⟨rfl, hb⟩; obtain ⟨d1, os1, rfl⟩ := ext_of_below hb; clear hb)
      | (go_at_call 12; refine (dropS_any _ _ _ _ _ _).mono ?_; rintro e w' ⟨rfl, hb⟩; obtain ⟨d1, os1, rfl⟩ := ext_of_below hb; clear hb)
      | (go_at_call 14; refine (dropI_any _ _ _ _ _ _).mono ?_; rintro e w' ⟨rfl, hb⟩; obtain ⟨d1, os1, rfl⟩ := ext_of_below hb; clear hb))
  go_ret
  exact ⟨rfl, (by (repeat (first | exact Below.refl _ _ | refine Below.ext ?_ (by simp; try omega) | refine Below.setCell ?_ (by simp; try omega) _ | refine Below.alloc ?_ (by simp; try omega) _ | refine Below.drew ?_ | refine Below.step (by assumption) (by simp; try omega) ?_)))⟩

theorem walkFnExactUsePowers (m c i b : Int) (g : Int) (w : World) : Calls Try.prog 5 #[.agg #[.int .i64 m, .int .i64 c, .int .i64 i, .int .i64 b], .int .i64 g] w fun e w' =>
    e = .returned (.bool true) ∧ Below w.heap.size w w' := by
  go_enter Try.func5, Try.ntmps5
  go_wp2_with (first
      | (go_at_call 13; refine (toPowers_any _ _ _ _ _).mono ?_; rintro e w' ⟨rfl, hb⟩; obtain ⟨d1, os1, rfl⟩ := ext_of_below hb; clear hb)
      | (go_at_call 15; refine (eqPowers_same _ _ _ _ _).mono ?_; rintro e w' ⟨rfl, hb⟩; obtain ⟨d1, os1, rfl⟩ := ext_of_below hb; clear hb)
      | (go_at_call 18; refine (useS_any _ _ _ _ _ _).mono ?_; rintro e w' ⟨rfl, hb⟩; obtain ⟨d1, os1, rfl⟩ := ext_of_below hb; clear hb)
      | (go_at_call 19; refine (useI_any _ _ _ _ _ _).mono ?_; rintro e w' ⟨rfl, hb⟩; obtain ⟨d1, os1, rfl⟩ := ext_of_below hb; clear hb))
  go_ret
  exact ⟨rfl, (by (repeat (first | exact Below.refl _ _ | refine Below.ext ?_ (by simp; try omega) | refine Below.setCell ?_ (by simp; try omega) _ | refine Below.alloc ?_ (by simp; try omega) _ | refine Below.drew ?_ | refine Below.step (by assumption) (by simp; try omega) ?_)))⟩

theorem walkFnExactRunPowers (m c i b : Int) (g h : Int) (u : Bool) (w : World) : Calls Try.prog 4 #[.agg #[.int .i64 m, .int .i64 c, .int .i64 i, .int .i64 b], .int .i64 g, .int .i64 h, .bool u] w fun e w' =>
    e = .returned (.bool true) ∧ Below w.heap.size w w' := by
  go_enter Try.func4, Try.ntmps4
  go_wp2_with (first
      | (go_at_call 13; refine (toPowers_any _ _ _ _ _).mono ?_; rintro e w' ⟨rfl, hb⟩; obtain ⟨d1, os1, rfl⟩ := ext_of_below hb; clear hb)
      | (go_at_call 15; refine (eqPowers_same _ _ _ _ _).mono ?_; rintro e w' ⟨rfl, hb⟩; obtain ⟨d1, os1, rfl⟩ := ext_of_below hb; clear hb)
      | (go_at_call 16; refine (runS_any _ _ _ _ _ _ _ _).mono ?_; rintro e w' ⟨rfl, hb⟩; obtain ⟨d1, os1, rfl⟩ := ext_of_below hb; clear hb)
      | (go_at_call 17; refine (runI_any _ _ _ _ _ _ _ _).mono ?_; rintro e w' ⟨rfl, hb⟩; obtain ⟨d1, os1, rfl⟩ := ext_of_below hb; clear hb))
  go_ret
  exact ⟨rfl, (by (repeat (first | exact Below.refl _ _ | refine Below.ext ?_ (by simp; try omega) | refine Below.setCell ?_ (by simp; try omega) _ | refine Below.alloc ?_ (by simp; try omega) _ | refine Below.drew ?_ | refine Below.step (by assumption) (by simp; try omega) ?_)))⟩
end Go.Proofs.Ytngkfhhlepgogaa
