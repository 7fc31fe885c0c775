/- The powers: contracts of the program's functions and of the reference's. -/
import Derived.Test.YtlanbgpmmlnehaaBase
import Derived.Test.YtlanbgpmmlnehaaBits
set_option linter.unusedSimpArgs false
set_option linter.unusedVariables false
set_option linter.unusedSectionVars false
namespace Go.Proofs.Ytlanbgpmmlnehaa
open Go.RowKit

/-- n is among m. -/
def amB (n m : Int) : Bool := bits .andNot .i64 n m == 0
def pvI (m c i b : Int) : Bool := inB m 0 63 && (inB c 0 63 && (inB i 0 63 && (inB b 0 63 && amB c m)))
theorem inB_iff {n lo hi : Int} : inB n lo hi = true ↔ lo ≤ n ∧ n ≤ hi := by simp [inB]
theorem among_int {c m : Int} (hc : inB c 0 63 = true) (hm : inB m 0 63 = true) : (bits .and .i64 c m == c) = (bits .andNot .i64 c m == 0) := by
  obtain ⟨h1, h2⟩ := inB_iff.1 hc
  obtain ⟨h3, h4⟩ := inB_iff.1 hm
  obtain ⟨c, rfl⟩ := Int.eq_ofNat_of_zero_le h1
  obtain ⟨m, rfl⟩ := Int.eq_ofNat_of_zero_le h3
  rw [and_nat c m (by omega) (by omega), andNot_nat c m (by omega) (by omega)]
  have := among c m (by omega) (by omega)
  by_cases h : lessN c m = 0
  · have h' := this.1 h
    rw [h, h']; simp
  · have h' : ¬ (c &&& m = c) := fun e => h (this.2 e)
    rw [beq_eq_false_iff_ne.2 (by omega), beq_eq_false_iff_ne.2 (by omega)]

theorem pvI_m {m c i b : Int} (h : pvI m c i b = true) : inB m 0 63 = true := by
  unfold pvI at h
  simp only [Bool.and_eq_true] at h
  exact h.1
theorem pvI_any (m c i b : Int) (w : World) : Calls Try.prog 14 #[.agg #[.int .i64 m, .int .i64 c, .int .i64 i, .int .i64 b]] w fun e w' => e = .returned (.bool (pvI m c i b)) ∧ Below w.heap.size w w' := by
  unfold pvI amB
  rcases and4 (inB m 0 63) (inB c 0 63) (inB i 0 63) (inB b 0 63) with h1 | ⟨h1, h2⟩ | ⟨h1, h2, h3⟩ | ⟨h1, h2, h3, h4⟩ | ⟨h1, h2, h3, h4⟩
  all_goals
    go_enter Try.func14, Try.ntmps14
    go_wp2_with (go_at_call 43; refine (arePowers_any _ _).mono ?_; rintro e w' ⟨rfl, rfl⟩)
    go_ret
    exact ⟨by simp [*], by repeat (first | exact Below.refl _ _ | refine Below.alloc ?_ (by simp) _)⟩
theorem pvS_any (m c i b : Int) (w : World) : Calls Try.prog 44 #[.agg #[.int .i64 m, .int .i64 c, .int .i64 i, .int .i64 b]] w fun e w' => e = .returned (.bool (pvI m c i b)) ∧ Below w.heap.size w w' := by
  unfold pvI amB
  rcases and4 (inB m 0 63) (inB c 0 63) (inB i 0 63) (inB b 0 63) with h1 | ⟨h1, h2⟩ | ⟨h1, h2, h3⟩ | ⟨h1, h2, h3, h4⟩ | ⟨h1, h2, h3, h4⟩
  all_goals
    go_enter Try.func44, Try.ntmps44
    go_wp2_with (go_at_call 45; refine (l1In_any _ _ _ _).mono ?_; rintro e w' ⟨rfl, rfl⟩)
    go_ret
    exact ⟨by first | (rw [among_int h2 h1]; simp [*]; done) | (simp [*]; done), by repeat (first | exact Below.refl _ _ | refine Below.alloc ?_ (by simp) _)⟩

end Go.Proofs.Ytlanbgpmmlnehaa
