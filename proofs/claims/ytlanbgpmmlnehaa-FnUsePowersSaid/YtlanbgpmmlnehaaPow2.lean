/- The powers, more: DropPowers, UsePowers, RunPowers, of the program and of the reference. -/
import Derived.Test.YtlanbgpmmlnehaaPow
set_option linter.unusedSimpArgs false
set_option linter.unusedVariables false
set_option linter.unusedSectionVars false
namespace Go.Proofs.Ytlanbgpmmlnehaa
open Go.RowKit

/-- x where b, else 0. -/
def selI (b : Bool) (x : Int) : Int := if b then x else 0
@[simp] theorem selI_true (x : Int) : selI true x = x := rfl
@[simp] theorem selI_false (x : Int) : selI false x = 0 := rfl
/-- x where b, else y. -/
def pickI (b : Bool) (x y : Int) : Int := if b then x else y
@[simp] theorem pickI_true (x y : Int) : pickI true x y = x := rfl
@[simp] theorem pickI_false (x y : Int) : pickI false x y = y := rfl

/-- Powers and a number are right. -/
def dropOk (m c i b g : Int) : Bool := pvI m c i b && inB g 0 63
/-- Powers and two numbers are right. -/
def runOk (m c i b g h : Int) : Bool := pvI m c i b && (inB g 0 63 && inB h 0 63)
def runMay (i b g h : Int) : Int := bits .or .i64 (bits .and .i64 i h) (bits .and .i64 b g)

theorem useI_any (m c i b n : Int) (w : World) : Calls Try.prog 12 #[.agg #[.int .i64 m, .int .i64 c, .int .i64 i, .int .i64 b], .int .i64 n] w fun e w' =>
    e = .returned (.tuple #[(.agg #[.int .i64 (selI (dropOk m c i b n) m), .int .i64 (selI (dropOk m c i b n) (pickI (amB n m) n c)), .int .i64 (selI (dropOk m c i b n) i), .int .i64 (selI (dropOk m c i b n) b)]), .bool (dropOk m c i b n && amB n m)]) ∧ Below w.heap.size w w' := by
  rcases and3 (pvI m c i b) (inB n 0 63) (amB n m) with h1 | ⟨h1, h2⟩ | ⟨h1, h2, h3⟩ | ⟨h1, h2, h3⟩
  all_goals
    have h4 : (bits .andNot .i64 n m != 0) = !(amB n m) := rfl
    first | (have h5 := h4 (by simp [dropOk, h1, h2]); simp only [h3, Bool.not_false, Bool.not_true] at h5; clear h4) | (simp only [h3, Bool.not_false, Bool.not_true] at h4) | clear h4
    go_enter Try.func12, Try.ntmps12
    go_wp2_with (first
      | (go_at_call 14; refine (pvI_any _ _ _ _ _).mono ?_; rintro e w' ⟨rfl, hb⟩; obtain ⟨d1, os1, rfl⟩ := ext_of_below hb; clear hb)
      | (go_at_call 43; refine (arePowers_any _ _).mono ?_; rintro e w' ⟨rfl, rfl⟩))
    all_goals
      refine bodyPost_ret (v := .tuple #[(.agg #[.int .i64 (selI (dropOk m c i b n) m), .int .i64 (selI (dropOk m c i b n) (pickI (amB n m) n c)), .int .i64 (selI (dropOk m c i b n) i), .int .i64 (selI (dropOk m c i b n) b)]), .bool (dropOk m c i b n && amB n m)]) ?_ rfl ⟨rfl, ?_⟩
      · first | (simp [results, Try.results12, go_sem, dropOk, h1, h2, h3]; done) | (simp [results, Try.results12, go_sem, dropOk, h1, h2]; done) | (simp [results, Try.results12, go_sem, dropOk, h1]; done)
      · (repeat (first | exact Below.refl _ _ | exact Hbl.out | refine Below.ext ?_ (by first | omega | (simp; omega) | simp) | refine Below.setCell ?_ (by first | omega | (simp; omega) | simp) _ | refine Below.alloc ?_ (by first | omega | (simp; omega) | simp) _ | refine Below.drew ?_ | refine below_drewN ?_ _ | refine Below.step (by assumption) (by first | omega | (simp; omega) | simp) ?_))

theorem useS_any (m c i b n : Int) (w : World) : Calls Try.prog 13 #[.agg #[.int .i64 m, .int .i64 c, .int .i64 i, .int .i64 b], .int .i64 n] w fun e w' =>
    e = .returned (.tuple #[(.agg #[.int .i64 (selI (dropOk m c i b n) m), .int .i64 (selI (dropOk m c i b n) (pickI (amB n m) n c)), .int .i64 (selI (dropOk m c i b n) i), .int .i64 (selI (dropOk m c i b n) b)]), .bool (dropOk m c i b n && amB n m)]) ∧ Below w.heap.size w w' := by
  rcases and3 (pvI m c i b) (inB n 0 63) (amB n m) with h1 | ⟨h1, h2⟩ | ⟨h1, h2, h3⟩ | ⟨h1, h2, h3⟩
  all_goals
    have h4 : dropOk m c i b n = true → (bits .and .i64 n m != n) = !(amB n m) := fun h => by
      unfold dropOk at h
      simp only [Bool.and_eq_true] at h
      have := among_int h.2 (pvI_m h.1)
      unfold amB; rw [← this]; rfl
    first | (have h5 := h4 (by simp [dropOk, h1, h2]); simp only [h3, Bool.not_false, Bool.not_true] at h5; clear h4) | (simp only [h3, Bool.not_false, Bool.not_true] at h4) | clear h4
    go_enter Try.func13, Try.ntmps13
    go_wp2_with (first
      | (go_at_call 44; refine (pvS_any _ _ _ _ _).mono ?_; rintro e w' ⟨rfl, hb⟩; obtain ⟨d1, os1, rfl⟩ := ext_of_below hb; clear hb)
      | (go_at_call 45; refine (l1In_any _ _ _ _).mono ?_; rintro e w' ⟨rfl, rfl⟩))
    all_goals
      refine bodyPost_ret (v := .tuple #[(.agg #[.int .i64 (selI (dropOk m c i b n) m), .int .i64 (selI (dropOk m c i b n) (pickI (amB n m) n c)), .int .i64 (selI (dropOk m c i b n) i), .int .i64 (selI (dropOk m c i b n) b)]), .bool (dropOk m c i b n && amB n m)]) ?_ rfl ⟨rfl, ?_⟩
      · first | (simp [results, Try.results13, go_sem, dropOk, h1, h2, h3]; done) | (simp [results, Try.results13, go_sem, dropOk, h1, h2]; done) | (simp [results, Try.results13, go_sem, dropOk, h1]; done)
      · (repeat (first | exact Below.refl _ _ | exact Hbl.out | refine Below.ext ?_ (by first | omega | (simp; omega) | simp) | refine Below.setCell ?_ (by first | omega | (simp; omega) | simp) _ | refine Below.alloc ?_ (by first | omega | (simp; omega) | simp) _ | refine Below.drew ?_ | refine below_drewN ?_ _ | refine Below.step (by assumption) (by first | omega | (simp; omega) | simp) ?_))

end Go.Proofs.Ytlanbgpmmlnehaa
