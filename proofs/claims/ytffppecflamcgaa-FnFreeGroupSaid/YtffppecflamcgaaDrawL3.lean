/- Limits: the draws of the laws on ChargeGroup and FreeGroup. -/
import Derived.Test.YtffppecflamcgaaDrawL2
set_option linter.unusedSimpArgs false
set_option linter.unusedVariables false
set_option linter.unusedSectionVars false
namespace Go.Proofs.Ytffppecflamcgaa
open Go.RowKit

theorem selN_le {e a : Int} (h : a < 40) : selN e [a, 10000, 9223372036854775807, -1] ≤ 9223372036854775807 := by
  unfold selN
  match e.toNat with
  | 0 => simp; omega
  | 1 => simp
  | 2 => simp
  | 3 => simp
  | n + 4 => simp
/-- A list of limits, the call's own, a group, and how much are handed back. -/
def GotC (w : World) (e : Ending) (w' : World) : Prop := ∃ v l n m, e = .returned (.tuple #[v, .int .i64 n, .int .i64 m]) ∧ l.length ≤ 7 ∧ -1 ≤ n ∧ n ≤ 8 ∧ m ≤ 9223372036854775807 ∧ Own w.heap.size w' v l ∧ Below w.heap.size w w'
set_option maxHeartbeats 8000000 in
theorem drawCG_any (a : Option Addr) (len cap : Nat) (zs : List Int) (w : World) (hrow : IsRow .u8 w a len cap zs) : Calls Try.prog 27 #[.slice a len cap] w (GotC w) := by
  go_enter Try.func27, Try.ntmps27
  go_wp2_with (go_at_call 35; refine (open_any _ _ _ _ _ (IsRow.below hrow (by repeat (first | exact Below.refl _ _ | refine Below.alloc ?_ (by simp; try omega) _)))).mono ?_; rintro e w' ⟨A, le, ca, rfl, rfl, zs', hby⟩; (try simp only [World.size_alloc] at hby))
  refine (drew_l hby (by decide) (by decide)).mono ?_
  rintro e w1 ⟨v, l, q, rfl, hl, q1, q2, hr, ow, bl⟩
  obtain ⟨A1, c1, rfl⟩ := own_shape ow
  have Ow := Lib.hid ow; clear ow
  have hR := hr.lt
  (go_wp2_with fail); refine (pick_any _ ?_ _ _ ?_ ?_).mono ?_; rotate_left; (focus ((repeat (first | assumption | refine Rd.ext ?_ | refine Rd.drew ?_ | refine Rd.drewN ?_ | refine Rd.set (by assumption) ?_ | refine Rd.lit (by assumption) (by simp) ?_ | refine Rd.alloc ?_ _ | omega)))); (focus omega); rintro e w' ⟨x, dx, rfl, lx, hx, h2, rfl⟩; replace hx := hx (by omega); clear h2
  (go_wp2_with fail); refine (pick_any _ ?_ _ _ ?_ ?_).mono ?_; rotate_left; (focus ((repeat (first | assumption | refine Rd.ext ?_ | refine Rd.drew ?_ | refine Rd.drewN ?_ | refine Rd.set (by assumption) ?_ | refine Rd.lit (by assumption) (by simp) ?_ | refine Rd.alloc ?_ _ | omega)))); (focus omega); rintro e w' ⟨y, dy, rfl, ly, hy, h2, rfl⟩; replace hy := hy (by omega); clear h2
  go_wp2
  go_region_with (first | ((go_at_call 37; refine (pick_any _ ?_ _ _ ?_ ?_).mono ?_; rotate_left; (focus ((repeat (first | assumption | refine Rd.ext ?_ | refine Rd.drew ?_ | refine Rd.drewN ?_ | refine Rd.set (by assumption) ?_ | refine Rd.lit (by assumption) (by simp) ?_ | refine Rd.alloc ?_ _ | omega)))); (focus omega); rintro e w' ⟨v, d, rfl, h0, h1, h2, rfl⟩; replace h1 := h1 (by omega); clear h2); (first | (have hs' : v < 7 := h1; have hs := sel7_bd h0 hs'; clear hs'; obtain ⟨hs0, hs1⟩ := hs) | skip)))
  all_goals
    go_wp2
    simp [bodyPost, results, Try.results27, go_sem]
    exact ⟨_, l, _, _, rfl, hl, by omega, by omega, selN_le (by assumption), own_mono (B := w.heap.size + 1) (by repeat (first | exact own_set Ow.out (by omega) | refine own_ext' ?_ | refine own_alloc ?_ _)) (by omega), (by (repeat (first | exact Below.refl _ _ | exact Hbl.out | refine Below.ext ?_ (by first | omega | (simp; omega) | simp) | refine Below.setCell ?_ (by first | omega | (simp; omega) | simp) _ | refine Below.alloc ?_ (by first | omega | (simp; omega) | simp) _ | refine Below.drew ?_ | refine below_drewN ?_ _ | refine Below.step (by assumption) (by first | omega | (simp; omega) | simp) ?_)))⟩
theorem drawFG_any (a : Option Addr) (len cap : Nat) (zs : List Int) (w : World) (hrow : IsRow .u8 w a len cap zs) : Calls Try.prog 29 #[.slice a len cap] w (GotC w) := by
  go_enter Try.func29, Try.ntmps29
  go_wp2_with fail
  refine (drawCG_any a len cap zs _ hrow).mono ?_
  rintro e w1 ⟨v, l, n, m, rfl, hl, n0, n1, m1, ow, bl⟩
  go_wp2
  simp [bodyPost, results, Try.results29, go_sem]
  exact ⟨_, l, _, _, rfl, hl, n0, n1, m1, ow, bl⟩
end Go.Proofs.Ytffppecflamcgaa
