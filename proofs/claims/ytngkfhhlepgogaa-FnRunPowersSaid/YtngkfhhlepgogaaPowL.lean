/- The powers: the drawn laws. -/
import Derived.Test.YtngkfhhlepgogaaPowD
import Derived.Test.YtngkfhhlepgogaaPow2
set_option linter.unusedSimpArgs false
set_option linter.unusedVariables false
set_option linter.unusedSectionVars false
namespace Go.Proofs.Ytngkfhhlepgogaa
open Go.RowKit

def P1 (e : Ending) : Prop := ∃ m c i b : Int, e = .returned (.agg #[.int .i64 m, .int .i64 c, .int .i64 i, .int .i64 b])
def P2 (e : Ending) : Prop := ∃ m c i b g : Int, e = .returned (.tuple #[.agg #[.int .i64 m, .int .i64 c, .int .i64 i, .int .i64 b], .int .i64 g])
def P4 (e : Ending) : Prop := ∃ (m c i b g h : Int) (u : Bool), e = .returned (.tuple #[.agg #[.int .i64 m, .int .i64 c, .int .i64 i, .int .i64 b], .int .i64 g, .int .i64 h, .bool u])
theorem drawPV (a : Option Addr) (len cap : Nat) (zs : List Int) (w : World) (hrow : IsRow .u8 w a len cap zs) : Calls Try.prog 20 #[.slice a len cap] w fun e w' => P1 e ∧ Below w.heap.size w w' := by
  go_enter Try.func20, Try.ntmps20
  go_wp2_with (first | (go_at_call 36; refine (open_any _ _ _ _ _ (IsRow.below hrow (by repeat (first | exact Below.refl _ _ | refine Below.alloc ?_ (by simp; try omega) _)))).mono ?_; rintro e w' ⟨A, le, ca, rfl, rfl, zs', hby⟩; simp only [World.size_alloc] at hby) | (go_at_call 35; refine (l20Powers_any _ ?_ _ _ ?_ ?_ (by decide) (by decide)).mono ?_; rotate_left; (focus ((repeat (first | assumption | refine Rd.ext ?_ | refine Rd.drew ?_ | refine Rd.drewN ?_ | refine Rd.set (by assumption) ?_ | refine Rd.lit (by assumption) (by simp) ?_ | refine Rd.alloc ?_ _ | omega)))); (focus omega); rintro e w' ⟨_, q, d, os, rfl, hq1, hq2, ⟨m, c, i, b, rfl⟩, rfl⟩))
  simp [bodyPost, results, Try.results20, go_sem]
  exact ⟨⟨_, _, _, _, rfl⟩, (by (repeat (first | exact Below.refl _ _ | refine Below.ext ?_ (by simp; try omega) | refine Below.setCell ?_ (by simp; try omega) _ | refine Below.alloc ?_ (by simp; try omega) _ | refine Below.drew ?_ | refine Below.step (by assumption) (by simp; try omega) ?_)))⟩
theorem drawDP (a : Option Addr) (len cap : Nat) (zs : List Int) (w : World) (hrow : IsRow .u8 w a len cap zs) : Calls Try.prog 31 #[.slice a len cap] w fun e w' => P2 e ∧ Below w.heap.size w w' := by
  go_enter Try.func31, Try.ntmps31
  go_wp2_with (first | (go_at_call 36; refine (open_any _ _ _ _ _ (IsRow.below hrow (by repeat (first | exact Below.refl _ _ | refine Below.alloc ?_ (by simp; try omega) _)))).mono ?_; rintro e w' ⟨A, le, ca, rfl, rfl, zs', hby⟩; simp only [World.size_alloc] at hby) | (go_at_call 35; refine (l20Powers_any _ ?_ _ _ ?_ ?_ (by decide) (by decide)).mono ?_; rotate_left; (focus ((repeat (first | assumption | refine Rd.ext ?_ | refine Rd.drew ?_ | refine Rd.drewN ?_ | refine Rd.set (by assumption) ?_ | refine Rd.lit (by assumption) (by simp) ?_ | refine Rd.alloc ?_ _ | omega)))); (focus omega); rintro e w' ⟨_, q, d, os, rfl, hq1, hq2, ⟨m, c, i, b, rfl⟩, rfl⟩))
  go_region_held3 (fun w' => w'.cell? ⟨w.heap.size + 1 + 1 + os.size, 0, none⟩ = some (.int .i64 m) ∧ w'.cell? ⟨w.heap.size + 1 + 1 + os.size, 1, none⟩ = some (.int .i64 c) ∧ w'.cell? ⟨w.heap.size + 1 + 1 + os.size, 2, none⟩ = some (.int .i64 i) ∧ w'.cell? ⟨w.heap.size + 1 + 1 + os.size, 3, none⟩ = some (.int .i64 b)) (go_simp) (first | (go_at_call 42; refine (pick_any _ ?_ _ _ ?_ ?_).mono ?_; rotate_left; (focus ((repeat (first | assumption | refine Rd.ext ?_ | refine Rd.drew ?_ | refine Rd.drewN ?_ | refine Rd.set (by assumption) ?_ | refine Rd.lit (by assumption) (by simp) ?_ | refine Rd.alloc ?_ _ | omega)))); (focus omega); rintro e w' ⟨v, d, rfl, h0, h1, h2, rfl⟩; replace h1 := h1 (by omega); clear h2))
  go_wp2
  simp [bodyPost, results, Try.results31, go_sem]
  exact ⟨⟨_, _, _, _, _, rfl⟩, (by (repeat (first | exact Below.refl _ _ | refine Below.ext ?_ (by simp; try omega) | refine Below.setCell ?_ (by simp; try omega) _ | refine Below.alloc ?_ (by simp; try omega) _ | refine Below.drew ?_ | refine Below.step (by assumption) (by simp; try omega) ?_)))⟩
theorem drawRP (a : Option Addr) (len cap : Nat) (zs : List Int) (w : World) (hrow : IsRow .u8 w a len cap zs) : Calls Try.prog 30 #[.slice a len cap] w fun e w' => P4 e ∧ Below w.heap.size w w' := by
  go_enter Try.func30, Try.ntmps30
  go_wp2_with (first | (go_at_call 36; refine (open_any _ _ _ _ _ (IsRow.below hrow (by repeat (first | exact Below.refl _ _ | refine Below.alloc ?_ (by simp; try omega) _)))).mono ?_; rintro e w' ⟨A, le, ca, rfl, rfl, zs', hby⟩; simp only [World.size_alloc] at hby) | (go_at_call 35; refine (l20Powers_any _ ?_ _ _ ?_ ?_ (by decide) (by decide)).mono ?_; rotate_left; (focus ((repeat (first | assumption | refine Rd.ext ?_ | refine Rd.drew ?_ | refine Rd.drewN ?_ | refine Rd.set (by assumption) ?_ | refine Rd.lit (by assumption) (by simp) ?_ | refine Rd.alloc ?_ _ | omega)))); (focus omega); rintro e w' ⟨_, q, d, os, rfl, hq1, hq2, ⟨m, c, i, b, rfl⟩, rfl⟩) | (go_at_call 42; refine (pick_any _ ?_ _ _ ?_ ?_).mono ?_; rotate_left; (focus ((repeat (first | assumption | refine Rd.ext ?_ | refine Rd.drew ?_ | refine Rd.drewN ?_ | refine Rd.set (by assumption) ?_ | refine Rd.lit (by assumption) (by simp) ?_ | refine Rd.alloc ?_ _ | omega)))); (focus omega); rintro e w' ⟨v, d, rfl, h0, h1, h2, rfl⟩; replace h1 := h1 (by omega); clear h2))
  go_region_held3 (fun w' => w'.cell? ⟨w.heap.size + 1 + 1 + os.size, 0, none⟩ = some (.int .i64 m) ∧ w'.cell? ⟨w.heap.size + 1 + 1 + os.size, 1, none⟩ = some (.int .i64 c) ∧ w'.cell? ⟨w.heap.size + 1 + 1 + os.size, 2, none⟩ = some (.int .i64 i) ∧ w'.cell? ⟨w.heap.size + 1 + 1 + os.size, 3, none⟩ = some (.int .i64 b)) (go_simp) (first | (go_at_call 42; refine (pick_any _ ?_ _ _ ?_ ?_).mono ?_; rotate_left; (focus ((repeat (first | assumption | refine Rd.ext ?_ | refine Rd.drew ?_ | refine Rd.drewN ?_ | refine Rd.set (by assumption) ?_ | refine Rd.lit (by assumption) (by simp) ?_ | refine Rd.alloc ?_ _ | omega)))); (focus omega); rintro e w' ⟨v, d, rfl, h0, h1, h2, rfl⟩; replace h1 := h1 (by omega); clear h2))
  go_wp2
  simp [bodyPost, results, Try.results30, go_sem]
  exact ⟨⟨_, _, _, _, _, _, _, rfl⟩, (by (repeat (first | exact Below.refl _ _ | refine Below.ext ?_ (by simp; try omega) | refine Below.setCell ?_ (by simp; try omega) _ | refine Below.alloc ?_ (by simp; try omega) _ | refine Below.drew ?_ | refine Below.step (by assumption) (by simp; try omega) ?_)))⟩
end Go.Proofs.Ytngkfhhlepgogaa
