/- Limits: the draws of the laws. -/
import Derived.Test.YtffppecflamcgaaDrawL
set_option linter.unusedSimpArgs false
set_option linter.unusedVariables false
set_option linter.unusedSectionVars false
namespace Go.Proofs.Ytffppecflamcgaa
open Go.RowKit

theorem own_set {B R : Nat} {w : World} {u v : Value} {l : List T3} (h : Own B w v l) (hR : R < B) : Own B (w.setCell ⟨R, 1, none⟩ u) v l := by
  refine ⟨h.1, h.2.imp id fun ⟨g, c, cur, e1, e2, e3, e4⟩ => ⟨g, c, cur, e1, e2, ?_, e4⟩⟩
  rw [← e3]
  simp only [World.setCell, Array.getElem?_modify]
  rw [if_neg (show ¬ R = g from by omega)]
theorem sel7_bd {c : Int} (h0 : 0 ≤ c) (h1 : c < 7) : 0 ≤ selN c [0, 0, 0, 0, 1, 2, 3] ∧ selN c [0, 0, 0, 0, 1, 2, 3] < 4 := by
  have : c = 0 ∨ c = 1 ∨ c = 2 ∨ c = 3 ∨ c = 4 ∨ c = 5 ∨ c = 6 := by omega
  rcases this with h | h | h | h | h | h | h <;> subst h <;> decide
/-- What 'l20Limits' leaves behind a reader that was just made. -/
theorem drew_l {A : Option Addr} {le ca : Nat} {zs : Nat → Int} {w : World} {n : Int} (hby : Bytes w w.heap.size A le ca zs) (hn : 1 ≤ n) (hn' : n ≤ 1000) :
    Calls Try.prog 34 #[.pointer (some ⟨w.heap.size, 0, none⟩), .int .i64 n] (w.alloc (.cells #[.slice A le ca, .int .i64 0] 58)) fun e w1 => ∃ v l q, e = .returned v ∧ l.length ≤ 7 ∧ 0 ≤ q ∧ q ≤ 40 ∧ Rd w1 w.heap.size q ∧ Own (w.heap.size + 1) w1 v l ∧ Below w.heap.size w w1 := by
  have hr0 : Rd (w.alloc (.cells #[.slice A le ca, .int .i64 0] 58)) w.heap.size 0 := Rd.lit hby rfl (by omega)
  refine (l20Limits_any w.heap.size 0 n _ hr0 (by omega) hn hn').mono ?_
  rintro e w' ⟨v, l, q, d, os, rfl, q1, q2, hl, hw, ow⟩
  refine ⟨v, l, q, rfl, hl, q1, by omega, ?_, ?_, ?_⟩
  · rw [hw]; exact Rd.ext (Rd.set hr0 q1)
  · exact own_mono ow (by simp)
  · rw [hw]; (repeat (first | exact Below.refl _ _ | exact Hbl.out | refine Below.ext ?_ (by first | omega | (simp; omega) | simp) | refine Below.setCell ?_ (by first | omega | (simp; omega) | simp) _ | refine Below.alloc ?_ (by first | omega | (simp; omega) | simp) _ | refine Below.drew ?_ | refine below_drewN ?_ _ | refine Below.step (by assumption) (by first | omega | (simp; omega) | simp) ?_))
/-- A list of limits, the call's own, is handed back. -/
def GotL (w : World) (e : Ending) (w' : World) : Prop := ∃ v l, e = .returned v ∧ l.length ≤ 7 ∧ Own w.heap.size w' v l ∧ Below w.heap.size w w'
theorem drawLV_any (a : Option Addr) (len cap : Nat) (zs : List Int) (w : World) (hrow : IsRow .u8 w a len cap zs) : Calls Try.prog 18 #[.slice a len cap] w (GotL w) := by
  go_enter Try.func18, Try.ntmps18
  go_wp2_with (go_at_call 35; refine (open_any _ _ _ _ _ (IsRow.below hrow (by repeat (first | exact Below.refl _ _ | refine Below.alloc ?_ (by simp; try omega) _)))).mono ?_; rintro e w' ⟨A, le, ca, rfl, rfl, zs', hby⟩; (try simp only [World.size_alloc] at hby))
  refine (drew_l hby (by decide) (by decide)).mono ?_
  rintro e w1 ⟨v, l, q, rfl, hl, q1, q2, hr, ow, bl⟩
  go_wp2
  go_ret
  exact ⟨_, l, rfl, hl, own_mono ow (by omega), bl⟩
set_option maxHeartbeats 1000000 in
/-- A list of limits, the call's own, and a group are handed back. -/
theorem drawRF_any (a : Option Addr) (len cap : Nat) (zs : List Int) (w : World) (hrow : IsRow .u8 w a len cap zs) : Calls Try.prog 20 #[.slice a len cap] w fun e w' => ∃ v l n, e = .returned (.tuple #[v, .int .i64 n]) ∧ l.length ≤ 7 ∧ -1 ≤ n ∧ n ≤ 8 ∧ Own w.heap.size w' v l ∧ Below w.heap.size w w' := by
  go_enter Try.func20, Try.ntmps20
  go_wp2_with (go_at_call 35; refine (open_any _ _ _ _ _ (IsRow.below hrow (by repeat (first | exact Below.refl _ _ | refine Below.alloc ?_ (by simp; try omega) _)))).mono ?_; rintro e w' ⟨A, le, ca, rfl, rfl, zs', hby⟩; (try simp only [World.size_alloc] at hby))
  refine (drew_l hby (by decide) (by decide)).mono ?_
  rintro e w1 ⟨v, l, q, rfl, hl, q1, q2, hr, ow, bl⟩
  obtain ⟨A1, c1, rfl⟩ := own_shape ow
  have Ow := Lib.hid ow; clear ow
  have hR := hr.lt
  (go_wp2_with fail); refine (pick_any _ ?_ _ _ ?_ ?_).mono ?_; rotate_left; (focus ((repeat (first | assumption | refine Rd.ext ?_ | refine Rd.drew ?_ | refine Rd.drewN ?_ | refine Rd.set (by assumption) ?_ | refine Rd.lit (by assumption) (by simp) ?_ | refine Rd.alloc ?_ _ | omega)))); (focus omega); rintro e w' ⟨x, dx, rfl, lx, hx, h2, rfl⟩; replace hx := hx (by omega); clear h2
  (go_wp2_with fail); refine (pick_any _ ?_ _ _ ?_ ?_).mono ?_; rotate_left; (focus ((repeat (first | assumption | refine Rd.ext ?_ | refine Rd.drew ?_ | refine Rd.drewN ?_ | refine Rd.set (by assumption) ?_ | refine Rd.lit (by assumption) (by simp) ?_ | refine Rd.alloc ?_ _ | omega)))); (focus omega); rintro e w' ⟨y, dy, rfl, ly, hy, h2, rfl⟩; replace hy := hy (by omega); clear h2
  go_wp2
  refine bodyPost_ret (v := .tuple #[.slice A1 l.length c1, .int .i64 (x - y / 13)]) ?_ rfl ⟨_, l, _, rfl, hl, by omega, by omega, ?_, ?_⟩
  · simp [results, Try.results20, go_sem]
  · exact own_mono (own_ext' (own_set Ow.out (by omega))) (by omega)
  · (repeat (first | exact Below.refl _ _ | exact Hbl.out | refine Below.ext ?_ (by first | omega | (simp; omega) | simp) | refine Below.setCell ?_ (by first | omega | (simp; omega) | simp) _ | refine Below.alloc ?_ (by first | omega | (simp; omega) | simp) _ | refine Below.drew ?_ | refine below_drewN ?_ _ | refine Below.step (by assumption) (by first | omega | (simp; omega) | simp) ?_))
end Go.Proofs.Ytffppecflamcgaa
