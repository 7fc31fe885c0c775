/- The exact laws on AuditValid and LostNotes: the walks. -/
import Derived.Test.YtkgannbbehkpoaaAudS
import Derived.Test.YtkgannbbehkpoaaToNote
set_option linter.unusedSimpArgs false
set_option linter.unusedVariables false
set_option linter.unusedSectionVars false
namespace Go.Proofs.Ytkgannbbehkpoaa
open Go.RowKit

set_option maxHeartbeats 1000000 in
theorem walkFnExactAuditValid (v : Value) (next : Int) (l : List T4) (w : World) (h0 : Sl4 w v l) (hx : Txt l) :
    Calls Try.prog 5 #[.agg #[v, .int .i64 next]] w fun e w' => e = .returned (.bool true) ∧ Below w.heap.size w w' := by
  have b0 : Below w.heap.size w (w.alloc (.cells #[v, .int .i64 next] 33)) := Below.alloc (Below.refl _ _) (Nat.le_refl _) _
  go_enter Try.func5, Try.ntmps5
  go_wp2_with fail
  refine (szAudit_of v next l _ _ (h0.below b0) hx (by decide) (by decide)).mono ?_
  rintro e w1 ⟨⟨r, rfl, r0, r1⟩, b1⟩
  have c1 := Below.step b1 b0.size b0
  have g0 : w1.cell? ⟨w.heap.size, 0, none⟩ = some v := (b1.cell (p := ⟨w.heap.size, 0, none⟩) (by simp)).trans (by simp [go_sem])
  have g1 : w1.cell? ⟨w.heap.size, 1, none⟩ = some (.int .i64 next) := (b1.cell (p := ⟨w.heap.size, 1, none⟩) (by simp)).trans (by simp [go_sem])
  by_cases hr : r < 0
  · go_wp2
    go_ret
    exact ⟨rfl, c1⟩
  · have hm : l.length ≤ 1048576 := by have := r1 (by omega); omega
    clear r1
    go_wp2_with fail
    refine (toAudit_of v next l _ (h0.below c1) hm).mono ?_
    rintro e w2 ⟨x2, rfl, o2, b2⟩
    have c2 := Below.step b2 c1.size c1
    have hz1 : w.heap.size < w1.heap.size := by have := b1.size; simp at this; omega
    go_wp2_with fail
    refine (auditValidS_of _ next l _ (own4_sl o2) hm hx).mono ?_
    rintro e w3 ⟨rfl, b3⟩
    have c3 := Below.step b3 c2.size c2
    have hz2 : w.heap.size < w2.heap.size := by have := b2.size; omega
    have g0 : w3.cell? ⟨w.heap.size, 0, none⟩ = some v := (b3.cell (p := ⟨w.heap.size, 0, none⟩) hz2).trans ((b2.cell (p := ⟨w.heap.size, 0, none⟩) hz1).trans g0)
    have g1 : w3.cell? ⟨w.heap.size, 1, none⟩ = some (.int .i64 next) := (b3.cell (p := ⟨w.heap.size, 1, none⟩) hz2).trans ((b2.cell (p := ⟨w.heap.size, 1, none⟩) hz1).trans g1)
    have hz3 : w.heap.size < w3.heap.size := by have := b3.size; omega
    go_wp2_with fail
    refine (toAudit_of v next l _ (h0.below c3) hm).mono ?_
    rintro e w4 ⟨x4, rfl, o4, b4⟩
    obtain ⟨A4, k4, rfl⟩ := own4_shape o4
    have c4 := Below.step b4 c3.size c3
    have hz4 : w.heap.size < w4.heap.size := by have := b4.size; omega
    have g0 : w4.cell? ⟨w.heap.size, 0, none⟩ = some v := (b4.cell (p := ⟨w.heap.size, 0, none⟩) hz3).trans g0
    have g1 : w4.cell? ⟨w.heap.size, 1, none⟩ = some (.int .i64 next) := (b4.cell (p := ⟨w.heap.size, 1, none⟩) hz3).trans g1
    have b5 : Below w4.heap.size w4 (w4.alloc (.cells #[(.slice A4 l.length k4), .int .i64 next] 25)) := Below.alloc (Below.refl _ _) (Nat.le_refl _) _
    have o5 := own4_below o4 b5
    go_wp2_with fail
    refine (auditValidI_of _ next l _ (own4_sl o5) hx).mono ?_
    rintro e w6 ⟨rfl, b6⟩
    have c5 := Below.step b5 c4.size c4
    have c6 := Below.step b6 c5.size c5
    have o6 := own4_below o5 b6
    have k0 : w6.cell? ⟨w4.heap.size, 0, none⟩ = some (.slice A4 l.length k4) := (b6.cell (p := ⟨w4.heap.size, 0, none⟩) (by simp)).trans (by simp [go_sem])
    have k1 : w6.cell? ⟨w4.heap.size, 1, none⟩ = some (.int .i64 next) := (b6.cell (p := ⟨w4.heap.size, 1, none⟩) (by simp)).trans (by simp [go_sem])
    have g0 : w6.cell? ⟨w.heap.size, 0, none⟩ = some v := (b6.cell (p := ⟨w.heap.size, 0, none⟩) (by simp; omega)).trans ((b5.cell (p := ⟨w.heap.size, 0, none⟩) hz4).trans g0)
    have g1 : w6.cell? ⟨w.heap.size, 1, none⟩ = some (.int .i64 next) := (b6.cell (p := ⟨w.heap.size, 1, none⟩) (by simp; omega)).trans ((b5.cell (p := ⟨w.heap.size, 1, none⟩) hz4).trans g1)
    have hz6 : w4.heap.size < w6.heap.size := by have := b6.size; simp at this; omega
    have hz7 : w.heap.size < w6.heap.size := by omega
    have hz8 : w.heap.size < w4.heap.size := hz4
    have C6 := Lib.hid c6
    have O6 := Lib.hid (own4_sl o6)
    have H0 := Lib.hid (h0.below c6)
    clear b0 b1 b2 b3 b4 b5 b6 c1 c2 c3 c4 c5 c6 o2 o4 o5 o6 h0
    go_wp2
    go_region_held3 (fun w' => w'.cell? ⟨w4.heap.size, 0, none⟩ = some (.slice A4 l.length k4) ∧ w'.cell? ⟨w4.heap.size, 1, none⟩ = some (.int .i64 next) ∧ w'.cell? ⟨w.heap.size, 0, none⟩ = some v ∧ w'.cell? ⟨w.heap.size, 1, none⟩ = some (.int .i64 next)) (go_simp) (first | (go_at_call 19; refine (toAudit_of v next l _ ?_ hm).mono ?_; (focus (exact H0.out)); rintro e w' ⟨x8, rfl, o8, b8⟩; have O8 := Lib.hid (own4_sl o8); clear o8; obtain ⟨d1, os1, rfl⟩ := ext_of_below b8; clear b8) | (go_at_call 20; refine (eqAudit_of _ _ next l _ ?_ ?_).mono ?_; (focus (exact Sl4.below O6.out (by (repeat (first | exact Below.refl _ _ | exact Hbl.out | refine Below.ext ?_ (by first | omega | (simp; omega) | simp) | refine Below.setCell ?_ (by first | omega | (simp; omega) | simp) _ | refine Below.alloc ?_ (by first | omega | (simp; omega) | simp) _ | refine Below.drew ?_ | refine below_drewN ?_ _ | refine Below.step (by assumption) (by first | omega | (simp; omega) | simp) ?_))))); (focus (exact O8.out)); rintro e w' ⟨rfl, b9⟩; obtain ⟨d9, os9, rfl⟩ := ext_of_below b9; clear b9))
    go_wp2
    go_ret
    exact ⟨rfl, Below.step (show Below w6.heap.size w6 _ from (by (repeat (first | exact Below.refl _ _ | exact Hbl.out | refine Below.ext ?_ (by first | omega | (simp; omega) | simp) | refine Below.setCell ?_ (by first | omega | (simp; omega) | simp) _ | refine Below.alloc ?_ (by first | omega | (simp; omega) | simp) _ | refine Below.drew ?_ | refine below_drewN ?_ _ | refine Below.step (by assumption) (by first | omega | (simp; omega) | simp) ?_)))) C6.out.size C6.out⟩

set_option maxHeartbeats 1000000 in
theorem walkFnExactLostNotes (v : Value) (next : Int) (l : List T4) (w : World) (h0 : Sl4 w v l) (hx : Txt l) :
    Calls Try.prog 6 #[.agg #[v, .int .i64 next]] w fun e w' => e = .returned (.bool true) ∧ Below w.heap.size w w' := by
  have b0 : Below w.heap.size w (w.alloc (.cells #[v, .int .i64 next] 33)) := Below.alloc (Below.refl _ _) (Nat.le_refl _) _
  go_enter Try.func6, Try.ntmps6
  go_wp2_with fail
  refine (szAudit_of v next l _ _ (h0.below b0) hx (by decide) (by decide)).mono ?_
  rintro e w1 ⟨⟨r, rfl, r0, r1⟩, b1⟩
  have c1 := Below.step b1 b0.size b0
  have g0 : w1.cell? ⟨w.heap.size, 0, none⟩ = some v := (b1.cell (p := ⟨w.heap.size, 0, none⟩) (by simp)).trans (by simp [go_sem])
  have g1 : w1.cell? ⟨w.heap.size, 1, none⟩ = some (.int .i64 next) := (b1.cell (p := ⟨w.heap.size, 1, none⟩) (by simp)).trans (by simp [go_sem])
  by_cases hr : r < 0
  · go_wp2
    go_ret
    exact ⟨rfl, c1⟩
  · have hm : l.length ≤ 1048576 := by have := r1 (by omega); omega
    clear r1
    go_wp2_with fail
    refine (toAudit_of v next l _ (h0.below c1) hm).mono ?_
    rintro e w2 ⟨x2, rfl, o2, b2⟩
    have c2 := Below.step b2 c1.size c1
    have hz1 : w.heap.size < w1.heap.size := by have := b1.size; simp at this; omega
    go_wp2_with fail
    refine (lostS_of _ next l _ (own4_sl o2) hm hx).mono ?_
    rintro e w3 ⟨rfl, b3⟩
    have c3 := Below.step b3 c2.size c2
    have hz2 : w.heap.size < w2.heap.size := by have := b2.size; omega
    have g0 : w3.cell? ⟨w.heap.size, 0, none⟩ = some v := (b3.cell (p := ⟨w.heap.size, 0, none⟩) hz2).trans ((b2.cell (p := ⟨w.heap.size, 0, none⟩) hz1).trans g0)
    have g1 : w3.cell? ⟨w.heap.size, 1, none⟩ = some (.int .i64 next) := (b3.cell (p := ⟨w.heap.size, 1, none⟩) hz2).trans ((b2.cell (p := ⟨w.heap.size, 1, none⟩) hz1).trans g1)
    have hz3 : w.heap.size < w3.heap.size := by have := b3.size; omega
    go_wp2_with fail
    refine (toAudit_of v next l _ (h0.below c3) hm).mono ?_
    rintro e w4 ⟨x4, rfl, o4, b4⟩
    obtain ⟨A4, k4, rfl⟩ := own4_shape o4
    have c4 := Below.step b4 c3.size c3
    have hz4 : w.heap.size < w4.heap.size := by have := b4.size; omega
    have g0 : w4.cell? ⟨w.heap.size, 0, none⟩ = some v := (b4.cell (p := ⟨w.heap.size, 0, none⟩) hz3).trans g0
    have g1 : w4.cell? ⟨w.heap.size, 1, none⟩ = some (.int .i64 next) := (b4.cell (p := ⟨w.heap.size, 1, none⟩) hz3).trans g1
    have b5 : Below w4.heap.size w4 (w4.alloc (.cells #[(.slice A4 l.length k4), .int .i64 next] 25)) := Below.alloc (Below.refl _ _) (Nat.le_refl _) _
    have o5 := own4_below o4 b5
    go_wp2_with fail
    refine (lostI_of _ next l _ (own4_sl o5) hx).mono ?_
    rintro e w6 ⟨rfl, b6⟩
    have c5 := Below.step b5 c4.size c4
    have c6 := Below.step b6 c5.size c5
    have o6 := own4_below o5 b6
    have k0 : w6.cell? ⟨w4.heap.size, 0, none⟩ = some (.slice A4 l.length k4) := (b6.cell (p := ⟨w4.heap.size, 0, none⟩) (by simp)).trans (by simp [go_sem])
    have k1 : w6.cell? ⟨w4.heap.size, 1, none⟩ = some (.int .i64 next) := (b6.cell (p := ⟨w4.heap.size, 1, none⟩) (by simp)).trans (by simp [go_sem])
    have g0 : w6.cell? ⟨w.heap.size, 0, none⟩ = some v := (b6.cell (p := ⟨w.heap.size, 0, none⟩) (by simp; omega)).trans ((b5.cell (p := ⟨w.heap.size, 0, none⟩) hz4).trans g0)
    have g1 : w6.cell? ⟨w.heap.size, 1, none⟩ = some (.int .i64 next) := (b6.cell (p := ⟨w.heap.size, 1, none⟩) (by simp; omega)).trans ((b5.cell (p := ⟨w.heap.size, 1, none⟩) hz4).trans g1)
    have hz6 : w4.heap.size < w6.heap.size := by have := b6.size; simp at this; omega
    have hz7 : w.heap.size < w6.heap.size := by omega
    have hz8 : w.heap.size < w4.heap.size := hz4
    have C6 := Lib.hid c6
    have O6 := Lib.hid (own4_sl o6)
    have H0 := Lib.hid (h0.below c6)
    clear b0 b1 b2 b3 b4 b5 b6 c1 c2 c3 c4 c5 c6 o2 o4 o5 o6 h0
    go_wp2
    go_region_held3 (fun w' => w'.cell? ⟨w4.heap.size, 0, none⟩ = some (.slice A4 l.length k4) ∧ w'.cell? ⟨w4.heap.size, 1, none⟩ = some (.int .i64 next) ∧ w'.cell? ⟨w.heap.size, 0, none⟩ = some v ∧ w'.cell? ⟨w.heap.size, 1, none⟩ = some (.int .i64 next)) (go_simp) (first | (go_at_call 19; refine (toAudit_of v next l _ ?_ hm).mono ?_; (focus (exact H0.out)); rintro e w' ⟨x8, rfl, o8, b8⟩; have O8 := Lib.hid (own4_sl o8); clear o8; obtain ⟨d1, os1, rfl⟩ := ext_of_below b8; clear b8) | (go_at_call 20; refine (eqAudit_of _ _ next l _ ?_ ?_).mono ?_; (focus (exact Sl4.below O6.out (by (repeat (first | exact Below.refl _ _ | exact Hbl.out | refine Below.ext ?_ (by first | omega | (simp; omega) | simp) | refine Below.setCell ?_ (by first | omega | (simp; omega) | simp) _ | refine Below.alloc ?_ (by first | omega | (simp; omega) | simp) _ | refine Below.drew ?_ | refine below_drewN ?_ _ | refine Below.step (by assumption) (by first | omega | (simp; omega) | simp) ?_))))); (focus (exact O8.out)); rintro e w' ⟨rfl, b9⟩; obtain ⟨d9, os9, rfl⟩ := ext_of_below b9; clear b9))
    go_wp2
    go_ret
    exact ⟨rfl, Below.step (show Below w6.heap.size w6 _ from (by (repeat (first | exact Below.refl _ _ | exact Hbl.out | refine Below.ext ?_ (by first | omega | (simp; omega) | simp) | refine Below.setCell ?_ (by first | omega | (simp; omega) | simp) _ | refine Below.alloc ?_ (by first | omega | (simp; omega) | simp) _ | refine Below.drew ?_ | refine below_drewN ?_ _ | refine Below.step (by assumption) (by first | omega | (simp; omega) | simp) ?_)))) C6.out.size C6.out⟩
end Go.Proofs.Ytkgannbbehkpoaa
