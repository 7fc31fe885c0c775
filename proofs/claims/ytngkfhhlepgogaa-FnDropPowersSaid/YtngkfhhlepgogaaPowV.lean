/- The drawn laws on powers, more: RunPowers, DropPowers: the walks. -/
import Derived.Test.YtngkfhhlepgogaaPowW
import Derived.Test.YtngkfhhlepgogaaPowE
import Derived.Deep.RegionHeld3
set_option linter.unusedSimpArgs false
set_option linter.unusedVariables false
set_option linter.unusedSectionVars false
namespace Go.Proofs.Ytngkfhhlepgogaa
open Go.RowKit

set_option maxHeartbeats 2000000 in
theorem walkFnDropPowers (a : Option Addr) (len cap : Nat) (zs : List Int) (w : World) (hrow : IsRow .u8 w a len cap zs) : Calls Try.prog 10 #[.slice a len cap] w fun e w' => e = .returned (.bool true) ∧ Below w.heap.size w w' := by
  by_cases hl : (1048576 : Int) < len
  · go_enter Try.func10, Try.ntmps10
    go_wp2
    go_ret
    exact ⟨rfl, Below.refl _ _⟩
  · go_enter Try.func10, Try.ntmps10
    go_wp2_with fail
    refine (drawDP a len cap zs _ hrow).mono ?_
    rintro e w' ⟨⟨m, c, i, b, g, rfl⟩, hb⟩
    obtain ⟨d1, oA, rfl⟩ := ext_of_below hb; clear hb
    go_wp2_with (first
      | (go_at_call 21; refine (pvI_any _ _ _ _ _).mono ?_; rintro e w' ⟨rfl, hb⟩; obtain ⟨d1, oE, rfl⟩ := ext_of_below hb; clear hb)
      | (go_at_call 17; refine (runI_any _ _ _ _ _ _ _ _).mono ?_; rintro e w' ⟨rfl, hb⟩; obtain ⟨d1, oC, rfl⟩ := ext_of_below hb; clear hb)
      | (go_at_call 14; refine (dropI_any _ _ _ _ _ _).mono ?_; rintro e w' ⟨rfl, hb⟩; obtain ⟨d1, oB, rfl⟩ := ext_of_below hb; clear hb)
      | (go_at_call 16; refine (runS_any _ _ _ _ _ _ _ _).mono ?_; rintro e w' ⟨rfl, hb⟩; obtain ⟨d1, os1, rfl⟩ := ext_of_below hb; clear hb)
      | (go_at_call 12; refine (dropS_any _ _ _ _ _ _).mono ?_; rintro e w' ⟨rfl, hb⟩; obtain ⟨d1, oD, rfl⟩ := ext_of_below hb; clear hb)
      | (go_at_call 23; refine (alive_any _).mono ?_; rintro e w' ⟨rfl, rfl⟩))
    go_region_held3 (fun w' => w'.cell? ⟨w.heap.size + oA.size, 0, none⟩ = some (.int .i64 m) ∧ w'.cell? ⟨w.heap.size + oA.size, 1, none⟩ = some (.int .i64 c) ∧ w'.cell? ⟨w.heap.size + oA.size, 2, none⟩ = some (.int .i64 i) ∧ w'.cell? ⟨w.heap.size + oA.size, 3, none⟩ = some (.int .i64 b) ∧ w'.cell? ⟨w.heap.size + oA.size + 1 + oB.size, 0, none⟩ = some (.int .i64 (selI (dropOk m c i b g) (bits .andNot .i64 m g))) ∧ w'.cell? ⟨w.heap.size + oA.size + 1 + oB.size, 1, none⟩ = some (.int .i64 (selI (dropOk m c i b g) (bits .andNot .i64 c g))) ∧ w'.cell? ⟨w.heap.size + oA.size + 1 + oB.size, 2, none⟩ = some (.int .i64 (selI (dropOk m c i b g) (bits .andNot .i64 i g))) ∧ w'.cell? ⟨w.heap.size + oA.size + 1 + oB.size, 3, none⟩ = some (.int .i64 (selI (dropOk m c i b g) (bits .andNot .i64 b g)))) (go_simp) (first
      | (go_at_call 21; refine (pvI_any _ _ _ _ _).mono ?_; rintro e w' ⟨rfl, hb⟩; obtain ⟨d1, oE, rfl⟩ := ext_of_below hb; clear hb)
      | (go_at_call 17; refine (runI_any _ _ _ _ _ _ _ _).mono ?_; rintro e w' ⟨rfl, hb⟩; obtain ⟨d1, oC, rfl⟩ := ext_of_below hb; clear hb)
      | (go_at_call 14; refine (dropI_any _ _ _ _ _ _).mono ?_; rintro e w' ⟨rfl, hb⟩; obtain ⟨d1, oB, rfl⟩ := ext_of_below hb; clear hb)
      | (go_at_call 16; refine (runS_any _ _ _ _ _ _ _ _).mono ?_; rintro e w' ⟨rfl, hb⟩; obtain ⟨d1, os1, rfl⟩ := ext_of_below hb; clear hb)
      | (go_at_call 12; refine (dropS_any _ _ _ _ _ _).mono ?_; rintro e w' ⟨rfl, hb⟩; obtain ⟨d1, oD, rfl⟩ := ext_of_below hb; clear hb)
      | (go_at_call 23; refine (alive_any _).mono ?_; rintro e w' ⟨rfl, rfl⟩))
    rcases Bool.eq_false_or_eq_true (dropOk m c i b g) with hk | hk
    · obtain ⟨f1, f2, f3, f4, f5, f6, f7, f8, f9⟩ := drop_facts hk
      have hk' := hk
      unfold dropOk at hk'
      simp only [Bool.and_eq_true] at hk'
      obtain ⟨k1, k2⟩ := hk'
      obtain ⟨k3, k4⟩ := inB63.1 k2
      go_wp2_with (first
      | (go_at_call 21; refine (pvI_any _ _ _ _ _).mono ?_; rintro e w' ⟨rfl, hb⟩; obtain ⟨d1, oE, rfl⟩ := ext_of_below hb; clear hb)
      | (go_at_call 17; refine (runI_any _ _ _ _ _ _ _ _).mono ?_; rintro e w' ⟨rfl, hb⟩; obtain ⟨d1, oC, rfl⟩ := ext_of_below hb; clear hb)
      | (go_at_call 14; refine (dropI_any _ _ _ _ _ _).mono ?_; rintro e w' ⟨rfl, hb⟩; obtain ⟨d1, oB, rfl⟩ := ext_of_below hb; clear hb)
      | (go_at_call 16; refine (runS_any _ _ _ _ _ _ _ _).mono ?_; rintro e w' ⟨rfl, hb⟩; obtain ⟨d1, os1, rfl⟩ := ext_of_below hb; clear hb)
      | (go_at_call 12; refine (dropS_any _ _ _ _ _ _).mono ?_; rintro e w' ⟨rfl, hb⟩; obtain ⟨d1, oD, rfl⟩ := ext_of_below hb; clear hb)
      | (go_at_call 23; refine (alive_any _).mono ?_; rintro e w' ⟨rfl, rfl⟩))
      go_region_held3 (fun w' => w'.cell? ⟨w.heap.size + oA.size + 1 + oB.size, 0, none⟩ = some (.int .i64 (bits .andNot .i64 m g)) ∧ w'.cell? ⟨w.heap.size + oA.size + 1 + oB.size, 1, none⟩ = some (.int .i64 (bits .andNot .i64 c g)) ∧ w'.cell? ⟨w.heap.size + oA.size + 1 + oB.size, 2, none⟩ = some (.int .i64 (bits .andNot .i64 i g)) ∧ w'.cell? ⟨w.heap.size + oA.size + 1 + oB.size, 3, none⟩ = some (.int .i64 (bits .andNot .i64 b g)) ∧ w'.cell? ⟨w.heap.size + oA.size + 1 + oB.size + 1 + (oD.size + (oE.size + oC.size)), 0, none⟩ = some (.int .i64 (runMay (bits .andNot .i64 i g) (bits .andNot .i64 b g) 63 63)) ∧ w'.cell? ⟨w.heap.size + oA.size + 1 + oB.size + 1 + (oD.size + (oE.size + oC.size)), 1, none⟩ = some (.int .i64 (runMay (bits .andNot .i64 i g) (bits .andNot .i64 b g) 63 63))) (go_simp) (first
      | (go_at_call 21; refine (pvI_any _ _ _ _ _).mono ?_; rintro e w' ⟨rfl, hb⟩; obtain ⟨d1, oE, rfl⟩ := ext_of_below hb; clear hb)
      | (go_at_call 17; refine (runI_any _ _ _ _ _ _ _ _).mono ?_; rintro e w' ⟨rfl, hb⟩; obtain ⟨d1, oC, rfl⟩ := ext_of_below hb; clear hb)
      | (go_at_call 14; refine (dropI_any _ _ _ _ _ _).mono ?_; rintro e w' ⟨rfl, hb⟩; obtain ⟨d1, oB, rfl⟩ := ext_of_below hb; clear hb)
      | (go_at_call 16; refine (runS_any _ _ _ _ _ _ _ _).mono ?_; rintro e w' ⟨rfl, hb⟩; obtain ⟨d1, os1, rfl⟩ := ext_of_below hb; clear hb)
      | (go_at_call 12; refine (dropS_any _ _ _ _ _ _).mono ?_; rintro e w' ⟨rfl, hb⟩; obtain ⟨d1, oD, rfl⟩ := ext_of_below hb; clear hb)
      | (go_at_call 23; refine (alive_any _).mono ?_; rintro e w' ⟨rfl, rfl⟩))
      go_wp2
      go_ret
      exact ⟨rfl, (by (repeat (first | exact Below.refl _ _ | refine Below.ext ?_ (by simp; try omega) | refine Below.setCell ?_ (by simp; try omega) _ | refine Below.alloc ?_ (by simp; try omega) _ | refine Below.drew ?_ | refine Below.step (by assumption) (by simp; try omega) ?_)))⟩
    · have hk' : pvI m c i b = false ∨ (pvI m c i b = true ∧ g < 0) ∨ (pvI m c i b = true ∧ 0 ≤ g ∧ 63 < g) := by
        unfold dropOk at hk
        cases hp : pvI m c i b
        · exact .inl rfl
        · rw [hp, Bool.true_and] at hk
          have : ¬ (0 ≤ g ∧ g ≤ 63) := fun h => by rw [inB63.2 h] at hk; cases hk
          by_cases h0 : g < 0
          · exact .inr (.inl ⟨rfl, h0⟩)
          · exact .inr (.inr ⟨rfl, by omega, by omega⟩)
      rcases hk' with k1 | ⟨k1, k2⟩ | ⟨k1, k2, k3⟩
      all_goals
        go_wp2_with (first
      | (go_at_call 21; refine (pvI_any _ _ _ _ _).mono ?_; rintro e w' ⟨rfl, hb⟩; obtain ⟨d1, oE, rfl⟩ := ext_of_below hb; clear hb)
      | (go_at_call 17; refine (runI_any _ _ _ _ _ _ _ _).mono ?_; rintro e w' ⟨rfl, hb⟩; obtain ⟨d1, oC, rfl⟩ := ext_of_below hb; clear hb)
      | (go_at_call 14; refine (dropI_any _ _ _ _ _ _).mono ?_; rintro e w' ⟨rfl, hb⟩; obtain ⟨d1, oB, rfl⟩ := ext_of_below hb; clear hb)
      | (go_at_call 16; refine (runS_any _ _ _ _ _ _ _ _).mono ?_; rintro e w' ⟨rfl, hb⟩; obtain ⟨d1, os1, rfl⟩ := ext_of_below hb; clear hb)
      | (go_at_call 12; refine (dropS_any _ _ _ _ _ _).mono ?_; rintro e w' ⟨rfl, hb⟩; obtain ⟨d1, oD, rfl⟩ := ext_of_below hb; clear hb)
      | (go_at_call 23; refine (alive_any _).mono ?_; rintro e w' ⟨rfl, rfl⟩))
        go_ret
        exact ⟨rfl, (by (repeat (first | exact Below.refl _ _ | refine Below.ext ?_ (by simp; try omega) | refine Below.setCell ?_ (by simp; try omega) _ | refine Below.alloc ?_ (by simp; try omega) _ | refine Below.drew ?_ | refine Below.step (by assumption) (by simp; try omega) ?_)))⟩
end Go.Proofs.Ytngkfhhlepgogaa
