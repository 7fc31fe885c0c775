/- The drawn law on RunPowers: the walk. -/
import Derived.Test.YtngkfhhlepgogaaPowW
import Derived.Test.YtngkfhhlepgogaaPowE
import Derived.Deep.RegionHeld3
set_option linter.unusedSimpArgs false
set_option linter.unusedVariables false
set_option linter.unusedSectionVars false
namespace Go.Proofs.Ytngkfhhlepgogaa
open Go.RowKit

@[go_sem] theorem powField (a b c d : Int) (w : World) : (Instr.field 24 (.agg #[.int .i64 a, .int .i64 b, .int .i64 c, .int .i64 d]) 0).run Try.prog w = .ok (.int .i64 a) w := by kernel_rfl
set_option maxHeartbeats 2000000 in
theorem walkFnRunPowers (a : Option Addr) (len cap : Nat) (zs : List Int) (w : World) (hrow : IsRow .u8 w a len cap zs) : Calls Try.prog 9 #[.slice a len cap] w fun e w' => e = .returned (.bool true) ∧ Below w.heap.size w w' := by
  by_cases hl : (1048576 : Int) < len
  · go_enter Try.func9, Try.ntmps9
    go_wp2
    go_ret
    exact ⟨rfl, Below.refl _ _⟩
  · go_enter Try.func9, Try.ntmps9
    go_wp2_with fail
    refine (drawRP a len cap zs _ hrow).mono ?_
    rintro e w' ⟨⟨m, c, i, b, g, h, u, rfl⟩, hb⟩
    obtain ⟨d1, oA, rfl⟩ := ext_of_below hb; clear hb
    go_wp2_with (first
      | (go_at_call 21; refine (pvI_any _ _ _ _ _).mono ?_; rintro e w' ⟨rfl, hb⟩; obtain ⟨d1, os1, rfl⟩ := ext_of_below hb; clear hb)
      | (go_at_call 17; refine (runI_any _ _ _ _ _ _ _ _).mono ?_; rintro e w' ⟨rfl, hb⟩; obtain ⟨d1, oB, rfl⟩ := ext_of_below hb; clear hb)
      | (go_at_call 16; refine (runS_any _ _ _ _ _ _ _ _).mono ?_; rintro e w' ⟨rfl, hb⟩; obtain ⟨d1, os1, rfl⟩ := ext_of_below hb; clear hb)
      | (go_at_call 23; refine (alive_any _).mono ?_; rintro e w' ⟨rfl, rfl⟩))
    go_region_held3 (fun w' => w'.cell? ⟨w.heap.size + oA.size, 0, none⟩ = some (.int .i64 m) ∧ w'.cell? ⟨w.heap.size + oA.size, 1, none⟩ = some (.int .i64 c) ∧ w'.cell? ⟨w.heap.size + oA.size, 2, none⟩ = some (.int .i64 i) ∧ w'.cell? ⟨w.heap.size + oA.size, 3, none⟩ = some (.int .i64 b) ∧ w'.cell? ⟨w.heap.size + oA.size + 1 + oB.size, 0, none⟩ = some (.int .i64 (selI (runOk m c i b g h) (runMay i b g h))) ∧ w'.cell? ⟨w.heap.size + oA.size + 1 + oB.size, 1, none⟩ = some (.int .i64 (selI (runOk m c i b g h) (selI u (runMay i b g h)))) ∧ w'.cell? ⟨w.heap.size + oA.size + 1 + oB.size, 2, none⟩ = some (.int .i64 (selI (runOk m c i b g h) i)) ∧ w'.cell? ⟨w.heap.size + oA.size + 1 + oB.size, 3, none⟩ = some (.int .i64 (selI (runOk m c i b g h) b))) (go_simp) (first
      | (go_at_call 21; refine (pvI_any _ _ _ _ _).mono ?_; rintro e w' ⟨rfl, hb⟩; obtain ⟨d1, os1, rfl⟩ := ext_of_below hb; clear hb)
      | (go_at_call 17; refine (runI_any _ _ _ _ _ _ _ _).mono ?_; rintro e w' ⟨rfl, hb⟩; obtain ⟨d1, oB, rfl⟩ := ext_of_below hb; clear hb)
      | (go_at_call 16; refine (runS_any _ _ _ _ _ _ _ _).mono ?_; rintro e w' ⟨rfl, hb⟩; obtain ⟨d1, os1, rfl⟩ := ext_of_below hb; clear hb)
      | (go_at_call 23; refine (alive_any _).mono ?_; rintro e w' ⟨rfl, rfl⟩))
    rcases Bool.eq_false_or_eq_true (runOk m c i b g h) with hk | hk
    · obtain ⟨f1, f2, f3, f4⟩ := run_facts hk
      have f5 := f1 u
      have hk' := hk
      unfold runOk at hk'
      simp only [Bool.and_eq_true] at hk'
      obtain ⟨k1, k2, k5⟩ := hk'
      obtain ⟨k3, k4⟩ := inB63.1 k2
      obtain ⟨k6, k7⟩ := inB63.1 k5
      rcases Bool.eq_false_or_eq_true u with hu | hu
      all_goals
        simp only [hu, selI_true, selI_false] at f5
        clear f1
        go_wp2_with (first
      | (go_at_call 21; refine (pvI_any _ _ _ _ _).mono ?_; rintro e w' ⟨rfl, hb⟩; obtain ⟨d1, os1, rfl⟩ := ext_of_below hb; clear hb)
      | (go_at_call 17; refine (runI_any _ _ _ _ _ _ _ _).mono ?_; rintro e w' ⟨rfl, hb⟩; obtain ⟨d1, oB, rfl⟩ := ext_of_below hb; clear hb)
      | (go_at_call 16; refine (runS_any _ _ _ _ _ _ _ _).mono ?_; rintro e w' ⟨rfl, hb⟩; obtain ⟨d1, os1, rfl⟩ := ext_of_below hb; clear hb)
      | (go_at_call 23; refine (alive_any _).mono ?_; rintro e w' ⟨rfl, rfl⟩))
        go_ret
        exact ⟨rfl, (by (repeat (first | exact Below.refl _ _ | exact Hbl.out | refine Below.ext ?_ (by first | omega | (simp; omega) | simp) | refine Below.setCell ?_ (by first | omega | (simp; omega) | simp) _ | refine Below.alloc ?_ (by first | omega | (simp; omega) | simp) _ | refine Below.drew ?_ | refine Below.step (by assumption) (by first | omega | (simp; omega) | simp) ?_)))⟩
    · have hk' : pvI m c i b = false ∨ (pvI m c i b = true ∧ g < 0) ∨ (pvI m c i b = true ∧ 0 ≤ g ∧ 63 < g) ∨ (pvI m c i b = true ∧ 0 ≤ g ∧ g ≤ 63 ∧ h < 0) ∨ (pvI m c i b = true ∧ 0 ≤ g ∧ g ≤ 63 ∧ 0 ≤ h ∧ 63 < h) := by
        unfold runOk at hk
        cases hp : pvI m c i b
        · exact .inl rfl
        · rw [hp, Bool.true_and] at hk
          have : ¬ ((0 ≤ g ∧ g ≤ 63) ∧ (0 ≤ h ∧ h ≤ 63)) := fun hh => by rw [inB63.2 hh.1, inB63.2 hh.2] at hk; cases hk
          by_cases h0 : g < 0
          · exact .inr (.inl ⟨rfl, h0⟩)
          · by_cases h1 : 63 < g
            · exact .inr (.inr (.inl ⟨rfl, by omega, h1⟩))
            · by_cases h2 : h < 0
              · exact .inr (.inr (.inr (.inl ⟨rfl, by omega, by omega, h2⟩)))
              · exact .inr (.inr (.inr (.inr ⟨rfl, by omega, by omega, by omega, by omega⟩)))
      rcases hk' with k1 | ⟨k1, k2⟩ | ⟨k1, k2, k3⟩ | ⟨k1, k2, k3, k4⟩ | ⟨k1, k2, k3, k4, k5⟩
      all_goals
        go_wp2_with (first
      | (go_at_call 21; refine (pvI_any _ _ _ _ _).mono ?_; rintro e w' ⟨rfl, hb⟩; obtain ⟨d1, os1, rfl⟩ := ext_of_below hb; clear hb)
      | (go_at_call 17; refine (runI_any _ _ _ _ _ _ _ _).mono ?_; rintro e w' ⟨rfl, hb⟩; obtain ⟨d1, oB, rfl⟩ := ext_of_below hb; clear hb)
      | (go_at_call 16; refine (runS_any _ _ _ _ _ _ _ _).mono ?_; rintro e w' ⟨rfl, hb⟩; obtain ⟨d1, os1, rfl⟩ := ext_of_below hb; clear hb)
      | (go_at_call 23; refine (alive_any _).mono ?_; rintro e w' ⟨rfl, rfl⟩))
        go_ret
        exact ⟨rfl, (by (repeat (first | exact Below.refl _ _ | exact Hbl.out | refine Below.ext ?_ (by first | omega | (simp; omega) | simp) | refine Below.setCell ?_ (by first | omega | (simp; omega) | simp) _ | refine Below.alloc ?_ (by first | omega | (simp; omega) | simp) _ | refine Below.drew ?_ | refine Below.step (by assumption) (by first | omega | (simp; omega) | simp) ?_)))⟩
end Go.Proofs.Ytngkfhhlepgogaa
