/- The drawn law on UsePowers: the walk. -/
import Derived.Test.YtlanbgpmmlnehaaPowU
import Derived.Test.YtlanbgpmmlnehaaPowW
import Derived.Test.YtlanbgpmmlnehaaPowE
set_option linter.unusedSimpArgs false
set_option linter.unusedVariables false
set_option linter.unusedSectionVars false
namespace Go.Proofs.Ytlanbgpmmlnehaa
open Go.RowKit

theorem amB_none {m : Int} (hm : inB m 0 63 = true) : amB 0 m = true := by
  obtain ⟨k, rfl, hk⟩ := nat_of_inB hm
  have := amB_nat (c := 0) (m := k) (by omega) hk
  rw [show ((0 : Nat) : Int) = 0 from rfl] at this
  rw [this, zero_less]; rfl
set_option maxHeartbeats 2000000 in
theorem walkFnUsePowers (a : Option Addr) (len cap : Nat) (zs : List Int) (w : World) (hrow : IsRow .u8 w a len cap zs) : Calls Try.prog 3 #[.slice a len cap] w fun e w' => e = .returned (.bool true) ∧ Below w.heap.size w w' := by
  by_cases hl : (1048576 : Int) < len
  · go_enter Try.func3, Try.ntmps3
    go_wp2
    go_ret
    exact ⟨rfl, Below.refl _ _⟩
  · go_enter Try.func3, Try.ntmps3
    go_wp2_with fail
    refine (drawUP a len cap zs _ hrow).mono ?_
    rintro e w' ⟨⟨m, c, i, b, n, rfl⟩, hb⟩
    obtain ⟨d1, oA, rfl⟩ := ext_of_below hb; clear hb
    cases hp : pvI m c i b
    · have hk : dropOk m c i b n = false := by unfold dropOk; rw [hp]; rfl
      go_wp2_with (first
        | (go_at_call 14; refine (pvI_any _ _ _ _ _).mono ?_; rintro e w' ⟨rfl, hb⟩; obtain ⟨d1, os1, rfl⟩ := ext_of_below hb; clear hb; (try simp only [hp]))
        | (go_at_call 12; refine (useI_any _ _ _ _ _ _).mono ?_; rintro e w' ⟨rfl, hb⟩; obtain ⟨d1, os1, rfl⟩ := ext_of_below hb; clear hb; simp only [hk, selI, Bool.false_and, Bool.false_eq_true, if_false])
        | (go_at_call 13; refine (useS_any _ _ _ _ _ _).mono ?_; rintro e w' ⟨rfl, hb⟩; obtain ⟨d1, os1, rfl⟩ := ext_of_below hb; clear hb; simp only [hk, selI, Bool.false_and, Bool.false_eq_true, if_false])
        | (go_at_call 15; refine (alive_any _).mono ?_; rintro e w' ⟨rfl, rfl⟩))
      go_ret
      exact ⟨rfl, (by (repeat (first | exact Below.refl _ _ | exact Hbl.out | refine Below.ext ?_ (by first | omega | (simp; omega) | simp) | refine Below.setCell ?_ (by first | omega | (simp; omega) | simp) _ | refine Below.alloc ?_ (by first | omega | (simp; omega) | simp) _ | refine Below.drew ?_ | refine below_drewN ?_ _ | refine Below.step (by assumption) (by first | omega | (simp; omega) | simp) ?_)))⟩
    · have hm := pvI_m hp
      have hk0 : dropOk m c i b 0 = true := by unfold dropOk; rw [hp]; rfl
      have ha0 : amB 0 m = true := amB_none hm
      cases hk : dropOk m c i b n
      · go_wp2_with (first
          | (go_at_call 14; refine (pvI_any _ _ _ _ _).mono ?_; rintro e w' ⟨rfl, hb⟩; obtain ⟨d1, os1, rfl⟩ := ext_of_below hb; clear hb; (try simp only [hp]))
          | (go_at_call 12; refine (useI_any _ _ _ _ _ _).mono ?_; rintro e w' ⟨rfl, hb⟩; obtain ⟨d1, os1, rfl⟩ := ext_of_below hb; clear hb; simp only [hk, hk0, ha0, selI, pickI, Bool.false_and, Bool.true_and, Bool.false_eq_true, if_false, if_true])
          | (go_at_call 13; refine (useS_any _ _ _ _ _ _).mono ?_; rintro e w' ⟨rfl, hb⟩; obtain ⟨d1, os1, rfl⟩ := ext_of_below hb; clear hb; simp only [hk, selI, Bool.false_and, Bool.false_eq_true, if_false])
          | (go_at_call 15; refine (alive_any _).mono ?_; rintro e w' ⟨rfl, rfl⟩))
        go_ret
        exact ⟨rfl, (by (repeat (first | exact Below.refl _ _ | exact Hbl.out | refine Below.ext ?_ (by first | omega | (simp; omega) | simp) | refine Below.setCell ?_ (by first | omega | (simp; omega) | simp) _ | refine Below.alloc ?_ (by first | omega | (simp; omega) | simp) _ | refine Below.drew ?_ | refine below_drewN ?_ _ | refine Below.step (by assumption) (by first | omega | (simp; omega) | simp) ?_)))⟩
      · cases ha : amB n m
        · go_wp2_with (first
            | (go_at_call 14; refine (pvI_any _ _ _ _ _).mono ?_; rintro e w' ⟨rfl, hb⟩; obtain ⟨d1, os1, rfl⟩ := ext_of_below hb; clear hb; (try simp only [hp]))
            | (go_at_call 12; refine (useI_any _ _ _ _ _ _).mono ?_; rintro e w' ⟨rfl, hb⟩; obtain ⟨d1, os1, rfl⟩ := ext_of_below hb; clear hb; simp only [hk, ha, hk0, ha0, selI, pickI, Bool.and_false, Bool.true_and, Bool.false_eq_true, if_false, if_true])
            | (go_at_call 13; refine (useS_any _ _ _ _ _ _).mono ?_; rintro e w' ⟨rfl, hb⟩; obtain ⟨d1, os1, rfl⟩ := ext_of_below hb; clear hb; simp only [hk, ha, selI, pickI, Bool.and_false, Bool.true_and, Bool.false_eq_true, if_false, if_true])
            | (go_at_call 15; refine (alive_any _).mono ?_; rintro e w' ⟨rfl, rfl⟩))
          go_ret
          exact ⟨rfl, (by (repeat (first | exact Below.refl _ _ | exact Hbl.out | refine Below.ext ?_ (by first | omega | (simp; omega) | simp) | refine Below.setCell ?_ (by first | omega | (simp; omega) | simp) _ | refine Below.alloc ?_ (by first | omega | (simp; omega) | simp) _ | refine Below.drew ?_ | refine below_drewN ?_ _ | refine Below.step (by assumption) (by first | omega | (simp; omega) | simp) ?_)))⟩
        · have hv : pvI m n i b = true := by
            obtain ⟨h1, _, h3, h4, _⟩ := pvI_iff.1 hp
            have hk' := hk
            unfold dropOk at hk'
            rw [hp, Bool.true_and] at hk'
            exact pvI_iff.2 ⟨h1, hk', h3, h4, ha⟩
          go_wp2_with (first
            | (go_at_call 14; refine (pvI_any _ _ _ _ _).mono ?_; rintro e w' ⟨rfl, hb⟩; obtain ⟨d1, os1, rfl⟩ := ext_of_below hb; clear hb; (first | simp only [hp] | simp only [hv]))
            | (go_at_call 12; refine (useI_any _ _ _ _ _ _).mono ?_; rintro e w' ⟨rfl, hb⟩; obtain ⟨d1, os1, rfl⟩ := ext_of_below hb; clear hb; simp only [hk, ha, hk0, ha0, selI, pickI, Bool.true_and, if_true])
            | (go_at_call 13; refine (useS_any _ _ _ _ _ _).mono ?_; rintro e w' ⟨rfl, hb⟩; obtain ⟨d1, os1, rfl⟩ := ext_of_below hb; clear hb; simp only [hk, ha, selI, pickI, Bool.true_and, if_true])
            | (go_at_call 15; refine (alive_any _).mono ?_; rintro e w' ⟨rfl, rfl⟩))
          go_ret
          exact ⟨rfl, (by (repeat (first | exact Below.refl _ _ | exact Hbl.out | refine Below.ext ?_ (by first | omega | (simp; omega) | simp) | refine Below.setCell ?_ (by first | omega | (simp; omega) | simp) _ | refine Below.alloc ?_ (by first | omega | (simp; omega) | simp) _ | refine Below.drew ?_ | refine below_drewN ?_ _ | refine Below.step (by assumption) (by first | omega | (simp; omega) | simp) ?_)))⟩
end Go.Proofs.Ytlanbgpmmlnehaa
