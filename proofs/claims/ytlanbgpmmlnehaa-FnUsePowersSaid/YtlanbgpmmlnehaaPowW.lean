/- The drawn laws on powers: the walks. -/
import Derived.Test.YtlanbgpmmlnehaaPowL
import Derived.Test.YtlanbgpmmlnehaaPow2
import Derived.Test.YtlanbgpmmlnehaaName
set_option linter.unusedSimpArgs false
set_option linter.unusedVariables false
set_option linter.unusedSectionVars false
namespace Go.Proofs.Ytlanbgpmmlnehaa
open Go.RowKit

theorem inB63 {n : Int} : inB n 0 63 = true ↔ 0 ≤ n ∧ n ≤ 63 := inB_iff
theorem pvI_iff {m c i b : Int} : pvI m c i b = true ↔ inB m 0 63 = true ∧ inB c 0 63 = true ∧ inB i 0 63 = true ∧ inB b 0 63 = true ∧ amB c m = true := by
  unfold pvI; simp only [Bool.and_eq_true]
theorem amB_nat {c m : Nat} (hc : c ≤ 63) (hm : m ≤ 63) : amB (c : Int) (m : Int) = decide (lessN c m = 0) := by
  unfold amB
  rw [andNot_nat c m (by omega) (by omega)]
  rw [Bool.eq_iff_iff]
  simp
theorem pv_four (b : Int) : pvI 0 4 0 b = false := by
  have : amB 4 0 = false := by decide +kernel
  unfold pvI; rw [this]; simp
theorem pv_none {m c i b : Int} (h : pvI m c i b = true) : pvI m 0 i b = true := by
  obtain ⟨h1, h2, h3, h4, h5⟩ := pvI_iff.1 h
  refine pvI_iff.2 ⟨h1, rfl, h3, h4, ?_⟩
  obtain ⟨a1, a2⟩ := inB63.1 h1
  obtain ⟨m, rfl⟩ := Int.eq_ofNat_of_zero_le a1
  have := amB_nat (c := 0) (m := m) (by omega) (by omega)
  rw [show ((0 : Nat) : Int) = 0 from rfl] at this
  rw [this, zero_less]; rfl

theorem may_nat (i b g h : Nat) (hi : i ≤ 63) (hb : b ≤ 63) (hg : g ≤ 63) (hh : h ≤ 63) : runMay (i : Int) (b : Int) (g : Int) (h : Int) = (((i &&& h) ||| (b &&& g) : Nat) : Int) := by
  unfold runMay
  have h1 := and_six i h hh
  have h2 := and_six b g hg
  rw [and_nat i h (by omega) (by omega), and_nat b g (by omega) (by omega), or_nat _ _ (by omega) (by omega)]
theorem inB_nat {n : Nat} (h : n ≤ 63) : inB (n : Int) 0 63 = true := inB63.2 ⟨by omega, by omega⟩
theorem nat_of_inB {n : Int} (h : inB n 0 63 = true) : ∃ k : Nat, n = k ∧ k ≤ 63 := by
  obtain ⟨a1, a2⟩ := inB63.1 h
  exact ⟨n.toNat, by omega, by omega⟩
/-- The facts on 'RunPowers' where all is right. -/
theorem run_facts {m c i b g h : Int} (hk : runOk m c i b g h = true) : (∀ u, pvI (runMay i b g h) (selI u (runMay i b g h)) i b = true) ∧ (bits .andNot .i64 (runMay i b g h) (bits .or .i64 i b) == 0) = true ∧ runOk m c i b 0 0 = true ∧ runMay i b 0 0 = 0 := by
  unfold runOk at hk
  simp only [Bool.and_eq_true] at hk
  obtain ⟨hp, hg0, hh0⟩ := hk
  obtain ⟨h1, h2, h3, h4, h5⟩ := pvI_iff.1 hp
  obtain ⟨i, rfl, hi⟩ := nat_of_inB h3
  obtain ⟨b, rfl, hb⟩ := nat_of_inB h4
  obtain ⟨g, rfl, hg⟩ := nat_of_inB hg0
  obtain ⟨h, rfl, hh⟩ := nat_of_inB hh0
  have hm : ((i &&& h) ||| (b &&& g)) ≤ 63 := or_six _ _ (and_six i h hh) (and_six b g hg)
  have hs : (i ||| b) ≤ 63 := or_six i b hi hb
  rw [may_nat i b g h hi hb hg hh, or_nat i b (by omega) (by omega), andNot_nat _ _ (by omega) (by omega)]
  refine ⟨fun u => ?_, ?_, ?_, ?_⟩
  · refine pvI_iff.2 ⟨inB_nat hm, ?_, h3, h4, ?_⟩
    · cases u
      · rfl
      · exact inB_nat hm
    · cases u
      · have := amB_nat (c := 0) (m := (i &&& h) ||| (b &&& g)) (by omega) hm
        rw [show ((0 : Nat) : Int) = 0 from rfl] at this
        rw [selI_false, this, zero_less]; rfl
      · rw [selI_true, amB_nat hm hm, less_self _ hm]; rfl
  · rw [within_or i h b g hi hh hb hg]; rfl
  · unfold runOk; rw [hp]; rfl
  · have := may_nat i b 0 0 hi hb (by omega) (by omega)
    rw [show ((0 : Nat) : Int) = 0 from rfl] at this
    rw [this, Nat.and_zero, Nat.and_zero]; rfl
theorem not_nat (a g : Nat) (ha : a ≤ 63) (hg : g ≤ 63) : bits .andNot .i64 (a : Int) (g : Int) = ((lessN a g : Nat) : Int) := andNot_nat a g (by omega) (by omega)
/-- The facts on 'DropPowers' where all is right. -/
theorem drop_facts {m c i b g : Int} (hk : dropOk m c i b g = true) :
    pvI (bits .andNot .i64 m g) (bits .andNot .i64 c g) (bits .andNot .i64 i g) (bits .andNot .i64 b g) = true ∧
    runOk (bits .andNot .i64 m g) (bits .andNot .i64 c g) (bits .andNot .i64 i g) (bits .andNot .i64 b g) 63 63 = true ∧
    dropOk (bits .andNot .i64 m g) (bits .andNot .i64 c g) (bits .andNot .i64 i g) (bits .andNot .i64 b g) g = true ∧
    (bits .and .i64 (bits .andNot .i64 m g) g == 0) = true ∧ (bits .and .i64 (runMay (bits .andNot .i64 i g) (bits .andNot .i64 b g) 63 63) g == 0) = true ∧
    bits .andNot .i64 (bits .andNot .i64 m g) g = bits .andNot .i64 m g ∧ bits .andNot .i64 (bits .andNot .i64 c g) g = bits .andNot .i64 c g ∧
    bits .andNot .i64 (bits .andNot .i64 i g) g = bits .andNot .i64 i g ∧ bits .andNot .i64 (bits .andNot .i64 b g) g = bits .andNot .i64 b g := by
  unfold dropOk at hk
  simp only [Bool.and_eq_true] at hk
  obtain ⟨hp, hg0⟩ := hk
  obtain ⟨h1, h2, h3, h4, h5⟩ := pvI_iff.1 hp
  obtain ⟨m, rfl, hm⟩ := nat_of_inB h1
  obtain ⟨c, rfl, hc⟩ := nat_of_inB h2
  obtain ⟨i, rfl, hi⟩ := nat_of_inB h3
  obtain ⟨b, rfl, hb⟩ := nat_of_inB h4
  obtain ⟨g, rfl, hg⟩ := nat_of_inB hg0
  have lm := less_six m g hm
  have lc := less_six c g hc
  have li := less_six i g hi
  have lb := less_six b g hb
  rw [not_nat m g hm hg, not_nat c g hc hg, not_nat i g hi hg, not_nat b g hb hg, not_nat _ g lm hg, not_nat _ g lc hg, not_nat _ g li hg, not_nat _ g lb hg]
  have hcm : lessN c m = 0 := by
    have := amB_nat (c := c) (m := m) hc hm
    rw [h5] at this
    exact of_decide_eq_true this.symm
  have hpv : pvI (lessN m g : Nat) (lessN c g : Nat) (lessN i g : Nat) (lessN b g : Nat) = true := by
    refine pvI_iff.2 ⟨inB_nat lm, inB_nat lc, inB_nat li, inB_nat lb, ?_⟩
    rw [amB_nat lc lm, less_mono c m g hc hm hg hcm]; rfl
  have hM := may_nat (lessN i g) (lessN b g) 63 63 li lb (by omega) (by omega)
  rw [show ((63 : Nat) : Int) = 63 from rfl] at hM
  have hms : (lessN i g &&& 63) ||| (lessN b g &&& 63) ≤ 63 := or_six _ _ (and_six _ _ (by omega)) (and_six _ _ (by omega))
  refine ⟨hpv, ?_, ?_, ?_, ?_, ?_, ?_, ?_, ?_⟩
  · unfold runOk; rw [hpv]; rfl
  · unfold dropOk; rw [hpv, inB_nat hg]; rfl
  · rw [and_nat _ g (by omega) (by omega), less_and m g hm hg]; rfl
  · rw [hM, and_nat _ g (by omega) (by omega), gone_or i b g 63 63 hi hb hg]; rfl
  · rw [less_less m g hm hg]
  · rw [less_less c g hc hg]
  · rw [less_less i g hi hg]
  · rw [less_less b g hb hg]

end Go.Proofs.Ytlanbgpmmlnehaa
