/- Plain facts on bits of int: '&', '|', '&^' at small numbers. No program in sight. -/
import Derived.WalkKit
set_option linter.unusedSimpArgs false
set_option linter.unusedVariables false
set_option linter.unusedSectionVars false
namespace Go.Proofs.YtkennmpbmbacpaaGreatDoor
open Go.RowKit

theorem ofInt_i64 (a : Nat) (ha : a < 18446744073709551616) : (BitVec.ofInt 64 (a : Int)).toNat = a := by
  rw [BitVec.ofInt_natCast, BitVec.toNat_ofNat]; exact Nat.mod_eq_of_lt (by omega)
theorem and_nat (a b : Nat) (ha : a < 65536) (hb : b < 65536) : bits .and .i64 (a : Int) (b : Int) = ((a &&& b : Nat) : Int) := by
  have hx : a &&& b < 2 ^ 16 := Nat.and_lt_two_pow _ (by omega)
  show IntKind.i64.wrap ((BitVec.ofInt 64 (a : Int) &&& BitVec.ofInt 64 (b : Int)).toNat : Int) = _
  rw [BitVec.toNat_and, ofInt_i64 a (by omega), ofInt_i64 b (by omega), IntKind.wrap_i64]
  omega
theorem or_nat (a b : Nat) (ha : a < 65536) (hb : b < 65536) : bits .or .i64 (a : Int) (b : Int) = ((a ||| b : Nat) : Int) := by
  have hx : a ||| b < 2 ^ 16 := Nat.or_lt_two_pow (by omega) (by omega)
  show IntKind.i64.wrap ((BitVec.ofInt 64 (a : Int) ||| BitVec.ofInt 64 (b : Int)).toNat : Int) = _
  rw [BitVec.toNat_or, ofInt_i64 a (by omega), ofInt_i64 b (by omega), IntKind.wrap_i64]
  omega
/-- a without the bits of b. -/
def lessN (a b : Nat) : Nat := a &&& (18446744073709551615 - b)
theorem lessN_lt (a b n : Nat) (ha : a < 2 ^ n) : lessN a b < 2 ^ n := by
  unfold lessN
  rw [Nat.and_comm]
  exact Nat.and_lt_two_pow _ ha
theorem andNot_nat (a b : Nat) (ha : a < 65536) (hb : b < 65536) : bits .andNot .i64 (a : Int) (b : Int) = ((lessN a b : Nat) : Int) := by
  have hx := lessN_lt a b 16 (by omega)
  show IntKind.i64.wrap ((BitVec.ofInt 64 (a : Int) &&& ~~~BitVec.ofInt 64 (b : Int)).toNat : Int) = _
  rw [BitVec.toNat_and, BitVec.toNat_not, ofInt_i64 a (by omega), ofInt_i64 b (by omega), IntKind.wrap_i64]
  have e : 2 ^ 64 - 1 - b = 18446744073709551615 - b := by omega
  rw [e]
  unfold lessN at hx ⊢
  omega
theorem testBit_less (a b i : Nat) (ha : a < 65536) (hb : b < 65536) : (lessN a b).testBit i = (a.testBit i && !b.testBit i) := by
  unfold lessN
  have e : 18446744073709551615 - b = 2 ^ 64 - (b + 1) := by omega
  rw [Nat.testBit_and, e, Nat.testBit_two_pow_sub_succ (by omega)]
  by_cases h : i < 64
  · simp [h]
  · have : a.testBit i = false := Nat.testBit_lt_two_pow (Nat.lt_of_lt_of_le (show a < 2 ^ 16 by omega) (Nat.pow_le_pow_right (by omega) (by omega)))
    simp [this]

/-! ### The facts on powers: numbers in 0..63 -/
theorem six (n : Nat) (h : n ≤ 63) : n < 2 ^ 6 := by omega
theorem and_six (a b : Nat) (hb : b ≤ 63) : a &&& b ≤ 63 := by have := Nat.and_lt_two_pow a (six b hb); omega
theorem or_six (a b : Nat) (ha : a ≤ 63) (hb : b ≤ 63) : a ||| b ≤ 63 := by have := Nat.or_lt_two_pow (six a ha) (six b hb); omega
theorem less_six (a b : Nat) (ha : a ≤ 63) : lessN a b ≤ 63 := by have := lessN_lt a b 6 (six a ha); omega
/-- 'c is among m' said in two ways. -/
theorem among (c m : Nat) (hc : c ≤ 63) (hm : m ≤ 63) : lessN c m = 0 ↔ c &&& m = c := by
  constructor
  · intro h
    apply Nat.eq_of_testBit_eq; intro i
    have := congrArg (fun n => Nat.testBit n i) h
    simp only [testBit_less c m i (by omega) (by omega), Nat.zero_testBit] at this
    rw [Nat.testBit_and]
    cases h1 : c.testBit i <;> cases h2 : m.testBit i <;> simp_all
  · intro h
    apply Nat.eq_of_testBit_eq; intro i
    have := congrArg (fun n => Nat.testBit n i) h
    simp only [Nat.testBit_and] at this
    rw [testBit_less c m i (by omega) (by omega), Nat.zero_testBit]
    cases h1 : c.testBit i <;> cases h2 : m.testBit i <;> simp_all
theorem less_self (a : Nat) (ha : a ≤ 63) : lessN a a = 0 := (among a a ha ha).2 (Nat.and_self a)
theorem zero_less (a : Nat) : lessN 0 a = 0 := by unfold lessN; exact Nat.zero_and _
theorem less_and (a g : Nat) (ha : a ≤ 63) (hg : g ≤ 63) : lessN a g &&& g = 0 := by
  apply Nat.eq_of_testBit_eq; intro i
  rw [Nat.testBit_and, testBit_less a g i (by omega) (by omega), Nat.zero_testBit]
  cases a.testBit i <;> cases g.testBit i <;> simp
theorem less_less (a g : Nat) (ha : a ≤ 63) (hg : g ≤ 63) : lessN (lessN a g) g = lessN a g := by
  have := less_six a g ha
  apply Nat.eq_of_testBit_eq; intro i
  rw [testBit_less (lessN a g) g i (by omega) (by omega), testBit_less a g i (by omega) (by omega)]
  cases a.testBit i <;> cases g.testBit i <;> simp
theorem less_mono (c m g : Nat) (hc : c ≤ 63) (hm : m ≤ 63) (hg : g ≤ 63) (h : lessN c m = 0) : lessN (lessN c g) (lessN m g) = 0 := by
  have := less_six c g hc
  have := less_six m g hm
  apply Nat.eq_of_testBit_eq; intro i
  have hi := congrArg (fun n => Nat.testBit n i) h
  simp only [testBit_less c m i (by omega) (by omega), Nat.zero_testBit] at hi
  rw [testBit_less (lessN c g) (lessN m g) i (by omega) (by omega), testBit_less c g i (by omega) (by omega), testBit_less m g i (by omega) (by omega), Nat.zero_testBit]
  cases h1 : c.testBit i <;> cases h2 : m.testBit i <;> cases h3 : g.testBit i <;> simp_all
/-- What a program gives lies within what is inherited or bound. -/
theorem within_or (i x b y : Nat) (hi : i ≤ 63) (hx : x ≤ 63) (hb : b ≤ 63) (hy : y ≤ 63) : lessN ((i &&& x) ||| (b &&& y)) (i ||| b) = 0 := by
  have h1 := or_six (i &&& x) (b &&& y) (and_six i x hx) (and_six b y hy)
  have h2 := or_six i b hi hb
  apply Nat.eq_of_testBit_eq; intro k
  rw [testBit_less _ _ k (by omega) (by omega)]
  simp only [Nat.testBit_or, Nat.testBit_and, Nat.zero_testBit]
  cases i.testBit k <;> cases x.testBit k <;> cases b.testBit k <;> cases y.testBit k <;> rfl
/-- What is dropped never comes back. -/
theorem gone_or (i b g x y : Nat) (hi : i ≤ 63) (hb : b ≤ 63) (hg : g ≤ 63) : ((lessN i g &&& x) ||| (lessN b g &&& y)) &&& g = 0 := by
  apply Nat.eq_of_testBit_eq; intro k
  simp only [Nat.testBit_or, Nat.testBit_and, testBit_less i g k (by omega) (by omega), testBit_less b g k (by omega) (by omega), Nat.zero_testBit]
  cases i.testBit k <;> cases x.testBit k <;> cases b.testBit k <;> cases y.testBit k <;> cases g.testBit k <;> rfl
end Go.Proofs.YtkennmpbmbacpaaGreatDoor
