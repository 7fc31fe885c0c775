/- The names of a node ascend: what a search among them finds. No program in sight. -/
import Derived.Test.YtkennmpbmbacpaaGreatDoorMD
import Derived.Test.YtkennmpbmbacpaaGreatDoorME
set_option linter.unusedSimpArgs false
set_option linter.unusedVariables false
set_option linter.unusedSectionVars false
namespace Go.Proofs.YtkennmpbmbacpaaGreatDoor
open Go.RowKit

theorem ltL_cons (x y : UInt8) (a b : List UInt8) : ltL (x :: a) (y :: b) = true ↔ (x < y ∨ (x = y ∧ ltL a b = true)) := by
  have h3 : x < y ∨ x = y ∨ y < x := by
    rcases Nat.lt_trichotomy x.toNat y.toNat with h | h | h
    · exact .inl (UInt8.lt_iff_toNat_lt.2 h)
    · exact .inr (.inl (UInt8.toNat_inj.1 h))
    · exact .inr (.inr (UInt8.lt_iff_toNat_lt.2 h))
  unfold ltL
  rcases h3 with h | h | h
  · simp [Op.bytesLess, h]
  · subst h
    have h' : ¬ x < x := fun e => by rw [UInt8.lt_iff_toNat_lt] at e; omega
    simp [Op.bytesLess, h']
  · have h' : ¬ x < y := fun e => by rw [UInt8.lt_iff_toNat_lt] at e h; omega
    have h2 : ¬ x = y := fun e => by subst e; exact h' h
    simp [Op.bytesLess, h, h', h2]
theorem ltL_trans : ∀ a b c : List UInt8, ltL a b = true → ltL b c = true → ltL a c = true
  | [], [], _, h, _ => by cases h
  | _ :: _, [], _, h, _ => by cases h
  | [], _ :: _, [], _, h => by cases h
  | [], _ :: _, _ :: _, _, _ => rfl
  | _ :: _, _ :: _, [], _, h => by cases h
  | x :: a, y :: b, z :: c, h1, h2 => by
    rw [ltL_cons] at h1 h2 ⊢
    rcases h1 with h1 | ⟨rfl, h1⟩
    · rcases h2 with h2 | ⟨rfl, h2⟩
      · rw [UInt8.lt_iff_toNat_lt] at h1 h2
        exact .inl (UInt8.lt_iff_toNat_lt.2 (by omega))
      · exact .inl h1
    · rcases h2 with h2 | ⟨rfl, h2⟩
      · exact .inl h2
      · exact .inr ⟨rfl, ltL_trans a b c h1 h2⟩
theorem ltL_irr : ∀ a : List UInt8, ltL a a = false
  | [] => rfl
  | x :: a => by
    rw [Bool.eq_false_iff]
    intro h
    rw [ltL_cons] at h
    rcases h with h | ⟨_, h⟩
    · rw [UInt8.lt_iff_toNat_lt] at h; omega
    · rw [ltL_irr a] at h; cases h
/-- Names ascend. -/
def Asc (x : Nd) : Prop := ∀ k, 0 < k → k < x.ns.length → ltL (nthN x (k - 1)) (nthN x k) = true
theorem asc_of {m : Int} {x : Nd} (h : nodeB m x = true) : Asc x := fun k h0 hk => by
  have := kidOk_iff.1 ((nodeB_iff.1 h).2 k hk)
  rcases this.2.2 with h | h
  · omega
  · exact h
theorem asc_lt {x : Nd} (h : Asc x) {i j : Nat} (hij : i < j) (hj : j < x.ns.length) : ltL (nthN x i) (nthN x j) = true := by
  induction j with
  | zero => omega
  | succ j ih =>
    have h1 := h (j + 1) (by omega) hj
    rw [Nat.add_sub_cancel] at h1
    by_cases e : i = j
    · subst e; exact h1
    · exact ltL_trans _ _ _ (ih (by omega) (by omega)) h1
theorem asc_ge {x : Nd} (h : Asc x) {s : List UInt8} {j : Nat} (hj : putAt x s ≤ j) (hl : j < x.ns.length) : ltL (nthN x j) s = false := by
  have h0 := putAt_ge (x := x) (s := s) (by omega)
  by_cases e : putAt x s = j
  · rw [← e]; exact h0
  · rw [Bool.eq_false_iff]
    intro h1
    rw [ltL_trans _ _ _ (asc_lt h (show putAt x s < j by omega) hl) h1] at h0
    cases h0
theorem kid_put {x : Nd} (h : Asc x) (s : List UInt8) : kidF x s = if putAt x s < x.ns.length ∧ nthN x (putAt x s) = s then nthK x (putAt x s) else -1 := by
  split
  · next hp =>
    refine kid_some hp.1 hp.2 fun m hm e => ?_
    have := putAt_lt hm
    rw [e, ltL_irr] at this
    cases this
  · next hp =>
    refine kid_none fun m hm e => ?_
    rcases Nat.lt_or_ge m (putAt x s) with h1 | h1
    · have := putAt_lt h1
      rw [e, ltL_irr] at this
      cases this
    · by_cases e2 : putAt x s = m
      · exact hp ⟨by omega, by rw [e2]; exact e⟩
      · have h2 := asc_ge h (s := s) (Nat.le_refl _) (by omega)
        have h3 := asc_lt h (show putAt x s < m by omega) hm
        rw [e] at h3
        rw [h3] at h2
        cases h2
end Go.Proofs.YtkennmpbmbacpaaGreatDoor
