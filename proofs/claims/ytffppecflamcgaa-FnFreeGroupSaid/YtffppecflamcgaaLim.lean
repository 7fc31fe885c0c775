/- Limits: the plain side. A limit is (Above, Most, Used). -/
import Derived.Test.YtffppecflamcgaaSl
set_option linter.unusedSimpArgs false
set_option linter.unusedVariables false
set_option linter.unusedSectionVars false
namespace Go.Proofs.Ytffppecflamcgaa
open Go.RowKit

theorem inB_iff {n lo hi : Int} : inB n lo hi = true ↔ lo ≤ n ∧ n ≤ hi := by simp [inB]
abbrev T3 := Int × Int × Int
/-- Limit i alone is right. -/
def limOk (l : List T3) (i : Nat) : Bool := inB (ti l i).1 (-1) ((i : Int) - 1) && (inB (ti l i).2.1 0 10000 && inB (ti l i).2.2 0 (ti l i).2.1)
/-- What those of the first m that are directly above by k use. -/
def ps (l : List T3) : Nat → Nat → Int
  | 0, _ => 0
  | m + 1, k => ps l m k + (if (ti l m).1 = (k : Int) then (ti l m).2.2 else 0)
def limB (l : List T3) : Bool := decide (l.length ≤ 8) && ((List.range l.length).all (limOk l) && (List.range l.length).all (fun k => decide (ps l l.length k ≤ (ti l k).2.2)))

theorem all_bad {n k : Nat} {p : Nat → Bool} (hk : k < n) (h : p k = false) : (List.range n).all p = false := by
  rw [List.all_eq_false]
  exact ⟨k, List.mem_range.2 hk, by rw [h]; exact Bool.false_ne_true⟩
theorem all_good {n : Nat} {p : Nat → Bool} (h : ∀ k, k < n → p k = true) : (List.range n).all p = true := by
  rw [List.all_eq_true]
  intro k hk
  exact h k (List.mem_range.1 hk)
theorem limB_long {l : List T3} (h : 8 < l.length) : limB l = false := by
  unfold limB; rw [decide_eq_false (by omega), Bool.false_and]
theorem limB_bad {l : List T3} {k : Nat} (hk : k < l.length) (h : limOk l k = false) : limB l = false := by
  unfold limB; rw [all_bad hk h, Bool.false_and, Bool.and_false]
theorem limB_over {l : List T3} {k : Nat} (hk : k < l.length) (h : (ti l k).2.2 < ps l l.length k) : limB l = false := by
  unfold limB; rw [all_bad (p := fun k => decide (ps l l.length k ≤ (ti l k).2.2)) hk (decide_eq_false (by omega)), Bool.and_false, Bool.and_false]
theorem limB_good {l : List T3} (h0 : l.length ≤ 8) (h1 : ∀ k, k < l.length → limOk l k = true) (h2 : ∀ k, k < l.length → ps l l.length k ≤ (ti l k).2.2) : limB l = true := by
  unfold limB
  rw [decide_eq_true h0, all_good h1, all_good (fun k hk => decide_eq_true (h2 k hk))]; rfl
theorem limOk_iff {l : List T3} {i : Nat} : limOk l i = true ↔ (-1 ≤ (ti l i).1 ∧ (ti l i).1 ≤ (i : Int) - 1) ∧ (0 ≤ (ti l i).2.1 ∧ (ti l i).2.1 ≤ 10000) ∧ (0 ≤ (ti l i).2.2 ∧ (ti l i).2.2 ≤ (ti l i).2.1) := by
  unfold limOk; simp only [Bool.and_eq_true, inB_iff]
theorem ps_bd {l : List T3} : ∀ m, (∀ j, j < m → limOk l j = true) → ∀ k, 0 ≤ ps l m k ∧ ps l m k ≤ 10000 * m
  | 0, _, k => by simp [ps]
  | m + 1, h, k => by
    have ih := ps_bd m (fun j hj => h j (by omega)) k
    have := limOk_iff.1 (h m (by omega))
    simp only [ps]
    split <;> omega
/-- The row of sums behind the first m limits. -/
def psRow (l : List T3) (n m : Nat) : List Value := (List.range n).map fun k => Value.int .i64 (ps l m k)
theorem psRow_at {l : List T3} {n m k : Nat} (hk : k < n) : (psRow l n m)[k]? = some (.int .i64 (ps l m k)) := by
  unfold psRow
  rw [List.getElem?_map, List.getElem?_range hk]; rfl
theorem psRow_none {l : List T3} {n m : Nat} (h : (ti l m).1 < 0) : psRow l n (m + 1) = psRow l n m := by
  unfold psRow
  apply List.map_congr_left
  intro k _
  simp only [ps]
  rw [if_neg (by omega)]; simp
theorem psRow_set {l : List T3} {n m a : Nat} (h : (ti l m).1 = (a : Int)) : (psRow l n m).set a (.int .i64 (ps l m a + (ti l m).2.2)) = psRow l n (m + 1) := by
  apply List.ext_getElem?
  intro k
  by_cases hk : k < n
  · rw [psRow_at hk]
    by_cases e : a = k
    · subst e
      rw [List.getElem?_set_self (by unfold psRow; simpa using hk)]
      simp only [ps, h, if_true]
    · rw [List.getElem?_set_ne e, psRow_at hk]
      simp only [ps, h]
      rw [if_neg (by omega)]; simp
  · rw [List.getElem?_eq_none (by unfold psRow; simp; omega), List.getElem?_eq_none (by unfold psRow; simp; omega)]
end Go.Proofs.Ytffppecflamcgaa
