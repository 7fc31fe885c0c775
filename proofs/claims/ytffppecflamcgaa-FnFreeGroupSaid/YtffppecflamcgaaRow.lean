/- Rows of structs of three ints that the call itself made. -/
import Derived.Test.YtffppecflamcgaaSl
set_option linter.unusedSimpArgs false
set_option linter.unusedVariables false
set_option linter.unusedSectionVars false
namespace Go.Proofs.Ytffppecflamcgaa
open Go.RowKit

def pick3 (x : Int × Int × Int) (r : Nat) : Int := if r = 0 then x.1 else if r = 1 then x.2.1 else x.2.2
/-- The cells of n threes. -/
def row3 (n : Nat) (f : Nat → Int × Int × Int) : List Value := (List.range (n * 3)).map fun j => .int .i64 (pick3 (f (j / 3)) (j % 3))
theorem row3_at {n : Nat} {f : Nat → Int × Int × Int} {j : Nat} (hj : j < n * 3) : (row3 n f)[j]? = some (.int .i64 (pick3 (f (j / 3)) (j % 3))) := by
  unfold row3
  rw [List.getElem?_map, List.getElem?_range hj]; rfl
theorem row3_len {n : Nat} {f : Nat → Int × Int × Int} : (row3 n f).length = n * 3 := by unfold row3; simp
theorem row3_made (n : Nat) : (madeCells #[Value.int .i64 0, .int .i64 0, .int .i64 0] (n * 3)).toList = row3 n (fun _ => (0, 0, 0)) := by
  unfold madeCells row3
  simp only [Array.toList_map, Array.toList_range]
  apply List.map_congr_left
  intro j _
  have : j % 3 = 0 ∨ j % 3 = 1 ∨ j % 3 = 2 := by omega
  rcases this with h | h | h <;> simp [h, pick3]
/-- Element k is set to x. -/
def upd (f : Nat → Int × Int × Int) (k : Nat) (x : Int × Int × Int) (i : Nat) : Int × Int × Int := if i = k then x else f i
theorem row3_set {n k : Nat} {f : Nat → Int × Int × Int} {a b c : Int} (hk : k < n) :
    (((row3 n f).set (k * 3) (.int .i64 a)).set (k * 3 + 1) (.int .i64 b)).set (k * 3 + 2) (.int .i64 c) = row3 n (upd f k (a, b, c)) := by
  apply List.ext_getElem?
  intro j
  by_cases hj : j < n * 3
  · rw [row3_at hj]
    have hl : (row3 n f).length = n * 3 := row3_len
    by_cases h2 : k * 3 + 2 = j
    · subst h2
      rw [List.getElem?_set_self (by simp [hl]; omega)]
      have e1 : (k * 3 + 2) / 3 = k := by omega
      have e2 : (k * 3 + 2) % 3 = 2 := by omega
      rw [e1, e2]; simp [upd, pick3]
    · rw [List.getElem?_set_ne h2]
      by_cases h1 : k * 3 + 1 = j
      · subst h1
        rw [List.getElem?_set_self (by simp [hl]; omega)]
        have e1 : (k * 3 + 1) / 3 = k := by omega
        have e2 : (k * 3 + 1) % 3 = 1 := by omega
        rw [e1, e2]; simp [upd, pick3]
      · rw [List.getElem?_set_ne h1]
        by_cases h0 : k * 3 = j
        · subst h0
          rw [List.getElem?_set_self (by rw [hl]; omega)]
          have e1 : (k * 3) / 3 = k := by omega
          have e2 : (k * 3) % 3 = 0 := by omega
          rw [e1, e2]; simp [upd, pick3]
        · rw [List.getElem?_set_ne h0, row3_at hj]
          have : j / 3 ≠ k := by omega
          simp [upd, this]
  · rw [List.getElem?_eq_none (by simp [row3_len]; omega), List.getElem?_eq_none (by rw [row3_len]; omega)]
theorem row3_congr {n : Nat} {f g : Nat → Int × Int × Int} (h : ∀ i, i < n → f i = g i) : row3 n f = row3 n g := by
  unfold row3
  apply List.map_congr_left
  intro j hj
  rw [h (j / 3) (by have := List.mem_range.1 hj; omega)]
theorem own_ext {w : World} {base size n d : Nat} {os : Array Obj} {e : TypeId} {v : Value} {xs : List Value} (h : w.ownsRow base e size v n xs) : (ext w d os).ownsRow base e size v n xs := by
  refine ⟨h.1, ?_⟩
  rcases h.2 with h' | ⟨g, cap, cur, h1, h2, h3, h4⟩
  · exact .inl h'
  · refine .inr ⟨g, cap, cur, h1, h2, ?_, h4⟩
    have hg : g < w.heap.size := by
      rcases Nat.lt_or_ge g w.heap.size with hlt | hge
      · exact hlt
      · rw [Array.getElem?_eq_none hge] at h3; cases h3
    rw [ext_get hg]; exact h3
/-- A row of the call's own reads as its list. -/
theorem at3_of_own {w : World} {base n cap g : Nat} {e : TypeId} {l : List (Int × Int × Int)} (hn : n = l.length) (h : w.ownsRow base e 3 (.slice (some ⟨g, 0, none⟩) n cap) n (row3 n (ti l))) : At3 w g 0 l := by
  subst hn
  intro i hi
  have e1 : (i * 3) / 3 = i := by omega
  have e2 : (i * 3 + 1) / 3 = i := by omega
  have e3 : (i * 3 + 2) / 3 = i := by omega
  have m1 : (i * 3) % 3 = 0 := by omega
  have m2 : (i * 3 + 1) % 3 = 1 := by omega
  have m3 : (i * 3 + 2) % 3 = 2 := by omega
  refine ⟨?_, ?_, ?_⟩
  · rw [Nat.zero_add, h.cellAt _ (by omega), row3_at (by omega), e1, m1]; rfl
  · rw [Nat.zero_add, h.cellAt _ (by omega), row3_at (by omega), e2, m2]; rfl
  · rw [Nat.zero_add, h.cellAt _ (by omega), row3_at (by omega), e3, m3]; rfl
end Go.Proofs.Ytffppecflamcgaa
