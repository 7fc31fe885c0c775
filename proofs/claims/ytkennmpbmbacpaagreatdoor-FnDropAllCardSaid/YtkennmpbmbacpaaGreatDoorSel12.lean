/- Literal slices that drawn numbers index: six numbers; four structs of three numbers. -/
import Derived.Test.YtkennmpbmbacpaaGreatDoorMA
set_option linter.unusedSimpArgs false
set_option linter.unusedVariables false
set_option linter.unusedSectionVars false
namespace Go.Proofs.YtkennmpbmbacpaaGreatDoor
open Go.RowKit

theorem sel6l (v : Int) (x0 x1 x2 x3 x4 x5 : Int) (h : v.toNat < [Value.int .i64 x0, Value.int .i64 x1, Value.int .i64 x2, Value.int .i64 x3, Value.int .i64 x4, Value.int .i64 x5].length) : [Value.int .i64 x0, Value.int .i64 x1, Value.int .i64 x2, Value.int .i64 x3, Value.int .i64 x4, Value.int .i64 x5][v.toNat]'h = .int .i64 (selN v [x0, x1, x2, x3, x4, x5]) := by
  have h' : v.toNat < 6 := h
  have : v.toNat = 0 ∨ v.toNat = 1 ∨ v.toNat = 2 ∨ v.toNat = 3 ∨ v.toNat = 4 ∨ v.toNat = 5 := by omega
  rcases this with h | h | h | h | h | h <;> simp [h, selN]

@[go_sem] theorem sel6g (v : Int) (x0 x1 x2 x3 x4 x5 : Int) (h : v.toNat < [Value.int .i64 x0, Value.int .i64 x1, Value.int .i64 x2, Value.int .i64 x3, Value.int .i64 x4, Value.int .i64 x5].length) : [Value.int .i64 x0, Value.int .i64 x1, Value.int .i64 x2, Value.int .i64 x3, Value.int .i64 x4, Value.int .i64 x5][v.toNat]'h = .int .i64 (selN v [x0, x1, x2, x3, x4, x5]) := sel6l v x0 x1 x2 x3 x4 x5 h
@[go_sem] theorem sel6 {v : Int} (h0 : 0 ≤ v) (h1 : v < 6) (x0 x1 x2 x3 x4 x5 : Int) : [Value.int .i64 x0, Value.int .i64 x1, Value.int .i64 x2, Value.int .i64 x3, Value.int .i64 x4, Value.int .i64 x5][v.toNat]? = some (.int .i64 (selN v [x0, x1, x2, x3, x4, x5])) := by
  have hl : v.toNat < [Value.int .i64 x0, Value.int .i64 x1, Value.int .i64 x2, Value.int .i64 x3, Value.int .i64 x4, Value.int .i64 x5].length := by simp; omega
  rw [List.getElem?_eq_getElem hl, sel6l]
@[go_sem] theorem sel6a {v : Int} (h0 : 0 ≤ v) (h1 : v < 6) (x0 x1 x2 x3 x4 x5 : Int) : (#[Value.int .i64 x0, Value.int .i64 x1, Value.int .i64 x2, Value.int .i64 x3, Value.int .i64 x4, Value.int .i64 x5] : Array Value)[v.toNat]? = some (.int .i64 (selN v [x0, x1, x2, x3, x4, x5])) := by
  rw [List.getElem?_toArray]; exact sel6 h0 h1 x0 x1 x2 x3 x4 x5
theorem sel6_bd {c : Int} (h0 : 0 ≤ c) (h1 : c < 6) : 0 ≤ selN c [0, 0, 0, 0, 1, 2] ∧ selN c [0, 0, 0, 0, 1, 2] < 3 := by
  have : c = 0 ∨ c = 1 ∨ c = 2 ∨ c = 3 ∨ c = 4 ∨ c = 5 := by omega
  rcases this with h | h | h | h | h | h <;> subst h <;> decide

theorem sel12l0 (v : Int) (x0 x1 x2 x3 x4 x5 x6 x7 x8 x9 x10 x11 : Int) (h1 : v < 4) (h : v.toNat * 3 < [Value.int .i64 x0, Value.int .i64 x1, Value.int .i64 x2, Value.int .i64 x3, Value.int .i64 x4, Value.int .i64 x5, Value.int .i64 x6, Value.int .i64 x7, Value.int .i64 x8, Value.int .i64 x9, Value.int .i64 x10, Value.int .i64 x11].length) : [Value.int .i64 x0, Value.int .i64 x1, Value.int .i64 x2, Value.int .i64 x3, Value.int .i64 x4, Value.int .i64 x5, Value.int .i64 x6, Value.int .i64 x7, Value.int .i64 x8, Value.int .i64 x9, Value.int .i64 x10, Value.int .i64 x11][v.toNat * 3]'h = .int .i64 (selN v [x0, x3, x6, x9]) := by
  have : v.toNat = 0 ∨ v.toNat = 1 ∨ v.toNat = 2 ∨ v.toNat = 3 := by omega
  rcases this with h | h | h | h <;> simp [h, selN]
@[go_sem] theorem sel12_0 {v : Int} (h0 : 0 ≤ v) (h1 : v < 4) (x0 x1 x2 x3 x4 x5 x6 x7 x8 x9 x10 x11 : Int) : [Value.int .i64 x0, Value.int .i64 x1, Value.int .i64 x2, Value.int .i64 x3, Value.int .i64 x4, Value.int .i64 x5, Value.int .i64 x6, Value.int .i64 x7, Value.int .i64 x8, Value.int .i64 x9, Value.int .i64 x10, Value.int .i64 x11][v.toNat * 3]? = some (.int .i64 (selN v [x0, x3, x6, x9])) := by
  have hl : v.toNat * 3 < [Value.int .i64 x0, Value.int .i64 x1, Value.int .i64 x2, Value.int .i64 x3, Value.int .i64 x4, Value.int .i64 x5, Value.int .i64 x6, Value.int .i64 x7, Value.int .i64 x8, Value.int .i64 x9, Value.int .i64 x10, Value.int .i64 x11].length := by simp; omega
  rw [List.getElem?_eq_getElem hl, sel12l0 _ _ _ _ _ _ _ _ _ _ _ _ _ h1]
@[go_sem] theorem sel12a_0 {v : Int} (h0 : 0 ≤ v) (h1 : v < 4) (x0 x1 x2 x3 x4 x5 x6 x7 x8 x9 x10 x11 : Int) : (#[Value.int .i64 x0, Value.int .i64 x1, Value.int .i64 x2, Value.int .i64 x3, Value.int .i64 x4, Value.int .i64 x5, Value.int .i64 x6, Value.int .i64 x7, Value.int .i64 x8, Value.int .i64 x9, Value.int .i64 x10, Value.int .i64 x11] : Array Value)[v.toNat * 3]? = some (.int .i64 (selN v [x0, x3, x6, x9])) := by
  rw [List.getElem?_toArray]; exact sel12_0 h0 h1 x0 x1 x2 x3 x4 x5 x6 x7 x8 x9 x10 x11
theorem sel12l1 (v : Int) (x0 x1 x2 x3 x4 x5 x6 x7 x8 x9 x10 x11 : Int) (h1 : v < 4) (h : v.toNat * 3 + 1 < [Value.int .i64 x0, Value.int .i64 x1, Value.int .i64 x2, Value.int .i64 x3, Value.int .i64 x4, Value.int .i64 x5, Value.int .i64 x6, Value.int .i64 x7, Value.int .i64 x8, Value.int .i64 x9, Value.int .i64 x10, Value.int .i64 x11].length) : [Value.int .i64 x0, Value.int .i64 x1, Value.int .i64 x2, Value.int .i64 x3, Value.int .i64 x4, Value.int .i64 x5, Value.int .i64 x6, Value.int .i64 x7, Value.int .i64 x8, Value.int .i64 x9, Value.int .i64 x10, Value.int .i64 x11][v.toNat * 3 + 1]'h = .int .i64 (selN v [x1, x4, x7, x10]) := by
  have : v.toNat = 0 ∨ v.toNat = 1 ∨ v.toNat = 2 ∨ v.toNat = 3 := by omega
  rcases this with h | h | h | h <;> simp [h, selN]
@[go_sem] theorem sel12_1 {v : Int} (h0 : 0 ≤ v) (h1 : v < 4) (x0 x1 x2 x3 x4 x5 x6 x7 x8 x9 x10 x11 : Int) : [Value.int .i64 x0, Value.int .i64 x1, Value.int .i64 x2, Value.int .i64 x3, Value.int .i64 x4, Value.int .i64 x5, Value.int .i64 x6, Value.int .i64 x7, Value.int .i64 x8, Value.int .i64 x9, Value.int .i64 x10, Value.int .i64 x11][v.toNat * 3 + 1]? = some (.int .i64 (selN v [x1, x4, x7, x10])) := by
  have hl : v.toNat * 3 + 1 < [Value.int .i64 x0, Value.int .i64 x1, Value.int .i64 x2, Value.int .i64 x3, Value.int .i64 x4, Value.int .i64 x5, Value.int .i64 x6, Value.int .i64 x7, Value.int .i64 x8, Value.int .i64 x9, Value.int .i64 x10, Value.int .i64 x11].length := by simp; omega
  rw [List.getElem?_eq_getElem hl, sel12l1 _ _ _ _ _ _ _ _ _ _ _ _ _ h1]
@[go_sem] theorem sel12a_1 {v : Int} (h0 : 0 ≤ v) (h1 : v < 4) (x0 x1 x2 x3 x4 x5 x6 x7 x8 x9 x10 x11 : Int) : (#[Value.int .i64 x0, Value.int .i64 x1, Value.int .i64 x2, Value.int .i64 x3, Value.int .i64 x4, Value.int .i64 x5, Value.int .i64 x6, Value.int .i64 x7, Value.int .i64 x8, Value.int .i64 x9, Value.int .i64 x10, Value.int .i64 x11] : Array Value)[v.toNat * 3 + 1]? = some (.int .i64 (selN v [x1, x4, x7, x10])) := by
  rw [List.getElem?_toArray]; exact sel12_1 h0 h1 x0 x1 x2 x3 x4 x5 x6 x7 x8 x9 x10 x11
theorem sel12l2 (v : Int) (x0 x1 x2 x3 x4 x5 x6 x7 x8 x9 x10 x11 : Int) (h1 : v < 4) (h : v.toNat * 3 + 2 < [Value.int .i64 x0, Value.int .i64 x1, Value.int .i64 x2, Value.int .i64 x3, Value.int .i64 x4, Value.int .i64 x5, Value.int .i64 x6, Value.int .i64 x7, Value.int .i64 x8, Value.int .i64 x9, Value.int .i64 x10, Value.int .i64 x11].length) : [Value.int .i64 x0, Value.int .i64 x1, Value.int .i64 x2, Value.int .i64 x3, Value.int .i64 x4, Value.int .i64 x5, Value.int .i64 x6, Value.int .i64 x7, Value.int .i64 x8, Value.int .i64 x9, Value.int .i64 x10, Value.int .i64 x11][v.toNat * 3 + 2]'h = .int .i64 (selN v [x2, x5, x8, x11]) := by
  have : v.toNat = 0 ∨ v.toNat = 1 ∨ v.toNat = 2 ∨ v.toNat = 3 := by omega
  rcases this with h | h | h | h <;> simp [h, selN]
@[go_sem] theorem sel12_2 {v : Int} (h0 : 0 ≤ v) (h1 : v < 4) (x0 x1 x2 x3 x4 x5 x6 x7 x8 x9 x10 x11 : Int) : [Value.int .i64 x0, Value.int .i64 x1, Value.int .i64 x2, Value.int .i64 x3, Value.int .i64 x4, Value.int .i64 x5, Value.int .i64 x6, Value.int .i64 x7, Value.int .i64 x8, Value.int .i64 x9, Value.int .i64 x10, Value.int .i64 x11][v.toNat * 3 + 2]? = some (.int .i64 (selN v [x2, x5, x8, x11])) := by
  have hl : v.toNat * 3 + 2 < [Value.int .i64 x0, Value.int .i64 x1, Value.int .i64 x2, Value.int .i64 x3, Value.int .i64 x4, Value.int .i64 x5, Value.int .i64 x6, Value.int .i64 x7, Value.int .i64 x8, Value.int .i64 x9, Value.int .i64 x10, Value.int .i64 x11].length := by simp; omega
  rw [List.getElem?_eq_getElem hl, sel12l2 _ _ _ _ _ _ _ _ _ _ _ _ _ h1]
@[go_sem] theorem sel12a_2 {v : Int} (h0 : 0 ≤ v) (h1 : v < 4) (x0 x1 x2 x3 x4 x5 x6 x7 x8 x9 x10 x11 : Int) : (#[Value.int .i64 x0, Value.int .i64 x1, Value.int .i64 x2, Value.int .i64 x3, Value.int .i64 x4, Value.int .i64 x5, Value.int .i64 x6, Value.int .i64 x7, Value.int .i64 x8, Value.int .i64 x9, Value.int .i64 x10, Value.int .i64 x11] : Array Value)[v.toNat * 3 + 2]? = some (.int .i64 (selN v [x2, x5, x8, x11])) := by
  rw [List.getElem?_toArray]; exact sel12_2 h0 h1 x0 x1 x2 x3 x4 x5 x6 x7 x8 x9 x10 x11

theorem sel12t1 (v : Int) (x1 x2 x3 x4 x5 x6 x7 x8 x9 x10 x11 : Int) (h1 : v < 4) (h : v.toNat * 3 < [Value.int .i64 x1, Value.int .i64 x2, Value.int .i64 x3, Value.int .i64 x4, Value.int .i64 x5, Value.int .i64 x6, Value.int .i64 x7, Value.int .i64 x8, Value.int .i64 x9, Value.int .i64 x10, Value.int .i64 x11].length) : [Value.int .i64 x1, Value.int .i64 x2, Value.int .i64 x3, Value.int .i64 x4, Value.int .i64 x5, Value.int .i64 x6, Value.int .i64 x7, Value.int .i64 x8, Value.int .i64 x9, Value.int .i64 x10, Value.int .i64 x11][v.toNat * 3]'h = .int .i64 (selN v [x1, x4, x7, x10]) := by
  have : v.toNat = 0 ∨ v.toNat = 1 ∨ v.toNat = 2 ∨ v.toNat = 3 := by omega
  rcases this with h | h | h | h <;> simp [h, selN]
@[go_sem] theorem sel12u1 {v : Int} (h0 : 0 ≤ v) (h1 : v < 4) (x1 x2 x3 x4 x5 x6 x7 x8 x9 x10 x11 : Int) : [Value.int .i64 x1, Value.int .i64 x2, Value.int .i64 x3, Value.int .i64 x4, Value.int .i64 x5, Value.int .i64 x6, Value.int .i64 x7, Value.int .i64 x8, Value.int .i64 x9, Value.int .i64 x10, Value.int .i64 x11][v.toNat * 3]? = some (.int .i64 (selN v [x1, x4, x7, x10])) := by
  have hl : v.toNat * 3 < [Value.int .i64 x1, Value.int .i64 x2, Value.int .i64 x3, Value.int .i64 x4, Value.int .i64 x5, Value.int .i64 x6, Value.int .i64 x7, Value.int .i64 x8, Value.int .i64 x9, Value.int .i64 x10, Value.int .i64 x11].length := by simp; omega
  rw [List.getElem?_eq_getElem hl, sel12t1 _ _ _ _ _ _ _ _ _ _ _ _ h1]
theorem sel12t2 (v : Int) (x2 x3 x4 x5 x6 x7 x8 x9 x10 x11 : Int) (h1 : v < 4) (h : v.toNat * 3 < [Value.int .i64 x2, Value.int .i64 x3, Value.int .i64 x4, Value.int .i64 x5, Value.int .i64 x6, Value.int .i64 x7, Value.int .i64 x8, Value.int .i64 x9, Value.int .i64 x10, Value.int .i64 x11].length) : [Value.int .i64 x2, Value.int .i64 x3, Value.int .i64 x4, Value.int .i64 x5, Value.int .i64 x6, Value.int .i64 x7, Value.int .i64 x8, Value.int .i64 x9, Value.int .i64 x10, Value.int .i64 x11][v.toNat * 3]'h = .int .i64 (selN v [x2, x5, x8, x11]) := by
  have : v.toNat = 0 ∨ v.toNat = 1 ∨ v.toNat = 2 ∨ v.toNat = 3 := by omega
  rcases this with h | h | h | h <;> simp [h, selN]
@[go_sem] theorem sel12u2 {v : Int} (h0 : 0 ≤ v) (h1 : v < 4) (x2 x3 x4 x5 x6 x7 x8 x9 x10 x11 : Int) : [Value.int .i64 x2, Value.int .i64 x3, Value.int .i64 x4, Value.int .i64 x5, Value.int .i64 x6, Value.int .i64 x7, Value.int .i64 x8, Value.int .i64 x9, Value.int .i64 x10, Value.int .i64 x11][v.toNat * 3]? = some (.int .i64 (selN v [x2, x5, x8, x11])) := by
  have hl : v.toNat * 3 < [Value.int .i64 x2, Value.int .i64 x3, Value.int .i64 x4, Value.int .i64 x5, Value.int .i64 x6, Value.int .i64 x7, Value.int .i64 x8, Value.int .i64 x9, Value.int .i64 x10, Value.int .i64 x11].length := by simp; omega
  rw [List.getElem?_eq_getElem hl, sel12t2 _ _ _ _ _ _ _ _ _ _ _ h1]

end Go.Proofs.YtkennmpbmbacpaaGreatDoor
