/- Ways: what is drawn. -/
import Derived.Test.YtlanbgpmmlnehaaDraw
set_option linter.unusedSimpArgs false
set_option linter.unusedVariables false
set_option linter.unusedSectionVars false
namespace Go.Proofs.Ytlanbgpmmlnehaa
open Go.RowKit

/-- The text in place v of a list. -/
def selS (v : Int) (l : List ByteArray) : ByteArray := l.getD v.toNat ByteArray.empty
theorem selS_size {v : Int} {l : List ByteArray} {N : Nat} (h : ∀ x ∈ l, x.size ≤ N) : (selS v l).size ≤ N := by
  unfold selS
  rw [List.getD_eq_getElem?_getD]
  cases e : l[v.toNat]? with
  | none => exact Nat.zero_le _
  | some x => exact h x (List.mem_of_getElem? e)
theorem selS3l (v : Int) (x0 x1 x2 : ByteArray) (h : v.toNat < [Value.string x0, Value.string x1, Value.string x2].length) : [Value.string x0, Value.string x1, Value.string x2][v.toNat]'h = .string (selS v [x0, x1, x2]) := by
  have h' : v.toNat < 3 := h
  have : v.toNat = 0 ∨ v.toNat = 1 ∨ v.toNat = 2 := by omega
  rcases this with h | h | h <;> simp [h, selS]
@[go_sem] theorem selS3g (v : Int) (x0 x1 x2 : ByteArray) (h : v.toNat < [Value.string x0, Value.string x1, Value.string x2].length) : [Value.string x0, Value.string x1, Value.string x2][v.toNat]'h = .string (selS v [x0, x1, x2]) := selS3l v x0 x1 x2 h
@[go_sem] theorem selS3 {v : Int} (h0 : 0 ≤ v) (h1 : v < 3) (x0 x1 x2 : ByteArray) : [Value.string x0, Value.string x1, Value.string x2][v.toNat]? = some (.string (selS v [x0, x1, x2])) := by
  have hl : v.toNat < [Value.string x0, Value.string x1, Value.string x2].length := by simp; omega
  rw [List.getElem?_eq_getElem hl, selS3l]
@[go_sem] theorem selS3a {v : Int} (h0 : 0 ≤ v) (h1 : v < 3) (x0 x1 x2 : ByteArray) : (#[Value.string x0, Value.string x1, Value.string x2] : Array Value)[v.toNat]? = some (.string (selS v [x0, x1, x2])) := by
  rw [List.getElem?_toArray]; exact selS3 h0 h1 x0 x1 x2
theorem selS4l (v : Int) (x0 x1 x2 x3 : ByteArray) (h : v.toNat < [Value.string x0, Value.string x1, Value.string x2, Value.string x3].length) : [Value.string x0, Value.string x1, Value.string x2, Value.string x3][v.toNat]'h = .string (selS v [x0, x1, x2, x3]) := by
  have h' : v.toNat < 4 := h
  have : v.toNat = 0 ∨ v.toNat = 1 ∨ v.toNat = 2 ∨ v.toNat = 3 := by omega
  rcases this with h | h | h | h <;> simp [h, selS]
@[go_sem] theorem selS4g (v : Int) (x0 x1 x2 x3 : ByteArray) (h : v.toNat < [Value.string x0, Value.string x1, Value.string x2, Value.string x3].length) : [Value.string x0, Value.string x1, Value.string x2, Value.string x3][v.toNat]'h = .string (selS v [x0, x1, x2, x3]) := selS4l v x0 x1 x2 x3 h
@[go_sem] theorem selS4 {v : Int} (h0 : 0 ≤ v) (h1 : v < 4) (x0 x1 x2 x3 : ByteArray) : [Value.string x0, Value.string x1, Value.string x2, Value.string x3][v.toNat]? = some (.string (selS v [x0, x1, x2, x3])) := by
  have hl : v.toNat < [Value.string x0, Value.string x1, Value.string x2, Value.string x3].length := by simp; omega
  rw [List.getElem?_eq_getElem hl, selS4l]
@[go_sem] theorem selS4a {v : Int} (h0 : 0 ≤ v) (h1 : v < 4) (x0 x1 x2 x3 : ByteArray) : (#[Value.string x0, Value.string x1, Value.string x2, Value.string x3] : Array Value)[v.toNat]? = some (.string (selS v [x0, x1, x2, x3])) := by
  rw [List.getElem?_toArray]; exact selS4 h0 h1 x0 x1 x2 x3
theorem selS6l (v : Int) (x0 x1 x2 x3 x4 x5 : ByteArray) (h : v.toNat < [Value.string x0, Value.string x1, Value.string x2, Value.string x3, Value.string x4, Value.string x5].length) : [Value.string x0, Value.string x1, Value.string x2, Value.string x3, Value.string x4, Value.string x5][v.toNat]'h = .string (selS v [x0, x1, x2, x3, x4, x5]) := by
  have h' : v.toNat < 6 := h
  have : v.toNat = 0 ∨ v.toNat = 1 ∨ v.toNat = 2 ∨ v.toNat = 3 ∨ v.toNat = 4 ∨ v.toNat = 5 := by omega
  rcases this with h | h | h | h | h | h <;> simp [h, selS]
@[go_sem] theorem selS6g (v : Int) (x0 x1 x2 x3 x4 x5 : ByteArray) (h : v.toNat < [Value.string x0, Value.string x1, Value.string x2, Value.string x3, Value.string x4, Value.string x5].length) : [Value.string x0, Value.string x1, Value.string x2, Value.string x3, Value.string x4, Value.string x5][v.toNat]'h = .string (selS v [x0, x1, x2, x3, x4, x5]) := selS6l v x0 x1 x2 x3 x4 x5 h
@[go_sem] theorem selS6 {v : Int} (h0 : 0 ≤ v) (h1 : v < 6) (x0 x1 x2 x3 x4 x5 : ByteArray) : [Value.string x0, Value.string x1, Value.string x2, Value.string x3, Value.string x4, Value.string x5][v.toNat]? = some (.string (selS v [x0, x1, x2, x3, x4, x5])) := by
  have hl : v.toNat < [Value.string x0, Value.string x1, Value.string x2, Value.string x3, Value.string x4, Value.string x5].length := by simp; omega
  rw [List.getElem?_eq_getElem hl, selS6l]
@[go_sem] theorem selS6a {v : Int} (h0 : 0 ≤ v) (h1 : v < 6) (x0 x1 x2 x3 x4 x5 : ByteArray) : (#[Value.string x0, Value.string x1, Value.string x2, Value.string x3, Value.string x4, Value.string x5] : Array Value)[v.toNat]? = some (.string (selS v [x0, x1, x2, x3, x4, x5])) := by
  rw [List.getElem?_toArray]; exact selS6 h0 h1 x0 x1 x2 x3 x4 x5

theorem with_ext {A w' : World} {G : Prop} (hb : Below A.heap.size A w') (h : ∀ d os, w' = ext A d os → G) : G := by
  obtain ⟨d, os, e⟩ := ext_of_below hb
  exact h d os e
def StrN (N : Nat) (v : Value) : Prop := ∃ s : ByteArray, v = .string s ∧ s.size ≤ N
end Go.Proofs.Ytlanbgpmmlnehaa
