/- The world behind a call that leaves old memory alone, WRITTEN OUT: 'ext W d os': W with the blocks 'os' behind it and another count of draws. Rules by which the walk looks through it. -/
import Derived.Test.YtlanbgpmmlnehaaRows
import Derived.WalkKit
import Derived.WalkSpells
import Derived.WalkLawsBesides
import Derived.Deep.QuietTactic
import Derived.BigQuiet
import Derived.Lib.Hide
set_option linter.unusedSimpArgs false
set_option linter.unusedVariables false
set_option linter.unusedSectionVars false
namespace Go.Proofs.Ytlanbgpmmlnehaa
open Go.RowKit

/-- 'b < s', under a name that the walk hands to arithmetic ('ltA_eq': an equation between two places is decided by omega). -/
def LtA (b s : Nat) : Prop := b < s
@[go_sem] theorem ltA_eq (b s : Nat) : LtA b s = ((⟨b + 1 - s, 0, none⟩ : Addr) = ⟨0, 0, none⟩) := by
  unfold LtA
  simp only [Addr.mk.injEq, and_true, eq_iff_iff]
  omega

def ext (W : World) (d : Nat) (os : Array Obj) : World := { W with heap := W.heap ++ os, drawn := d }

section
variable {W w w' : World} {d d' : Nat} {os os' : Array Obj}
@[go_sem, simp] theorem ext_size : (ext W d os).heap.size = W.heap.size + os.size := by simp [ext]
theorem ext_get {b : Nat} (h : b < W.heap.size) : (ext W d os).heap[b]? = W.heap[b]? := by
  simp [ext, Array.getElem?_append, h]
@[go_sem] theorem ext_cell {b o : Nat} (h : LtA b W.heap.size) : (ext W d os).cell? ⟨b, o, none⟩ = W.cell? ⟨b, o, none⟩ :=
  World.cell?_of_block (ext_get h)
@[go_sem] theorem ext_frozen {b o : Nat} (h : LtA b W.heap.size) : (ext W d os).frozen? ⟨b, o, none⟩ = W.frozen? ⟨b, o, none⟩ :=
  World.frozen?_of_block (ext_get h)
@[go_sem] theorem ext_setCell {b o : Nat} {v : Value} (h : LtA b W.heap.size) : (ext W d os).setCell ⟨b, o, none⟩ v = ext (W.setCell ⟨b, o, none⟩ v) d os := by
  have h : b < W.heap.size := h
  unfold ext World.setCell
  simp only
  congr 1
  apply Array.ext_getElem?
  intro k
  simp only [Array.getElem?_append, Array.getElem?_modify, Array.size_modify]
  by_cases hk : k < W.heap.size
  · simp [hk]
  · have : b ≠ k := by omega
    simp [hk, this]
@[go_sem] theorem ext_drew : (ext W d os).drew = ext W (d + 1) os := rfl
@[go_sem] theorem ext_drewN {n : Nat} : (ext W d os).drewN n = ext W (d + n) os := by
  simp [ext, World.drewN]
@[go_sem] theorem ext_ext : ext (ext W d os) d' os' = ext W d' (os ++ os') := by simp [ext]
@[go_sem] theorem ext_alloc0 {X : Obj} : (ext W d #[]).alloc X = ext (W.alloc X) d #[] := by
  unfold ext World.alloc
  simp
@[go_sem] theorem ext_of_drew : ext W.drew d os = ext W d os := rfl
@[go_sem] theorem alloc_cell_lt {X : Obj} {b o : Nat} (h : LtA b W.heap.size) : (W.alloc X).cell? ⟨b, o, none⟩ = W.cell? ⟨b, o, none⟩ := World.cell?_alloc_past X b o h
@[go_sem] theorem alloc_frozen_lt {X : Obj} {b o : Nat} (h : LtA b W.heap.size) : (W.alloc X).frozen? ⟨b, o, none⟩ = W.frozen? ⟨b, o, none⟩ := World.frozen?_alloc_past X b o h
@[go_sem] theorem alloc_setCell_lt {X : Obj} {b o : Nat} {v : Value} (h : LtA b W.heap.size) : (W.alloc X).setCell ⟨b, o, none⟩ v = (W.setCell ⟨b, o, none⟩ v).alloc X := World.setCell_alloc_past X b o v h

theorem below_ext (W : World) (d : Nat) (os : Array Obj) : Below W.heap.size W (ext W d os) :=
  ⟨rfl, rfl, rfl, by simp, fun _ hk => ext_get hk⟩
theorem ext_of_below (h : Below w.heap.size w w') : ∃ d os, w' = ext w d os := by
  refine ⟨w'.drawn, w'.heap.extract w.heap.size w'.heap.size, ?_⟩
  obtain ⟨heap', tape', drawn', os', output'⟩ := w'
  have e1 : os' = w.os := h.os
  have e2 : tape' = w.tape := h.tape
  have e3 : output' = w.output := h.output
  have hs : w.heap.size ≤ heap'.size := h.size
  have hb : ∀ k, k < w.heap.size → heap'[k]? = w.heap[k]? := h.block
  subst e1 e2 e3
  have eh : heap' = w.heap ++ heap'.extract w.heap.size heap'.size := by
    apply Array.ext_getElem?
    intro k
    by_cases hk : k < w.heap.size
    · rw [Array.getElem?_append_left hk]; exact hb k hk
    · rw [Array.getElem?_append_right (by omega), Array.getElem?_extract]
      by_cases hk2 : k < heap'.size
      · rw [if_pos (by omega)]; congr 1; omega
      · rw [if_neg (by omega), Array.getElem?_eq_none (by omega)]
  simp only [ext]
  congr 1
/-- Behind 'ext': what lies below B is as it was. -/
theorem Below.ext {B : Nat} {a : World} (h : Below B a W) (hB : B ≤ W.heap.size) : Below B a (ext W d os) := h.trans ((below_ext W d os).mono hB)
end

theorem bcell {W w1 : World} (hb : Below W.heap.size W w1) : (∀ b o, b < W.heap.size → w1.cell? ⟨b, o, none⟩ = W.cell? ⟨b, o, none⟩) ∧ (∀ b o, b < W.heap.size → w1.frozen? ⟨b, o, none⟩ = W.frozen? ⟨b, o, none⟩) :=
  ⟨fun b o h => hb.cell (p := ⟨b, o, none⟩) h, fun b o h => hb.frozen (p := ⟨b, o, none⟩) h⟩
/-- One step more behind a contract that ends in 'Below'. -/
theorem Below.step {B B' : Nat} {a b c : World} (k : Below B' b c) (hB : B ≤ B') (h : Below B a b) : Below B a c := h.trans (k.mono hB)

/-- A row of tests, each decided only where those ahead of it say yes. -/
theorem and2 (a b : Bool) : a = false ∨ (a = true ∧ b = false) ∨ (a = true ∧ b = true) := by cases a <;> cases b <;> simp
theorem and3 (a b c : Bool) : a = false ∨ (a = true ∧ b = false) ∨ (a = true ∧ b = true ∧ c = false) ∨ (a = true ∧ b = true ∧ c = true) := by cases a <;> cases b <;> cases c <;> simp
theorem and4 (a b c d : Bool) : a = false ∨ (a = true ∧ b = false) ∨ (a = true ∧ b = true ∧ c = false) ∨ (a = true ∧ b = true ∧ c = true ∧ d = false) ∨ (a = true ∧ b = true ∧ c = true ∧ d = true) := by cases a <;> cases b <;> cases c <;> cases d <;> simp

end Go.Proofs.Ytlanbgpmmlnehaa
