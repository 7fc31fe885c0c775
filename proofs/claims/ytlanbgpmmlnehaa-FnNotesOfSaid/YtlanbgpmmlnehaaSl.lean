/- Slices of structs of three ints, read as lists. -/
import Derived.Test.YtlanbgpmmlnehaaBase
set_option linter.unusedSimpArgs false
set_option linter.unusedVariables false
set_option linter.unusedSectionVars false
namespace Go.Proofs.Ytlanbgpmmlnehaa
open Go.RowKit

theorem ext_nil (w : World) : w = ext w w.drawn #[] := by simp [ext]
theorem quiet_same {P : Program} {f : FuncId} {args : Array Value} {w : World} {n : Nat} {v : Value}
    (h : Calls P f args (w.drewN n) fun e w' => e = .returned v ∧ w.drewN n = w') : Calls P f args (w.drewN n) fun e w'' => e = .returned v ∧ ∃ m, w'' = w.drewN m :=
  h.mono fun _ _ ⟨he, hm⟩ => ⟨he, n, hm.symm⟩

theorem below_drewN {B : Nat} {a w : World} (h : Below B a w) (n : Nat) : Below B a (w.drewN n) := h.trans ⟨rfl, rfl, rfl, Nat.le_refl _, fun _ _ => rfl⟩
/-- Element i of a list of threes. -/
def ti (l : List (Int × Int × Int)) (i : Nat) : Int × Int × Int := l.getD i (0, 0, 0)
/-- The cells of the threes from place 'off' of block b on. -/
def At3 (w : World) (b off : Nat) (l : List (Int × Int × Int)) : Prop :=
  ∀ i, i < l.length → w.cell? ⟨b, off + i * 3, none⟩ = some (.int .i64 (ti l i).1) ∧ w.cell? ⟨b, off + i * 3 + 1, none⟩ = some (.int .i64 (ti l i).2.1) ∧ w.cell? ⟨b, off + i * 3 + 2, none⟩ = some (.int .i64 (ti l i).2.2)
/-- The slice v reads as the list l. -/
def Sl3 (w : World) (v : Value) (l : List (Int × Int × Int)) : Prop :=
  ∃ A cap, v = .slice A l.length cap ∧ l.length ≤ cap ∧ cap ≤ maxLen ∧ (l = [] ∨ ∃ b off, A = some ⟨b, off, none⟩ ∧ b < w.heap.size ∧ At3 w b off l)
section
variable {w w' : World} {v : Value} {l : List (Int × Int × Int)} {b off : Nat}
theorem At3.below (h : At3 w b off l) (hb : b < w.heap.size) (h' : Below w.heap.size w w') : At3 w' b off l := fun i hi => by
  obtain ⟨h1, h2, h3⟩ := h i hi
  exact ⟨(h'.cell (p := ⟨b, _, none⟩) hb).trans h1, (h'.cell (p := ⟨b, _, none⟩) hb).trans h2, (h'.cell (p := ⟨b, _, none⟩) hb).trans h3⟩
theorem Sl3.below (h : Sl3 w v l) (h' : Below w.heap.size w w') : Sl3 w' v l := by
  obtain ⟨A, cap, h1, h2, h3, h4⟩ := h
  refine ⟨A, cap, h1, h2, h3, h4.imp id fun ⟨b, off, e, hb, hc⟩ => ⟨b, off, e, Nat.lt_of_lt_of_le hb h'.size, hc.below hb h'⟩⟩
end
end Go.Proofs.Ytlanbgpmmlnehaa
