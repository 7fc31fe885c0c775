/- Notes: slices of (Number, Who, What, Fault), read as lists; the plain side of an audit. -/
import Derived.Test.YtlanbgpmmlnehaaSl
import Derived.Test.YtlanbgpmmlnehaaName
set_option linter.unusedSimpArgs false
set_option linter.unusedVariables false
set_option linter.unusedSectionVars false
namespace Go.Proofs.Ytlanbgpmmlnehaa
open Go.RowKit

abbrev T4 := Int × Int × ByteArray × Int
def nt (l : List T4) (i : Nat) : T4 := l.getD i (0, 0, ByteArray.empty, 0)
/-- The cells of the notes from place 'off' of block b on. -/
def At4 (w : World) (b off : Nat) (l : List T4) : Prop :=
  ∀ i, i < l.length → w.cell? ⟨b, off + i * 4, none⟩ = some (.int .i64 (nt l i).1) ∧ w.cell? ⟨b, off + i * 4 + 1, none⟩ = some (.int .i64 (nt l i).2.1) ∧ w.cell? ⟨b, off + i * 4 + 2, none⟩ = some (.string (nt l i).2.2.1) ∧ w.cell? ⟨b, off + i * 4 + 3, none⟩ = some (.int .i64 (nt l i).2.2.2)
/-- The texts are no longer than a text can be. -/
def Txt (l : List T4) : Prop := ∀ i, i < l.length → (nt l i).2.2.1.size ≤ maxLen
/-- The slice v reads as the list l. -/
def Sl4 (w : World) (v : Value) (l : List T4) : Prop :=
  ∃ A cap, v = .slice A l.length cap ∧ l.length ≤ cap ∧ cap ≤ maxLen ∧ (l = [] ∨ ∃ b off, A = some ⟨b, off, none⟩ ∧ b < w.heap.size ∧ At4 w b off l)
section
variable {w w' : World} {v : Value} {l : List T4} {b off : Nat}
theorem At4.below (h : At4 w b off l) (hb : b < w.heap.size) (h' : Below w.heap.size w w') : At4 w' b off l := fun i hi => by
  obtain ⟨h1, h2, h3, h4⟩ := h i hi
  exact ⟨(h'.cell (p := ⟨b, _, none⟩) hb).trans h1, (h'.cell (p := ⟨b, _, none⟩) hb).trans h2, (h'.cell (p := ⟨b, _, none⟩) hb).trans h3, (h'.cell (p := ⟨b, _, none⟩) hb).trans h4⟩
theorem Sl4.below (h : Sl4 w v l) (h' : Below w.heap.size w w') : Sl4 w' v l := by
  obtain ⟨A, cap, h1, h2, h3, h4⟩ := h
  refine ⟨A, cap, h1, h2, h3, h4.imp id fun ⟨b, off, e, hb, hc⟩ => ⟨b, off, e, Nat.lt_of_lt_of_le hb h'.size, hc.below hb h'⟩⟩
end
theorem inB_iff {n lo hi : Int} : inB n lo hi = true ↔ lo ≤ n ∧ n ≤ hi := by simp [inB]
/-- A note alone is right. -/
def noteOk (x : T4) (num : Int) : Bool := decide (x.1 = num) && (inB x.2.1 0 99 && (nameB x.2.2.1.data.toList && inB x.2.2.2 0 7))
def audB (next : Int) (l : List T4) : Bool := inB next 0 10000 && (decide ((l.length : Int) = min 10 next) && (List.range l.length).all fun i => noteOk (nt l i) (next - l.length + i))
theorem all_bad {n k : Nat} {p : Nat → Bool} (hk : k < n) (h : p k = false) : (List.range n).all p = false := by
  rw [List.all_eq_false]
  exact ⟨k, List.mem_range.2 hk, by rw [h]; exact Bool.false_ne_true⟩
theorem all_good {n : Nat} {p : Nat → Bool} (h : ∀ k, k < n → p k = true) : (List.range n).all p = true := by
  rw [List.all_eq_true]
  intro k hk
  exact h k (List.mem_range.1 hk)
theorem audB_next {next : Int} {l : List T4} (h : inB next 0 10000 = false) : audB next l = false := by
  unfold audB; rw [h, Bool.false_and]
theorem audB_len {next : Int} {l : List T4} (h : decide ((l.length : Int) = min 10 next) = false) : audB next l = false := by
  unfold audB; rw [h, Bool.false_and, Bool.and_false]
theorem audB_bad {next : Int} {l : List T4} {k : Nat} (hk : k < l.length) (h : noteOk (nt l k) (next - l.length + k) = false) : audB next l = false := by
  unfold audB; rw [all_bad (p := fun i : Nat => noteOk (nt l i) (next - l.length + i)) hk h, Bool.and_false, Bool.and_false]
theorem audB_good {next : Int} {l : List T4} (h : ∀ k, k < l.length → noteOk (nt l k) (next - l.length + k) = true) : audB next l = (inB next 0 10000 && decide ((l.length : Int) = min 10 next)) := by
  unfold audB; rw [all_good h, Bool.and_true]
end Go.Proofs.Ytlanbgpmmlnehaa
