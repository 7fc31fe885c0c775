/- MayAt and SameFile, in the package and in the reference. -/
import Derived.Test.YtkennmpbmbacpaaGreatDoorFindI
import Derived.Test.YtkennmpbmbacpaaGreatDoorFindP
import Derived.Test.YtkennmpbmbacpaaGreatDoorME
set_option linter.unusedSimpArgs false
set_option linter.unusedVariables false
set_option linter.unusedSectionVars false
namespace Go.Proofs.YtkennmpbmbacpaaGreatDoor
open Go.RowKit

/-- Nothing is asked of the world. -/
def MaxS (_ : World) : Prop := True
theorem MaxS.below {w w' : World} (_ : MaxS w) (_ : Below w.heap.size w w') : MaxS w' := trivial
theorem findS2_of (v : Value) (t : List Nd) (a b c d : Int) (S : ByteArray) (w : World) (_ : MaxS w) (h : TreeR w v t) (ht : t.length ≤ 1000) (hkz : (kidsOf t).length ≤ 1000000) (hs : S.size ≤ 1048576) :
    Calls Tryz.prog 44 #[v, .agg #[.int .i64 a, .int .i64 b, .int .i64 c, .int .i64 d], .string S] w fun e w' => e = .returned (.tuple #[.int .i64 (findF t a b c d S.data.toList).1, .int .i64 (findF t a b c d S.data.toList).2]) ∧ Below w.heap.size w w' := findS_of v t a b c d S w h ht hkz hs
theorem l7May2_any (a b c d want : Int) (x : Nd) (nA : Option Addr) (nL nC : Nat) (kA : Option Addr) (kL kC : Nat) (w : World) (_ : credB a b c d = true) (_ : inB x.ow 0 99 = true) (_ : inB x.gr 0 7 = true) (_ : inB x.mo 0 1023 = true) (_ : inB want 0 7 = true) : Calls Tryz.prog 92 #[.agg #[.int .i64 a, .int .i64 b, .int .i64 c, .int .i64 d], .agg #[.bool x.fo, .int .i64 x.ow, .int .i64 x.gr, .int .i64 x.mo, .string x.tx, .slice nA nL nC, .slice kA kL kC], .int .i64 want] w fun e w' => e = .returned (.bool (mayF a b c d x.ow x.gr x.mo want)) ∧ Below w.heap.size w w' := l7May_any a b c d want x nA nL nC kA kL kC w
theorem head_in {m : Int} {x : Nd} (h : nodeB m x = true) : inB x.ow 0 99 = true ∧ inB x.gr 0 7 = true ∧ inB x.mo 0 1023 = true := by
  have hv := (nodeB_iff.1 h).1
  unfold headB at hv
  simp only [Bool.and_eq_true] at hv
  exact ⟨hv.1, hv.2.1, hv.2.2.1⟩
end Go.Proofs.YtkennmpbmbacpaaGreatDoor
