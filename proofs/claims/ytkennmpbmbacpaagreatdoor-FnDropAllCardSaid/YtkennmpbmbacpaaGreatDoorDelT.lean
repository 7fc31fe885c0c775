/- slices.Delete and slices.Index on a node's names, in the forms of the walks that take a name away. -/
import Derived.Test.YtkennmpbmbacpaaGreatDoorAddU
import Derived.Test.YtkennmpbmbacpaaGreatDoorTreeR
import Derived.Test.YtkennmpbmbacpaaGreatDoorIns
import Derived.Test.YtkennmpbmbacpaaGreatDoorHeldZ
import Derived.Test.YtkennmpbmbacpaaGreatDoorDropP
set_option linter.unusedSimpArgs false
set_option linter.unusedVariables false
set_option linter.unusedSectionVars false
namespace Go.Proofs.YtkennmpbmbacpaaGreatDoor
open Go.RowKit

theorem delN_at (nA : Option Addr) (nC : Nat) (l : List (List UInt8)) (i : Nat) (w : World) (B : Nat) (hO : OwnG EL 9 B w (.slice nA l.length nC) l) (hi : i < l.length) (hB : B ≤ w.heap.size) :
    Calls Tryz.prog 85 #[.slice nA l.length nC, .int .i64 i, .int .i64 ((i : Int) + 1)] w fun e w' => e = .returned (.slice nA (l.length - 1) nC) ∧ AppG EL 9 w B (.slice nA l.length nC) (l.eraseIdx i) (.slice nA (l.length - 1) nC) w' := delN_of nA nC l i w B hO hi hB
theorem delK_at (nA : Option Addr) (nC : Nat) (l : List Int) (i : Nat) (w : World) (B : Nat) (hO : OwnG EI 3 B w (.slice nA l.length nC) l) (hi : i < l.length) (hB : B ≤ w.heap.size) :
    Calls Tryz.prog 86 #[.slice nA l.length nC, .int .i64 i, .int .i64 ((i : Int) + 1)] w fun e w' => e = .returned (.slice nA (l.length - 1) nC) ∧ AppG EI 3 w B (.slice nA l.length nC) (l.eraseIdx i) (.slice nA (l.length - 1) nC) w' := delK_of nA nC l i w B hO hi hB
theorem idxI_of (nA : Option Addr) (nC : Nat) (x : Nd) (s : List UInt8) (w : World) (h : SlG EL w (.slice nA x.ns.length nC) x.ns) (ha : Asc x) (hs : s ∈ x.ns) (hl : x.ns.length ≤ 1000000) :
    Calls Tryz.prog 84 #[.slice nA x.ns.length nC, .string (mk s)] w fun e w' => e = .returned (.int .i64 (putAt x s)) ∧ w' = w := by
  obtain ⟨p1, p2⟩ := put_there ha hs
  obtain ⟨b, off, rfl, _, _⟩ := h.at_ (nthN_at p1)
  have hzl : (x.ns.map mk).length = x.ns.length := by simp
  have hg : ∀ j, j < x.ns.length → (x.ns.map mk).getD j ByteArray.empty = mk (nthN x j) := fun j hj => by
    rw [List.getD_eq_getElem?_getD, List.getElem?_map, nthN_at hj]; rfl
  have hc : ∀ j, j < (x.ns.map mk).length → w.cell? ⟨b, off + j, none⟩ = some (.string ((x.ns.map mk).getD j ByteArray.empty)) := fun j hj => by
    rw [hzl] at hj
    obtain ⟨b', off', e, _, q⟩ := h.at_ (nthN_at hj)
    cases e
    have := q 0 _ rfl
    rw [hg j hj]
    simpa [EL] using this
  refine (Tryz.slices_Index_string b off x.ns.length nC (x.ns.map mk) (mk s) w (by omega) (by omega) hc).mono ?_
  rintro e w' ⟨rfl, rfl⟩
  refine ⟨?_, rfl⟩
  rw [Lib.idxOfS_hit (x.ns.map mk) x.ns.length (putAt x s) (mk s) p1 (by omega) (by rw [hg _ p1, p2]) (fun j hj => by
    rw [hg j (by omega)]
    intro e
    have h1 := putAt_lt hj
    rw [mk_inj e, ltL_irr] at h1
    cases h1)]
end Go.Proofs.YtkennmpbmbacpaaGreatDoor
