/- Limits: 'RoomFor', the plain side. -/
import Derived.Test.YtffppecflamcgaaLim
set_option linter.unusedSimpArgs false
set_option linter.unusedVariables false
set_option linter.unusedSectionVars false
namespace Go.Proofs.Ytffppecflamcgaa
open Go.RowKit

/-- The least room of group n and of all above it, not more than r. -/
def roomUp (l : List T3) : Nat → Int → Int → Int
  | 0, _, r => r
  | f + 1, n, r => if n < 0 then r else roomUp l f (ti l n.toNat).1 (min r ((ti l n.toNat).2.1 - (ti l n.toNat).2.2))
theorem roomUp_neg (l : List T3) {n : Int} (h : n < 0) (r : Int) : ∀ f, roomUp l f n r = r
  | 0 => rfl
  | f + 1 => by unfold roomUp; rw [if_pos h]
theorem roomUp_step (l : List T3) (f k : Nat) (r : Int) : roomUp l (f + 1) (k : Int) r = roomUp l f (ti l k).1 (min r ((ti l k).2.1 - (ti l k).2.2)) := by
  show (if (k : Int) < 0 then r else roomUp l f (ti l (k : Int).toNat).1 (min r ((ti l (k : Int).toNat).2.1 - (ti l (k : Int).toNat).2.2))) = _
  rw [if_neg (by omega)]; rfl
def roomOk (l : List T3) (n : Int) : Bool := limB l && inB n 0 ((l.length : Int) - 1)
def roomF (l : List T3) (n : Int) : Int := if roomOk l n then roomUp l l.length n 10000 else -1
theorem roomF_no {l : List T3} {n : Int} (h : roomOk l n = false) : roomF l n = -1 := by unfold roomF; rw [h]; rfl
theorem roomF_yes {l : List T3} {n : Int} (h : roomOk l n = true) : roomF l n = roomUp l l.length n 10000 := by unfold roomF; rw [if_pos h]
theorem limB_all {l : List T3} (h : limB l = true) : l.length ≤ 8 ∧ (∀ k, k < l.length → limOk l k = true) ∧ (∀ k, k < l.length → ps l l.length k ≤ (ti l k).2.2) := by
  unfold limB at h
  simp only [Bool.and_eq_true, List.all_eq_true, List.mem_range, decide_eq_true_eq] at h
  exact ⟨h.1, h.2.1, h.2.2⟩
end Go.Proofs.Ytffppecflamcgaa
