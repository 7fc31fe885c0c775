/- slices.Clone at []string and at []int. -/
import Derived.Test.YtkennmpbmbacpaaGreatDoorMF
set_option linter.unusedSimpArgs false
set_option linter.unusedVariables false
set_option linter.unusedSectionVars false
namespace Go.Proofs.YtkennmpbmbacpaaGreatDoor
open Go.RowKit

set_option maxRecDepth 100000 in
theorem nilL_none (n cap : Nat) (w : World) : (binOp .eql 42 (.slice none n cap) (.slice none 0 0)).run Tryz.prog w = .ok (.bool true) w := rfl
set_option maxRecDepth 100000 in
theorem nilL_some (ad : Addr) (n cap : Nat) (w : World) : (binOp .eql 42 (.slice (some ad) n cap) (.slice none 0 0)).run Tryz.prog w = .ok (.bool false) w := rfl
set_option maxHeartbeats 1000000 in
/-- slices.Clone at []string. -/
theorem cloneL_of (v : Value) (l : List (List UInt8)) (w : World) (h : SlG EL w v l) (hl : l.length ≤ 1000000) : Calls Tryz.prog 90 #[v] w fun e w' => ∃ v', e = .returned v' ∧ OwnG EL 9 w.heap.size w' v' l ∧ Below w.heap.size w w' := by
  have H := Lib.hid h
  obtain ⟨A, cap, rfl⟩ := h.shape
  cases A with
  | none =>
    have hl0 : l = [] := by
      obtain ⟨A', c', e, _, _, h3⟩ := h
      rcases h3 with h3 | ⟨b, off, e2, _⟩
      · exact h3
      · injection e with e1 _ _
        rw [e2] at e1; cases e1
    subst hl0
    have he := nilL_none 0 cap
    clear h
    go_enter Tryz.func90, Tryz.ntmps90
    go_wp2
    go_ret
    exact ⟨_, rfl, ownG_none _ _, (by (repeat (first | exact Below.refl _ _ | exact Hbl.out | refine Below.ext ?_ (by first | omega | (simp; omega) | simp) | refine Below.setCell ?_ (by first | omega | (simp; omega) | simp) _ | refine Below.alloc ?_ (by first | omega | (simp; omega) | simp) _ | refine Below.drew ?_ | refine below_drewN ?_ _ | refine Below.step (by assumption) (by first | omega | (simp; omega) | simp) ?_)))⟩
  | some ad =>
    have he := nilL_some ad l.length cap
    clear h
    go_enter Tryz.func90, Tryz.ntmps90
    go_wp2_with (at_builtin; refine wpList_appG fitEL _ rfl (.tmp 5) (.tmp 6) rfl w.heap.size (.slice (some ⟨_, 0, none⟩) 0 0) [] rfl ?cO _ l rfl ?cS ?cL ?cB ?_)
    case cO => exact ownG_empty _ rfl (Nat.le_refl _)
    case cS => exact H.out.below (Below.alloc (Below.refl _ _) (Nat.le_refl _) _)
    case cL => simp; omega
    case cB => simp
    intro v4 w4 ⟨o4, g4, a4⟩ hb4
    obtain ⟨A4, c4, rfl⟩ := ownG_shape o4
    have O4 := Lib.hid o4
    clear o4 g4 a4
    go_wp2
    all_goals
      go_ret
      exact ⟨_, rfl, O4.out, Below.step hb4 (Nat.le_refl _) (Below.alloc (Below.refl _ _) (Nat.le_refl _) _)⟩
set_option maxRecDepth 100000 in
theorem nilK_none (n cap : Nat) (w : World) : (binOp .eql 35 (.slice none n cap) (.slice none 0 0)).run Tryz.prog w = .ok (.bool true) w := rfl
set_option maxRecDepth 100000 in
theorem nilK_some (ad : Addr) (n cap : Nat) (w : World) : (binOp .eql 35 (.slice (some ad) n cap) (.slice none 0 0)).run Tryz.prog w = .ok (.bool false) w := rfl
set_option maxHeartbeats 1000000 in
/-- slices.Clone at []int. -/
theorem cloneK_of (v : Value) (l : List Int) (w : World) (h : SlG EI w v l) (hl : l.length ≤ 1000000) : Calls Tryz.prog 91 #[v] w fun e w' => ∃ v', e = .returned v' ∧ OwnG EI 3 w.heap.size w' v' l ∧ Below w.heap.size w w' := by
  have H := Lib.hid h
  obtain ⟨A, cap, rfl⟩ := h.shape
  cases A with
  | none =>
    have hl0 : l = [] := by
      obtain ⟨A', c', e, _, _, h3⟩ := h
      rcases h3 with h3 | ⟨b, off, e2, _⟩
      · exact h3
      · injection e with e1 _ _
        rw [e2] at e1; cases e1
    subst hl0
    have he := nilK_none 0 cap
    clear h
    go_enter Tryz.func91, Tryz.ntmps91
    go_wp2
    go_ret
    exact ⟨_, rfl, ownG_none _ _, (by (repeat (first | exact Below.refl _ _ | exact Hbl.out | refine Below.ext ?_ (by first | omega | (simp; omega) | simp) | refine Below.setCell ?_ (by first | omega | (simp; omega) | simp) _ | refine Below.alloc ?_ (by first | omega | (simp; omega) | simp) _ | refine Below.drew ?_ | refine below_drewN ?_ _ | refine Below.step (by assumption) (by first | omega | (simp; omega) | simp) ?_)))⟩
  | some ad =>
    have he := nilK_some ad l.length cap
    clear h
    go_enter Tryz.func91, Tryz.ntmps91
    go_wp2_with (at_builtin; refine wpList_appG fitEI _ rfl (.tmp 5) (.tmp 6) rfl w.heap.size (.slice (some ⟨_, 0, none⟩) 0 0) [] rfl ?cO _ l rfl ?cS ?cL ?cB ?_)
    case cO => exact ownG_empty _ rfl (Nat.le_refl _)
    case cS => exact H.out.below (Below.alloc (Below.refl _ _) (Nat.le_refl _) _)
    case cL => simp; omega
    case cB => simp
    intro v4 w4 ⟨o4, g4, a4⟩ hb4
    obtain ⟨A4, c4, rfl⟩ := ownG_shape o4
    have O4 := Lib.hid o4
    clear o4 g4 a4
    go_wp2
    all_goals
      go_ret
      exact ⟨_, rfl, O4.out, Below.step hb4 (Nat.le_refl _) (Below.alloc (Below.refl _ _) (Nat.le_refl _) _)⟩
end Go.Proofs.YtkennmpbmbacpaaGreatDoor
