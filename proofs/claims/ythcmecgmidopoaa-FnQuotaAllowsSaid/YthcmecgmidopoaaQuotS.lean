/- The reference's 'QuotasValid'. -/
import Derived.Test.YthcmecgmidopoaaQuot
set_option linter.unusedSimpArgs false
set_option linter.unusedVariables false
set_option linter.unusedSectionVars false
namespace Go.Proofs.Ythcmecgmidopoaa
open Go.RowKit

set_option maxRecDepth 100000 in
set_option maxHeartbeats 4000000 in
theorem quotasS_of (v : Value) (l : List Q3) (w : World) (h : SlG EQ w v l) :
    Calls Try.prog 52 #[v] w fun e w' => e = .returned (.bool (quotaB l)) ∧ Below w.heap.size w w' := by
  have H := Lib.hid h
  obtain ⟨A, cap, rfl⟩ := h.shape
  have hcap := h.caps
  clear h
  go_enter Try.func52, Try.ntmps52
  go_wp2
  go_loopw [3] (fun i wr => ∃ k n : Nat, k ≤ l.length ∧ i = .int .i64 k ∧ wr = w.drewN n ∧ ∀ j, j < k → quotaOk l j = true) (fun i _ => l.length - (intOf i).toNat)
  case atStart => exact ⟨0, 0, Nat.zero_le _, rfl, rfl, fun j hj => by omega⟩
  case round =>
    obtain ⟨k, n, hk, rfl, rfl, hall⟩ := hrel
    have HB := Lib.hid (below_drewN (Below.refl w.heap.size w) n)
    have Hall := Lib.hid hall
    have HS := H
    clear hall
    by_cases hlt : k < l.length
    · obtain ⟨b, off, rfl, hb, c0, c1, c2⟩ := HS.out.q3 hlt
      have hlt' : (k : Int) < (l.length : Int) := by omega
      have zk : IntKind.i64.wrap ((k : Int) + 1) = (k : Int) + 1 := IntWalk.i64_in _ (by omega)
      rcases and4 (inB (qt l k).1 0 99) (inB (qt l k).2.1 0 16) (inB (qt l k).2.2 0 1000) (decide (k = 0) || decide ((qt l (k - 1)).1 < (qt l k).1)) with g1 | ⟨g1, g2⟩ | ⟨g1, g2, g3⟩ | ⟨g1, g2, g3, g4⟩ | ⟨g1, g2, g3, g4⟩
      case inr.inr.inr.inr =>
        have hok := Lib.hid (show quotaOk l k = true by unfold quotaOk; rw [g1, g2, g3, g4]; rfl)
        by_cases k0 : k = 0
        · have k0d : decide (0 < k) = false := decide_eq_false (by omega)
          have k0' : decide ((0 : Int) < (k : Int)) = false := decide_eq_false (by omega)
          clear g4 k0
          go_wp2_with fail
          go_quiet ((go_at_call 42; exact quiet_same2 (l1In_any _ _ _ _)))
          go_wp2
          go_roundw
          case rel => exact ⟨k + 1, _, hlt, by go_num, (by first | rfl | simp [World.drewN]), fun j hj => by
            by_cases e : j = k
            · subst e; exact hok.out
            · exact Hall.out j (by omega)⟩
          case measure => simp [intOf]; omega
        · have g4' : (qt l (k - 1)).1 < (qt l k).1 := by simpa [k0] using g4
          obtain ⟨b', off', ee, _, d0, _, _⟩ := HS.out.q3 (show k - 1 < l.length by omega)
          cases ee
          have zm : IntKind.i64.wrap ((k : Int) - 1) = ((k - 1 : Nat) : Int) := by rw [IntWalk.i64_in _ (by omega)]; omega
          have zk0 : (0 : Int) ≤ ((k - 1 : Nat) : Int) := by omega
          have zk1 : ((k - 1 : Nat) : Int) < (l.length : Int) := by omega
          have k0n : 0 < k := by omega
          have k0d : decide (0 < k) = true := decide_eq_true k0n
          have k0' : decide ((0 : Int) < (k : Int)) = true := decide_eq_true (by omega)
          have g5 : decide ((qt l k).1 ≤ (qt l (k - 1)).1) = false := decide_eq_false (by omega)
          clear g4 k0
          go_wp2_with fail
          go_quiet ((go_at_call 42; exact quiet_same2 (l1In_any _ _ _ _)))
          go_wp2
          go_roundw
          case rel => exact ⟨k + 1, _, hlt, by go_num, (by first | rfl | simp [World.drewN]), fun j hj => by
            by_cases e : j = k
            · subst e; exact hok.out
            · exact Hall.out j (by omega)⟩
          case measure => simp [intOf]; omega
      case inr.inr.inr.inl =>
        have hbad := Lib.hid (quota_bad hlt (show quotaOk l k = false by unfold quotaOk; rw [g1, g2, g3, g4]; rfl))
        have k0 : ¬ k = 0 := fun e => by rw [e] at g4; simp at g4
        have g4' : ¬ (qt l (k - 1)).1 < (qt l k).1 := by simpa [k0] using g4
        obtain ⟨b', off', ee, _, d0, _, _⟩ := HS.out.q3 (show k - 1 < l.length by omega)
        cases ee
        have zm : IntKind.i64.wrap ((k : Int) - 1) = ((k - 1 : Nat) : Int) := by rw [IntWalk.i64_in _ (by omega)]; omega
        have zk0 : (0 : Int) ≤ ((k - 1 : Nat) : Int) := by omega
        have zk1 : ((k - 1 : Nat) : Int) < (l.length : Int) := by omega
        have k0n : 0 < k := by omega
        have k0d : decide (0 < k) = true := decide_eq_true k0n
        have k0' : decide ((0 : Int) < (k : Int)) = true := decide_eq_true (by omega)
        have g5 : decide ((qt l k).1 ≤ (qt l (k - 1)).1) = true := decide_eq_true (by omega)
        clear g4 k0
        go_wp2_with fail
        go_quiet ((go_at_call 42; exact quiet_same2 (l1In_any _ _ _ _)))
        go_wp2
        go_ret
        exact ⟨by rw [hbad.out]; rfl, (by (repeat (first | exact Below.refl _ _ | exact Hbl.out | refine Below.ext ?_ (by first | omega | (simp; omega) | simp) | refine Below.setCell ?_ (by first | omega | (simp; omega) | simp) _ | refine Below.alloc ?_ (by first | omega | (simp; omega) | simp) _ | refine Below.drew ?_ | refine below_drewN ?_ _ | refine Below.step (by assumption) (by first | omega | (simp; omega) | simp) ?_)))⟩
      case inl =>
        have hbad := Lib.hid (quota_bad hlt (show quotaOk l k = false by unfold quotaOk; rw [g1]; rfl))
        go_wp2_with fail
        go_quiet ((go_at_call 42; exact quiet_same2 (l1In_any _ _ _ _)))
        go_wp2
        go_ret
        exact ⟨by rw [hbad.out]; rfl, (by (repeat (first | exact Below.refl _ _ | exact Hbl.out | refine Below.ext ?_ (by first | omega | (simp; omega) | simp) | refine Below.setCell ?_ (by first | omega | (simp; omega) | simp) _ | refine Below.alloc ?_ (by first | omega | (simp; omega) | simp) _ | refine Below.drew ?_ | refine below_drewN ?_ _ | refine Below.step (by assumption) (by first | omega | (simp; omega) | simp) ?_)))⟩
      case inr.inl =>
        have hbad := Lib.hid (quota_bad hlt (show quotaOk l k = false by unfold quotaOk; rw [g1, g2]; rfl))
        go_wp2_with fail
        go_quiet ((go_at_call 42; exact quiet_same2 (l1In_any _ _ _ _)))
        go_wp2
        go_ret
        exact ⟨by rw [hbad.out]; rfl, (by (repeat (first | exact Below.refl _ _ | exact Hbl.out | refine Below.ext ?_ (by first | omega | (simp; omega) | simp) | refine Below.setCell ?_ (by first | omega | (simp; omega) | simp) _ | refine Below.alloc ?_ (by first | omega | (simp; omega) | simp) _ | refine Below.drew ?_ | refine below_drewN ?_ _ | refine Below.step (by assumption) (by first | omega | (simp; omega) | simp) ?_)))⟩
      case inr.inr.inl =>
        have hbad := Lib.hid (quota_bad hlt (show quotaOk l k = false by unfold quotaOk; rw [g1, g2, g3]; rfl))
        go_wp2_with fail
        go_quiet ((go_at_call 42; exact quiet_same2 (l1In_any _ _ _ _)))
        go_wp2
        go_ret
        exact ⟨by rw [hbad.out]; rfl, (by (repeat (first | exact Below.refl _ _ | exact Hbl.out | refine Below.ext ?_ (by first | omega | (simp; omega) | simp) | refine Below.setCell ?_ (by first | omega | (simp; omega) | simp) _ | refine Below.alloc ?_ (by first | omega | (simp; omega) | simp) _ | refine Below.drew ?_ | refine below_drewN ?_ _ | refine Below.step (by assumption) (by first | omega | (simp; omega) | simp) ?_)))⟩
    · obtain rfl : k = l.length := by omega
      have hr := Lib.hid (quota_end Hall.out)
      go_wp2
      go_ret
      exact ⟨by rw [hr.out]; simp; try omega, HB.out⟩
end Go.Proofs.Ythcmecgmidopoaa
