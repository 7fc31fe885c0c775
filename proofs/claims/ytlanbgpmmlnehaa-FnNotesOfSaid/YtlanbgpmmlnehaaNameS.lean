/- Names: the reference's 'NameValid'; 'isUser'. -/
import Derived.Test.YtlanbgpmmlnehaaName
set_option linter.unusedSimpArgs false
set_option linter.unusedVariables false
set_option linter.unusedSectionVars false
namespace Go.Proofs.Ytlanbgpmmlnehaa
open Go.RowKit

theorem isUser_any (n : Int) (w : World) : Calls Try.prog 52 #[.int .i64 n] w fun e w' => e = .returned (.bool (inB n 0 99)) ∧ w = w' := by
  go_enter Try.func52, Try.ntmps52
  go_wp2_with (go_at_call 51; refine (within_any _ _ _ _).mono ?_; rintro e w' ⟨rfl, rfl⟩)
  go_ret
  exact ⟨rfl, rfl⟩

set_option maxHeartbeats 1000000 in
theorem nameValidS_any (s : ByteArray) (w : World) (hs : s.size ≤ maxLen) : Calls Try.prog 53 #[.string s] w fun e w' => e = .returned (.bool (nameB s.data.toList)) ∧ w = w' := by
  unfold maxLen at hs
  go_enter Try.func53, Try.ntmps53
  go_wp2
  go_loop [3, 4] (fun i _ => ∃ k : Nat, k ≤ s.size ∧ i = .int .i64 k ∧ ∀ j, j < k → chOk j (s.data.toList.getD j 0) = true) (fun i _ => s.size - (intOf i).toNat)
  case atStart => exact ⟨0, Nat.zero_le _, rfl, fun j hj => absurd hj (by omega)⟩
  case round =>
    obtain ⟨k, hk, rfl, hall⟩ := hrel
    have Hall := Lib.hid hall; clear hall
    by_cases hlt : k < s.size
    · have hg : s.data.toList.getD k 0 = s[k] := by
        rw [List.getD_eq_getElem?_getD, List.getElem?_eq_getElem (by simpa using hlt)]; rfl
      have Hg := Lib.hid hg; clear hg
      have hgo : chOk k s[k] = true → ∀ j, j < k + 1 → chOk j (s.data.toList.getD j 0) = true := fun h j hj => by
        by_cases e : j = k
        · subst e; rw [Hg.out]; exact h
        · exact Hall.out j (by omega)
      have Hgo := Lib.hid hgo; clear hgo
      have hno : chOk k s[k] = false → nameB s.data.toList = false := fun h => nameB_bad (k := k) (by simpa using hlt) (by rw [Hg.out]; exact h)
      have Hno := Lib.hid hno; clear hno
      rcases and2 (decide (97 ≤ (s[k].toNat : Int))) (decide ((s[k].toNat : Int) ≤ 122)) with c1 | ⟨c1, c2⟩ | ⟨c1, c2⟩
      case inr.inr =>
        go_wp2
        go_round
        case rel => exact ⟨k + 1, by omega, by go_num, Hgo.out (by unfold chOk; rw [c1, c2]; rfl)⟩
        case measure => simp [intOf]; omega
      all_goals
        rcases and3 (decide (0 < k)) (decide (48 ≤ (s[k].toNat : Int))) (decide ((s[k].toNat : Int) ≤ 57)) with c3 | ⟨c3, c4⟩ | ⟨c3, c4, c5⟩ | ⟨c3, c4, c5⟩
        case inr.inr.inr =>
          have c3' : ((k : Int) == 0) = false := by simp at c3 ⊢; omega
          have c4' : decide ((s[k].toNat : Int) < 48) = false := by simp at c4 ⊢; omega
          have c5' : decide ((57 : Int) < (s[k].toNat : Int)) = false := by simp at c5 ⊢; omega
          go_wp2
          go_round
          case rel => exact ⟨k + 1, by omega, by go_num, Hgo.out (by unfold chOk; simp only [c1, c3, c4, c5, Bool.and_true, Bool.and_self, Bool.or_true])⟩
          case measure => simp [intOf]; omega
        case inl =>
          have c3' : ((k : Int) == 0) = true := by simp at c3 ⊢; omega
          go_wp2
          go_ret
          exact ⟨by rw [Hno.out (by unfold chOk; simp [*])]; rfl, rfl⟩
        case inr.inl =>
          have c3' : ((k : Int) == 0) = false := by simp at c3 ⊢; omega
          have c4' : decide ((s[k].toNat : Int) < 48) = true := by simp at c4 ⊢; omega
          go_wp2
          go_ret
          exact ⟨by rw [Hno.out (by unfold chOk; simp [*])]; rfl, rfl⟩
        case inr.inr.inl =>
          have c3' : ((k : Int) == 0) = false := by simp at c3 ⊢; omega
          have c4' : decide ((s[k].toNat : Int) < 48) = false := by simp at c4 ⊢; omega
          have c5' : decide ((57 : Int) < (s[k].toNat : Int)) = true := by simp at c5 ⊢; omega
          go_wp2
          go_ret
          exact ⟨by rw [Hno.out (by unfold chOk; simp [*])]; rfl, rfl⟩
    · have hk' : k = s.size := by omega
      subst hk'
      have hgood := nameB_good (l := s.data.toList) (fun j hj => Hall.out j (by simpa using hj))
      have Hgood := Lib.hid hgood; clear hgood
      go_wp2_with (go_at_call 45; refine (l1In_any _ _ _ _).mono ?_; rintro e w' ⟨rfl, rfl⟩)
      go_ret
      exact ⟨by rw [Hgood.out]; simp, rfl⟩
end Go.Proofs.Ytlanbgpmmlnehaa
