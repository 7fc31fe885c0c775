/- Names: 'NameValid', for every string; 'alive'. -/
import Derived.Test.YtlanbgpmmlnehaaBase
set_option linter.unusedSimpArgs false
set_option linter.unusedVariables false
set_option linter.unusedSectionVars false
namespace Go.Proofs.Ytlanbgpmmlnehaa
open Go.RowKit

/-- The sign c may stand at place i of a name. -/
def chOk (i : Nat) (c : UInt8) : Bool := (decide (97 ≤ (c.toNat : Int)) && decide ((c.toNat : Int) ≤ 122)) || (decide (0 < i) && (decide (48 ≤ (c.toNat : Int)) && decide ((c.toNat : Int) ≤ 57)))
/-- The bytes are a name. -/
def nameB (l : List UInt8) : Bool := (List.range l.length).all (fun i => chOk i (l.getD i 0)) && inB l.length 1 8

theorem nameB_bad {l : List UInt8} {k : Nat} (hk : k < l.length) (h : chOk k (l.getD k 0) = false) : nameB l = false := by
  unfold nameB
  have : (List.range l.length).all (fun i => chOk i (l.getD i 0)) = false := by
    rw [List.all_eq_false]
    exact ⟨k, List.mem_range.2 hk, by rw [h]; exact Bool.false_ne_true⟩
  rw [this, Bool.false_and]
theorem nameB_good {l : List UInt8} (h : ∀ k, k < l.length → chOk k (l.getD k 0) = true) : nameB l = inB l.length 1 8 := by
  unfold nameB
  have : (List.range l.length).all (fun i => chOk i (l.getD i 0)) = true := by
    rw [List.all_eq_true]
    intro k hk
    exact h k (List.mem_range.1 hk)
  rw [this, Bool.true_and]

set_option maxHeartbeats 1000000 in
theorem nameValid_any (s : ByteArray) (w : World) (hs : s.size ≤ maxLen) : Calls Try.prog 46 #[.string s] w fun e w' => e = .returned (.bool (nameB s.data.toList)) ∧ w = w' := by
  unfold maxLen at hs
  go_enter Try.func46, Try.ntmps46
  go_wp2
  go_loop [6] (fun i => ∃ k : Nat, k ≤ s.size ∧ i = .int .i64 k ∧ ∀ j, j < k → chOk j (s.data.toList.getD j 0) = true) (fun i => s.size - (intOf i).toNat)
  case atStart => exact ⟨0, Nat.zero_le _, rfl, fun j hj => absurd hj (by omega)⟩
  case round =>
    obtain ⟨k, hk, rfl, hall⟩ := hrel
    have Hall := Lib.hid hall; clear hall
    by_cases hlt : k < s.size
    · have hg : s.data.toList.getD k 0 = s[k] := by
        rw [List.getD_eq_getElem?_getD, List.getElem?_eq_getElem (by simpa using hlt)]; rfl
      have Hg := Lib.hid hg; clear hg
      have hgo : chOk k s[k] = true → ∀ j, j < k + 1 → chOk j (s.data.toList.getD j 0) = true := fun h j hj => by
        by_cases e : j = k
        · subst e; rw [Hg.out]; exact h
        · exact Hall.out j (by omega)
      have Hgo := Lib.hid hgo; clear hgo
      have hno : chOk k s[k] = false → nameB s.data.toList = false := fun h => nameB_bad (k := k) (by simpa using hlt) (by rw [Hg.out]; exact h)
      have Hno := Lib.hid hno; clear hno
      rcases and2 (decide (97 ≤ (s[k].toNat : Int))) (decide ((s[k].toNat : Int) ≤ 122)) with c1 | ⟨c1, c2⟩ | ⟨c1, c2⟩
      case inr.inr =>
        go_wp2
        go_round
        case rel => exact ⟨k + 1, by omega, by go_num, Hgo.out (by unfold chOk; rw [c1, c2]; rfl)⟩
        case measure => simp [intOf]; omega
      all_goals
        rcases and3 (decide (0 < k)) (decide (48 ≤ (s[k].toNat : Int))) (decide ((s[k].toNat : Int) ≤ 57)) with c3 | ⟨c3, c4⟩ | ⟨c3, c4, c5⟩ | ⟨c3, c4, c5⟩
        case inr.inr.inr =>
          have c3' : decide ((0 : Int) < (k : Int)) = true := by simp at c3 ⊢; omega
          go_wp2
          go_round
          case rel => exact ⟨k + 1, by omega, by go_num, Hgo.out (by unfold chOk; simp only [c1, c3, c4, c5, Bool.and_true, Bool.and_self, Bool.or_true])⟩
          case measure => simp [intOf]; omega
        all_goals
          have c3' : decide ((0 : Int) < (k : Int)) = decide (0 < k) := by simp
          rw [c3] at c3'
          go_wp2
          go_ret
          exact ⟨by rw [Hno.out (by unfold chOk; simp [*])]; rfl, rfl⟩
    · have hk' : k = s.size := by omega
      subst hk'
      have hgood := nameB_good (l := s.data.toList) (fun j hj => Hall.out j (by simpa using hj))
      have Hgood := Lib.hid hgood; clear hgood
      go_wp2_with (go_at_call 51; refine (within_any _ _ _ _).mono ?_; rintro e w' ⟨rfl, rfl⟩)
      go_ret
      exact ⟨by rw [Hgood.out]; simp, rfl⟩

theorem alive_any (w : World) : Calls Try.prog 15 #[] w fun e w' => e = .returned (.bool true) ∧ w = w' := by
  have h1 : nameB [97, 49] = true := by decide
  have h2 : nameB [49, 97] = false := by decide
  go_enter Try.func15, Try.ntmps15
  go_wp2_with (go_at_call 46; refine (nameValid_any _ _ (by decide)).mono ?_; rintro e w' ⟨rfl, rfl⟩; (try simp only [h1, h2]))
  go_ret
  exact ⟨rfl, rfl⟩
end Go.Proofs.Ytlanbgpmmlnehaa
