/- Timers: 'TimersValid' of the program and of the reference. -/
import Derived.Test.YtlanbgpmmlnehaaSl
set_option linter.unusedSimpArgs false
set_option linter.unusedVariables false
set_option linter.unusedSectionVars false
namespace Go.Proofs.Ytlanbgpmmlnehaa
open Go.RowKit

theorem isTime_any (n : Int) (w : World) : Calls Try.prog 48 #[.int .i64 n] w fun e w' => e = .returned (.bool (inB n 0 100000)) ∧ w = w' := by
  go_enter Try.func48, Try.ntmps48
  go_wp2_with (go_at_call 51; refine (within_any _ _ _ _).mono ?_; rintro e w' ⟨rfl, rfl⟩)
  go_ret
  exact ⟨rfl, rfl⟩
theorem isProcess_any (n : Int) (w : World) : Calls Try.prog 49 #[.int .i64 n] w fun e w' => e = .returned (.bool (inB n 1 99)) ∧ w = w' := by
  go_enter Try.func49, Try.ntmps49
  go_wp2_with (go_at_call 51; refine (within_any _ _ _ _).mono ?_; rintro e w' ⟨rfl, rfl⟩)
  go_ret
  exact ⟨rfl, rfl⟩
/-- Timer i is right, behind the one ahead of it. -/
def tmOk (l : List (Int × Int × Int)) (i : Nat) : Bool := inB (ti l i).1 0 100000 && (inB (ti l i).2.1 1 99 && (inB (ti l i).2.2 0 100000 && !(decide (0 < i) && decide ((ti l i).1 < (ti l (i - 1)).1))))
def tmB (l : List (Int × Int × Int)) : Bool := (List.range l.length).all (tmOk l) && decide (l.length ≤ 8)
theorem tmB_bad {l : List (Int × Int × Int)} {k : Nat} (hk : k < l.length) (h : tmOk l k = false) : tmB l = false := by
  unfold tmB
  have : (List.range l.length).all (tmOk l) = false := by
    rw [List.all_eq_false]
    exact ⟨k, List.mem_range.2 hk, by rw [h]; exact Bool.false_ne_true⟩
  rw [this, Bool.false_and]
theorem tmB_good {l : List (Int × Int × Int)} (h : ∀ k, k < l.length → tmOk l k = true) : tmB l = decide (l.length ≤ 8) := by
  unfold tmB
  have : (List.range l.length).all (tmOk l) = true := by
    rw [List.all_eq_true]
    intro k hk
    exact h k (List.mem_range.1 hk)
  rw [this, Bool.true_and]

set_option maxHeartbeats 2000000 in
theorem timersValidI_any (A : Option Addr) (cap : Nat) (l : List (Int × Int × Int)) (w : World) (hn : l.length ≤ cap) (hc : cap ≤ maxLen) (hA : l = [] ∨ ∃ b off, A = some ⟨b, off, none⟩ ∧ b < w.heap.size ∧ At3 w b off l) :
    Calls Try.prog 17 #[.slice A l.length cap] w fun e w' => e = .returned (.bool (tmB l)) ∧ Below w.heap.size w w' := by
  unfold maxLen at hc
  have HA := Lib.hid hA; clear hA
  go_enter Try.func17, Try.ntmps17
  go_wp2
  go_loopw [7] (fun i wr => ∃ k : Nat, k ≤ l.length ∧ i = .int .i64 k ∧ (∀ j, j < k → tmOk l j = true) ∧ Below w.heap.size w wr) (fun i _ => l.length - (intOf i).toNat)
  case atStart => exact ⟨0, Nat.zero_le _, rfl, fun j hj => absurd hj (by omega), Below.refl _ _⟩
  case round =>
    obtain ⟨k, hk, rfl, hall, hbl⟩ := hrel
    obtain ⟨d, os, rfl⟩ := ext_of_below hbl
    clear hbl
    have Hall := Lib.hid hall; clear hall
    by_cases hlt : k < l.length
    · obtain ⟨b, off, rfl, hb, hcs⟩ := HA.out.resolve_left (fun e => by subst e; simp at hlt)
      have Hcs := Lib.hid hcs; clear hcs
      obtain ⟨c1, c2, c3⟩ := Hcs.out k hlt
      have hno : tmOk l k = false → tmB l = false := fun h => tmB_bad hlt h
      have Hno := Lib.hid hno; clear hno
      rcases and3 (inB (ti l k).1 0 100000) (inB (ti l k).2.1 1 99) (inB (ti l k).2.2 0 100000) with e1 | ⟨e1, e2⟩ | ⟨e1, e2, e3⟩ | ⟨e1, e2, e3⟩
      case inr.inr.inr =>
        by_cases hk0 : k = 0
        · have z0 : decide ((0 : Int) < (k : Int)) = false := by simp; omega
          have z0' : decide (0 < k) = false := by simp; omega
          have Hk0 := Lib.hid hk0; clear hk0
          go_wp2
          go_quiet ((first | (go_at_call 48; exact quiet_same (isTime_any _ _)) | (go_at_call 49; exact quiet_same (isProcess_any _ _))))
          go_wp2
          go_roundw
          case rel => exact ⟨k + 1, by omega, by go_num, fun j hj => by
            have hk0 := Hk0.out
            subst hk0
            obtain rfl : j = 0 := (by omega)
            unfold tmOk; simp [e1, e2, e3], (by (repeat (first | exact Below.refl _ _ | exact Hbl.out | refine Below.ext ?_ (by first | omega | (simp; omega) | simp) | refine Below.setCell ?_ (by first | omega | (simp; omega) | simp) _ | refine Below.alloc ?_ (by first | omega | (simp; omega) | simp) _ | refine Below.drew ?_ | refine below_drewN ?_ _ | refine Below.step (by assumption) (by first | omega | (simp; omega) | simp) ?_)))⟩
          case measure => simp [intOf]; omega
        · obtain ⟨p1, p2, p3⟩ := Hcs.out (k - 1) (by omega)
          have z0 : decide ((0 : Int) < (k : Int)) = true := by simp; omega
          have z0' : decide (0 < k) = true := by simp; omega
          have z1 : IntKind.i64.wrap ((k : Int) - 1) = (k : Int) - 1 := IntWalk.i64_in _ (by omega)
          have z2 : (0 : Int) ≤ (k : Int) - 1 := by omega
          have z3 : (k : Int) - 1 < (l.length : Int) := by omega
          have z4 : ((k : Int) - 1).toNat = k - 1 := by omega
          by_cases hp : (ti l k).1 < (ti l (k - 1)).1
          · have z5 : decide ((ti l k).1 < (ti l (k - 1)).1) = true := by simpa using hp
            go_wp2
            go_quiet ((first | (go_at_call 48; exact quiet_same (isTime_any _ _)) | (go_at_call 49; exact quiet_same (isProcess_any _ _))))
            go_wp2
            go_ret
            exact ⟨by rw [Hno.out (by unfold tmOk; simp [e1, e2, e3, hp]; omega)]; rfl, (by (repeat (first | exact Below.refl _ _ | exact Hbl.out | refine Below.ext ?_ (by first | omega | (simp; omega) | simp) | refine Below.setCell ?_ (by first | omega | (simp; omega) | simp) _ | refine Below.alloc ?_ (by first | omega | (simp; omega) | simp) _ | refine Below.drew ?_ | refine below_drewN ?_ _ | refine Below.step (by assumption) (by first | omega | (simp; omega) | simp) ?_)))⟩
          · have z5 : decide ((ti l k).1 < (ti l (k - 1)).1) = false := by simpa using hp
            go_wp2
            go_quiet ((first | (go_at_call 48; exact quiet_same (isTime_any _ _)) | (go_at_call 49; exact quiet_same (isProcess_any _ _))))
            go_wp2
            go_roundw
            case rel => exact ⟨k + 1, by omega, by go_num, fun j hj => by
              by_cases e : j = k
              · subst e; unfold tmOk; simp [e1, e2, e3, hp]
              · exact Hall.out j (by omega), (by (repeat (first | exact Below.refl _ _ | exact Hbl.out | refine Below.ext ?_ (by first | omega | (simp; omega) | simp) | refine Below.setCell ?_ (by first | omega | (simp; omega) | simp) _ | refine Below.alloc ?_ (by first | omega | (simp; omega) | simp) _ | refine Below.drew ?_ | refine below_drewN ?_ _ | refine Below.step (by assumption) (by first | omega | (simp; omega) | simp) ?_)))⟩
            case measure => simp [intOf]; omega
      all_goals
        go_wp2
        go_quiet ((first | (go_at_call 48; exact quiet_same (isTime_any _ _)) | (go_at_call 49; exact quiet_same (isProcess_any _ _))))
        go_wp2
        go_ret
        exact ⟨by rw [Hno.out (by unfold tmOk; first | (simp only [e1, e2, e3, Bool.true_and, Bool.and_false, Bool.false_and]; done) | (simp only [e1, e2, Bool.true_and, Bool.and_false, Bool.false_and]; done) | (simp only [e1, Bool.true_and, Bool.and_false, Bool.false_and]; done))]; rfl, (by (repeat (first | exact Below.refl _ _ | exact Hbl.out | refine Below.ext ?_ (by first | omega | (simp; omega) | simp) | refine Below.setCell ?_ (by first | omega | (simp; omega) | simp) _ | refine Below.alloc ?_ (by first | omega | (simp; omega) | simp) _ | refine Below.drew ?_ | refine below_drewN ?_ _ | refine Below.step (by assumption) (by first | omega | (simp; omega) | simp) ?_)))⟩
    · have hk' : k = l.length := by omega
      subst hk'
      have hgood := tmB_good (l := l) (fun j hj => Hall.out j hj)
      have Hgood := Lib.hid hgood; clear hgood
      go_wp2
      go_ret
      exact ⟨by rw [Hgood.out]; simp; try omega, (by (repeat (first | exact Below.refl _ _ | exact Hbl.out | refine Below.ext ?_ (by first | omega | (simp; omega) | simp) | refine Below.setCell ?_ (by first | omega | (simp; omega) | simp) _ | refine Below.alloc ?_ (by first | omega | (simp; omega) | simp) _ | refine Below.drew ?_ | refine below_drewN ?_ _ | refine Below.step (by assumption) (by first | omega | (simp; omega) | simp) ?_)))⟩
theorem timersValidI_of (v : Value) (l : List (Int × Int × Int)) (w : World) (h : Sl3 w v l) : Calls Try.prog 17 #[v] w fun e w' => e = .returned (.bool (tmB l)) ∧ Below w.heap.size w w' := by
  obtain ⟨A, cap, rfl, h1, h2, h3⟩ := h
  exact timersValidI_any A cap l w h1 h2 h3
end Go.Proofs.Ytlanbgpmmlnehaa
