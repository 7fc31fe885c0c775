/- Quotas: the plain side; 'QuotasValid' of the package and of the reference. -/
import Derived.Test.YthcmecgmidopoaaUsage
set_option linter.unusedSimpArgs false
set_option linter.unusedVariables false
set_option linter.unusedSectionVars false
namespace Go.Proofs.Ythcmecgmidopoaa
open Go.RowKit

abbrev Q3 := Int × Int × Int
def EQ : Lay Q3 := ⟨3, by decide, fun q => [.int .i64 q.1, .int .i64 q.2.1, .int .i64 q.2.2], fun _ => rfl, fun _ u hu => by simp at hu; rcases hu with h | h | h <;> rw [h] <;> rfl⟩
def qt (l : List Q3) (k : Nat) : Q3 := l.getD k (0, 0, 0)
theorem qt_at {l : List Q3} {k : Nat} (h : k < l.length) : l[k]? = some (qt l k) := by
  unfold qt
  rw [List.getD_eq_getElem?_getD, List.getElem?_eq_getElem h]; rfl
def quotaOk (l : List Q3) (k : Nat) : Bool := inB (qt l k).1 0 99 && (inB (qt l k).2.1 0 16 && (inB (qt l k).2.2 0 1000 && (decide (k = 0) || decide ((qt l (k - 1)).1 < (qt l k).1))))
def quotaB (l : List Q3) : Bool := (List.range l.length).all (quotaOk l) && decide (l.length ≤ 8)
theorem quota_bad {l : List Q3} {k : Nat} (hk : k < l.length) (h : quotaOk l k = false) : quotaB l = false := by unfold quotaB; rw [all_bad hk h]; rfl
theorem quota_end {l : List Q3} (h : ∀ k, k < l.length → quotaOk l k = true) : quotaB l = decide (l.length ≤ 8) := by unfold quotaB; rw [all_good h]; rfl
theorem quiet_same4 {P : Program} {f : FuncId} {args : Array Value} {w : World} {n : Nat} {v : Value}
    (h : Calls P f args (w.drewN n) fun e w' => e = .returned v ∧ w.drewN n = w') : Calls P f args (w.drewN n) fun e w'' => e = .returned v ∧ ∃ k, w'' = w.drewN k :=
  h.mono fun _ _ ⟨he, hm⟩ => ⟨he, n, hm.symm⟩
/-- The cells of quota k. -/
theorem SlG.q3 {w : World} {A : Option Addr} {n c k : Nat} {l : List Q3} (h : SlG EQ w (.slice A n c) l) (hk : k < l.length) : ∃ b off, A = some ⟨b, off, none⟩ ∧ b < w.heap.size ∧ w.cell? ⟨b, off + k * 3, none⟩ = some (.int .i64 (qt l k).1) ∧ w.cell? ⟨b, off + k * 3 + 1, none⟩ = some (.int .i64 (qt l k).2.1) ∧ w.cell? ⟨b, off + k * 3 + 2, none⟩ = some (.int .i64 (qt l k).2.2) := by
  obtain ⟨b, off, e, hb, q⟩ := h.at_ (qt_at hk)
  exact ⟨b, off, e, hb, q 0 _ rfl, q 1 _ rfl, q 2 _ rfl⟩
set_option maxRecDepth 100000 in
set_option maxHeartbeats 4000000 in
theorem quotasI_of (v : Value) (l : List Q3) (w : World) (h : SlG EQ w v l) :
    Calls Try.prog 31 #[v] w fun e w' => e = .returned (.bool (quotaB l)) ∧ Below w.heap.size w w' := by
  have H := Lib.hid h
  obtain ⟨A, cap, rfl⟩ := h.shape
  have hcap := h.caps
  clear h
  go_enter Try.func31, Try.ntmps31
  go_wp2
  go_loopw [7] (fun i wr => ∃ k : Nat, k ≤ l.length ∧ i = .int .i64 k ∧ Below w.heap.size w wr ∧ ∀ j, j < k → quotaOk l j = true) (fun i _ => l.length - (intOf i).toNat)
  case atStart => exact ⟨0, Nat.zero_le _, rfl, Below.refl _ _, fun j hj => by omega⟩
  case round =>
    obtain ⟨k, hk, rfl, hB, hall⟩ := hrel
    have HB := Lib.hid hB
    have Hall := Lib.hid hall
    have hzr := hB.size
    have HS := Lib.hid (H.out.below hB)
    clear hB hall
    by_cases hlt : k < l.length
    · obtain ⟨b, off, rfl, hb, c0, c1, c2⟩ := HS.out.q3 hlt
      have hlt' : (k : Int) < (l.length : Int) := by omega
      have zk : IntKind.i64.wrap ((k : Int) + 1) = (k : Int) + 1 := IntWalk.i64_in _ (by omega)
      rcases and4 (inB (qt l k).1 0 99) (inB (qt l k).2.1 0 16) (inB (qt l k).2.2 0 1000) (decide (k = 0) || decide ((qt l (k - 1)).1 < (qt l k).1)) with g1 | ⟨g1, g2⟩ | ⟨g1, g2, g3⟩ | ⟨g1, g2, g3, g4⟩ | ⟨g1, g2, g3, g4⟩
      case inr.inr.inr.inr =>
        have hok := Lib.hid (show quotaOk l k = true by unfold quotaOk; rw [g1, g2, g3, g4]; rfl)
        by_cases k0 : k = 0
        · have k0d : decide (0 < k) = false := decide_eq_false (by omega)
          have k0' : decide ((0 : Int) < (k : Int)) = false := decide_eq_false (by omega)
          clear g4 k0
          go_wp2_with fail
          go_quiet ((first | (go_at_call 53; exact quiet_same4 (isUserI_any _ _)) | (go_at_call 45; exact quiet_same4 (within_any _ _ _ _))))
          go_wp2
          go_roundw
          case rel => exact ⟨k + 1, hlt, by go_num, (by have hx := HB.out; (repeat (first | exact Below.refl _ _ | exact Hbl.out | refine Below.ext ?_ (by first | omega | (simp; omega) | simp) | refine Below.setCell ?_ (by first | omega | (simp; omega) | simp) _ | refine Below.alloc ?_ (by first | omega | (simp; omega) | simp) _ | refine Below.drew ?_ | refine below_drewN ?_ _ | refine Below.step (by assumption) (by first | omega | (simp; omega) | simp) ?_))), fun j hj => by
            by_cases e : j = k
            · subst e; exact hok.out
            · exact Hall.out j (by omega)⟩
          case measure => simp [intOf]; omega
        · have g4' : (qt l (k - 1)).1 < (qt l k).1 := by simpa [k0] using g4
          obtain ⟨b', off', ee, _, d0, _, _⟩ := HS.out.q3 (show k - 1 < l.length by omega)
          cases ee
          have zm : IntKind.i64.wrap ((k : Int) - 1) = ((k - 1 : Nat) : Int) := by rw [IntWalk.i64_in _ (by omega)]; omega
          have zk0 : (0 : Int) ≤ ((k - 1 : Nat) : Int) := by omega
          have zk1 : ((k - 1 : Nat) : Int) < (l.length : Int) := by omega
          have k0n : 0 < k := by omega
          have k0d : decide (0 < k) = true := decide_eq_true k0n
          have k0' : decide ((0 : Int) < (k : Int)) = true := decide_eq_true (by omega)
          have g5 : decide ((qt l k).1 ≤ (qt l (k - 1)).1) = false := decide_eq_false (by omega)
          clear g4 k0
          go_wp2_with fail
          go_quiet ((first | (go_at_call 53; exact quiet_same4 (isUserI_any _ _)) | (go_at_call 45; exact quiet_same4 (within_any _ _ _ _))))
          go_wp2
          go_roundw
          case rel => exact ⟨k + 1, hlt, by go_num, (by have hx := HB.out; (repeat (first | exact Below.refl _ _ | exact Hbl.out | refine Below.ext ?_ (by first | omega | (simp; omega) | simp) | refine Below.setCell ?_ (by first | omega | (simp; omega) | simp) _ | refine Below.alloc ?_ (by first | omega | (simp; omega) | simp) _ | refine Below.drew ?_ | refine below_drewN ?_ _ | refine Below.step (by assumption) (by first | omega | (simp; omega) | simp) ?_))), fun j hj => by
            by_cases e : j = k
            · subst e; exact hok.out
            · exact Hall.out j (by omega)⟩
          case measure => simp [intOf]; omega
      case inr.inr.inr.inl =>
        have hbad := Lib.hid (quota_bad hlt (show quotaOk l k = false by unfold quotaOk; rw [g1, g2, g3, g4]; rfl))
        have k0 : ¬ k = 0 := fun e => by rw [e] at g4; simp at g4
        have g4' : ¬ (qt l (k - 1)).1 < (qt l k).1 := by simpa [k0] using g4
        obtain ⟨b', off', ee, _, d0, _, _⟩ := HS.out.q3 (show k - 1 < l.length by omega)
        cases ee
        have zm : IntKind.i64.wrap ((k : Int) - 1) = ((k - 1 : Nat) : Int) := by rw [IntWalk.i64_in _ (by omega)]; omega
        have zk0 : (0 : Int) ≤ ((k - 1 : Nat) : Int) := by omega
        have zk1 : ((k - 1 : Nat) : Int) < (l.length : Int) := by omega
        have k0n : 0 < k := by omega
        have k0d : decide (0 < k) = true := decide_eq_true k0n
        have k0' : decide ((0 : Int) < (k : Int)) = true := decide_eq_true (by omega)
        have g5 : decide ((qt l k).1 ≤ (qt l (k - 1)).1) = true := decide_eq_true (by omega)
        clear g4 k0
        go_wp2_with fail
        go_quiet ((first | (go_at_call 53; exact quiet_same4 (isUserI_any _ _)) | (go_at_call 45; exact quiet_same4 (within_any _ _ _ _))))
        go_wp2
        go_ret
        exact ⟨by rw [hbad.out]; rfl, (by have hx := HB.out; (repeat (first | exact Below.refl _ _ | exact Hbl.out | refine Below.ext ?_ (by first | omega | (simp; omega) | simp) | refine Below.setCell ?_ (by first | omega | (simp; omega) | simp) _ | refine Below.alloc ?_ (by first | omega | (simp; omega) | simp) _ | refine Below.drew ?_ | refine below_drewN ?_ _ | refine Below.step (by assumption) (by first | omega | (simp; omega) | simp) ?_)))⟩
      case inl =>
        have hbad := Lib.hid (quota_bad hlt (show quotaOk l k = false by unfold quotaOk; rw [g1]; rfl))
        go_wp2_with fail
        go_quiet ((first | (go_at_call 53; exact quiet_same4 (isUserI_any _ _)) | (go_at_call 45; exact quiet_same4 (within_any _ _ _ _))))
        go_wp2
        go_ret
        exact ⟨by rw [hbad.out]; rfl, (by have hx := HB.out; (repeat (first | exact Below.refl _ _ | exact Hbl.out | refine Below.ext ?_ (by first | omega | (simp; omega) | simp) | refine Below.setCell ?_ (by first | omega | (simp; omega) | simp) _ | refine Below.alloc ?_ (by first | omega | (simp; omega) | simp) _ | refine Below.drew ?_ | refine below_drewN ?_ _ | refine Below.step (by assumption) (by first | omega | (simp; omega) | simp) ?_)))⟩
      case inr.inl =>
        have hbad := Lib.hid (quota_bad hlt (show quotaOk l k = false by unfold quotaOk; rw [g1, g2]; rfl))
        go_wp2_with fail
        go_quiet ((first | (go_at_call 53; exact quiet_same4 (isUserI_any _ _)) | (go_at_call 45; exact quiet_same4 (within_any _ _ _ _))))
        go_wp2
        go_ret
        exact ⟨by rw [hbad.out]; rfl, (by have hx := HB.out; (repeat (first | exact Below.refl _ _ | exact Hbl.out | refine Below.ext ?_ (by first | omega | (simp; omega) | simp) | refine Below.setCell ?_ (by first | omega | (simp; omega) | simp) _ | refine Below.alloc ?_ (by first | omega | (simp; omega) | simp) _ | refine Below.drew ?_ | refine below_drewN ?_ _ | refine Below.step (by assumption) (by first | omega | (simp; omega) | simp) ?_)))⟩
      case inr.inr.inl =>
        have hbad := Lib.hid (quota_bad hlt (show quotaOk l k = false by unfold quotaOk; rw [g1, g2, g3]; rfl))
        go_wp2_with fail
        go_quiet ((first | (go_at_call 53; exact quiet_same4 (isUserI_any _ _)) | (go_at_call 45; exact quiet_same4 (within_any _ _ _ _))))
        go_wp2
        go_ret
        exact ⟨by rw [hbad.out]; rfl, (by have hx := HB.out; (repeat (first | exact Below.refl _ _ | exact Hbl.out | refine Below.ext ?_ (by first | omega | (simp; omega) | simp) | refine Below.setCell ?_ (by first | omega | (simp; omega) | simp) _ | refine Below.alloc ?_ (by first | omega | (simp; omega) | simp) _ | refine Below.drew ?_ | refine below_drewN ?_ _ | refine Below.step (by assumption) (by first | omega | (simp; omega) | simp) ?_)))⟩
    · obtain rfl : k = l.length := by omega
      have hr := Lib.hid (quota_end Hall.out)
      go_wp2
      go_ret
      exact ⟨by rw [hr.out]; simp; try omega, HB.out⟩
end Go.Proofs.Ythcmecgmidopoaa
