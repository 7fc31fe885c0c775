/- Audits: the reference's 'AuditValid' and 'LostNotes'. -/
import Derived.Test.YtlanbgpmmlnehaaAudI
set_option linter.unusedSimpArgs false
set_option linter.unusedVariables false
set_option linter.unusedSectionVars false
namespace Go.Proofs.Ytlanbgpmmlnehaa
open Go.RowKit

set_option maxHeartbeats 2000000 in
theorem auditValidS_in (A : Option Addr) (cap : Nat) (next : Int) (l : List T4) (w : World) (hn : l.length ≤ cap) (hc : cap ≤ maxLen) (hm : l.length ≤ 1048576) (hin : inB next 0 10000 = true) (hx : Txt l) (hA : l = [] ∨ ∃ b off, A = some ⟨b, off, none⟩ ∧ b < w.heap.size ∧ At4 w b off l) :
    Calls Try.prog 21 #[.agg #[.slice A l.length cap, .int .i64 next]] w fun e w' => e = .returned (.bool (audB next l)) ∧ Below w.heap.size w w' := by
  have Hx := Lib.hid hx; clear hx
  have HA := Lib.hid hA; clear hA
  obtain ⟨n0, n1⟩ := inB_iff.1 hin
  unfold maxLen at hc
  go_enter Try.func21, Try.ntmps21
  go_wp2
  go_loopw [3, 4] (fun i _ wr => ∃ k : Nat, k ≤ l.length ∧ i = .int .i64 k ∧ (∀ j : Nat, j < k → noteOk (nt l j) (next - l.length + j) = true) ∧ Below (w.alloc (.cells #[.slice A l.length cap, .int .i64 next] 39)).heap.size (w.alloc (.cells #[.slice A l.length cap, .int .i64 next] 39)) wr) (fun i _ _ => l.length - (intOf i).toNat)
  case atStart => exact ⟨0, Nat.zero_le _, rfl, fun j hj => absurd hj (by omega), Below.refl _ _⟩
  case round =>
    obtain ⟨k, hk, rfl, hall, hbl0⟩ := hrel
    have Hall := Lib.hid hall; clear hall
    have a0 : Below w.heap.size w (w.alloc (.cells #[.slice A l.length cap, .int .i64 next] 39)) := Below.alloc (Below.refl _ _) (Nat.le_refl _) _
    have hbl := Below.step hbl0 a0.size a0
    have g0 : wr.cell? ⟨w.heap.size, 0, none⟩ = some (.slice A l.length cap) := (hbl0.cell (p := ⟨w.heap.size, 0, none⟩) (by simp)).trans (by simp [go_sem])
    have g1 : wr.cell? ⟨w.heap.size, 1, none⟩ = some (.int .i64 next) := (hbl0.cell (p := ⟨w.heap.size, 1, none⟩) (by simp)).trans (by simp [go_sem])
    have hsz : w.heap.size < wr.heap.size := by have := hbl0.size; simp at this; omega
    have Hbl0 := Lib.hid hbl0
    by_cases hlt : k < l.length
    · obtain ⟨b, off, rfl, hb, hcs⟩ := HA.out.resolve_left (fun e => by subst e; simp at hlt)
      obtain ⟨c1, c2, c3, c4⟩ := (hcs.below hb hbl) k hlt
      have hbr : b < wr.heap.size := by omega
      have Hbl := Lib.hid hbl; clear hbl hbl0 hcs a0
      have hno : noteOk (nt l k) (next - l.length + k) = false → audB next l = false := fun h => audB_bad hlt h
      have Hno := Lib.hid hno; clear hno
      have hgo : noteOk (nt l k) (next - l.length + k) = true → ∀ j : Nat, j < k + 1 → noteOk (nt l j) (next - l.length + j) = true := fun h j hj => by
        by_cases e : j = k
        · subst e; exact h
        · exact Hall.out j (by omega)
      have Hgo := Lib.hid hgo; clear hgo
      have zw1 : IntKind.i64.wrap (next - l.length) = next - l.length := IntWalk.i64_in _ (by omega)
      have zw2 : IntKind.i64.wrap (next - l.length + k) = next - l.length + k := IntWalk.i64_in _ (by omega)
      have hs := Hx.out k hlt
      rcases and4 (decide ((nt l k).1 = next - l.length + k)) (inB (nt l k).2.1 0 99) (nameB (nt l k).2.2.1.data.toList) (inB (nt l k).2.2.2 0 7) with e1 | ⟨e1, e2⟩ | ⟨e1, e2, e3⟩ | ⟨e1, e2, e3, e4⟩ | ⟨e1, e2, e3, e4⟩
      case inr.inr.inr.inr =>
        have e1' := of_decide_eq_true e1
        go_wp2_with (first | (go_at_call 45; refine (l1In_any _ _ _ _).mono ?_; rintro e w' ⟨rfl, rfl⟩) | (go_at_call 53; refine (nameValidS_any _ _ hs).mono ?_; rintro e w' ⟨rfl, rfl⟩))
        go_roundw
        case rel => exact ⟨k + 1, by omega, by go_num, Hgo.out (by unfold noteOk; rw [e1, e2, e3, e4]; rfl), Below.alloc Hbl0.out (by simp; omega) _⟩
        case measure => simp [intOf]; omega
      case inl =>
        have e1' := of_decide_eq_false e1
        go_wp2
        go_ret
        exact ⟨by rw [Hno.out (by unfold noteOk; rw [e1, Bool.false_and])]; rfl, (by (repeat (first | exact Below.refl _ _ | exact Hbl.out | refine Below.ext ?_ (by first | omega | (simp; omega) | simp) | refine Below.setCell ?_ (by first | omega | (simp; omega) | simp) _ | refine Below.alloc ?_ (by first | omega | (simp; omega) | simp) _ | refine Below.drew ?_ | refine below_drewN ?_ _ | refine Below.step (by assumption) (by first | omega | (simp; omega) | simp) ?_)))⟩
      all_goals
        have e1' := of_decide_eq_true e1
        go_wp2_with (first | (go_at_call 45; refine (l1In_any _ _ _ _).mono ?_; rintro e w' ⟨rfl, rfl⟩) | (go_at_call 53; refine (nameValidS_any _ _ hs).mono ?_; rintro e w' ⟨rfl, rfl⟩))
        go_ret
        exact ⟨by rw [Hno.out (by unfold noteOk; first | (simp only [e1, e2, e3, e4, Bool.true_and, Bool.and_false, Bool.false_and]; done) | (simp only [e1, e2, e3, Bool.true_and, Bool.and_false, Bool.false_and]; done) | (simp only [e1, e2, Bool.true_and, Bool.and_false, Bool.false_and]; done) | (simp only [e1, Bool.true_and, Bool.and_false, Bool.false_and]; done))]; rfl, (by (repeat (first | exact Below.refl _ _ | exact Hbl.out | refine Below.ext ?_ (by first | omega | (simp; omega) | simp) | refine Below.setCell ?_ (by first | omega | (simp; omega) | simp) _ | refine Below.alloc ?_ (by first | omega | (simp; omega) | simp) _ | refine Below.drew ?_ | refine below_drewN ?_ _ | refine Below.step (by assumption) (by first | omega | (simp; omega) | simp) ?_)))⟩
    · have hk' : k = l.length := by omega
      subst hk'
      have hgood := audB_good (next := next) (l := l) (fun j hj => Hall.out j hj)
      rw [hin, Bool.true_and] at hgood
      have Hgood := Lib.hid hgood; clear hgood
      have Hbl := Lib.hid hbl; clear hbl
      have hor : (10 ≤ next ∧ (l.length : Int) = 10) ∨ (10 ≤ next ∧ ¬ (l.length : Int) = 10) ∨ (next < 10 ∧ (l.length : Int) = next) ∨ (next < 10 ∧ ¬ (l.length : Int) = next) := by omega
      have hv : (l.length : Int) = min 10 next ∨ ¬ (l.length : Int) = min 10 next := Decidable.em _
      rcases hor with ⟨q1, q2⟩ | ⟨q1, q2⟩ | ⟨q1, q2⟩ | ⟨q1, q2⟩
      · have hres : audB next l = true := by rw [Hgood.out]; exact decide_eq_true (by omega)
        have Hres := Lib.hid hres; clear hres hv
        go_wp2_with (first | (go_at_call 45; refine (l1In_any _ _ _ _).mono ?_; rintro e w' ⟨rfl, rfl⟩) | (go_at_call 53; refine (nameValidS_any _ _ (by assumption)).mono ?_; rintro e w' ⟨rfl, rfl⟩))
        go_ret
        exact ⟨by rw [Hres.out]; first | rfl | (simp; try omega), Hbl.out⟩
      · have hres : audB next l = false := by rw [Hgood.out]; exact decide_eq_false (by omega)
        have Hres := Lib.hid hres; clear hres hv
        go_wp2_with (first | (go_at_call 45; refine (l1In_any _ _ _ _).mono ?_; rintro e w' ⟨rfl, rfl⟩) | (go_at_call 53; refine (nameValidS_any _ _ (by assumption)).mono ?_; rintro e w' ⟨rfl, rfl⟩))
        go_ret
        exact ⟨by rw [Hres.out]; first | rfl | (simp; try omega), Hbl.out⟩
      · have hres : audB next l = true := by rw [Hgood.out]; exact decide_eq_true (by omega)
        have Hres := Lib.hid hres; clear hres hv
        go_wp2_with (first | (go_at_call 45; refine (l1In_any _ _ _ _).mono ?_; rintro e w' ⟨rfl, rfl⟩) | (go_at_call 53; refine (nameValidS_any _ _ (by assumption)).mono ?_; rintro e w' ⟨rfl, rfl⟩))
        go_ret
        exact ⟨by rw [Hres.out]; first | rfl | (simp; try omega), Hbl.out⟩
      · have hres : audB next l = false := by rw [Hgood.out]; exact decide_eq_false (by omega)
        have Hres := Lib.hid hres; clear hres hv
        go_wp2_with (first | (go_at_call 45; refine (l1In_any _ _ _ _).mono ?_; rintro e w' ⟨rfl, rfl⟩) | (go_at_call 53; refine (nameValidS_any _ _ (by assumption)).mono ?_; rintro e w' ⟨rfl, rfl⟩))
        go_ret
        exact ⟨by rw [Hres.out]; first | rfl | (simp; try omega), Hbl.out⟩
set_option maxHeartbeats 2000000 in
theorem auditValidS_out (A : Option Addr) (cap : Nat) (next : Int) (l : List T4) (w : World) (hn : l.length ≤ cap) (hc : cap ≤ maxLen) (hm : l.length ≤ 1048576) (hin : inB next 0 10000 = false) (hx : Txt l) (hA : l = [] ∨ ∃ b off, A = some ⟨b, off, none⟩ ∧ b < w.heap.size ∧ At4 w b off l) :
    Calls Try.prog 21 #[.agg #[.slice A l.length cap, .int .i64 next]] w fun e w' => e = .returned (.bool (audB next l)) ∧ Below w.heap.size w w' := by
  have Hx := Lib.hid hx; clear hx
  have HA := Lib.hid hA; clear hA
  have hres : audB next l = false := audB_next hin
  have Hres := Lib.hid hres; clear hres
  unfold maxLen at hc
  go_enter Try.func21, Try.ntmps21
  go_wp2
  go_loopw [3, 4] (fun i _ wr => ∃ k : Nat, k ≤ l.length ∧ i = .int .i64 k ∧ Below (w.alloc (.cells #[.slice A l.length cap, .int .i64 next] 39)).heap.size (w.alloc (.cells #[.slice A l.length cap, .int .i64 next] 39)) wr) (fun i _ _ => l.length - (intOf i).toNat)
  case atStart => exact ⟨0, Nat.zero_le _, rfl, Below.refl _ _⟩
  case round =>
    obtain ⟨k, hk, rfl, hbl0⟩ := hrel
    have a0 : Below w.heap.size w (w.alloc (.cells #[.slice A l.length cap, .int .i64 next] 39)) := Below.alloc (Below.refl _ _) (Nat.le_refl _) _
    have hbl := Below.step hbl0 a0.size a0
    have g0 : wr.cell? ⟨w.heap.size, 0, none⟩ = some (.slice A l.length cap) := (hbl0.cell (p := ⟨w.heap.size, 0, none⟩) (by simp)).trans (by simp [go_sem])
    have g1 : wr.cell? ⟨w.heap.size, 1, none⟩ = some (.int .i64 next) := (hbl0.cell (p := ⟨w.heap.size, 1, none⟩) (by simp)).trans (by simp [go_sem])
    have hsz : w.heap.size < wr.heap.size := by have := hbl0.size; simp at this; omega
    have Hbl0 := Lib.hid hbl0
    by_cases hlt : k < l.length
    · obtain ⟨b, off, rfl, hb, hcs⟩ := HA.out.resolve_left (fun e => by subst e; simp at hlt)
      obtain ⟨c1, c2, c3, c4⟩ := (hcs.below hb hbl) k hlt
      have hbr : b < wr.heap.size := by omega
      have Hbl := Lib.hid hbl; clear hbl hbl0 hcs a0
      have hs := Hx.out k hlt
      go_wp2_with (first | (go_at_call 45; refine (l1In_any _ _ _ _).mono ?_; rintro e w' ⟨rfl, rfl⟩) | (go_at_call 53; refine (nameValidS_any _ _ hs).mono ?_; rintro e w' ⟨rfl, rfl⟩))
      all_goals first
        | (go_ret; exact ⟨by rw [Hres.out]; rfl, (by (repeat (first | exact Below.refl _ _ | exact Hbl.out | refine Below.ext ?_ (by first | omega | (simp; omega) | simp) | refine Below.setCell ?_ (by first | omega | (simp; omega) | simp) _ | refine Below.alloc ?_ (by first | omega | (simp; omega) | simp) _ | refine Below.drew ?_ | refine below_drewN ?_ _ | refine Below.step (by assumption) (by first | omega | (simp; omega) | simp) ?_)))⟩)
        | (go_roundw
           case rel => exact ⟨k + 1, by omega, by go_num, Below.alloc Hbl0.out (by simp; omega) _⟩
           case measure => simp [intOf]; omega)
    · have Hbl := Lib.hid hbl; clear hbl
      go_wp2_with (first | (go_at_call 45; refine (l1In_any _ _ _ _).mono ?_; rintro e w' ⟨rfl, rfl⟩) | (go_at_call 53; refine (nameValidS_any _ _ (by assumption)).mono ?_; rintro e w' ⟨rfl, rfl⟩))
      go_ret
      exact ⟨by rw [Hres.out]; first | rfl | (simp; try omega), Hbl.out⟩
theorem auditValidS_of (v : Value) (next : Int) (l : List T4) (w : World) (h : Sl4 w v l) (hm : l.length ≤ 1048576) (hx : Txt l) : Calls Try.prog 21 #[.agg #[v, .int .i64 next]] w fun e w' => e = .returned (.bool (audB next l)) ∧ Below w.heap.size w w' := by
  obtain ⟨A, cap, rfl, h1, h2, h3⟩ := h
  cases hin : inB next 0 10000
  · exact auditValidS_out A cap next l w h1 h2 hm hin hx h3
  · exact auditValidS_in A cap next l w h1 h2 hm hin hx h3
theorem lostS_of (v : Value) (next : Int) (l : List T4) (w : World) (h : Sl4 w v l) (hm : l.length ≤ 1048576) (hx : Txt l) : Calls Try.prog 24 #[.agg #[v, .int .i64 next]] w fun e w' => e = .returned (.int .i64 (lostF next l)) ∧ Below w.heap.size w w' := by
  obtain ⟨A, cap, rfl, hsh⟩ := h
  have b1 : Below w.heap.size w (w.alloc (.cells #[.slice A l.length cap, .int .i64 next] 39)) := Below.alloc (Below.refl _ _) (Nat.le_refl _) _
  have h1 : Sl4 (w.alloc (.cells #[.slice A l.length cap, .int .i64 next] 39)) (.slice A l.length cap) l := Sl4.below ⟨A, cap, rfl, hsh⟩ b1
  go_enter Try.func24, Try.ntmps24
  go_wp2_with fail
  refine (auditValidS_of _ next l _ h1 hm hx).mono ?_
  rintro e w2 ⟨rfl, b2⟩
  have c2 := Below.step b2 b1.size b1
  have g0 : w2.cell? ⟨w.heap.size, 0, none⟩ = some (.slice A l.length cap) := (b2.cell (p := ⟨w.heap.size, 0, none⟩) (by simp)).trans (by simp [go_sem])
  have g1 : w2.cell? ⟨w.heap.size, 1, none⟩ = some (.int .i64 next) := (b2.cell (p := ⟨w.heap.size, 1, none⟩) (by simp)).trans (by simp [go_sem])
  cases hok : audB next l
  · have hf : lostF next l = -1 := by unfold lostF; rw [hok]; rfl
    have Hf := Lib.hid hf
    go_wp2
    go_ret
    exact ⟨by rw [Hf.out]; rfl, c2⟩
  · obtain ⟨n0, n1, n2, _⟩ := audB_all hok
    have hf : lostF next l = next - l.length := by unfold lostF; rw [hok]; rfl
    have Hf := Lib.hid hf
    have zw1 : IntKind.i64.wrap (next - l.length) = next - l.length := IntWalk.i64_in _ (by omega)
    clear n2 hf
    go_wp2
    go_ret
    exact ⟨by rw [Hf.out]; rfl, c2⟩
end Go.Proofs.Ytlanbgpmmlnehaa
