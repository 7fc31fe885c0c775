/- The package's NotesOf. -/
import Derived.Test.YtlanbgpmmlnehaaDelF
import Derived.Test.YtlanbgpmmlnehaaCloneN
set_option linter.unusedSimpArgs false
set_option linter.unusedVariables false
set_option linter.unusedSectionVars false
namespace Go.Proofs.Ytlanbgpmmlnehaa
open Go.RowKit

set_option maxHeartbeats 4000000 in
theorem notesI_of (v : Value) (next : Int) (l : List T4) (who : Int) (f : Bool) (w : World) (h : SlG EN w v l) (hx : Txt l) :
    Calls Try.prog 30 #[.agg #[v, .int .i64 next], .int .i64 who, .bool f] w fun e w' => ∃ v', e = .returned v' ∧ RowF EN w.heap.size w' v' (notesF next l who f) ∧ Below w.heap.size w w' := by
  have H := Lib.hid h
  have h1 := fun w h => auditValidI_of v next l w (sl4_of h) hx
  have h2 := fun w h hl => cloneN_of v l w h hl
  obtain ⟨A, cap, rfl⟩ := h.shape
  clear h
  go_enter Try.func30, Try.ntmps30
  go_wp2_with fail
  refine (h1 _ (H.out.below (by (repeat (first | exact Below.refl _ _ | exact Hbl.out | refine Below.ext ?_ (by first | omega | (simp; omega) | simp) | refine Below.setCell ?_ (by first | omega | (simp; omega) | simp) _ | refine Below.alloc ?_ (by first | omega | (simp; omega) | simp) _ | refine Below.drew ?_ | refine below_drewN ?_ _ | refine Below.step (by assumption) (by first | omega | (simp; omega) | simp) ?_))))).mono ?_
  rintro e w1 ⟨rfl, hb⟩
  obtain ⟨d1, os1, rfl⟩ := ext_of_below hb; clear hb
  cases ha : audB next l
  · have hr : notesF next l who f = [] := by unfold notesF; rw [ha]; rfl
    have Hr := Lib.hid hr
    clear hr
    go_wp2
    go_ret
    exact ⟨_, rfl, by rw [Hr.out]; exact rowF_own (ownG_none (T := 49) _ _), (by (repeat (first | exact Below.refl _ _ | exact Hbl.out | refine Below.ext ?_ (by first | omega | (simp; omega) | simp) | refine Below.setCell ?_ (by first | omega | (simp; omega) | simp) _ | refine Below.alloc ?_ (by first | omega | (simp; omega) | simp) _ | refine Below.drew ?_ | refine below_drewN ?_ _ | refine Below.step (by assumption) (by first | omega | (simp; omega) | simp) ?_)))⟩
  · have hr : notesF next l who f = l.filter (keepN who f) := by unfold notesF; rw [ha]; rfl
    have Hr := Lib.hid hr
    have hl : l.length ≤ 1000 := by obtain ⟨_, _, k3, _⟩ := audB_all ha; omega
    clear hr
    go_wp2_with fail
    refine (h2 _ (H.out.below (by (repeat (first | exact Below.refl _ _ | exact Hbl.out | refine Below.ext ?_ (by first | omega | (simp; omega) | simp) | refine Below.setCell ?_ (by first | omega | (simp; omega) | simp) _ | refine Below.alloc ?_ (by first | omega | (simp; omega) | simp) _ | refine Below.drew ?_ | refine below_drewN ?_ _ | refine Below.step (by assumption) (by first | omega | (simp; omega) | simp) ?_)))) hl).mono ?_
    rintro e w2 ⟨v2, rfl, o2, b2⟩
    have p0 : w2.cell? ⟨w.heap.size + 1, 0, none⟩ = some (.int .i64 who) := (b2.cell (p := ⟨w.heap.size + 1, 0, none⟩) (by simp; omega)).trans (by go_simp)
    have q0 : w2.cell? ⟨w.heap.size + 1 + 1, 0, none⟩ = some (.bool f) := (b2.cell (p := ⟨w.heap.size + 1 + 1, 0, none⟩) (by simp; omega)).trans (by go_simp)
    have hz2 : w.heap.size + 3 ≤ w2.heap.size := by have := b2.size; simp at this; omega
    have B2 := Lib.hid (Below.step b2 (by simp; omega) (show Below w.heap.size w _ from (by (repeat (first | exact Below.refl _ _ | exact Hbl.out | refine Below.ext ?_ (by first | omega | (simp; omega) | simp) | refine Below.setCell ?_ (by first | omega | (simp; omega) | simp) _ | refine Below.alloc ?_ (by first | omega | (simp; omega) | simp) _ | refine Below.drew ?_ | refine below_drewN ?_ _ | refine Below.step (by assumption) (by first | omega | (simp; omega) | simp) ?_)))))
    have R2 := Lib.hid (rowF_mono (B' := w.heap.size + 3) (rowF_own o2) (by first | omega | (simp; done) | (simp; omega)))
    obtain ⟨R, hR⟩ : ∃ R, R = w.heap.size + 1 := ⟨_, rfl⟩
    obtain ⟨S, hS⟩ : ∃ S, S = w.heap.size + 1 + 1 := ⟨_, rfl⟩
    rw [← hS] at q0
    rw [← hR] at p0
    have hd := notesDel v2 l who f R S (w.heap.size + 3) w2 R2.out hl p0 q0 (by omega) (by omega) hz2
    have Hd := Lib.hid hd
    subst hR hS
    clear b2 o2 p0 q0 hd
    go_wp2_with fail
    refine Hd.out.mono ?_
    rintro e w3 ⟨v3, rfl, hr3, b3⟩
    have R3 := Lib.hid hr3
    have B3 := Lib.hid b3
    clear hr3 b3
    go_wp2
    go_ret
    exact ⟨_, rfl, by rw [Hr.out]; exact rowF_mono R3.out (by omega), Below.trans B2.out (Below.mono B3.out (by omega))⟩
end Go.Proofs.Ytlanbgpmmlnehaa
