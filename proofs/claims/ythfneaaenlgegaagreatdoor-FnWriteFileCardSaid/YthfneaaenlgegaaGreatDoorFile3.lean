/- ReadFile and PlaceFor of the package; OpenFile in the package and in the reference. -/
import Derived.Test.YthfneaaenlgegaaGreatDoorFile2
set_option linter.unusedSimpArgs false
set_option linter.unusedVariables false
set_option linter.unusedSectionVars false
namespace Go.Proofs.YthfneaaenlgegaaGreatDoor
open Go.RowKit

set_option maxRecDepth 100000 in
set_option maxHeartbeats 4000000 in
theorem readI_of (v : Value) (t : List Nd) (a b c d : Int) (S : ByteArray) (w : World) (hM : MaxL w) (h : TreeR w v t) (ht : t.length ≤ 1000) (hkz : (kidsOf t).length ≤ 1000000) (hs : S.size ≤ 1048576) :
    Calls Tryz.prog 27 #[v, .agg #[.int .i64 a, .int .i64 b, .int .i64 c, .int .i64 d], .string S] w fun e w' => e = .returned (.tuple #[.string (readF t a b c d S.data.toList).1, .int .i64 (readF t a b c d S.data.toList).2]) ∧ Below w.heap.size w w' := by
  have hF := fun w hm h => fileI_of v t a b c d S 4 (by decide) w hm h ht hkz hs
  generalize S.data.toList = s at hF ⊢
  have hy := @file_yes t a b c d 4 s
  have hrg := @findF_range t a b c d s
  obtain ⟨R, hR⟩ : ∃ R, R = readF t a b c d s := ⟨_, rfl⟩
  rw [← hR]
  unfold readF at hR
  generalize fileF t a b c d s 4 = F at hF hy hR
  obtain ⟨n, f⟩ := F
  simp only at hF hy hR
  have HF := Lib.hid hF
  have H := Lib.hid h
  have HM := Lib.hid hM
  obtain ⟨A, cap, rfl⟩ := h.shape
  have hcap := h.caps
  clear h hF hM
  by_cases hf : f = 0
  · subst hf
    rw [if_pos rfl] at hR
    obtain ⟨e1, e2, _, _⟩ := hy rfl
    obtain ⟨_, _, _, g4, g5⟩ := hrg e1
    rw [← e2] at g4 g5
    obtain ⟨m, rfl⟩ : ∃ m : Nat, n = (m : Int) := ⟨n.toNat, by omega⟩
    have hm : m < t.length := by omega
    have hm' : (m : Int) < (t.length : Int) := by omega
    rw [Int.toNat_natCast] at hR
    have HR := Lib.hid hR
    clear hR hrg e1 e2 hy
    go_enter Tryz.func27, Tryz.ntmps27
    go_wp2_with fail
    refine (HF.out _ (HM.out.below (by (repeat (first | exact Below.refl _ _ | exact Hbl.out | refine Below.ext ?_ (by first | omega | (simp; omega) | simp) | refine Below.setCell ?_ (by first | omega | (simp; omega) | simp) _ | refine Below.alloc ?_ (by first | omega | (simp; omega) | simp) _ | refine Below.drew ?_ | refine below_drewN ?_ _ | refine Below.step (by assumption) (by first | omega | (simp; omega) | simp) ?_)))) (H.out.below (by (repeat (first | exact Below.refl _ _ | exact Hbl.out | refine Below.ext ?_ (by first | omega | (simp; omega) | simp) | refine Below.setCell ?_ (by first | omega | (simp; omega) | simp) _ | refine Below.alloc ?_ (by first | omega | (simp; omega) | simp) _ | refine Below.drew ?_ | refine below_drewN ?_ _ | refine Below.step (by assumption) (by first | omega | (simp; omega) | simp) ?_))))).mono ?_
    rintro e w1 ⟨rfl, b1⟩
    have B1 := Lib.hid (Below.step b1 (by simp) (show Below w.heap.size w _ from (by (repeat (first | exact Below.refl _ _ | exact Hbl.out | refine Below.ext ?_ (by first | omega | (simp; omega) | simp) | refine Below.setCell ?_ (by first | omega | (simp; omega) | simp) _ | refine Below.alloc ?_ (by first | omega | (simp; omega) | simp) _ | refine Below.drew ?_ | refine below_drewN ?_ _ | refine Below.step (by assumption) (by first | omega | (simp; omega) | simp) ?_)))))
    clear b1
    obtain ⟨bt, ot, nA, nC, kA, kC, rfl, hbt, _, y0, y1, y2, y3, y4, y5, y6⟩ := (H.out.below B1.out).at_ (kth_at hm)
    go_wp2
    go_ret2
    exact ⟨by rw [HR.out]; rfl, B1.out⟩
  · rw [if_neg hf] at hR
    have HR := Lib.hid hR
    clear hR hrg hy
    go_enter Tryz.func27, Tryz.ntmps27
    go_wp2_with fail
    refine (HF.out _ (HM.out.below (by (repeat (first | exact Below.refl _ _ | exact Hbl.out | refine Below.ext ?_ (by first | omega | (simp; omega) | simp) | refine Below.setCell ?_ (by first | omega | (simp; omega) | simp) _ | refine Below.alloc ?_ (by first | omega | (simp; omega) | simp) _ | refine Below.drew ?_ | refine below_drewN ?_ _ | refine Below.step (by assumption) (by first | omega | (simp; omega) | simp) ?_)))) (H.out.below (by (repeat (first | exact Below.refl _ _ | exact Hbl.out | refine Below.ext ?_ (by first | omega | (simp; omega) | simp) | refine Below.setCell ?_ (by first | omega | (simp; omega) | simp) _ | refine Below.alloc ?_ (by first | omega | (simp; omega) | simp) _ | refine Below.drew ?_ | refine below_drewN ?_ _ | refine Below.step (by assumption) (by first | omega | (simp; omega) | simp) ?_))))).mono ?_
    rintro e w1 ⟨rfl, b1⟩
    have B1 := Lib.hid (Below.step b1 (by simp) (show Below w.heap.size w _ from (by (repeat (first | exact Below.refl _ _ | exact Hbl.out | refine Below.ext ?_ (by first | omega | (simp; omega) | simp) | refine Below.setCell ?_ (by first | omega | (simp; omega) | simp) _ | refine Below.alloc ?_ (by first | omega | (simp; omega) | simp) _ | refine Below.drew ?_ | refine below_drewN ?_ _ | refine Below.step (by assumption) (by first | omega | (simp; omega) | simp) ?_)))))
    clear b1
    go_wp2
    go_ret2
    exact ⟨by rw [HR.out]; rfl, B1.out⟩
end Go.Proofs.YthfneaaenlgegaaGreatDoor
