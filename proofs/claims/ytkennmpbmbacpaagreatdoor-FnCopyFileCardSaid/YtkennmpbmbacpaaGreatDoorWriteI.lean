/- The package's WriteFile. -/
import Derived.Test.YtkennmpbmbacpaaGreatDoorFile2
import Derived.Test.YtkennmpbmbacpaaGreatDoorCopyI
import Derived.Test.YtkennmpbmbacpaaGreatDoorWriteS
set_option linter.unusedSimpArgs false
set_option linter.unusedVariables false
set_option linter.unusedSectionVars false
namespace Go.Proofs.YtkennmpbmbacpaaGreatDoor
open Go.RowKit

set_option maxRecDepth 100000 in
set_option maxHeartbeats 8000000 in
theorem writeI_of (v : Value) (t : List Nd) (a b c d : Int) (S X : ByteArray) (w : World) (hM : MaxL w) (h : TreeR w v t) (ht : t.length ≤ 1000) (hkz : (kidsOf t).length ≤ 1000000) (hs : S.size ≤ 1048576) :
    Calls Tryz.prog 81 #[v, .agg #[.int .i64 a, .int .i64 b, .int .i64 c, .int .i64 d], .string S, .string X] w fun e w' => ∃ v' cs, e = .returned (.tuple #[v', .int .i64 (writeF t a b c d S.data.toList X).2]) ∧ TreeC w.heap.size w' v' cs (writeF t a b c d S.data.toList X).1 ∧ Below w.heap.size w w' := by
  have hF := fun w hm h => fileI_of v t a b c d S 2 (by decide) w hm h ht hkz hs
  obtain ⟨R, hR⟩ : ∃ R, R = writeF t a b c d S.data.toList X := ⟨_, rfl⟩
  rw [← hR]
  unfold writeF at hR
  generalize S.data.toList = s at hF hR
  have hyes := @file_yes t a b c d 2 s
  have hrg := @findF_range t a b c d s
  generalize fileF t a b c d s 2 = F at hF hR hyes
  generalize findF t a b c d s = G at hR hyes hrg
  obtain ⟨n, f⟩ := F
  obtain ⟨n', f'⟩ := G
  simp only at hF hR hyes hrg
  have HF := Lib.hid hF
  have H := Lib.hid h
  have HM := Lib.hid hM
  have hC := fun w h hf => copyI_of v t w h ht hf
  have HC := Lib.hid hC
  obtain ⟨A, cap, rfl⟩ := h.shape
  have hcap := h.caps
  clear h hF hM hC
  by_cases hf : f = 0
  · subst hf
    rw [if_pos rfl] at hR
    obtain ⟨e1, e2, _, _⟩ := hyes rfl
    subst e1 e2
    obtain ⟨g1, _, _, g4, g5⟩ := hrg rfl
    obtain ⟨m, rfl⟩ : ∃ m : Nat, n = (m : Int) := ⟨n.toNat, by omega⟩
    have hm : m < t.length := by omega
    have hm' : (m : Int) < (t.length : Int) := by omega
    rw [Int.toNat_natCast] at hR
    have Few1 := Lib.hid (few_of g1 hkz)
    clear hrg hyes g1
    by_cases hX : X.size ≤ 40
    · rw [if_pos hX] at hR
      have hx1 : ¬ (40 : Int) < (X.size : Int) := by omega
      have HR := Lib.hid hR
      clear hR
      go_enter Tryz.func81, Tryz.ntmps81
      go_wp2_with fail
      refine (HF.out _ (HM.out.below (by (repeat (first | exact Below.refl _ _ | exact Hbl.out | refine Below.ext ?_ (by first | omega | (simp; omega) | simp) | refine Below.setCell ?_ (by first | omega | (simp; omega) | simp) _ | refine Below.alloc ?_ (by first | omega | (simp; omega) | simp) _ | refine Below.drew ?_ | refine below_drewN ?_ _ | refine Below.step (by assumption) (by first | omega | (simp; omega) | simp) ?_)))) (H.out.below (by (repeat (first | exact Below.refl _ _ | exact Hbl.out | refine Below.ext ?_ (by first | omega | (simp; omega) | simp) | refine Below.setCell ?_ (by first | omega | (simp; omega) | simp) _ | refine Below.alloc ?_ (by first | omega | (simp; omega) | simp) _ | refine Below.drew ?_ | refine below_drewN ?_ _ | refine Below.step (by assumption) (by first | omega | (simp; omega) | simp) ?_))))).mono ?_
      rintro e w1 ⟨rfl, b1⟩
      have B4 := Lib.hid (Below.step b1 (by simp) (show Below w.heap.size w _ from (by (repeat (first | exact Below.refl _ _ | exact Hbl.out | refine Below.ext ?_ (by first | omega | (simp; omega) | simp) | refine Below.setCell ?_ (by first | omega | (simp; omega) | simp) _ | refine Below.alloc ?_ (by first | omega | (simp; omega) | simp) _ | refine Below.drew ?_ | refine below_drewN ?_ _ | refine Below.step (by assumption) (by first | omega | (simp; omega) | simp) ?_)))))
      clear b1
      go_wp2_with fail
      refine (HC.out _ (H.out.below B4.out) Few1.out).mono ?_
      rintro e w5 ⟨v5, cs, rfl, hT5, b5⟩
      obtain ⟨A5, c5, rfl⟩ := TreeO.shape ⟨cs, hT5⟩
      obtain ⟨g5, cc, rfl, hg5, hg5', _, _, _, q0, q1, q2, q3, q4, q5, q6, fz⟩ := hT5.at_ hm
      have fz4 := fz (m * 7 + 4)
      obtain ⟨cs', hT6⟩ := hT5.text hm hX
      have hz4 := B4.out.size
      have HT6 := Lib.hid (hT6.mono hz4)
      have HB6 := Lib.hid (show Below w.heap.size w (w5.setCell ⟨g5, m * 7 + 4, none⟩ (.string X)) from Below.setCell (Below.step b5 hz4 B4.out) (Nat.le_trans hz4 hg5) _)
      clear hT5 hT6 b5 fz
      go_wp2
      go_ret2
      rw [HR.out]
      exact ⟨_, cs', rfl, HT6.out, HB6.out⟩
    · rw [if_neg hX] at hR
      have hx1 : (40 : Int) < (X.size : Int) := by omega
      have HR := Lib.hid hR
      clear hR
      go_enter Tryz.func81, Tryz.ntmps81
      go_wp2_with fail
      refine (HF.out _ (HM.out.below (by (repeat (first | exact Below.refl _ _ | exact Hbl.out | refine Below.ext ?_ (by first | omega | (simp; omega) | simp) | refine Below.setCell ?_ (by first | omega | (simp; omega) | simp) _ | refine Below.alloc ?_ (by first | omega | (simp; omega) | simp) _ | refine Below.drew ?_ | refine below_drewN ?_ _ | refine Below.step (by assumption) (by first | omega | (simp; omega) | simp) ?_)))) (H.out.below (by (repeat (first | exact Below.refl _ _ | exact Hbl.out | refine Below.ext ?_ (by first | omega | (simp; omega) | simp) | refine Below.setCell ?_ (by first | omega | (simp; omega) | simp) _ | refine Below.alloc ?_ (by first | omega | (simp; omega) | simp) _ | refine Below.drew ?_ | refine below_drewN ?_ _ | refine Below.step (by assumption) (by first | omega | (simp; omega) | simp) ?_))))).mono ?_
      rintro e w1 ⟨rfl, b1⟩
      have B4 := Lib.hid (Below.step b1 (by simp) (show Below w.heap.size w _ from (by (repeat (first | exact Below.refl _ _ | exact Hbl.out | refine Below.ext ?_ (by first | omega | (simp; omega) | simp) | refine Below.setCell ?_ (by first | omega | (simp; omega) | simp) _ | refine Below.alloc ?_ (by first | omega | (simp; omega) | simp) _ | refine Below.drew ?_ | refine below_drewN ?_ _ | refine Below.step (by assumption) (by first | omega | (simp; omega) | simp) ?_)))))
      clear b1
      go_wp2
      go_ret2
      rw [HR.out]
      exact ⟨_, [], rfl, treeC_empty (ownG_none _ _), B4.out⟩
  · rw [if_neg hf] at hR
    have d1 : (f != 0) = true := by simpa using hf
    have HR := Lib.hid hR
    clear hR hrg hyes
    go_enter Tryz.func81, Tryz.ntmps81
    go_wp2_with fail
    refine (HF.out _ (HM.out.below (by (repeat (first | exact Below.refl _ _ | exact Hbl.out | refine Below.ext ?_ (by first | omega | (simp; omega) | simp) | refine Below.setCell ?_ (by first | omega | (simp; omega) | simp) _ | refine Below.alloc ?_ (by first | omega | (simp; omega) | simp) _ | refine Below.drew ?_ | refine below_drewN ?_ _ | refine Below.step (by assumption) (by first | omega | (simp; omega) | simp) ?_)))) (H.out.below (by (repeat (first | exact Below.refl _ _ | exact Hbl.out | refine Below.ext ?_ (by first | omega | (simp; omega) | simp) | refine Below.setCell ?_ (by first | omega | (simp; omega) | simp) _ | refine Below.alloc ?_ (by first | omega | (simp; omega) | simp) _ | refine Below.drew ?_ | refine below_drewN ?_ _ | refine Below.step (by assumption) (by first | omega | (simp; omega) | simp) ?_))))).mono ?_
    rintro e w1 ⟨rfl, b1⟩
    have B4 := Lib.hid (Below.step b1 (by simp) (show Below w.heap.size w _ from (by (repeat (first | exact Below.refl _ _ | exact Hbl.out | refine Below.ext ?_ (by first | omega | (simp; omega) | simp) | refine Below.setCell ?_ (by first | omega | (simp; omega) | simp) _ | refine Below.alloc ?_ (by first | omega | (simp; omega) | simp) _ | refine Below.drew ?_ | refine below_drewN ?_ _ | refine Below.step (by assumption) (by first | omega | (simp; omega) | simp) ?_)))))
    clear b1
    go_wp2
    go_ret2
    rw [HR.out]
    exact ⟨_, [], rfl, treeC_empty (ownG_none _ _), B4.out⟩
end Go.Proofs.YtkennmpbmbacpaaGreatDoor
