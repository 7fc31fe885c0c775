/- The package's DropName. -/
import Derived.Test.YtkennmpbmbacpaaGreatDoorDropN
import Derived.Test.YtkennmpbmbacpaaGreatDoorDropL
import Derived.Test.YtkennmpbmbacpaaGreatDoorMayDrop
import Derived.Test.YtkennmpbmbacpaaGreatDoorFile3
import Derived.Test.YtkennmpbmbacpaaGreatDoorCopyI
set_option linter.unusedSimpArgs false
set_option linter.unusedVariables false
set_option linter.unusedSectionVars false
namespace Go.Proofs.YtkennmpbmbacpaaGreatDoor
open Go.RowKit

set_option maxRecDepth 100000 in
set_option maxHeartbeats 1000000 in
theorem dropNI_of (v : Value) (t : List Nd) (a b c d : Int) (S : ByteArray) (w : World) (hM : MaxL w) (h : TreeR w v t) (ht : t.length ≤ 1000) (hkz : (kidsOf t).length ≤ 1000000) (hs : S.size ≤ 1048576) :
    Calls Tryz.prog 11 #[v, .agg #[.int .i64 a, .int .i64 b, .int .i64 c, .int .i64 d], .string S] w fun e w' => ∃ v', e = .returned (.tuple #[v', .int .i64 (dropF t a b c d S.data.toList).2]) ∧ TreeO w.heap.size w' v' (dropF t a b c d S.data.toList).1 ∧ Below w.heap.size w w' := by
  have hD := fun w hm h => dropI_of v t a b c d S w hm h ht hkz hs
  have hU := fun w hm h => upI_of v t a b c d S w hm h ht hkz hs
  have hC := fun w h hf => copyI_of v t w h ht hf
  have hdp := @drop_parts t a b c d S.data.toList
  have hno := @drop_no t a b c d S.data.toList
  have hdy := @dropOf_yes t a b c d S.data.toList false
  obtain ⟨R, hR⟩ : ∃ R, R = dropF t a b c d S.data.toList := ⟨_, rfl⟩
  rw [← hR] at hdp hno ⊢
  generalize dropOf t a b c d S.data.toList false = D at hD hdp hno hdy
  have H := Lib.hid h
  have HM := Lib.hid hM
  have HD := Lib.hid hD
  have HC := Lib.hid hC
  obtain ⟨A, cap, rfl⟩ := h.shape
  clear h hD hC hM hR
  go_enter Tryz.func11, Tryz.ntmps11
  go_wp2_with fail
  refine (HD.out _ (HM.out.below (by (repeat (first | exact Below.refl _ _ | exact Hbl.out | refine Below.ext ?_ (by first | omega | (simp; omega) | simp) | refine Below.setCell ?_ (by first | omega | (simp; omega) | simp) _ | refine Below.alloc ?_ (by first | omega | (simp; omega) | simp) _ | refine Below.drew ?_ | refine below_drewN ?_ _ | refine Below.step (by assumption) (by first | omega | (simp; omega) | simp) ?_)))) (H.out.below (by (repeat (first | exact Below.refl _ _ | exact Hbl.out | refine Below.ext ?_ (by first | omega | (simp; omega) | simp) | refine Below.setCell ?_ (by first | omega | (simp; omega) | simp) _ | refine Below.alloc ?_ (by first | omega | (simp; omega) | simp) _ | refine Below.drew ?_ | refine below_drewN ?_ _ | refine Below.step (by assumption) (by first | omega | (simp; omega) | simp) ?_))))).mono ?_
  rintro e w1 ⟨rfl, b1⟩
  have q0 : w1.cell? ⟨w.heap.size, 0, none⟩ = some (.int .i64 a) := (b1.cell (p := ⟨w.heap.size, 0, none⟩) (by first | (simp; done) | (simp; omega) | omega)).trans (by first | assumption | go_simp)
  have q1 : w1.cell? ⟨w.heap.size, 1, none⟩ = some (.int .i64 b) := (b1.cell (p := ⟨w.heap.size, 1, none⟩) (by first | (simp; done) | (simp; omega) | omega)).trans (by first | assumption | go_simp)
  have q2 : w1.cell? ⟨w.heap.size, 2, none⟩ = some (.int .i64 c) := (b1.cell (p := ⟨w.heap.size, 2, none⟩) (by first | (simp; done) | (simp; omega) | omega)).trans (by first | assumption | go_simp)
  have q3 : w1.cell? ⟨w.heap.size, 3, none⟩ = some (.int .i64 d) := (b1.cell (p := ⟨w.heap.size, 3, none⟩) (by first | (simp; done) | (simp; omega) | omega)).trans (by first | assumption | go_simp)
  have hzw : w.heap.size < w1.heap.size := by have := b1.size; simp at this; omega
  have B1 := Lib.hid (Below.step b1 (by simp) (show Below w.heap.size w _ from (by (repeat (first | exact Below.refl _ _ | exact Hbl.out | refine Below.ext ?_ (by first | omega | (simp; omega) | simp) | refine Below.setCell ?_ (by first | omega | (simp; omega) | simp) _ | refine Below.alloc ?_ (by first | omega | (simp; omega) | simp) _ | refine Below.drew ?_ | refine below_drewN ?_ _ | refine Below.step (by assumption) (by first | omega | (simp; omega) | simp) ?_)))))
  clear b1 HD
  by_cases hd0 : D = 0
  · subst hd0
    obtain ⟨m, k, e1, hm, hv, -, -, -, -, -, hk, hk1, hkl, hsm, -, -, -, hr⟩ := hdp rfl
    obtain ⟨u2, -, -⟩ := hdy rfl
    rw [e1, u2, if_pos rfl] at hU
    generalize lastF S.data.toList = sp at hU hk hsm hr
    have HU := Lib.hid hU
    have Hr := Lib.hid hr
    have Hk := Lib.hid hk
    have Hv := Lib.hid hv
    have Hsm := Lib.hid hsm
    have Few1 := Lib.hid (few_of hv hkz)
    clear hU hdp hno hdy e1 hv hk hsm hr u2
    go_wp2_with fail
    refine (HU.out _ (HM.out.below B1.out) (H.out.below B1.out)).mono ?_
    rintro e w2 ⟨rfl, b2⟩
    have B2 := Lib.hid (Below.step b2 B1.out.size B1.out)
    clear b2 q0 q1 q2 q3
    go_wp2_with fail
    refine (HC.out _ (H.out.below B2.out) Few1.out).mono ?_
    rintro e W ⟨v6, cs, rfl, hT, b6⟩
    obtain ⟨A6, k6, rfl⟩ := (show TreeO _ W v6 t from ⟨cs, hT⟩).shape
    obtain ⟨g, -, rfl, hgB, -⟩ := hT.at_ hm
    have hDN := Lib.hid (dropNameI_of g k6 m k w2.heap.size cs t sp W hT Hv.out hm Hsm.out Hk.out hkl b6.size hkz)
    have B6 := Lib.hid (Below.step b6 B2.out.size B2.out)
    have hz2 := B2.out.size
    clear hT b6
    go_wp2_with fail
    refine hDN.out.mono ?_
    rintro e w8 ⟨v8, rfl, hT8, b8⟩
    have HT8 := Lib.hid (hT8.mono hz2)
    have B8 := Lib.hid (Below.trans B6.out (b8.mono hz2))
    clear hT8 b8
    go_wp2
    go_ret2
    exact ⟨_, by rw [Hr.out]; rfl, by rw [Hr.out]; exact HT8.out, B8.out⟩
  · have d1 : (D != 0) = true := by simpa using hd0
    have Hr := Lib.hid (hno hd0)
    clear hdp hno hdy hU
    go_wp2
    go_ret2
    exact ⟨_, by rw [Hr.out]; rfl, by rw [Hr.out]; exact ⟨[], treeC_empty (ownG_none _ _)⟩, B1.out⟩
end Go.Proofs.YtkennmpbmbacpaaGreatDoor
