/- ChangeMode, in the package and in the reference. -/
import Derived.Test.YthfneaaenlgegaaGreatDoorFile
import Derived.Test.YthfneaaenlgegaaGreatDoorCopyI
import Derived.Test.YthfneaaenlgegaaGreatDoorOwnP
import Derived.Deep.QuietTactic
set_option linter.unusedSimpArgs false
set_option linter.unusedVariables false
set_option linter.unusedSectionVars false
namespace Go.Proofs.YthfneaaenlgegaaGreatDoor
open Go.RowKit

theorem isModeX_any (n : Int) (w : World) : Calls Tryz.prog 33 #[.int .i64 n] w fun e w' => e = .returned (.bool (inB n 0 1023)) ∧ w = w' := by
  go_enter Tryz.func33, Tryz.ntmps33
  go_wp2_with (go_at_call 52; refine (within_any _ _ _ _).mono ?_; rintro e w' ⟨rfl, rfl⟩)
  go_ret
  exact ⟨rfl, rfl⟩
set_option maxRecDepth 100000 in
set_option maxHeartbeats 8000000 in
theorem modeI_of (v : Value) (t : List Nd) (a b c d mo : Int) (S : ByteArray) (w : World) (hM : MaxL w) (h : TreeR w v t) (ht : t.length ≤ 1000) (hkz : (kidsOf t).length ≤ 1000000) (hs : S.size ≤ 1048576) :
    Calls Tryz.prog 8 #[v, .agg #[.int .i64 a, .int .i64 b, .int .i64 c, .int .i64 d], .string S, .int .i64 mo] w fun e w' => ∃ v' cs, e = .returned (.tuple #[v', .int .i64 (modeF t a b c d S.data.toList mo).2]) ∧ TreeC w.heap.size w' v' cs (modeF t a b c d S.data.toList mo).1 ∧ Below w.heap.size w w' := by
  have hF := fun w hm h => findI_of v t a b c d S w hm h ht hkz hs
  obtain ⟨R, hR⟩ : ∃ R, R = modeF t a b c d S.data.toList mo := ⟨_, rfl⟩
  rw [← hR]
  unfold modeF at hR
  generalize S.data.toList = s at hF hR
  have hrg := @findF_range t a b c d s
  generalize findF t a b c d s = F at hF hrg hR
  obtain ⟨n, f⟩ := F
  simp only at hF hrg hR
  have HF := Lib.hid hF
  have H := Lib.hid h
  have HM := Lib.hid hM
  have hC := fun w h hf => copyI_of v t w h ht hf
  have HC := Lib.hid hC
  obtain ⟨A, cap, rfl⟩ := h.shape
  have hcap := h.caps
  clear h hF hM hC
  cases hmo : inB mo 0 1023
  · rw [if_pos hmo] at hR
    have HR := Lib.hid hR
    clear hR hrg
    go_enter Tryz.func8, Tryz.ntmps8
    go_wp2_with fail
    refine (HF.out _ (HM.out.below (by (repeat (first | exact Below.refl _ _ | exact Hbl.out | refine Below.ext ?_ (by first | omega | (simp; omega) | simp) | refine Below.setCell ?_ (by first | omega | (simp; omega) | simp) _ | refine Below.alloc ?_ (by first | omega | (simp; omega) | simp) _ | refine Below.drew ?_ | refine below_drewN ?_ _ | refine Below.step (by assumption) (by first | omega | (simp; omega) | simp) ?_)))) (H.out.below (by (repeat (first | exact Below.refl _ _ | exact Hbl.out | refine Below.ext ?_ (by first | omega | (simp; omega) | simp) | refine Below.setCell ?_ (by first | omega | (simp; omega) | simp) _ | refine Below.alloc ?_ (by first | omega | (simp; omega) | simp) _ | refine Below.drew ?_ | refine below_drewN ?_ _ | refine Below.step (by assumption) (by first | omega | (simp; omega) | simp) ?_))))).mono ?_
    rintro e w1 ⟨rfl, b1⟩
    have p1 : w1.cell? ⟨w.heap.size, 1, none⟩ = some (.int .i64 b) := (b1.cell (p := ⟨w.heap.size, 1, none⟩) (by simp)).trans (by go_simp)
    have hz1 : w.heap.size < w1.heap.size := by have := b1.size; simp at this; omega
    have B1 := Lib.hid (Below.step b1 (by simp) (show Below w.heap.size w _ from (by (repeat (first | exact Below.refl _ _ | exact Hbl.out | refine Below.ext ?_ (by first | omega | (simp; omega) | simp) | refine Below.setCell ?_ (by first | omega | (simp; omega) | simp) _ | refine Below.alloc ?_ (by first | omega | (simp; omega) | simp) _ | refine Below.drew ?_ | refine below_drewN ?_ _ | refine Below.step (by assumption) (by first | omega | (simp; omega) | simp) ?_)))))
    clear b1
    go_wp2_with (go_at_call 33; refine (isModeX_any _ _).mono ?_; rintro e w' ⟨rfl, rfl⟩)
    go_ret2
    rw [HR.out]
    exact ⟨_, [], rfl, treeC_empty (by first | exact ownG_none _ _ | exact ownG_empty _ (by first | rfl | (simp; done)) (by first | exact B1.out.size | (simp; have := B1.out.size; omega))), Below.step (show Below w1.heap.size w1 _ from (by (repeat (first | exact Below.refl _ _ | exact Hbl.out | refine Below.ext ?_ (by first | omega | (simp; omega) | simp) | refine Below.setCell ?_ (by first | omega | (simp; omega) | simp) _ | refine Below.alloc ?_ (by first | omega | (simp; omega) | simp) _ | refine Below.drew ?_ | refine below_drewN ?_ _ | refine Below.step (by assumption) (by first | omega | (simp; omega) | simp) ?_)))) B1.out.size B1.out⟩
  · rw [if_neg (show ¬ inB mo 0 1023 = false by rw [hmo]; simp)] at hR
    by_cases hf : f = 0
    · subst hf
      rw [if_neg (show ¬ ¬ (0 : Int) = 0 by simp)] at hR
      obtain ⟨g1, g2, _, g4, g5⟩ := hrg rfl
      obtain ⟨m, rfl⟩ : ∃ m : Nat, n = (m : Int) := ⟨n.toNat, by omega⟩
      have hm : m < t.length := by omega
      have hm' : (m : Int) < (t.length : Int) := by omega
      rw [Int.toNat_natCast] at hR
      have Few1 := Lib.hid (few_of g1 hkz)
      clear hrg g1 g2
      by_cases hno : ¬ b = 0 ∧ ¬ b = (kth t m).ow
      · rw [if_pos hno] at hR
        have d1 : (b != 0) = true := by simpa using hno.1
        have d2 : (b != (kth t m).ow) = true := by simpa using hno.2
        have HR := Lib.hid hR
        clear hR hno
        go_enter Tryz.func8, Tryz.ntmps8
        go_wp2_with fail
        refine (HF.out _ (HM.out.below (by (repeat (first | exact Below.refl _ _ | exact Hbl.out | refine Below.ext ?_ (by first | omega | (simp; omega) | simp) | refine Below.setCell ?_ (by first | omega | (simp; omega) | simp) _ | refine Below.alloc ?_ (by first | omega | (simp; omega) | simp) _ | refine Below.drew ?_ | refine below_drewN ?_ _ | refine Below.step (by assumption) (by first | omega | (simp; omega) | simp) ?_)))) (H.out.below (by (repeat (first | exact Below.refl _ _ | exact Hbl.out | refine Below.ext ?_ (by first | omega | (simp; omega) | simp) | refine Below.setCell ?_ (by first | omega | (simp; omega) | simp) _ | refine Below.alloc ?_ (by first | omega | (simp; omega) | simp) _ | refine Below.drew ?_ | refine below_drewN ?_ _ | refine Below.step (by assumption) (by first | omega | (simp; omega) | simp) ?_))))).mono ?_
        rintro e w1 ⟨rfl, b1⟩
        have p1 : w1.cell? ⟨w.heap.size, 1, none⟩ = some (.int .i64 b) := (b1.cell (p := ⟨w.heap.size, 1, none⟩) (by simp)).trans (by go_simp)
        have hz1 : w.heap.size < w1.heap.size := by have := b1.size; simp at this; omega
        have B1 := Lib.hid (Below.step b1 (by simp) (show Below w.heap.size w _ from (by (repeat (first | exact Below.refl _ _ | exact Hbl.out | refine Below.ext ?_ (by first | omega | (simp; omega) | simp) | refine Below.setCell ?_ (by first | omega | (simp; omega) | simp) _ | refine Below.alloc ?_ (by first | omega | (simp; omega) | simp) _ | refine Below.drew ?_ | refine below_drewN ?_ _ | refine Below.step (by assumption) (by first | omega | (simp; omega) | simp) ?_)))))
        clear b1
        obtain ⟨bt, ot, nA, nC, kA, kC, rfl, hbt, _, _, y1, _⟩ := (H.out.below B1.out).at_ (kth_at hm)
        go_wp2_with (go_at_call 33; refine (isModeX_any _ _).mono ?_; rintro e w' ⟨rfl, rfl⟩)
        go_quiet (fail)
        go_wp2
        go_ret2
        rw [HR.out]
        exact ⟨_, [], rfl, treeC_empty (by first | exact ownG_none _ _ | exact ownG_empty _ (by first | rfl | (simp; done)) (by first | exact B1.out.size | (simp; have := B1.out.size; omega))), Below.step (show Below w1.heap.size w1 _ from (by (repeat (first | exact Below.refl _ _ | exact Hbl.out | refine Below.ext ?_ (by first | omega | (simp; omega) | simp) | refine Below.setCell ?_ (by first | omega | (simp; omega) | simp) _ | refine Below.alloc ?_ (by first | omega | (simp; omega) | simp) _ | refine Below.drew ?_ | refine below_drewN ?_ _ | refine Below.step (by assumption) (by first | omega | (simp; omega) | simp) ?_)))) B1.out.size B1.out⟩
      · rw [if_neg hno] at hR
        have hd : (b != 0) = false ∨ ((b != 0) = true ∧ (b != (kth t m).ow) = false) := by
          by_cases h0 : b = 0
          · exact .inl (by simp [h0])
          · exact .inr ⟨by simpa using h0, by simp; exact Classical.byContradiction (fun h => hno ⟨h0, h⟩)⟩
        have HR := Lib.hid hR
        clear hR hno
        rcases hd with d1 | ⟨d1, d2⟩
        all_goals
          go_enter Tryz.func8, Tryz.ntmps8
          go_wp2_with fail
          refine (HF.out _ (HM.out.below (by (repeat (first | exact Below.refl _ _ | exact Hbl.out | refine Below.ext ?_ (by first | omega | (simp; omega) | simp) | refine Below.setCell ?_ (by first | omega | (simp; omega) | simp) _ | refine Below.alloc ?_ (by first | omega | (simp; omega) | simp) _ | refine Below.drew ?_ | refine below_drewN ?_ _ | refine Below.step (by assumption) (by first | omega | (simp; omega) | simp) ?_)))) (H.out.below (by (repeat (first | exact Below.refl _ _ | exact Hbl.out | refine Below.ext ?_ (by first | omega | (simp; omega) | simp) | refine Below.setCell ?_ (by first | omega | (simp; omega) | simp) _ | refine Below.alloc ?_ (by first | omega | (simp; omega) | simp) _ | refine Below.drew ?_ | refine below_drewN ?_ _ | refine Below.step (by assumption) (by first | omega | (simp; omega) | simp) ?_))))).mono ?_
          rintro e w1 ⟨rfl, b1⟩
          have p1 : w1.cell? ⟨w.heap.size, 1, none⟩ = some (.int .i64 b) := (b1.cell (p := ⟨w.heap.size, 1, none⟩) (by simp)).trans (by go_simp)
          have hz1 : w.heap.size < w1.heap.size := by have := b1.size; simp at this; omega
          have B1 := Lib.hid (Below.step b1 (by simp) (show Below w.heap.size w _ from (by (repeat (first | exact Below.refl _ _ | exact Hbl.out | refine Below.ext ?_ (by first | omega | (simp; omega) | simp) | refine Below.setCell ?_ (by first | omega | (simp; omega) | simp) _ | refine Below.alloc ?_ (by first | omega | (simp; omega) | simp) _ | refine Below.drew ?_ | refine below_drewN ?_ _ | refine Below.step (by assumption) (by first | omega | (simp; omega) | simp) ?_)))))
          clear b1
          obtain ⟨bt, ot, nA, nC, kA, kC, rfl, hbt, _, _, y1, _⟩ := (H.out.below B1.out).at_ (kth_at hm)
          go_wp2_with (go_at_call 33; refine (isModeX_any _ _).mono ?_; rintro e w' ⟨rfl, rfl⟩)
          go_quiet (fail)
          have B4 := Lib.hid (Below.step (below_drewN (Below.refl w1.heap.size w1) nq) B1.out.size B1.out)
          generalize w1.drewN nq = W4 at B4 ⊢
          go_wp2_with fail
          refine (HC.out _ (H.out.below B4.out) Few1.out).mono ?_
          rintro e w5 ⟨v5, cs, rfl, hT5, b5⟩
          obtain ⟨A5, c5, rfl⟩ := TreeO.shape ⟨cs, hT5⟩
          obtain ⟨g5, cc, rfl, hg5, hg5', _, _, _, q0, q1, q2, q3, q4, q5, q6, fz⟩ := hT5.at_ hm
          have fz3 := fz (m * 7 + 3)
          obtain ⟨cs', hT6⟩ := hT5.mode (m := mo) hm
          have hz4 := B4.out.size
          have HT6 := Lib.hid (hT6.mono hz4)
          have HB6 := Lib.hid (show Below w.heap.size w (w5.setCell ⟨g5, m * 7 + 3, none⟩ (.int .i64 mo)) from Below.setCell (Below.step b5 hz4 B4.out) (Nat.le_trans hz4 hg5) _)
          clear hT5 hT6 b5 fz
          go_wp2
          go_ret2
          rw [HR.out]
          exact ⟨_, cs', rfl, HT6.out, HB6.out⟩
    · rw [if_pos hf] at hR
      have d1 : (f != 0) = true := by simpa using hf
      have HR := Lib.hid hR
      clear hR hrg
      go_enter Tryz.func8, Tryz.ntmps8
      go_wp2_with fail
      refine (HF.out _ (HM.out.below (by (repeat (first | exact Below.refl _ _ | exact Hbl.out | refine Below.ext ?_ (by first | omega | (simp; omega) | simp) | refine Below.setCell ?_ (by first | omega | (simp; omega) | simp) _ | refine Below.alloc ?_ (by first | omega | (simp; omega) | simp) _ | refine Below.drew ?_ | refine below_drewN ?_ _ | refine Below.step (by assumption) (by first | omega | (simp; omega) | simp) ?_)))) (H.out.below (by (repeat (first | exact Below.refl _ _ | exact Hbl.out | refine Below.ext ?_ (by first | omega | (simp; omega) | simp) | refine Below.setCell ?_ (by first | omega | (simp; omega) | simp) _ | refine Below.alloc ?_ (by first | omega | (simp; omega) | simp) _ | refine Below.drew ?_ | refine below_drewN ?_ _ | refine Below.step (by assumption) (by first | omega | (simp; omega) | simp) ?_))))).mono ?_
      rintro e w1 ⟨rfl, b1⟩
      have p1 : w1.cell? ⟨w.heap.size, 1, none⟩ = some (.int .i64 b) := (b1.cell (p := ⟨w.heap.size, 1, none⟩) (by simp)).trans (by go_simp)
      have hz1 : w.heap.size < w1.heap.size := by have := b1.size; simp at this; omega
      have B1 := Lib.hid (Below.step b1 (by simp) (show Below w.heap.size w _ from (by (repeat (first | exact Below.refl _ _ | exact Hbl.out | refine Below.ext ?_ (by first | omega | (simp; omega) | simp) | refine Below.setCell ?_ (by first | omega | (simp; omega) | simp) _ | refine Below.alloc ?_ (by first | omega | (simp; omega) | simp) _ | refine Below.drew ?_ | refine below_drewN ?_ _ | refine Below.step (by assumption) (by first | omega | (simp; omega) | simp) ?_)))))
      clear b1
      go_wp2_with (go_at_call 33; refine (isModeX_any _ _).mono ?_; rintro e w' ⟨rfl, rfl⟩)
      go_ret2
      rw [HR.out]
      exact ⟨_, [], rfl, treeC_empty (by first | exact ownG_none _ _ | exact ownG_empty _ (by first | rfl | (simp; done)) (by first | exact B1.out.size | (simp; have := B1.out.size; omega))), Below.step (show Below w1.heap.size w1 _ from (by (repeat (first | exact Below.refl _ _ | exact Hbl.out | refine Below.ext ?_ (by first | omega | (simp; omega) | simp) | refine Below.setCell ?_ (by first | omega | (simp; omega) | simp) _ | refine Below.alloc ?_ (by first | omega | (simp; omega) | simp) _ | refine Below.drew ?_ | refine below_drewN ?_ _ | refine Below.step (by assumption) (by first | omega | (simp; omega) | simp) ?_)))) B1.out.size B1.out⟩
set_option maxRecDepth 100000 in
set_option maxHeartbeats 8000000 in
theorem modeS_of (v : Value) (t : List Nd) (a b c d mo : Int) (S : ByteArray) (w : World) (hM : MaxS w) (h : TreeR w v t) (ht : t.length ≤ 1000) (hkz : (kidsOf t).length ≤ 1000000) (hs : S.size ≤ 1048576) :
    Calls Tryz.prog 9 #[v, .agg #[.int .i64 a, .int .i64 b, .int .i64 c, .int .i64 d], .string S, .int .i64 mo] w fun e w' => ∃ v' cs, e = .returned (.tuple #[v', .int .i64 (modeF t a b c d S.data.toList mo).2]) ∧ TreeC w.heap.size w' v' cs (modeF t a b c d S.data.toList mo).1 ∧ Below w.heap.size w w' := by
  have hF := fun w hm h => findS2_of v t a b c d S w hm h ht hkz hs
  obtain ⟨R, hR⟩ : ∃ R, R = modeF t a b c d S.data.toList mo := ⟨_, rfl⟩
  rw [← hR]
  unfold modeF at hR
  generalize S.data.toList = s at hF hR
  have hrg := @findF_range t a b c d s
  generalize findF t a b c d s = F at hF hrg hR
  obtain ⟨n, f⟩ := F
  simp only at hF hrg hR
  have HF := Lib.hid hF
  have H := Lib.hid h
  have HM := Lib.hid hM
  have hC := fun w h hf => copyS_of v t w h ht hf
  have HC := Lib.hid hC
  obtain ⟨A, cap, rfl⟩ := h.shape
  have hcap := h.caps
  clear h hF hM hC
  cases hmo : inB mo 0 1023
  · rw [if_pos hmo] at hR
    have HR := Lib.hid hR
    clear hR hrg
    go_enter Tryz.func9, Tryz.ntmps9
    go_wp2_with fail
    refine (HF.out _ (HM.out.below (by (repeat (first | exact Below.refl _ _ | exact Hbl.out | refine Below.ext ?_ (by first | omega | (simp; omega) | simp) | refine Below.setCell ?_ (by first | omega | (simp; omega) | simp) _ | refine Below.alloc ?_ (by first | omega | (simp; omega) | simp) _ | refine Below.drew ?_ | refine below_drewN ?_ _ | refine Below.step (by assumption) (by first | omega | (simp; omega) | simp) ?_)))) (H.out.below (by (repeat (first | exact Below.refl _ _ | exact Hbl.out | refine Below.ext ?_ (by first | omega | (simp; omega) | simp) | refine Below.setCell ?_ (by first | omega | (simp; omega) | simp) _ | refine Below.alloc ?_ (by first | omega | (simp; omega) | simp) _ | refine Below.drew ?_ | refine below_drewN ?_ _ | refine Below.step (by assumption) (by first | omega | (simp; omega) | simp) ?_))))).mono ?_
    rintro e w1 ⟨rfl, b1⟩
    have p1 : w1.cell? ⟨w.heap.size, 1, none⟩ = some (.int .i64 b) := (b1.cell (p := ⟨w.heap.size, 1, none⟩) (by simp)).trans (by go_simp)
    have hz1 : w.heap.size < w1.heap.size := by have := b1.size; simp at this; omega
    have B1 := Lib.hid (Below.step b1 (by simp) (show Below w.heap.size w _ from (by (repeat (first | exact Below.refl _ _ | exact Hbl.out | refine Below.ext ?_ (by first | omega | (simp; omega) | simp) | refine Below.setCell ?_ (by first | omega | (simp; omega) | simp) _ | refine Below.alloc ?_ (by first | omega | (simp; omega) | simp) _ | refine Below.drew ?_ | refine below_drewN ?_ _ | refine Below.step (by assumption) (by first | omega | (simp; omega) | simp) ?_)))))
    clear b1
    go_wp2_with (go_at_call 36; refine (l1In_any _ _ _ _).mono ?_; rintro e w' ⟨rfl, rfl⟩)
    go_ret2
    rw [HR.out]
    exact ⟨_, [], rfl, treeC_empty (by first | exact ownG_none _ _ | exact ownG_empty _ (by first | rfl | (simp; done)) (by first | exact B1.out.size | (simp; have := B1.out.size; omega))), Below.step (show Below w1.heap.size w1 _ from (by (repeat (first | exact Below.refl _ _ | exact Hbl.out | refine Below.ext ?_ (by first | omega | (simp; omega) | simp) | refine Below.setCell ?_ (by first | omega | (simp; omega) | simp) _ | refine Below.alloc ?_ (by first | omega | (simp; omega) | simp) _ | refine Below.drew ?_ | refine below_drewN ?_ _ | refine Below.step (by assumption) (by first | omega | (simp; omega) | simp) ?_)))) B1.out.size B1.out⟩
  · rw [if_neg (show ¬ inB mo 0 1023 = false by rw [hmo]; simp)] at hR
    by_cases hf : f = 0
    · subst hf
      rw [if_neg (show ¬ ¬ (0 : Int) = 0 by simp)] at hR
      obtain ⟨g1, g2, _, g4, g5⟩ := hrg rfl
      obtain ⟨m, rfl⟩ : ∃ m : Nat, n = (m : Int) := ⟨n.toNat, by omega⟩
      have hm : m < t.length := by omega
      have hm' : (m : Int) < (t.length : Int) := by omega
      rw [Int.toNat_natCast] at hR
      have Few1 := Lib.hid (few_of g1 hkz)
      clear hrg g1 g2
      by_cases hno : ¬ b = 0 ∧ ¬ b = (kth t m).ow
      · rw [if_pos hno] at hR
        have d1 : (b != 0) = true := by simpa using hno.1
        have d2 : (b != (kth t m).ow) = true := by simpa using hno.2
        have HR := Lib.hid hR
        clear hR hno
        go_enter Tryz.func9, Tryz.ntmps9
        go_wp2_with fail
        refine (HF.out _ (HM.out.below (by (repeat (first | exact Below.refl _ _ | exact Hbl.out | refine Below.ext ?_ (by first | omega | (simp; omega) | simp) | refine Below.setCell ?_ (by first | omega | (simp; omega) | simp) _ | refine Below.alloc ?_ (by first | omega | (simp; omega) | simp) _ | refine Below.drew ?_ | refine below_drewN ?_ _ | refine Below.step (by assumption) (by first | omega | (simp; omega) | simp) ?_)))) (H.out.below (by (repeat (first | exact Below.refl _ _ | exact Hbl.out | refine Below.ext ?_ (by first | omega | (simp; omega) | simp) | refine Below.setCell ?_ (by first | omega | (simp; omega) | simp) _ | refine Below.alloc ?_ (by first | omega | (simp; omega) | simp) _ | refine Below.drew ?_ | refine below_drewN ?_ _ | refine Below.step (by assumption) (by first | omega | (simp; omega) | simp) ?_))))).mono ?_
        rintro e w1 ⟨rfl, b1⟩
        have p1 : w1.cell? ⟨w.heap.size, 1, none⟩ = some (.int .i64 b) := (b1.cell (p := ⟨w.heap.size, 1, none⟩) (by simp)).trans (by go_simp)
        have hz1 : w.heap.size < w1.heap.size := by have := b1.size; simp at this; omega
        have B1 := Lib.hid (Below.step b1 (by simp) (show Below w.heap.size w _ from (by (repeat (first | exact Below.refl _ _ | exact Hbl.out | refine Below.ext ?_ (by first | omega | (simp; omega) | simp) | refine Below.setCell ?_ (by first | omega | (simp; omega) | simp) _ | refine Below.alloc ?_ (by first | omega | (simp; omega) | simp) _ | refine Below.drew ?_ | refine below_drewN ?_ _ | refine Below.step (by assumption) (by first | omega | (simp; omega) | simp) ?_)))))
        clear b1
        obtain ⟨bt, ot, nA, nC, kA, kC, rfl, hbt, _, _, y1, _⟩ := (H.out.below B1.out).at_ (kth_at hm)
        go_wp2_with (go_at_call 36; refine (l1In_any _ _ _ _).mono ?_; rintro e w' ⟨rfl, rfl⟩)
        go_quiet (fail)
        go_wp2
        go_ret2
        rw [HR.out]
        exact ⟨_, [], rfl, treeC_empty (by first | exact ownG_none _ _ | exact ownG_empty _ (by first | rfl | (simp; done)) (by first | exact B1.out.size | (simp; have := B1.out.size; omega))), Below.step (show Below w1.heap.size w1 _ from (by (repeat (first | exact Below.refl _ _ | exact Hbl.out | refine Below.ext ?_ (by first | omega | (simp; omega) | simp) | refine Below.setCell ?_ (by first | omega | (simp; omega) | simp) _ | refine Below.alloc ?_ (by first | omega | (simp; omega) | simp) _ | refine Below.drew ?_ | refine below_drewN ?_ _ | refine Below.step (by assumption) (by first | omega | (simp; omega) | simp) ?_)))) B1.out.size B1.out⟩
      · rw [if_neg hno] at hR
        have hd : (b != 0) = false ∨ ((b != 0) = true ∧ (b != (kth t m).ow) = false) := by
          by_cases h0 : b = 0
          · exact .inl (by simp [h0])
          · exact .inr ⟨by simpa using h0, by simp; exact Classical.byContradiction (fun h => hno ⟨h0, h⟩)⟩
        have HR := Lib.hid hR
        clear hR hno
        rcases hd with d1 | ⟨d1, d2⟩
        all_goals
          go_enter Tryz.func9, Tryz.ntmps9
          go_wp2_with fail
          refine (HF.out _ (HM.out.below (by (repeat (first | exact Below.refl _ _ | exact Hbl.out | refine Below.ext ?_ (by first | omega | (simp; omega) | simp) | refine Below.setCell ?_ (by first | omega | (simp; omega) | simp) _ | refine Below.alloc ?_ (by first | omega | (simp; omega) | simp) _ | refine Below.drew ?_ | refine below_drewN ?_ _ | refine Below.step (by assumption) (by first | omega | (simp; omega) | simp) ?_)))) (H.out.below (by (repeat (first | exact Below.refl _ _ | exact Hbl.out | refine Below.ext ?_ (by first | omega | (simp; omega) | simp) | refine Below.setCell ?_ (by first | omega | (simp; omega) | simp) _ | refine Below.alloc ?_ (by first | omega | (simp; omega) | simp) _ | refine Below.drew ?_ | refine below_drewN ?_ _ | refine Below.step (by assumption) (by first | omega | (simp; omega) | simp) ?_))))).mono ?_
          rintro e w1 ⟨rfl, b1⟩
          have p1 : w1.cell? ⟨w.heap.size, 1, none⟩ = some (.int .i64 b) := (b1.cell (p := ⟨w.heap.size, 1, none⟩) (by simp)).trans (by go_simp)
          have hz1 : w.heap.size < w1.heap.size := by have := b1.size; simp at this; omega
          have B1 := Lib.hid (Below.step b1 (by simp) (show Below w.heap.size w _ from (by (repeat (first | exact Below.refl _ _ | exact Hbl.out | refine Below.ext ?_ (by first | omega | (simp; omega) | simp) | refine Below.setCell ?_ (by first | omega | (simp; omega) | simp) _ | refine Below.alloc ?_ (by first | omega | (simp; omega) | simp) _ | refine Below.drew ?_ | refine below_drewN ?_ _ | refine Below.step (by assumption) (by first | omega | (simp; omega) | simp) ?_)))))
          clear b1
          obtain ⟨bt, ot, nA, nC, kA, kC, rfl, hbt, _, _, y1, _⟩ := (H.out.below B1.out).at_ (kth_at hm)
          go_wp2_with (go_at_call 36; refine (l1In_any _ _ _ _).mono ?_; rintro e w' ⟨rfl, rfl⟩)
          go_quiet (fail)
          have B4 := Lib.hid (Below.step (below_drewN (Below.refl w1.heap.size w1) nq) B1.out.size B1.out)
          generalize w1.drewN nq = W4 at B4 ⊢
          go_wp2_with fail
          refine (HC.out _ (H.out.below B4.out) Few1.out).mono ?_
          rintro e w5 ⟨v5, cs, rfl, hT5, _, b5⟩
          obtain ⟨A5, c5, rfl⟩ := TreeO.shape ⟨cs, hT5⟩
          obtain ⟨g5, cc, rfl, hg5, hg5', _, _, _, q0, q1, q2, q3, q4, q5, q6, fz⟩ := hT5.at_ hm
          have fz3 := fz (m * 7 + 3)
          obtain ⟨cs', hT6⟩ := hT5.mode (m := mo) hm
          have hz4 := B4.out.size
          have HT6 := Lib.hid (hT6.mono hz4)
          have HB6 := Lib.hid (show Below w.heap.size w (w5.setCell ⟨g5, m * 7 + 3, none⟩ (.int .i64 mo)) from Below.setCell (Below.step b5 hz4 B4.out) (Nat.le_trans hz4 hg5) _)
          clear hT5 hT6 b5 fz
          go_wp2
          go_ret2
          rw [HR.out]
          exact ⟨_, cs', rfl, HT6.out, HB6.out⟩
    · rw [if_pos hf] at hR
      have d1 : (f != 0) = true := by simpa using hf
      have HR := Lib.hid hR
      clear hR hrg
      go_enter Tryz.func9, Tryz.ntmps9
      go_wp2_with fail
      refine (HF.out _ (HM.out.below (by (repeat (first | exact Below.refl _ _ | exact Hbl.out | refine Below.ext ?_ (by first | omega | (simp; omega) | simp) | refine Below.setCell ?_ (by first | omega | (simp; omega) | simp) _ | refine Below.alloc ?_ (by first | omega | (simp; omega) | simp) _ | refine Below.drew ?_ | refine below_drewN ?_ _ | refine Below.step (by assumption) (by first | omega | (simp; omega) | simp) ?_)))) (H.out.below (by (repeat (first | exact Below.refl _ _ | exact Hbl.out | refine Below.ext ?_ (by first | omega | (simp; omega) | simp) | refine Below.setCell ?_ (by first | omega | (simp; omega) | simp) _ | refine Below.alloc ?_ (by first | omega | (simp; omega) | simp) _ | refine Below.drew ?_ | refine below_drewN ?_ _ | refine Below.step (by assumption) (by first | omega | (simp; omega) | simp) ?_))))).mono ?_
      rintro e w1 ⟨rfl, b1⟩
      have p1 : w1.cell? ⟨w.heap.size, 1, none⟩ = some (.int .i64 b) := (b1.cell (p := ⟨w.heap.size, 1, none⟩) (by simp)).trans (by go_simp)
      have hz1 : w.heap.size < w1.heap.size := by have := b1.size; simp at this; omega
      have B1 := Lib.hid (Below.step b1 (by simp) (show Below w.heap.size w _ from (by (repeat (first | exact Below.refl _ _ | exact Hbl.out | refine Below.ext ?_ (by first | omega | (simp; omega) | simp) | refine Below.setCell ?_ (by first | omega | (simp; omega) | simp) _ | refine Below.alloc ?_ (by first | omega | (simp; omega) | simp) _ | refine Below.drew ?_ | refine below_drewN ?_ _ | refine Below.step (by assumption) (by first | omega | (simp; omega) | simp) ?_)))))
      clear b1
      go_wp2_with (go_at_call 36; refine (l1In_any _ _ _ _).mono ?_; rintro e w' ⟨rfl, rfl⟩)
      go_ret2
      rw [HR.out]
      exact ⟨_, [], rfl, treeC_empty (by first | exact ownG_none _ _ | exact ownG_empty _ (by first | rfl | (simp; done)) (by first | exact B1.out.size | (simp; have := B1.out.size; omega))), Below.step (show Below w1.heap.size w1 _ from (by (repeat (first | exact Below.refl _ _ | exact Hbl.out | refine Below.ext ?_ (by first | omega | (simp; omega) | simp) | refine Below.setCell ?_ (by first | omega | (simp; omega) | simp) _ | refine Below.alloc ?_ (by first | omega | (simp; omega) | simp) _ | refine Below.drew ?_ | refine below_drewN ?_ _ | refine Below.step (by assumption) (by first | omega | (simp; omega) | simp) ?_)))) B1.out.size B1.out⟩
end Go.Proofs.YthfneaaenlgegaaGreatDoor
