/- GiveNode, in the package and in the reference. -/
import Derived.Test.YthfneaaenlgegaaGreatDoorFile
import Derived.Test.YthfneaaenlgegaaGreatDoorCopyI
import Derived.Test.YthfneaaenlgegaaGreatDoorOwnP
import Derived.Test.YthfneaaenlgegaaGreatDoorMD
import Derived.Deep.QuietTactic
import Derived.Deep.Cut
import Derived.Deep.CutRange
set_option linter.unusedSimpArgs false
set_option linter.unusedVariables false
set_option linter.unusedSectionVars false
namespace Go.Proofs.YthfneaaenlgegaaGreatDoor
open Go.RowKit

theorem isUserY_any (n : Int) (w : World) : Calls Tryz.prog 49 #[.int .i64 n] w fun e w' => e = .returned (.bool (inB n 0 99)) ∧ w = w' := by
  go_enter Tryz.func49, Tryz.ntmps49
  go_wp2_with (go_at_call 52; refine (within_any _ _ _ _).mono ?_; rintro e w' ⟨rfl, rfl⟩)
  go_ret
  exact ⟨rfl, rfl⟩
theorem isGroupY_any (n : Int) (w : World) : Calls Tryz.prog 50 #[.int .i64 n] w fun e w' => e = .returned (.bool (inB n 0 7)) ∧ w = w' := by
  go_enter Tryz.func50, Tryz.ntmps50
  go_wp2_with (go_at_call 52; refine (within_any _ _ _ _).mono ?_; rintro e w' ⟨rfl, rfl⟩)
  go_ret
  exact ⟨rfl, rfl⟩
theorem quiet_sameG {P : Program} {f : FuncId} {args : Array Value} {w : World} {n : Nat} {v : Value}
    (h : Calls P f args (w.drewN n) fun e w' => e = .returned v ∧ w.drewN n = w') : Calls P f args (w.drewN n) fun e w'' => e = .returned v ∧ ∃ k, w'' = w.drewN k :=
  h.mono fun _ _ ⟨he, hm⟩ => ⟨he, n, hm.symm⟩
theorem give_cases (b d o g : Int) (x : Nd) : ((b != 0) = false ∧ noGive b d o g x = false) ∨ ((b != 0) = true ∧ (b != x.ow) = true ∧ noGive b d o g x = true) ∨ ((b != 0) = true ∧ (b != x.ow) = false ∧ (o != x.ow) = true ∧ noGive b d o g x = true) ∨
    ((b != 0) = true ∧ (b != x.ow) = false ∧ (o != x.ow) = false ∧ (g != x.gr) = false ∧ noGive b d o g x = false) ∨ ((b != 0) = true ∧ (b != x.ow) = false ∧ (o != x.ow) = false ∧ (g != x.gr) = true ∧ groupB d g = true ∧ noGive b d o g x = false) ∨
    ((b != 0) = true ∧ (b != x.ow) = false ∧ (o != x.ow) = false ∧ (g != x.gr) = true ∧ groupB d g = false ∧ noGive b d o g x = true) := by
  unfold noGive
  cases (b != 0) <;> cases (b != x.ow) <;> cases (o != x.ow) <;> cases (g != x.gr) <;> cases groupB d g <;> simp
set_option maxRecDepth 100000 in
set_option maxHeartbeats 20000000 in
theorem giveI_of (v : Value) (t : List Nd) (a b c d o g : Int) (S : ByteArray) (w : World) (hM : MaxL w) (h : TreeR w v t) (ht : t.length ≤ 1000) (hkz : (kidsOf t).length ≤ 1000000) (hs : S.size ≤ 1048576) :
    Calls Tryz.prog 15 #[v, .agg #[.int .i64 a, .int .i64 b, .int .i64 c, .int .i64 d], .string S, .int .i64 o, .int .i64 g] w fun e w' => ∃ v' cs, e = .returned (.tuple #[v', .int .i64 (giveF t a b c d S.data.toList o g).2]) ∧ TreeC w.heap.size w' v' cs (giveF t a b c d S.data.toList o g).1 ∧ Below w.heap.size w w' := by
  have hF := fun w hm h => findI_of v t a b c d S w hm h ht hkz hs
  obtain ⟨R, hR⟩ : ∃ R, R = giveF t a b c d S.data.toList o g := ⟨_, rfl⟩
  rw [← hR]
  unfold giveF at hR
  generalize S.data.toList = s at hF hR
  have hrg := @findF_range t a b c d s
  generalize findF t a b c d s = F at hF hrg hR
  obtain ⟨n, f⟩ := F
  simp only at hF hrg hR
  have HF := Lib.hid hF
  have H := Lib.hid h
  have HM := Lib.hid hM
  have hC := fun w h hf => copyI_of v t w h ht hf
  have HC := Lib.hid hC
  obtain ⟨A, cap, rfl⟩ := h.shape
  have hcap := h.caps
  clear h hF hM hC
  rcases and2 (inB o 0 99) (inB g 0 7) with ho | ⟨ho, hg⟩ | ⟨ho, hg⟩
  · rw [if_pos (by rw [ho]; rfl)] at hR
    have HR := Lib.hid hR
    clear hR hrg
    go_enter Tryz.func15, Tryz.ntmps15
    go_wp2_with fail
    refine (HF.out _ (HM.out.below (by (repeat (first | exact Below.refl _ _ | exact Hbl.out | refine Below.ext ?_ (by first | omega | (simp; omega) | simp) | refine Below.setCell ?_ (by first | omega | (simp; omega) | simp) _ | refine Below.alloc ?_ (by first | omega | (simp; omega) | simp) _ | refine Below.drew ?_ | refine below_drewN ?_ _ | refine Below.step (by assumption) (by first | omega | (simp; omega) | simp) ?_)))) (H.out.below (by (repeat (first | exact Below.refl _ _ | exact Hbl.out | refine Below.ext ?_ (by first | omega | (simp; omega) | simp) | refine Below.setCell ?_ (by first | omega | (simp; omega) | simp) _ | refine Below.alloc ?_ (by first | omega | (simp; omega) | simp) _ | refine Below.drew ?_ | refine below_drewN ?_ _ | refine Below.step (by assumption) (by first | omega | (simp; omega) | simp) ?_))))).mono ?_
    rintro e w1 ⟨rfl, b1⟩
    have p1 : w1.cell? ⟨w.heap.size, 1, none⟩ = some (.int .i64 b) := (b1.cell (p := ⟨w.heap.size, 1, none⟩) (by simp)).trans (by go_simp)
    have p3 : w1.cell? ⟨w.heap.size, 3, none⟩ = some (.int .i64 d) := (b1.cell (p := ⟨w.heap.size, 3, none⟩) (by simp)).trans (by go_simp)
    have hz1 : w.heap.size < w1.heap.size := by have := b1.size; simp at this; omega
    have B1 := Lib.hid (Below.step b1 (by simp) (show Below w.heap.size w _ from (by (repeat (first | exact Below.refl _ _ | exact Hbl.out | refine Below.ext ?_ (by first | omega | (simp; omega) | simp) | refine Below.setCell ?_ (by first | omega | (simp; omega) | simp) _ | refine Below.alloc ?_ (by first | omega | (simp; omega) | simp) _ | refine Below.drew ?_ | refine below_drewN ?_ _ | refine Below.step (by assumption) (by first | omega | (simp; omega) | simp) ?_)))))
    clear b1
    go_wp2_with (first | (go_at_call 49; refine (isUserY_any _ _).mono ?_; rintro e w' ⟨rfl, rfl⟩) | (go_at_call 50; refine (isGroupY_any _ _).mono ?_; rintro e w' ⟨rfl, rfl⟩))
    go_ret2
    rw [HR.out]
    exact ⟨_, [], rfl, treeC_empty (by first | exact ownG_none _ _ | exact ownG_empty _ (by first | rfl | (simp; done)) (by first | exact B1.out.size | (simp; have := B1.out.size; omega))), Below.step (show Below w1.heap.size w1 _ from (by (repeat (first | exact Below.refl _ _ | exact Hbl.out | refine Below.ext ?_ (by first | omega | (simp; omega) | simp) | refine Below.setCell ?_ (by first | omega | (simp; omega) | simp) _ | refine Below.alloc ?_ (by first | omega | (simp; omega) | simp) _ | refine Below.drew ?_ | refine below_drewN ?_ _ | refine Below.step (by assumption) (by first | omega | (simp; omega) | simp) ?_)))) B1.out.size B1.out⟩
  · rw [if_pos (by rw [ho, hg]; rfl)] at hR
    have HR := Lib.hid hR
    clear hR hrg
    go_enter Tryz.func15, Tryz.ntmps15
    go_wp2_with fail
    refine (HF.out _ (HM.out.below (by (repeat (first | exact Below.refl _ _ | exact Hbl.out | refine Below.ext ?_ (by first | omega | (simp; omega) | simp) | refine Below.setCell ?_ (by first | omega | (simp; omega) | simp) _ | refine Below.alloc ?_ (by first | omega | (simp; omega) | simp) _ | refine Below.drew ?_ | refine below_drewN ?_ _ | refine Below.step (by assumption) (by first | omega | (simp; omega) | simp) ?_)))) (H.out.below (by (repeat (first | exact Below.refl _ _ | exact Hbl.out | refine Below.ext ?_ (by first | omega | (simp; omega) | simp) | refine Below.setCell ?_ (by first | omega | (simp; omega) | simp) _ | refine Below.alloc ?_ (by first | omega | (simp; omega) | simp) _ | refine Below.drew ?_ | refine below_drewN ?_ _ | refine Below.step (by assumption) (by first | omega | (simp; omega) | simp) ?_))))).mono ?_
    rintro e w1 ⟨rfl, b1⟩
    have p1 : w1.cell? ⟨w.heap.size, 1, none⟩ = some (.int .i64 b) := (b1.cell (p := ⟨w.heap.size, 1, none⟩) (by simp)).trans (by go_simp)
    have p3 : w1.cell? ⟨w.heap.size, 3, none⟩ = some (.int .i64 d) := (b1.cell (p := ⟨w.heap.size, 3, none⟩) (by simp)).trans (by go_simp)
    have hz1 : w.heap.size < w1.heap.size := by have := b1.size; simp at this; omega
    have B1 := Lib.hid (Below.step b1 (by simp) (show Below w.heap.size w _ from (by (repeat (first | exact Below.refl _ _ | exact Hbl.out | refine Below.ext ?_ (by first | omega | (simp; omega) | simp) | refine Below.setCell ?_ (by first | omega | (simp; omega) | simp) _ | refine Below.alloc ?_ (by first | omega | (simp; omega) | simp) _ | refine Below.drew ?_ | refine below_drewN ?_ _ | refine Below.step (by assumption) (by first | omega | (simp; omega) | simp) ?_)))))
    clear b1
    go_wp2_with (first | (go_at_call 49; refine (isUserY_any _ _).mono ?_; rintro e w' ⟨rfl, rfl⟩) | (go_at_call 50; refine (isGroupY_any _ _).mono ?_; rintro e w' ⟨rfl, rfl⟩))
    go_ret2
    rw [HR.out]
    exact ⟨_, [], rfl, treeC_empty (by first | exact ownG_none _ _ | exact ownG_empty _ (by first | rfl | (simp; done)) (by first | exact B1.out.size | (simp; have := B1.out.size; omega))), Below.step (show Below w1.heap.size w1 _ from (by (repeat (first | exact Below.refl _ _ | exact Hbl.out | refine Below.ext ?_ (by first | omega | (simp; omega) | simp) | refine Below.setCell ?_ (by first | omega | (simp; omega) | simp) _ | refine Below.alloc ?_ (by first | omega | (simp; omega) | simp) _ | refine Below.drew ?_ | refine below_drewN ?_ _ | refine Below.step (by assumption) (by first | omega | (simp; omega) | simp) ?_)))) B1.out.size B1.out⟩
  · rw [if_neg (show ¬ (inB o 0 99 && inB g 0 7) = false by rw [ho, hg]; simp)] at hR
    by_cases hf : f = 0
    · subst hf
      rw [if_neg (show ¬ ¬ (0 : Int) = 0 by simp)] at hR
      obtain ⟨g1, g2, _, g4, g5⟩ := hrg rfl
      obtain ⟨m, rfl⟩ : ∃ m : Nat, n = (m : Int) := ⟨n.toNat, by omega⟩
      have hm : m < t.length := by omega
      have hm' : (m : Int) < (t.length : Int) := by omega
      rw [Int.toNat_natCast] at hR
      have Few1 := Lib.hid (few_of g1 hkz)
      have Hgc := Lib.hid (give_cases b d o g (kth t m))
      have HR := Lib.hid hR
      clear hrg g1 g2 hR
      go_enter Tryz.func15, Tryz.ntmps15
      go_wp2_with fail
      refine (HF.out _ (HM.out.below (by (repeat (first | exact Below.refl _ _ | exact Hbl.out | refine Below.ext ?_ (by first | omega | (simp; omega) | simp) | refine Below.setCell ?_ (by first | omega | (simp; omega) | simp) _ | refine Below.alloc ?_ (by first | omega | (simp; omega) | simp) _ | refine Below.drew ?_ | refine below_drewN ?_ _ | refine Below.step (by assumption) (by first | omega | (simp; omega) | simp) ?_)))) (H.out.below (by (repeat (first | exact Below.refl _ _ | exact Hbl.out | refine Below.ext ?_ (by first | omega | (simp; omega) | simp) | refine Below.setCell ?_ (by first | omega | (simp; omega) | simp) _ | refine Below.alloc ?_ (by first | omega | (simp; omega) | simp) _ | refine Below.drew ?_ | refine below_drewN ?_ _ | refine Below.step (by assumption) (by first | omega | (simp; omega) | simp) ?_))))).mono ?_
      rintro e w1 ⟨rfl, b1⟩
      have p1 : w1.cell? ⟨w.heap.size, 1, none⟩ = some (.int .i64 b) := (b1.cell (p := ⟨w.heap.size, 1, none⟩) (by simp)).trans (by go_simp)
      have p3 : w1.cell? ⟨w.heap.size, 3, none⟩ = some (.int .i64 d) := (b1.cell (p := ⟨w.heap.size, 3, none⟩) (by simp)).trans (by go_simp)
      have hz1 : w.heap.size < w1.heap.size := by have := b1.size; simp at this; omega
      have B1 := Lib.hid (Below.step b1 (by simp) (show Below w.heap.size w _ from (by (repeat (first | exact Below.refl _ _ | exact Hbl.out | refine Below.ext ?_ (by first | omega | (simp; omega) | simp) | refine Below.setCell ?_ (by first | omega | (simp; omega) | simp) _ | refine Below.alloc ?_ (by first | omega | (simp; omega) | simp) _ | refine Below.drew ?_ | refine below_drewN ?_ _ | refine Below.step (by assumption) (by first | omega | (simp; omega) | simp) ?_)))))
      clear b1
      obtain ⟨bt, ot, nA, nC, kA, kC, rfl, hbt, _, y0, y1, y2, _⟩ := (H.out.below B1.out).at_ (kth_at hm)
      go_upto_region 6 with (first | (go_at_call 49; refine (isUserY_any _ _).mono ?_; rintro e w' ⟨rfl, rfl⟩) | (go_at_call 50; refine (isGroupY_any _ _).mono ?_; rintro e w' ⟨rfl, rfl⟩))
      go_cut [35] from 36 to 73 (fun z wx => z = .bool (noGive b d o g (kth t m)) ∧ Below w1.heap.size w1 wx)
      case first =>
        clear HF H HM HC HR Few1 B1
        rcases Hgc.out with ⟨d1, e⟩ | ⟨d1, d2, e⟩ | ⟨d1, d2, d3, e⟩ | ⟨d1, d2, d3, d4, e⟩ | ⟨d1, d2, d3, d4, d5, e⟩ | ⟨d1, d2, d3, d4, d5, e⟩
        all_goals
          have E := Lib.hid e
          clear Hgc e
          go_quiet ((go_at_call 17; exact quiet_sameG (hasGroupI_any _ _ _)))
          go_wp2_with fail
          go_meet
          exact ⟨by rw [E.out], below_drewN (Below.refl _ _) _⟩
      case rest =>
        obtain ⟨rfl, hbw⟩ := hcut
        have B4 := Lib.hid (Below.step hbw B1.out.size B1.out)
        generalize wc = W4 at B4 ⊢
        clear hbw Hgc
        cases hno : noGive b d o g (kth t m)
        · have hR := HR.out
          rw [hno, if_neg (by simp)] at hR
          have HR := Lib.hid hR
          clear hR hno
          go_wp2_with fail
          refine (HC.out _ (H.out.below B4.out) Few1.out).mono ?_
          rintro e w5 ⟨v5, cs, rfl, hT5, b5⟩
          obtain ⟨A5, c5, rfl⟩ := TreeO.shape ⟨cs, hT5⟩
          obtain ⟨g5, cc, rfl, hg5, hg5', _, _, _, q0, q1, q2, q3, q4, q5, q6, fz⟩ := hT5.at_ hm
          have fz1 := fz (m * 7 + 1)
          have fz2 := fz (m * 7 + 2)
          obtain ⟨cs1, hT6⟩ := hT5.owner (o := o) hm
          obtain ⟨cs', hT7⟩ := hT6.group (z := g) hm
          have hz4 := B4.out.size
          have HT6 := Lib.hid (hT7.mono hz4)
          have HB6 := Lib.hid (show Below w.heap.size w ((w5.setCell ⟨g5, m * 7 + 1, none⟩ (.int .i64 o)).setCell ⟨g5, m * 7 + 2, none⟩ (.int .i64 g)) from Below.setCell (Below.setCell (Below.step b5 hz4 B4.out) (Nat.le_trans hz4 hg5) _) (Nat.le_trans hz4 hg5) _)
          clear hT5 hT6 hT7 b5 fz
          go_wp2
          go_ret2
          rw [HR.out]
          exact ⟨_, cs', rfl, HT6.out, HB6.out⟩
        · have hR := HR.out
          rw [hno, if_pos rfl] at hR
          have HR := Lib.hid hR
          clear hR hno
          go_wp2
          go_ret2
          rw [HR.out]
          exact ⟨_, [], rfl, treeC_empty (by first | exact ownG_none _ _ | exact ownG_empty _ (by first | rfl | (simp; done)) (by first | exact B4.out.size | (simp; have := B4.out.size; omega))), Below.step (show Below W4.heap.size W4 _ from (by (repeat (first | exact Below.refl _ _ | exact Hbl.out | refine Below.ext ?_ (by first | omega | (simp; omega) | simp) | refine Below.setCell ?_ (by first | omega | (simp; omega) | simp) _ | refine Below.alloc ?_ (by first | omega | (simp; omega) | simp) _ | refine Below.drew ?_ | refine below_drewN ?_ _ | refine Below.step (by assumption) (by first | omega | (simp; omega) | simp) ?_)))) B4.out.size B4.out⟩
    · rw [if_pos hf] at hR
      have d1 : (f != 0) = true := by simpa using hf
      have HR := Lib.hid hR
      clear hR hrg
      go_enter Tryz.func15, Tryz.ntmps15
      go_wp2_with fail
      refine (HF.out _ (HM.out.below (by (repeat (first | exact Below.refl _ _ | exact Hbl.out | refine Below.ext ?_ (by first | omega | (simp; omega) | simp) | refine Below.setCell ?_ (by first | omega | (simp; omega) | simp) _ | refine Below.alloc ?_ (by first | omega | (simp; omega) | simp) _ | refine Below.drew ?_ | refine below_drewN ?_ _ | refine Below.step (by assumption) (by first | omega | (simp; omega) | simp) ?_)))) (H.out.below (by (repeat (first | exact Below.refl _ _ | exact Hbl.out | refine Below.ext ?_ (by first | omega | (simp; omega) | simp) | refine Below.setCell ?_ (by first | omega | (simp; omega) | simp) _ | refine Below.alloc ?_ (by first | omega | (simp; omega) | simp) _ | refine Below.drew ?_ | refine below_drewN ?_ _ | refine Below.step (by assumption) (by first | omega | (simp; omega) | simp) ?_))))).mono ?_
      rintro e w1 ⟨rfl, b1⟩
      have p1 : w1.cell? ⟨w.heap.size, 1, none⟩ = some (.int .i64 b) := (b1.cell (p := ⟨w.heap.size, 1, none⟩) (by simp)).trans (by go_simp)
      have p3 : w1.cell? ⟨w.heap.size, 3, none⟩ = some (.int .i64 d) := (b1.cell (p := ⟨w.heap.size, 3, none⟩) (by simp)).trans (by go_simp)
      have hz1 : w.heap.size < w1.heap.size := by have := b1.size; simp at this; omega
      have B1 := Lib.hid (Below.step b1 (by simp) (show Below w.heap.size w _ from (by (repeat (first | exact Below.refl _ _ | exact Hbl.out | refine Below.ext ?_ (by first | omega | (simp; omega) | simp) | refine Below.setCell ?_ (by first | omega | (simp; omega) | simp) _ | refine Below.alloc ?_ (by first | omega | (simp; omega) | simp) _ | refine Below.drew ?_ | refine below_drewN ?_ _ | refine Below.step (by assumption) (by first | omega | (simp; omega) | simp) ?_)))))
      clear b1
      go_wp2_with (first | (go_at_call 49; refine (isUserY_any _ _).mono ?_; rintro e w' ⟨rfl, rfl⟩) | (go_at_call 50; refine (isGroupY_any _ _).mono ?_; rintro e w' ⟨rfl, rfl⟩))
      go_ret2
      rw [HR.out]
      exact ⟨_, [], rfl, treeC_empty (by first | exact ownG_none _ _ | exact ownG_empty _ (by first | rfl | (simp; done)) (by first | exact B1.out.size | (simp; have := B1.out.size; omega))), Below.step (show Below w1.heap.size w1 _ from (by (repeat (first | exact Below.refl _ _ | exact Hbl.out | refine Below.ext ?_ (by first | omega | (simp; omega) | simp) | refine Below.setCell ?_ (by first | omega | (simp; omega) | simp) _ | refine Below.alloc ?_ (by first | omega | (simp; omega) | simp) _ | refine Below.drew ?_ | refine below_drewN ?_ _ | refine Below.step (by assumption) (by first | omega | (simp; omega) | simp) ?_)))) B1.out.size B1.out⟩
set_option maxRecDepth 100000 in
set_option maxHeartbeats 20000000 in
theorem giveS_of (v : Value) (t : List Nd) (a b c d o g : Int) (S : ByteArray) (w : World) (hM : MaxS w) (h : TreeR w v t) (ht : t.length ≤ 1000) (hkz : (kidsOf t).length ≤ 1000000) (hs : S.size ≤ 1048576) :
    Calls Tryz.prog 16 #[v, .agg #[.int .i64 a, .int .i64 b, .int .i64 c, .int .i64 d], .string S, .int .i64 o, .int .i64 g] w fun e w' => ∃ v' cs, e = .returned (.tuple #[v', .int .i64 (giveF t a b c d S.data.toList o g).2]) ∧ TreeC w.heap.size w' v' cs (giveF t a b c d S.data.toList o g).1 ∧ Below w.heap.size w w' := by
  have hF := fun w hm h => findS2_of v t a b c d S w hm h ht hkz hs
  obtain ⟨R, hR⟩ : ∃ R, R = giveF t a b c d S.data.toList o g := ⟨_, rfl⟩
  rw [← hR]
  unfold giveF at hR
  generalize S.data.toList = s at hF hR
  have hrg := @findF_range t a b c d s
  generalize findF t a b c d s = F at hF hrg hR
  obtain ⟨n, f⟩ := F
  simp only at hF hrg hR
  have HF := Lib.hid hF
  have H := Lib.hid h
  have HM := Lib.hid hM
  have hC := fun w h hf => copyS_of v t w h ht hf
  have HC := Lib.hid hC
  obtain ⟨A, cap, rfl⟩ := h.shape
  have hcap := h.caps
  clear h hF hM hC
  rcases and2 (inB o 0 99) (inB g 0 7) with ho | ⟨ho, hg⟩ | ⟨ho, hg⟩
  · rw [if_pos (by rw [ho]; rfl)] at hR
    have HR := Lib.hid hR
    clear hR hrg
    go_enter Tryz.func16, Tryz.ntmps16
    go_wp2_with fail
    refine (HF.out _ (HM.out.below (by (repeat (first | exact Below.refl _ _ | exact Hbl.out | refine Below.ext ?_ (by first | omega | (simp; omega) | simp) | refine Below.setCell ?_ (by first | omega | (simp; omega) | simp) _ | refine Below.alloc ?_ (by first | omega | (simp; omega) | simp) _ | refine Below.drew ?_ | refine below_drewN ?_ _ | refine Below.step (by assumption) (by first | omega | (simp; omega) | simp) ?_)))) (H.out.below (by (repeat (first | exact Below.refl _ _ | exact Hbl.out | refine Below.ext ?_ (by first | omega | (simp; omega) | simp) | refine Below.setCell ?_ (by first | omega | (simp; omega) | simp) _ | refine Below.alloc ?_ (by first | omega | (simp; omega) | simp) _ | refine Below.drew ?_ | refine below_drewN ?_ _ | refine Below.step (by assumption) (by first | omega | (simp; omega) | simp) ?_))))).mono ?_
    rintro e w1 ⟨rfl, b1⟩
    have p1 : w1.cell? ⟨w.heap.size, 1, none⟩ = some (.int .i64 b) := (b1.cell (p := ⟨w.heap.size, 1, none⟩) (by simp)).trans (by go_simp)
    have p3 : w1.cell? ⟨w.heap.size, 3, none⟩ = some (.int .i64 d) := (b1.cell (p := ⟨w.heap.size, 3, none⟩) (by simp)).trans (by go_simp)
    have hz1 : w.heap.size < w1.heap.size := by have := b1.size; simp at this; omega
    have B1 := Lib.hid (Below.step b1 (by simp) (show Below w.heap.size w _ from (by (repeat (first | exact Below.refl _ _ | exact Hbl.out | refine Below.ext ?_ (by first | omega | (simp; omega) | simp) | refine Below.setCell ?_ (by first | omega | (simp; omega) | simp) _ | refine Below.alloc ?_ (by first | omega | (simp; omega) | simp) _ | refine Below.drew ?_ | refine below_drewN ?_ _ | refine Below.step (by assumption) (by first | omega | (simp; omega) | simp) ?_)))))
    clear b1
    go_wp2_with (go_at_call 36; refine (l1In_any _ _ _ _).mono ?_; rintro e w' ⟨rfl, rfl⟩)
    go_ret2
    rw [HR.out]
    exact ⟨_, [], rfl, treeC_empty (by first | exact ownG_none _ _ | exact ownG_empty _ (by first | rfl | (simp; done)) (by first | exact B1.out.size | (simp; have := B1.out.size; omega))), Below.step (show Below w1.heap.size w1 _ from (by (repeat (first | exact Below.refl _ _ | exact Hbl.out | refine Below.ext ?_ (by first | omega | (simp; omega) | simp) | refine Below.setCell ?_ (by first | omega | (simp; omega) | simp) _ | refine Below.alloc ?_ (by first | omega | (simp; omega) | simp) _ | refine Below.drew ?_ | refine below_drewN ?_ _ | refine Below.step (by assumption) (by first | omega | (simp; omega) | simp) ?_)))) B1.out.size B1.out⟩
  · rw [if_pos (by rw [ho, hg]; rfl)] at hR
    have HR := Lib.hid hR
    clear hR hrg
    go_enter Tryz.func16, Tryz.ntmps16
    go_wp2_with fail
    refine (HF.out _ (HM.out.below (by (repeat (first | exact Below.refl _ _ | exact Hbl.out | refine Below.ext ?_ (by first | omega | (simp; omega) | simp) | refine Below.setCell ?_ (by first | omega | (simp; omega) | simp) _ | refine Below.alloc ?_ (by first | omega | (simp; omega) | simp) _ | refine Below.drew ?_ | refine below_drewN ?_ _ | refine Below.step (by assumption) (by first | omega | (simp; omega) | simp) ?_)))) (H.out.below (by (repeat (first | exact Below.refl _ _ | exact Hbl.out | refine Below.ext ?_ (by first | omega | (simp; omega) | simp) | refine Below.setCell ?_ (by first | omega | (simp; omega) | simp) _ | refine Below.alloc ?_ (by first | omega | (simp; omega) | simp) _ | refine Below.drew ?_ | refine below_drewN ?_ _ | refine Below.step (by assumption) (by first | omega | (simp; omega) | simp) ?_))))).mono ?_
    rintro e w1 ⟨rfl, b1⟩
    have p1 : w1.cell? ⟨w.heap.size, 1, none⟩ = some (.int .i64 b) := (b1.cell (p := ⟨w.heap.size, 1, none⟩) (by simp)).trans (by go_simp)
    have p3 : w1.cell? ⟨w.heap.size, 3, none⟩ = some (.int .i64 d) := (b1.cell (p := ⟨w.heap.size, 3, none⟩) (by simp)).trans (by go_simp)
    have hz1 : w.heap.size < w1.heap.size := by have := b1.size; simp at this; omega
    have B1 := Lib.hid (Below.step b1 (by simp) (show Below w.heap.size w _ from (by (repeat (first | exact Below.refl _ _ | exact Hbl.out | refine Below.ext ?_ (by first | omega | (simp; omega) | simp) | refine Below.setCell ?_ (by first | omega | (simp; omega) | simp) _ | refine Below.alloc ?_ (by first | omega | (simp; omega) | simp) _ | refine Below.drew ?_ | refine below_drewN ?_ _ | refine Below.step (by assumption) (by first | omega | (simp; omega) | simp) ?_)))))
    clear b1
    go_wp2_with (go_at_call 36; refine (l1In_any _ _ _ _).mono ?_; rintro e w' ⟨rfl, rfl⟩)
    go_ret2
    rw [HR.out]
    exact ⟨_, [], rfl, treeC_empty (by first | exact ownG_none _ _ | exact ownG_empty _ (by first | rfl | (simp; done)) (by first | exact B1.out.size | (simp; have := B1.out.size; omega))), Below.step (show Below w1.heap.size w1 _ from (by (repeat (first | exact Below.refl _ _ | exact Hbl.out | refine Below.ext ?_ (by first | omega | (simp; omega) | simp) | refine Below.setCell ?_ (by first | omega | (simp; omega) | simp) _ | refine Below.alloc ?_ (by first | omega | (simp; omega) | simp) _ | refine Below.drew ?_ | refine below_drewN ?_ _ | refine Below.step (by assumption) (by first | omega | (simp; omega) | simp) ?_)))) B1.out.size B1.out⟩
  · rw [if_neg (show ¬ (inB o 0 99 && inB g 0 7) = false by rw [ho, hg]; simp)] at hR
    by_cases hf : f = 0
    · subst hf
      rw [if_neg (show ¬ ¬ (0 : Int) = 0 by simp)] at hR
      obtain ⟨g1, g2, _, g4, g5⟩ := hrg rfl
      obtain ⟨m, rfl⟩ : ∃ m : Nat, n = (m : Int) := ⟨n.toNat, by omega⟩
      have hm : m < t.length := by omega
      have hm' : (m : Int) < (t.length : Int) := by omega
      rw [Int.toNat_natCast] at hR
      have Few1 := Lib.hid (few_of g1 hkz)
      have Hgc := Lib.hid (give_cases b d o g (kth t m))
      have HR := Lib.hid hR
      clear hrg g1 g2 hR
      go_enter Tryz.func16, Tryz.ntmps16
      go_wp2_with fail
      refine (HF.out _ (HM.out.below (by (repeat (first | exact Below.refl _ _ | exact Hbl.out | refine Below.ext ?_ (by first | omega | (simp; omega) | simp) | refine Below.setCell ?_ (by first | omega | (simp; omega) | simp) _ | refine Below.alloc ?_ (by first | omega | (simp; omega) | simp) _ | refine Below.drew ?_ | refine below_drewN ?_ _ | refine Below.step (by assumption) (by first | omega | (simp; omega) | simp) ?_)))) (H.out.below (by (repeat (first | exact Below.refl _ _ | exact Hbl.out | refine Below.ext ?_ (by first | omega | (simp; omega) | simp) | refine Below.setCell ?_ (by first | omega | (simp; omega) | simp) _ | refine Below.alloc ?_ (by first | omega | (simp; omega) | simp) _ | refine Below.drew ?_ | refine below_drewN ?_ _ | refine Below.step (by assumption) (by first | omega | (simp; omega) | simp) ?_))))).mono ?_
      rintro e w1 ⟨rfl, b1⟩
      have p1 : w1.cell? ⟨w.heap.size, 1, none⟩ = some (.int .i64 b) := (b1.cell (p := ⟨w.heap.size, 1, none⟩) (by simp)).trans (by go_simp)
      have p3 : w1.cell? ⟨w.heap.size, 3, none⟩ = some (.int .i64 d) := (b1.cell (p := ⟨w.heap.size, 3, none⟩) (by simp)).trans (by go_simp)
      have hz1 : w.heap.size < w1.heap.size := by have := b1.size; simp at this; omega
      have B1 := Lib.hid (Below.step b1 (by simp) (show Below w.heap.size w _ from (by (repeat (first | exact Below.refl _ _ | exact Hbl.out | refine Below.ext ?_ (by first | omega | (simp; omega) | simp) | refine Below.setCell ?_ (by first | omega | (simp; omega) | simp) _ | refine Below.alloc ?_ (by first | omega | (simp; omega) | simp) _ | refine Below.drew ?_ | refine below_drewN ?_ _ | refine Below.step (by assumption) (by first | omega | (simp; omega) | simp) ?_)))))
      clear b1
      obtain ⟨bt, ot, nA, nC, kA, kC, rfl, hbt, _, y0, y1, y2, _⟩ := (H.out.below B1.out).at_ (kth_at hm)
      go_upto_region 6 with (go_at_call 36; refine (l1In_any _ _ _ _).mono ?_; rintro e w' ⟨rfl, rfl⟩)
      go_cut [37] from 38 to 75 (fun z wx => z = .bool (noGive b d o g (kth t m)) ∧ Below w1.heap.size w1 wx)
      case first =>
        clear HF H HM HC HR Few1 B1
        rcases Hgc.out with ⟨d1, e⟩ | ⟨d1, d2, e⟩ | ⟨d1, d2, d3, e⟩ | ⟨d1, d2, d3, d4, e⟩ | ⟨d1, d2, d3, d4, d5, e⟩ | ⟨d1, d2, d3, d4, d5, e⟩
        all_goals
          have E := Lib.hid e
          clear Hgc e
          go_quiet ((go_at_call 51; exact quiet_sameG (hasGroupS_any _ _ _)))
          go_wp2_with fail
          go_meet
          exact ⟨by rw [E.out], below_drewN (Below.refl _ _) _⟩
      case rest =>
        obtain ⟨rfl, hbw⟩ := hcut
        have B4 := Lib.hid (Below.step hbw B1.out.size B1.out)
        generalize wc = W4 at B4 ⊢
        clear hbw Hgc
        cases hno : noGive b d o g (kth t m)
        · have hR := HR.out
          rw [hno, if_neg (by simp)] at hR
          have HR := Lib.hid hR
          clear hR hno
          go_wp2_with fail
          refine (HC.out _ (H.out.below B4.out) Few1.out).mono ?_
          rintro e w5 ⟨v5, cs, rfl, hT5, _, b5⟩
          obtain ⟨A5, c5, rfl⟩ := TreeO.shape ⟨cs, hT5⟩
          obtain ⟨g5, cc, rfl, hg5, hg5', _, _, _, q0, q1, q2, q3, q4, q5, q6, fz⟩ := hT5.at_ hm
          have fz1 := fz (m * 7 + 1)
          have fz2 := fz (m * 7 + 2)
          obtain ⟨cs1, hT6⟩ := hT5.owner (o := o) hm
          obtain ⟨cs', hT7⟩ := hT6.group (z := g) hm
          have hz4 := B4.out.size
          have HT6 := Lib.hid (hT7.mono hz4)
          have HB6 := Lib.hid (show Below w.heap.size w ((w5.setCell ⟨g5, m * 7 + 1, none⟩ (.int .i64 o)).setCell ⟨g5, m * 7 + 2, none⟩ (.int .i64 g)) from Below.setCell (Below.setCell (Below.step b5 hz4 B4.out) (Nat.le_trans hz4 hg5) _) (Nat.le_trans hz4 hg5) _)
          clear hT5 hT6 hT7 b5 fz
          go_wp2
          go_ret2
          rw [HR.out]
          exact ⟨_, cs', rfl, HT6.out, HB6.out⟩
        · have hR := HR.out
          rw [hno, if_pos rfl] at hR
          have HR := Lib.hid hR
          clear hR hno
          go_wp2
          go_ret2
          rw [HR.out]
          exact ⟨_, [], rfl, treeC_empty (by first | exact ownG_none _ _ | exact ownG_empty _ (by first | rfl | (simp; done)) (by first | exact B4.out.size | (simp; have := B4.out.size; omega))), Below.step (show Below W4.heap.size W4 _ from (by (repeat (first | exact Below.refl _ _ | exact Hbl.out | refine Below.ext ?_ (by first | omega | (simp; omega) | simp) | refine Below.setCell ?_ (by first | omega | (simp; omega) | simp) _ | refine Below.alloc ?_ (by first | omega | (simp; omega) | simp) _ | refine Below.drew ?_ | refine below_drewN ?_ _ | refine Below.step (by assumption) (by first | omega | (simp; omega) | simp) ?_)))) B4.out.size B4.out⟩
    · rw [if_pos hf] at hR
      have d1 : (f != 0) = true := by simpa using hf
      have HR := Lib.hid hR
      clear hR hrg
      go_enter Tryz.func16, Tryz.ntmps16
      go_wp2_with fail
      refine (HF.out _ (HM.out.below (by (repeat (first | exact Below.refl _ _ | exact Hbl.out | refine Below.ext ?_ (by first | omega | (simp; omega) | simp) | refine Below.setCell ?_ (by first | omega | (simp; omega) | simp) _ | refine Below.alloc ?_ (by first | omega | (simp; omega) | simp) _ | refine Below.drew ?_ | refine below_drewN ?_ _ | refine Below.step (by assumption) (by first | omega | (simp; omega) | simp) ?_)))) (H.out.below (by (repeat (first | exact Below.refl _ _ | exact Hbl.out | refine Below.ext ?_ (by first | omega | (simp; omega) | simp) | refine Below.setCell ?_ (by first | omega | (simp; omega) | simp) _ | refine Below.alloc ?_ (by first | omega | (simp; omega) | simp) _ | refine Below.drew ?_ | refine below_drewN ?_ _ | refine Below.step (by assumption) (by first | omega | (simp; omega) | simp) ?_))))).mono ?_
      rintro e w1 ⟨rfl, b1⟩
      have p1 : w1.cell? ⟨w.heap.size, 1, none⟩ = some (.int .i64 b) := (b1.cell (p := ⟨w.heap.size, 1, none⟩) (by simp)).trans (by go_simp)
      have p3 : w1.cell? ⟨w.heap.size, 3, none⟩ = some (.int .i64 d) := (b1.cell (p := ⟨w.heap.size, 3, none⟩) (by simp)).trans (by go_simp)
      have hz1 : w.heap.size < w1.heap.size := by have := b1.size; simp at this; omega
      have B1 := Lib.hid (Below.step b1 (by simp) (show Below w.heap.size w _ from (by (repeat (first | exact Below.refl _ _ | exact Hbl.out | refine Below.ext ?_ (by first | omega | (simp; omega) | simp) | refine Below.setCell ?_ (by first | omega | (simp; omega) | simp) _ | refine Below.alloc ?_ (by first | omega | (simp; omega) | simp) _ | refine Below.drew ?_ | refine below_drewN ?_ _ | refine Below.step (by assumption) (by first | omega | (simp; omega) | simp) ?_)))))
      clear b1
      go_wp2_with (go_at_call 36; refine (l1In_any _ _ _ _).mono ?_; rintro e w' ⟨rfl, rfl⟩)
      go_ret2
      rw [HR.out]
      exact ⟨_, [], rfl, treeC_empty (by first | exact ownG_none _ _ | exact ownG_empty _ (by first | rfl | (simp; done)) (by first | exact B1.out.size | (simp; have := B1.out.size; omega))), Below.step (show Below w1.heap.size w1 _ from (by (repeat (first | exact Below.refl _ _ | exact Hbl.out | refine Below.ext ?_ (by first | omega | (simp; omega) | simp) | refine Below.setCell ?_ (by first | omega | (simp; omega) | simp) _ | refine Below.alloc ?_ (by first | omega | (simp; omega) | simp) _ | refine Below.drew ?_ | refine below_drewN ?_ _ | refine Below.step (by assumption) (by first | omega | (simp; omega) | simp) ?_)))) B1.out.size B1.out⟩
end Go.Proofs.YthfneaaenlgegaaGreatDoor
