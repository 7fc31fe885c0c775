/- MayDrop, in the package and in the reference. -/
import Derived.Test.YtkennmpbmbacpaaGreatDoorFile3
import Derived.Deep.QuietTactic
set_option linter.unusedSimpArgs false
set_option linter.unusedVariables false
set_option linter.unusedSectionVars false
namespace Go.Proofs.YtkennmpbmbacpaaGreatDoor
open Go.RowKit

theorem sticky_bit {mo : Int} (h : inB mo 0 1023 = true) : (bits .and .i64 mo 512 != 0) = decide (512 ≤ mo) := by
  obtain ⟨m0, m1⟩ := inB_iffL.1 h
  obtain ⟨k, rfl⟩ : ∃ k : Nat, mo = (k : Int) := ⟨mo.toNat, by omega⟩
  have e := and_nat k 512 (by omega) (by omega)
  have hd : ∀ k, k < 1024 → k &&& 512 = if 512 ≤ k then 512 else 0 := by decide +kernel
  have hb := hd k (by omega)
  rw [show (512 : Int) = ((512 : Nat) : Int) from rfl, e, hb]
  by_cases hk : 512 ≤ k
  · rw [if_pos hk, decide_eq_true (by omega)]; rfl
  · rw [if_neg hk, decide_eq_false (by omega)]; rfl
theorem bne_not {a b : Int} : (a != b) = !(a == b) := rfl
/-- The way through the four tests. -/
theorem sticky4 (b : Int) (x y : Nd) : (decide (512 ≤ x.mo) = false ∧ stickyB b x y = false) ∨ (decide (512 ≤ x.mo) = true ∧ (b != 0) = false ∧ stickyB b x y = false) ∨ (decide (512 ≤ x.mo) = true ∧ (b != 0) = true ∧ (b != x.ow) = false ∧ stickyB b x y = false) ∨
    (decide (512 ≤ x.mo) = true ∧ (b != 0) = true ∧ (b != x.ow) = true ∧ (b != y.ow) = false ∧ stickyB b x y = false) ∨ (decide (512 ≤ x.mo) = true ∧ (b != 0) = true ∧ (b != x.ow) = true ∧ (b != y.ow) = true ∧ stickyB b x y = true) := by
  unfold stickyB
  simp only [bne_not]
  cases decide (512 ≤ x.mo) <;> cases (b == 0) <;> cases (b == x.ow) <;> cases (b == y.ow) <;> simp
set_option maxRecDepth 100000 in
set_option maxHeartbeats 8000000 in
theorem dropOfI_of (v : Value) (t : List Nd) (a b c d : Int) (S : ByteArray) (full : Bool) (w : World) (hM : MaxL w) (h : TreeR w v t) (ht : t.length ≤ 1000) (hkz : (kidsOf t).length ≤ 1000000) (hs : S.size ≤ 1048576) :
    Calls Tryz.prog 50 #[v, .agg #[.int .i64 a, .int .i64 b, .int .i64 c, .int .i64 d], .string S, .bool full] w fun e w' => e = .returned (.int .i64 (dropOf t a b c d S.data.toList full)) ∧ Below w.heap.size w w' := by
  have h1 := fun w hm h => upI_of v t a b c d S w hm h ht hkz hs
  unfold dropOf
  generalize S.data.toList = s at h1 ⊢
  have hy := @up_yes t a b c d s
  have hrg := @findF_range t a b c d (aboveF s)
  generalize upF t a b c d s = F at h1 hy ⊢
  obtain ⟨n, f⟩ := F
  simp only at h1 hy ⊢
  generalize lastF s = sl at h1 ⊢
  have H := Lib.hid h
  have HM := Lib.hid hM
  have H1 := Lib.hid h1
  obtain ⟨A, cap, rfl⟩ := h.shape
  have hcap := h.caps
  clear h h1 hM
  by_cases hf : f = 0
  · subst hf
    rw [if_neg (show ¬ ¬ (0 : Int) = 0 by simp)]
    have h1 := H1.out
    clear H1
    rw [if_pos rfl] at h1
    have H1 := Lib.hid h1
    clear h1
    obtain ⟨_, e1, e2, _, _⟩ := hy rfl
    obtain ⟨g1, _, _, g4, g5⟩ := hrg e1
    rw [← e2] at g4 g5
    obtain ⟨m, rfl⟩ : ∃ m : Nat, n = (m : Int) := ⟨n.toNat, by omega⟩
    have hm : m < t.length := by omega
    have hm' : (m : Int) < (t.length : Int) := by omega
    rw [Int.toNat_natCast]
    have hns := head_ks (tree_node g1 hm)
    have hasc := asc_of (tree_node g1 hm)
    have hfew := (few_of g1 hkz m hm).1
    have hkr := kid_range g1 hm sl
    have hst := sticky_bit (head_in (tree_node g1 hm)).2.2
    have Hkid := Lib.hid (fun nA nC kA kC w h => kidI_of nA nC kA kC (kth t m) sl w h hns hasc hfew)
    generalize kidF (kth t m) sl = z at Hkid hkr ⊢
    clear hrg hy e1 e2 g1 hns hasc hfew
    by_cases hz : z < 0
    · rw [if_pos hz]
      clear hst hkr
      go_enter Tryz.func50, Tryz.ntmps50
      go_wp2_with fail
      refine (H1.out _ (HM.out.below (by (repeat (first | exact Below.refl _ _ | exact Hbl.out | refine Below.ext ?_ (by first | omega | (simp; omega) | simp) | refine Below.setCell ?_ (by first | omega | (simp; omega) | simp) _ | refine Below.alloc ?_ (by first | omega | (simp; omega) | simp) _ | refine Below.drew ?_ | refine below_drewN ?_ _ | refine Below.step (by assumption) (by first | omega | (simp; omega) | simp) ?_)))) (H.out.below (by (repeat (first | exact Below.refl _ _ | exact Hbl.out | refine Below.ext ?_ (by first | omega | (simp; omega) | simp) | refine Below.setCell ?_ (by first | omega | (simp; omega) | simp) _ | refine Below.alloc ?_ (by first | omega | (simp; omega) | simp) _ | refine Below.drew ?_ | refine below_drewN ?_ _ | refine Below.step (by assumption) (by first | omega | (simp; omega) | simp) ?_))))).mono ?_
      rintro e w1 ⟨rfl, b1⟩
      have B1 := Lib.hid (Below.step b1 (by simp) (show Below w.heap.size w _ from (by (repeat (first | exact Below.refl _ _ | exact Hbl.out | refine Below.ext ?_ (by first | omega | (simp; omega) | simp) | refine Below.setCell ?_ (by first | omega | (simp; omega) | simp) _ | refine Below.alloc ?_ (by first | omega | (simp; omega) | simp) _ | refine Below.drew ?_ | refine below_drewN ?_ _ | refine Below.step (by assumption) (by first | omega | (simp; omega) | simp) ?_)))))
      clear b1
      obtain ⟨bt, ot, nA, nC, kA, kC, rfl, hbt, hS, y0, y1, y2, y3, y4, y5, y6⟩ := (H.out.below B1.out).at_ (kth_at hm)
      have HS := Lib.hid hS
      clear hS
      go_wp2_with fail
      refine (Hkid.out _ _ _ _ _ (HS.out.below (by (repeat (first | exact Below.refl _ _ | exact Hbl.out | refine Below.ext ?_ (by first | omega | (simp; omega) | simp) | refine Below.setCell ?_ (by first | omega | (simp; omega) | simp) _ | refine Below.alloc ?_ (by first | omega | (simp; omega) | simp) _ | refine Below.drew ?_ | refine below_drewN ?_ _ | refine Below.step (by assumption) (by first | omega | (simp; omega) | simp) ?_))))).mono ?_
      rintro e w2 ⟨rfl, b2⟩
      have B2 := Lib.hid (Below.step b2 B1.out.size B1.out)
      clear b2
      go_wp2
      go_ret
      exact ⟨rfl, B2.out⟩
    · rw [if_neg hz]
      have hz2 : z < (t.length : Int) := by omega
      obtain ⟨m2, rfl⟩ : ∃ m' : Nat, z = (m' : Int) := ⟨z.toNat, by omega⟩
      have hm2 : m2 < t.length := by omega
      rw [Int.toNat_natCast]
      clear hkr
      obtain ⟨K, hK⟩ : ∃ K : Int, K = (if stickyB b (kth t m) (kth t m2) = true then 3 else if (!full && !((kth t m2).ns.length == 0)) = true then 7 else 0) := ⟨_, rfl⟩
      rw [← hK]
      go_enter Tryz.func50, Tryz.ntmps50
      go_wp2_with fail
      refine (H1.out _ (HM.out.below (by (repeat (first | exact Below.refl _ _ | exact Hbl.out | refine Below.ext ?_ (by first | omega | (simp; omega) | simp) | refine Below.setCell ?_ (by first | omega | (simp; omega) | simp) _ | refine Below.alloc ?_ (by first | omega | (simp; omega) | simp) _ | refine Below.drew ?_ | refine below_drewN ?_ _ | refine Below.step (by assumption) (by first | omega | (simp; omega) | simp) ?_)))) (H.out.below (by (repeat (first | exact Below.refl _ _ | exact Hbl.out | refine Below.ext ?_ (by first | omega | (simp; omega) | simp) | refine Below.setCell ?_ (by first | omega | (simp; omega) | simp) _ | refine Below.alloc ?_ (by first | omega | (simp; omega) | simp) _ | refine Below.drew ?_ | refine below_drewN ?_ _ | refine Below.step (by assumption) (by first | omega | (simp; omega) | simp) ?_))))).mono ?_
      rintro e w1 ⟨rfl, b1⟩
      have p0 : w1.cell? ⟨w.heap.size, 0, none⟩ = some (.int .i64 a) := (b1.cell (p := ⟨w.heap.size, 0, none⟩) (by first | (simp; done) | (simp; omega) | omega)).trans (by first | assumption | go_simp)
      have p1 : w1.cell? ⟨w.heap.size, 1, none⟩ = some (.int .i64 b) := (b1.cell (p := ⟨w.heap.size, 1, none⟩) (by first | (simp; done) | (simp; omega) | omega)).trans (by first | assumption | go_simp)
      have p2 : w1.cell? ⟨w.heap.size, 2, none⟩ = some (.int .i64 c) := (b1.cell (p := ⟨w.heap.size, 2, none⟩) (by first | (simp; done) | (simp; omega) | omega)).trans (by first | assumption | go_simp)
      have p3 : w1.cell? ⟨w.heap.size, 3, none⟩ = some (.int .i64 d) := (b1.cell (p := ⟨w.heap.size, 3, none⟩) (by first | (simp; done) | (simp; omega) | omega)).trans (by first | assumption | go_simp)
      have hz1 : w.heap.size < w1.heap.size := by have := b1.size; simp at this; omega
      have B1 := Lib.hid (Below.step b1 (by simp) (show Below w.heap.size w _ from (by (repeat (first | exact Below.refl _ _ | exact Hbl.out | refine Below.ext ?_ (by first | omega | (simp; omega) | simp) | refine Below.setCell ?_ (by first | omega | (simp; omega) | simp) _ | refine Below.alloc ?_ (by first | omega | (simp; omega) | simp) _ | refine Below.drew ?_ | refine below_drewN ?_ _ | refine Below.step (by assumption) (by first | omega | (simp; omega) | simp) ?_)))))
      clear b1
      obtain ⟨bt, ot, nA, nC, kA, kC, rfl, hbt, hS, y0, y1, y2, y3, y4, y5, y6⟩ := (H.out.below B1.out).at_ (kth_at hm)
      obtain ⟨bt', ot', nA2, nC2, kA2, kC2, ee, _, hS2, _, x1, _, _, _, x5, _⟩ := (H.out.below B1.out).at_ (kth_at hm2)
      cases ee
      have hc2 := hS2.ns.caps
      have HS := Lib.hid hS
      clear hS hS2
      go_wp2_with fail
      refine (Hkid.out _ _ _ _ _ (HS.out.below (by (repeat (first | exact Below.refl _ _ | exact Hbl.out | refine Below.ext ?_ (by first | omega | (simp; omega) | simp) | refine Below.setCell ?_ (by first | omega | (simp; omega) | simp) _ | refine Below.alloc ?_ (by first | omega | (simp; omega) | simp) _ | refine Below.drew ?_ | refine below_drewN ?_ _ | refine Below.step (by assumption) (by first | omega | (simp; omega) | simp) ?_))))).mono ?_
      rintro e w' ⟨rfl, hb⟩
      obtain ⟨d5, os5, rfl⟩ := ext_of_below hb
      clear hb
      have HK := Lib.hid hK
      have Hst := Lib.hid hst
      clear hK hst
      have hzl : (kth t m2).ns.length = 0 ∨ ¬ (kth t m2).ns.length = 0 := Classical.em _
      rcases sticky4 b (kth t m) (kth t m2) with ⟨s1, s5⟩ | ⟨s1, s2, s5⟩ | ⟨s1, s2, s3, s5⟩ | ⟨s1, s2, s3, s4, s5⟩ | ⟨s1, s2, s3, s4, s5⟩
      all_goals
        have hK := HK.out
        rw [s5] at hK
        have r1 := Hst.out
        rw [s1] at r1
        cases full
        · rcases hzl with hl | hl
          all_goals
            have hl1 : (0 : Int) < ((kth t m2).ns.length : Int) ↔ ¬ (kth t m2).ns.length = 0 := by omega
            simp [hl] at hK hl1
            go_wp2_with fail
            go_quiet (fail)
            go_wp2
            all_goals
              go_ret
              exact ⟨by rw [hK]; rfl, Below.step (show Below w1.heap.size w1 _ from (by (repeat (first | exact Below.refl _ _ | exact Hbl.out | refine Below.ext ?_ (by first | omega | (simp; omega) | simp) | refine Below.setCell ?_ (by first | omega | (simp; omega) | simp) _ | refine Below.alloc ?_ (by first | omega | (simp; omega) | simp) _ | refine Below.drew ?_ | refine below_drewN ?_ _ | refine Below.step (by assumption) (by first | omega | (simp; omega) | simp) ?_)))) B1.out.size B1.out⟩
        · simp at hK
          go_wp2_with fail
          go_quiet (fail)
          go_wp2
          all_goals
            go_ret
            exact ⟨by rw [hK]; rfl, Below.step (show Below w1.heap.size w1 _ from (by (repeat (first | exact Below.refl _ _ | exact Hbl.out | refine Below.ext ?_ (by first | omega | (simp; omega) | simp) | refine Below.setCell ?_ (by first | omega | (simp; omega) | simp) _ | refine Below.alloc ?_ (by first | omega | (simp; omega) | simp) _ | refine Below.drew ?_ | refine below_drewN ?_ _ | refine Below.step (by assumption) (by first | omega | (simp; omega) | simp) ?_)))) B1.out.size B1.out⟩
  · rw [if_pos hf]
    have h1 := H1.out
    clear H1
    rw [if_neg hf] at h1
    have H1 := Lib.hid h1
    clear h1
    clear hrg hy
    go_enter Tryz.func50, Tryz.ntmps50
    go_wp2_with fail
    refine (H1.out _ (HM.out.below (by (repeat (first | exact Below.refl _ _ | exact Hbl.out | refine Below.ext ?_ (by first | omega | (simp; omega) | simp) | refine Below.setCell ?_ (by first | omega | (simp; omega) | simp) _ | refine Below.alloc ?_ (by first | omega | (simp; omega) | simp) _ | refine Below.drew ?_ | refine below_drewN ?_ _ | refine Below.step (by assumption) (by first | omega | (simp; omega) | simp) ?_)))) (H.out.below (by (repeat (first | exact Below.refl _ _ | exact Hbl.out | refine Below.ext ?_ (by first | omega | (simp; omega) | simp) | refine Below.setCell ?_ (by first | omega | (simp; omega) | simp) _ | refine Below.alloc ?_ (by first | omega | (simp; omega) | simp) _ | refine Below.drew ?_ | refine below_drewN ?_ _ | refine Below.step (by assumption) (by first | omega | (simp; omega) | simp) ?_))))).mono ?_
    rintro e w1 ⟨rfl, b1⟩
    have B1 := Lib.hid (Below.step b1 (by simp) (show Below w.heap.size w _ from (by (repeat (first | exact Below.refl _ _ | exact Hbl.out | refine Below.ext ?_ (by first | omega | (simp; omega) | simp) | refine Below.setCell ?_ (by first | omega | (simp; omega) | simp) _ | refine Below.alloc ?_ (by first | omega | (simp; omega) | simp) _ | refine Below.drew ?_ | refine below_drewN ?_ _ | refine Below.step (by assumption) (by first | omega | (simp; omega) | simp) ?_)))))
    clear b1
    go_wp2
    go_ret
    exact ⟨rfl, B1.out⟩
set_option maxHeartbeats 1000000 in
theorem dropI_of (v : Value) (t : List Nd) (a b c d : Int) (S : ByteArray) (w : World) (hM : MaxL w) (h : TreeR w v t) (ht : t.length ≤ 1000) (hkz : (kidsOf t).length ≤ 1000000) (hs : S.size ≤ 1048576) :
    Calls Tryz.prog 14 #[v, .agg #[.int .i64 a, .int .i64 b, .int .i64 c, .int .i64 d], .string S] w fun e w' => e = .returned (.int .i64 (dropOf t a b c d S.data.toList false)) ∧ Below w.heap.size w w' := by
  have h1 := fun w hm h => dropOfI_of v t a b c d S false w hm h ht hkz hs
  have H := Lib.hid h
  have HM := Lib.hid hM
  have H1 := Lib.hid h1
  obtain ⟨A, cap, rfl⟩ := h.shape
  clear h hM h1
  go_enter Tryz.func14, Tryz.ntmps14
  go_wp2_with fail
  refine (H1.out _ (HM.out.below (by (repeat (first | exact Below.refl _ _ | exact Hbl.out | refine Below.ext ?_ (by first | omega | (simp; omega) | simp) | refine Below.setCell ?_ (by first | omega | (simp; omega) | simp) _ | refine Below.alloc ?_ (by first | omega | (simp; omega) | simp) _ | refine Below.drew ?_ | refine below_drewN ?_ _ | refine Below.step (by assumption) (by first | omega | (simp; omega) | simp) ?_)))) (H.out.below (by (repeat (first | exact Below.refl _ _ | exact Hbl.out | refine Below.ext ?_ (by first | omega | (simp; omega) | simp) | refine Below.setCell ?_ (by first | omega | (simp; omega) | simp) _ | refine Below.alloc ?_ (by first | omega | (simp; omega) | simp) _ | refine Below.drew ?_ | refine below_drewN ?_ _ | refine Below.step (by assumption) (by first | omega | (simp; omega) | simp) ?_))))).mono ?_
  rintro e w1 ⟨rfl, b1⟩
  obtain ⟨d1, os1, rfl⟩ := ext_of_below b1
  clear b1
  go_wp2
  go_ret
  exact ⟨rfl, (by (repeat (first | exact Below.refl _ _ | exact Hbl.out | refine Below.ext ?_ (by first | omega | (simp; omega) | simp) | refine Below.setCell ?_ (by first | omega | (simp; omega) | simp) _ | refine Below.alloc ?_ (by first | omega | (simp; omega) | simp) _ | refine Below.drew ?_ | refine below_drewN ?_ _ | refine Below.step (by assumption) (by first | omega | (simp; omega) | simp) ?_)))⟩
end Go.Proofs.YtkennmpbmbacpaaGreatDoor
