/- ListNames, in the package and in the reference. -/
import Derived.Test.YthfneaaenlgegaaGreatDoorFile
import Derived.Test.YthfneaaenlgegaaGreatDoorCloneL
import Derived.Deep.RegionHeld3
set_option linter.unusedSimpArgs false
set_option linter.unusedVariables false
set_option linter.unusedSectionVars false
namespace Go.Proofs.YthfneaaenlgegaaGreatDoor
open Go.RowKit

/-- The names in the directory at a path. -/
def listF (t : List Nd) (a b c d : Int) (s : List UInt8) : List (List UInt8) × Int :=
  if ¬ (findF t a b c d s).2 = 0 then ([], (findF t a b c d s).2) else if (kth t (findF t a b c d s).1.toNat).fo = false then ([], 4)
  else if mayF a b c d (kth t (findF t a b c d s).1.toNat).ow (kth t (findF t a b c d s).1.toNat).gr (kth t (findF t a b c d s).1.toNat).mo 4 = false then ([], 3) else ((kth t (findF t a b c d s).1.toNat).ns, 0)
set_option maxRecDepth 100000 in
set_option maxHeartbeats 8000000 in
theorem listI_of (v : Value) (t : List Nd) (a b c d : Int) (S : ByteArray) (w : World) (hM : MaxL w) (h : TreeR w v t) (ht : t.length ≤ 1000) (hkz : (kidsOf t).length ≤ 1000000) (hs : S.size ≤ 1048576) :
    Calls Tryz.prog 19 #[v, .agg #[.int .i64 a, .int .i64 b, .int .i64 c, .int .i64 d], .string S] w fun e w' => ∃ v', e = .returned (.tuple #[v', .int .i64 (listF t a b c d S.data.toList).2]) ∧ OwnG EL 9 w.heap.size w' v' (listF t a b c d S.data.toList).1 ∧ Below w.heap.size w w' := by
  have hF := fun w hm h => findI_of v t a b c d S w hm h ht hkz hs
  obtain ⟨R, hR⟩ : ∃ R, R = listF t a b c d S.data.toList := ⟨_, rfl⟩
  rw [← hR]
  unfold listF at hR
  generalize S.data.toList = s at hF hR
  have hrg := @findF_range t a b c d s
  generalize findF t a b c d s = F at hF hrg hR
  obtain ⟨n, f⟩ := F
  simp only at hF hrg hR
  have HF := Lib.hid hF
  have H := Lib.hid h
  have HM := Lib.hid hM
  obtain ⟨A, cap, rfl⟩ := h.shape
  have hcap := h.caps
  clear h hF hM
  by_cases hf : f = 0
  · subst hf
    rw [if_neg (show ¬ ¬ (0 : Int) = 0 by simp)] at hR
    obtain ⟨g1, g2, _, g4, g5⟩ := hrg rfl
    obtain ⟨m, rfl⟩ : ∃ m : Nat, n = (m : Int) := ⟨n.toNat, by omega⟩
    have hm : m < t.length := by omega
    have hm' : (m : Int) < (t.length : Int) := by omega
    rw [Int.toNat_natCast] at hR
    obtain ⟨v1, v2, v3⟩ := head_in (tree_node g1 hm)
    have Hmay := Lib.hid (fun w nA nL nC kA kL kC => allowsI_any a b c d 4 (kth t m) nA nL nC kA kL kC w g2 v1 v2 v3 (by decide))
    have hfew := (few_of g1 hkz m hm).1
    generalize mayF a b c d (kth t m).ow (kth t m).gr (kth t m).mo 4 = may at Hmay hR
    clear hrg v1 v2 v3 g1 g2
    cases hfo : (kth t m).fo
    · rw [if_pos hfo] at hR
      have HR := Lib.hid hR
      clear hR
      go_enter Tryz.func19, Tryz.ntmps19
      go_wp2_with fail
      refine (HF.out _ (HM.out.below (by (repeat (first | exact Below.refl _ _ | exact Hbl.out | refine Below.ext ?_ (by first | omega | (simp; omega) | simp) | refine Below.setCell ?_ (by first | omega | (simp; omega) | simp) _ | refine Below.alloc ?_ (by first | omega | (simp; omega) | simp) _ | refine Below.drew ?_ | refine below_drewN ?_ _ | refine Below.step (by assumption) (by first | omega | (simp; omega) | simp) ?_)))) (H.out.below (by (repeat (first | exact Below.refl _ _ | exact Hbl.out | refine Below.ext ?_ (by first | omega | (simp; omega) | simp) | refine Below.setCell ?_ (by first | omega | (simp; omega) | simp) _ | refine Below.alloc ?_ (by first | omega | (simp; omega) | simp) _ | refine Below.drew ?_ | refine below_drewN ?_ _ | refine Below.step (by assumption) (by first | omega | (simp; omega) | simp) ?_))))).mono ?_
      rintro e w1 ⟨rfl, b1⟩
      have B1 := Lib.hid (Below.step b1 (by simp) (show Below w.heap.size w _ from (by (repeat (first | exact Below.refl _ _ | exact Hbl.out | refine Below.ext ?_ (by first | omega | (simp; omega) | simp) | refine Below.setCell ?_ (by first | omega | (simp; omega) | simp) _ | refine Below.alloc ?_ (by first | omega | (simp; omega) | simp) _ | refine Below.drew ?_ | refine below_drewN ?_ _ | refine Below.step (by assumption) (by first | omega | (simp; omega) | simp) ?_)))))
      clear b1
      obtain ⟨bt, ot, nA, nC, kA, kC, rfl, hbt, _, y0, _⟩ := (H.out.below B1.out).at_ (kth_at hm)
      rw [hfo] at y0
      go_wp2
      go_ret2
      rw [HR.out]
      exact ⟨_, rfl, by first | exact ownG_none _ _ | exact ownG_empty _ (by first | rfl | (simp; done)) (by first | exact B1.out.size | (simp; have := B1.out.size; omega)), Below.step (show Below w1.heap.size w1 _ from (by (repeat (first | exact Below.refl _ _ | exact Hbl.out | refine Below.ext ?_ (by first | omega | (simp; omega) | simp) | refine Below.setCell ?_ (by first | omega | (simp; omega) | simp) _ | refine Below.alloc ?_ (by first | omega | (simp; omega) | simp) _ | refine Below.drew ?_ | refine below_drewN ?_ _ | refine Below.step (by assumption) (by first | omega | (simp; omega) | simp) ?_)))) B1.out.size B1.out⟩
    · rw [if_neg (show ¬ (kth t m).fo = false by rw [hfo]; simp)] at hR
      cases may
      · rw [if_pos rfl] at hR
        have HR := Lib.hid hR
        clear hR
        go_enter Tryz.func19, Tryz.ntmps19
        go_wp2_with fail
        refine (HF.out _ (HM.out.below (by (repeat (first | exact Below.refl _ _ | exact Hbl.out | refine Below.ext ?_ (by first | omega | (simp; omega) | simp) | refine Below.setCell ?_ (by first | omega | (simp; omega) | simp) _ | refine Below.alloc ?_ (by first | omega | (simp; omega) | simp) _ | refine Below.drew ?_ | refine below_drewN ?_ _ | refine Below.step (by assumption) (by first | omega | (simp; omega) | simp) ?_)))) (H.out.below (by (repeat (first | exact Below.refl _ _ | exact Hbl.out | refine Below.ext ?_ (by first | omega | (simp; omega) | simp) | refine Below.setCell ?_ (by first | omega | (simp; omega) | simp) _ | refine Below.alloc ?_ (by first | omega | (simp; omega) | simp) _ | refine Below.drew ?_ | refine below_drewN ?_ _ | refine Below.step (by assumption) (by first | omega | (simp; omega) | simp) ?_))))).mono ?_
        rintro e w1 ⟨rfl, b1⟩
        have p0 : w1.cell? ⟨w.heap.size, 0, none⟩ = some (.int .i64 a) := (b1.cell (p := ⟨w.heap.size, 0, none⟩) (by first | (simp; done) | (simp; omega) | omega)).trans (by first | assumption | go_simp)
        have p1 : w1.cell? ⟨w.heap.size, 1, none⟩ = some (.int .i64 b) := (b1.cell (p := ⟨w.heap.size, 1, none⟩) (by first | (simp; done) | (simp; omega) | omega)).trans (by first | assumption | go_simp)
        have p2 : w1.cell? ⟨w.heap.size, 2, none⟩ = some (.int .i64 c) := (b1.cell (p := ⟨w.heap.size, 2, none⟩) (by first | (simp; done) | (simp; omega) | omega)).trans (by first | assumption | go_simp)
        have p3 : w1.cell? ⟨w.heap.size, 3, none⟩ = some (.int .i64 d) := (b1.cell (p := ⟨w.heap.size, 3, none⟩) (by first | (simp; done) | (simp; omega) | omega)).trans (by first | assumption | go_simp)
        have hz1 : w.heap.size < w1.heap.size := by have := b1.size; simp at this; omega
        have B1 := Lib.hid (Below.step b1 (by simp) (show Below w.heap.size w _ from (by (repeat (first | exact Below.refl _ _ | exact Hbl.out | refine Below.ext ?_ (by first | omega | (simp; omega) | simp) | refine Below.setCell ?_ (by first | omega | (simp; omega) | simp) _ | refine Below.alloc ?_ (by first | omega | (simp; omega) | simp) _ | refine Below.drew ?_ | refine below_drewN ?_ _ | refine Below.step (by assumption) (by first | omega | (simp; omega) | simp) ?_)))))
        clear b1
        obtain ⟨bt, ot, nA, nC, kA, kC, rfl, hbt, _, y0, y1, y2, y3, y4, y5, y6⟩ := (H.out.below B1.out).at_ (kth_at hm)
        rw [hfo] at y0 Hmay
        go_wp2_with fail
        go_region_held3 (fun w' => w'.cell? ⟨w.heap.size, 0, none⟩ = some (.int .i64 a) ∧ w'.cell? ⟨w.heap.size, 1, none⟩ = some (.int .i64 b) ∧ w'.cell? ⟨w.heap.size, 2, none⟩ = some (.int .i64 c) ∧ w'.cell? ⟨w.heap.size, 3, none⟩ = some (.int .i64 d) ∧ w'.cell? ⟨bt, ot + m * 7, none⟩ = some (.bool true) ∧ w'.cell? ⟨bt, ot + m * 7 + 1, none⟩ = some (.int .i64 (kth t m).ow) ∧ w'.cell? ⟨bt, ot + m * 7 + 2, none⟩ = some (.int .i64 (kth t m).gr) ∧ w'.cell? ⟨bt, ot + m * 7 + 3, none⟩ = some (.int .i64 (kth t m).mo) ∧ w'.cell? ⟨bt, ot + m * 7 + 4, none⟩ = some (.string (kth t m).tx) ∧ w'.cell? ⟨bt, ot + m * 7 + 5, none⟩ = some (.slice nA (kth t m).ns.length nC) ∧ w'.cell? ⟨bt, ot + m * 7 + 6, none⟩ = some (.slice kA (kth t m).ks.length kC)) (first | assumption | (go_simp; done) | fail) (first | (go_at_call 43; refine (Hmay.out _ _ _ _ _ _ _).mono ?_; rintro e w' ⟨rfl, hb⟩; obtain ⟨d4, os4, rfl⟩ := ext_of_below hb; clear hb))
        all_goals
          go_wp2
          go_ret2
          rw [HR.out]
          exact ⟨_, rfl, by first | exact ownG_none _ _ | exact ownG_empty _ (by first | rfl | (simp; done)) (by first | exact B1.out.size | (simp; have := B1.out.size; omega)), Below.step (show Below w1.heap.size w1 _ from (by (repeat (first | exact Below.refl _ _ | exact Hbl.out | refine Below.ext ?_ (by first | omega | (simp; omega) | simp) | refine Below.setCell ?_ (by first | omega | (simp; omega) | simp) _ | refine Below.alloc ?_ (by first | omega | (simp; omega) | simp) _ | refine Below.drew ?_ | refine below_drewN ?_ _ | refine Below.step (by assumption) (by first | omega | (simp; omega) | simp) ?_)))) B1.out.size B1.out⟩
      · rw [if_neg (by simp)] at hR
        have HR := Lib.hid hR
        clear hR
        go_enter Tryz.func19, Tryz.ntmps19
        go_wp2_with fail
        refine (HF.out _ (HM.out.below (by (repeat (first | exact Below.refl _ _ | exact Hbl.out | refine Below.ext ?_ (by first | omega | (simp; omega) | simp) | refine Below.setCell ?_ (by first | omega | (simp; omega) | simp) _ | refine Below.alloc ?_ (by first | omega | (simp; omega) | simp) _ | refine Below.drew ?_ | refine below_drewN ?_ _ | refine Below.step (by assumption) (by first | omega | (simp; omega) | simp) ?_)))) (H.out.below (by (repeat (first | exact Below.refl _ _ | exact Hbl.out | refine Below.ext ?_ (by first | omega | (simp; omega) | simp) | refine Below.setCell ?_ (by first | omega | (simp; omega) | simp) _ | refine Below.alloc ?_ (by first | omega | (simp; omega) | simp) _ | refine Below.drew ?_ | refine below_drewN ?_ _ | refine Below.step (by assumption) (by first | omega | (simp; omega) | simp) ?_))))).mono ?_
        rintro e w1 ⟨rfl, b1⟩
        have p0 : w1.cell? ⟨w.heap.size, 0, none⟩ = some (.int .i64 a) := (b1.cell (p := ⟨w.heap.size, 0, none⟩) (by first | (simp; done) | (simp; omega) | omega)).trans (by first | assumption | go_simp)
        have p1 : w1.cell? ⟨w.heap.size, 1, none⟩ = some (.int .i64 b) := (b1.cell (p := ⟨w.heap.size, 1, none⟩) (by first | (simp; done) | (simp; omega) | omega)).trans (by first | assumption | go_simp)
        have p2 : w1.cell? ⟨w.heap.size, 2, none⟩ = some (.int .i64 c) := (b1.cell (p := ⟨w.heap.size, 2, none⟩) (by first | (simp; done) | (simp; omega) | omega)).trans (by first | assumption | go_simp)
        have p3 : w1.cell? ⟨w.heap.size, 3, none⟩ = some (.int .i64 d) := (b1.cell (p := ⟨w.heap.size, 3, none⟩) (by first | (simp; done) | (simp; omega) | omega)).trans (by first | assumption | go_simp)
        have hz1 : w.heap.size < w1.heap.size := by have := b1.size; simp at this; omega
        have B1 := Lib.hid (Below.step b1 (by simp) (show Below w.heap.size w _ from (by (repeat (first | exact Below.refl _ _ | exact Hbl.out | refine Below.ext ?_ (by first | omega | (simp; omega) | simp) | refine Below.setCell ?_ (by first | omega | (simp; omega) | simp) _ | refine Below.alloc ?_ (by first | omega | (simp; omega) | simp) _ | refine Below.drew ?_ | refine below_drewN ?_ _ | refine Below.step (by assumption) (by first | omega | (simp; omega) | simp) ?_)))))
        clear b1
        obtain ⟨bt, ot, nA, nC, kA, kC, rfl, hbt, hS, y0, y1, y2, y3, y4, y5, y6⟩ := (H.out.below B1.out).at_ (kth_at hm)
        have HNs := Lib.hid hS.ns
        rw [hfo] at y0 Hmay
        clear hS
        go_wp2_with fail
        go_region_held3 (fun w' => w'.cell? ⟨w.heap.size, 0, none⟩ = some (.int .i64 a) ∧ w'.cell? ⟨w.heap.size, 1, none⟩ = some (.int .i64 b) ∧ w'.cell? ⟨w.heap.size, 2, none⟩ = some (.int .i64 c) ∧ w'.cell? ⟨w.heap.size, 3, none⟩ = some (.int .i64 d) ∧ w'.cell? ⟨bt, ot + m * 7, none⟩ = some (.bool true) ∧ w'.cell? ⟨bt, ot + m * 7 + 1, none⟩ = some (.int .i64 (kth t m).ow) ∧ w'.cell? ⟨bt, ot + m * 7 + 2, none⟩ = some (.int .i64 (kth t m).gr) ∧ w'.cell? ⟨bt, ot + m * 7 + 3, none⟩ = some (.int .i64 (kth t m).mo) ∧ w'.cell? ⟨bt, ot + m * 7 + 4, none⟩ = some (.string (kth t m).tx) ∧ w'.cell? ⟨bt, ot + m * 7 + 5, none⟩ = some (.slice nA (kth t m).ns.length nC) ∧ w'.cell? ⟨bt, ot + m * 7 + 6, none⟩ = some (.slice kA (kth t m).ks.length kC)) (first | assumption | (go_simp; done) | fail) (first | (go_at_call 43; refine (Hmay.out _ _ _ _ _ _ _).mono ?_; rintro e w' ⟨rfl, hb⟩; obtain ⟨d4, os4, rfl⟩ := ext_of_below hb; clear hb))
        all_goals
          have b4 := below_ext w1 d4 os4
          have B4 := Lib.hid (Below.step b4 B1.out.size B1.out)
          go_upto_region 8 with fail
          have z5 : (ext w1 d4 os4).cell? ⟨bt, ot + m * 7 + 5, none⟩ = some (.slice nA (kth t m).ns.length nC) := (b4.cell (p := ⟨bt, ot + m * 7 + 5, none⟩) hbt).trans y5
          have hz4 : bt < (ext w1 d4 os4).heap.size := Nat.lt_of_lt_of_le hbt b4.size
          generalize ext w1 d4 os4 = W4 at b4 B4 z5 hz4 ⊢
          go_wp2_with fail
          refine (cloneL_of _ (kth t m).ns W4 (HNs.out.below b4) (by omega)).mono ?_
          rintro e w5 ⟨v5, rfl, o5, b5⟩
          obtain ⟨A5, c5, rfl⟩ := ownG_shape o5
          have O5 := Lib.hid (ownG_mono o5 B4.out.size)
          have B5 := Lib.hid (Below.step b5 B4.out.size B4.out)
          clear o5 b5
          go_wp2
          go_ret2
          rw [HR.out]
          exact ⟨_, rfl, O5.out, B5.out⟩
  · rw [if_pos hf] at hR
    have d1 : (f != 0) = true := by simpa using hf
    have HR := Lib.hid hR
    clear hR hrg
    go_enter Tryz.func19, Tryz.ntmps19
    go_wp2_with fail
    refine (HF.out _ (HM.out.below (by (repeat (first | exact Below.refl _ _ | exact Hbl.out | refine Below.ext ?_ (by first | omega | (simp; omega) | simp) | refine Below.setCell ?_ (by first | omega | (simp; omega) | simp) _ | refine Below.alloc ?_ (by first | omega | (simp; omega) | simp) _ | refine Below.drew ?_ | refine below_drewN ?_ _ | refine Below.step (by assumption) (by first | omega | (simp; omega) | simp) ?_)))) (H.out.below (by (repeat (first | exact Below.refl _ _ | exact Hbl.out | refine Below.ext ?_ (by first | omega | (simp; omega) | simp) | refine Below.setCell ?_ (by first | omega | (simp; omega) | simp) _ | refine Below.alloc ?_ (by first | omega | (simp; omega) | simp) _ | refine Below.drew ?_ | refine below_drewN ?_ _ | refine Below.step (by assumption) (by first | omega | (simp; omega) | simp) ?_))))).mono ?_
    rintro e w1 ⟨rfl, b1⟩
    have B1 := Lib.hid (Below.step b1 (by simp) (show Below w.heap.size w _ from (by (repeat (first | exact Below.refl _ _ | exact Hbl.out | refine Below.ext ?_ (by first | omega | (simp; omega) | simp) | refine Below.setCell ?_ (by first | omega | (simp; omega) | simp) _ | refine Below.alloc ?_ (by first | omega | (simp; omega) | simp) _ | refine Below.drew ?_ | refine below_drewN ?_ _ | refine Below.step (by assumption) (by first | omega | (simp; omega) | simp) ?_)))))
    clear b1
    go_wp2
    go_ret2
    rw [HR.out]
    exact ⟨_, rfl, by first | exact ownG_none _ _ | exact ownG_empty _ (by first | rfl | (simp; done)) (by first | exact B1.out.size | (simp; have := B1.out.size; omega)), Below.step (show Below w1.heap.size w1 _ from (by (repeat (first | exact Below.refl _ _ | exact Hbl.out | refine Below.ext ?_ (by first | omega | (simp; omega) | simp) | refine Below.setCell ?_ (by first | omega | (simp; omega) | simp) _ | refine Below.alloc ?_ (by first | omega | (simp; omega) | simp) _ | refine Below.drew ?_ | refine below_drewN ?_ _ | refine Below.step (by assumption) (by first | omega | (simp; omega) | simp) ?_)))) B1.out.size B1.out⟩
set_option maxRecDepth 100000 in
set_option maxHeartbeats 8000000 in
theorem listS_of (v : Value) (t : List Nd) (a b c d : Int) (S : ByteArray) (w : World) (hM : MaxS w) (h : TreeR w v t) (ht : t.length ≤ 1000) (hkz : (kidsOf t).length ≤ 1000000) (hs : S.size ≤ 1048576) :
    Calls Tryz.prog 20 #[v, .agg #[.int .i64 a, .int .i64 b, .int .i64 c, .int .i64 d], .string S] w fun e w' => ∃ v', e = .returned (.tuple #[v', .int .i64 (listF t a b c d S.data.toList).2]) ∧ OwnG EL 9 w.heap.size w' v' (listF t a b c d S.data.toList).1 ∧ Below w.heap.size w w' := by
  have hF := fun w hm h => findS2_of v t a b c d S w hm h ht hkz hs
  obtain ⟨R, hR⟩ : ∃ R, R = listF t a b c d S.data.toList := ⟨_, rfl⟩
  rw [← hR]
  unfold listF at hR
  generalize S.data.toList = s at hF hR
  have hrg := @findF_range t a b c d s
  generalize findF t a b c d s = F at hF hrg hR
  obtain ⟨n, f⟩ := F
  simp only at hF hrg hR
  have HF := Lib.hid hF
  have H := Lib.hid h
  have HM := Lib.hid hM
  obtain ⟨A, cap, rfl⟩ := h.shape
  have hcap := h.caps
  clear h hF hM
  by_cases hf : f = 0
  · subst hf
    rw [if_neg (show ¬ ¬ (0 : Int) = 0 by simp)] at hR
    obtain ⟨g1, g2, _, g4, g5⟩ := hrg rfl
    obtain ⟨m, rfl⟩ : ∃ m : Nat, n = (m : Int) := ⟨n.toNat, by omega⟩
    have hm : m < t.length := by omega
    have hm' : (m : Int) < (t.length : Int) := by omega
    rw [Int.toNat_natCast] at hR
    obtain ⟨v1, v2, v3⟩ := head_in (tree_node g1 hm)
    have Hmay := Lib.hid (fun w nA nL nC kA kL kC => l7May2_any a b c d 4 (kth t m) nA nL nC kA kL kC w g2 v1 v2 v3 (by decide))
    have hfew := (few_of g1 hkz m hm).1
    generalize mayF a b c d (kth t m).ow (kth t m).gr (kth t m).mo 4 = may at Hmay hR
    clear hrg v1 v2 v3 g1 g2
    cases hfo : (kth t m).fo
    · rw [if_pos hfo] at hR
      have HR := Lib.hid hR
      clear hR
      go_enter Tryz.func20, Tryz.ntmps20
      go_wp2_with fail
      refine (HF.out _ (HM.out.below (by (repeat (first | exact Below.refl _ _ | exact Hbl.out | refine Below.ext ?_ (by first | omega | (simp; omega) | simp) | refine Below.setCell ?_ (by first | omega | (simp; omega) | simp) _ | refine Below.alloc ?_ (by first | omega | (simp; omega) | simp) _ | refine Below.drew ?_ | refine below_drewN ?_ _ | refine Below.step (by assumption) (by first | omega | (simp; omega) | simp) ?_)))) (H.out.below (by (repeat (first | exact Below.refl _ _ | exact Hbl.out | refine Below.ext ?_ (by first | omega | (simp; omega) | simp) | refine Below.setCell ?_ (by first | omega | (simp; omega) | simp) _ | refine Below.alloc ?_ (by first | omega | (simp; omega) | simp) _ | refine Below.drew ?_ | refine below_drewN ?_ _ | refine Below.step (by assumption) (by first | omega | (simp; omega) | simp) ?_))))).mono ?_
      rintro e w1 ⟨rfl, b1⟩
      have B1 := Lib.hid (Below.step b1 (by simp) (show Below w.heap.size w _ from (by (repeat (first | exact Below.refl _ _ | exact Hbl.out | refine Below.ext ?_ (by first | omega | (simp; omega) | simp) | refine Below.setCell ?_ (by first | omega | (simp; omega) | simp) _ | refine Below.alloc ?_ (by first | omega | (simp; omega) | simp) _ | refine Below.drew ?_ | refine below_drewN ?_ _ | refine Below.step (by assumption) (by first | omega | (simp; omega) | simp) ?_)))))
      clear b1
      obtain ⟨bt, ot, nA, nC, kA, kC, rfl, hbt, _, y0, _⟩ := (H.out.below B1.out).at_ (kth_at hm)
      rw [hfo] at y0
      go_wp2
      go_ret2
      rw [HR.out]
      exact ⟨_, rfl, by first | exact ownG_none _ _ | exact ownG_empty _ (by first | rfl | (simp; done)) (by first | exact B1.out.size | (simp; have := B1.out.size; omega)), Below.step (show Below w1.heap.size w1 _ from (by (repeat (first | exact Below.refl _ _ | exact Hbl.out | refine Below.ext ?_ (by first | omega | (simp; omega) | simp) | refine Below.setCell ?_ (by first | omega | (simp; omega) | simp) _ | refine Below.alloc ?_ (by first | omega | (simp; omega) | simp) _ | refine Below.drew ?_ | refine below_drewN ?_ _ | refine Below.step (by assumption) (by first | omega | (simp; omega) | simp) ?_)))) B1.out.size B1.out⟩
    · rw [if_neg (show ¬ (kth t m).fo = false by rw [hfo]; simp)] at hR
      cases may
      · rw [if_pos rfl] at hR
        have HR := Lib.hid hR
        clear hR
        go_enter Tryz.func20, Tryz.ntmps20
        go_wp2_with fail
        refine (HF.out _ (HM.out.below (by (repeat (first | exact Below.refl _ _ | exact Hbl.out | refine Below.ext ?_ (by first | omega | (simp; omega) | simp) | refine Below.setCell ?_ (by first | omega | (simp; omega) | simp) _ | refine Below.alloc ?_ (by first | omega | (simp; omega) | simp) _ | refine Below.drew ?_ | refine below_drewN ?_ _ | refine Below.step (by assumption) (by first | omega | (simp; omega) | simp) ?_)))) (H.out.below (by (repeat (first | exact Below.refl _ _ | exact Hbl.out | refine Below.ext ?_ (by first | omega | (simp; omega) | simp) | refine Below.setCell ?_ (by first | omega | (simp; omega) | simp) _ | refine Below.alloc ?_ (by first | omega | (simp; omega) | simp) _ | refine Below.drew ?_ | refine below_drewN ?_ _ | refine Below.step (by assumption) (by first | omega | (simp; omega) | simp) ?_))))).mono ?_
        rintro e w1 ⟨rfl, b1⟩
        have p0 : w1.cell? ⟨w.heap.size, 0, none⟩ = some (.int .i64 a) := (b1.cell (p := ⟨w.heap.size, 0, none⟩) (by first | (simp; done) | (simp; omega) | omega)).trans (by first | assumption | go_simp)
        have p1 : w1.cell? ⟨w.heap.size, 1, none⟩ = some (.int .i64 b) := (b1.cell (p := ⟨w.heap.size, 1, none⟩) (by first | (simp; done) | (simp; omega) | omega)).trans (by first | assumption | go_simp)
        have p2 : w1.cell? ⟨w.heap.size, 2, none⟩ = some (.int .i64 c) := (b1.cell (p := ⟨w.heap.size, 2, none⟩) (by first | (simp; done) | (simp; omega) | omega)).trans (by first | assumption | go_simp)
        have p3 : w1.cell? ⟨w.heap.size, 3, none⟩ = some (.int .i64 d) := (b1.cell (p := ⟨w.heap.size, 3, none⟩) (by first | (simp; done) | (simp; omega) | omega)).trans (by first | assumption | go_simp)
        have hz1 : w.heap.size < w1.heap.size := by have := b1.size; simp at this; omega
        have B1 := Lib.hid (Below.step b1 (by simp) (show Below w.heap.size w _ from (by (repeat (first | exact Below.refl _ _ | exact Hbl.out | refine Below.ext ?_ (by first | omega | (simp; omega) | simp) | refine Below.setCell ?_ (by first | omega | (simp; omega) | simp) _ | refine Below.alloc ?_ (by first | omega | (simp; omega) | simp) _ | refine Below.drew ?_ | refine below_drewN ?_ _ | refine Below.step (by assumption) (by first | omega | (simp; omega) | simp) ?_)))))
        clear b1
        obtain ⟨bt, ot, nA, nC, kA, kC, rfl, hbt, _, y0, y1, y2, y3, y4, y5, y6⟩ := (H.out.below B1.out).at_ (kth_at hm)
        rw [hfo] at y0 Hmay
        go_wp2_with fail
        go_region_held3 (fun w' => w'.cell? ⟨w.heap.size, 0, none⟩ = some (.int .i64 a) ∧ w'.cell? ⟨w.heap.size, 1, none⟩ = some (.int .i64 b) ∧ w'.cell? ⟨w.heap.size, 2, none⟩ = some (.int .i64 c) ∧ w'.cell? ⟨w.heap.size, 3, none⟩ = some (.int .i64 d) ∧ w'.cell? ⟨bt, ot + m * 7, none⟩ = some (.bool true) ∧ w'.cell? ⟨bt, ot + m * 7 + 1, none⟩ = some (.int .i64 (kth t m).ow) ∧ w'.cell? ⟨bt, ot + m * 7 + 2, none⟩ = some (.int .i64 (kth t m).gr) ∧ w'.cell? ⟨bt, ot + m * 7 + 3, none⟩ = some (.int .i64 (kth t m).mo) ∧ w'.cell? ⟨bt, ot + m * 7 + 4, none⟩ = some (.string (kth t m).tx) ∧ w'.cell? ⟨bt, ot + m * 7 + 5, none⟩ = some (.slice nA (kth t m).ns.length nC) ∧ w'.cell? ⟨bt, ot + m * 7 + 6, none⟩ = some (.slice kA (kth t m).ks.length kC)) (first | assumption | (go_simp; done) | fail) (first | (go_at_call 55; refine (Hmay.out _ _ _ _ _ _ _).mono ?_; rintro e w' ⟨rfl, hb⟩; obtain ⟨d4, os4, rfl⟩ := ext_of_below hb; clear hb))
        all_goals
          go_wp2
          go_ret2
          rw [HR.out]
          exact ⟨_, rfl, by first | exact ownG_none _ _ | exact ownG_empty _ (by first | rfl | (simp; done)) (by first | exact B1.out.size | (simp; have := B1.out.size; omega)), Below.step (show Below w1.heap.size w1 _ from (by (repeat (first | exact Below.refl _ _ | exact Hbl.out | refine Below.ext ?_ (by first | omega | (simp; omega) | simp) | refine Below.setCell ?_ (by first | omega | (simp; omega) | simp) _ | refine Below.alloc ?_ (by first | omega | (simp; omega) | simp) _ | refine Below.drew ?_ | refine below_drewN ?_ _ | refine Below.step (by assumption) (by first | omega | (simp; omega) | simp) ?_)))) B1.out.size B1.out⟩
      · rw [if_neg (by simp)] at hR
        have HR := Lib.hid hR
        clear hR
        go_enter Tryz.func20, Tryz.ntmps20
        go_wp2_with fail
        refine (HF.out _ (HM.out.below (by (repeat (first | exact Below.refl _ _ | exact Hbl.out | refine Below.ext ?_ (by first | omega | (simp; omega) | simp) | refine Below.setCell ?_ (by first | omega | (simp; omega) | simp) _ | refine Below.alloc ?_ (by first | omega | (simp; omega) | simp) _ | refine Below.drew ?_ | refine below_drewN ?_ _ | refine Below.step (by assumption) (by first | omega | (simp; omega) | simp) ?_)))) (H.out.below (by (repeat (first | exact Below.refl _ _ | exact Hbl.out | refine Below.ext ?_ (by first | omega | (simp; omega) | simp) | refine Below.setCell ?_ (by first | omega | (simp; omega) | simp) _ | refine Below.alloc ?_ (by first | omega | (simp; omega) | simp) _ | refine Below.drew ?_ | refine below_drewN ?_ _ | refine Below.step (by assumption) (by first | omega | (simp; omega) | simp) ?_))))).mono ?_
        rintro e w1 ⟨rfl, b1⟩
        have p0 : w1.cell? ⟨w.heap.size, 0, none⟩ = some (.int .i64 a) := (b1.cell (p := ⟨w.heap.size, 0, none⟩) (by first | (simp; done) | (simp; omega) | omega)).trans (by first | assumption | go_simp)
        have p1 : w1.cell? ⟨w.heap.size, 1, none⟩ = some (.int .i64 b) := (b1.cell (p := ⟨w.heap.size, 1, none⟩) (by first | (simp; done) | (simp; omega) | omega)).trans (by first | assumption | go_simp)
        have p2 : w1.cell? ⟨w.heap.size, 2, none⟩ = some (.int .i64 c) := (b1.cell (p := ⟨w.heap.size, 2, none⟩) (by first | (simp; done) | (simp; omega) | omega)).trans (by first | assumption | go_simp)
        have p3 : w1.cell? ⟨w.heap.size, 3, none⟩ = some (.int .i64 d) := (b1.cell (p := ⟨w.heap.size, 3, none⟩) (by first | (simp; done) | (simp; omega) | omega)).trans (by first | assumption | go_simp)
        have hz1 : w.heap.size < w1.heap.size := by have := b1.size; simp at this; omega
        have B1 := Lib.hid (Below.step b1 (by simp) (show Below w.heap.size w _ from (by (repeat (first | exact Below.refl _ _ | exact Hbl.out | refine Below.ext ?_ (by first | omega | (simp; omega) | simp) | refine Below.setCell ?_ (by first | omega | (simp; omega) | simp) _ | refine Below.alloc ?_ (by first | omega | (simp; omega) | simp) _ | refine Below.drew ?_ | refine below_drewN ?_ _ | refine Below.step (by assumption) (by first | omega | (simp; omega) | simp) ?_)))))
        clear b1
        obtain ⟨bt, ot, nA, nC, kA, kC, rfl, hbt, hS, y0, y1, y2, y3, y4, y5, y6⟩ := (H.out.below B1.out).at_ (kth_at hm)
        have HNs := Lib.hid hS.ns
        rw [hfo] at y0 Hmay
        clear hS
        go_wp2_with fail
        go_region_held3 (fun w' => w'.cell? ⟨w.heap.size, 0, none⟩ = some (.int .i64 a) ∧ w'.cell? ⟨w.heap.size, 1, none⟩ = some (.int .i64 b) ∧ w'.cell? ⟨w.heap.size, 2, none⟩ = some (.int .i64 c) ∧ w'.cell? ⟨w.heap.size, 3, none⟩ = some (.int .i64 d) ∧ w'.cell? ⟨bt, ot + m * 7, none⟩ = some (.bool true) ∧ w'.cell? ⟨bt, ot + m * 7 + 1, none⟩ = some (.int .i64 (kth t m).ow) ∧ w'.cell? ⟨bt, ot + m * 7 + 2, none⟩ = some (.int .i64 (kth t m).gr) ∧ w'.cell? ⟨bt, ot + m * 7 + 3, none⟩ = some (.int .i64 (kth t m).mo) ∧ w'.cell? ⟨bt, ot + m * 7 + 4, none⟩ = some (.string (kth t m).tx) ∧ w'.cell? ⟨bt, ot + m * 7 + 5, none⟩ = some (.slice nA (kth t m).ns.length nC) ∧ w'.cell? ⟨bt, ot + m * 7 + 6, none⟩ = some (.slice kA (kth t m).ks.length kC)) (first | assumption | (go_simp; done) | fail) (first | (go_at_call 55; refine (Hmay.out _ _ _ _ _ _ _).mono ?_; rintro e w' ⟨rfl, hb⟩; obtain ⟨d4, os4, rfl⟩ := ext_of_below hb; clear hb))
        all_goals
          have b4 := below_ext w1 d4 os4
          have B4 := Lib.hid (Below.step b4 B1.out.size B1.out)
          go_upto_region 8 with fail
          have z5 : (ext w1 d4 os4).cell? ⟨bt, ot + m * 7 + 5, none⟩ = some (.slice nA (kth t m).ns.length nC) := (b4.cell (p := ⟨bt, ot + m * 7 + 5, none⟩) hbt).trans y5
          have hz4 : bt < (ext w1 d4 os4).heap.size := Nat.lt_of_lt_of_le hbt b4.size
          generalize ext w1 d4 os4 = W4 at b4 B4 z5 hz4 ⊢
          go_wp2_with (at_builtin; refine wpList_appG fitEL _ rfl (.tmp 39) (.tmp 44) rfl W4.heap.size (.slice (some ⟨_, 0, none⟩) 0 0) [] rfl ?cO _ (kth t m).ns rfl ?cS ?cL ?cB ?_)
          case cO => exact ownG_empty _ rfl (Nat.le_refl _)
          case cS => exact (HNs.out.below b4).below (Below.alloc (Below.refl _ _) (Nat.le_refl _) _)
          case cL => first | omega | (simp; omega)
          case cB => first | omega | (simp; done) | (simp; omega)
          intro v5 w5 ⟨o5, _, _⟩ b5
          obtain ⟨A5, c5, rfl⟩ := ownG_shape o5
          have O5 := Lib.hid (ownG_mono o5 B4.out.size)
          have B5 := Lib.hid (Below.step (Below.step b5 (Nat.le_refl _) (Below.alloc (Below.refl W4.heap.size W4) (Nat.le_refl _) _)) B4.out.size B4.out)
          clear o5 b5
          go_wp2
          go_ret2
          rw [HR.out]
          exact ⟨_, rfl, O5.out, B5.out⟩
  · rw [if_pos hf] at hR
    have d1 : (f != 0) = true := by simpa using hf
    have HR := Lib.hid hR
    clear hR hrg
    go_enter Tryz.func20, Tryz.ntmps20
    go_wp2_with fail
    refine (HF.out _ (HM.out.below (by (repeat (first | exact Below.refl _ _ | exact Hbl.out | refine Below.ext ?_ (by first | omega | (simp; omega) | simp) | refine Below.setCell ?_ (by first | omega | (simp; omega) | simp) _ | refine Below.alloc ?_ (by first | omega | (simp; omega) | simp) _ | refine Below.drew ?_ | refine below_drewN ?_ _ | refine Below.step (by assumption) (by first | omega | (simp; omega) | simp) ?_)))) (H.out.below (by (repeat (first | exact Below.refl _ _ | exact Hbl.out | refine Below.ext ?_ (by first | omega | (simp; omega) | simp) | refine Below.setCell ?_ (by first | omega | (simp; omega) | simp) _ | refine Below.alloc ?_ (by first | omega | (simp; omega) | simp) _ | refine Below.drew ?_ | refine below_drewN ?_ _ | refine Below.step (by assumption) (by first | omega | (simp; omega) | simp) ?_))))).mono ?_
    rintro e w1 ⟨rfl, b1⟩
    have B1 := Lib.hid (Below.step b1 (by simp) (show Below w.heap.size w _ from (by (repeat (first | exact Below.refl _ _ | exact Hbl.out | refine Below.ext ?_ (by first | omega | (simp; omega) | simp) | refine Below.setCell ?_ (by first | omega | (simp; omega) | simp) _ | refine Below.alloc ?_ (by first | omega | (simp; omega) | simp) _ | refine Below.drew ?_ | refine below_drewN ?_ _ | refine Below.step (by assumption) (by first | omega | (simp; omega) | simp) ?_)))))
    clear b1
    go_wp2
    go_ret2
    rw [HR.out]
    exact ⟨_, rfl, by first | exact ownG_none _ _ | exact ownG_empty _ (by first | rfl | (simp; done)) (by first | exact B1.out.size | (simp; have := B1.out.size; omega)), Below.step (show Below w1.heap.size w1 _ from (by (repeat (first | exact Below.refl _ _ | exact Hbl.out | refine Below.ext ?_ (by first | omega | (simp; omega) | simp) | refine Below.setCell ?_ (by first | omega | (simp; omega) | simp) _ | refine Below.alloc ?_ (by first | omega | (simp; omega) | simp) _ | refine Below.drew ?_ | refine below_drewN ?_ _ | refine Below.step (by assumption) (by first | omega | (simp; omega) | simp) ?_)))) B1.out.size B1.out⟩
end Go.Proofs.YthfneaaenlgegaaGreatDoor
