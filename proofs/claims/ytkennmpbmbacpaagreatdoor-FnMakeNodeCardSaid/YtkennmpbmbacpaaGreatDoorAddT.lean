/- The package's 'addName' in a tree of the call's own; its LinkName. -/
import Derived.Test.YtkennmpbmbacpaaGreatDoorAddN
import Derived.Test.YtkennmpbmbacpaaGreatDoorCopyI
import Derived.Test.YtkennmpbmbacpaaGreatDoorFile3
set_option linter.unusedSimpArgs false
set_option linter.unusedVariables false
set_option linter.unusedSectionVars false
namespace Go.Proofs.YtkennmpbmbacpaaGreatDoor
open Go.RowKit

theorem Below.of_grown {B : Nat} {w w' : World} {row : Option Nat} (h : w.grownBy w' row) (hB : B ≤ w.heap.size) (hr : ∀ j, row = some j → B ≤ j) : Below B w w' :=
  ⟨h.os, h.tape, h.output, h.size, fun k hk => h.block k (by omega) (fun e => by have := hr k e.symm; omega)⟩
theorem sep_ne {a b : Option Nat} {g : Nat} (h : Sep a b) (hb : b = some g) : a ≠ some g := fun e => by
  rcases h with h | h
  · rw [h] at e; cases e
  · exact h (e.trans hb.symm)
theorem addT_of {B : Nat} {w : World} {g n cap m : Nat} {cs : List Cn} {t : List Nd} (s : List UInt8) (z : Int) (h : TreeC B w (.slice (some ⟨g, 0, none⟩) n cap) cs t) (hm : m < t.length) (hA : Asc (kth t m)) (hl : (kth t m).ns.length = (kth t m).ks.length) (hb : (kth t m).ns.length ≤ 1000000) (hB : B ≤ w.heap.size) (hs : s.length ≤ 1048576) :
    Calls Tryz.prog 68 #[.pointer (some ⟨g, m * 7, none⟩), .string (mk s), .int .i64 z] w fun e w' => e = .returned (.tuple #[]) ∧ (∃ cs', TreeC B w' (.slice (some ⟨g, 0, none⟩) n cap) cs' (t.set m (putF (kth t m) s z))) ∧ Below B w w' := by
  obtain ⟨g', c0, e, hgB, hgw, hcm, hnd, hNS, z0, z1, z2, z3, z4, z5, z6, zf⟩ := h.at_ hm
  cases e
  have hn1 : c0.nL = (kth t m).ns.length := by obtain ⟨_, _, e⟩ := ownG_shape hnd.ns; injection e with _ e _
  have hk1 : c0.kL = (kth t m).ks.length := by obtain ⟨_, _, e⟩ := ownG_shape hnd.ks; injection e with _ e _
  have eN : nB c0 = (Value.slice c0.nA (kth t m).ns.length c0.nC).ownBlock := by unfold nB; rw [hn1]
  have eK : kB c0 = (Value.slice c0.kA (kth t m).ks.length c0.kC).ownBlock := by unfold kB; rw [hk1]
  have oN := hnd.ns
  have oK := hnd.ks
  rw [hn1] at oN
  rw [hk1] at oK
  refine (addName_of g (m * 7) (kth t m) s z c0.nA c0.nC c0.kA c0.kC w B z5 z6 (zf _) (zf _) oN oK (sep_ne (ownG_type oN h.row (by decide)) rfl) (sep_ne (ownG_type oK h.row (by decide)) rfl) hA hl hb hB).mono ?_
  rintro e w' ⟨rfl, u1, u2, A1, c1, A2, c2, g1, g2, o1, o2, n1, n2, rfl⟩
  rw [← eN] at g1 n1
  rw [← eK] at g2 n2
  obtain ⟨cs', hT⟩ := h.rows hm hcm o1 o2 g1 g2 n1 n2 (putF_fine hs hnd.nz)
  refine ⟨rfl, ⟨cs', hT⟩, Below.setCell (Below.setCell (Below.trans (Below.of_grown g1 hB (fun j hj => (ownG_block hnd.ns j hj).1)) (Below.of_grown g2 (Nat.le_trans hB g1.size) (fun j hj => (ownG_block hnd.ks j hj).1))) hgB _) hgB _⟩
set_option maxRecDepth 100000 in
set_option maxHeartbeats 4000000 in
theorem linkI_of (v : Value) (t : List Nd) (a b c d : Int) (S1 S2 : ByteArray) (w : World) (hM : MaxL w) (h : TreeR w v t) (ht : t.length ≤ 1000) (hkz : (kidsOf t).length ≤ 1000000) (hs1 : S1.size ≤ 1048576) (hs2 : S2.size ≤ 1048576) :
    Calls Tryz.prog 23 #[v, .agg #[.int .i64 a, .int .i64 b, .int .i64 c, .int .i64 d], .string S1, .string S2] w fun e w' => ∃ v', e = .returned (.tuple #[v', .int .i64 (linkF t a b c d S1.data.toList S2.data.toList).2]) ∧ TreeO w.heap.size w' v' (linkF t a b c d S1.data.toList S2.data.toList).1 ∧ Below w.heap.size w w' := by
  have hF := fun w hm h => findI_of v t a b c d S1 w hm h ht hkz hs1
  have hP := fun w hm h => placeI_of v t a b c d S2 w hm h ht hkz hs2
  have hA := fun w hm => aboveI_of S2 w hm hs2
  unfold AbvGot at hA
  have hC := fun w h hf => copyI_of v t w h ht hf
  have hlq : (lastF S2.data.toList).length ≤ 1048576 := lastF_len (by have : S2.data.toList.length = S2.size := Array.length_toList; omega)
  have hrf := @findF_range t a b c d S1.data.toList
  have hrp := @placeF_yes t a b c d S2.data.toList
  obtain ⟨R, hR⟩ : ∃ R, R = linkF t a b c d S1.data.toList S2.data.toList := ⟨_, rfl⟩
  rw [← hR]
  unfold linkF at hR
  generalize findF t a b c d S1.data.toList = F at hF hrf hR
  generalize placeF t a b c d S2.data.toList = P at hP hrp hR
  obtain ⟨f1, f2⟩ := F
  obtain ⟨p1, p2⟩ := P
  simp only at hF hP hrf hrp hR
  have H := Lib.hid h
  have HM := Lib.hid hM
  have HF := Lib.hid hF
  have HP := Lib.hid hP
  have HA := Lib.hid hA
  have HC := Lib.hid hC
  obtain ⟨A, cap, rfl⟩ := h.shape
  have hcap := h.caps
  clear h hF hP hA hC hM
  go_enter Tryz.func23, Tryz.ntmps23
  go_wp2_with fail
  refine (HF.out _ (HM.out.below (by (repeat (first | exact Below.refl _ _ | exact Hbl.out | refine Below.ext ?_ (by first | omega | (simp; omega) | simp) | refine Below.setCell ?_ (by first | omega | (simp; omega) | simp) _ | refine Below.alloc ?_ (by first | omega | (simp; omega) | simp) _ | refine Below.drew ?_ | refine below_drewN ?_ _ | refine Below.step (by assumption) (by first | omega | (simp; omega) | simp) ?_)))) (H.out.below (by (repeat (first | exact Below.refl _ _ | exact Hbl.out | refine Below.ext ?_ (by first | omega | (simp; omega) | simp) | refine Below.setCell ?_ (by first | omega | (simp; omega) | simp) _ | refine Below.alloc ?_ (by first | omega | (simp; omega) | simp) _ | refine Below.drew ?_ | refine below_drewN ?_ _ | refine Below.step (by assumption) (by first | omega | (simp; omega) | simp) ?_))))).mono ?_
  rintro e w1 ⟨rfl, b1⟩
  have q0 : w1.cell? ⟨w.heap.size, 0, none⟩ = some (.int .i64 a) := (b1.cell (p := ⟨w.heap.size, 0, none⟩) (by first | (simp; done) | (simp; omega) | omega)).trans (by first | assumption | go_simp)
  have q1 : w1.cell? ⟨w.heap.size, 1, none⟩ = some (.int .i64 b) := (b1.cell (p := ⟨w.heap.size, 1, none⟩) (by first | (simp; done) | (simp; omega) | omega)).trans (by first | assumption | go_simp)
  have q2 : w1.cell? ⟨w.heap.size, 2, none⟩ = some (.int .i64 c) := (b1.cell (p := ⟨w.heap.size, 2, none⟩) (by first | (simp; done) | (simp; omega) | omega)).trans (by first | assumption | go_simp)
  have q3 : w1.cell? ⟨w.heap.size, 3, none⟩ = some (.int .i64 d) := (b1.cell (p := ⟨w.heap.size, 3, none⟩) (by first | (simp; done) | (simp; omega) | omega)).trans (by first | assumption | go_simp)
  have hzw : w.heap.size < w1.heap.size := by have := b1.size; simp at this; omega
  have B1 := Lib.hid (Below.step b1 (by simp) (show Below w.heap.size w _ from (by (repeat (first | exact Below.refl _ _ | exact Hbl.out | refine Below.ext ?_ (by first | omega | (simp; omega) | simp) | refine Below.setCell ?_ (by first | omega | (simp; omega) | simp) _ | refine Below.alloc ?_ (by first | omega | (simp; omega) | simp) _ | refine Below.drew ?_ | refine below_drewN ?_ _ | refine Below.step (by assumption) (by first | omega | (simp; omega) | simp) ?_)))))
  clear b1
  by_cases hf : f2 = 0
  · subst hf
    rw [if_neg (by simp)] at hR
    obtain ⟨g1, _, _, g4, g5⟩ := hrf rfl
    obtain ⟨k, rfl⟩ : ∃ k : Nat, f1 = (k : Int) := ⟨f1.toNat, by omega⟩
    have hk : k < t.length := by omega
    have hk' : (k : Int) < (t.length : Int) := by omega
    obtain ⟨bt, ot, nA, nC, kA, kC, rfl, hbt, hS, y0, _⟩ := (H.out.below B1.out).at_ (kth_at hk)
    rw [Int.toNat_natCast] at hR
    cases hfo : (kth t k).fo
    · rw [hfo] at y0 hR
      rw [if_neg (by simp)] at hR
      go_wp2_with fail
      refine (HP.out _ (HM.out.below B1.out) (H.out.below B1.out)).mono ?_
      rintro e w2 ⟨rfl, b2⟩
      have B2 := Lib.hid (Below.step b2 B1.out.size B1.out)
      clear b2
      by_cases hpl : p2 = 0
      · subst hpl
        rw [if_neg (by simp)] at hR
        obtain ⟨_, _, _, r4, r5, r6, r7⟩ := hrp rfl
        obtain ⟨m, rfl⟩ : ∃ m : Nat, p1 = (m : Int) := ⟨p1.toNat, by omega⟩
        have hm : m < t.length := by omega
        have hm' : (m : Int) < (t.length : Int) := by omega
        rw [Int.toNat_natCast] at hR
        have Few1 := Lib.hid (few_of g1 hkz)
        have Hls := Lib.hid (head_ks (tree_node g1 hm))
        have Has := Lib.hid (asc_of (tree_node g1 hm))
        have Hr := Lib.hid hR
        clear hR hrp hrf r4 r5 r6 r7 g4 g5 g1
        go_wp2_with fail
        refine (HA.out _ (HM.out.below B2.out)).mono ?_
        rintro e w3 ⟨rfl, b3⟩
        have B3 := Lib.hid (Below.step b3 B2.out.size B2.out)
        clear b3
        go_wp2_with fail
        refine (HC.out _ (H.out.below B3.out) Few1.out).mono ?_
        rintro e w4 ⟨v4, cs, rfl, hT, b4⟩
        have B4 := Lib.hid (Below.step b4 B3.out.size B3.out)
        obtain ⟨A4, k4, rfl⟩ := (show TreeO _ w4 v4 t from ⟨cs, hT⟩).shape
        obtain ⟨g, c0, rfl, _⟩ := hT.at_ hm
        have HN := Lib.hid (addT_of (lastF S2.data.toList) (k : Int) hT hm Has.out Hls.out ((Few1.out m hm).1) b4.size hlq)
        clear b4 hT
        go_wp2_with fail
        refine HN.out.mono ?_
        rintro e w5 ⟨rfl, ⟨cs', hT5⟩, b5⟩
        have HT5 := Lib.hid (hT5.mono B3.out.size)
        have B5 := Lib.hid (Below.trans B4.out (Below.mono b5 B3.out.size))
        clear hT5 b5
        go_wp2
        go_ret2
        exact ⟨_, by rw [Hr.out]; rfl, by rw [Hr.out]; exact ⟨_, HT5.out⟩, B5.out⟩
      · have d1 : (p2 != 0) = true := by simpa using hpl
        have Hr := Lib.hid (show R = ([], p2) by rw [hR, if_pos hpl])
        clear hR hrp hrf
        go_wp2
        go_ret2
        exact ⟨_, by rw [Hr.out]; rfl, by rw [Hr.out]; exact ⟨[], treeC_empty (ownG_none _ _)⟩, B2.out⟩
    · rw [hfo] at y0 hR
      have Hr := Lib.hid (show R = ([], 4) by rw [hR, if_pos rfl])
      clear hR hrp hrf
      go_wp2
      go_ret2
      exact ⟨_, by rw [Hr.out]; rfl, by rw [Hr.out]; exact ⟨[], treeC_empty (ownG_none _ _)⟩, B1.out⟩
  · have d1 : (f2 != 0) = true := by simpa using hf
    have Hr := Lib.hid (show R = ([], f2) by rw [hR, if_pos hf])
    clear hR hrp hrf
    go_wp2
    go_ret2
    exact ⟨_, by rw [Hr.out]; rfl, by rw [Hr.out]; exact ⟨[], treeC_empty (ownG_none _ _)⟩, B1.out⟩
end Go.Proofs.YtkennmpbmbacpaaGreatDoor
