/- The reference's WriteFile. -/
import Derived.Test.YtkennmpbmbacpaaGreatDoorFindP
import Derived.Test.YtkennmpbmbacpaaGreatDoorME
import Derived.Test.YtkennmpbmbacpaaGreatDoorMD
import Derived.Deep.RegionHeld3
import Derived.Test.YtkennmpbmbacpaaGreatDoorMF
import Derived.Test.YtkennmpbmbacpaaGreatDoorMG
set_option linter.unusedSimpArgs false
set_option linter.unusedVariables false
set_option linter.unusedSectionVars false
namespace Go.Proofs.YtkennmpbmbacpaaGreatDoor
open Go.RowKit

theorem headN_in {m : Int} {x : Nd} (h : nodeB m x = true) : inB x.ow 0 99 = true ∧ inB x.gr 0 7 = true ∧ inB x.mo 0 1023 = true := by
  have hv := (nodeB_iff.1 h).1
  unfold headB at hv
  simp only [Bool.and_eq_true] at hv
  exact ⟨hv.1, hv.2.1, hv.2.2.1⟩
def txN (x : Nd) (X : ByteArray) : Nd := { x with tx := X }
/-- A text is written into the file at a path. -/
def writeF (t : List Nd) (a b c d : Int) (s : List UInt8) (X : ByteArray) : List Nd × Int :=
  if (fileF t a b c d s 2).2 = 0 then (if X.size ≤ 40 then (t.set (findF t a b c d s).1.toNat (txN (kth t (findF t a b c d s).1.toNat) X), 0) else ([], 6)) else ([], (fileF t a b c d s 2).2)
theorem write_head {x : Nd} {X : ByteArray} (h : headB x = true) (hfo : x.fo = false) (hX : X.size ≤ 40) : headB (txN x X) = true := by
  unfold headB at h ⊢
  simp only [Bool.and_eq_true, decide_eq_true_eq] at h ⊢
  refine ⟨h.1, h.2.1, h.2.2.1, h.2.2.2.1, h.2.2.2.2.1, ?_, hX⟩
  show (!(x.fo) || _) = true
  rw [hfo]; rfl
/-- A tree of the call's own, in which one text is written. -/
theorem TreeC.text {B g n cap k : Nat} {w : World} {cs : List Cn} {t : List Nd} {X : ByteArray} (h : TreeC B w (.slice (some ⟨g, 0, none⟩) n cap) cs t) (hk : k < t.length) (hX : X.size ≤ 40) :
    ∃ cs', TreeC B (w.setCell ⟨g, k * 7 + 4, none⟩ (.string X)) (.slice (some ⟨g, 0, none⟩) n cap) cs' (t.set k (txN (kth t k) X)) := by
  refine h.head (y := txN (kth t k) X) hk (by decide) ⟨rfl, rfl, by show X.size ≤ _; unfold maxLen; omega⟩ (fun c hc => ?_)
  have hn := h.nds k c _ hc (kth_at hk)
  show EC.put { c with fo := (kth t k).fo, ow := (kth t k).ow, gr := (kth t k).gr, mo := (kth t k).mo, tx := X } = _
  rw [← hn.fo, ← hn.ow, ← hn.gr, ← hn.mo]
  rfl
set_option maxRecDepth 100000 in
set_option maxHeartbeats 8000000 in
theorem writeS_of (v : Value) (t : List Nd) (a b c d : Int) (S X : ByteArray) (w : World) (h : TreeR w v t) (ht : t.length ≤ 1000) (hkz : (kidsOf t).length ≤ 1000000) (hs : S.size ≤ 1048576) :
    Calls Tryz.prog 83 #[v, .agg #[.int .i64 a, .int .i64 b, .int .i64 c, .int .i64 d], .string S, .string X] w fun e w' => ∃ v' cs, e = .returned (.tuple #[v', .int .i64 (writeF t a b c d S.data.toList X).2]) ∧ TreeC w.heap.size w' v' cs (writeF t a b c d S.data.toList X).1 ∧ Below w.heap.size w w' := by
  have hF := fun w h => findS_of v t a b c d S w h ht hkz hs
  obtain ⟨R, hR⟩ : ∃ R, R = writeF t a b c d S.data.toList X := ⟨_, rfl⟩
  rw [← hR]
  unfold writeF fileF at hR
  generalize S.data.toList = s at hF hR
  have hrg := @findF_range t a b c d s
  generalize findF t a b c d s = F at hF hrg hR
  obtain ⟨n, f⟩ := F
  simp only at hF hrg hR
  have HF := Lib.hid hF
  have H := Lib.hid h
  have hC := fun w h hf => copyS_of v t w h ht hf
  have HC := Lib.hid hC
  obtain ⟨A, cap, rfl⟩ := h.shape
  have hcap := h.caps
  clear h hF hC
  by_cases hf : f = 0
  · subst hf
    rw [if_neg (show ¬ ¬ (0 : Int) = 0 by simp)] at hR
    obtain ⟨g1, g2, _, g4, g5⟩ := hrg rfl
    obtain ⟨m, rfl⟩ : ∃ m : Nat, n = (m : Int) := ⟨n.toNat, by omega⟩
    have hm : m < t.length := by omega
    have hm' : (m : Int) < (t.length : Int) := by omega
    rw [Int.toNat_natCast] at hR
    obtain ⟨v1, v2, v3⟩ := headN_in (tree_node g1 hm)
    have Hmay := Lib.hid (fun w nA nL nC kA kL kC => l7May_any a b c d 2 (kth t m) nA nL nC kA kL kC w)
    have Few1 := Lib.hid (few_of g1 hkz)
    generalize mayF a b c d (kth t m).ow (kth t m).gr (kth t m).mo 2 = may at Hmay hR
    clear hrg v1 v2 v3 g1 g2
    cases hfo : (kth t m).fo
    · cases may
      · simp [hfo, -Prod.mk.injEq] at hR
        have HR := Lib.hid hR
        clear hR
        go_enter Tryz.func83, Tryz.ntmps83
        go_wp2_with fail
        refine (HF.out _ (H.out.below (by (repeat (first | exact Below.refl _ _ | exact Hbl.out | refine Below.ext ?_ (by first | omega | (simp; omega) | simp) | refine Below.setCell ?_ (by first | omega | (simp; omega) | simp) _ | refine Below.alloc ?_ (by first | omega | (simp; omega) | simp) _ | refine Below.drew ?_ | refine below_drewN ?_ _ | refine Below.step (by assumption) (by first | omega | (simp; omega) | simp) ?_))))).mono ?_
        rintro e w1 ⟨rfl, b1⟩
        have p0 : w1.cell? ⟨w.heap.size, 0, none⟩ = some (.int .i64 a) := (b1.cell (p := ⟨w.heap.size, 0, none⟩) (by first | (simp; done) | (simp; omega) | omega)).trans (by first | assumption | go_simp)
        have p1 : w1.cell? ⟨w.heap.size, 1, none⟩ = some (.int .i64 b) := (b1.cell (p := ⟨w.heap.size, 1, none⟩) (by first | (simp; done) | (simp; omega) | omega)).trans (by first | assumption | go_simp)
        have p2 : w1.cell? ⟨w.heap.size, 2, none⟩ = some (.int .i64 c) := (b1.cell (p := ⟨w.heap.size, 2, none⟩) (by first | (simp; done) | (simp; omega) | omega)).trans (by first | assumption | go_simp)
        have p3 : w1.cell? ⟨w.heap.size, 3, none⟩ = some (.int .i64 d) := (b1.cell (p := ⟨w.heap.size, 3, none⟩) (by first | (simp; done) | (simp; omega) | omega)).trans (by first | assumption | go_simp)
        have hz1 : w.heap.size < w1.heap.size := by have := b1.size; simp at this; omega
        have B1 := Lib.hid (Below.step b1 (by simp) (show Below w.heap.size w _ from (by (repeat (first | exact Below.refl _ _ | exact Hbl.out | refine Below.ext ?_ (by first | omega | (simp; omega) | simp) | refine Below.setCell ?_ (by first | omega | (simp; omega) | simp) _ | refine Below.alloc ?_ (by first | omega | (simp; omega) | simp) _ | refine Below.drew ?_ | refine below_drewN ?_ _ | refine Below.step (by assumption) (by first | omega | (simp; omega) | simp) ?_)))))
        clear b1
        obtain ⟨bt, ot, nA, nC, kA, kC, rfl, hbt, _, y0, y1, y2, y3, y4, y5, y6⟩ := (H.out.below B1.out).at_ (kth_at hm)
        rw [hfo] at y0 Hmay
        go_wp2_with fail
        go_region_held3 (fun w' => w'.cell? ⟨w.heap.size, 0, none⟩ = some (.int .i64 a) ∧ w'.cell? ⟨w.heap.size, 1, none⟩ = some (.int .i64 b) ∧ w'.cell? ⟨w.heap.size, 2, none⟩ = some (.int .i64 c) ∧ w'.cell? ⟨w.heap.size, 3, none⟩ = some (.int .i64 d) ∧ w'.cell? ⟨bt, ot + m * 7, none⟩ = some (.bool false) ∧ w'.cell? ⟨bt, ot + m * 7 + 1, none⟩ = some (.int .i64 (kth t m).ow) ∧ w'.cell? ⟨bt, ot + m * 7 + 2, none⟩ = some (.int .i64 (kth t m).gr) ∧ w'.cell? ⟨bt, ot + m * 7 + 3, none⟩ = some (.int .i64 (kth t m).mo) ∧ w'.cell? ⟨bt, ot + m * 7 + 4, none⟩ = some (.string (kth t m).tx) ∧ w'.cell? ⟨bt, ot + m * 7 + 5, none⟩ = some (.slice nA (kth t m).ns.length nC) ∧ w'.cell? ⟨bt, ot + m * 7 + 6, none⟩ = some (.slice kA (kth t m).ks.length kC)) (first | assumption | (go_simp; done) | fail) (first | (go_at_call 92; refine (Hmay.out _ _ _ _ _ _ _).mono ?_; rintro e w' ⟨rfl, hb⟩; obtain ⟨d4, os4, rfl⟩ := ext_of_below hb; clear hb))
        all_goals
          go_wp2
          go_ret2
          rw [HR.out]
          exact ⟨_, [], rfl, treeC_empty (ownG_empty _ (by first | rfl | (simp; done)) (by first | exact B1.out.size | (simp; have := B1.out.size; omega))), Below.step (show Below w1.heap.size w1 _ from (by (repeat (first | exact Below.refl _ _ | exact Hbl.out | refine Below.ext ?_ (by first | omega | (simp; omega) | simp) | refine Below.setCell ?_ (by first | omega | (simp; omega) | simp) _ | refine Below.alloc ?_ (by first | omega | (simp; omega) | simp) _ | refine Below.drew ?_ | refine below_drewN ?_ _ | refine Below.step (by assumption) (by first | omega | (simp; omega) | simp) ?_)))) B1.out.size B1.out⟩
      · by_cases hX : X.size ≤ 40
        · simp [hfo, hX, -Prod.mk.injEq] at hR
          have hx1 : ¬ (40 : Int) < (X.size : Int) := by omega
          have HR := Lib.hid hR
          clear hR
          go_enter Tryz.func83, Tryz.ntmps83
          go_wp2_with fail
          refine (HF.out _ (H.out.below (by (repeat (first | exact Below.refl _ _ | exact Hbl.out | refine Below.ext ?_ (by first | omega | (simp; omega) | simp) | refine Below.setCell ?_ (by first | omega | (simp; omega) | simp) _ | refine Below.alloc ?_ (by first | omega | (simp; omega) | simp) _ | refine Below.drew ?_ | refine below_drewN ?_ _ | refine Below.step (by assumption) (by first | omega | (simp; omega) | simp) ?_))))).mono ?_
          rintro e w1 ⟨rfl, b1⟩
          have p0 : w1.cell? ⟨w.heap.size, 0, none⟩ = some (.int .i64 a) := (b1.cell (p := ⟨w.heap.size, 0, none⟩) (by first | (simp; done) | (simp; omega) | omega)).trans (by first | assumption | go_simp)
          have p1 : w1.cell? ⟨w.heap.size, 1, none⟩ = some (.int .i64 b) := (b1.cell (p := ⟨w.heap.size, 1, none⟩) (by first | (simp; done) | (simp; omega) | omega)).trans (by first | assumption | go_simp)
          have p2 : w1.cell? ⟨w.heap.size, 2, none⟩ = some (.int .i64 c) := (b1.cell (p := ⟨w.heap.size, 2, none⟩) (by first | (simp; done) | (simp; omega) | omega)).trans (by first | assumption | go_simp)
          have p3 : w1.cell? ⟨w.heap.size, 3, none⟩ = some (.int .i64 d) := (b1.cell (p := ⟨w.heap.size, 3, none⟩) (by first | (simp; done) | (simp; omega) | omega)).trans (by first | assumption | go_simp)
          have hz1 : w.heap.size < w1.heap.size := by have := b1.size; simp at this; omega
          have B1 := Lib.hid (Below.step b1 (by simp) (show Below w.heap.size w _ from (by (repeat (first | exact Below.refl _ _ | exact Hbl.out | refine Below.ext ?_ (by first | omega | (simp; omega) | simp) | refine Below.setCell ?_ (by first | omega | (simp; omega) | simp) _ | refine Below.alloc ?_ (by first | omega | (simp; omega) | simp) _ | refine Below.drew ?_ | refine below_drewN ?_ _ | refine Below.step (by assumption) (by first | omega | (simp; omega) | simp) ?_)))))
          clear b1
          obtain ⟨bt, ot, nA, nC, kA, kC, rfl, hbt, _, y0, y1, y2, y3, y4, y5, y6⟩ := (H.out.below B1.out).at_ (kth_at hm)
          rw [hfo] at y0 Hmay
          go_wp2_with fail
          go_region_held3 (fun w' => w'.cell? ⟨w.heap.size, 0, none⟩ = some (.int .i64 a) ∧ w'.cell? ⟨w.heap.size, 1, none⟩ = some (.int .i64 b) ∧ w'.cell? ⟨w.heap.size, 2, none⟩ = some (.int .i64 c) ∧ w'.cell? ⟨w.heap.size, 3, none⟩ = some (.int .i64 d) ∧ w'.cell? ⟨bt, ot + m * 7, none⟩ = some (.bool false) ∧ w'.cell? ⟨bt, ot + m * 7 + 1, none⟩ = some (.int .i64 (kth t m).ow) ∧ w'.cell? ⟨bt, ot + m * 7 + 2, none⟩ = some (.int .i64 (kth t m).gr) ∧ w'.cell? ⟨bt, ot + m * 7 + 3, none⟩ = some (.int .i64 (kth t m).mo) ∧ w'.cell? ⟨bt, ot + m * 7 + 4, none⟩ = some (.string (kth t m).tx) ∧ w'.cell? ⟨bt, ot + m * 7 + 5, none⟩ = some (.slice nA (kth t m).ns.length nC) ∧ w'.cell? ⟨bt, ot + m * 7 + 6, none⟩ = some (.slice kA (kth t m).ks.length kC)) (first | assumption | (go_simp; done) | fail) (first | (go_at_call 92; refine (Hmay.out _ _ _ _ _ _ _).mono ?_; rintro e w' ⟨rfl, hb⟩; obtain ⟨d4, os4, rfl⟩ := ext_of_below hb; clear hb))
          all_goals
            go_wp2_with fail
            have B4 := Lib.hid (Below.step (below_ext w1 d4 os4) B1.out.size B1.out)
            generalize ext w1 d4 os4 = W4 at B4 ⊢
            refine (HC.out _ (H.out.below B4.out) Few1.out).mono ?_
            rintro e w5 ⟨v5, cs, rfl, hT5, _, b5⟩
            obtain ⟨A5, c5, rfl⟩ := TreeO.shape ⟨cs, hT5⟩
            obtain ⟨g5, cc, rfl, hg5, hg5', _, _, _, q0, q1, q2, q3, q4, q5, q6, fz⟩ := hT5.at_ hm
            have fz4 := fz (m * 7 + 4)
            obtain ⟨cs', hT6⟩ := hT5.text hm hX
            have hz4 := B4.out.size
            have HT6 := Lib.hid (hT6.mono hz4)
            have HB6 := Lib.hid (show Below w.heap.size w (w5.setCell ⟨g5, m * 7 + 4, none⟩ (.string X)) from Below.setCell (Below.step b5 hz4 B4.out) (Nat.le_trans hz4 hg5) _)
            clear hT5 hT6 b5 fz
            go_wp2
            go_ret2
            rw [HR.out]
            exact ⟨_, cs', rfl, HT6.out, HB6.out⟩
        · simp [hfo, hX, -Prod.mk.injEq] at hR
          have hx1 : (40 : Int) < (X.size : Int) := by omega
          have HR := Lib.hid hR
          clear hR
          go_enter Tryz.func83, Tryz.ntmps83
          go_wp2_with fail
          refine (HF.out _ (H.out.below (by (repeat (first | exact Below.refl _ _ | exact Hbl.out | refine Below.ext ?_ (by first | omega | (simp; omega) | simp) | refine Below.setCell ?_ (by first | omega | (simp; omega) | simp) _ | refine Below.alloc ?_ (by first | omega | (simp; omega) | simp) _ | refine Below.drew ?_ | refine below_drewN ?_ _ | refine Below.step (by assumption) (by first | omega | (simp; omega) | simp) ?_))))).mono ?_
          rintro e w1 ⟨rfl, b1⟩
          have p0 : w1.cell? ⟨w.heap.size, 0, none⟩ = some (.int .i64 a) := (b1.cell (p := ⟨w.heap.size, 0, none⟩) (by first | (simp; done) | (simp; omega) | omega)).trans (by first | assumption | go_simp)
          have p1 : w1.cell? ⟨w.heap.size, 1, none⟩ = some (.int .i64 b) := (b1.cell (p := ⟨w.heap.size, 1, none⟩) (by first | (simp; done) | (simp; omega) | omega)).trans (by first | assumption | go_simp)
          have p2 : w1.cell? ⟨w.heap.size, 2, none⟩ = some (.int .i64 c) := (b1.cell (p := ⟨w.heap.size, 2, none⟩) (by first | (simp; done) | (simp; omega) | omega)).trans (by first | assumption | go_simp)
          have p3 : w1.cell? ⟨w.heap.size, 3, none⟩ = some (.int .i64 d) := (b1.cell (p := ⟨w.heap.size, 3, none⟩) (by first | (simp; done) | (simp; omega) | omega)).trans (by first | assumption | go_simp)
          have hz1 : w.heap.size < w1.heap.size := by have := b1.size; simp at this; omega
          have B1 := Lib.hid (Below.step b1 (by simp) (show Below w.heap.size w _ from (by (repeat (first | exact Below.refl _ _ | exact Hbl.out | refine Below.ext ?_ (by first | omega | (simp; omega) | simp) | refine Below.setCell ?_ (by first | omega | (simp; omega) | simp) _ | refine Below.alloc ?_ (by first | omega | (simp; omega) | simp) _ | refine Below.drew ?_ | refine below_drewN ?_ _ | refine Below.step (by assumption) (by first | omega | (simp; omega) | simp) ?_)))))
          clear b1
          obtain ⟨bt, ot, nA, nC, kA, kC, rfl, hbt, _, y0, y1, y2, y3, y4, y5, y6⟩ := (H.out.below B1.out).at_ (kth_at hm)
          rw [hfo] at y0 Hmay
          go_wp2_with fail
          go_region_held3 (fun w' => w'.cell? ⟨w.heap.size, 0, none⟩ = some (.int .i64 a) ∧ w'.cell? ⟨w.heap.size, 1, none⟩ = some (.int .i64 b) ∧ w'.cell? ⟨w.heap.size, 2, none⟩ = some (.int .i64 c) ∧ w'.cell? ⟨w.heap.size, 3, none⟩ = some (.int .i64 d) ∧ w'.cell? ⟨bt, ot + m * 7, none⟩ = some (.bool false) ∧ w'.cell? ⟨bt, ot + m * 7 + 1, none⟩ = some (.int .i64 (kth t m).ow) ∧ w'.cell? ⟨bt, ot + m * 7 + 2, none⟩ = some (.int .i64 (kth t m).gr) ∧ w'.cell? ⟨bt, ot + m * 7 + 3, none⟩ = some (.int .i64 (kth t m).mo) ∧ w'.cell? ⟨bt, ot + m * 7 + 4, none⟩ = some (.string (kth t m).tx) ∧ w'.cell? ⟨bt, ot + m * 7 + 5, none⟩ = some (.slice nA (kth t m).ns.length nC) ∧ w'.cell? ⟨bt, ot + m * 7 + 6, none⟩ = some (.slice kA (kth t m).ks.length kC)) (first | assumption | (go_simp; done) | fail) (first | (go_at_call 92; refine (Hmay.out _ _ _ _ _ _ _).mono ?_; rintro e w' ⟨rfl, hb⟩; obtain ⟨d4, os4, rfl⟩ := ext_of_below hb; clear hb))
          all_goals
            go_wp2
            go_ret2
            rw [HR.out]
            exact ⟨_, [], rfl, treeC_empty (ownG_empty _ (by first | rfl | (simp; done)) (by first | exact B1.out.size | (simp; have := B1.out.size; omega))), Below.step (show Below w1.heap.size w1 _ from (by (repeat (first | exact Below.refl _ _ | exact Hbl.out | refine Below.ext ?_ (by first | omega | (simp; omega) | simp) | refine Below.setCell ?_ (by first | omega | (simp; omega) | simp) _ | refine Below.alloc ?_ (by first | omega | (simp; omega) | simp) _ | refine Below.drew ?_ | refine below_drewN ?_ _ | refine Below.step (by assumption) (by first | omega | (simp; omega) | simp) ?_)))) B1.out.size B1.out⟩
    · simp [hfo, -Prod.mk.injEq] at hR
      have HR := Lib.hid hR
      clear hR
      go_enter Tryz.func83, Tryz.ntmps83
      go_wp2_with fail
      refine (HF.out _ (H.out.below (by (repeat (first | exact Below.refl _ _ | exact Hbl.out | refine Below.ext ?_ (by first | omega | (simp; omega) | simp) | refine Below.setCell ?_ (by first | omega | (simp; omega) | simp) _ | refine Below.alloc ?_ (by first | omega | (simp; omega) | simp) _ | refine Below.drew ?_ | refine below_drewN ?_ _ | refine Below.step (by assumption) (by first | omega | (simp; omega) | simp) ?_))))).mono ?_
      rintro e w1 ⟨rfl, b1⟩
      have B1 := Lib.hid (Below.step b1 (by simp) (show Below w.heap.size w _ from (by (repeat (first | exact Below.refl _ _ | exact Hbl.out | refine Below.ext ?_ (by first | omega | (simp; omega) | simp) | refine Below.setCell ?_ (by first | omega | (simp; omega) | simp) _ | refine Below.alloc ?_ (by first | omega | (simp; omega) | simp) _ | refine Below.drew ?_ | refine below_drewN ?_ _ | refine Below.step (by assumption) (by first | omega | (simp; omega) | simp) ?_)))))
      clear b1
      obtain ⟨bt, ot, nA, nC, kA, kC, rfl, hbt, _, y0, _⟩ := (H.out.below B1.out).at_ (kth_at hm)
      rw [hfo] at y0
      go_wp2
      go_ret2
      rw [HR.out]
      exact ⟨_, [], rfl, treeC_empty (ownG_empty _ (by first | rfl | (simp; done)) (by first | exact B1.out.size | (simp; have := B1.out.size; omega))), Below.step (show Below w1.heap.size w1 _ from (by (repeat (first | exact Below.refl _ _ | exact Hbl.out | refine Below.ext ?_ (by first | omega | (simp; omega) | simp) | refine Below.setCell ?_ (by first | omega | (simp; omega) | simp) _ | refine Below.alloc ?_ (by first | omega | (simp; omega) | simp) _ | refine Below.drew ?_ | refine below_drewN ?_ _ | refine Below.step (by assumption) (by first | omega | (simp; omega) | simp) ?_)))) B1.out.size B1.out⟩
  · simp [hf, -Prod.mk.injEq] at hR
    have HR := Lib.hid hR
    clear hR
    clear hrg
    have hf1 : (f != 0) = true := by simpa using hf
    go_enter Tryz.func83, Tryz.ntmps83
    go_wp2_with fail
    refine (HF.out _ (H.out.below (by (repeat (first | exact Below.refl _ _ | exact Hbl.out | refine Below.ext ?_ (by first | omega | (simp; omega) | simp) | refine Below.setCell ?_ (by first | omega | (simp; omega) | simp) _ | refine Below.alloc ?_ (by first | omega | (simp; omega) | simp) _ | refine Below.drew ?_ | refine below_drewN ?_ _ | refine Below.step (by assumption) (by first | omega | (simp; omega) | simp) ?_))))).mono ?_
    rintro e w1 ⟨rfl, b1⟩
    have B1 := Lib.hid (Below.step b1 (by simp) (show Below w.heap.size w _ from (by (repeat (first | exact Below.refl _ _ | exact Hbl.out | refine Below.ext ?_ (by first | omega | (simp; omega) | simp) | refine Below.setCell ?_ (by first | omega | (simp; omega) | simp) _ | refine Below.alloc ?_ (by first | omega | (simp; omega) | simp) _ | refine Below.drew ?_ | refine below_drewN ?_ _ | refine Below.step (by assumption) (by first | omega | (simp; omega) | simp) ?_)))))
    clear b1
    go_wp2
    go_ret2
    rw [HR.out]
    exact ⟨_, [], rfl, treeC_empty (ownG_empty _ (by first | rfl | (simp; done)) (by first | exact B1.out.size | (simp; have := B1.out.size; omega))), Below.step (show Below w1.heap.size w1 _ from (by (repeat (first | exact Below.refl _ _ | exact Hbl.out | refine Below.ext ?_ (by first | omega | (simp; omega) | simp) | refine Below.setCell ?_ (by first | omega | (simp; omega) | simp) _ | refine Below.alloc ?_ (by first | omega | (simp; omega) | simp) _ | refine Below.drew ?_ | refine below_drewN ?_ _ | refine Below.step (by assumption) (by first | omega | (simp; omega) | simp) ?_)))) B1.out.size B1.out⟩
end Go.Proofs.YtkennmpbmbacpaaGreatDoor
