/- The package's 'FindNode'. -/
import Derived.Test.YtkennmpbmbacpaaGreatDoorME
import Derived.Test.YtkennmpbmbacpaaGreatDoorMF
import Derived.Test.YtkennmpbmbacpaaGreatDoorMH
import Derived.Test.YtkennmpbmbacpaaGreatDoorKidI
import Derived.Test.YtkennmpbmbacpaaGreatDoorMayI
import Derived.Test.YtkennmpbmbacpaaGreatDoorMB
import Derived.Deep.RegionHeld3
set_option linter.unusedSimpArgs false
set_option linter.unusedVariables false
set_option linter.unusedSectionVars false
namespace Go.Proofs.YtkennmpbmbacpaaGreatDoor
open Go.RowKit

set_option maxRecDepth 100000 in
set_option maxHeartbeats 8000000 in
theorem findI_of (v : Value) (t : List Nd) (a b c d : Int) (S : ByteArray) (w : World) (hM : MaxL w) (h : TreeR w v t) (ht : t.length ≤ 1000) (hkz : (kidsOf t).length ≤ 1000000) (hs : S.size ≤ 1048576) :
    Calls Tryz.prog 16 #[v, .agg #[.int .i64 a, .int .i64 b, .int .i64 c, .int .i64 d], .string S] w fun e w' => e = .returned (.tuple #[.int .i64 (findF t a b c d S.data.toList).1, .int .i64 (findF t a b c d S.data.toList).2]) ∧ Below w.heap.size w w' := by
  have h1 := fun w hm => pathPartsI_of S w hm hs
  generalize S.data.toList = s at h1 ⊢
  have hT := fun w h => treeI_of v t w h ht hkz
  have HM := Lib.hid hM
  have H := Lib.hid h
  have H1 := Lib.hid h1
  obtain ⟨A, cap, rfl⟩ := h.shape
  have HT := Lib.hid hT
  have hcap := h.caps
  clear h h1 hT hM
  rcases and3 (okP s) (treeB t) (credB a b c d) with g1 | ⟨g1, g2⟩ | ⟨g1, g2, g3⟩ | ⟨g1, g2, g3⟩
  · have hr : findF t a b c d s = (-1, 1) := by unfold findF; rw [g1]; rfl
    rw [hr]
    clear hr
    go_enter Tryz.func16, Tryz.ntmps16
    go_wp2_with fail
    refine (H1.out _ (HM.out.below (by (repeat (first | exact Below.refl _ _ | exact Hbl.out | refine Below.ext ?_ (by first | omega | (simp; omega) | simp) | refine Below.setCell ?_ (by first | omega | (simp; omega) | simp) _ | refine Below.alloc ?_ (by first | omega | (simp; omega) | simp) _ | refine Below.drew ?_ | refine below_drewN ?_ _ | refine Below.step (by assumption) (by first | omega | (simp; omega) | simp) ?_))))).mono ?_
    rintro e w1 ⟨v1, rfl, o1, b1⟩
    rw [g1]
    have B1 := Lib.hid (Below.step b1 (by simp) (show Below w.heap.size w _ from (by (repeat (first | exact Below.refl _ _ | exact Hbl.out | refine Below.ext ?_ (by first | omega | (simp; omega) | simp) | refine Below.setCell ?_ (by first | omega | (simp; omega) | simp) _ | refine Below.alloc ?_ (by first | omega | (simp; omega) | simp) _ | refine Below.drew ?_ | refine below_drewN ?_ _ | refine Below.step (by assumption) (by first | omega | (simp; omega) | simp) ?_)))))
    clear b1 o1
    go_wp2
    go_ret2
    exact ⟨rfl, B1.out⟩
  · have hr : findF t a b c d s = (-1, 1) := by unfold findF; rw [g1, g2]; rfl
    rw [hr]
    clear hr
    rw [g2] at HT
    go_enter Tryz.func16, Tryz.ntmps16
    go_wp2_with fail
    refine (H1.out _ (HM.out.below (by (repeat (first | exact Below.refl _ _ | exact Hbl.out | refine Below.ext ?_ (by first | omega | (simp; omega) | simp) | refine Below.setCell ?_ (by first | omega | (simp; omega) | simp) _ | refine Below.alloc ?_ (by first | omega | (simp; omega) | simp) _ | refine Below.drew ?_ | refine below_drewN ?_ _ | refine Below.step (by assumption) (by first | omega | (simp; omega) | simp) ?_))))).mono ?_
    rintro e w1 ⟨v1, rfl, o1, b1⟩
    rw [g1]
    have B1 := Lib.hid (Below.step b1 (by simp) (show Below w.heap.size w _ from (by (repeat (first | exact Below.refl _ _ | exact Hbl.out | refine Below.ext ?_ (by first | omega | (simp; omega) | simp) | refine Below.setCell ?_ (by first | omega | (simp; omega) | simp) _ | refine Below.alloc ?_ (by first | omega | (simp; omega) | simp) _ | refine Below.drew ?_ | refine below_drewN ?_ _ | refine Below.step (by assumption) (by first | omega | (simp; omega) | simp) ?_)))))
    clear b1 o1
    go_wp2_with fail
    refine (HT.out _ (H.out.below B1.out)).mono ?_
    rintro e w2 ⟨rfl, b2⟩
    go_wp2
    go_ret2
    exact ⟨rfl, Below.step b2 B1.out.size B1.out⟩
  · have hr : findF t a b c d s = (-1, 1) := by unfold findF; rw [g1, g2, g3]; rfl
    rw [hr]
    clear hr
    rw [g2] at HT
    go_enter Tryz.func16, Tryz.ntmps16
    go_wp2_with fail
    refine (H1.out _ (HM.out.below (by (repeat (first | exact Below.refl _ _ | exact Hbl.out | refine Below.ext ?_ (by first | omega | (simp; omega) | simp) | refine Below.setCell ?_ (by first | omega | (simp; omega) | simp) _ | refine Below.alloc ?_ (by first | omega | (simp; omega) | simp) _ | refine Below.drew ?_ | refine below_drewN ?_ _ | refine Below.step (by assumption) (by first | omega | (simp; omega) | simp) ?_))))).mono ?_
    rintro e w1 ⟨v1, rfl, o1, b1⟩
    rw [g1]
    have p0 : w1.cell? ⟨w.heap.size, 0, none⟩ = some (.int .i64 a) := (b1.cell (p := ⟨w.heap.size, 0, none⟩) (by simp)).trans (by go_simp)
    have p1 : w1.cell? ⟨w.heap.size, 1, none⟩ = some (.int .i64 b) := (b1.cell (p := ⟨w.heap.size, 1, none⟩) (by simp)).trans (by go_simp)
    have p2 : w1.cell? ⟨w.heap.size, 2, none⟩ = some (.int .i64 c) := (b1.cell (p := ⟨w.heap.size, 2, none⟩) (by simp)).trans (by go_simp)
    have p3 : w1.cell? ⟨w.heap.size, 3, none⟩ = some (.int .i64 d) := (b1.cell (p := ⟨w.heap.size, 3, none⟩) (by simp)).trans (by go_simp)
    have hz1 : w.heap.size < w1.heap.size := by have := b1.size; simp at this; omega
    have B1 := Lib.hid (Below.step b1 (by simp) (show Below w.heap.size w _ from (by (repeat (first | exact Below.refl _ _ | exact Hbl.out | refine Below.ext ?_ (by first | omega | (simp; omega) | simp) | refine Below.setCell ?_ (by first | omega | (simp; omega) | simp) _ | refine Below.alloc ?_ (by first | omega | (simp; omega) | simp) _ | refine Below.drew ?_ | refine below_drewN ?_ _ | refine Below.step (by assumption) (by first | omega | (simp; omega) | simp) ?_)))))
    clear b1 o1
    go_wp2_with fail
    refine (HT.out _ (H.out.below B1.out)).mono ?_
    rintro e w2 ⟨rfl, b2⟩
    obtain ⟨d2, os2, rfl⟩ := ext_of_below b2
    clear b2
    go_wp2_with (go_at_call 53; refine (credI_any _ _ _ _ _).mono ?_; rintro e w' ⟨rfl, hb⟩; obtain ⟨d1, os1, rfl⟩ := ext_of_below hb; clear hb; rw [g3])
    go_ret2
    exact ⟨rfl, Below.step (show Below w1.heap.size w1 _ from (by (repeat (first | exact Below.refl _ _ | exact Hbl.out | refine Below.ext ?_ (by first | omega | (simp; omega) | simp) | refine Below.setCell ?_ (by first | omega | (simp; omega) | simp) _ | refine Below.alloc ?_ (by first | omega | (simp; omega) | simp) _ | refine Below.drew ?_ | refine below_drewN ?_ _ | refine Below.step (by assumption) (by first | omega | (simp; omega) | simp) ?_)))) B1.out.size B1.out⟩
  · obtain ⟨R, hR⟩ : ∃ R, R = findL t (runF a b c d) 0 (partsP s) := ⟨_, rfl⟩
    have hr : findF t a b c d s = R := by unfold findF; rw [g1, g2, g3, hR]; rfl
    rw [hr]
    obtain ⟨ps, hps⟩ : ∃ ps, ps = partsP s := ⟨_, rfl⟩
    have h6 := partsP_len s
    rw [← hps] at hR h6
    have HR := Lib.hid hR
    have Hps := Lib.hid hps
    have Hkr := Lib.hid (fun (k : Nat) (hk : k < t.length) s => kid_range g2 hk s)
    have hlt0 : 0 < t.length := by have := inB_iffL.1 (tree_all g2).1; omega
    have Hsn := Lib.hid (fun (k : Nat) (hk : k < t.length) => head_ks (tree_node g2 hk))
    have Hasc := Lib.hid (fun (k : Nat) (hk : k < t.length) => asc_of (tree_node g2 hk))
    have Hfew := Lib.hid (few_of g2 hkz)
    rw [g2] at HT
    clear hr hR hps
    go_enter Tryz.func16, Tryz.ntmps16
    go_wp2_with fail
    refine (H1.out _ (HM.out.below (by (repeat (first | exact Below.refl _ _ | exact Hbl.out | refine Below.ext ?_ (by first | omega | (simp; omega) | simp) | refine Below.setCell ?_ (by first | omega | (simp; omega) | simp) _ | refine Below.alloc ?_ (by first | omega | (simp; omega) | simp) _ | refine Below.drew ?_ | refine below_drewN ?_ _ | refine Below.step (by assumption) (by first | omega | (simp; omega) | simp) ?_))))).mono ?_
    rintro e w1 ⟨v1, rfl, o1, b1⟩
    rw [g1]
    rw [← Hps.out] at o1
    have p0 : w1.cell? ⟨w.heap.size, 0, none⟩ = some (.int .i64 a) := (b1.cell (p := ⟨w.heap.size, 0, none⟩) (by simp)).trans (by go_simp)
    have p1 : w1.cell? ⟨w.heap.size, 1, none⟩ = some (.int .i64 b) := (b1.cell (p := ⟨w.heap.size, 1, none⟩) (by simp)).trans (by go_simp)
    have p2 : w1.cell? ⟨w.heap.size, 2, none⟩ = some (.int .i64 c) := (b1.cell (p := ⟨w.heap.size, 2, none⟩) (by simp)).trans (by go_simp)
    have p3 : w1.cell? ⟨w.heap.size, 3, none⟩ = some (.int .i64 d) := (b1.cell (p := ⟨w.heap.size, 3, none⟩) (by simp)).trans (by go_simp)
    have hz1 : w.heap.size < w1.heap.size := by have := b1.size; simp at this; omega
    have B1 := Lib.hid (Below.step b1 (by simp) (show Below w.heap.size w _ from (by (repeat (first | exact Below.refl _ _ | exact Hbl.out | refine Below.ext ?_ (by first | omega | (simp; omega) | simp) | refine Below.setCell ?_ (by first | omega | (simp; omega) | simp) _ | refine Below.alloc ?_ (by first | omega | (simp; omega) | simp) _ | refine Below.drew ?_ | refine below_drewN ?_ _ | refine Below.step (by assumption) (by first | omega | (simp; omega) | simp) ?_)))))
    have S1 := Lib.hid (ownS_sl o1)
    obtain ⟨A1, c1, rfl⟩ := own_valm o1
    clear b1 o1
    go_wp2_with fail
    refine (HT.out _ (H.out.below B1.out)).mono ?_
    rintro e w2 ⟨rfl, b2⟩
    obtain ⟨d2, os2, rfl⟩ := ext_of_below b2
    clear b2
    go_wp2_with (go_at_call 53; refine (credI_any _ _ _ _ _).mono ?_; rintro e w' ⟨rfl, hb⟩; obtain ⟨d1, os1, rfl⟩ := ext_of_below hb; clear hb; rw [g3])
    obtain ⟨bt, ot, nA0, nC0, kA0, kC0, rfl, hbt, _, _⟩ := H.out.at_ (kth_at hlt0)
    go_loopw [10, 33] (fun at_ i wr => ∃ (k m : Nat), k ≤ ps.length ∧ at_ = .int .i64 m ∧ i = .int .i64 k ∧ m < t.length ∧ findL t (runF a b c d) (m : Int) (ps.drop k) = R ∧ Below w1.heap.size w1 wr) (fun _ i _ => ps.length - (intOf i).toNat)
    case atStart => exact ⟨0, 0, Nat.zero_le _, rfl, rfl, hlt0, HR.out.symm, (by (repeat (first | exact Below.refl _ _ | exact Hbl.out | refine Below.ext ?_ (by first | omega | (simp; omega) | simp) | refine Below.setCell ?_ (by first | omega | (simp; omega) | simp) _ | refine Below.alloc ?_ (by first | omega | (simp; omega) | simp) _ | refine Below.drew ?_ | refine below_drewN ?_ _ | refine Below.step (by assumption) (by first | omega | (simp; omega) | simp) ?_)))⟩
    case round =>
      obtain ⟨k, m, hk, rfl, rfl, hm, hfl, hB⟩ := hrel
      have HB := Lib.hid hB
      have hzr := hB.size
      have q0 := (hB.cell (p := ⟨w.heap.size, 0, none⟩) hz1).trans p0
      have q1 := (hB.cell (p := ⟨w.heap.size, 1, none⟩) hz1).trans p1
      have q2 := (hB.cell (p := ⟨w.heap.size, 2, none⟩) hz1).trans p2
      have q3 := (hB.cell (p := ⟨w.heap.size, 3, none⟩) hz1).trans p3
      have hzw : w.heap.size < wr.heap.size := by omega
      by_cases hlt : k < ps.length
      · rw [drop_getD hlt] at hfl
        obtain ⟨bp, op, rfl, hbp, cw⟩ := slS_at (S1.out.below hB) hlt
        have hTr := H.out.below (Below.step hB (by omega) B1.out)
        obtain ⟨bt', ot', nA, nC, kA, kC, ee, hbt', hS, y0, y1, y2, y3, y4, y5, y6⟩ := hTr.at_ (kth_at hm)
        cases ee
        have HS := Lib.hid hS
        have hns := Hsn.out m hm
        have hm' : (m : Int) < (t.length : Int) := by omega
        have hk' : (k : Int) < (ps.length : Int) := by omega
        have zk : IntKind.i64.wrap ((k : Int) + 1) = (k : Int) + 1 := IntWalk.i64_in _ (by omega)
        obtain ⟨p, hp⟩ : ∃ p, p = ps.getD k [] := ⟨_, rfl⟩
        rw [← hp] at cw hfl
        have hkr := Hkr.out m hm p
        have Hkid := Lib.hid (fun w h => kidI_of nA nC kA kC (kth t m) p w h hns (Hasc.out m hm) (Hfew.out m hm).1)
        have hg := tree_node g2 hm
        have hvld := (nodeB_iff.1 hg).1
        unfold headB at hvld
        simp only [Bool.and_eq_true] at hvld
        have Hmay := Lib.hid (fun w nA nL nC kA kL kC => allowsI_any a b c d 1 (kth t m) nA nL nC kA kL kC w g3 hvld.1 hvld.2.1 hvld.2.2.1 (by decide))
        simp only [findL, Int.toNat_natCast] at hfl
        generalize kidF (kth t m) p = z at hfl hkr Hkid
        clear hB hTr hS hns hp hg hvld
        go_wp2_with fail
        refine (Hkid.out _ (HS.out.below (by (repeat (first | exact Below.refl _ _ | exact Hbl.out | refine Below.ext ?_ (by first | omega | (simp; omega) | simp) | refine Below.setCell ?_ (by first | omega | (simp; omega) | simp) _ | refine Below.alloc ?_ (by first | omega | (simp; omega) | simp) _ | refine Below.drew ?_ | refine below_drewN ?_ _ | refine Below.step (by assumption) (by first | omega | (simp; omega) | simp) ?_))))).mono ?_
        rintro e w' ⟨rfl, hb⟩
        obtain ⟨d5, os5, rfl⟩ := ext_of_below hb
        clear hb
        cases hfo : (kth t m).fo
        · rw [hfo] at y0 hfl
          rw [if_pos rfl] at hfl
          have Hfl := Lib.hid hfl
          clear hfl
          go_wp2
          go_ret2
          exact ⟨by rw [← Hfl.out]; rfl, Below.step (show Below w1.heap.size w1 _ from Below.step (show Below wr.heap.size wr _ from (by (repeat (first | exact Below.refl _ _ | exact Hbl.out | refine Below.ext ?_ (by first | omega | (simp; omega) | simp) | refine Below.setCell ?_ (by first | omega | (simp; omega) | simp) _ | refine Below.alloc ?_ (by first | omega | (simp; omega) | simp) _ | refine Below.drew ?_ | refine below_drewN ?_ _ | refine Below.step (by assumption) (by first | omega | (simp; omega) | simp) ?_)))) hzr HB.out) (by omega) B1.out⟩
        · rw [hfo] at y0 hfl Hmay
          rw [if_neg (by simp)] at hfl
          cases hmay : runF a b c d (kth t m)
          · rw [hmay, if_pos rfl] at hfl
            have Hfl := Lib.hid hfl
            have hmay' : mayF a b c d (kth t m).ow (kth t m).gr (kth t m).mo 1 = false := hmay
            rw [hmay'] at Hmay
            clear hfl hmay hmay'
            go_wp2_with fail
            go_region_held3 (fun w' => w'.cell? ⟨w.heap.size, 0, none⟩ = some (.int .i64 a) ∧ w'.cell? ⟨w.heap.size, 1, none⟩ = some (.int .i64 b) ∧ w'.cell? ⟨w.heap.size, 2, none⟩ = some (.int .i64 c) ∧ w'.cell? ⟨w.heap.size, 3, none⟩ = some (.int .i64 d) ∧ w'.cell? ⟨bt, ot + m * 7, none⟩ = some (.bool true) ∧ w'.cell? ⟨bt, ot + m * 7 + 1, none⟩ = some (.int .i64 (kth t m).ow) ∧ w'.cell? ⟨bt, ot + m * 7 + 2, none⟩ = some (.int .i64 (kth t m).gr) ∧ w'.cell? ⟨bt, ot + m * 7 + 3, none⟩ = some (.int .i64 (kth t m).mo) ∧ w'.cell? ⟨bt, ot + m * 7 + 4, none⟩ = some (.string (kth t m).tx) ∧ w'.cell? ⟨bt, ot + m * 7 + 5, none⟩ = some (.slice nA (kth t m).ns.length nC) ∧ w'.cell? ⟨bt, ot + m * 7 + 6, none⟩ = some (.slice kA (kth t m).ks.length kC)) (first | assumption | (go_simp; done) | fail) (first | (go_at_call 55; refine (Hmay.out _ _ _ _ _ _ _).mono ?_; rintro e w' ⟨rfl, hb⟩; obtain ⟨d4, os4, rfl⟩ := ext_of_below hb; clear hb))
            all_goals
              go_wp2
              go_ret2
              exact ⟨by rw [← Hfl.out]; rfl, Below.step (show Below w1.heap.size w1 _ from Below.step (show Below wr.heap.size wr _ from (by (repeat (first | exact Below.refl _ _ | exact Hbl.out | refine Below.ext ?_ (by first | omega | (simp; omega) | simp) | refine Below.setCell ?_ (by first | omega | (simp; omega) | simp) _ | refine Below.alloc ?_ (by first | omega | (simp; omega) | simp) _ | refine Below.drew ?_ | refine below_drewN ?_ _ | refine Below.step (by assumption) (by first | omega | (simp; omega) | simp) ?_)))) hzr HB.out) (by omega) B1.out⟩
          · rw [hmay, if_neg (by simp)] at hfl
            have hmay' : mayF a b c d (kth t m).ow (kth t m).gr (kth t m).mo 1 = true := hmay
            rw [hmay'] at Hmay
            clear hmay hmay'
            by_cases hz : z < 0
            · rw [if_pos hz] at hfl
              have Hfl := Lib.hid hfl
              clear hfl hkr
              go_wp2_with fail
              go_region_held3 (fun w' => w'.cell? ⟨w.heap.size, 0, none⟩ = some (.int .i64 a) ∧ w'.cell? ⟨w.heap.size, 1, none⟩ = some (.int .i64 b) ∧ w'.cell? ⟨w.heap.size, 2, none⟩ = some (.int .i64 c) ∧ w'.cell? ⟨w.heap.size, 3, none⟩ = some (.int .i64 d) ∧ w'.cell? ⟨bt, ot + m * 7, none⟩ = some (.bool true) ∧ w'.cell? ⟨bt, ot + m * 7 + 1, none⟩ = some (.int .i64 (kth t m).ow) ∧ w'.cell? ⟨bt, ot + m * 7 + 2, none⟩ = some (.int .i64 (kth t m).gr) ∧ w'.cell? ⟨bt, ot + m * 7 + 3, none⟩ = some (.int .i64 (kth t m).mo) ∧ w'.cell? ⟨bt, ot + m * 7 + 4, none⟩ = some (.string (kth t m).tx) ∧ w'.cell? ⟨bt, ot + m * 7 + 5, none⟩ = some (.slice nA (kth t m).ns.length nC) ∧ w'.cell? ⟨bt, ot + m * 7 + 6, none⟩ = some (.slice kA (kth t m).ks.length kC)) (first | assumption | (go_simp; done) | fail) (first | (go_at_call 55; refine (Hmay.out _ _ _ _ _ _ _).mono ?_; rintro e w' ⟨rfl, hb⟩; obtain ⟨d4, os4, rfl⟩ := ext_of_below hb; clear hb))
              all_goals
                go_wp2
                go_ret2
                exact ⟨by rw [← Hfl.out]; rfl, Below.step (show Below w1.heap.size w1 _ from Below.step (show Below wr.heap.size wr _ from (by (repeat (first | exact Below.refl _ _ | exact Hbl.out | refine Below.ext ?_ (by first | omega | (simp; omega) | simp) | refine Below.setCell ?_ (by first | omega | (simp; omega) | simp) _ | refine Below.alloc ?_ (by first | omega | (simp; omega) | simp) _ | refine Below.drew ?_ | refine below_drewN ?_ _ | refine Below.step (by assumption) (by first | omega | (simp; omega) | simp) ?_)))) hzr HB.out) (by omega) B1.out⟩
            · rw [if_neg hz] at hfl
              have hz2 : z < (t.length : Int) := by omega
              obtain ⟨m', rfl⟩ : ∃ m' : Nat, z = (m' : Int) := ⟨z.toNat, by omega⟩
              have Hfl := Lib.hid hfl
              clear hfl hkr
              go_wp2_with fail
              go_region_held3 (fun w' => w'.cell? ⟨w.heap.size, 0, none⟩ = some (.int .i64 a) ∧ w'.cell? ⟨w.heap.size, 1, none⟩ = some (.int .i64 b) ∧ w'.cell? ⟨w.heap.size, 2, none⟩ = some (.int .i64 c) ∧ w'.cell? ⟨w.heap.size, 3, none⟩ = some (.int .i64 d) ∧ w'.cell? ⟨bt, ot + m * 7, none⟩ = some (.bool true) ∧ w'.cell? ⟨bt, ot + m * 7 + 1, none⟩ = some (.int .i64 (kth t m).ow) ∧ w'.cell? ⟨bt, ot + m * 7 + 2, none⟩ = some (.int .i64 (kth t m).gr) ∧ w'.cell? ⟨bt, ot + m * 7 + 3, none⟩ = some (.int .i64 (kth t m).mo) ∧ w'.cell? ⟨bt, ot + m * 7 + 4, none⟩ = some (.string (kth t m).tx) ∧ w'.cell? ⟨bt, ot + m * 7 + 5, none⟩ = some (.slice nA (kth t m).ns.length nC) ∧ w'.cell? ⟨bt, ot + m * 7 + 6, none⟩ = some (.slice kA (kth t m).ks.length kC)) (first | assumption | (go_simp; done) | fail) (first | (go_at_call 55; refine (Hmay.out _ _ _ _ _ _ _).mono ?_; rintro e w' ⟨rfl, hb⟩; obtain ⟨d4, os4, rfl⟩ := ext_of_below hb; clear hb))
              all_goals
                go_wp2
                go_roundw
                case rel => exact ⟨k + 1, m', hlt, by go_num, by go_num, by omega, Hfl.out, Below.step (show Below wr.heap.size wr _ from (by (repeat (first | exact Below.refl _ _ | exact Hbl.out | refine Below.ext ?_ (by first | omega | (simp; omega) | simp) | refine Below.setCell ?_ (by first | omega | (simp; omega) | simp) _ | refine Below.alloc ?_ (by first | omega | (simp; omega) | simp) _ | refine Below.drew ?_ | refine below_drewN ?_ _ | refine Below.step (by assumption) (by first | omega | (simp; omega) | simp) ?_)))) hzr HB.out⟩
                case measure => simp [intOf]; omega
      · have hk' : k = ps.length := by omega
        subst hk'
        rw [List.drop_length] at hfl
        have Hfl := Lib.hid hfl
        clear hfl hB
        go_wp2
        go_ret2
        exact ⟨by rw [← Hfl.out]; rfl, Below.step HB.out (by omega) B1.out⟩
end Go.Proofs.YtkennmpbmbacpaaGreatDoor
