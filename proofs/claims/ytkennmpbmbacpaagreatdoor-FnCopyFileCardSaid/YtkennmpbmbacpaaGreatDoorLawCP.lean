/- The drawn law on CopyFile: the walk. -/
import Derived.Test.YtkennmpbmbacpaaGreatDoorDrawCP
import Derived.Test.YtkennmpbmbacpaaGreatDoorCpS
import Derived.Test.YtkennmpbmbacpaaGreatDoorSameTr
import Derived.Test.YtkennmpbmbacpaaGreatDoorMH
import Derived.Test.YtkennmpbmbacpaaGreatDoorTake
set_option linter.unusedSimpArgs false
set_option linter.unusedVariables false
set_option linter.unusedSectionVars false
namespace Go.Proofs.YtkennmpbmbacpaaGreatDoor
open Go.RowKit

set_option maxRecDepth 100000 in
set_option maxHeartbeats 4000000 in
theorem walkFnCopyFile (a : Option Addr) (len cap : Nat) (zs : List Int) (w : World) (hsh : w.ShapedOpen Tryz.prog) (hrow : IsRow .u8 w a len cap zs) :
    Calls Tryz.prog 8 #[.slice a len cap] w fun e w' => e = .returned (.bool true) ∧ Below w.heap.size w w' := by
  obtain ⟨hl1, hl2⟩ := hrow.len_le
  unfold maxLen at hl2
  by_cases hbig : (1048576 : Int) < (len : Int)
  · go_enter Tryz.func8, Tryz.ntmps8
    go_wp2
    go_ret
    exact ⟨rfl, Below.refl _ _⟩
  · have hm0 := maxL_of hsh
    go_enter Tryz.func8, Tryz.ntmps8
    go_wp2_with fail
    refine (drawCP_any a len cap zs _ hrow).mono ?_
    rintro e w1 ⟨v, t, a0, b0, c0, d0, S, X, rfl, hR0, hn, hk, hs, hx, b1⟩
    have hR := hR0.r
    clear hR0
    have HM := Lib.hid (hm0.below b1)
    obtain ⟨A, cp, rfl⟩ := hR.shape
    have hcp := hR.caps
    have HR := Lib.hid hR
    have B1 := Lib.hid b1
    have hI := fun w hm h => cpI_of (.slice A t.length cp) t a0 b0 c0 d0 S X w hm h (by omega) (by omega) (by omega) (by omega)
    have hS := fun w h => cpS_of (.slice A t.length cp) t a0 b0 c0 d0 S X w trivial h (by omega) (by omega) (by omega) (by omega)
    have hV := fun t' (h1 : t'.length ≤ 1000) (h2 : (kidsOf t').length ≤ 1000000) v w h => treeI_of v t' w h h1 h2
    have hJx := fun S' (hS' : S'.size ≤ 1048576) t' (h1 : t'.length ≤ 1000) (h2 : (kidsOf t').length ≤ 1000000) v w hm h => findI_of v t' a0 b0 c0 d0 S' w hm h h1 h2 hS'
    have hJ2 := hJx X (by omega)
    have hJ3 := hJx S (by omega)
    have hlaw := @copy_law t a0 b0 c0 d0 S.data.toList X.data.toList
    have hno := @copy_no t a0 b0 c0 d0 S.data.toList X.data.toList
    clear hJx
    generalize S.data.toList = s at hI hS hJ2 hJ3 hlaw hno
    generalize X.data.toList = x at hI hS hJ2 hJ3 hlaw hno
    generalize copyF t a0 b0 c0 d0 s x = M at hI hS hlaw hno
    obtain ⟨t', fm⟩ := M
    simp only at hI hS hlaw hno
    have htl : t'.length ≤ 21 := by
      by_cases h : fm = 0
      · obtain ⟨_, _, _, _, _, _, _, _, h9, _⟩ := hlaw h
        omega
      · rw [hno h]; exact Nat.zero_le _
    have HI := Lib.hid hI
    have HS := Lib.hid hS
    have HJ2 := Lib.hid hJ2
    have HJ3 := Lib.hid hJ3
    have HV := Lib.hid hV
    have HL := Lib.hid hlaw
    have Hno := Lib.hid hno
    have Htl := Lib.hid htl
    clear hR b1 hm0 hI hS hJ2 hJ3 hs hx hV hlaw hno htl
    go_wp2_with fail
    refine (HI.out _ (HM.out.below (by (repeat (first | exact Below.refl _ _ | exact Hbl.out | refine Below.ext ?_ (by first | omega | (simp; omega) | simp) | refine Below.setCell ?_ (by first | omega | (simp; omega) | simp) _ | refine Below.alloc ?_ (by first | omega | (simp; omega) | simp) _ | refine Below.drew ?_ | refine below_drewN ?_ _ | refine Below.step (by assumption) (by first | omega | (simp; omega) | simp) ?_)))) (HR.out.below (by (repeat (first | exact Below.refl _ _ | exact Hbl.out | refine Below.ext ?_ (by first | omega | (simp; omega) | simp) | refine Below.setCell ?_ (by first | omega | (simp; omega) | simp) _ | refine Below.alloc ?_ (by first | omega | (simp; omega) | simp) _ | refine Below.drew ?_ | refine below_drewN ?_ _ | refine Below.step (by assumption) (by first | omega | (simp; omega) | simp) ?_))))).mono ?_
    rintro e w2 ⟨x2, rfl, ⟨cs, hX⟩, b2⟩
    have p0 : w2.cell? ⟨w1.heap.size, 0, none⟩ = some (.int .i64 a0) := (b2.cell (p := ⟨w1.heap.size, 0, none⟩) (by first | (simp; done) | (simp; omega) | omega)).trans (by first | assumption | go_simp)
    have p1 : w2.cell? ⟨w1.heap.size, 1, none⟩ = some (.int .i64 b0) := (b2.cell (p := ⟨w1.heap.size, 1, none⟩) (by first | (simp; done) | (simp; omega) | omega)).trans (by first | assumption | go_simp)
    have p2 : w2.cell? ⟨w1.heap.size, 2, none⟩ = some (.int .i64 c0) := (b2.cell (p := ⟨w1.heap.size, 2, none⟩) (by first | (simp; done) | (simp; omega) | omega)).trans (by first | assumption | go_simp)
    have p3 : w2.cell? ⟨w1.heap.size, 3, none⟩ = some (.int .i64 d0) := (b2.cell (p := ⟨w1.heap.size, 3, none⟩) (by first | (simp; done) | (simp; omega) | omega)).trans (by first | assumption | go_simp)
    have hz2 : w1.heap.size < w2.heap.size := by have := b2.size; simp at this; omega
    have B2 := Lib.hid (Below.step b2 (by simp) (show Below w1.heap.size w1 _ from (by (repeat (first | exact Below.refl _ _ | exact Hbl.out | refine Below.ext ?_ (by first | omega | (simp; omega) | simp) | refine Below.setCell ?_ (by first | omega | (simp; omega) | simp) _ | refine Below.alloc ?_ (by first | omega | (simp; omega) | simp) _ | refine Below.drew ?_ | refine below_drewN ?_ _ | refine Below.step (by assumption) (by first | omega | (simp; omega) | simp) ?_)))))
    have HX := Lib.hid hX
    obtain ⟨Ax, cx, rfl⟩ := TreeO.shape ⟨cs, hX⟩
    clear b2 hX
    go_wp2_with fail
    refine (HS.out _ (HR.out.below B2.out)).mono ?_
    rintro e w3 ⟨y3, rfl, ⟨cs3, hY⟩, b3⟩
    have q0 : w3.cell? ⟨w1.heap.size, 0, none⟩ = some (.int .i64 a0) := (b3.cell (p := ⟨w1.heap.size, 0, none⟩) (by first | (simp; done) | (simp; omega) | omega)).trans (by first | assumption | go_simp)
    have q1 : w3.cell? ⟨w1.heap.size, 1, none⟩ = some (.int .i64 b0) := (b3.cell (p := ⟨w1.heap.size, 1, none⟩) (by first | (simp; done) | (simp; omega) | omega)).trans (by first | assumption | go_simp)
    have q2 : w3.cell? ⟨w1.heap.size, 2, none⟩ = some (.int .i64 c0) := (b3.cell (p := ⟨w1.heap.size, 2, none⟩) (by first | (simp; done) | (simp; omega) | omega)).trans (by first | assumption | go_simp)
    have q3 : w3.cell? ⟨w1.heap.size, 3, none⟩ = some (.int .i64 d0) := (b3.cell (p := ⟨w1.heap.size, 3, none⟩) (by first | (simp; done) | (simp; omega) | omega)).trans (by first | assumption | go_simp)
    have hz3 : w1.heap.size < w3.heap.size := by have := b3.size; omega
    have B3 := Lib.hid (Below.step b3 B2.out.size B2.out)
    have HX3 := Lib.hid (HX.out.below b3)
    obtain ⟨Ay, cy, rfl⟩ := TreeO.shape ⟨cs3, hY⟩
    have hsm := sameTree_of _ _ t' w3 (TreeO.r ⟨_, HX3.out⟩) (TreeO.r ⟨_, hY⟩) (by have := Htl.out; omega)
    have Hsm := Lib.hid hsm
    clear b3 hY B2 HX HI HS p0 p1 p2 p3 hsm
    go_wp2_with fail
    refine Hsm.out.mono ?_
    rintro e w4 ⟨rfl, nd, hw4⟩
    have hd4 : Below w3.heap.size w3 w4 := by rw [hw4]; exact below_drewN (Below.refl _ _) _
    clear hw4
    have r0 : w4.cell? ⟨w1.heap.size, 0, none⟩ = some (.int .i64 a0) := (hd4.cell (p := ⟨w1.heap.size, 0, none⟩) (by first | (simp; done) | (simp; omega) | omega)).trans (by first | assumption | go_simp)
    have r1 : w4.cell? ⟨w1.heap.size, 1, none⟩ = some (.int .i64 b0) := (hd4.cell (p := ⟨w1.heap.size, 1, none⟩) (by first | (simp; done) | (simp; omega) | omega)).trans (by first | assumption | go_simp)
    have r2 : w4.cell? ⟨w1.heap.size, 2, none⟩ = some (.int .i64 c0) := (hd4.cell (p := ⟨w1.heap.size, 2, none⟩) (by first | (simp; done) | (simp; omega) | omega)).trans (by first | assumption | go_simp)
    have r3 : w4.cell? ⟨w1.heap.size, 3, none⟩ = some (.int .i64 d0) := (hd4.cell (p := ⟨w1.heap.size, 3, none⟩) (by first | (simp; done) | (simp; omega) | omega)).trans (by first | assumption | go_simp)
    have B4 := Lib.hid (Below.step hd4 B3.out.size B3.out)
    have B4w := Lib.hid (Below.step B4.out B1.out.size B1.out)
    have HX4 := Lib.hid (HX3.out.below hd4)
    have hz4 : w1.heap.size < w4.heap.size := by have := hd4.size; omega
    clear hd4 Hsm B3 HX3 q0 q1 q2 q3
    by_cases hfm : fm = 0
    · subst hfm
      obtain ⟨n, m, hn1, hm1, f2, f3, htxe, tv, l1, l2⟩ := HL.out rfl
      have hV := fun v w h => HV.out t' (by omega) (by omega) v w h
      rw [tv] at hV
      have hJ3 := fun v w hm h => HJ3.out t' (by omega) (by omega) v w hm h
      rw [f2] at hJ3
      have hJ2 := fun v w hm h => HJ2.out t' (by omega) (by omega) v w hm h
      rw [f3] at hJ2
      have HV' := Lib.hid hV
      have HJ2' := Lib.hid hJ2
      have HJ3' := Lib.hid hJ3
      have Hl1 := Lib.hid l1
      have Htxe := Lib.hid htxe
      clear hV HV hJ2 HJ2 hJ3 HJ3 HL Hno l1 l2 f2 f3 tv htxe
      go_wp2_with fail
      refine (HJ3'.out _ _ (HM.out.below B4.out) (TreeO.r ⟨_, HX4.out⟩)).mono ?_
      rintro e w5 ⟨rfl, b5⟩
      have p0 : w5.cell? ⟨w1.heap.size, 0, none⟩ = some (.int .i64 a0) := (b5.cell (p := ⟨w1.heap.size, 0, none⟩) (by first | (simp; done) | (simp; omega) | omega)).trans (by first | assumption | go_simp)
      have p1 : w5.cell? ⟨w1.heap.size, 1, none⟩ = some (.int .i64 b0) := (b5.cell (p := ⟨w1.heap.size, 1, none⟩) (by first | (simp; done) | (simp; omega) | omega)).trans (by first | assumption | go_simp)
      have p2 : w5.cell? ⟨w1.heap.size, 2, none⟩ = some (.int .i64 c0) := (b5.cell (p := ⟨w1.heap.size, 2, none⟩) (by first | (simp; done) | (simp; omega) | omega)).trans (by first | assumption | go_simp)
      have p3 : w5.cell? ⟨w1.heap.size, 3, none⟩ = some (.int .i64 d0) := (b5.cell (p := ⟨w1.heap.size, 3, none⟩) (by first | (simp; done) | (simp; omega) | omega)).trans (by first | assumption | go_simp)
      have hz5 : w1.heap.size < w5.heap.size := by have := b5.size; omega
      have B5 := Lib.hid (Below.step b5 B4.out.size B4.out)
      have HX5 := Lib.hid (TreeO.r ⟨_, HX4.out.below b5⟩)
      clear b5 B4 HX4 r0 r1 r2 r3 B4w HJ3'
      go_wp2_with fail
      refine (HJ2'.out _ _ (HM.out.below B5.out) HX5.out).mono ?_
      rintro e w6 ⟨rfl, b6⟩
      have B6 := Lib.hid (Below.step b6 B5.out.size B5.out)
      have HX6 := Lib.hid (TreeR.below HX5.out b6)
      have B6w := Lib.hid (Below.step B6.out B1.out.size B1.out)
      clear b6 B5 HX5 p0 p1 p2 p3 HJ2'
      have d1 : decide ((n : Int) < 0) = false := decide_eq_false (by omega)
      have d2 : decide ((t'.length : Int) ≤ (n : Int)) = false := decide_eq_false (by omega)
      have d3 : decide (t'.length ≤ n) = false := decide_eq_false (by omega)
      have d4 : decide ((m : Int) < 0) = false := decide_eq_false (by omega)
      have d5 : decide ((t'.length : Int) ≤ (m : Int)) = false := decide_eq_false (by omega)
      have d6 : decide (t'.length ≤ m) = false := decide_eq_false (by omega)
      have hn1' : (n : Int) < (t'.length : Int) := by omega
      have hm1' : (m : Int) < (t'.length : Int) := by omega
      obtain ⟨bt, ot, nA, nC, kA, kC, e1, hbt, -, -, -, -, -, y4, -, -⟩ := HX6.out.at_ (kth_at hn1)
      obtain ⟨bt2, ot2, -, -, -, -, e2, -, -, -, -, -, -, z4, -, -⟩ := HX6.out.at_ (kth_at hm1)
      have e3 := e1.symm.trans e2
      injection e3 with e3
      injection e3 with e4 e5
      subst e4
      subst e5
      subst e1
      clear e2
      rw [← Htxe.out] at z4
      have hle : decide ((t'.length : Int) ≤ IntKind.i64.wrap ((t.length : Int) + 1)) = true := by rw [IntKind.wrap_i64]; exact decide_eq_true (by have := Hl1.out; omega)
      have hle2 : (t'.length : Int) ≤ (t.length : Int) + 1 := by have := Hl1.out; omega
      have HVw := Lib.hid (fun w (hb : Below w6.heap.size w6 w) => HV'.out _ w (TreeR.below HX6.out hb))
      clear HV' Htxe Hl1
      go_wp2_with fail
      refine wp_region_held_drew (S := (fun w' => w'.cell? ⟨bt, ot + n * 7 + 4, none⟩ = some (.string (kth t' n).tx) ∧ w'.cell? ⟨bt, ot + m * 7 + 4, none⟩ = some (.string (kth t' n).tx))) (by kernel_rfl) ?_ (fun hHeld => ?_)
      · (try dsimp only)
        (refine ⟨?_, ?_⟩ <;> (first | assumption | (go_simp; done)))
      refine tkW (i := 0) (v := ?_) rfl (by kernel_rfl) (by kernel_rfl) (fun _ _ _ h => h) ?_ (by assumption) ?_; rotate_left; (focus (intro w hSw; (try dsimp only at hSw); go_simp; try with_reducible rfl))
      try simp only [Act.put, List.getElem_toArray, List.getElem_cons_succ, List.getElem_cons_zero, List.setIfInBounds_toArray, List.set_cons_zero, List.set_cons_succ]
      refine wpAnyH_ready (rs := [1]) (by kernel_rfl) (by simp) ?_
      refine AllReadyH.cons rfl (fun K hK => ?_) AllReadyH.nil
      go_simp
      (go_at_call 18; refine (HVw.out _ (by (repeat (first | exact Below.refl _ _ | exact Hbl.out | refine Below.ext ?_ (by first | omega | (simp; omega) | simp) | refine Below.setCell ?_ (by first | omega | (simp; omega) | simp) _ | refine Below.alloc ?_ (by first | omega | (simp; omega) | simp) _ | refine Below.drew ?_ | refine below_drewN ?_ _ | refine Below.step (by assumption) (by first | omega | (simp; omega) | simp) ?_)))).mono ?_; rintro e w' ⟨rfl, hb⟩; obtain ⟨d4, os4, rfl⟩ := ext_of_below hb; clear hb)
      refine hK.out _ _ ?_ (fun hHeld => ?_)
      · (try dsimp only)
        (refine ⟨?_, ?_⟩ <;> (first | assumption | (go_simp; done)))
      clear hK K
      try simp only [Act.put, List.getElem_toArray, List.getElem_cons_succ, List.getElem_cons_zero, List.setIfInBounds_toArray, List.set_cons_zero, List.set_cons_succ]
      refine tkW (i := 2) (v := ?_) rfl (by kernel_rfl) (by kernel_rfl) (fun _ _ _ h => h) ?_ (by assumption) ?_; rotate_left; (focus (intro w hSw; (try dsimp only at hSw); go_simp; try with_reducible rfl))
      try simp only [Act.put, List.getElem_toArray, List.getElem_cons_succ, List.getElem_cons_zero, List.setIfInBounds_toArray, List.set_cons_zero, List.set_cons_succ]
      refine tkW (i := 3) (v := ?_) rfl (by kernel_rfl) (by kernel_rfl) (fun _ _ _ h => h) ?_ (by assumption) ?_; rotate_left; (focus (intro w hSw; (try dsimp only at hSw); go_simp; try with_reducible rfl))
      try simp only [Act.put, List.getElem_toArray, List.getElem_cons_succ, List.getElem_cons_zero, List.setIfInBounds_toArray, List.set_cons_zero, List.set_cons_succ]
      refine tkW (i := 4) (v := ?_) rfl (by kernel_rfl) (by kernel_rfl) (fun _ _ _ h => h) ?_ (by assumption) ?_; rotate_left; (focus (intro w hSw; (try dsimp only at hSw); go_simp; try with_reducible rfl))
      try simp only [Act.put, List.getElem_toArray, List.getElem_cons_succ, List.getElem_cons_zero, List.setIfInBounds_toArray, List.set_cons_zero, List.set_cons_succ]
      refine tkW (i := 5) (v := ?_) rfl (by kernel_rfl) (by kernel_rfl) (fun _ _ _ h => h) ?_ (by assumption) ?_; rotate_left; (focus (intro w hSw; (try dsimp only at hSw); go_simp; try with_reducible rfl))
      try simp only [Act.put, List.getElem_toArray, List.getElem_cons_succ, List.getElem_cons_zero, List.setIfInBounds_toArray, List.set_cons_zero, List.set_cons_succ]
      refine tkW (i := 6) (v := ?_) rfl (by kernel_rfl) (by kernel_rfl) (fun _ _ _ h => h) ?_ (by assumption) ?_; rotate_left; (focus (intro w hSw; (try dsimp only at hSw); go_simp; try with_reducible rfl))
      try simp only [Act.put, List.getElem_toArray, List.getElem_cons_succ, List.getElem_cons_zero, List.setIfInBounds_toArray, List.set_cons_zero, List.set_cons_succ]
      refine tkW (i := 7) (v := ?_) rfl (by kernel_rfl) (by kernel_rfl) (fun _ _ _ h => h) ?_ (by assumption) ?_; rotate_left; (focus (intro w hSw; (try dsimp only at hSw); go_simp; try with_reducible rfl))
      try simp only [Act.put, List.getElem_toArray, List.getElem_cons_succ, List.getElem_cons_zero, List.setIfInBounds_toArray, List.set_cons_zero, List.set_cons_succ]
      refine tkW (i := 8) (v := ?_) rfl (by kernel_rfl) (by kernel_rfl) (fun _ _ _ h => h) ?_ (by assumption) ?_; rotate_left; (focus (intro w hSw; (try dsimp only at hSw); go_simp; try with_reducible rfl))
      try simp only [Act.put, List.getElem_toArray, List.getElem_cons_succ, List.getElem_cons_zero, List.setIfInBounds_toArray, List.set_cons_zero, List.set_cons_succ]
      refine tkW (i := 9) (v := ?_) rfl (by kernel_rfl) (by kernel_rfl) (fun _ _ _ h => h) ?_ (by assumption) ?_; rotate_left; (focus (intro w hSw; (try dsimp only at hSw); go_simp; try with_reducible rfl))
      try simp only [Act.put, List.getElem_toArray, List.getElem_cons_succ, List.getElem_cons_zero, List.setIfInBounds_toArray, List.set_cons_zero, List.set_cons_succ]
      refine tkW (i := 10) (v := ?_) rfl (by kernel_rfl) (by kernel_rfl) (fun _ _ _ h => h) ?_ (by assumption) ?_; rotate_left; (focus (intro w hSw; (try dsimp only at hSw); go_simp; try with_reducible rfl))
      try simp only [Act.put, List.getElem_toArray, List.getElem_cons_succ, List.getElem_cons_zero, List.setIfInBounds_toArray, List.set_cons_zero, List.set_cons_succ]
      refine tkW (i := 11) (v := ?_) rfl (by kernel_rfl) (by kernel_rfl) (fun _ _ _ h => h) ?_ (by assumption) ?_; rotate_left; (focus (intro w hSw; (try dsimp only at hSw); go_simp; try with_reducible rfl))
      try simp only [Act.put, List.getElem_toArray, List.getElem_cons_succ, List.getElem_cons_zero, List.setIfInBounds_toArray, List.set_cons_zero, List.set_cons_succ]
      refine tkW (i := 12) (v := ?_) rfl (by kernel_rfl) (by kernel_rfl) (fun _ _ _ h => h) ?_ (by assumption) ?_; rotate_left; (focus (intro w hSw; (try dsimp only at hSw); go_simp; try with_reducible rfl))
      try simp only [Act.put, List.getElem_toArray, List.getElem_cons_succ, List.getElem_cons_zero, List.setIfInBounds_toArray, List.set_cons_zero, List.set_cons_succ]
      refine tkW (i := 13) (v := ?_) rfl (by kernel_rfl) (by kernel_rfl) (fun _ _ _ h => h) ?_ (by assumption) ?_; rotate_left; (focus (intro w hSw; (try dsimp only at hSw); go_simp; try with_reducible rfl))
      try simp only [Act.put, List.getElem_toArray, List.getElem_cons_succ, List.getElem_cons_zero, List.setIfInBounds_toArray, List.set_cons_zero, List.set_cons_succ]
      refine tkW (i := 14) (v := ?_) rfl (by kernel_rfl) (by kernel_rfl) (fun _ _ _ h => h) ?_ (by assumption) ?_; rotate_left; (focus (intro w hSw; (try dsimp only at hSw); go_simp; try with_reducible rfl))
      try simp only [Act.put, List.getElem_toArray, List.getElem_cons_succ, List.getElem_cons_zero, List.setIfInBounds_toArray, List.set_cons_zero, List.set_cons_succ]
      refine tkW (i := 15) (v := ?_) rfl (by kernel_rfl) (by kernel_rfl) (fun _ _ _ h => h) ?_ (by assumption) ?_; rotate_left; (focus (intro w hSw; (try dsimp only at hSw); go_simp; try with_reducible rfl))
      try simp only [Act.put, List.getElem_toArray, List.getElem_cons_succ, List.getElem_cons_zero, List.setIfInBounds_toArray, List.set_cons_zero, List.set_cons_succ]
      refine tkW (i := 16) (v := ?_) rfl (by kernel_rfl) (by kernel_rfl) (fun _ _ _ h => h) ?_ (by assumption) ?_; rotate_left; (focus (intro w hSw; (try dsimp only at hSw); go_simp; try with_reducible rfl))
      try simp only [Act.put, List.getElem_toArray, List.getElem_cons_succ, List.getElem_cons_zero, List.setIfInBounds_toArray, List.set_cons_zero, List.set_cons_succ]
      refine tkW (i := 17) (v := ?_) rfl (by kernel_rfl) (by kernel_rfl) (fun _ _ _ h => h) ?_ (by assumption) ?_; rotate_left; (focus (intro w hSw; (try dsimp only at hSw); go_simp; try with_reducible rfl))
      try simp only [Act.put, List.getElem_toArray, List.getElem_cons_succ, List.getElem_cons_zero, List.setIfInBounds_toArray, List.set_cons_zero, List.set_cons_succ]
      refine tkW (i := 18) (v := ?_) rfl (by kernel_rfl) (by kernel_rfl) (fun _ _ _ h => h) ?_ (by assumption) ?_; rotate_left; (focus (intro w hSw; (try dsimp only at hSw); go_simp; try with_reducible rfl))
      try simp only [Act.put, List.getElem_toArray, List.getElem_cons_succ, List.getElem_cons_zero, List.setIfInBounds_toArray, List.set_cons_zero, List.set_cons_succ]
      refine tkW (i := 19) (v := ?_) rfl (by kernel_rfl) (by kernel_rfl) (fun _ _ _ h => h) ?_ (by assumption) ?_; rotate_left; (focus (intro w hSw; (try dsimp only at hSw); go_simp; try with_reducible rfl))
      try simp only [Act.put, List.getElem_toArray, List.getElem_cons_succ, List.getElem_cons_zero, List.setIfInBounds_toArray, List.set_cons_zero, List.set_cons_succ]
      refine tkW (i := 20) (v := ?_) rfl (by kernel_rfl) (by kernel_rfl) (fun _ _ _ h => h) ?_ (by assumption) ?_; rotate_left; (focus (intro w hSw; (try dsimp only at hSw); go_simp; try with_reducible rfl))
      try simp only [Act.put, List.getElem_toArray, List.getElem_cons_succ, List.getElem_cons_zero, List.setIfInBounds_toArray, List.set_cons_zero, List.set_cons_succ]
      refine tkW (i := 21) (v := ?_) rfl (by kernel_rfl) (by kernel_rfl) (fun _ _ _ h => h) ?_ (by assumption) ?_; rotate_left; (focus (intro w hSw; (try dsimp only at hSw); go_simp; try with_reducible rfl))
      try simp only [Act.put, List.getElem_toArray, List.getElem_cons_succ, List.getElem_cons_zero, List.setIfInBounds_toArray, List.set_cons_zero, List.set_cons_succ]
      refine tkW (i := 22) (v := ?_) rfl (by kernel_rfl) (by kernel_rfl) (fun _ _ _ h => h) ?_ (by assumption) ?_; rotate_left; (focus (intro w hSw; (try dsimp only at hSw); go_simp; try with_reducible rfl))
      try simp only [Act.put, List.getElem_toArray, List.getElem_cons_succ, List.getElem_cons_zero, List.setIfInBounds_toArray, List.set_cons_zero, List.set_cons_succ]
      refine tkW (i := 23) (v := ?_) rfl (by kernel_rfl) (by kernel_rfl) (fun _ _ _ h => h) ?_ (by assumption) ?_; rotate_left; (focus (intro w hSw; (try dsimp only at hSw); go_simp; try with_reducible rfl))
      try simp only [Act.put, List.getElem_toArray, List.getElem_cons_succ, List.getElem_cons_zero, List.setIfInBounds_toArray, List.set_cons_zero, List.set_cons_succ]
      refine tkW (i := 24) (v := ?_) rfl (by kernel_rfl) (by kernel_rfl) (fun _ _ _ h => h) ?_ (by assumption) ?_; rotate_left; (focus (intro w hSw; (try dsimp only at hSw); go_simp; try with_reducible rfl))
      try simp only [Act.put, List.getElem_toArray, List.getElem_cons_succ, List.getElem_cons_zero, List.setIfInBounds_toArray, List.set_cons_zero, List.set_cons_succ]
      refine tkW (i := 25) (v := ?_) rfl (by kernel_rfl) (by kernel_rfl) (fun _ _ _ h => h) ?_ (by assumption) ?_; rotate_left; (focus (intro w hSw; (try dsimp only at hSw); go_simp; try with_reducible rfl))
      try simp only [Act.put, List.getElem_toArray, List.getElem_cons_succ, List.getElem_cons_zero, List.setIfInBounds_toArray, List.set_cons_zero, List.set_cons_succ]
      refine tkW (i := 26) (v := ?_) rfl (by kernel_rfl) (by kernel_rfl) (fun _ _ _ h => h) ?_ (by assumption) ?_; rotate_left; (focus (intro w hSw; (try dsimp only at hSw); go_simp; try with_reducible rfl))
      try simp only [Act.put, List.getElem_toArray, List.getElem_cons_succ, List.getElem_cons_zero, List.setIfInBounds_toArray, List.set_cons_zero, List.set_cons_succ]
      refine tkW (i := 27) (v := ?_) rfl (by kernel_rfl) (by kernel_rfl) (fun _ _ _ h => h) ?_ (by assumption) ?_; rotate_left; (focus (intro w hSw; (try dsimp only at hSw); go_simp; try with_reducible rfl))
      try simp only [Act.put, List.getElem_toArray, List.getElem_cons_succ, List.getElem_cons_zero, List.setIfInBounds_toArray, List.set_cons_zero, List.set_cons_succ]
      refine wpAnyH_done (by kernel_rfl) ?_ _
      go_wp2
      go_ret
      exact ⟨by simp, Below.step (show Below w6.heap.size w6 _ from (by (repeat (first | exact Below.refl _ _ | exact Hbl.out | refine Below.ext ?_ (by first | omega | (simp; omega) | simp) | refine Below.setCell ?_ (by first | omega | (simp; omega) | simp) _ | refine Below.alloc ?_ (by first | omega | (simp; omega) | simp) _ | refine Below.drew ?_ | refine below_drewN ?_ _ | refine Below.step (by assumption) (by first | omega | (simp; omega) | simp) ?_)))) B6w.out.size B6w.out⟩
    · have e1 := Hno.out hfm
      subst e1
      have d1 : (fm != 0) = true := by simpa using hfm
      clear HL Hno HV HJ2 HJ3 HX4 Htl hfm
      go_wp2_with (go_at_call 15; refine (alive_any _).mono ?_; rintro e w' ⟨rfl, rfl⟩)
      go_ret
      exact ⟨rfl, B4w.out⟩
end Go.Proofs.YtkennmpbmbacpaaGreatDoor
