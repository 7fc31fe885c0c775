/- The drawn law on MakeFolders: the walk. -/
import Derived.Test.YtkennmpbmbacpaaGreatDoorDrawMF
import Derived.Test.YtkennmpbmbacpaaGreatDoorFoldS
import Derived.Test.YtkennmpbmbacpaaGreatDoorFile2
import Derived.Test.YtkennmpbmbacpaaGreatDoorSameTr
import Derived.Test.YtkennmpbmbacpaaGreatDoorMH
import Derived.Test.YtkennmpbmbacpaaGreatDoorTake
set_option linter.unusedSimpArgs false
set_option linter.unusedVariables false
set_option linter.unusedSectionVars false
namespace Go.Proofs.YtkennmpbmbacpaaGreatDoor
open Go.RowKit

set_option maxRecDepth 100000 in
set_option maxHeartbeats 4000000 in
theorem walkFnMakeFolders (a : Option Addr) (len cap : Nat) (zs : List Int) (w : World) (hsh : w.ShapedOpen Tryz.prog) (hrow : IsRow .u8 w a len cap zs) :
    Calls Tryz.prog 7 #[.slice a len cap] w fun e w' => e = .returned (.bool true) ∧ Below w.heap.size w w' := by
  obtain ⟨hl1, hl2⟩ := hrow.len_le
  unfold maxLen at hl2
  by_cases hbig : (1048576 : Int) < (len : Int)
  · go_enter Tryz.func7, Tryz.ntmps7
    go_wp2
    go_ret
    exact ⟨rfl, Below.refl _ _⟩
  · have hm0 := maxL_of hsh
    go_enter Tryz.func7, Tryz.ntmps7
    go_wp2_with fail
    refine (drawMF_any a len cap zs _ hrow).mono ?_
    rintro e w1 ⟨v, t, a0, b0, c0, d0, S, mode, rfl, hR0, hn, hk, hs, b1⟩
    have hR := hR0.r
    clear hR0
    have HM := Lib.hid (hm0.below b1)
    obtain ⟨A, cp, rfl⟩ := hR.shape
    have hcp := hR.caps
    have HR := Lib.hid hR
    have B1 := Lib.hid b1
    have hI := fun w hm h => foldI_of (.slice A t.length cp) t a0 b0 c0 d0 S mode w hm h (by omega) (by omega) (by omega)
    have hS := fun w h => foldS_of (.slice A t.length cp) t a0 b0 c0 d0 S mode w h (by omega) (by omega) (by omega)
    have hV := fun t' (h1 : t'.length ≤ 1000) (h2 : (kidsOf t').length ≤ 1000000) v w h => treeI_of v t' w h h1 h2
    have hJ := fun w hm h => findI_of (.slice A t.length cp) t a0 b0 c0 d0 S w hm h (by omega) (by omega) (by omega)
    have hlaw := @folders_law t a0 b0 c0 d0 mode S.data.toList
    have hno := @folders_no t a0 b0 c0 d0 mode S.data.toList
    have hrg := @findF_range t a0 b0 c0 d0 S.data.toList
    generalize S.data.toList = s at hI hS hJ hlaw hno hrg
    generalize foldersF t a0 b0 c0 d0 s mode = M at hI hS hlaw hno
    generalize findF t a0 b0 c0 d0 s = F at hJ hlaw hrg
    obtain ⟨t', fm⟩ := M
    obtain ⟨f1, f2⟩ := F
    simp only at hI hS hlaw hno hJ hrg
    have htl : t'.length ≤ 26 := by
      by_cases h : fm = 0
      · obtain ⟨_, _, _, h9, _⟩ := hlaw h
        omega
      · rw [hno h]; exact Nat.zero_le _
    have HI := Lib.hid hI
    have HS := Lib.hid hS
    have HJ := Lib.hid hJ
    have HV := Lib.hid hV
    have HL := Lib.hid hlaw
    have Hno := Lib.hid hno
    have Hrg := Lib.hid hrg
    have Htl := Lib.hid htl
    clear hR b1 hm0 hI hS hJ hs hV hlaw hno htl hrg
    go_wp2_with fail
    refine (HI.out _ (HM.out.below (by (repeat (first | exact Below.refl _ _ | exact Hbl.out | refine Below.ext ?_ (by first | omega | (simp; omega) | simp) | refine Below.setCell ?_ (by first | omega | (simp; omega) | simp) _ | refine Below.alloc ?_ (by first | omega | (simp; omega) | simp) _ | refine Below.drew ?_ | refine below_drewN ?_ _ | refine Below.step (by assumption) (by first | omega | (simp; omega) | simp) ?_)))) (HR.out.below (by (repeat (first | exact Below.refl _ _ | exact Hbl.out | refine Below.ext ?_ (by first | omega | (simp; omega) | simp) | refine Below.setCell ?_ (by first | omega | (simp; omega) | simp) _ | refine Below.alloc ?_ (by first | omega | (simp; omega) | simp) _ | refine Below.drew ?_ | refine below_drewN ?_ _ | refine Below.step (by assumption) (by first | omega | (simp; omega) | simp) ?_))))).mono ?_
    rintro e w2 ⟨x2, rfl, ⟨cs, hX⟩, b2⟩
    have p0 : w2.cell? ⟨w1.heap.size, 0, none⟩ = some (.int .i64 a0) := (b2.cell (p := ⟨w1.heap.size, 0, none⟩) (by first | (simp; done) | (simp; omega) | omega)).trans (by first | assumption | go_simp)
    have p1 : w2.cell? ⟨w1.heap.size, 1, none⟩ = some (.int .i64 b0) := (b2.cell (p := ⟨w1.heap.size, 1, none⟩) (by first | (simp; done) | (simp; omega) | omega)).trans (by first | assumption | go_simp)
    have p2 : w2.cell? ⟨w1.heap.size, 2, none⟩ = some (.int .i64 c0) := (b2.cell (p := ⟨w1.heap.size, 2, none⟩) (by first | (simp; done) | (simp; omega) | omega)).trans (by first | assumption | go_simp)
    have p3 : w2.cell? ⟨w1.heap.size, 3, none⟩ = some (.int .i64 d0) := (b2.cell (p := ⟨w1.heap.size, 3, none⟩) (by first | (simp; done) | (simp; omega) | omega)).trans (by first | assumption | go_simp)
    have hz2 : w1.heap.size < w2.heap.size := by have := b2.size; simp at this; omega
    have B2 := Lib.hid (Below.step b2 (by simp) (show Below w1.heap.size w1 _ from (by (repeat (first | exact Below.refl _ _ | exact Hbl.out | refine Below.ext ?_ (by first | omega | (simp; omega) | simp) | refine Below.setCell ?_ (by first | omega | (simp; omega) | simp) _ | refine Below.alloc ?_ (by first | omega | (simp; omega) | simp) _ | refine Below.drew ?_ | refine below_drewN ?_ _ | refine Below.step (by assumption) (by first | omega | (simp; omega) | simp) ?_)))))
    have HX := Lib.hid hX
    obtain ⟨Ax, cx, rfl⟩ := TreeO.shape ⟨cs, hX⟩
    clear b2 hX
    go_wp2_with fail
    refine (HS.out _ (HR.out.below B2.out)).mono ?_
    rintro e w3 ⟨y3, rfl, ⟨cs3, hY⟩, b3⟩
    have q0 : w3.cell? ⟨w1.heap.size, 0, none⟩ = some (.int .i64 a0) := (b3.cell (p := ⟨w1.heap.size, 0, none⟩) (by first | (simp; done) | (simp; omega) | omega)).trans (by first | assumption | go_simp)
    have q1 : w3.cell? ⟨w1.heap.size, 1, none⟩ = some (.int .i64 b0) := (b3.cell (p := ⟨w1.heap.size, 1, none⟩) (by first | (simp; done) | (simp; omega) | omega)).trans (by first | assumption | go_simp)
    have q2 : w3.cell? ⟨w1.heap.size, 2, none⟩ = some (.int .i64 c0) := (b3.cell (p := ⟨w1.heap.size, 2, none⟩) (by first | (simp; done) | (simp; omega) | omega)).trans (by first | assumption | go_simp)
    have q3 : w3.cell? ⟨w1.heap.size, 3, none⟩ = some (.int .i64 d0) := (b3.cell (p := ⟨w1.heap.size, 3, none⟩) (by first | (simp; done) | (simp; omega) | omega)).trans (by first | assumption | go_simp)
    have hz3 : w1.heap.size < w3.heap.size := by have := b3.size; omega
    have B3 := Lib.hid (Below.step b3 B2.out.size B2.out)
    have HX3 := Lib.hid (HX.out.below b3)
    obtain ⟨Ay, cy, rfl⟩ := TreeO.shape ⟨cs3, hY⟩
    have hsm := sameTree_of _ _ t' w3 (TreeO.r ⟨_, HX3.out⟩) (TreeO.r ⟨_, hY⟩) (by have := Htl.out; omega)
    have Hsm := Lib.hid hsm
    clear b3 hY B2 HX HI HS p0 p1 p2 p3 hsm
    go_wp2_with fail
    refine Hsm.out.mono ?_
    rintro e w4 ⟨rfl, nd, hw4⟩
    have hd4 : Below w3.heap.size w3 w4 := by rw [hw4]; exact below_drewN (Below.refl _ _) _
    clear hw4
    have r0 : w4.cell? ⟨w1.heap.size, 0, none⟩ = some (.int .i64 a0) := (hd4.cell (p := ⟨w1.heap.size, 0, none⟩) (by first | (simp; done) | (simp; omega) | omega)).trans (by first | assumption | go_simp)
    have r1 : w4.cell? ⟨w1.heap.size, 1, none⟩ = some (.int .i64 b0) := (hd4.cell (p := ⟨w1.heap.size, 1, none⟩) (by first | (simp; done) | (simp; omega) | omega)).trans (by first | assumption | go_simp)
    have r2 : w4.cell? ⟨w1.heap.size, 2, none⟩ = some (.int .i64 c0) := (hd4.cell (p := ⟨w1.heap.size, 2, none⟩) (by first | (simp; done) | (simp; omega) | omega)).trans (by first | assumption | go_simp)
    have r3 : w4.cell? ⟨w1.heap.size, 3, none⟩ = some (.int .i64 d0) := (hd4.cell (p := ⟨w1.heap.size, 3, none⟩) (by first | (simp; done) | (simp; omega) | omega)).trans (by first | assumption | go_simp)
    have B4 := Lib.hid (Below.step hd4 B3.out.size B3.out)
    have B4w := Lib.hid (Below.step B4.out B1.out.size B1.out)
    have HX4 := Lib.hid (HX3.out.below hd4)
    have hz4 : w1.heap.size < w4.heap.size := by have := hd4.size; omega
    clear hd4 Hsm B3 HX3 q0 q1 q2 q3
    by_cases hfm : fm = 0
    · subst hfm
      obtain ⟨-, tv, l0, l1, l2, hsame⟩ := HL.out rfl
      have hV := fun v w h => HV.out t' (by omega) (by omega) v w h
      rw [tv] at hV
      have HV' := Lib.hid hV
      have Hl0 := Lib.hid l0
      have Hl1 := Lib.hid l1
      have Hsame := Lib.hid hsame
      clear hV HV HL Hno l0 l1 l2 tv hsame
      go_wp2_with fail
      refine (HJ.out _ (HM.out.below B4.out) (HR.out.below B4.out)).mono ?_
      rintro e w5 ⟨rfl, b5⟩
      have B5 := Lib.hid (Below.step b5 B4.out.size B4.out)
      have HX5 := Lib.hid (TreeO.r ⟨_, HX4.out.below b5⟩)
      have B5w := Lib.hid (Below.step B5.out B1.out.size B1.out)
      have HR5 := Lib.hid (HR.out.below B5.out)
      clear b5 B4 HX4 r0 r1 r2 r3 B4w HJ
      have hle1 : decide ((t.length : Int) ≤ (t'.length : Int)) = true := decide_eq_true (by have := Hl0.out; omega)
      have hle2 : decide ((t'.length : Int) ≤ IntKind.i64.wrap ((t.length : Int) + 6)) = true := by rw [IntKind.wrap_i64]; exact decide_eq_true (by have := Hl1.out; omega)
      have hle3 : (t'.length : Int) ≤ (t.length : Int) + 6 := by have := Hl1.out; omega
      have hle4 : (t.length : Int) ≤ (t'.length : Int) := by have := Hl0.out; omega
      by_cases hf2 : f2 = 0
      · subst hf2
        obtain ⟨-, -, -, x4, x5⟩ := Hrg.out rfl
        have e2 := Hsame.out rfl
        subst e2
        have hf0 : (0 : Int) ≤ f1 := by omega
        have hfl : f1 < (t'.length : Int) := by omega
        have d1 : decide ((0 : Int) ≤ f1) = true := decide_eq_true hf0
        have d2 : decide (f1 < (t'.length : Int)) = true := decide_eq_true hfl
        have Hsm2 := Lib.hid (sameTree_of _ _ t' w5 HX5.out HR5.out (by omega))
        clear Hrg Hsame Hl0 Hl1
        go_wp2_with fail
        refine Hsm2.out.mono ?_
        rintro e w6 ⟨rfl, nd6, hw6⟩
        have b6 : Below w5.heap.size w5 w6 := by rw [hw6]; exact below_drewN (Below.refl _ _) _
        clear hw6
        have B6w := Lib.hid (Below.step b6 B5w.out.size B5w.out)
        have HX6 := Lib.hid (TreeR.below HX5.out b6)
        clear b6 Hsm2
        go_wp2_with fail
        refine (HV'.out _ _ HX6.out).mono ?_
        rintro e w7 ⟨rfl, b7⟩
        have B7w := Lib.hid (Below.step b7 B6w.out.size B6w.out)
        clear b7
        go_wp2
        go_ret
        exact ⟨by simp, B7w.out⟩
      · have d1 : (f2 == 0) = false := by simpa using hf2
        clear Hrg Hsame Hl0 Hl1
        go_wp2_with fail
        refine (HV'.out _ _ HX5.out).mono ?_
        rintro e w7 ⟨rfl, b7⟩
        have B7w := Lib.hid (Below.step b7 B5w.out.size B5w.out)
        clear b7
        go_wp2
        go_ret
        exact ⟨by simp, B7w.out⟩
    · have e1 := Hno.out hfm
      subst e1
      have d1 : (fm != 0) = true := by simpa using hfm
      clear HL Hno HV HJ HX4 Htl hfm
      go_wp2_with (go_at_call 15; refine (alive_any _).mono ?_; rintro e w' ⟨rfl, rfl⟩)
      go_ret
      exact ⟨rfl, B4w.out⟩
end Go.Proofs.YtkennmpbmbacpaaGreatDoor
