/- The drawn law on DropAll: the walk. -/
import Derived.Test.YtkennmpbmbacpaaGreatDoorDrawFE
import Derived.Test.YtkennmpbmbacpaaGreatDoorDropI
import Derived.Test.YtkennmpbmbacpaaGreatDoorAllS
import Derived.Test.YtkennmpbmbacpaaGreatDoorAllI
import Derived.Test.YtkennmpbmbacpaaGreatDoorSameTr
import Derived.Test.YtkennmpbmbacpaaGreatDoorMH
import Derived.Test.YtkennmpbmbacpaaGreatDoorFindI
set_option linter.unusedSimpArgs false
set_option linter.unusedVariables false
set_option linter.unusedSectionVars false
namespace Go.Proofs.YtkennmpbmbacpaaGreatDoor
open Go.RowKit

set_option maxRecDepth 100000 in
set_option maxHeartbeats 4000000 in
theorem walkFnDropAll (a : Option Addr) (len cap : Nat) (zs : List Int) (w : World) (hsh : w.ShapedOpen Tryz.prog) (hrow : IsRow .u8 w a len cap zs) :
    Calls Tryz.prog 6 #[.slice a len cap] w fun e w' => e = .returned (.bool true) ∧ Below w.heap.size w w' := by
  obtain ⟨hl1, hl2⟩ := hrow.len_le
  unfold maxLen at hl2
  by_cases hbig : (1048576 : Int) < (len : Int)
  · go_enter Tryz.func6, Tryz.ntmps6
    go_wp2
    go_ret
    exact ⟨rfl, Below.refl _ _⟩
  · have hm0 := maxL_of hsh
    go_enter Tryz.func6, Tryz.ntmps6
    go_wp2_with fail
    refine (drawDAE_any a len cap zs _ hrow).mono ?_
    rintro e w1 ⟨v, t, a0, b0, c0, d0, S, rfl, hR0, hn, hk, ⟨hfw, hlv⟩, hs, b1⟩
    obtain ⟨s, rfl⟩ : ∃ s, S = mk s := ⟨_, mk_list S⟩
    rw [mk_size] at hs
    have hR := hR0.r
    clear hR0
    have HM := Lib.hid (hm0.below b1)
    obtain ⟨A, cp, rfl⟩ := hR.shape
    have hcp := hR.caps
    have HR := Lib.hid hR
    have B1 := Lib.hid b1
    have hI := fun w hm h => allI_of a0 b0 c0 d0 6 (.slice A t.length cp) t s w hm h (by omega) (by omega) (by omega) hlv (fun _ => Nat.le_add_right 6 _)
    have hS := fun w h => allS_of (.slice A t.length cp) t a0 b0 c0 d0 s w h (by omega) (by omega) hfw hlv (by omega)
    have hO := fun w hm h => dropNI_of (.slice A t.length cp) t a0 b0 c0 d0 (mk s) w hm h (by omega) (by omega) (by rw [mk_size]; omega)
    rw [mk_data] at hO
    have hJ2 := fun t' (h1 : t'.length ≤ 1000) (h2 : (kidsOf t').length ≤ 1000000) v w hm h => findI_of v t' a0 b0 c0 d0 (mk s) w hm h h1 h2 (by rw [mk_size]; omega)
    rw [mk_data] at hJ2
    have hV := fun t' (h1 : t'.length ≤ 1000) (h2 : (kidsOf t').length ≤ 1000000) v w h => treeI_of v t' w h h1 h2
    have hlaw := @all_law a0 b0 c0 d0 _ 6 t s (Nat.le_refl _) hlv (fun _ => Nat.le_add_right 6 _)
    have hone := @all_one t a0 b0 c0 d0 s 6
    generalize allF a0 b0 c0 d0 6 t s = M at hI hS hlaw hone
    generalize dropF t a0 b0 c0 d0 s = O at hO hone
    obtain ⟨t', fm⟩ := M
    obtain ⟨o', fo⟩ := O
    simp only at hI hS hO hlaw hone
    have htl : t'.length ≤ 20 := by
      rcases hlaw with ⟨_, h⟩ | ⟨_, _, _, h, _⟩
      · rw [h]; exact Nat.zero_le _
      · omega
    have HI := Lib.hid hI
    have HS := Lib.hid hS
    have HO := Lib.hid hO
    have HJ2 := Lib.hid hJ2
    have HV := Lib.hid hV
    have HL := Lib.hid hlaw
    have HN1 := Lib.hid hone
    have Htl := Lib.hid htl
    clear hR b1 hm0 hI hS hO hJ2 hs hV hlaw hone htl hfw hlv
    go_wp2_with fail
    refine (HI.out _ (HM.out.below (by (repeat (first | exact Below.refl _ _ | exact Hbl.out | refine Below.ext ?_ (by first | omega | (simp; omega) | simp) | refine Below.setCell ?_ (by first | omega | (simp; omega) | simp) _ | refine Below.alloc ?_ (by first | omega | (simp; omega) | simp) _ | refine Below.drew ?_ | refine below_drewN ?_ _ | refine Below.step (by assumption) (by first | omega | (simp; omega) | simp) ?_)))) (HR.out.below (by (repeat (first | exact Below.refl _ _ | exact Hbl.out | refine Below.ext ?_ (by first | omega | (simp; omega) | simp) | refine Below.setCell ?_ (by first | omega | (simp; omega) | simp) _ | refine Below.alloc ?_ (by first | omega | (simp; omega) | simp) _ | refine Below.drew ?_ | refine below_drewN ?_ _ | refine Below.step (by assumption) (by first | omega | (simp; omega) | simp) ?_))))).mono ?_
    rintro e w2 ⟨x2, rfl, ⟨cs, hX⟩, b2⟩
    have p0 : w2.cell? ⟨w1.heap.size, 0, none⟩ = some (.int .i64 a0) := (b2.cell (p := ⟨w1.heap.size, 0, none⟩) (by first | (simp; done) | (simp; omega) | omega)).trans (by first | assumption | go_simp)
    have p1 : w2.cell? ⟨w1.heap.size, 1, none⟩ = some (.int .i64 b0) := (b2.cell (p := ⟨w1.heap.size, 1, none⟩) (by first | (simp; done) | (simp; omega) | omega)).trans (by first | assumption | go_simp)
    have p2 : w2.cell? ⟨w1.heap.size, 2, none⟩ = some (.int .i64 c0) := (b2.cell (p := ⟨w1.heap.size, 2, none⟩) (by first | (simp; done) | (simp; omega) | omega)).trans (by first | assumption | go_simp)
    have p3 : w2.cell? ⟨w1.heap.size, 3, none⟩ = some (.int .i64 d0) := (b2.cell (p := ⟨w1.heap.size, 3, none⟩) (by first | (simp; done) | (simp; omega) | omega)).trans (by first | assumption | go_simp)
    have hz2 : w1.heap.size < w2.heap.size := by have := b2.size; simp at this; omega
    have B2 := Lib.hid (Below.step b2 (by simp) (show Below w1.heap.size w1 _ from (by (repeat (first | exact Below.refl _ _ | exact Hbl.out | refine Below.ext ?_ (by first | omega | (simp; omega) | simp) | refine Below.setCell ?_ (by first | omega | (simp; omega) | simp) _ | refine Below.alloc ?_ (by first | omega | (simp; omega) | simp) _ | refine Below.drew ?_ | refine below_drewN ?_ _ | refine Below.step (by assumption) (by first | omega | (simp; omega) | simp) ?_)))))
    have HX := Lib.hid hX
    obtain ⟨Ax, cx, rfl⟩ := TreeO.shape ⟨cs, hX⟩
    clear b2 hX
    go_wp2_with fail
    refine (HS.out _ (HR.out.below B2.out)).mono ?_
    rintro e w3 ⟨y3, rfl, ⟨cs3, hY⟩, b3⟩
    have q0 : w3.cell? ⟨w1.heap.size, 0, none⟩ = some (.int .i64 a0) := (b3.cell (p := ⟨w1.heap.size, 0, none⟩) (by first | (simp; done) | (simp; omega) | omega)).trans (by first | assumption | go_simp)
    have q1 : w3.cell? ⟨w1.heap.size, 1, none⟩ = some (.int .i64 b0) := (b3.cell (p := ⟨w1.heap.size, 1, none⟩) (by first | (simp; done) | (simp; omega) | omega)).trans (by first | assumption | go_simp)
    have q2 : w3.cell? ⟨w1.heap.size, 2, none⟩ = some (.int .i64 c0) := (b3.cell (p := ⟨w1.heap.size, 2, none⟩) (by first | (simp; done) | (simp; omega) | omega)).trans (by first | assumption | go_simp)
    have q3 : w3.cell? ⟨w1.heap.size, 3, none⟩ = some (.int .i64 d0) := (b3.cell (p := ⟨w1.heap.size, 3, none⟩) (by first | (simp; done) | (simp; omega) | omega)).trans (by first | assumption | go_simp)
    have hz3 : w1.heap.size < w3.heap.size := by have := b3.size; omega
    have B3 := Lib.hid (Below.step b3 B2.out.size B2.out)
    have HX3 := Lib.hid (HX.out.below b3)
    obtain ⟨Ay, cy, rfl⟩ := TreeO.shape ⟨cs3, hY⟩
    have hsm := sameTree_of _ _ t' w3 (TreeO.r ⟨_, HX3.out⟩) (TreeO.r ⟨_, hY⟩) (by have := Htl.out; omega)
    have Hsm := Lib.hid hsm
    clear b3 hY B2 HX HI HS p0 p1 p2 p3 hsm
    go_wp2_with fail
    refine Hsm.out.mono ?_
    rintro e w4 ⟨rfl, nd, hw4⟩
    have hd4 : Below w3.heap.size w3 w4 := by rw [hw4]; exact below_drewN (Below.refl _ _) _
    clear hw4
    have r0 : w4.cell? ⟨w1.heap.size, 0, none⟩ = some (.int .i64 a0) := (hd4.cell (p := ⟨w1.heap.size, 0, none⟩) (by first | (simp; done) | (simp; omega) | omega)).trans (by first | assumption | go_simp)
    have r1 : w4.cell? ⟨w1.heap.size, 1, none⟩ = some (.int .i64 b0) := (hd4.cell (p := ⟨w1.heap.size, 1, none⟩) (by first | (simp; done) | (simp; omega) | omega)).trans (by first | assumption | go_simp)
    have r2 : w4.cell? ⟨w1.heap.size, 2, none⟩ = some (.int .i64 c0) := (hd4.cell (p := ⟨w1.heap.size, 2, none⟩) (by first | (simp; done) | (simp; omega) | omega)).trans (by first | assumption | go_simp)
    have r3 : w4.cell? ⟨w1.heap.size, 3, none⟩ = some (.int .i64 d0) := (hd4.cell (p := ⟨w1.heap.size, 3, none⟩) (by first | (simp; done) | (simp; omega) | omega)).trans (by first | assumption | go_simp)
    have B4 := Lib.hid (Below.step hd4 B3.out.size B3.out)
    have HX4 := Lib.hid (HX3.out.below hd4)
    have hz4 : w1.heap.size < w4.heap.size := by have := hd4.size; omega
    clear hd4 Hsm B3 HX3 q0 q1 q2 q3
    go_wp2_with fail
    refine (HO.out _ (HM.out.below B4.out) (HR.out.below B4.out)).mono ?_
    rintro e w5 ⟨v5, rfl, hO5, b5⟩
    have p0 : w5.cell? ⟨w1.heap.size, 0, none⟩ = some (.int .i64 a0) := (b5.cell (p := ⟨w1.heap.size, 0, none⟩) (by first | (simp; done) | (simp; omega) | omega)).trans (by first | assumption | go_simp)
    have p1 : w5.cell? ⟨w1.heap.size, 1, none⟩ = some (.int .i64 b0) := (b5.cell (p := ⟨w1.heap.size, 1, none⟩) (by first | (simp; done) | (simp; omega) | omega)).trans (by first | assumption | go_simp)
    have p2 : w5.cell? ⟨w1.heap.size, 2, none⟩ = some (.int .i64 c0) := (b5.cell (p := ⟨w1.heap.size, 2, none⟩) (by first | (simp; done) | (simp; omega) | omega)).trans (by first | assumption | go_simp)
    have p3 : w5.cell? ⟨w1.heap.size, 3, none⟩ = some (.int .i64 d0) := (b5.cell (p := ⟨w1.heap.size, 3, none⟩) (by first | (simp; done) | (simp; omega) | omega)).trans (by first | assumption | go_simp)
    have hz5 : w1.heap.size < w5.heap.size := by have := b5.size; omega
    have B5 := Lib.hid (Below.step b5 B4.out.size B4.out)
    have B5w := Lib.hid (Below.step B5.out B1.out.size B1.out)
    have HX5 := Lib.hid (HX4.out.below b5)
    obtain ⟨A5, c5, rfl⟩ := hO5.shape
    have HO5 := Lib.hid hO5
    clear hO5 b5 B4 HX4 HO r0 r1 r2 r3
    rcases HL.out with ⟨hd, e1⟩ | ⟨hfm, tv, f2, hc1, hc2⟩
    · subst e1
      have ho : ¬ fo = 0 := fun e => by have := HN1.out e; injection this with _ e2; exact hd (e2.trans e)
      have d1 : (fm != 0) = true := by simpa using hd
      have d2 : (fo == 0) = false := by simpa using ho
      clear HL HV HJ2 HX5 Htl hd ho HN1
      go_wp2_with (go_at_call 15; refine (alive_any _).mono ?_; rintro e w' ⟨rfl, rfl⟩)
      go_ret
      exact ⟨rfl, B5w.out⟩
    · subst hfm
      have hV := fun v w h => HV.out t' (by omega) (by omega) v w h
      rw [tv] at hV
      have hJ2 := fun v w hm h => HJ2.out t' (by omega) (by omega) v w hm h
      rw [f2] at hJ2
      have HV' := Lib.hid hV
      have HJ2' := Lib.hid hJ2
      have z1 : IntKind.i64.wrap ((t.length : Int) + 1) = (t.length : Int) + 1 := IntWalk.i64_in _ (by omega)
      have g3 : decide ((t'.length : Int) < (t.length : Int) + 1) = true := by simp; omega
      have g4 : (t'.length : Int) < (t.length : Int) + 1 := by omega
      clear hV HV hJ2 HJ2 HL f2 tv
      by_cases ho : fo = 0
      · have he := HN1.out ho
        injection he with he1 he2
        subst he1
        subst ho
        have HR5 := Lib.hid (TreeO.r ⟨_, HX5.out⟩)
        have hsm := sameTree_of _ _ _ w5 HO5.out.r HR5.out (by have := Htl.out; omega)
        have Hsm := Lib.hid hsm
        clear HN1 HX5 HO5 hsm
        go_wp2_with fail
        refine Hsm.out.mono ?_
        rintro e w6 ⟨rfl, nd, hw6⟩
        have b6 : Below w5.heap.size w5 w6 := by rw [hw6]; exact below_drewN (Below.refl _ _) _
        clear hw6
        have q0 : w6.cell? ⟨w1.heap.size, 0, none⟩ = some (.int .i64 a0) := (b6.cell (p := ⟨w1.heap.size, 0, none⟩) (by first | (simp; done) | (simp; omega) | omega)).trans (by first | assumption | go_simp)
        have q1 : w6.cell? ⟨w1.heap.size, 1, none⟩ = some (.int .i64 b0) := (b6.cell (p := ⟨w1.heap.size, 1, none⟩) (by first | (simp; done) | (simp; omega) | omega)).trans (by first | assumption | go_simp)
        have q2 : w6.cell? ⟨w1.heap.size, 2, none⟩ = some (.int .i64 c0) := (b6.cell (p := ⟨w1.heap.size, 2, none⟩) (by first | (simp; done) | (simp; omega) | omega)).trans (by first | assumption | go_simp)
        have q3 : w6.cell? ⟨w1.heap.size, 3, none⟩ = some (.int .i64 d0) := (b6.cell (p := ⟨w1.heap.size, 3, none⟩) (by first | (simp; done) | (simp; omega) | omega)).trans (by first | assumption | go_simp)
        have hz6 : w1.heap.size < w6.heap.size := by have := b6.size; omega
        have B6 := Lib.hid (Below.step b6 B5.out.size B5.out)
        have HX6 := Lib.hid (HR5.out.below b6)
        clear b6 B5 B5w HR5 Hsm p0 p1 p2 p3
        go_wp2_with fail
        refine (HJ2'.out _ _ (HM.out.below B6.out) HX6.out).mono ?_
        rintro e w7 ⟨rfl, b7⟩
        have B7 := Lib.hid (Below.step b7 B6.out.size B6.out)
        have HX7 := Lib.hid (TreeR.below HX6.out b7)
        clear b7 B6 HX6 q0 q1 q2 q3 HJ2'
        go_wp2_with fail
        refine (HV'.out _ _ HX7.out).mono ?_
        rintro e w8 ⟨rfl, b8⟩
        have B8 := Lib.hid (Below.step b8 B7.out.size B7.out)
        have B8w := Lib.hid (Below.step B8.out B1.out.size B1.out)
        clear b8
        go_wp2
        go_ret
        exact ⟨rfl, B8w.out⟩
      · have d2 : (fo == 0) = false := by simpa using ho
        obtain ⟨q0, q1, q2, q3⟩ : _ ∧ _ ∧ _ ∧ _ := ⟨p0, p1, p2, p3⟩
        have B6 := Lib.hid B5.out
        have HX6 := Lib.hid (TreeO.r ⟨_, HX5.out⟩)
        clear HN1 HX5 HO5 ho p0 p1 p2 p3 B5
        go_wp2_with fail
        refine (HJ2'.out _ _ (HM.out.below B6.out) HX6.out).mono ?_
        rintro e w7 ⟨rfl, b7⟩
        have B7 := Lib.hid (Below.step b7 B6.out.size B6.out)
        have HX7 := Lib.hid (TreeR.below HX6.out b7)
        clear b7 B6 HX6 q0 q1 q2 q3 HJ2'
        go_wp2_with fail
        refine (HV'.out _ _ HX7.out).mono ?_
        rintro e w8 ⟨rfl, b8⟩
        have B8 := Lib.hid (Below.step b8 B7.out.size B7.out)
        have B8w := Lib.hid (Below.step B8.out B1.out.size B1.out)
        clear b8
        go_wp2
        go_ret
        exact ⟨rfl, B8w.out⟩
end Go.Proofs.YtkennmpbmbacpaaGreatDoor
