/- The drawn law on DropName: the walk. -/
import Derived.Test.YtkennmpbmbacpaaGreatDoorDrawG
import Derived.Test.YtkennmpbmbacpaaGreatDoorDropI
import Derived.Test.YtkennmpbmbacpaaGreatDoorDropS
import Derived.Test.YtkennmpbmbacpaaGreatDoorLnk
import Derived.Test.YtkennmpbmbacpaaGreatDoorFile2
import Derived.Test.YtkennmpbmbacpaaGreatDoorSameTr
import Derived.Test.YtkennmpbmbacpaaGreatDoorMH
import Derived.Test.YtkennmpbmbacpaaGreatDoorFindI
set_option linter.unusedSimpArgs false
set_option linter.unusedVariables false
set_option linter.unusedSectionVars false
namespace Go.Proofs.YtkennmpbmbacpaaGreatDoor
open Go.RowKit

set_option maxRecDepth 100000 in
set_option maxHeartbeats 4000000 in
theorem walkFnDropName (a : Option Addr) (len cap : Nat) (zs : List Int) (w : World) (hsh : w.ShapedOpen Tryz.prog) (hrow : IsRow .u8 w a len cap zs) :
    Calls Tryz.prog 3 #[.slice a len cap] w fun e w' => e = .returned (.bool true) ∧ Below w.heap.size w w' := by
  obtain ⟨hl1, hl2⟩ := hrow.len_le
  unfold maxLen at hl2
  by_cases hbig : (1048576 : Int) < (len : Int)
  · go_enter Tryz.func3, Tryz.ntmps3
    go_wp2
    go_ret
    exact ⟨rfl, Below.refl _ _⟩
  · have hm0 := maxL_of hsh
    go_enter Tryz.func3, Tryz.ntmps3
    go_wp2_with fail
    refine (drawDN_any a len cap zs _ hrow).mono ?_
    rintro e w1 ⟨v, t, a0, b0, c0, d0, S, rfl, hR0, hn, hk, hs, b1⟩
    have hR := hR0.r
    clear hR0
    have HM := Lib.hid (hm0.below b1)
    obtain ⟨A, cp, rfl⟩ := hR.shape
    have hcp := hR.caps
    have HR := Lib.hid hR
    have B1 := Lib.hid b1
    have hsl : S.data.toList.length ≤ 1048576 := by have : S.data.toList.length = S.size := Array.length_toList; omega
    have hI := fun w hm h => dropNI_of (.slice A t.length cp) t a0 b0 c0 d0 S w hm h (by omega) (by omega) (by omega)
    have hS := fun w h => dropNS_of (.slice A t.length cp) t a0 b0 c0 d0 S.data.toList w h (by omega) (by omega) hsl
    rw [← mk_list] at hS
    have hD := fun w hm h => dropI_of (.slice A t.length cp) t a0 b0 c0 d0 S w hm h (by omega) (by omega) (by omega)
    have hJ := fun w hm h => findI_of (.slice A t.length cp) t a0 b0 c0 d0 S w hm h (by omega) (by omega) (by omega)
    have hJ2 := fun t' (h1 : t'.length ≤ 1000) (h2 : (kidsOf t').length ≤ 1000000) v w hm h => findI_of v t' a0 b0 c0 d0 S w hm h h1 h2 (by omega)
    have hV := fun t' (h1 : t'.length ≤ 1000) (h2 : (kidsOf t').length ≤ 1000000) v w h => treeI_of v t' w h h1 h2
    have hLk := fun w h => linksI_of (.slice A t.length cp) t w h (by omega) (by omega)
    have hlaw := @drop_law t a0 b0 c0 d0 S.data.toList
    have hno := @drop_no t a0 b0 c0 d0 S.data.toList
    have hfr := @findF_range t a0 b0 c0 d0 S.data.toList
    generalize S.data.toList = s at hI hS hD hJ hJ2 hlaw hno hfr
    generalize dropF t a0 b0 c0 d0 s = M at hI hS hlaw hno
    generalize dropOf t a0 b0 c0 d0 s false = D at hD hlaw hno
    obtain ⟨t', fm⟩ := M
    simp only at hI hS hlaw
    have hfacts : (¬ D = 0 ∧ fm = D ∧ t' = []) ∨ (fm = 0 ∧ ∃ k : Nat, k < t.length ∧ findF t a0 b0 c0 d0 s = ((k : Int), 0) ∧ findF t' a0 b0 c0 d0 s = (-1, 2) ∧ treeB t = true ∧ treeB t' = true ∧ ((t'.length = t.length - 1 ∧ lnk t k = 1) ∨ (t'.length = t.length ∧ lnk t k ≠ 1)) ∧ (kidsOf t').length ≤ (kidsOf t).length ∧ 2 ≤ t.length) := by
      by_cases hd : D = 0
      · obtain ⟨k, h1, h2, h3, h4, h5, h6, h7, h8⟩ := hlaw hd
        exact .inr ⟨h3, k, h1, h2, h5, (hfr (by rw [h2])).1, h4, h6, by omega, h7⟩
      · have e := hno hd
        injection e with e1 e2
        exact .inl ⟨hd, e2, e1⟩
    have htl : t'.length ≤ 20 := by
      rcases hfacts with ⟨_, _, h⟩ | ⟨_, _, _, _, _, _, _, h, _⟩
      · rw [h]; exact Nat.zero_le _
      · rcases h with ⟨h, _⟩ | ⟨h, _⟩ <;> omega
    have HI := Lib.hid hI
    have HS := Lib.hid hS
    have HD := Lib.hid hD
    have HJ := Lib.hid hJ
    have HJ2 := Lib.hid hJ2
    have HLk := Lib.hid hLk
    have HV := Lib.hid hV
    have HL := Lib.hid hfacts
    have Htl := Lib.hid htl
    clear hR b1 hm0 hI hS hD hJ hJ2 hs hV hlaw hno hfr hfacts htl hsl hLk
    go_wp2_with fail
    refine (HI.out _ (HM.out.below (by (repeat (first | exact Below.refl _ _ | exact Hbl.out | refine Below.ext ?_ (by first | omega | (simp; omega) | simp) | refine Below.setCell ?_ (by first | omega | (simp; omega) | simp) _ | refine Below.alloc ?_ (by first | omega | (simp; omega) | simp) _ | refine Below.drew ?_ | refine below_drewN ?_ _ | refine Below.step (by assumption) (by first | omega | (simp; omega) | simp) ?_)))) (HR.out.below (by (repeat (first | exact Below.refl _ _ | exact Hbl.out | refine Below.ext ?_ (by first | omega | (simp; omega) | simp) | refine Below.setCell ?_ (by first | omega | (simp; omega) | simp) _ | refine Below.alloc ?_ (by first | omega | (simp; omega) | simp) _ | refine Below.drew ?_ | refine below_drewN ?_ _ | refine Below.step (by assumption) (by first | omega | (simp; omega) | simp) ?_))))).mono ?_
    rintro e w2 ⟨x2, rfl, ⟨cs, hX⟩, b2⟩
    have p0 : w2.cell? ⟨w1.heap.size, 0, none⟩ = some (.int .i64 a0) := (b2.cell (p := ⟨w1.heap.size, 0, none⟩) (by first | (simp; done) | (simp; omega) | omega)).trans (by first | assumption | go_simp)
    have p1 : w2.cell? ⟨w1.heap.size, 1, none⟩ = some (.int .i64 b0) := (b2.cell (p := ⟨w1.heap.size, 1, none⟩) (by first | (simp; done) | (simp; omega) | omega)).trans (by first | assumption | go_simp)
    have p2 : w2.cell? ⟨w1.heap.size, 2, none⟩ = some (.int .i64 c0) := (b2.cell (p := ⟨w1.heap.size, 2, none⟩) (by first | (simp; done) | (simp; omega) | omega)).trans (by first | assumption | go_simp)
    have p3 : w2.cell? ⟨w1.heap.size, 3, none⟩ = some (.int .i64 d0) := (b2.cell (p := ⟨w1.heap.size, 3, none⟩) (by first | (simp; done) | (simp; omega) | omega)).trans (by first | assumption | go_simp)
    have hz2 : w1.heap.size < w2.heap.size := by have := b2.size; simp at this; omega
    have B2 := Lib.hid (Below.step b2 (by simp) (show Below w1.heap.size w1 _ from (by (repeat (first | exact Below.refl _ _ | exact Hbl.out | refine Below.ext ?_ (by first | omega | (simp; omega) | simp) | refine Below.setCell ?_ (by first | omega | (simp; omega) | simp) _ | refine Below.alloc ?_ (by first | omega | (simp; omega) | simp) _ | refine Below.drew ?_ | refine below_drewN ?_ _ | refine Below.step (by assumption) (by first | omega | (simp; omega) | simp) ?_)))))
    have HX := Lib.hid hX
    obtain ⟨Ax, cx, rfl⟩ := TreeO.shape ⟨cs, hX⟩
    clear b2 hX
    go_wp2_with fail
    refine (HS.out _ (HR.out.below B2.out)).mono ?_
    rintro e w3 ⟨y3, rfl, ⟨cs3, hY⟩, b3⟩
    have q0 : w3.cell? ⟨w1.heap.size, 0, none⟩ = some (.int .i64 a0) := (b3.cell (p := ⟨w1.heap.size, 0, none⟩) (by first | (simp; done) | (simp; omega) | omega)).trans (by first | assumption | go_simp)
    have q1 : w3.cell? ⟨w1.heap.size, 1, none⟩ = some (.int .i64 b0) := (b3.cell (p := ⟨w1.heap.size, 1, none⟩) (by first | (simp; done) | (simp; omega) | omega)).trans (by first | assumption | go_simp)
    have q2 : w3.cell? ⟨w1.heap.size, 2, none⟩ = some (.int .i64 c0) := (b3.cell (p := ⟨w1.heap.size, 2, none⟩) (by first | (simp; done) | (simp; omega) | omega)).trans (by first | assumption | go_simp)
    have q3 : w3.cell? ⟨w1.heap.size, 3, none⟩ = some (.int .i64 d0) := (b3.cell (p := ⟨w1.heap.size, 3, none⟩) (by first | (simp; done) | (simp; omega) | omega)).trans (by first | assumption | go_simp)
    have hz3 : w1.heap.size < w3.heap.size := by have := b3.size; omega
    have B3 := Lib.hid (Below.step b3 B2.out.size B2.out)
    have HX3 := Lib.hid (HX.out.below b3)
    obtain ⟨Ay, cy, rfl⟩ := TreeO.shape ⟨cs3, hY⟩
    have hsm := sameTree_of _ _ t' w3 (TreeO.r ⟨_, HX3.out⟩) (TreeO.r ⟨_, hY⟩) (by have := Htl.out; omega)
    have Hsm := Lib.hid hsm
    clear b3 hY B2 HX HI HS p0 p1 p2 p3 hsm
    go_wp2_with fail
    refine Hsm.out.mono ?_
    rintro e w4 ⟨rfl, nd, hw4⟩
    have hd4 : Below w3.heap.size w3 w4 := by rw [hw4]; exact below_drewN (Below.refl _ _) _
    clear hw4
    have r0 : w4.cell? ⟨w1.heap.size, 0, none⟩ = some (.int .i64 a0) := (hd4.cell (p := ⟨w1.heap.size, 0, none⟩) (by first | (simp; done) | (simp; omega) | omega)).trans (by first | assumption | go_simp)
    have r1 : w4.cell? ⟨w1.heap.size, 1, none⟩ = some (.int .i64 b0) := (hd4.cell (p := ⟨w1.heap.size, 1, none⟩) (by first | (simp; done) | (simp; omega) | omega)).trans (by first | assumption | go_simp)
    have r2 : w4.cell? ⟨w1.heap.size, 2, none⟩ = some (.int .i64 c0) := (hd4.cell (p := ⟨w1.heap.size, 2, none⟩) (by first | (simp; done) | (simp; omega) | omega)).trans (by first | assumption | go_simp)
    have r3 : w4.cell? ⟨w1.heap.size, 3, none⟩ = some (.int .i64 d0) := (hd4.cell (p := ⟨w1.heap.size, 3, none⟩) (by first | (simp; done) | (simp; omega) | omega)).trans (by first | assumption | go_simp)
    have B4 := Lib.hid (Below.step hd4 B3.out.size B3.out)
    have B4w := Lib.hid (Below.step B4.out B1.out.size B1.out)
    have HX4 := Lib.hid (HX3.out.below hd4)
    have hz4 : w1.heap.size < w4.heap.size := by have := hd4.size; omega
    clear hd4 Hsm B3 HX3 q0 q1 q2 q3
    rcases HL.out with ⟨hd, rfl, e1⟩ | ⟨hfm, k, hkl, f1, f2, tv0, tv, hc, l2, h2⟩
    · subst e1
      have d1 : (fm != 0) = true := by simpa using hd
      clear HL HV HJ HJ2 HX4 Htl hd
      go_wp2_with (first | (go_at_call 15; refine (alive_any _).mono ?_; rintro e w' ⟨rfl, rfl⟩) | (go_at_call 14; refine (HD.out _ (HM.out.below B4.out) (HR.out.below B4.out)).mono ?_; rintro e w5 ⟨rfl, b5⟩; have B5 := Lib.hid (Below.step b5 B4w.out.size B4w.out)))
      go_ret
      exact ⟨rfl, by first | exact B5.out | exact Below.step b5 B4w.out.size B4w.out⟩
    · subst hfm
      have hV := fun v w h => HV.out t' (by omega) (by omega) v w h
      rw [tv] at hV
      have hJ := HJ.out
      rw [f1] at hJ
      have hJ2 := fun v w hm h => HJ2.out t' (by omega) (by omega) v w hm h
      rw [f2] at hJ2
      obtain ⟨n1, n2⟩ := tree_links tv0
      have HV' := Lib.hid hV
      have HJ' := Lib.hid hJ
      have HJ2' := Lib.hid hJ2
      have Hn1 := Lib.hid n1
      have Hn2 := Lib.hid (n2 k hkl)
      have Hc := Lib.hid hc
      clear hV HV hJ HJ hJ2 HJ2 HL Htl l2 f1 f2 tv tv0 n1 n2 hc HD
      go_wp2_with fail
      refine (HJ'.out _ (HM.out.below B4.out) (HR.out.below B4.out)).mono ?_
      rintro e w5 ⟨rfl, b5⟩
      have p0 : w5.cell? ⟨w1.heap.size, 0, none⟩ = some (.int .i64 a0) := (b5.cell (p := ⟨w1.heap.size, 0, none⟩) (by first | (simp; done) | (simp; omega) | omega)).trans (by first | assumption | go_simp)
      have p1 : w5.cell? ⟨w1.heap.size, 1, none⟩ = some (.int .i64 b0) := (b5.cell (p := ⟨w1.heap.size, 1, none⟩) (by first | (simp; done) | (simp; omega) | omega)).trans (by first | assumption | go_simp)
      have p2 : w5.cell? ⟨w1.heap.size, 2, none⟩ = some (.int .i64 c0) := (b5.cell (p := ⟨w1.heap.size, 2, none⟩) (by first | (simp; done) | (simp; omega) | omega)).trans (by first | assumption | go_simp)
      have p3 : w5.cell? ⟨w1.heap.size, 3, none⟩ = some (.int .i64 d0) := (b5.cell (p := ⟨w1.heap.size, 3, none⟩) (by first | (simp; done) | (simp; omega) | omega)).trans (by first | assumption | go_simp)
      have hz5 : w1.heap.size < w5.heap.size := by have := b5.size; omega
      have B5 := Lib.hid (Below.step b5 B4.out.size B4.out)
      have HX5 := Lib.hid (TreeO.r ⟨_, HX4.out.below b5⟩)
      clear b5 B4 HX4 r0 r1 r2 r3 B4w HJ'
      go_wp2_with fail
      refine (HLk.out _ (HR.out.below B5.out)).mono ?_
      rintro e w6 ⟨v6, rfl, o6, b6⟩
      have q0 : w6.cell? ⟨w1.heap.size, 0, none⟩ = some (.int .i64 a0) := (b6.cell (p := ⟨w1.heap.size, 0, none⟩) (by first | (simp; done) | (simp; omega) | omega)).trans (by first | assumption | go_simp)
      have q1 : w6.cell? ⟨w1.heap.size, 1, none⟩ = some (.int .i64 b0) := (b6.cell (p := ⟨w1.heap.size, 1, none⟩) (by first | (simp; done) | (simp; omega) | omega)).trans (by first | assumption | go_simp)
      have q2 : w6.cell? ⟨w1.heap.size, 2, none⟩ = some (.int .i64 c0) := (b6.cell (p := ⟨w1.heap.size, 2, none⟩) (by first | (simp; done) | (simp; omega) | omega)).trans (by first | assumption | go_simp)
      have q3 : w6.cell? ⟨w1.heap.size, 3, none⟩ = some (.int .i64 d0) := (b6.cell (p := ⟨w1.heap.size, 3, none⟩) (by first | (simp; done) | (simp; omega) | omega)).trans (by first | assumption | go_simp)
      have hz6 : w1.heap.size < w6.heap.size := by have := b6.size; omega
      have B6 := Lib.hid (Below.step b6 B5.out.size B5.out)
      have HX6 := Lib.hid (TreeR.below HX5.out b6)
      obtain ⟨A6, c6, rfl⟩ := ownG_shape o6
      have Hcell := Lib.hid ((ownG_sl o6).at_ Hn2.out)
      rw [Hn1.out]
      clear b6 B5 HX5 p0 p1 p2 p3 HLk o6 Hn1 Hn2
      go_wp2_with fail
      refine (HJ2'.out _ _ (HM.out.below B6.out) HX6.out).mono ?_
      rintro e w7 ⟨rfl, b7⟩
      have B7 := Lib.hid (Below.step b7 B6.out.size B6.out)
      have HX7 := Lib.hid (TreeR.below HX6.out b7)
      obtain ⟨b9, o9, rfl, hb9, q9⟩ := Hcell.out
      have x9 : w6.cell? ⟨b9, o9 + k, none⟩ = some (.int .i64 (lnk t k)) := by have := q9 0 _ rfl; simpa [EI] using this
      have x7 : w7.cell? ⟨b9, o9 + k, none⟩ = some (.int .i64 (lnk t k)) := (b7.cell (p := ⟨b9, o9 + k, none⟩) hb9).trans x9
      have hb7 : b9 < w7.heap.size := Nat.lt_of_lt_of_le hb9 b7.size
      have hkt : ¬ (t.length : Int) ≤ (k : Int) := by omega
      have hkt' : (k : Int) < (t.length : Int) := by omega
      clear b7 B6 HX6 q0 q1 q2 q3 HJ2' Hcell q9 x9 hb9
      go_wp2_with fail
      refine (HV'.out _ _ HX7.out).mono ?_
      rintro e w8 ⟨rfl, b8⟩
      have B8 := Lib.hid (Below.step b8 B7.out.size B7.out)
      have B8w := Lib.hid (Below.step B8.out B1.out.size B1.out)
      have x8 : w8.cell? ⟨b9, o9 + k, none⟩ = some (.int .i64 (lnk t k)) := (b8.cell (p := ⟨b9, o9 + k, none⟩) hb7).trans x7
      have z1 : IntKind.i64.wrap ((t.length : Int) - 1) = (t.length : Int) - 1 := IntWalk.i64_in _ (by omega)
      clear b8 x7
      rcases Hc.out with ⟨e1, e2⟩ | ⟨e1, e2⟩
      · have g1 : ((t'.length : Int) == (t.length : Int) - 1) = true := by rw [e1, beq_iff_eq]; omega
        have g2 : (lnk t k == 1) = true := by rw [e2]; rfl
        have g3 : decide ((t.length : Int) - 1 ≤ (t'.length : Int)) = true := by rw [e1]; simp; omega
        clear e1 e2 Hc
        go_wp2
        go_ret
        exact ⟨rfl, B8w.out⟩
      · have g1 : ((t'.length : Int) == (t.length : Int) - 1) = false := by rw [e1, beq_eq_false_iff_ne]; omega
        have g2 : (lnk t k == 1) = false := by rw [beq_eq_false_iff_ne]; exact e2
        have g3 : decide ((t.length : Int) - 1 ≤ (t'.length : Int)) = true := by rw [e1]; simp; omega
        clear e1 e2 Hc
        go_wp2
        go_ret
        exact ⟨rfl, B8w.out⟩
end Go.Proofs.YtkennmpbmbacpaaGreatDoor
