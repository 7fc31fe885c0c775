/- The drawn law on MoveName: the walk. -/
import Derived.Test.YtkennmpbmbacpaaGreatDoorDrawLN2
import Derived.Test.YtkennmpbmbacpaaGreatDoorMoveI
import Derived.Test.YtkennmpbmbacpaaGreatDoorMoveS
import Derived.Test.YtkennmpbmbacpaaGreatDoorLnk
import Derived.Test.YtkennmpbmbacpaaGreatDoorFile2
import Derived.Test.YtkennmpbmbacpaaGreatDoorSameTr
import Derived.Test.YtkennmpbmbacpaaGreatDoorMH
set_option linter.unusedSimpArgs false
set_option linter.unusedVariables false
set_option linter.unusedSectionVars false
namespace Go.Proofs.YtkennmpbmbacpaaGreatDoor
open Go.RowKit

set_option maxRecDepth 100000 in
set_option maxHeartbeats 4000000 in
theorem walkFnMoveName (a : Option Addr) (len cap : Nat) (zs : List Int) (w : World) (hsh : w.ShapedOpen Tryz.prog) (hrow : IsRow .u8 w a len cap zs) :
    Calls Tryz.prog 9 #[.slice a len cap] w fun e w' => e = .returned (.bool true) ∧ Below w.heap.size w w' := by
  obtain ⟨hl1, hl2⟩ := hrow.len_le
  unfold maxLen at hl2
  by_cases hbig : (1048576 : Int) < (len : Int)
  · go_enter Tryz.func9, Tryz.ntmps9
    go_wp2
    go_ret
    exact ⟨rfl, Below.refl _ _⟩
  · have hm0 := maxL_of hsh
    go_enter Tryz.func9, Tryz.ntmps9
    go_wp2_with fail
    refine (drawMN_any a len cap zs _ hrow).mono ?_
    rintro e w1 ⟨v, t, a0, b0, c0, d0, S, X, rfl, hR0, hn, hk, hs, hx, b1⟩
    have hR := hR0.r
    clear hR0
    have HM := Lib.hid (hm0.below b1)
    obtain ⟨A, cp, rfl⟩ := hR.shape
    have hcp := hR.caps
    have HR := Lib.hid hR
    have B1 := Lib.hid b1
    have hsl : S.data.toList.length ≤ 1048576 := by have : S.data.toList.length = S.size := Array.length_toList; omega
    have hxl : X.data.toList.length ≤ 1048576 := by have : X.data.toList.length = X.size := Array.length_toList; omega
    have hI := fun w hm h => moveI_of (.slice A t.length cp) t a0 b0 c0 d0 S X w hm h (by omega) (by omega) (by omega) (by omega)
    have hS := fun w h => moveS_of (.slice A t.length cp) t a0 b0 c0 d0 S.data.toList X.data.toList w h (by omega) (by omega) hsl hxl
    rw [← mk_list, ← mk_list] at hS
    have hJ := fun w hm h => findI_of (.slice A t.length cp) t a0 b0 c0 d0 S w hm h (by omega) (by omega) (by omega)
    have hV := fun t' (h1 : t'.length ≤ 1000) (h2 : (kidsOf t').length ≤ 1000000) v w h => treeI_of v t' w h h1 h2
    have hJx := fun S' (hS' : S'.size ≤ 1048576) t' (h1 : t'.length ≤ 1000) (h2 : (kidsOf t').length ≤ 1000000) v w hm h => findI_of v t' a0 b0 c0 d0 S' w hm h h1 h2 hS'
    have hJ2 := hJx X (by omega)
    have hJ3 := hJx S (by omega)
    have hBk := fun t' (h1 : t'.length ≤ 1000) (h2 : (kidsOf t').length ≤ 1000000) v w hm h => moveI_of v t' a0 b0 c0 d0 X S w hm h h1 h2 (by omega) (by omega)
    have hlaw := @move_cases t a0 b0 c0 d0 S.data.toList X.data.toList
    have hMt := @Moved.to t a0 b0 c0 d0 S.data.toList X.data.toList
    have hMf := @Moved.from t a0 b0 c0 d0 S.data.toList X.data.toList
    have hMg := @Moved.gone t a0 b0 c0 d0 S.data.toList X.data.toList
    have hMb := @Moved.back t a0 b0 c0 d0 S.data.toList X.data.toList
    have hMT := @Moved.tree t a0 b0 c0 d0 S.data.toList X.data.toList
    have hMl := @Moved.len t a0 b0 c0 d0 S.data.toList X.data.toList
    have hMh := @Moved.hk t a0 b0 c0 d0 S.data.toList X.data.toList
    clear hJx
    generalize S.data.toList = s at hI hS hJ hJ2 hJ3 hBk hlaw hMt hMf hMg hMb hMT hMl hMh
    generalize X.data.toList = x at hI hS hJ hJ2 hJ3 hBk hlaw hMt hMf hMg hMb hMT hMl hMh
    generalize moveF t a0 b0 c0 d0 s x = M at hI hS hlaw
    obtain ⟨t', fm⟩ := M
    simp only at hI hS hlaw
    have hfacts : (¬ fm = 0 ∧ t' = []) ∨ (fm = 0 ∧ ∃ k : Nat, k < t.length ∧ findF t a0 b0 c0 d0 s = ((k : Int), 0) ∧ findF t' a0 b0 c0 d0 x = ((k : Int), 0) ∧ findF t' a0 b0 c0 d0 s = (-1, 2) ∧ treeB t' = true ∧ t'.length = t.length ∧ (kidsOf t').length = (kidsOf t).length ∧ ((moveF t' a0 b0 c0 d0 x s).2 = 0 → (moveF t' a0 b0 c0 d0 x s).1 = t)) := by
      rcases hlaw with h | ⟨h1, _, _, m, n, k, M, e⟩
      · exact .inl h
      · subst e
        exact .inr ⟨h1, k, hMh M, hMf M, hMt M, hMg M, (hMT M).1, hMl M, (hMT M).2, hMb M⟩
    have htl : t'.length ≤ 20 := by
      rcases hfacts with ⟨_, h⟩ | ⟨_, _, _, _, _, _, _, h, _⟩
      · rw [h]; exact Nat.zero_le _
      · rw [h]; exact hn
    have HI := Lib.hid hI
    have HS := Lib.hid hS
    have HJ := Lib.hid hJ
    have HJ2 := Lib.hid hJ2
    have HJ3 := Lib.hid hJ3
    have HBk := Lib.hid hBk
    have HV := Lib.hid hV
    have HL := Lib.hid hfacts
    have Htl := Lib.hid htl
    clear hR b1 hm0 hI hS hJ hJ2 hJ3 hBk hs hx hV hlaw hfacts htl hsl hxl hMt hMf hMg hMb hMT hMl hMh
    go_wp2_with fail
    refine (HI.out _ (HM.out.below (by (repeat (first | exact Below.refl _ _ | exact Hbl.out | refine Below.ext ?_ (by first | omega | (simp; omega) | simp) | refine Below.setCell ?_ (by first | omega | (simp; omega) | simp) _ | refine Below.alloc ?_ (by first | omega | (simp; omega) | simp) _ | refine Below.drew ?_ | refine below_drewN ?_ _ | refine Below.step (by assumption) (by first | omega | (simp; omega) | simp) ?_)))) (HR.out.below (by (repeat (first | exact Below.refl _ _ | exact Hbl.out | refine Below.ext ?_ (by first | omega | (simp; omega) | simp) | refine Below.setCell ?_ (by first | omega | (simp; omega) | simp) _ | refine Below.alloc ?_ (by first | omega | (simp; omega) | simp) _ | refine Below.drew ?_ | refine below_drewN ?_ _ | refine Below.step (by assumption) (by first | omega | (simp; omega) | simp) ?_))))).mono ?_
    rintro e w2 ⟨x2, rfl, ⟨cs, hX⟩, b2⟩
    have p0 : w2.cell? ⟨w1.heap.size, 0, none⟩ = some (.int .i64 a0) := (b2.cell (p := ⟨w1.heap.size, 0, none⟩) (by first | (simp; done) | (simp; omega) | omega)).trans (by first | assumption | go_simp)
    have p1 : w2.cell? ⟨w1.heap.size, 1, none⟩ = some (.int .i64 b0) := (b2.cell (p := ⟨w1.heap.size, 1, none⟩) (by first | (simp; done) | (simp; omega) | omega)).trans (by first | assumption | go_simp)
    have p2 : w2.cell? ⟨w1.heap.size, 2, none⟩ = some (.int .i64 c0) := (b2.cell (p := ⟨w1.heap.size, 2, none⟩) (by first | (simp; done) | (simp; omega) | omega)).trans (by first | assumption | go_simp)
    have p3 : w2.cell? ⟨w1.heap.size, 3, none⟩ = some (.int .i64 d0) := (b2.cell (p := ⟨w1.heap.size, 3, none⟩) (by first | (simp; done) | (simp; omega) | omega)).trans (by first | assumption | go_simp)
    have hz2 : w1.heap.size < w2.heap.size := by have := b2.size; simp at this; omega
    have B2 := Lib.hid (Below.step b2 (by simp) (show Below w1.heap.size w1 _ from (by (repeat (first | exact Below.refl _ _ | exact Hbl.out | refine Below.ext ?_ (by first | omega | (simp; omega) | simp) | refine Below.setCell ?_ (by first | omega | (simp; omega) | simp) _ | refine Below.alloc ?_ (by first | omega | (simp; omega) | simp) _ | refine Below.drew ?_ | refine below_drewN ?_ _ | refine Below.step (by assumption) (by first | omega | (simp; omega) | simp) ?_)))))
    have HX := Lib.hid hX
    obtain ⟨Ax, cx, rfl⟩ := TreeO.shape ⟨cs, hX⟩
    clear b2 hX
    go_wp2_with fail
    refine (HS.out _ (HR.out.below B2.out)).mono ?_
    rintro e w3 ⟨y3, rfl, ⟨cs3, hY⟩, b3⟩
    have q0 : w3.cell? ⟨w1.heap.size, 0, none⟩ = some (.int .i64 a0) := (b3.cell (p := ⟨w1.heap.size, 0, none⟩) (by first | (simp; done) | (simp; omega) | omega)).trans (by first | assumption | go_simp)
    have q1 : w3.cell? ⟨w1.heap.size, 1, none⟩ = some (.int .i64 b0) := (b3.cell (p := ⟨w1.heap.size, 1, none⟩) (by first | (simp; done) | (simp; omega) | omega)).trans (by first | assumption | go_simp)
    have q2 : w3.cell? ⟨w1.heap.size, 2, none⟩ = some (.int .i64 c0) := (b3.cell (p := ⟨w1.heap.size, 2, none⟩) (by first | (simp; done) | (simp; omega) | omega)).trans (by first | assumption | go_simp)
    have q3 : w3.cell? ⟨w1.heap.size, 3, none⟩ = some (.int .i64 d0) := (b3.cell (p := ⟨w1.heap.size, 3, none⟩) (by first | (simp; done) | (simp; omega) | omega)).trans (by first | assumption | go_simp)
    have hz3 : w1.heap.size < w3.heap.size := by have := b3.size; omega
    have B3 := Lib.hid (Below.step b3 B2.out.size B2.out)
    have HX3 := Lib.hid (HX.out.below b3)
    obtain ⟨Ay, cy, rfl⟩ := TreeO.shape ⟨cs3, hY⟩
    have hsm := sameTree_of _ _ t' w3 (TreeO.r ⟨_, HX3.out⟩) (TreeO.r ⟨_, hY⟩) (by have := Htl.out; omega)
    have Hsm := Lib.hid hsm
    clear b3 hY B2 HX HI HS p0 p1 p2 p3 hsm
    go_wp2_with fail
    refine Hsm.out.mono ?_
    rintro e w4 ⟨rfl, nd, hw4⟩
    have hd4 : Below w3.heap.size w3 w4 := by rw [hw4]; exact below_drewN (Below.refl _ _) _
    clear hw4
    have r0 : w4.cell? ⟨w1.heap.size, 0, none⟩ = some (.int .i64 a0) := (hd4.cell (p := ⟨w1.heap.size, 0, none⟩) (by first | (simp; done) | (simp; omega) | omega)).trans (by first | assumption | go_simp)
    have r1 : w4.cell? ⟨w1.heap.size, 1, none⟩ = some (.int .i64 b0) := (hd4.cell (p := ⟨w1.heap.size, 1, none⟩) (by first | (simp; done) | (simp; omega) | omega)).trans (by first | assumption | go_simp)
    have r2 : w4.cell? ⟨w1.heap.size, 2, none⟩ = some (.int .i64 c0) := (hd4.cell (p := ⟨w1.heap.size, 2, none⟩) (by first | (simp; done) | (simp; omega) | omega)).trans (by first | assumption | go_simp)
    have r3 : w4.cell? ⟨w1.heap.size, 3, none⟩ = some (.int .i64 d0) := (hd4.cell (p := ⟨w1.heap.size, 3, none⟩) (by first | (simp; done) | (simp; omega) | omega)).trans (by first | assumption | go_simp)
    have B4 := Lib.hid (Below.step hd4 B3.out.size B3.out)
    have B4w := Lib.hid (Below.step B4.out B1.out.size B1.out)
    have HX4 := Lib.hid (HX3.out.below hd4)
    have hz4 : w1.heap.size < w4.heap.size := by have := hd4.size; omega
    clear hd4 Hsm B3 HX3 q0 q1 q2 q3
    rcases HL.out with ⟨hfm, e1⟩ | ⟨hfm, k, hkl, f1, f2, f3, tv, l1, l2, hb⟩
    · subst e1
      have d1 : (fm != 0) = true := by simpa using hfm
      clear HL HV HJ HJ2 HJ3 HBk HX4 Htl hfm
      go_wp2_with (go_at_call 15; refine (alive_any _).mono ?_; rintro e w' ⟨rfl, rfl⟩)
      go_ret
      exact ⟨rfl, B4w.out⟩
    · subst hfm
      have hV := fun v w h => HV.out t' (by omega) (by omega) v w h
      rw [tv] at hV
      have hJ := HJ.out
      rw [f1] at hJ
      have hJ2 := fun v w hm h => HJ2.out t' (by omega) (by omega) v w hm h
      rw [f2] at hJ2
      have hJ3 := fun v w hm h => HJ3.out t' (by omega) (by omega) v w hm h
      rw [f3] at hJ3
      have hBk := fun v w hm h => HBk.out t' (by omega) (by omega) v w hm h
      generalize moveF t' a0 b0 c0 d0 x s = N at hBk hb
      obtain ⟨t2, fb⟩ := N
      simp only at hBk hb
      have HV' := Lib.hid hV
      have HJ' := Lib.hid hJ
      have HJ2' := Lib.hid hJ2
      have HJ3' := Lib.hid hJ3
      have HBk' := Lib.hid hBk
      have Hb := Lib.hid hb
      have Hl1 := Lib.hid l1
      clear hV HV hJ HJ hJ2 HJ2 hJ3 HJ3 hBk HBk hb HL Htl l1 l2 f1 f2 f3 tv
      go_wp2_with fail
      refine (HJ'.out _ (HM.out.below B4.out) (HR.out.below B4.out)).mono ?_
      rintro e w5 ⟨rfl, b5⟩
      have p0 : w5.cell? ⟨w1.heap.size, 0, none⟩ = some (.int .i64 a0) := (b5.cell (p := ⟨w1.heap.size, 0, none⟩) (by first | (simp; done) | (simp; omega) | omega)).trans (by first | assumption | go_simp)
      have p1 : w5.cell? ⟨w1.heap.size, 1, none⟩ = some (.int .i64 b0) := (b5.cell (p := ⟨w1.heap.size, 1, none⟩) (by first | (simp; done) | (simp; omega) | omega)).trans (by first | assumption | go_simp)
      have p2 : w5.cell? ⟨w1.heap.size, 2, none⟩ = some (.int .i64 c0) := (b5.cell (p := ⟨w1.heap.size, 2, none⟩) (by first | (simp; done) | (simp; omega) | omega)).trans (by first | assumption | go_simp)
      have p3 : w5.cell? ⟨w1.heap.size, 3, none⟩ = some (.int .i64 d0) := (b5.cell (p := ⟨w1.heap.size, 3, none⟩) (by first | (simp; done) | (simp; omega) | omega)).trans (by first | assumption | go_simp)
      have hz5 : w1.heap.size < w5.heap.size := by have := b5.size; omega
      have B5 := Lib.hid (Below.step b5 B4.out.size B4.out)
      have HX5 := Lib.hid (TreeO.r ⟨_, HX4.out.below b5⟩)
      clear b5 B4 HX4 r0 r1 r2 r3 B4w HJ'
      go_wp2_with fail
      refine (HJ2'.out _ _ (HM.out.below B5.out) HX5.out).mono ?_
      rintro e w6 ⟨rfl, b6⟩
      have q0 : w6.cell? ⟨w1.heap.size, 0, none⟩ = some (.int .i64 a0) := (b6.cell (p := ⟨w1.heap.size, 0, none⟩) (by first | (simp; done) | (simp; omega) | omega)).trans (by first | assumption | go_simp)
      have q1 : w6.cell? ⟨w1.heap.size, 1, none⟩ = some (.int .i64 b0) := (b6.cell (p := ⟨w1.heap.size, 1, none⟩) (by first | (simp; done) | (simp; omega) | omega)).trans (by first | assumption | go_simp)
      have q2 : w6.cell? ⟨w1.heap.size, 2, none⟩ = some (.int .i64 c0) := (b6.cell (p := ⟨w1.heap.size, 2, none⟩) (by first | (simp; done) | (simp; omega) | omega)).trans (by first | assumption | go_simp)
      have q3 : w6.cell? ⟨w1.heap.size, 3, none⟩ = some (.int .i64 d0) := (b6.cell (p := ⟨w1.heap.size, 3, none⟩) (by first | (simp; done) | (simp; omega) | omega)).trans (by first | assumption | go_simp)
      have hz6 : w1.heap.size < w6.heap.size := by have := b6.size; omega
      have B6 := Lib.hid (Below.step b6 B5.out.size B5.out)
      have HX6 := Lib.hid (TreeR.below HX5.out b6)
      clear b6 B5 HX5 p0 p1 p2 p3 HJ2'
      go_wp2_with fail
      refine (HJ3'.out _ _ (HM.out.below B6.out) HX6.out).mono ?_
      rintro e w7 ⟨rfl, b7⟩
      have p0 : w7.cell? ⟨w1.heap.size, 0, none⟩ = some (.int .i64 a0) := (b7.cell (p := ⟨w1.heap.size, 0, none⟩) (by first | (simp; done) | (simp; omega) | omega)).trans (by first | assumption | go_simp)
      have p1 : w7.cell? ⟨w1.heap.size, 1, none⟩ = some (.int .i64 b0) := (b7.cell (p := ⟨w1.heap.size, 1, none⟩) (by first | (simp; done) | (simp; omega) | omega)).trans (by first | assumption | go_simp)
      have p2 : w7.cell? ⟨w1.heap.size, 2, none⟩ = some (.int .i64 c0) := (b7.cell (p := ⟨w1.heap.size, 2, none⟩) (by first | (simp; done) | (simp; omega) | omega)).trans (by first | assumption | go_simp)
      have p3 : w7.cell? ⟨w1.heap.size, 3, none⟩ = some (.int .i64 d0) := (b7.cell (p := ⟨w1.heap.size, 3, none⟩) (by first | (simp; done) | (simp; omega) | omega)).trans (by first | assumption | go_simp)
      have hz7 : w1.heap.size < w7.heap.size := by have := b7.size; omega
      have B7 := Lib.hid (Below.step b7 B6.out.size B6.out)
      have HX7 := Lib.hid (TreeR.below HX6.out b7)
      clear b7 B6 HX6 q0 q1 q2 q3 HJ3'
      go_wp2_with fail
      refine (HBk'.out _ _ (HM.out.below B7.out) HX7.out).mono ?_
      rintro e w8 ⟨v8, rfl, hT8, b8⟩
      have B8 := Lib.hid (Below.step b8 B7.out.size B7.out)
      have HX8 := Lib.hid (TreeR.below HX7.out b8)
      have HT8 := Lib.hid (TreeO.r hT8)
      obtain ⟨A8, c8, rfl⟩ := TreeO.shape hT8
      clear b8 B7 HX7 p0 p1 p2 p3 HBk' hT8
      go_wp2_with fail
      refine (HV'.out _ _ HX8.out).mono ?_
      rintro e w9 ⟨rfl, b9⟩
      have B9 := Lib.hid (Below.step b9 B8.out.size B8.out)
      have B9w := Lib.hid (Below.step B9.out B1.out.size B1.out)
      by_cases hfb : fb = 0
      · subst hfb
        have e2 := Hb.out rfl
        subst e2
        have Hsm2 := Lib.hid (sameTree_of _ _ t2 w9 (TreeR.below HT8.out b9) (HR.out.below B9.out) (by omega))
        clear Hb b9
        go_wp2_with fail
        refine Hsm2.out.mono ?_
        rintro e w10 ⟨rfl, nd2, rfl⟩
        go_wp2
        go_ret
        exact ⟨rfl, Below.step (below_drewN (Below.refl _ _) _) B9w.out.size B9w.out⟩
      · have d2 : (fb != 0) = true := by simpa using hfb
        clear Hb hfb b9
        go_wp2
        go_ret
        exact ⟨rfl, B9w.out⟩
end Go.Proofs.YtkennmpbmbacpaaGreatDoor
