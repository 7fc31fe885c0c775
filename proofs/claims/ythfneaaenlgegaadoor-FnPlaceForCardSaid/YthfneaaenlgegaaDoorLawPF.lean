/- The drawn law on PlaceFor: the walk. -/
import Derived.Test.YthfneaaenlgegaaDoorDrawF
import Derived.Test.YthfneaaenlgegaaDoorFile3
set_option linter.unusedSimpArgs false
set_option linter.unusedVariables false
set_option linter.unusedSectionVars false
namespace Go.Proofs.YthfneaaenlgegaaDoor
open Go.RowKit

set_option maxRecDepth 100000 in
set_option maxHeartbeats 8000000 in
theorem walkFnPlaceFor (a : Option Addr) (len cap : Nat) (zs : List Int) (w : World) (hsh : w.ShapedOpen Tryd.prog) (hrow : IsRow .u8 w a len cap zs) :
    Calls Tryd.prog 7 #[.slice a len cap] w fun e w' => e = .returned (.bool true) ∧ Below w.heap.size w w' := by
  obtain ⟨hl1, hl2⟩ := hrow.len_le
  unfold maxLen at hl2
  by_cases hbig : (1048576 : Int) < (len : Int)
  · go_enter Tryd.func7, Tryd.ntmps7
    go_wp2
    go_ret
    exact ⟨rfl, Below.refl _ _⟩
  · have hm0 := maxL_of hsh
    go_enter Tryd.func7, Tryd.ntmps7
    go_wp2_with fail
    refine (drawPF_any a len cap zs _ hrow).mono ?_
    rintro e w1 ⟨v, t, a0, b0, c0, d0, S, rfl, hR0, hn, hk, hs, b1⟩
    have hR := hR0.r
    clear hR0
    have HM := Lib.hid (hm0.below b1)
    obtain ⟨A, cp, rfl⟩ := hR.shape
    have hcp := hR.caps
    have HR := Lib.hid hR
    have B1 := Lib.hid b1
    have hI := fun w hm h => placeI_of (.slice A t.length cp) t a0 b0 c0 d0 S w hm h (by omega) (by omega) (by omega)
    have hS := fun w h => placeS_of (.slice A t.length cp) t a0 b0 c0 d0 S w h (by omega) (by omega) (by omega)
    have hJ := fun w hm h => findI_of (.slice A t.length cp) t a0 b0 c0 d0 S w hm h (by omega) (by omega) (by omega)
    generalize S.data.toList = s at hI hS hJ
    have hno := @place_no t a0 b0 c0 d0 s
    have hyes := @placeF_yes t a0 b0 c0 d0 s
    have hmis := @place_missing t a0 b0 c0 d0 s
    generalize placeF t a0 b0 c0 d0 s = F at hI hS hno hyes hmis
    generalize findF t a0 b0 c0 d0 s = G at hJ hmis
    obtain ⟨n, f⟩ := F
    obtain ⟨n2, f2⟩ := G
    simp only at hI hS hJ hno hyes hmis
    have HI := Lib.hid hI
    have HS := Lib.hid hS
    have HJ := Lib.hid hJ
    clear hR b1 hm0 hI hS hJ hs
    go_wp2_with fail
    refine (HI.out _ (HM.out.below (by (repeat (first | exact Below.refl _ _ | exact Hbl.out | refine Below.ext ?_ (by first | omega | (simp; omega) | simp) | refine Below.setCell ?_ (by first | omega | (simp; omega) | simp) _ | refine Below.alloc ?_ (by first | omega | (simp; omega) | simp) _ | refine Below.drew ?_ | refine below_drewN ?_ _ | refine Below.step (by assumption) (by first | omega | (simp; omega) | simp) ?_)))) (HR.out.below (by (repeat (first | exact Below.refl _ _ | exact Hbl.out | refine Below.ext ?_ (by first | omega | (simp; omega) | simp) | refine Below.setCell ?_ (by first | omega | (simp; omega) | simp) _ | refine Below.alloc ?_ (by first | omega | (simp; omega) | simp) _ | refine Below.drew ?_ | refine below_drewN ?_ _ | refine Below.step (by assumption) (by first | omega | (simp; omega) | simp) ?_))))).mono ?_
    rintro e w2 ⟨rfl, b2⟩
    have p0 : w2.cell? ⟨w1.heap.size, 0, none⟩ = some (.int .i64 a0) := (b2.cell (p := ⟨w1.heap.size, 0, none⟩) (by first | (simp; done) | (simp; omega) | omega)).trans (by first | assumption | go_simp)
    have p1 : w2.cell? ⟨w1.heap.size, 1, none⟩ = some (.int .i64 b0) := (b2.cell (p := ⟨w1.heap.size, 1, none⟩) (by first | (simp; done) | (simp; omega) | omega)).trans (by first | assumption | go_simp)
    have p2 : w2.cell? ⟨w1.heap.size, 2, none⟩ = some (.int .i64 c0) := (b2.cell (p := ⟨w1.heap.size, 2, none⟩) (by first | (simp; done) | (simp; omega) | omega)).trans (by first | assumption | go_simp)
    have p3 : w2.cell? ⟨w1.heap.size, 3, none⟩ = some (.int .i64 d0) := (b2.cell (p := ⟨w1.heap.size, 3, none⟩) (by first | (simp; done) | (simp; omega) | omega)).trans (by first | assumption | go_simp)
    have hz2 : w1.heap.size < w2.heap.size := by have := b2.size; simp at this; omega
    have B2 := Lib.hid (Below.step b2 (by simp) (show Below w1.heap.size w1 _ from (by (repeat (first | exact Below.refl _ _ | exact Hbl.out | refine Below.ext ?_ (by first | omega | (simp; omega) | simp) | refine Below.setCell ?_ (by first | omega | (simp; omega) | simp) _ | refine Below.alloc ?_ (by first | omega | (simp; omega) | simp) _ | refine Below.drew ?_ | refine below_drewN ?_ _ | refine Below.step (by assumption) (by first | omega | (simp; omega) | simp) ?_)))))
    clear b2
    go_wp2_with fail
    refine (HS.out _ (HR.out.below B2.out)).mono ?_
    rintro e w3 ⟨rfl, b3⟩
    have q0 : w3.cell? ⟨w1.heap.size, 0, none⟩ = some (.int .i64 a0) := (b3.cell (p := ⟨w1.heap.size, 0, none⟩) (by first | (simp; done) | (simp; omega) | omega)).trans (by first | assumption | go_simp)
    have q1 : w3.cell? ⟨w1.heap.size, 1, none⟩ = some (.int .i64 b0) := (b3.cell (p := ⟨w1.heap.size, 1, none⟩) (by first | (simp; done) | (simp; omega) | omega)).trans (by first | assumption | go_simp)
    have q2 : w3.cell? ⟨w1.heap.size, 2, none⟩ = some (.int .i64 c0) := (b3.cell (p := ⟨w1.heap.size, 2, none⟩) (by first | (simp; done) | (simp; omega) | omega)).trans (by first | assumption | go_simp)
    have q3 : w3.cell? ⟨w1.heap.size, 3, none⟩ = some (.int .i64 d0) := (b3.cell (p := ⟨w1.heap.size, 3, none⟩) (by first | (simp; done) | (simp; omega) | omega)).trans (by first | assumption | go_simp)
    have hz3 : w1.heap.size < w3.heap.size := by have := b3.size; omega
    have B3 := Lib.hid (Below.step b3 B2.out.size B2.out)
    have B3w := Lib.hid (Below.step B3.out B1.out.size B1.out)
    clear b3 B2 HI HS p0 p1 p2 p3
    by_cases hf : f = 0
    · subst hf
      obtain ⟨_, _, _, k4, k5, k6, _⟩ := hyes rfl
      have hf2 := hmis rfl
      subst hf2
      obtain ⟨m, rfl⟩ : ∃ m : Nat, n = (m : Int) := ⟨n.toNat, by omega⟩
      rw [Int.toNat_natCast] at k6
      have hm : m < t.length := by omega
      have hm' : (m : Int) < (t.length : Int) := by omega
      clear hno hyes hmis
      go_wp2_with fail
      refine (HJ.out _ (HM.out.below B3.out) (HR.out.below B3.out)).mono ?_
      rintro e w4 ⟨rfl, b4⟩
      have B4 := Lib.hid (Below.step b4 B3.out.size B3.out)
      have B4w := Lib.hid (Below.step B4.out B1.out.size B1.out)
      clear b4
      obtain ⟨bt, ot, nA, nC, kA, kC, rfl, hbt, _, y0, _⟩ := (HR.out.below B4.out).at_ (kth_at hm)
      rw [k6] at y0
      go_wp2
      go_ret
      exact ⟨rfl, B4w.out⟩
    · have hn1 := hno hf
      subst hn1
      clear hno hyes hmis
      go_wp2_with (go_at_call 16; refine (alive_any _).mono ?_; rintro e w' ⟨rfl, rfl⟩)
      go_ret
      exact ⟨rfl, B3w.out⟩
end Go.Proofs.YthfneaaenlgegaaDoor
