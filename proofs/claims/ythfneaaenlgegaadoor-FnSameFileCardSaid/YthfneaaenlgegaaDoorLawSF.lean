/- The drawn law on SameFile: the walk. -/
import Derived.Test.YthfneaaenlgegaaDoorDrawSF
import Derived.Test.YthfneaaenlgegaaDoorFile2
set_option linter.unusedSimpArgs false
set_option linter.unusedVariables false
set_option linter.unusedSectionVars false
namespace Go.Proofs.YthfneaaenlgegaaDoor
open Go.RowKit

theorem same_comm (t : List Nd) (a b c d : Int) (s r : List UInt8) : sameF t a b c d r s = sameF t a b c d s r := by
  unfold sameF
  by_cases h1 : (findF t a b c d s).2 = 0 <;> by_cases h2 : (findF t a b c d r).2 = 0 <;> simp [h1, h2, eq_comm]
theorem same_self (t : List Nd) (a b c d : Int) (s : List UInt8) : sameF t a b c d s s = decide ((findF t a b c d s).2 = 0) := by
  unfold sameF
  simp
set_option maxRecDepth 100000 in
set_option maxHeartbeats 8000000 in
theorem walkFnSameFile (a : Option Addr) (len cap : Nat) (zs : List Int) (w : World) (hsh : w.ShapedOpen Tryd.prog) (hrow : IsRow .u8 w a len cap zs) :
    Calls Tryd.prog 5 #[.slice a len cap] w fun e w' => e = .returned (.bool true) ∧ Below w.heap.size w w' := by
  obtain ⟨hl1, hl2⟩ := hrow.len_le
  unfold maxLen at hl2
  by_cases hbig : (1048576 : Int) < (len : Int)
  · go_enter Tryd.func5, Tryd.ntmps5
    go_wp2
    go_ret
    exact ⟨rfl, Below.refl _ _⟩
  · have hm0 := maxL_of hsh
    go_enter Tryd.func5, Tryd.ntmps5
    go_wp2_with fail
    refine (drawSF_any a len cap zs _ hrow).mono ?_
    rintro e w1 ⟨v, t, a0, b0, c0, d0, S, S2, rfl, hR0, hn, hk, hs, hs2, b1⟩
    have hR := hR0.r
    clear hR0
    have HM := Lib.hid (hm0.below b1)
    obtain ⟨A, cp, rfl⟩ := hR.shape
    have hcp := hR.caps
    have HR := Lib.hid hR
    have B1 := Lib.hid b1
    have h1 := fun w hm h => sameI_of (.slice A t.length cp) t a0 b0 c0 d0 S S2 w hm h (by omega) (by omega) (by omega) (by omega)
    have h2 := fun w hm h => sameS_of (.slice A t.length cp) t a0 b0 c0 d0 S S2 w hm h (by omega) (by omega) (by omega) (by omega)
    have h3 := fun w hm h => sameI_of (.slice A t.length cp) t a0 b0 c0 d0 S2 S w hm h (by omega) (by omega) (by omega) (by omega)
    have h4 := fun w hm h => findI_of (.slice A t.length cp) t a0 b0 c0 d0 S w hm h (by omega) (by omega) (by omega)
    have h5 := fun w hm h => sameI_of (.slice A t.length cp) t a0 b0 c0 d0 S S w hm h (by omega) (by omega) (by omega) (by omega)
    rw [same_comm] at h3
    rw [same_self] at h5
    generalize S.data.toList = s at h1 h2 h3 h4 h5
    generalize S2.data.toList = r at h1 h2 h3
    generalize sameF t a0 b0 c0 d0 s r = ok at h1 h2 h3
    generalize findF t a0 b0 c0 d0 s = F at h4 h5
    obtain ⟨n, f⟩ := F
    simp only at h4 h5
    have H1 := Lib.hid h1
    have H2 := Lib.hid h2
    have H3 := Lib.hid h3
    have H4 := Lib.hid h4
    have H5 := Lib.hid h5
    clear hR b1 hm0 h1 h2 h3 h4 h5 hs hs2
    go_wp2_with fail
    refine (H1.out _ (HM.out.below (by (repeat (first | exact Below.refl _ _ | exact Hbl.out | refine Below.ext ?_ (by first | omega | (simp; omega) | simp) | refine Below.setCell ?_ (by first | omega | (simp; omega) | simp) _ | refine Below.alloc ?_ (by first | omega | (simp; omega) | simp) _ | refine Below.drew ?_ | refine below_drewN ?_ _ | refine Below.step (by assumption) (by first | omega | (simp; omega) | simp) ?_)))) (HR.out.below (by (repeat (first | exact Below.refl _ _ | exact Hbl.out | refine Below.ext ?_ (by first | omega | (simp; omega) | simp) | refine Below.setCell ?_ (by first | omega | (simp; omega) | simp) _ | refine Below.alloc ?_ (by first | omega | (simp; omega) | simp) _ | refine Below.drew ?_ | refine below_drewN ?_ _ | refine Below.step (by assumption) (by first | omega | (simp; omega) | simp) ?_))))).mono ?_
    rintro e w2 ⟨rfl, b2⟩
    have p0 : w2.cell? ⟨w1.heap.size, 0, none⟩ = some (.int .i64 a0) := (b2.cell (p := ⟨w1.heap.size, 0, none⟩) (by first | (simp; done) | (simp; omega) | omega)).trans (by first | assumption | go_simp)
    have p1 : w2.cell? ⟨w1.heap.size, 1, none⟩ = some (.int .i64 b0) := (b2.cell (p := ⟨w1.heap.size, 1, none⟩) (by first | (simp; done) | (simp; omega) | omega)).trans (by first | assumption | go_simp)
    have p2 : w2.cell? ⟨w1.heap.size, 2, none⟩ = some (.int .i64 c0) := (b2.cell (p := ⟨w1.heap.size, 2, none⟩) (by first | (simp; done) | (simp; omega) | omega)).trans (by first | assumption | go_simp)
    have p3 : w2.cell? ⟨w1.heap.size, 3, none⟩ = some (.int .i64 d0) := (b2.cell (p := ⟨w1.heap.size, 3, none⟩) (by first | (simp; done) | (simp; omega) | omega)).trans (by first | assumption | go_simp)
    have hz2 : w1.heap.size < w2.heap.size := by have := b2.size; simp at this; omega
    have B2 := Lib.hid (Below.step b2 (by simp) (show Below w1.heap.size w1 _ from (by (repeat (first | exact Below.refl _ _ | exact Hbl.out | refine Below.ext ?_ (by first | omega | (simp; omega) | simp) | refine Below.setCell ?_ (by first | omega | (simp; omega) | simp) _ | refine Below.alloc ?_ (by first | omega | (simp; omega) | simp) _ | refine Below.drew ?_ | refine below_drewN ?_ _ | refine Below.step (by assumption) (by first | omega | (simp; omega) | simp) ?_)))))
    clear b2
    go_wp2_with fail
    refine (H2.out _ trivial (HR.out.below B2.out)).mono ?_
    rintro e w3 ⟨rfl, b3⟩
    have q0 : w3.cell? ⟨w1.heap.size, 0, none⟩ = some (.int .i64 a0) := (b3.cell (p := ⟨w1.heap.size, 0, none⟩) (by first | (simp; done) | (simp; omega) | omega)).trans (by first | assumption | go_simp)
    have q1 : w3.cell? ⟨w1.heap.size, 1, none⟩ = some (.int .i64 b0) := (b3.cell (p := ⟨w1.heap.size, 1, none⟩) (by first | (simp; done) | (simp; omega) | omega)).trans (by first | assumption | go_simp)
    have q2 : w3.cell? ⟨w1.heap.size, 2, none⟩ = some (.int .i64 c0) := (b3.cell (p := ⟨w1.heap.size, 2, none⟩) (by first | (simp; done) | (simp; omega) | omega)).trans (by first | assumption | go_simp)
    have q3 : w3.cell? ⟨w1.heap.size, 3, none⟩ = some (.int .i64 d0) := (b3.cell (p := ⟨w1.heap.size, 3, none⟩) (by first | (simp; done) | (simp; omega) | omega)).trans (by first | assumption | go_simp)
    have hz3 : w1.heap.size < w3.heap.size := by have := b3.size; omega
    have B3 := Lib.hid (Below.step b3 B2.out.size B2.out)
    clear b3 B2 p0 p1 p2 p3
    obtain ⟨fb, hfb1, hfb2⟩ : ∃ fb : Bool, decide (f = 0) = fb ∧ (f == 0) = fb := by
      by_cases h : f = 0
      · exact ⟨true, decide_eq_true h, beq_iff_eq.2 h⟩
      · exact ⟨false, decide_eq_false h, beq_eq_false_iff_ne.2 h⟩
    have h5 := H5.out
    clear H5
    rw [hfb1] at h5
    have H5 := Lib.hid h5
    clear h5 hfb1
    cases fb
    all_goals
      cases ok
      all_goals
        go_wp2_with fail
        refine (H3.out _ (HM.out.below B3.out) (HR.out.below B3.out)).mono ?_
        rintro e w4 ⟨rfl, b4⟩
        have r0 : w4.cell? ⟨w1.heap.size, 0, none⟩ = some (.int .i64 a0) := (b4.cell (p := ⟨w1.heap.size, 0, none⟩) (by first | (simp; done) | (simp; omega) | omega)).trans (by first | assumption | go_simp)
        have r1 : w4.cell? ⟨w1.heap.size, 1, none⟩ = some (.int .i64 b0) := (b4.cell (p := ⟨w1.heap.size, 1, none⟩) (by first | (simp; done) | (simp; omega) | omega)).trans (by first | assumption | go_simp)
        have r2 : w4.cell? ⟨w1.heap.size, 2, none⟩ = some (.int .i64 c0) := (b4.cell (p := ⟨w1.heap.size, 2, none⟩) (by first | (simp; done) | (simp; omega) | omega)).trans (by first | assumption | go_simp)
        have r3 : w4.cell? ⟨w1.heap.size, 3, none⟩ = some (.int .i64 d0) := (b4.cell (p := ⟨w1.heap.size, 3, none⟩) (by first | (simp; done) | (simp; omega) | omega)).trans (by first | assumption | go_simp)
        have hz4 : w1.heap.size < w4.heap.size := by have := b4.size; omega
        have B4 := Lib.hid (Below.step b4 B3.out.size B3.out)
        clear b4
        go_wp2_with fail
        refine (H4.out _ (HM.out.below B4.out) (HR.out.below B4.out)).mono ?_
        rintro e w5 ⟨rfl, b5⟩
        have u0 : w5.cell? ⟨w1.heap.size, 0, none⟩ = some (.int .i64 a0) := (b5.cell (p := ⟨w1.heap.size, 0, none⟩) (by first | (simp; done) | (simp; omega) | omega)).trans (by first | assumption | go_simp)
        have u1 : w5.cell? ⟨w1.heap.size, 1, none⟩ = some (.int .i64 b0) := (b5.cell (p := ⟨w1.heap.size, 1, none⟩) (by first | (simp; done) | (simp; omega) | omega)).trans (by first | assumption | go_simp)
        have u2 : w5.cell? ⟨w1.heap.size, 2, none⟩ = some (.int .i64 c0) := (b5.cell (p := ⟨w1.heap.size, 2, none⟩) (by first | (simp; done) | (simp; omega) | omega)).trans (by first | assumption | go_simp)
        have u3 : w5.cell? ⟨w1.heap.size, 3, none⟩ = some (.int .i64 d0) := (b5.cell (p := ⟨w1.heap.size, 3, none⟩) (by first | (simp; done) | (simp; omega) | omega)).trans (by first | assumption | go_simp)
        have B5 := Lib.hid (Below.step b5 B4.out.size B4.out)
        clear b5
        go_wp2_with fail
        refine (H5.out _ (HM.out.below B5.out) (HR.out.below B5.out)).mono ?_
        rintro e w6 ⟨rfl, b6⟩
        have B6 := Lib.hid (Below.step b6 B5.out.size B5.out)
        have B6w := Lib.hid (Below.step B6.out B1.out.size B1.out)
        clear b6
        go_wp2_with (go_at_call 16; refine (alive_any _).mono ?_; rintro e w' ⟨rfl, rfl⟩)
        go_ret
        exact ⟨rfl, B6w.out⟩
end Go.Proofs.YthfneaaenlgegaaDoor
