/- The drawn law on OpenFile: the walk. -/
import Derived.Test.YthfneaaenlgegaaDoorDrawMA
import Derived.Test.YthfneaaenlgegaaDoorFile3
set_option linter.unusedSimpArgs false
set_option linter.unusedVariables false
set_option linter.unusedSectionVars false
namespace Go.Proofs.YthfneaaenlgegaaDoor
open Go.RowKit

theorem open_cases (t : List Nd) (a b c d want : Int) (s : List UInt8) : ((openF t a b c d s want).2 ≠ 0 ∧ (openF t a b c d s want).1 = (0, 0, 0)) ∨ ((findF t a b c d s).2 = 0 ∧ mayAtF t a b c d s want = 0 ∧ openF t a b c d s want = (((findF t a b c d s).1, 0, want), 0)) := by
  by_cases h1 : mayAtF t a b c d s want = 0
  · have h2 := (mayAt_yes h1).2.1
    unfold openF
    rw [if_neg (fun h => h h1)]
    by_cases h3 : (kth t (findF t a b c d s).1.toNat).fo = true
    · rw [if_pos h3]; exact .inl ⟨by decide, rfl⟩
    · rw [if_neg h3]; exact .inr ⟨h2, h1, rfl⟩
  · unfold openF
    rw [if_pos h1]; exact .inl ⟨h1, rfl⟩
set_option maxRecDepth 100000 in
set_option maxHeartbeats 8000000 in
theorem walkFnOpenFile (a : Option Addr) (len cap : Nat) (zs : List Int) (w : World) (hsh : w.ShapedOpen Tryd.prog) (hrow : IsRow .u8 w a len cap zs) :
    Calls Tryd.prog 9 #[.slice a len cap] w fun e w' => e = .returned (.bool true) ∧ Below w.heap.size w w' := by
  obtain ⟨hl1, hl2⟩ := hrow.len_le
  unfold maxLen at hl2
  by_cases hbig : (1048576 : Int) < (len : Int)
  · go_enter Tryd.func9, Tryd.ntmps9
    go_wp2
    go_ret
    exact ⟨rfl, Below.refl _ _⟩
  · have hm0 := maxL_of hsh
    go_enter Tryd.func9, Tryd.ntmps9
    go_wp2_with fail
    refine (drawOF_any a len cap zs _ hrow).mono ?_
    rintro e w1 ⟨v, t, a0, b0, c0, d0, S, want, rfl, hR0, hn, hk, hs, b1⟩
    have hR := hR0.r
    clear hR0
    have HM := Lib.hid (hm0.below b1)
    obtain ⟨A, cp, rfl⟩ := hR.shape
    have hcp := hR.caps
    have HR := Lib.hid hR
    have B1 := Lib.hid b1
    have hI := fun w hm h => openI_of (.slice A t.length cp) t a0 b0 c0 d0 S want w hm h (by omega) (by omega) (by omega)
    have hS := fun w hm h => openS_of (.slice A t.length cp) t a0 b0 c0 d0 S want w hm h (by omega) (by omega) (by omega)
    have hJ := fun w hm h => findI_of (.slice A t.length cp) t a0 b0 c0 d0 S w hm h (by omega) (by omega) (by omega)
    have hK := fun w hm h => mayAtI_of (.slice A t.length cp) t a0 b0 c0 d0 S want w hm h (by omega) (by omega) (by omega)
    generalize S.data.toList = s at hI hS hJ hK
    have hcs := open_cases t a0 b0 c0 d0 want s
    generalize openF t a0 b0 c0 d0 s want = O at hI hS hcs
    generalize mayAtF t a0 b0 c0 d0 s want = M at hK hcs
    generalize findF t a0 b0 c0 d0 s = G at hJ hcs
    obtain ⟨n, f⟩ := G
    obtain ⟨⟨x0, x1, x2⟩, g⟩ := O
    simp only at hI hS hJ hcs
    have HI := Lib.hid hI
    have HS := Lib.hid hS
    have HJ := Lib.hid hJ
    have HK := Lib.hid hK
    clear hR b1 hm0 hI hS hJ hK hs
    have Hcs := Lib.hid hcs
    clear hcs
    go_wp2_with fail
    refine (HI.out _ (HM.out.below (by (repeat (first | exact Below.refl _ _ | exact Hbl.out | refine Below.ext ?_ (by first | omega | (simp; omega) | simp) | refine Below.setCell ?_ (by first | omega | (simp; omega) | simp) _ | refine Below.alloc ?_ (by first | omega | (simp; omega) | simp) _ | refine Below.drew ?_ | refine below_drewN ?_ _ | refine Below.step (by assumption) (by first | omega | (simp; omega) | simp) ?_)))) (HR.out.below (by (repeat (first | exact Below.refl _ _ | exact Hbl.out | refine Below.ext ?_ (by first | omega | (simp; omega) | simp) | refine Below.setCell ?_ (by first | omega | (simp; omega) | simp) _ | refine Below.alloc ?_ (by first | omega | (simp; omega) | simp) _ | refine Below.drew ?_ | refine below_drewN ?_ _ | refine Below.step (by assumption) (by first | omega | (simp; omega) | simp) ?_))))).mono ?_
    rintro e w2 ⟨rfl, b2⟩
    have p0 : w2.cell? ⟨w1.heap.size, 0, none⟩ = some (.int .i64 a0) := (b2.cell (p := ⟨w1.heap.size, 0, none⟩) (by first | (simp; done) | (simp; omega) | omega)).trans (by first | assumption | go_simp)
    have p1 : w2.cell? ⟨w1.heap.size, 1, none⟩ = some (.int .i64 b0) := (b2.cell (p := ⟨w1.heap.size, 1, none⟩) (by first | (simp; done) | (simp; omega) | omega)).trans (by first | assumption | go_simp)
    have p2 : w2.cell? ⟨w1.heap.size, 2, none⟩ = some (.int .i64 c0) := (b2.cell (p := ⟨w1.heap.size, 2, none⟩) (by first | (simp; done) | (simp; omega) | omega)).trans (by first | assumption | go_simp)
    have p3 : w2.cell? ⟨w1.heap.size, 3, none⟩ = some (.int .i64 d0) := (b2.cell (p := ⟨w1.heap.size, 3, none⟩) (by first | (simp; done) | (simp; omega) | omega)).trans (by first | assumption | go_simp)
    have hz2 : w1.heap.size < w2.heap.size := by have := b2.size; simp at this; omega
    have B2 := Lib.hid (Below.step b2 (by simp) (show Below w1.heap.size w1 _ from (by (repeat (first | exact Below.refl _ _ | exact Hbl.out | refine Below.ext ?_ (by first | omega | (simp; omega) | simp) | refine Below.setCell ?_ (by first | omega | (simp; omega) | simp) _ | refine Below.alloc ?_ (by first | omega | (simp; omega) | simp) _ | refine Below.drew ?_ | refine below_drewN ?_ _ | refine Below.step (by assumption) (by first | omega | (simp; omega) | simp) ?_)))))
    clear b2
    go_wp2_with fail
    refine (HS.out _ trivial (HR.out.below (Below.alloc B2.out (by omega) _))).mono ?_
    rintro e w3 ⟨rfl, b3⟩
    have q0 : w3.cell? ⟨w1.heap.size, 0, none⟩ = some (.int .i64 a0) := (b3.cell (p := ⟨w1.heap.size, 0, none⟩) (by first | (simp; done) | (simp; omega) | omega)).trans (by first | assumption | go_simp)
    have q1 : w3.cell? ⟨w1.heap.size, 1, none⟩ = some (.int .i64 b0) := (b3.cell (p := ⟨w1.heap.size, 1, none⟩) (by first | (simp; done) | (simp; omega) | omega)).trans (by first | assumption | go_simp)
    have q2 : w3.cell? ⟨w1.heap.size, 2, none⟩ = some (.int .i64 c0) := (b3.cell (p := ⟨w1.heap.size, 2, none⟩) (by first | (simp; done) | (simp; omega) | omega)).trans (by first | assumption | go_simp)
    have q3 : w3.cell? ⟨w1.heap.size, 3, none⟩ = some (.int .i64 d0) := (b3.cell (p := ⟨w1.heap.size, 3, none⟩) (by first | (simp; done) | (simp; omega) | omega)).trans (by first | assumption | go_simp)
    have y0 : w3.cell? ⟨w2.heap.size, 0, none⟩ = some (.int .i64 x0) := (b3.cell (p := ⟨w2.heap.size, 0, none⟩) (by simp)).trans (by go_simp)
    have y1 : w3.cell? ⟨w2.heap.size, 1, none⟩ = some (.int .i64 x1) := (b3.cell (p := ⟨w2.heap.size, 1, none⟩) (by simp)).trans (by go_simp)
    have y2 : w3.cell? ⟨w2.heap.size, 2, none⟩ = some (.int .i64 x2) := (b3.cell (p := ⟨w2.heap.size, 2, none⟩) (by simp)).trans (by go_simp)
    have hz3 : w2.heap.size < w3.heap.size := by have := b3.size; simp at this; omega
    have hz3' : w1.heap.size < w3.heap.size := by omega
    have B3 := Lib.hid (Below.step b3 (by simp; omega) (Below.alloc B2.out (by omega) _))
    have B3w := Lib.hid (Below.step B3.out B1.out.size B1.out)
    clear b3 B2 HI HS p0 p1 p2 p3
    rcases Hcs.out with ⟨c1, c2⟩ | ⟨c1, c2, c3⟩
    · obtain ⟨rfl, rfl, rfl⟩ : x0 = 0 ∧ x1 = 0 ∧ x2 = 0 := by simpa using c2
      clear Hcs c2
      go_wp2_with (go_at_call 16; refine (alive_any _).mono ?_; rintro e w' ⟨rfl, rfl⟩)
      go_ret
      exact ⟨rfl, Below.step (show Below w3.heap.size w3 _ from (by (repeat (first | exact Below.refl _ _ | exact Hbl.out | refine Below.ext ?_ (by first | omega | (simp; omega) | simp) | refine Below.setCell ?_ (by first | omega | (simp; omega) | simp) _ | refine Below.alloc ?_ (by first | omega | (simp; omega) | simp) _ | refine Below.drew ?_ | refine below_drewN ?_ _ | refine Below.step (by assumption) (by first | omega | (simp; omega) | simp) ?_)))) B3w.out.size B3w.out⟩
    · obtain ⟨⟨rfl, rfl, rfl⟩, rfl⟩ : (x0 = n ∧ x1 = 0 ∧ x2 = want) ∧ g = 0 := by simpa using c3
      subst c1 c2
      clear Hcs c3
      go_wp2_with fail
      refine (HJ.out _ (HM.out.below (show Below w1.heap.size w1 _ from Below.alloc B3.out (by omega) _)) (HR.out.below (show Below w1.heap.size w1 _ from Below.alloc B3.out (by omega) _))).mono ?_
      rintro e w4 ⟨rfl, b4⟩
      have r0 : w4.cell? ⟨w1.heap.size, 0, none⟩ = some (.int .i64 a0) := (b4.cell (p := ⟨w1.heap.size, 0, none⟩) (by first | (simp; done) | (simp; omega) | omega)).trans (by first | assumption | go_simp)
      have r1 : w4.cell? ⟨w1.heap.size, 1, none⟩ = some (.int .i64 b0) := (b4.cell (p := ⟨w1.heap.size, 1, none⟩) (by first | (simp; done) | (simp; omega) | omega)).trans (by first | assumption | go_simp)
      have r2 : w4.cell? ⟨w1.heap.size, 2, none⟩ = some (.int .i64 c0) := (b4.cell (p := ⟨w1.heap.size, 2, none⟩) (by first | (simp; done) | (simp; omega) | omega)).trans (by first | assumption | go_simp)
      have r3 : w4.cell? ⟨w1.heap.size, 3, none⟩ = some (.int .i64 d0) := (b4.cell (p := ⟨w1.heap.size, 3, none⟩) (by first | (simp; done) | (simp; omega) | omega)).trans (by first | assumption | go_simp)
      have u0 : w4.cell? ⟨w2.heap.size, 0, none⟩ = some (.int .i64 x0) := (b4.cell (p := ⟨w2.heap.size, 0, none⟩) (by simp; omega)).trans (by go_simp)
      have u1 : w4.cell? ⟨w2.heap.size, 1, none⟩ = some (.int .i64 0) := (b4.cell (p := ⟨w2.heap.size, 1, none⟩) (by simp; omega)).trans (by go_simp)
      have u2 : w4.cell? ⟨w2.heap.size, 2, none⟩ = some (.int .i64 x2) := (b4.cell (p := ⟨w2.heap.size, 2, none⟩) (by simp; omega)).trans (by go_simp)
      have B4 := Lib.hid (Below.step b4 (by simp; omega) (Below.alloc B3.out (by omega) _))
      have B4w := Lib.hid (Below.step B4.out B1.out.size B1.out)
      clear b4
      go_wp2_with fail
      refine (HK.out _ (HM.out.below B4.out) (HR.out.below B4.out)).mono ?_
      rintro e w5 ⟨rfl, b5⟩
      have B5w := Lib.hid (Below.step b5 B4w.out.size B4w.out)
      clear b5
      go_wp2
      go_ret
      exact ⟨rfl, B5w.out⟩
end Go.Proofs.YthfneaaenlgegaaDoor
