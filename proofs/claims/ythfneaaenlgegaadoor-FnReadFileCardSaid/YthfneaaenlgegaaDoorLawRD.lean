/- The drawn law on ReadFile: the walk. -/
import Derived.Test.YthfneaaenlgegaaDoorDrawG
import Derived.Test.YthfneaaenlgegaaDoorFile3
set_option linter.unusedSimpArgs false
set_option linter.unusedVariables false
set_option linter.unusedSectionVars false
namespace Go.Proofs.YthfneaaenlgegaaDoor
open Go.RowKit

theorem read_cases (t : List Nd) (a b c d : Int) (s : List UInt8) : ((findF t a b c d s).2 ≠ 0 ∧ readF t a b c d s = (⟨#[]⟩, (findF t a b c d s).2)) ∨ ((findF t a b c d s).2 = 0 ∧ (kth t (findF t a b c d s).1.toNat).fo = true ∧ readF t a b c d s = (⟨#[]⟩, 4)) ∨
    ((findF t a b c d s).2 = 0 ∧ (kth t (findF t a b c d s).1.toNat).fo = false ∧ mayAtF t a b c d s 4 = 3 ∧ readF t a b c d s = (⟨#[]⟩, 3)) ∨ ((findF t a b c d s).2 = 0 ∧ (kth t (findF t a b c d s).1.toNat).fo = false ∧ mayAtF t a b c d s 4 = 0 ∧ readF t a b c d s = ((kth t (findF t a b c d s).1.toNat).tx, 0)) := by
  have hw : ¬ inB 4 0 7 = false := by decide
  by_cases h1 : (findF t a b c d s).2 = 0
  · have h1' : ¬ ¬ (findF t a b c d s).2 = 0 := fun h => h h1
    cases h2 : (kth t (findF t a b c d s).1.toNat).fo
    · by_cases h3 : mayF a b c d (kth t (findF t a b c d s).1.toNat).ow (kth t (findF t a b c d s).1.toNat).gr (kth t (findF t a b c d s).1.toNat).mo 4 = false
      · refine .inr (.inr (.inl ⟨h1, rfl, ?_, ?_⟩))
        · unfold mayAtF; rw [if_neg hw, if_neg h1', if_pos h3]
        · unfold readF fileF; rw [if_neg h1', h2, if_neg (show ¬ false = true by simp), if_pos h3]; rfl
      · refine .inr (.inr (.inr ⟨h1, rfl, ?_, ?_⟩))
        · unfold mayAtF; rw [if_neg hw, if_neg h1', if_neg h3]
        · unfold readF fileF; rw [if_neg h1', h2, if_neg (show ¬ false = true by simp), if_neg h3]; rfl
    · refine .inr (.inl ⟨h1, rfl, ?_⟩)
      unfold readF fileF; rw [if_neg h1', h2, if_pos rfl]; rfl
  · refine .inl ⟨h1, ?_⟩
    unfold readF fileF; rw [if_pos h1]; exact if_neg h1
set_option maxRecDepth 100000 in
set_option maxHeartbeats 8000000 in
theorem walkFnReadFile (a : Option Addr) (len cap : Nat) (zs : List Int) (w : World) (hsh : w.ShapedOpen Tryd.prog) (hrow : IsRow .u8 w a len cap zs) :
    Calls Tryd.prog 8 #[.slice a len cap] w fun e w' => e = .returned (.bool true) ∧ Below w.heap.size w w' := by
  obtain ⟨hl1, hl2⟩ := hrow.len_le
  unfold maxLen at hl2
  by_cases hbig : (1048576 : Int) < (len : Int)
  · go_enter Tryd.func8, Tryd.ntmps8
    go_wp2
    go_ret
    exact ⟨rfl, Below.refl _ _⟩
  · have hm0 := maxL_of hsh
    go_enter Tryd.func8, Tryd.ntmps8
    go_wp2_with fail
    refine (drawRF_any a len cap zs _ hrow).mono ?_
    rintro e w1 ⟨v, t, a0, b0, c0, d0, S, rfl, hR0, hn, hk, hs, b1⟩
    have hR := hR0.r
    clear hR0
    have HM := Lib.hid (hm0.below b1)
    obtain ⟨A, cp, rfl⟩ := hR.shape
    have hcp := hR.caps
    have HR := Lib.hid hR
    have B1 := Lib.hid b1
    have hI := fun w hm h => readI_of (.slice A t.length cp) t a0 b0 c0 d0 S w hm h (by omega) (by omega) (by omega)
    have hS := fun w hm h => readS_of (.slice A t.length cp) t a0 b0 c0 d0 S w hm h (by omega) (by omega) (by omega)
    have hJ := fun w hm h => findI_of (.slice A t.length cp) t a0 b0 c0 d0 S w hm h (by omega) (by omega) (by omega)
    have hK := fun w hm h => mayAtI_of (.slice A t.length cp) t a0 b0 c0 d0 S 4 w hm h (by omega) (by omega) (by omega)
    generalize S.data.toList = s at hI hS hJ hK
    have hcs := read_cases t a0 b0 c0 d0 s
    have hno := @find_no t a0 b0 c0 d0 s
    have hrg := @findF_range t a0 b0 c0 d0 s
    generalize readF t a0 b0 c0 d0 s = F at hI hS hcs
    generalize findF t a0 b0 c0 d0 s = G at hJ hcs hno hrg
    generalize mayAtF t a0 b0 c0 d0 s 4 = M at hK hcs
    obtain ⟨n, f⟩ := G
    simp only at hI hS hJ hcs hno hrg
    have HI := Lib.hid hI
    have HS := Lib.hid hS
    have HJ := Lib.hid hJ
    have HK := Lib.hid hK
    clear hR b1 hm0 hI hS hJ hK hs
    rcases hcs with ⟨c1, c2⟩ | ⟨c1, c2, c3⟩ | ⟨c1, c2, c3, c4⟩ | ⟨c1, c2, c3, c4⟩
    · obtain ⟨n1, _, _⟩ := hno c1
      subst n1 c2
      clear hno hrg
      go_wp2_with fail
      refine (HI.out _ (HM.out.below (by (repeat (first | exact Below.refl _ _ | exact Hbl.out | refine Below.ext ?_ (by first | omega | (simp; omega) | simp) | refine Below.setCell ?_ (by first | omega | (simp; omega) | simp) _ | refine Below.alloc ?_ (by first | omega | (simp; omega) | simp) _ | refine Below.drew ?_ | refine below_drewN ?_ _ | refine Below.step (by assumption) (by first | omega | (simp; omega) | simp) ?_)))) (HR.out.below (by (repeat (first | exact Below.refl _ _ | exact Hbl.out | refine Below.ext ?_ (by first | omega | (simp; omega) | simp) | refine Below.setCell ?_ (by first | omega | (simp; omega) | simp) _ | refine Below.alloc ?_ (by first | omega | (simp; omega) | simp) _ | refine Below.drew ?_ | refine below_drewN ?_ _ | refine Below.step (by assumption) (by first | omega | (simp; omega) | simp) ?_))))).mono ?_
      rintro e w2 ⟨rfl, b2⟩
      have p0 : w2.cell? ⟨w1.heap.size, 0, none⟩ = some (.int .i64 a0) := (b2.cell (p := ⟨w1.heap.size, 0, none⟩) (by first | (simp; done) | (simp; omega) | omega)).trans (by first | assumption | go_simp)
      have p1 : w2.cell? ⟨w1.heap.size, 1, none⟩ = some (.int .i64 b0) := (b2.cell (p := ⟨w1.heap.size, 1, none⟩) (by first | (simp; done) | (simp; omega) | omega)).trans (by first | assumption | go_simp)
      have p2 : w2.cell? ⟨w1.heap.size, 2, none⟩ = some (.int .i64 c0) := (b2.cell (p := ⟨w1.heap.size, 2, none⟩) (by first | (simp; done) | (simp; omega) | omega)).trans (by first | assumption | go_simp)
      have p3 : w2.cell? ⟨w1.heap.size, 3, none⟩ = some (.int .i64 d0) := (b2.cell (p := ⟨w1.heap.size, 3, none⟩) (by first | (simp; done) | (simp; omega) | omega)).trans (by first | assumption | go_simp)
      have hz2 : w1.heap.size < w2.heap.size := by have := b2.size; simp at this; omega
      have B2 := Lib.hid (Below.step b2 (by simp) (show Below w1.heap.size w1 _ from (by (repeat (first | exact Below.refl _ _ | exact Hbl.out | refine Below.ext ?_ (by first | omega | (simp; omega) | simp) | refine Below.setCell ?_ (by first | omega | (simp; omega) | simp) _ | refine Below.alloc ?_ (by first | omega | (simp; omega) | simp) _ | refine Below.drew ?_ | refine below_drewN ?_ _ | refine Below.step (by assumption) (by first | omega | (simp; omega) | simp) ?_)))))
      clear b2
      go_wp2_with fail
      refine (HS.out _ trivial (HR.out.below B2.out)).mono ?_
      rintro e w3 ⟨rfl, b3⟩
      have q0 : w3.cell? ⟨w1.heap.size, 0, none⟩ = some (.int .i64 a0) := (b3.cell (p := ⟨w1.heap.size, 0, none⟩) (by first | (simp; done) | (simp; omega) | omega)).trans (by first | assumption | go_simp)
      have q1 : w3.cell? ⟨w1.heap.size, 1, none⟩ = some (.int .i64 b0) := (b3.cell (p := ⟨w1.heap.size, 1, none⟩) (by first | (simp; done) | (simp; omega) | omega)).trans (by first | assumption | go_simp)
      have q2 : w3.cell? ⟨w1.heap.size, 2, none⟩ = some (.int .i64 c0) := (b3.cell (p := ⟨w1.heap.size, 2, none⟩) (by first | (simp; done) | (simp; omega) | omega)).trans (by first | assumption | go_simp)
      have q3 : w3.cell? ⟨w1.heap.size, 3, none⟩ = some (.int .i64 d0) := (b3.cell (p := ⟨w1.heap.size, 3, none⟩) (by first | (simp; done) | (simp; omega) | omega)).trans (by first | assumption | go_simp)
      have hz3 : w1.heap.size < w3.heap.size := by have := b3.size; omega
      have B3 := Lib.hid (Below.step b3 B2.out.size B2.out)
      clear b3 B2 HI HS p0 p1 p2 p3
      go_wp2_with fail
      refine (HJ.out _ (HM.out.below B3.out) (HR.out.below B3.out)).mono ?_
      rintro e w4 ⟨rfl, b4⟩
      have r0 : w4.cell? ⟨w1.heap.size, 0, none⟩ = some (.int .i64 a0) := (b4.cell (p := ⟨w1.heap.size, 0, none⟩) (by first | (simp; done) | (simp; omega) | omega)).trans (by first | assumption | go_simp)
      have r1 : w4.cell? ⟨w1.heap.size, 1, none⟩ = some (.int .i64 b0) := (b4.cell (p := ⟨w1.heap.size, 1, none⟩) (by first | (simp; done) | (simp; omega) | omega)).trans (by first | assumption | go_simp)
      have r2 : w4.cell? ⟨w1.heap.size, 2, none⟩ = some (.int .i64 c0) := (b4.cell (p := ⟨w1.heap.size, 2, none⟩) (by first | (simp; done) | (simp; omega) | omega)).trans (by first | assumption | go_simp)
      have r3 : w4.cell? ⟨w1.heap.size, 3, none⟩ = some (.int .i64 d0) := (b4.cell (p := ⟨w1.heap.size, 3, none⟩) (by first | (simp; done) | (simp; omega) | omega)).trans (by first | assumption | go_simp)
      have hz4 : w1.heap.size < w4.heap.size := by have := b4.size; omega
      have B4 := Lib.hid (Below.step b4 B3.out.size B3.out)
      have B4w := Lib.hid (Below.step B4.out B1.out.size B1.out)
      clear b4 B3 q0 q1 q2 q3
      go_wp2_with (go_at_call 16; refine (alive_any _).mono ?_; rintro e w' ⟨rfl, rfl⟩)
      go_ret
      exact ⟨rfl, B4w.out⟩
    · subst c1 c3
      obtain ⟨g1, g2, _, g4, g5⟩ := hrg rfl
      obtain ⟨m, rfl⟩ : ∃ m : Nat, n = (m : Int) := ⟨n.toNat, by omega⟩
      have hm : m < t.length := by omega
      have hm' : (m : Int) < (t.length : Int) := by omega
      rw [Int.toNat_natCast] at c2
      clear hno hrg
      go_wp2_with fail
      refine (HI.out _ (HM.out.below (by (repeat (first | exact Below.refl _ _ | exact Hbl.out | refine Below.ext ?_ (by first | omega | (simp; omega) | simp) | refine Below.setCell ?_ (by first | omega | (simp; omega) | simp) _ | refine Below.alloc ?_ (by first | omega | (simp; omega) | simp) _ | refine Below.drew ?_ | refine below_drewN ?_ _ | refine Below.step (by assumption) (by first | omega | (simp; omega) | simp) ?_)))) (HR.out.below (by (repeat (first | exact Below.refl _ _ | exact Hbl.out | refine Below.ext ?_ (by first | omega | (simp; omega) | simp) | refine Below.setCell ?_ (by first | omega | (simp; omega) | simp) _ | refine Below.alloc ?_ (by first | omega | (simp; omega) | simp) _ | refine Below.drew ?_ | refine below_drewN ?_ _ | refine Below.step (by assumption) (by first | omega | (simp; omega) | simp) ?_))))).mono ?_
      rintro e w2 ⟨rfl, b2⟩
      have p0 : w2.cell? ⟨w1.heap.size, 0, none⟩ = some (.int .i64 a0) := (b2.cell (p := ⟨w1.heap.size, 0, none⟩) (by first | (simp; done) | (simp; omega) | omega)).trans (by first | assumption | go_simp)
      have p1 : w2.cell? ⟨w1.heap.size, 1, none⟩ = some (.int .i64 b0) := (b2.cell (p := ⟨w1.heap.size, 1, none⟩) (by first | (simp; done) | (simp; omega) | omega)).trans (by first | assumption | go_simp)
      have p2 : w2.cell? ⟨w1.heap.size, 2, none⟩ = some (.int .i64 c0) := (b2.cell (p := ⟨w1.heap.size, 2, none⟩) (by first | (simp; done) | (simp; omega) | omega)).trans (by first | assumption | go_simp)
      have p3 : w2.cell? ⟨w1.heap.size, 3, none⟩ = some (.int .i64 d0) := (b2.cell (p := ⟨w1.heap.size, 3, none⟩) (by first | (simp; done) | (simp; omega) | omega)).trans (by first | assumption | go_simp)
      have hz2 : w1.heap.size < w2.heap.size := by have := b2.size; simp at this; omega
      have B2 := Lib.hid (Below.step b2 (by simp) (show Below w1.heap.size w1 _ from (by (repeat (first | exact Below.refl _ _ | exact Hbl.out | refine Below.ext ?_ (by first | omega | (simp; omega) | simp) | refine Below.setCell ?_ (by first | omega | (simp; omega) | simp) _ | refine Below.alloc ?_ (by first | omega | (simp; omega) | simp) _ | refine Below.drew ?_ | refine below_drewN ?_ _ | refine Below.step (by assumption) (by first | omega | (simp; omega) | simp) ?_)))))
      clear b2
      go_wp2_with fail
      refine (HS.out _ trivial (HR.out.below B2.out)).mono ?_
      rintro e w3 ⟨rfl, b3⟩
      have q0 : w3.cell? ⟨w1.heap.size, 0, none⟩ = some (.int .i64 a0) := (b3.cell (p := ⟨w1.heap.size, 0, none⟩) (by first | (simp; done) | (simp; omega) | omega)).trans (by first | assumption | go_simp)
      have q1 : w3.cell? ⟨w1.heap.size, 1, none⟩ = some (.int .i64 b0) := (b3.cell (p := ⟨w1.heap.size, 1, none⟩) (by first | (simp; done) | (simp; omega) | omega)).trans (by first | assumption | go_simp)
      have q2 : w3.cell? ⟨w1.heap.size, 2, none⟩ = some (.int .i64 c0) := (b3.cell (p := ⟨w1.heap.size, 2, none⟩) (by first | (simp; done) | (simp; omega) | omega)).trans (by first | assumption | go_simp)
      have q3 : w3.cell? ⟨w1.heap.size, 3, none⟩ = some (.int .i64 d0) := (b3.cell (p := ⟨w1.heap.size, 3, none⟩) (by first | (simp; done) | (simp; omega) | omega)).trans (by first | assumption | go_simp)
      have hz3 : w1.heap.size < w3.heap.size := by have := b3.size; omega
      have B3 := Lib.hid (Below.step b3 B2.out.size B2.out)
      clear b3 B2 HI HS p0 p1 p2 p3
      go_wp2_with fail
      refine (HJ.out _ (HM.out.below B3.out) (HR.out.below B3.out)).mono ?_
      rintro e w4 ⟨rfl, b4⟩
      have r0 : w4.cell? ⟨w1.heap.size, 0, none⟩ = some (.int .i64 a0) := (b4.cell (p := ⟨w1.heap.size, 0, none⟩) (by first | (simp; done) | (simp; omega) | omega)).trans (by first | assumption | go_simp)
      have r1 : w4.cell? ⟨w1.heap.size, 1, none⟩ = some (.int .i64 b0) := (b4.cell (p := ⟨w1.heap.size, 1, none⟩) (by first | (simp; done) | (simp; omega) | omega)).trans (by first | assumption | go_simp)
      have r2 : w4.cell? ⟨w1.heap.size, 2, none⟩ = some (.int .i64 c0) := (b4.cell (p := ⟨w1.heap.size, 2, none⟩) (by first | (simp; done) | (simp; omega) | omega)).trans (by first | assumption | go_simp)
      have r3 : w4.cell? ⟨w1.heap.size, 3, none⟩ = some (.int .i64 d0) := (b4.cell (p := ⟨w1.heap.size, 3, none⟩) (by first | (simp; done) | (simp; omega) | omega)).trans (by first | assumption | go_simp)
      have hz4 : w1.heap.size < w4.heap.size := by have := b4.size; omega
      have B4 := Lib.hid (Below.step b4 B3.out.size B3.out)
      have B4w := Lib.hid (Below.step B4.out B1.out.size B1.out)
      clear b4 B3 q0 q1 q2 q3
      obtain ⟨bt, ot, nA, nC, kA, kC, rfl, hbt, _, y0, y1, y2, y3, y4, y5, y6⟩ := (HR.out.below B4.out).at_ (kth_at hm)
      rw [c2] at y0
      go_wp2_with (go_at_call 16; refine (alive_any _).mono ?_; rintro e w' ⟨rfl, rfl⟩)
      go_ret
      exact ⟨rfl, B4w.out⟩
    · subst c1 c3 c4
      obtain ⟨g1, g2, _, g4, g5⟩ := hrg rfl
      obtain ⟨m, rfl⟩ : ∃ m : Nat, n = (m : Int) := ⟨n.toNat, by omega⟩
      have hm : m < t.length := by omega
      have hm' : (m : Int) < (t.length : Int) := by omega
      rw [Int.toNat_natCast] at c2
      clear hno hrg
      go_wp2_with fail
      refine (HI.out _ (HM.out.below (by (repeat (first | exact Below.refl _ _ | exact Hbl.out | refine Below.ext ?_ (by first | omega | (simp; omega) | simp) | refine Below.setCell ?_ (by first | omega | (simp; omega) | simp) _ | refine Below.alloc ?_ (by first | omega | (simp; omega) | simp) _ | refine Below.drew ?_ | refine below_drewN ?_ _ | refine Below.step (by assumption) (by first | omega | (simp; omega) | simp) ?_)))) (HR.out.below (by (repeat (first | exact Below.refl _ _ | exact Hbl.out | refine Below.ext ?_ (by first | omega | (simp; omega) | simp) | refine Below.setCell ?_ (by first | omega | (simp; omega) | simp) _ | refine Below.alloc ?_ (by first | omega | (simp; omega) | simp) _ | refine Below.drew ?_ | refine below_drewN ?_ _ | refine Below.step (by assumption) (by first | omega | (simp; omega) | simp) ?_))))).mono ?_
      rintro e w2 ⟨rfl, b2⟩
      have p0 : w2.cell? ⟨w1.heap.size, 0, none⟩ = some (.int .i64 a0) := (b2.cell (p := ⟨w1.heap.size, 0, none⟩) (by first | (simp; done) | (simp; omega) | omega)).trans (by first | assumption | go_simp)
      have p1 : w2.cell? ⟨w1.heap.size, 1, none⟩ = some (.int .i64 b0) := (b2.cell (p := ⟨w1.heap.size, 1, none⟩) (by first | (simp; done) | (simp; omega) | omega)).trans (by first | assumption | go_simp)
      have p2 : w2.cell? ⟨w1.heap.size, 2, none⟩ = some (.int .i64 c0) := (b2.cell (p := ⟨w1.heap.size, 2, none⟩) (by first | (simp; done) | (simp; omega) | omega)).trans (by first | assumption | go_simp)
      have p3 : w2.cell? ⟨w1.heap.size, 3, none⟩ = some (.int .i64 d0) := (b2.cell (p := ⟨w1.heap.size, 3, none⟩) (by first | (simp; done) | (simp; omega) | omega)).trans (by first | assumption | go_simp)
      have hz2 : w1.heap.size < w2.heap.size := by have := b2.size; simp at this; omega
      have B2 := Lib.hid (Below.step b2 (by simp) (show Below w1.heap.size w1 _ from (by (repeat (first | exact Below.refl _ _ | exact Hbl.out | refine Below.ext ?_ (by first | omega | (simp; omega) | simp) | refine Below.setCell ?_ (by first | omega | (simp; omega) | simp) _ | refine Below.alloc ?_ (by first | omega | (simp; omega) | simp) _ | refine Below.drew ?_ | refine below_drewN ?_ _ | refine Below.step (by assumption) (by first | omega | (simp; omega) | simp) ?_)))))
      clear b2
      go_wp2_with fail
      refine (HS.out _ trivial (HR.out.below B2.out)).mono ?_
      rintro e w3 ⟨rfl, b3⟩
      have q0 : w3.cell? ⟨w1.heap.size, 0, none⟩ = some (.int .i64 a0) := (b3.cell (p := ⟨w1.heap.size, 0, none⟩) (by first | (simp; done) | (simp; omega) | omega)).trans (by first | assumption | go_simp)
      have q1 : w3.cell? ⟨w1.heap.size, 1, none⟩ = some (.int .i64 b0) := (b3.cell (p := ⟨w1.heap.size, 1, none⟩) (by first | (simp; done) | (simp; omega) | omega)).trans (by first | assumption | go_simp)
      have q2 : w3.cell? ⟨w1.heap.size, 2, none⟩ = some (.int .i64 c0) := (b3.cell (p := ⟨w1.heap.size, 2, none⟩) (by first | (simp; done) | (simp; omega) | omega)).trans (by first | assumption | go_simp)
      have q3 : w3.cell? ⟨w1.heap.size, 3, none⟩ = some (.int .i64 d0) := (b3.cell (p := ⟨w1.heap.size, 3, none⟩) (by first | (simp; done) | (simp; omega) | omega)).trans (by first | assumption | go_simp)
      have hz3 : w1.heap.size < w3.heap.size := by have := b3.size; omega
      have B3 := Lib.hid (Below.step b3 B2.out.size B2.out)
      clear b3 B2 HI HS p0 p1 p2 p3
      go_wp2_with fail
      refine (HJ.out _ (HM.out.below B3.out) (HR.out.below B3.out)).mono ?_
      rintro e w4 ⟨rfl, b4⟩
      have r0 : w4.cell? ⟨w1.heap.size, 0, none⟩ = some (.int .i64 a0) := (b4.cell (p := ⟨w1.heap.size, 0, none⟩) (by first | (simp; done) | (simp; omega) | omega)).trans (by first | assumption | go_simp)
      have r1 : w4.cell? ⟨w1.heap.size, 1, none⟩ = some (.int .i64 b0) := (b4.cell (p := ⟨w1.heap.size, 1, none⟩) (by first | (simp; done) | (simp; omega) | omega)).trans (by first | assumption | go_simp)
      have r2 : w4.cell? ⟨w1.heap.size, 2, none⟩ = some (.int .i64 c0) := (b4.cell (p := ⟨w1.heap.size, 2, none⟩) (by first | (simp; done) | (simp; omega) | omega)).trans (by first | assumption | go_simp)
      have r3 : w4.cell? ⟨w1.heap.size, 3, none⟩ = some (.int .i64 d0) := (b4.cell (p := ⟨w1.heap.size, 3, none⟩) (by first | (simp; done) | (simp; omega) | omega)).trans (by first | assumption | go_simp)
      have hz4 : w1.heap.size < w4.heap.size := by have := b4.size; omega
      have B4 := Lib.hid (Below.step b4 B3.out.size B3.out)
      have B4w := Lib.hid (Below.step B4.out B1.out.size B1.out)
      clear b4 B3 q0 q1 q2 q3
      obtain ⟨bt, ot, nA, nC, kA, kC, rfl, hbt, _, y0, y1, y2, y3, y4, y5, y6⟩ := (HR.out.below B4.out).at_ (kth_at hm)
      rw [c2] at y0
      go_wp2_with fail
      refine (HK.out _ (HM.out.below B4.out) (HR.out.below B4.out)).mono ?_
      rintro e w5 ⟨rfl, b5⟩
      have B5w := Lib.hid (Below.step b5 B4w.out.size B4w.out)
      clear b5
      go_wp2_with (go_at_call 16; refine (alive_any _).mono ?_; rintro e w' ⟨rfl, rfl⟩)
      go_ret
      exact ⟨rfl, B5w.out⟩
    · subst c1 c3 c4
      obtain ⟨g1, g2, _, g4, g5⟩ := hrg rfl
      obtain ⟨m, rfl⟩ : ∃ m : Nat, n = (m : Int) := ⟨n.toNat, by omega⟩
      have hm : m < t.length := by omega
      have hm' : (m : Int) < (t.length : Int) := by omega
      rw [Int.toNat_natCast] at c2
      clear hno hrg
      go_wp2_with fail
      refine (HI.out _ (HM.out.below (by (repeat (first | exact Below.refl _ _ | exact Hbl.out | refine Below.ext ?_ (by first | omega | (simp; omega) | simp) | refine Below.setCell ?_ (by first | omega | (simp; omega) | simp) _ | refine Below.alloc ?_ (by first | omega | (simp; omega) | simp) _ | refine Below.drew ?_ | refine below_drewN ?_ _ | refine Below.step (by assumption) (by first | omega | (simp; omega) | simp) ?_)))) (HR.out.below (by (repeat (first | exact Below.refl _ _ | exact Hbl.out | refine Below.ext ?_ (by first | omega | (simp; omega) | simp) | refine Below.setCell ?_ (by first | omega | (simp; omega) | simp) _ | refine Below.alloc ?_ (by first | omega | (simp; omega) | simp) _ | refine Below.drew ?_ | refine below_drewN ?_ _ | refine Below.step (by assumption) (by first | omega | (simp; omega) | simp) ?_))))).mono ?_
      rintro e w2 ⟨rfl, b2⟩
      have p0 : w2.cell? ⟨w1.heap.size, 0, none⟩ = some (.int .i64 a0) := (b2.cell (p := ⟨w1.heap.size, 0, none⟩) (by first | (simp; done) | (simp; omega) | omega)).trans (by first | assumption | go_simp)
      have p1 : w2.cell? ⟨w1.heap.size, 1, none⟩ = some (.int .i64 b0) := (b2.cell (p := ⟨w1.heap.size, 1, none⟩) (by first | (simp; done) | (simp; omega) | omega)).trans (by first | assumption | go_simp)
      have p2 : w2.cell? ⟨w1.heap.size, 2, none⟩ = some (.int .i64 c0) := (b2.cell (p := ⟨w1.heap.size, 2, none⟩) (by first | (simp; done) | (simp; omega) | omega)).trans (by first | assumption | go_simp)
      have p3 : w2.cell? ⟨w1.heap.size, 3, none⟩ = some (.int .i64 d0) := (b2.cell (p := ⟨w1.heap.size, 3, none⟩) (by first | (simp; done) | (simp; omega) | omega)).trans (by first | assumption | go_simp)
      have hz2 : w1.heap.size < w2.heap.size := by have := b2.size; simp at this; omega
      have B2 := Lib.hid (Below.step b2 (by simp) (show Below w1.heap.size w1 _ from (by (repeat (first | exact Below.refl _ _ | exact Hbl.out | refine Below.ext ?_ (by first | omega | (simp; omega) | simp) | refine Below.setCell ?_ (by first | omega | (simp; omega) | simp) _ | refine Below.alloc ?_ (by first | omega | (simp; omega) | simp) _ | refine Below.drew ?_ | refine below_drewN ?_ _ | refine Below.step (by assumption) (by first | omega | (simp; omega) | simp) ?_)))))
      clear b2
      go_wp2_with fail
      refine (HS.out _ trivial (HR.out.below B2.out)).mono ?_
      rintro e w3 ⟨rfl, b3⟩
      have q0 : w3.cell? ⟨w1.heap.size, 0, none⟩ = some (.int .i64 a0) := (b3.cell (p := ⟨w1.heap.size, 0, none⟩) (by first | (simp; done) | (simp; omega) | omega)).trans (by first | assumption | go_simp)
      have q1 : w3.cell? ⟨w1.heap.size, 1, none⟩ = some (.int .i64 b0) := (b3.cell (p := ⟨w1.heap.size, 1, none⟩) (by first | (simp; done) | (simp; omega) | omega)).trans (by first | assumption | go_simp)
      have q2 : w3.cell? ⟨w1.heap.size, 2, none⟩ = some (.int .i64 c0) := (b3.cell (p := ⟨w1.heap.size, 2, none⟩) (by first | (simp; done) | (simp; omega) | omega)).trans (by first | assumption | go_simp)
      have q3 : w3.cell? ⟨w1.heap.size, 3, none⟩ = some (.int .i64 d0) := (b3.cell (p := ⟨w1.heap.size, 3, none⟩) (by first | (simp; done) | (simp; omega) | omega)).trans (by first | assumption | go_simp)
      have hz3 : w1.heap.size < w3.heap.size := by have := b3.size; omega
      have B3 := Lib.hid (Below.step b3 B2.out.size B2.out)
      clear b3 B2 HI HS p0 p1 p2 p3
      go_wp2_with fail
      refine (HJ.out _ (HM.out.below B3.out) (HR.out.below B3.out)).mono ?_
      rintro e w4 ⟨rfl, b4⟩
      have r0 : w4.cell? ⟨w1.heap.size, 0, none⟩ = some (.int .i64 a0) := (b4.cell (p := ⟨w1.heap.size, 0, none⟩) (by first | (simp; done) | (simp; omega) | omega)).trans (by first | assumption | go_simp)
      have r1 : w4.cell? ⟨w1.heap.size, 1, none⟩ = some (.int .i64 b0) := (b4.cell (p := ⟨w1.heap.size, 1, none⟩) (by first | (simp; done) | (simp; omega) | omega)).trans (by first | assumption | go_simp)
      have r2 : w4.cell? ⟨w1.heap.size, 2, none⟩ = some (.int .i64 c0) := (b4.cell (p := ⟨w1.heap.size, 2, none⟩) (by first | (simp; done) | (simp; omega) | omega)).trans (by first | assumption | go_simp)
      have r3 : w4.cell? ⟨w1.heap.size, 3, none⟩ = some (.int .i64 d0) := (b4.cell (p := ⟨w1.heap.size, 3, none⟩) (by first | (simp; done) | (simp; omega) | omega)).trans (by first | assumption | go_simp)
      have hz4 : w1.heap.size < w4.heap.size := by have := b4.size; omega
      have B4 := Lib.hid (Below.step b4 B3.out.size B3.out)
      have B4w := Lib.hid (Below.step B4.out B1.out.size B1.out)
      clear b4 B3 q0 q1 q2 q3
      obtain ⟨bt, ot, nA, nC, kA, kC, rfl, hbt, _, y0, y1, y2, y3, y4, y5, y6⟩ := (HR.out.below B4.out).at_ (kth_at hm)
      rw [c2] at y0
      go_wp2_with fail
      refine (HK.out _ (HM.out.below B4.out) (HR.out.below B4.out)).mono ?_
      rintro e w5 ⟨rfl, b5⟩
      have B5w := Lib.hid (Below.step b5 B4w.out.size B4w.out)
      clear b5
      go_wp2
      go_ret
      exact ⟨rfl, B5w.out⟩
end Go.Proofs.YthfneaaenlgegaaDoor
