/- The drawn law on MayAt: the walk. -/
import Derived.Test.YthfneaaenlgegaaDoorDrawMA
import Derived.Test.YthfneaaenlgegaaDoorFile3
import Derived.Test.YthfneaaenlgegaaDoorMayDo
import Derived.Test.YthfneaaenlgegaaDoorTake
set_option linter.unusedSimpArgs false
set_option linter.unusedVariables false
set_option linter.unusedSectionVars false
namespace Go.Proofs.YthfneaaenlgegaaDoor
open Go.RowKit

theorem mayAt_cases (t : List Nd) (a b c d want : Int) (s : List UInt8) : ((findF t a b c d s).2 ≠ 0 ∧ mayAtF t a b c d s want ≠ 0) ∨ ((findF t a b c d s).2 = 0 ∧ inB want 0 7 = false ∧ mayAtF t a b c d s want = 1) ∨
    ((findF t a b c d s).2 = 0 ∧ inB want 0 7 = true ∧ mayF a b c d (kth t (findF t a b c d s).1.toNat).ow (kth t (findF t a b c d s).1.toNat).gr (kth t (findF t a b c d s).1.toNat).mo want = false ∧ mayAtF t a b c d s want = 3) ∨
    ((findF t a b c d s).2 = 0 ∧ inB want 0 7 = true ∧ mayF a b c d (kth t (findF t a b c d s).1.toNat).ow (kth t (findF t a b c d s).1.toNat).gr (kth t (findF t a b c d s).1.toNat).mo want = true ∧ mayAtF t a b c d s want = 0) := by
  unfold mayAtF
  by_cases h1 : (findF t a b c d s).2 = 0
  · have h1' : ¬ ¬ (findF t a b c d s).2 = 0 := fun h => h h1
    cases hw : inB want 0 7
    · exact .inr (.inl ⟨h1, rfl, if_pos rfl⟩)
    · rw [if_neg (show ¬ true = false by simp), if_neg h1']
      cases h3 : mayF a b c d (kth t (findF t a b c d s).1.toNat).ow (kth t (findF t a b c d s).1.toNat).gr (kth t (findF t a b c d s).1.toNat).mo want
      · exact .inr (.inr (.inl ⟨h1, rfl, rfl, if_pos rfl⟩))
      · exact .inr (.inr (.inr ⟨h1, rfl, rfl, if_neg (by simp)⟩))
  · refine .inl ⟨h1, ?_⟩
    cases hw : inB want 0 7
    · rw [if_pos rfl]; decide
    · rw [if_neg (show ¬ true = false by simp), if_pos h1]; exact h1
set_option maxRecDepth 100000 in
set_option maxHeartbeats 8000000 in
theorem walkFnMayAt (a : Option Addr) (len cap : Nat) (zs : List Int) (w : World) (hsh : w.ShapedOpen Tryd.prog) (hrow : IsRow .u8 w a len cap zs) :
    Calls Tryd.prog 6 #[.slice a len cap] w fun e w' => e = .returned (.bool true) ∧ Below w.heap.size w w' := by
  obtain ⟨hl1, hl2⟩ := hrow.len_le
  unfold maxLen at hl2
  by_cases hbig : (1048576 : Int) < (len : Int)
  · go_enter Tryd.func6, Tryd.ntmps6
    go_wp2
    go_ret
    exact ⟨rfl, Below.refl _ _⟩
  · have hm0 := maxL_of hsh
    go_enter Tryd.func6, Tryd.ntmps6
    go_wp2_with fail
    refine (drawMA_any a len cap zs _ hrow).mono ?_
    rintro e w1 ⟨v, t, a0, b0, c0, d0, S, want, rfl, hR0, hn, hk, hs, b1⟩
    have hR := hR0.r
    clear hR0
    have HM := Lib.hid (hm0.below b1)
    obtain ⟨A, cp, rfl⟩ := hR.shape
    have hcp := hR.caps
    have HR := Lib.hid hR
    have B1 := Lib.hid b1
    have hI := fun w hm h => mayAtI_of (.slice A t.length cp) t a0 b0 c0 d0 S want w hm h (by omega) (by omega) (by omega)
    have hS := fun w hm h => mayAtS_of (.slice A t.length cp) t a0 b0 c0 d0 S want w hm h (by omega) (by omega) (by omega)
    have hJ := fun w hm h => findI_of (.slice A t.length cp) t a0 b0 c0 d0 S w hm h (by omega) (by omega) (by omega)
    generalize S.data.toList = s at hI hS hJ
    have hcs := mayAt_cases t a0 b0 c0 d0 want s
    have hno := @find_no t a0 b0 c0 d0 s
    have hrg := @findF_range t a0 b0 c0 d0 s
    generalize mayAtF t a0 b0 c0 d0 s want = M at hI hS hcs
    generalize findF t a0 b0 c0 d0 s = G at hJ hcs hno hrg
    obtain ⟨n, f⟩ := G
    simp only at hI hS hJ hcs hno hrg
    have HI := Lib.hid hI
    have HS := Lib.hid hS
    have HJ := Lib.hid hJ
    clear hR b1 hm0 hI hS hJ hs
    go_wp2_with fail
    refine (HI.out _ (HM.out.below (by (repeat (first | exact Below.refl _ _ | exact Hbl.out | refine Below.ext ?_ (by first | omega | (simp; omega) | simp) | refine Below.setCell ?_ (by first | omega | (simp; omega) | simp) _ | refine Below.alloc ?_ (by first | omega | (simp; omega) | simp) _ | refine Below.drew ?_ | refine below_drewN ?_ _ | refine Below.step (by assumption) (by first | omega | (simp; omega) | simp) ?_)))) (HR.out.below (by (repeat (first | exact Below.refl _ _ | exact Hbl.out | refine Below.ext ?_ (by first | omega | (simp; omega) | simp) | refine Below.setCell ?_ (by first | omega | (simp; omega) | simp) _ | refine Below.alloc ?_ (by first | omega | (simp; omega) | simp) _ | refine Below.drew ?_ | refine below_drewN ?_ _ | refine Below.step (by assumption) (by first | omega | (simp; omega) | simp) ?_))))).mono ?_
    rintro e w2 ⟨rfl, b2⟩
    have p0 : w2.cell? ⟨w1.heap.size, 0, none⟩ = some (.int .i64 a0) := (b2.cell (p := ⟨w1.heap.size, 0, none⟩) (by first | (simp; done) | (simp; omega) | omega)).trans (by first | assumption | go_simp)
    have p1 : w2.cell? ⟨w1.heap.size, 1, none⟩ = some (.int .i64 b0) := (b2.cell (p := ⟨w1.heap.size, 1, none⟩) (by first | (simp; done) | (simp; omega) | omega)).trans (by first | assumption | go_simp)
    have p2 : w2.cell? ⟨w1.heap.size, 2, none⟩ = some (.int .i64 c0) := (b2.cell (p := ⟨w1.heap.size, 2, none⟩) (by first | (simp; done) | (simp; omega) | omega)).trans (by first | assumption | go_simp)
    have p3 : w2.cell? ⟨w1.heap.size, 3, none⟩ = some (.int .i64 d0) := (b2.cell (p := ⟨w1.heap.size, 3, none⟩) (by first | (simp; done) | (simp; omega) | omega)).trans (by first | assumption | go_simp)
    have hz2 : w1.heap.size < w2.heap.size := by have := b2.size; simp at this; omega
    have B2 := Lib.hid (Below.step b2 (by simp) (show Below w1.heap.size w1 _ from (by (repeat (first | exact Below.refl _ _ | exact Hbl.out | refine Below.ext ?_ (by first | omega | (simp; omega) | simp) | refine Below.setCell ?_ (by first | omega | (simp; omega) | simp) _ | refine Below.alloc ?_ (by first | omega | (simp; omega) | simp) _ | refine Below.drew ?_ | refine below_drewN ?_ _ | refine Below.step (by assumption) (by first | omega | (simp; omega) | simp) ?_)))))
    clear b2
    go_wp2_with fail
    refine (HS.out _ trivial (HR.out.below B2.out)).mono ?_
    rintro e w3 ⟨rfl, b3⟩
    have q0 : w3.cell? ⟨w1.heap.size, 0, none⟩ = some (.int .i64 a0) := (b3.cell (p := ⟨w1.heap.size, 0, none⟩) (by first | (simp; done) | (simp; omega) | omega)).trans (by first | assumption | go_simp)
    have q1 : w3.cell? ⟨w1.heap.size, 1, none⟩ = some (.int .i64 b0) := (b3.cell (p := ⟨w1.heap.size, 1, none⟩) (by first | (simp; done) | (simp; omega) | omega)).trans (by first | assumption | go_simp)
    have q2 : w3.cell? ⟨w1.heap.size, 2, none⟩ = some (.int .i64 c0) := (b3.cell (p := ⟨w1.heap.size, 2, none⟩) (by first | (simp; done) | (simp; omega) | omega)).trans (by first | assumption | go_simp)
    have q3 : w3.cell? ⟨w1.heap.size, 3, none⟩ = some (.int .i64 d0) := (b3.cell (p := ⟨w1.heap.size, 3, none⟩) (by first | (simp; done) | (simp; omega) | omega)).trans (by first | assumption | go_simp)
    have hz3 : w1.heap.size < w3.heap.size := by have := b3.size; omega
    have B3 := Lib.hid (Below.step b3 B2.out.size B2.out)
    clear b3 B2 HI HS p0 p1 p2 p3
    go_wp2_with fail
    refine (HJ.out _ (HM.out.below B3.out) (HR.out.below B3.out)).mono ?_
    rintro e w4 ⟨rfl, b4⟩
    have r0 : w4.cell? ⟨w1.heap.size, 0, none⟩ = some (.int .i64 a0) := (b4.cell (p := ⟨w1.heap.size, 0, none⟩) (by first | (simp; done) | (simp; omega) | omega)).trans (by first | assumption | go_simp)
    have r1 : w4.cell? ⟨w1.heap.size, 1, none⟩ = some (.int .i64 b0) := (b4.cell (p := ⟨w1.heap.size, 1, none⟩) (by first | (simp; done) | (simp; omega) | omega)).trans (by first | assumption | go_simp)
    have r2 : w4.cell? ⟨w1.heap.size, 2, none⟩ = some (.int .i64 c0) := (b4.cell (p := ⟨w1.heap.size, 2, none⟩) (by first | (simp; done) | (simp; omega) | omega)).trans (by first | assumption | go_simp)
    have r3 : w4.cell? ⟨w1.heap.size, 3, none⟩ = some (.int .i64 d0) := (b4.cell (p := ⟨w1.heap.size, 3, none⟩) (by first | (simp; done) | (simp; omega) | omega)).trans (by first | assumption | go_simp)
    have hz4 : w1.heap.size < w4.heap.size := by have := b4.size; omega
    have B4 := Lib.hid (Below.step b4 B3.out.size B3.out)
    have B4w := Lib.hid (Below.step B4.out B1.out.size B1.out)
    clear b4 B3 q0 q1 q2 q3
    rcases hcs with ⟨c1, c2⟩ | ⟨c1, c2, c3⟩ | ⟨c1, c2, c3, c4⟩ | ⟨c1, c2, c3, c4⟩
    · have d1 : (f != 0) = true := by simpa using c1
      have d2 : (M != 0) = true := by simpa using c2
      have d3 : (M == 0) = false := beq_eq_false_iff_ne.2 c2
      clear hno hrg
      go_wp2_with (go_at_call 16; refine (alive_any _).mono ?_; rintro e w' ⟨rfl, rfl⟩)
      go_ret
      exact ⟨rfl, B4w.out⟩
    · subst c1 c3
      obtain ⟨g1, g2, _, g4, g5⟩ := hrg rfl
      clear hno hrg
      have hw : want < 0 ∨ (¬ want < 0 ∧ 7 < want) := by
        have : ¬ (0 ≤ want ∧ want ≤ 7) := fun h => by rw [inB_iffL.2 h] at c2; cases c2
        omega
      clear c2
      rcases hw with hw | ⟨hw, hw2⟩
      all_goals
        go_wp2_with (go_at_call 16; refine (alive_any _).mono ?_; rintro e w' ⟨rfl, rfl⟩)
        go_ret
        exact ⟨rfl, B4w.out⟩
    · subst c1 c4
      obtain ⟨g1, g2, _, g4, g5⟩ := hrg rfl
      obtain ⟨m, rfl⟩ : ∃ m : Nat, n = (m : Int) := ⟨n.toNat, by omega⟩
      have hm : m < t.length := by omega
      have hm' : (m : Int) < (t.length : Int) := by omega
      rw [Int.toNat_natCast] at c3
      obtain ⟨v1, v2, v3⟩ := head_in (tree_node g1 hm)
      have hmd := fun w => mayDoI_any a0 b0 c0 d0 (kth t m).ow (kth t m).gr (kth t m).mo want w g2 v1 v2 v3 c2
      rw [c3] at hmd
      have HD := Lib.hid hmd
      obtain ⟨w0, w7⟩ := inB_iffL.1 c2
      have hw1 : ¬ want < 0 := by omega
      have hw2 : ¬ 7 < want := by omega
      clear hno hrg g1 g2 v1 v2 v3 hmd c2 c3
      obtain ⟨bt, ot, nA, nC, kA, kC, rfl, hbt, _, y0, y1, y2, y3, y4, y5, y6⟩ := (HR.out.below B4.out).at_ (kth_at hm)
      go_wp2_with fail
      refine wp_region_held_drew (S := (fun w' => w'.cell? ⟨w1.heap.size, 0, none⟩ = some (.int .i64 a0) ∧ w'.cell? ⟨w1.heap.size, 1, none⟩ = some (.int .i64 b0) ∧ w'.cell? ⟨w1.heap.size, 2, none⟩ = some (.int .i64 c0) ∧ w'.cell? ⟨w1.heap.size, 3, none⟩ = some (.int .i64 d0) ∧ w'.cell? ⟨bt, ot + m * 7 + 1, none⟩ = some (.int .i64 (kth t m).ow) ∧ w'.cell? ⟨bt, ot + m * 7 + 2, none⟩ = some (.int .i64 (kth t m).gr) ∧ w'.cell? ⟨bt, ot + m * 7 + 3, none⟩ = some (.int .i64 (kth t m).mo))) (by kernel_rfl) ?_ (fun hHeld => ?_)
      · (try dsimp only)
        go_simp
      refine tkW (i := 0) (v := ?_) rfl (by kernel_rfl) (by kernel_rfl) (fun _ _ _ h => h) ?_ (by assumption) ?_; rotate_left; (focus (intro w hSw; (try dsimp only at hSw); go_simp; try with_reducible rfl))
      try simp only [Act.put, List.getElem_toArray, List.getElem_cons_succ, List.getElem_cons_zero, List.setIfInBounds_toArray, List.set_cons_zero, List.set_cons_succ]
      refine tkW (i := 1) (v := ?_) rfl (by kernel_rfl) (by kernel_rfl) (fun _ _ _ h => h) ?_ (by assumption) ?_; rotate_left; (focus (intro w hSw; (try dsimp only at hSw); go_simp; try with_reducible rfl))
      try simp only [Act.put, List.getElem_toArray, List.getElem_cons_succ, List.getElem_cons_zero, List.setIfInBounds_toArray, List.set_cons_zero, List.set_cons_succ]
      refine tkW (i := 2) (v := ?_) rfl (by kernel_rfl) (by kernel_rfl) (fun _ _ _ h => h) ?_ (by assumption) ?_; rotate_left; (focus (intro w hSw; (try dsimp only at hSw); go_simp; try with_reducible rfl))
      try simp only [Act.put, List.getElem_toArray, List.getElem_cons_succ, List.getElem_cons_zero, List.setIfInBounds_toArray, List.set_cons_zero, List.set_cons_succ]
      refine tkW (i := 3) (v := ?_) rfl (by kernel_rfl) (by kernel_rfl) (fun _ _ _ h => h) ?_ (by assumption) ?_; rotate_left; (focus (intro w hSw; (try dsimp only at hSw); go_simp; try with_reducible rfl))
      try simp only [Act.put, List.getElem_toArray, List.getElem_cons_succ, List.getElem_cons_zero, List.setIfInBounds_toArray, List.set_cons_zero, List.set_cons_succ]
      refine tkW (i := 4) (v := ?_) rfl (by kernel_rfl) (by kernel_rfl) (fun _ _ _ h => h) ?_ (by assumption) ?_; rotate_left; (focus (intro w hSw; (try dsimp only at hSw); go_simp; try with_reducible rfl))
      try simp only [Act.put, List.getElem_toArray, List.getElem_cons_succ, List.getElem_cons_zero, List.setIfInBounds_toArray, List.set_cons_zero, List.set_cons_succ]
      refine tkW (i := 5) (v := ?_) rfl (by kernel_rfl) (by kernel_rfl) (fun _ _ _ h => h) ?_ (by assumption) ?_; rotate_left; (focus (intro w hSw; (try dsimp only at hSw); go_simp; try with_reducible rfl))
      try simp only [Act.put, List.getElem_toArray, List.getElem_cons_succ, List.getElem_cons_zero, List.setIfInBounds_toArray, List.set_cons_zero, List.set_cons_succ]
      refine tkW (i := 6) (v := ?_) rfl (by kernel_rfl) (by kernel_rfl) (fun _ _ _ h => h) ?_ (by assumption) ?_; rotate_left; (focus (intro w hSw; (try dsimp only at hSw); go_simp; try with_reducible rfl))
      try simp only [Act.put, List.getElem_toArray, List.getElem_cons_succ, List.getElem_cons_zero, List.setIfInBounds_toArray, List.set_cons_zero, List.set_cons_succ]
      refine tkW (i := 7) (v := ?_) rfl (by kernel_rfl) (by kernel_rfl) (fun _ _ _ h => h) ?_ (by assumption) ?_; rotate_left; (focus (intro w hSw; (try dsimp only at hSw); go_simp; try with_reducible rfl))
      try simp only [Act.put, List.getElem_toArray, List.getElem_cons_succ, List.getElem_cons_zero, List.setIfInBounds_toArray, List.set_cons_zero, List.set_cons_succ]
      refine tkW (i := 8) (v := ?_) rfl (by kernel_rfl) (by kernel_rfl) (fun _ _ _ h => h) ?_ (by assumption) ?_; rotate_left; (focus (intro w hSw; (try dsimp only at hSw); go_simp; try with_reducible rfl))
      try simp only [Act.put, List.getElem_toArray, List.getElem_cons_succ, List.getElem_cons_zero, List.setIfInBounds_toArray, List.set_cons_zero, List.set_cons_succ]
      refine tkW (i := 9) (v := ?_) rfl (by kernel_rfl) (by kernel_rfl) (fun _ _ _ h => h) ?_ (by assumption) ?_; rotate_left; (focus (intro w hSw; (try dsimp only at hSw); go_simp; try with_reducible rfl))
      try simp only [Act.put, List.getElem_toArray, List.getElem_cons_succ, List.getElem_cons_zero, List.setIfInBounds_toArray, List.set_cons_zero, List.set_cons_succ]
      refine tkW (i := 10) (v := ?_) rfl (by kernel_rfl) (by kernel_rfl) (fun _ _ _ h => h) ?_ (by assumption) ?_; rotate_left; (focus (intro w hSw; (try dsimp only at hSw); go_simp; try with_reducible rfl))
      try simp only [Act.put, List.getElem_toArray, List.getElem_cons_succ, List.getElem_cons_zero, List.setIfInBounds_toArray, List.set_cons_zero, List.set_cons_succ]
      refine tkW (i := 11) (v := ?_) rfl (by kernel_rfl) (by kernel_rfl) (fun _ _ _ h => h) ?_ (by assumption) ?_; rotate_left; (focus (intro w hSw; (try dsimp only at hSw); go_simp; try with_reducible rfl))
      try simp only [Act.put, List.getElem_toArray, List.getElem_cons_succ, List.getElem_cons_zero, List.setIfInBounds_toArray, List.set_cons_zero, List.set_cons_succ]
      refine tkW (i := 12) (v := ?_) rfl (by kernel_rfl) (by kernel_rfl) (fun _ _ _ h => h) ?_ (by assumption) ?_; rotate_left; (focus (intro w hSw; (try dsimp only at hSw); go_simp; try with_reducible rfl))
      try simp only [Act.put, List.getElem_toArray, List.getElem_cons_succ, List.getElem_cons_zero, List.setIfInBounds_toArray, List.set_cons_zero, List.set_cons_succ]
      refine tkW (i := 13) (v := ?_) rfl (by kernel_rfl) (by kernel_rfl) (fun _ _ _ h => h) ?_ (by assumption) ?_; rotate_left; (focus (intro w hSw; (try dsimp only at hSw); go_simp; try with_reducible rfl))
      try simp only [Act.put, List.getElem_toArray, List.getElem_cons_succ, List.getElem_cons_zero, List.setIfInBounds_toArray, List.set_cons_zero, List.set_cons_succ]
      refine tkW (i := 14) (v := ?_) rfl (by kernel_rfl) (by kernel_rfl) (fun _ _ _ h => h) ?_ (by assumption) ?_; rotate_left; (focus (intro w hSw; (try dsimp only at hSw); go_simp; try with_reducible rfl))
      try simp only [Act.put, List.getElem_toArray, List.getElem_cons_succ, List.getElem_cons_zero, List.setIfInBounds_toArray, List.set_cons_zero, List.set_cons_succ]
      refine tkW (i := 15) (v := ?_) rfl (by kernel_rfl) (by kernel_rfl) (fun _ _ _ h => h) ?_ (by assumption) ?_; rotate_left; (focus (intro w hSw; (try dsimp only at hSw); go_simp; try with_reducible rfl))
      try simp only [Act.put, List.getElem_toArray, List.getElem_cons_succ, List.getElem_cons_zero, List.setIfInBounds_toArray, List.set_cons_zero, List.set_cons_succ]
      refine tkW (i := 16) (v := ?_) rfl (by kernel_rfl) (by kernel_rfl) (fun _ _ _ h => h) ?_ (by assumption) ?_; rotate_left; (focus (intro w hSw; (try dsimp only at hSw); go_simp; try with_reducible rfl))
      try simp only [Act.put, List.getElem_toArray, List.getElem_cons_succ, List.getElem_cons_zero, List.setIfInBounds_toArray, List.set_cons_zero, List.set_cons_succ]
      refine tkW (i := 17) (v := ?_) rfl (by kernel_rfl) (by kernel_rfl) (fun _ _ _ h => h) ?_ (by assumption) ?_; rotate_left; (focus (intro w hSw; (try dsimp only at hSw); go_simp; try with_reducible rfl))
      try simp only [Act.put, List.getElem_toArray, List.getElem_cons_succ, List.getElem_cons_zero, List.setIfInBounds_toArray, List.set_cons_zero, List.set_cons_succ]
      refine tkW (i := 18) (v := ?_) rfl (by kernel_rfl) (by kernel_rfl) (fun _ _ _ h => h) ?_ (by assumption) ?_; rotate_left; (focus (intro w hSw; (try dsimp only at hSw); go_simp; try with_reducible rfl))
      try simp only [Act.put, List.getElem_toArray, List.getElem_cons_succ, List.getElem_cons_zero, List.setIfInBounds_toArray, List.set_cons_zero, List.set_cons_succ]
      refine wpAnyH_ready (rs := [19]) (by kernel_rfl) (by simp) ?_
      refine AllReadyH.cons rfl (fun K hK => ?_) AllReadyH.nil
      go_simp
      (go_at_call 27; refine (HD.out _).mono ?_; rintro e w' ⟨rfl, hb⟩; obtain ⟨d4, os4, rfl⟩ := ext_of_below hb; clear hb)
      refine hK.out _ _ ?_ (fun hHeld => ?_)
      · (try dsimp only)
        go_simp
      clear hK K
      try simp only [Act.put, List.getElem_toArray, List.getElem_cons_succ, List.getElem_cons_zero, List.setIfInBounds_toArray, List.set_cons_zero, List.set_cons_succ]
      refine tkW (i := 20) (v := ?_) rfl (by kernel_rfl) (by kernel_rfl) (fun _ _ _ h => h) ?_ (by assumption) ?_; rotate_left; (focus (intro w hSw; (try dsimp only at hSw); go_simp; try with_reducible rfl))
      try simp only [Act.put, List.getElem_toArray, List.getElem_cons_succ, List.getElem_cons_zero, List.setIfInBounds_toArray, List.set_cons_zero, List.set_cons_succ]
      refine tkW (i := 21) (v := ?_) rfl (by kernel_rfl) (by kernel_rfl) (fun _ _ _ h => h) ?_ (by assumption) ?_; rotate_left; (focus (intro w hSw; (try dsimp only at hSw); go_simp; try with_reducible rfl))
      try simp only [Act.put, List.getElem_toArray, List.getElem_cons_succ, List.getElem_cons_zero, List.setIfInBounds_toArray, List.set_cons_zero, List.set_cons_succ]
      refine tkW (i := 22) (v := ?_) rfl (by kernel_rfl) (by kernel_rfl) (fun _ _ _ h => h) ?_ (by assumption) ?_; rotate_left; (focus (intro w hSw; (try dsimp only at hSw); go_simp; try with_reducible rfl))
      try simp only [Act.put, List.getElem_toArray, List.getElem_cons_succ, List.getElem_cons_zero, List.setIfInBounds_toArray, List.set_cons_zero, List.set_cons_succ]
      refine tkW (i := 23) (v := ?_) rfl (by kernel_rfl) (by kernel_rfl) (fun _ _ _ h => h) ?_ (by assumption) ?_; rotate_left; (focus (intro w hSw; (try dsimp only at hSw); go_simp; try with_reducible rfl))
      try simp only [Act.put, List.getElem_toArray, List.getElem_cons_succ, List.getElem_cons_zero, List.setIfInBounds_toArray, List.set_cons_zero, List.set_cons_succ]
      refine tkW (i := 24) (v := ?_) rfl (by kernel_rfl) (by kernel_rfl) (fun _ _ _ h => h) ?_ (by assumption) ?_; rotate_left; (focus (intro w hSw; (try dsimp only at hSw); go_simp; try with_reducible rfl))
      try simp only [Act.put, List.getElem_toArray, List.getElem_cons_succ, List.getElem_cons_zero, List.setIfInBounds_toArray, List.set_cons_zero, List.set_cons_succ]
      refine tkW (i := 25) (v := ?_) rfl (by kernel_rfl) (by kernel_rfl) (fun _ _ _ h => h) ?_ (by assumption) ?_; rotate_left; (focus (intro w hSw; (try dsimp only at hSw); go_simp; try with_reducible rfl))
      try simp only [Act.put, List.getElem_toArray, List.getElem_cons_succ, List.getElem_cons_zero, List.setIfInBounds_toArray, List.set_cons_zero, List.set_cons_succ]
      refine tkW (i := 26) (v := ?_) rfl (by kernel_rfl) (by kernel_rfl) (fun _ _ _ h => h) ?_ (by assumption) ?_; rotate_left; (focus (intro w hSw; (try dsimp only at hSw); go_simp; try with_reducible rfl))
      try simp only [Act.put, List.getElem_toArray, List.getElem_cons_succ, List.getElem_cons_zero, List.setIfInBounds_toArray, List.set_cons_zero, List.set_cons_succ]
      refine tkW (i := 27) (v := ?_) rfl (by kernel_rfl) (by kernel_rfl) (fun _ _ _ h => h) ?_ (by assumption) ?_; rotate_left; (focus (intro w hSw; (try dsimp only at hSw); go_simp; try with_reducible rfl))
      try simp only [Act.put, List.getElem_toArray, List.getElem_cons_succ, List.getElem_cons_zero, List.setIfInBounds_toArray, List.set_cons_zero, List.set_cons_succ]
      refine tkW (i := 28) (v := ?_) rfl (by kernel_rfl) (by kernel_rfl) (fun _ _ _ h => h) ?_ (by assumption) ?_; rotate_left; (focus (intro w hSw; (try dsimp only at hSw); go_simp; try with_reducible rfl))
      try simp only [Act.put, List.getElem_toArray, List.getElem_cons_succ, List.getElem_cons_zero, List.setIfInBounds_toArray, List.set_cons_zero, List.set_cons_succ]
      refine tkW (i := 29) (v := ?_) rfl (by kernel_rfl) (by kernel_rfl) (fun _ _ _ h => h) ?_ (by assumption) ?_; rotate_left; (focus (intro w hSw; (try dsimp only at hSw); go_simp; try with_reducible rfl))
      try simp only [Act.put, List.getElem_toArray, List.getElem_cons_succ, List.getElem_cons_zero, List.setIfInBounds_toArray, List.set_cons_zero, List.set_cons_succ]
      refine wpAnyH_done (by kernel_rfl) ?_ _
      go_wp2
      go_ret
      exact ⟨rfl, Below.step (show Below w4.heap.size w4 _ from (by (repeat (first | exact Below.refl _ _ | exact Hbl.out | refine Below.ext ?_ (by first | omega | (simp; omega) | simp) | refine Below.setCell ?_ (by first | omega | (simp; omega) | simp) _ | refine Below.alloc ?_ (by first | omega | (simp; omega) | simp) _ | refine Below.drew ?_ | refine below_drewN ?_ _ | refine Below.step (by assumption) (by first | omega | (simp; omega) | simp) ?_)))) B4w.out.size B4w.out⟩
    · subst c1 c4
      obtain ⟨g1, g2, _, g4, g5⟩ := hrg rfl
      obtain ⟨m, rfl⟩ : ∃ m : Nat, n = (m : Int) := ⟨n.toNat, by omega⟩
      have hm : m < t.length := by omega
      have hm' : (m : Int) < (t.length : Int) := by omega
      rw [Int.toNat_natCast] at c3
      obtain ⟨v1, v2, v3⟩ := head_in (tree_node g1 hm)
      have hmd := fun w => mayDoI_any a0 b0 c0 d0 (kth t m).ow (kth t m).gr (kth t m).mo want w g2 v1 v2 v3 c2
      rw [c3] at hmd
      have HD := Lib.hid hmd
      obtain ⟨w0, w7⟩ := inB_iffL.1 c2
      have hw1 : ¬ want < 0 := by omega
      have hw2 : ¬ 7 < want := by omega
      clear hno hrg g1 g2 v1 v2 v3 hmd c2 c3
      obtain ⟨bt, ot, nA, nC, kA, kC, rfl, hbt, _, y0, y1, y2, y3, y4, y5, y6⟩ := (HR.out.below B4.out).at_ (kth_at hm)
      go_wp2_with fail
      refine wp_region_held_drew (S := (fun w' => w'.cell? ⟨w1.heap.size, 0, none⟩ = some (.int .i64 a0) ∧ w'.cell? ⟨w1.heap.size, 1, none⟩ = some (.int .i64 b0) ∧ w'.cell? ⟨w1.heap.size, 2, none⟩ = some (.int .i64 c0) ∧ w'.cell? ⟨w1.heap.size, 3, none⟩ = some (.int .i64 d0) ∧ w'.cell? ⟨bt, ot + m * 7 + 1, none⟩ = some (.int .i64 (kth t m).ow) ∧ w'.cell? ⟨bt, ot + m * 7 + 2, none⟩ = some (.int .i64 (kth t m).gr) ∧ w'.cell? ⟨bt, ot + m * 7 + 3, none⟩ = some (.int .i64 (kth t m).mo))) (by kernel_rfl) ?_ (fun hHeld => ?_)
      · (try dsimp only)
        go_simp
      refine tkW (i := 0) (v := ?_) rfl (by kernel_rfl) (by kernel_rfl) (fun _ _ _ h => h) ?_ (by assumption) ?_; rotate_left; (focus (intro w hSw; (try dsimp only at hSw); go_simp; try with_reducible rfl))
      try simp only [Act.put, List.getElem_toArray, List.getElem_cons_succ, List.getElem_cons_zero, List.setIfInBounds_toArray, List.set_cons_zero, List.set_cons_succ]
      refine tkW (i := 1) (v := ?_) rfl (by kernel_rfl) (by kernel_rfl) (fun _ _ _ h => h) ?_ (by assumption) ?_; rotate_left; (focus (intro w hSw; (try dsimp only at hSw); go_simp; try with_reducible rfl))
      try simp only [Act.put, List.getElem_toArray, List.getElem_cons_succ, List.getElem_cons_zero, List.setIfInBounds_toArray, List.set_cons_zero, List.set_cons_succ]
      refine tkW (i := 2) (v := ?_) rfl (by kernel_rfl) (by kernel_rfl) (fun _ _ _ h => h) ?_ (by assumption) ?_; rotate_left; (focus (intro w hSw; (try dsimp only at hSw); go_simp; try with_reducible rfl))
      try simp only [Act.put, List.getElem_toArray, List.getElem_cons_succ, List.getElem_cons_zero, List.setIfInBounds_toArray, List.set_cons_zero, List.set_cons_succ]
      refine tkW (i := 3) (v := ?_) rfl (by kernel_rfl) (by kernel_rfl) (fun _ _ _ h => h) ?_ (by assumption) ?_; rotate_left; (focus (intro w hSw; (try dsimp only at hSw); go_simp; try with_reducible rfl))
      try simp only [Act.put, List.getElem_toArray, List.getElem_cons_succ, List.getElem_cons_zero, List.setIfInBounds_toArray, List.set_cons_zero, List.set_cons_succ]
      refine tkW (i := 4) (v := ?_) rfl (by kernel_rfl) (by kernel_rfl) (fun _ _ _ h => h) ?_ (by assumption) ?_; rotate_left; (focus (intro w hSw; (try dsimp only at hSw); go_simp; try with_reducible rfl))
      try simp only [Act.put, List.getElem_toArray, List.getElem_cons_succ, List.getElem_cons_zero, List.setIfInBounds_toArray, List.set_cons_zero, List.set_cons_succ]
      refine tkW (i := 5) (v := ?_) rfl (by kernel_rfl) (by kernel_rfl) (fun _ _ _ h => h) ?_ (by assumption) ?_; rotate_left; (focus (intro w hSw; (try dsimp only at hSw); go_simp; try with_reducible rfl))
      try simp only [Act.put, List.getElem_toArray, List.getElem_cons_succ, List.getElem_cons_zero, List.setIfInBounds_toArray, List.set_cons_zero, List.set_cons_succ]
      refine tkW (i := 6) (v := ?_) rfl (by kernel_rfl) (by kernel_rfl) (fun _ _ _ h => h) ?_ (by assumption) ?_; rotate_left; (focus (intro w hSw; (try dsimp only at hSw); go_simp; try with_reducible rfl))
      try simp only [Act.put, List.getElem_toArray, List.getElem_cons_succ, List.getElem_cons_zero, List.setIfInBounds_toArray, List.set_cons_zero, List.set_cons_succ]
      refine tkW (i := 7) (v := ?_) rfl (by kernel_rfl) (by kernel_rfl) (fun _ _ _ h => h) ?_ (by assumption) ?_; rotate_left; (focus (intro w hSw; (try dsimp only at hSw); go_simp; try with_reducible rfl))
      try simp only [Act.put, List.getElem_toArray, List.getElem_cons_succ, List.getElem_cons_zero, List.setIfInBounds_toArray, List.set_cons_zero, List.set_cons_succ]
      refine tkW (i := 8) (v := ?_) rfl (by kernel_rfl) (by kernel_rfl) (fun _ _ _ h => h) ?_ (by assumption) ?_; rotate_left; (focus (intro w hSw; (try dsimp only at hSw); go_simp; try with_reducible rfl))
      try simp only [Act.put, List.getElem_toArray, List.getElem_cons_succ, List.getElem_cons_zero, List.setIfInBounds_toArray, List.set_cons_zero, List.set_cons_succ]
      refine tkW (i := 9) (v := ?_) rfl (by kernel_rfl) (by kernel_rfl) (fun _ _ _ h => h) ?_ (by assumption) ?_; rotate_left; (focus (intro w hSw; (try dsimp only at hSw); go_simp; try with_reducible rfl))
      try simp only [Act.put, List.getElem_toArray, List.getElem_cons_succ, List.getElem_cons_zero, List.setIfInBounds_toArray, List.set_cons_zero, List.set_cons_succ]
      refine tkW (i := 10) (v := ?_) rfl (by kernel_rfl) (by kernel_rfl) (fun _ _ _ h => h) ?_ (by assumption) ?_; rotate_left; (focus (intro w hSw; (try dsimp only at hSw); go_simp; try with_reducible rfl))
      try simp only [Act.put, List.getElem_toArray, List.getElem_cons_succ, List.getElem_cons_zero, List.setIfInBounds_toArray, List.set_cons_zero, List.set_cons_succ]
      refine tkW (i := 11) (v := ?_) rfl (by kernel_rfl) (by kernel_rfl) (fun _ _ _ h => h) ?_ (by assumption) ?_; rotate_left; (focus (intro w hSw; (try dsimp only at hSw); go_simp; try with_reducible rfl))
      try simp only [Act.put, List.getElem_toArray, List.getElem_cons_succ, List.getElem_cons_zero, List.setIfInBounds_toArray, List.set_cons_zero, List.set_cons_succ]
      refine tkW (i := 12) (v := ?_) rfl (by kernel_rfl) (by kernel_rfl) (fun _ _ _ h => h) ?_ (by assumption) ?_; rotate_left; (focus (intro w hSw; (try dsimp only at hSw); go_simp; try with_reducible rfl))
      try simp only [Act.put, List.getElem_toArray, List.getElem_cons_succ, List.getElem_cons_zero, List.setIfInBounds_toArray, List.set_cons_zero, List.set_cons_succ]
      refine tkW (i := 13) (v := ?_) rfl (by kernel_rfl) (by kernel_rfl) (fun _ _ _ h => h) ?_ (by assumption) ?_; rotate_left; (focus (intro w hSw; (try dsimp only at hSw); go_simp; try with_reducible rfl))
      try simp only [Act.put, List.getElem_toArray, List.getElem_cons_succ, List.getElem_cons_zero, List.setIfInBounds_toArray, List.set_cons_zero, List.set_cons_succ]
      refine tkW (i := 14) (v := ?_) rfl (by kernel_rfl) (by kernel_rfl) (fun _ _ _ h => h) ?_ (by assumption) ?_; rotate_left; (focus (intro w hSw; (try dsimp only at hSw); go_simp; try with_reducible rfl))
      try simp only [Act.put, List.getElem_toArray, List.getElem_cons_succ, List.getElem_cons_zero, List.setIfInBounds_toArray, List.set_cons_zero, List.set_cons_succ]
      refine tkW (i := 15) (v := ?_) rfl (by kernel_rfl) (by kernel_rfl) (fun _ _ _ h => h) ?_ (by assumption) ?_; rotate_left; (focus (intro w hSw; (try dsimp only at hSw); go_simp; try with_reducible rfl))
      try simp only [Act.put, List.getElem_toArray, List.getElem_cons_succ, List.getElem_cons_zero, List.setIfInBounds_toArray, List.set_cons_zero, List.set_cons_succ]
      refine tkW (i := 16) (v := ?_) rfl (by kernel_rfl) (by kernel_rfl) (fun _ _ _ h => h) ?_ (by assumption) ?_; rotate_left; (focus (intro w hSw; (try dsimp only at hSw); go_simp; try with_reducible rfl))
      try simp only [Act.put, List.getElem_toArray, List.getElem_cons_succ, List.getElem_cons_zero, List.setIfInBounds_toArray, List.set_cons_zero, List.set_cons_succ]
      refine tkW (i := 17) (v := ?_) rfl (by kernel_rfl) (by kernel_rfl) (fun _ _ _ h => h) ?_ (by assumption) ?_; rotate_left; (focus (intro w hSw; (try dsimp only at hSw); go_simp; try with_reducible rfl))
      try simp only [Act.put, List.getElem_toArray, List.getElem_cons_succ, List.getElem_cons_zero, List.setIfInBounds_toArray, List.set_cons_zero, List.set_cons_succ]
      refine tkW (i := 18) (v := ?_) rfl (by kernel_rfl) (by kernel_rfl) (fun _ _ _ h => h) ?_ (by assumption) ?_; rotate_left; (focus (intro w hSw; (try dsimp only at hSw); go_simp; try with_reducible rfl))
      try simp only [Act.put, List.getElem_toArray, List.getElem_cons_succ, List.getElem_cons_zero, List.setIfInBounds_toArray, List.set_cons_zero, List.set_cons_succ]
      refine wpAnyH_ready (rs := [19]) (by kernel_rfl) (by simp) ?_
      refine AllReadyH.cons rfl (fun K hK => ?_) AllReadyH.nil
      go_simp
      (go_at_call 27; refine (HD.out _).mono ?_; rintro e w' ⟨rfl, hb⟩; obtain ⟨d4, os4, rfl⟩ := ext_of_below hb; clear hb)
      refine hK.out _ _ ?_ (fun hHeld => ?_)
      · (try dsimp only)
        go_simp
      clear hK K
      try simp only [Act.put, List.getElem_toArray, List.getElem_cons_succ, List.getElem_cons_zero, List.setIfInBounds_toArray, List.set_cons_zero, List.set_cons_succ]
      refine tkW (i := 20) (v := ?_) rfl (by kernel_rfl) (by kernel_rfl) (fun _ _ _ h => h) ?_ (by assumption) ?_; rotate_left; (focus (intro w hSw; (try dsimp only at hSw); go_simp; try with_reducible rfl))
      try simp only [Act.put, List.getElem_toArray, List.getElem_cons_succ, List.getElem_cons_zero, List.setIfInBounds_toArray, List.set_cons_zero, List.set_cons_succ]
      refine tkW (i := 21) (v := ?_) rfl (by kernel_rfl) (by kernel_rfl) (fun _ _ _ h => h) ?_ (by assumption) ?_; rotate_left; (focus (intro w hSw; (try dsimp only at hSw); go_simp; try with_reducible rfl))
      try simp only [Act.put, List.getElem_toArray, List.getElem_cons_succ, List.getElem_cons_zero, List.setIfInBounds_toArray, List.set_cons_zero, List.set_cons_succ]
      refine tkW (i := 22) (v := ?_) rfl (by kernel_rfl) (by kernel_rfl) (fun _ _ _ h => h) ?_ (by assumption) ?_; rotate_left; (focus (intro w hSw; (try dsimp only at hSw); go_simp; try with_reducible rfl))
      try simp only [Act.put, List.getElem_toArray, List.getElem_cons_succ, List.getElem_cons_zero, List.setIfInBounds_toArray, List.set_cons_zero, List.set_cons_succ]
      refine tkW (i := 23) (v := ?_) rfl (by kernel_rfl) (by kernel_rfl) (fun _ _ _ h => h) ?_ (by assumption) ?_; rotate_left; (focus (intro w hSw; (try dsimp only at hSw); go_simp; try with_reducible rfl))
      try simp only [Act.put, List.getElem_toArray, List.getElem_cons_succ, List.getElem_cons_zero, List.setIfInBounds_toArray, List.set_cons_zero, List.set_cons_succ]
      refine tkW (i := 24) (v := ?_) rfl (by kernel_rfl) (by kernel_rfl) (fun _ _ _ h => h) ?_ (by assumption) ?_; rotate_left; (focus (intro w hSw; (try dsimp only at hSw); go_simp; try with_reducible rfl))
      try simp only [Act.put, List.getElem_toArray, List.getElem_cons_succ, List.getElem_cons_zero, List.setIfInBounds_toArray, List.set_cons_zero, List.set_cons_succ]
      refine tkN (i := 25) rfl (by kernel_rfl) (by kernel_rfl) (fun _ _ _ h => h) (by assumption) ?_
      try simp only [Act.put, List.getElem_toArray, List.getElem_cons_succ, List.getElem_cons_zero, List.setIfInBounds_toArray, List.set_cons_zero, List.set_cons_succ]
      refine tkN (i := 26) rfl (by kernel_rfl) (by kernel_rfl) (fun _ _ _ h => h) (by assumption) ?_
      try simp only [Act.put, List.getElem_toArray, List.getElem_cons_succ, List.getElem_cons_zero, List.setIfInBounds_toArray, List.set_cons_zero, List.set_cons_succ]
      refine tkW (i := 27) (v := ?_) rfl (by kernel_rfl) (by kernel_rfl) (fun _ _ _ h => h) ?_ (by assumption) ?_; rotate_left; (focus (intro w hSw; (try dsimp only at hSw); go_simp; try with_reducible rfl))
      try simp only [Act.put, List.getElem_toArray, List.getElem_cons_succ, List.getElem_cons_zero, List.setIfInBounds_toArray, List.set_cons_zero, List.set_cons_succ]
      refine tkW (i := 28) (v := ?_) rfl (by kernel_rfl) (by kernel_rfl) (fun _ _ _ h => h) ?_ (by assumption) ?_; rotate_left; (focus (intro w hSw; (try dsimp only at hSw); go_simp; try with_reducible rfl))
      try simp only [Act.put, List.getElem_toArray, List.getElem_cons_succ, List.getElem_cons_zero, List.setIfInBounds_toArray, List.set_cons_zero, List.set_cons_succ]
      refine tkW (i := 29) (v := ?_) rfl (by kernel_rfl) (by kernel_rfl) (fun _ _ _ h => h) ?_ (by assumption) ?_; rotate_left; (focus (intro w hSw; (try dsimp only at hSw); go_simp; try with_reducible rfl))
      try simp only [Act.put, List.getElem_toArray, List.getElem_cons_succ, List.getElem_cons_zero, List.setIfInBounds_toArray, List.set_cons_zero, List.set_cons_succ]
      refine wpAnyH_done (by kernel_rfl) ?_ _
      go_wp2
      go_ret
      exact ⟨rfl, Below.step (show Below w4.heap.size w4 _ from (by (repeat (first | exact Below.refl _ _ | exact Hbl.out | refine Below.ext ?_ (by first | omega | (simp; omega) | simp) | refine Below.setCell ?_ (by first | omega | (simp; omega) | simp) _ | refine Below.alloc ?_ (by first | omega | (simp; omega) | simp) _ | refine Below.drew ?_ | refine below_drewN ?_ _ | refine Below.step (by assumption) (by first | omega | (simp; omega) | simp) ?_)))) B4w.out.size B4w.out⟩
end Go.Proofs.YthfneaaenlgegaaDoor
