/- The exact law on NotesOf: the walk. -/
import Derived.Test.YtlanbgpmmlnehaaMarkN
import Derived.Test.YtlanbgpmmlnehaaNotF
import Derived.Test.YtlanbgpmmlnehaaNotS
import Derived.Deep.RegionHeld3
set_option linter.unusedSimpArgs false
set_option linter.unusedVariables false
set_option linter.unusedSectionVars false
namespace Go.Proofs.Ytlanbgpmmlnehaa
open Go.RowKit

theorem rowF_sl4 {B : Nat} {w : World} {v : Value} {l : List T4} (h : RowF EN B w v l) : Sl4 w v l := sl4_of (rowF_sl h)
theorem notes_short (next : Int) (l : List T4) (who : Int) (f : Bool) : (notesF next l who f).length ≤ 1000 := by
  unfold notesF
  split
  · next h =>
    obtain ⟨_, _, k3, _⟩ := audB_all h
    exact Nat.le_trans (List.length_filter_le _ _) (by omega)
  · simp
set_option maxHeartbeats 1000000 in
theorem markAudit_of (B : Nat) (v : Value) (next : Int) (l : List T4) (w : World) (h0 : RowF EN B w v l) (hm : l.length ≤ 1048576) : Calls Try.prog 36 #[.agg #[v, .int .i64 next], .int .i64 1] w fun e w' => e = .returned (.int .i64 (1 + 4 * (l.length : Int))) ∧ RowF EN B w' v (mkL l.length) ∧ w.grownBy w' v.ownBlock := by
  go_enter Try.func36, Try.ntmps36
  go_wp2_with fail
  refine (markN_of B v l _ (rowF_below h0 (Below.alloc (Below.refl _ _) (Nat.le_refl _) _)) hm).mono ?_
  rintro e w' ⟨rfl, o, g⟩
  go_wp2
  go_ret
  exact ⟨rfl, o, Lib.grownBy_trans (World.grownBy_alloc _ _ _) g⟩
set_option maxHeartbeats 4000000 in
theorem walkFnExactNotesOf (v : Value) (next : Int) (l : List T4) (who : Int) (f : Bool) (w : World) (h0 : Sl4 w v l) (hx : Txt l) (_hw : (Lit.int .i64 who).wf = true) :
    Calls Try.prog 9 #[.agg #[v, .int .i64 next], .int .i64 who, .bool f] w fun e w' => e = .returned (.bool true) ∧ Below w.heap.size w w' := by
  have b0 : Below w.heap.size w (w.alloc (.cells #[v, .int .i64 next] 55)) := Below.alloc (Below.refl _ _) (Nat.le_refl _) _
  have hs := notes_short next l who f
  obtain ⟨R, hR⟩ : ∃ R, R = notesF next l who f := ⟨_, rfl⟩
  rw [← hR] at hs
  have HR := Lib.hid hR
  clear hR
  go_enter Try.func9, Try.ntmps9
  go_wp2_with fail
  refine (szAudit_of v next l _ _ (h0.below b0) hx (by decide) (by decide)).mono ?_
  rintro e w1 ⟨⟨r, rfl, r0, r1⟩, b1⟩
  have c1 := Below.step b1 b0.size b0
  have z1 : w.heap.size < w1.heap.size := by have := b1.size; simp at this; omega
  have g0 : w1.cell? ⟨w.heap.size, 0, none⟩ = some v := (b1.cell (p := ⟨w.heap.size, 0, none⟩) (by simp)).trans (by simp [go_sem])
  have g1 : w1.cell? ⟨w.heap.size, 1, none⟩ = some (.int .i64 next) := (b1.cell (p := ⟨w.heap.size, 1, none⟩) (by simp)).trans (by simp [go_sem])
  by_cases hr : r < 0
  · go_wp2
    go_ret
    exact ⟨rfl, c1⟩
  · have hm : l.length ≤ 1048576 := by have := r1 (by omega); omega
    have hk : ¬ (1 : Int) + 4 * (l.length : Int) < 0 := by omega
    have hq : ¬ (1 : Int) + 4 * (R.length : Int) < 0 := by omega
    clear r1 b1
    go_wp2_with fail
    refine (toAudit_of v next l _ (h0.below c1) hm).mono ?_
    rintro e w2 ⟨x2, rfl, o2, b2⟩
    have c2 := Below.step b2 c1.size c1
    replace g0 : w2.cell? ⟨w.heap.size, 0, none⟩ = some (v) := (b2.cell (p := ⟨w.heap.size, 0, none⟩) (show w.heap.size < w1.heap.size by omega)).trans g0
    replace g1 : w2.cell? ⟨w.heap.size, 1, none⟩ = some (.int .i64 next) := (b2.cell (p := ⟨w.heap.size, 1, none⟩) (show w.heap.size < w1.heap.size by omega)).trans g1
    have z2 : w1.heap.size ≤ w2.heap.size := b2.size
    have P_2 := rowF_own4 o2
    clear o2
    go_wp2_with fail
    refine (notesS_of _ next l who f _ (rowF_sl P_2) hx hm).mono ?_
    rintro e w3 ⟨vW, rfl, o3, b3⟩
    have c3 := Below.step b3 c2.size c2
    have P_3 := rowF_below P_2 b3
    replace g0 : w3.cell? ⟨w.heap.size, 0, none⟩ = some (v) := (b3.cell (p := ⟨w.heap.size, 0, none⟩) (show w.heap.size < w2.heap.size by omega)).trans g0
    replace g1 : w3.cell? ⟨w.heap.size, 1, none⟩ = some (.int .i64 next) := (b3.cell (p := ⟨w.heap.size, 1, none⟩) (show w.heap.size < w2.heap.size by omega)).trans g1
    have z3 : w2.heap.size ≤ w3.heap.size := b3.size
    rw [← HR.out] at o3
    have W_3 := rowF_own o3
    clear o3 P_2 P_3
    go_wp2_with fail
    refine (toAudit_of v next l _ (h0.below c3) hm).mono ?_
    rintro e w4 ⟨x4, rfl, o4, b4⟩
    have c4 := Below.step b4 c3.size c3
    have W_4 := rowF_below W_3 b4
    replace g0 : w4.cell? ⟨w.heap.size, 0, none⟩ = some (v) := (b4.cell (p := ⟨w.heap.size, 0, none⟩) (show w.heap.size < w3.heap.size by omega)).trans g0
    replace g1 : w4.cell? ⟨w.heap.size, 1, none⟩ = some (.int .i64 next) := (b4.cell (p := ⟨w.heap.size, 1, none⟩) (show w.heap.size < w3.heap.size by omega)).trans g1
    have z4 : w3.heap.size ≤ w4.heap.size := b4.size
    have X_4 := rowF_own4 o4
    obtain ⟨A4, k4, rfl⟩ := own4_shape o4
    clear o4
    obtain ⟨w5, hw5⟩ : ∃ w5, w5 = w4.alloc (.cells #[(.slice A4 l.length k4), .int .i64 next] 39) := ⟨_, rfl⟩
    have b5 : Below w4.heap.size w4 w5 := by rw [hw5]; exact Below.alloc (Below.refl _ _) (Nat.le_refl _) _
    have x0 : w5.cell? ⟨w4.heap.size, 0, none⟩ = some (.slice A4 l.length k4) := by rw [hw5]; simp [go_sem]
    have x1 : w5.cell? ⟨w4.heap.size, 1, none⟩ = some (.int .i64 next) := by rw [hw5]; simp [go_sem]
    have zz5 : w5.heap.size = w4.heap.size + 1 := by rw [hw5]; simp
    have HW5 := Lib.hid hw5
    clear hw5
    have c5 := Below.step b5 c4.size c4
    have W_5 := rowF_below W_4 b5
    have X_5 := rowF_below X_4 b5
    replace g0 : w5.cell? ⟨w.heap.size, 0, none⟩ = some (v) := (b5.cell (p := ⟨w.heap.size, 0, none⟩) (show w.heap.size < w4.heap.size by omega)).trans g0
    replace g1 : w5.cell? ⟨w.heap.size, 1, none⟩ = some (.int .i64 next) := (b5.cell (p := ⟨w.heap.size, 1, none⟩) (show w.heap.size < w4.heap.size by omega)).trans g1
    have z5 : w4.heap.size ≤ w5.heap.size := b5.size
    have hap1 := (rowF_apart W_3 X_4 (Nat.le_refl _)).1
    go_wp2_with fail
    rw [← HW5.out]
    refine (notesI_of _ next l who f _ (rowF_sl X_5) hx).mono ?_
    rintro e w6 ⟨vG, rfl, o6, b6⟩
    have c6 := Below.step b6 c5.size c5
    have W_6 := rowF_below W_5 b6
    have X_6 := rowF_below X_5 b6
    replace g0 : w6.cell? ⟨w.heap.size, 0, none⟩ = some (v) := (b6.cell (p := ⟨w.heap.size, 0, none⟩) (show w.heap.size < w5.heap.size by omega)).trans g0
    replace g1 : w6.cell? ⟨w.heap.size, 1, none⟩ = some (.int .i64 next) := (b6.cell (p := ⟨w.heap.size, 1, none⟩) (show w.heap.size < w5.heap.size by omega)).trans g1
    replace x0 : w6.cell? ⟨w4.heap.size, 0, none⟩ = some (.slice A4 l.length k4) := (b6.cell (p := ⟨w4.heap.size, 0, none⟩) (show w4.heap.size < w5.heap.size by omega)).trans x0
    replace x1 : w6.cell? ⟨w4.heap.size, 1, none⟩ = some (.int .i64 next) := (b6.cell (p := ⟨w4.heap.size, 1, none⟩) (show w4.heap.size < w5.heap.size by omega)).trans x1
    have z6 : w5.heap.size ≤ w6.heap.size := b6.size
    rw [← HR.out] at o6
    have G_6 := o6
    clear o6
    have hap2 := (rowF_apart X_5 G_6 (Nat.le_refl _)).2
    have hap3 := (rowF_apart W_5 G_6 (Nat.le_refl _)).1
    go_wp2_with fail
    refine (eqNoteS_of _ _ R _ (rowF_sl4 G_6) (rowF_sl4 W_6)).mono ?_
    rintro e w7 ⟨rfl, b7⟩
    have c7 := Below.step b7 c6.size c6
    have W_7 := rowF_below W_6 b7
    have X_7 := rowF_below X_6 b7
    have G_7 := rowF_below G_6 b7
    replace g0 : w7.cell? ⟨w.heap.size, 0, none⟩ = some (v) := (b7.cell (p := ⟨w.heap.size, 0, none⟩) (show w.heap.size < w6.heap.size by omega)).trans g0
    replace g1 : w7.cell? ⟨w.heap.size, 1, none⟩ = some (.int .i64 next) := (b7.cell (p := ⟨w.heap.size, 1, none⟩) (show w.heap.size < w6.heap.size by omega)).trans g1
    replace x0 : w7.cell? ⟨w4.heap.size, 0, none⟩ = some (.slice A4 l.length k4) := (b7.cell (p := ⟨w4.heap.size, 0, none⟩) (show w4.heap.size < w6.heap.size by omega)).trans x0
    replace x1 : w7.cell? ⟨w4.heap.size, 1, none⟩ = some (.int .i64 next) := (b7.cell (p := ⟨w4.heap.size, 1, none⟩) (show w4.heap.size < w6.heap.size by omega)).trans x1
    have z7 : w6.heap.size ≤ w7.heap.size := b7.size
    have X7 := Lib.hid (rowF_sl4 X_7)
    have H7 := Lib.hid (h0.below c7)
    go_wp2_with fail
    go_region_held3 (fun w' => w'.cell? ⟨w4.heap.size, 0, none⟩ = some (.slice A4 l.length k4) ∧ w'.cell? ⟨w4.heap.size, 1, none⟩ = some (.int .i64 next) ∧ w'.cell? ⟨w.heap.size, 0, none⟩ = some v ∧ w'.cell? ⟨w.heap.size, 1, none⟩ = some (.int .i64 next)) (go_simp) (first | (go_at_call 33; refine (toAudit_of v next l _ ?_ hm).mono ?_; (focus (exact H7.out)); rintro e w' ⟨x8, rfl, o8, b8⟩; have O8 := Lib.hid (own4_sl o8); clear o8; obtain ⟨d1, os1, rfl⟩ := ext_of_below b8; clear b8) | (go_at_call 35; refine (eqAudit_of _ _ next l _ ?_ ?_).mono ?_; (focus (exact Sl4.below X7.out (by (repeat (first | exact Below.refl _ _ | exact Hbl.out | refine Below.ext ?_ (by first | omega | (simp; omega) | simp) | refine Below.setCell ?_ (by first | omega | (simp; omega) | simp) _ | refine Below.alloc ?_ (by first | omega | (simp; omega) | simp) _ | refine Below.drew ?_ | refine below_drewN ?_ _ | refine Below.step (by assumption) (by first | omega | (simp; omega) | simp) ?_))))); (focus (exact O8.out)); rintro e w' ⟨rfl, b9⟩; obtain ⟨d9, os9, rfl⟩ := ext_of_below b9; clear b9))
    obtain ⟨w8, hw8⟩ : ∃ w8, w8 = ext w7 d9 (os1 ++ os9) := ⟨_, rfl⟩
    have b8 : Below w7.heap.size w7 w8 := by rw [hw8]; exact below_ext _ _ _
    rw [← hw8]
    clear hw8
    have c8 := Below.step b8 c7.size c7
    have W_8 := rowF_below W_7 b8
    have X_8 := rowF_below X_7 b8
    have G_8 := rowF_below G_7 b8
    replace g0 : w8.cell? ⟨w.heap.size, 0, none⟩ = some (v) := (b8.cell (p := ⟨w.heap.size, 0, none⟩) (show w.heap.size < w7.heap.size by omega)).trans g0
    replace g1 : w8.cell? ⟨w.heap.size, 1, none⟩ = some (.int .i64 next) := (b8.cell (p := ⟨w.heap.size, 1, none⟩) (show w.heap.size < w7.heap.size by omega)).trans g1
    replace x0 : w8.cell? ⟨w4.heap.size, 0, none⟩ = some (.slice A4 l.length k4) := (b8.cell (p := ⟨w4.heap.size, 0, none⟩) (show w4.heap.size < w7.heap.size by omega)).trans x0
    replace x1 : w8.cell? ⟨w4.heap.size, 1, none⟩ = some (.int .i64 next) := (b8.cell (p := ⟨w4.heap.size, 1, none⟩) (show w4.heap.size < w7.heap.size by omega)).trans x1
    have z8 : w7.heap.size ≤ w8.heap.size := b8.size
    have hblk : ∀ j, (Value.slice A4 l.length k4).ownBlock = some j → w3.heap.size ≤ j ∧ j ≠ w4.heap.size := fun j hj => ⟨(rowF_blk X_8 j hj).1, by have := (rowF_blk X_4 j hj).2; omega⟩
    go_wp2_with fail
    refine (markAudit_of _ _ next l _ X_8 hm).mono ?_
    rintro e w9 ⟨rfl, o9, g9⟩
    have c9 := c8.grown g9 c8.size (fun j hj => by have := (hblk j hj).1; omega)
    have W_9 := rowF_kept W_8 g9 hap1
    have G_9 := rowF_kept G_8 g9 hap2
    have z9 : w8.heap.size ≤ w9.heap.size := g9.size
    replace g0 : w9.cell? ⟨w.heap.size, 0, none⟩ = some (v) := (g9.cell_far ⟨w.heap.size, 0, none⟩ (show w.heap.size < w8.heap.size by omega) (fun e => by have := hblk (w.heap.size) e.symm; omega)).trans g0
    replace g1 : w9.cell? ⟨w.heap.size, 1, none⟩ = some (.int .i64 next) := (g9.cell_far ⟨w.heap.size, 1, none⟩ (show w.heap.size < w8.heap.size by omega) (fun e => by have := hblk (w.heap.size) e.symm; omega)).trans g1
    replace x0 : w9.cell? ⟨w4.heap.size, 0, none⟩ = some (.slice A4 l.length k4) := (g9.cell_far ⟨w4.heap.size, 0, none⟩ (show w4.heap.size < w8.heap.size by omega) (fun e => by have := hblk (w4.heap.size) e.symm; omega)).trans x0
    replace x1 : w9.cell? ⟨w4.heap.size, 1, none⟩ = some (.int .i64 next) := (g9.cell_far ⟨w4.heap.size, 1, none⟩ (show w4.heap.size < w8.heap.size by omega) (fun e => by have := hblk (w4.heap.size) e.symm; omega)).trans x1
    clear o9
    go_wp2_with fail
    refine (eqNoteS_of _ _ R _ (rowF_sl4 G_9) (rowF_sl4 W_9)).mono ?_
    rintro e w10 ⟨rfl, b10⟩
    have c10 := Below.step b10 c9.size c9
    have W_10 := rowF_below W_9 b10
    have G_10 := rowF_below G_9 b10
    replace g0 : w10.cell? ⟨w.heap.size, 0, none⟩ = some (v) := (b10.cell (p := ⟨w.heap.size, 0, none⟩) (show w.heap.size < w9.heap.size by omega)).trans g0
    replace g1 : w10.cell? ⟨w.heap.size, 1, none⟩ = some (.int .i64 next) := (b10.cell (p := ⟨w.heap.size, 1, none⟩) (show w.heap.size < w9.heap.size by omega)).trans g1
    have z10 : w9.heap.size ≤ w10.heap.size := b10.size
    have hblk : ∀ j, vG.ownBlock = some j → w5.heap.size ≤ j := fun j hj => (rowF_blk G_10 j hj).1
    go_wp2_with fail
    refine (markN_of _ _ R _ G_10 (by omega)).mono ?_
    rintro e w11 ⟨rfl, o11, g11⟩
    have c11 := c10.grown g11 c10.size (fun j hj => by have := hblk j hj; omega)
    have W_11 := rowF_kept W_10 g11 hap3
    have z11 : w10.heap.size ≤ w11.heap.size := g11.size
    replace g0 : w11.cell? ⟨w.heap.size, 0, none⟩ = some (v) := (g11.cell_far ⟨w.heap.size, 0, none⟩ (show w.heap.size < w10.heap.size by omega) (fun e => by have := hblk (w.heap.size) e.symm; omega)).trans g0
    replace g1 : w11.cell? ⟨w.heap.size, 1, none⟩ = some (.int .i64 next) := (g11.cell_far ⟨w.heap.size, 1, none⟩ (show w.heap.size < w10.heap.size by omega) (fun e => by have := hblk (w.heap.size) e.symm; omega)).trans g1
    have G_11 := o11
    clear o11
    go_wp2_with fail
    refine (heldN_of _ R.length _ (rowF_sl G_11) (by omega)).mono ?_
    rintro e w12 ⟨rfl, b12⟩
    have c12 := Below.step b12 c11.size c11
    have W_12 := rowF_below W_11 b12
    have G_12 := rowF_below G_11 b12
    replace g0 : w12.cell? ⟨w.heap.size, 0, none⟩ = some (v) := (b12.cell (p := ⟨w.heap.size, 0, none⟩) (show w.heap.size < w11.heap.size by omega)).trans g0
    replace g1 : w12.cell? ⟨w.heap.size, 1, none⟩ = some (.int .i64 next) := (b12.cell (p := ⟨w.heap.size, 1, none⟩) (show w.heap.size < w11.heap.size by omega)).trans g1
    have z12 : w11.heap.size ≤ w12.heap.size := b12.size
    go_wp2_with fail
    refine (toAudit_of v next l _ (h0.below c12) hm).mono ?_
    rintro e w13 ⟨x13, rfl, o13, b13⟩
    have c13 := Below.step b13 c12.size c12
    have W_13 := rowF_below W_12 b13
    have G_13 := rowF_below G_12 b13
    replace g0 : w13.cell? ⟨w.heap.size, 0, none⟩ = some (v) := (b13.cell (p := ⟨w.heap.size, 0, none⟩) (show w.heap.size < w12.heap.size by omega)).trans g0
    replace g1 : w13.cell? ⟨w.heap.size, 1, none⟩ = some (.int .i64 next) := (b13.cell (p := ⟨w.heap.size, 1, none⟩) (show w.heap.size < w12.heap.size by omega)).trans g1
    have z13 : w12.heap.size ≤ w13.heap.size := b13.size
    have Z_13 := rowF_own4 o13
    clear o13
    go_wp2_with fail
    refine (notesI_of _ next l who f _ (rowF_sl Z_13) hx).mono ?_
    rintro e w14 ⟨vH, rfl, o14, b14⟩
    have c14 := Below.step b14 c13.size c13
    have W_14 := rowF_below W_13 b14
    have G_14 := rowF_below G_13 b14
    have Z_14 := rowF_below Z_13 b14
    replace g0 : w14.cell? ⟨w.heap.size, 0, none⟩ = some (v) := (b14.cell (p := ⟨w.heap.size, 0, none⟩) (show w.heap.size < w13.heap.size by omega)).trans g0
    replace g1 : w14.cell? ⟨w.heap.size, 1, none⟩ = some (.int .i64 next) := (b14.cell (p := ⟨w.heap.size, 1, none⟩) (show w.heap.size < w13.heap.size by omega)).trans g1
    have z14 : w13.heap.size ≤ w14.heap.size := b14.size
    rw [← HR.out] at o14
    have H_14 := o14
    clear o14
    go_wp2_with fail
    refine (eqNoteS_of _ _ R _ (rowF_sl4 H_14) (rowF_sl4 W_14)).mono ?_
    rintro e w15 ⟨rfl, b15⟩
    have c15 := Below.step b15 c14.size c14
    have W_15 := rowF_below W_14 b15
    have G_15 := rowF_below G_14 b15
    have Z_15 := rowF_below Z_14 b15
    have H_15 := rowF_below H_14 b15
    replace g0 : w15.cell? ⟨w.heap.size, 0, none⟩ = some (v) := (b15.cell (p := ⟨w.heap.size, 0, none⟩) (show w.heap.size < w14.heap.size by omega)).trans g0
    replace g1 : w15.cell? ⟨w.heap.size, 1, none⟩ = some (.int .i64 next) := (b15.cell (p := ⟨w.heap.size, 1, none⟩) (show w.heap.size < w14.heap.size by omega)).trans g1
    have z15 : w14.heap.size ≤ w15.heap.size := b15.size
    go_wp2_with fail
    refine (heldN_of _ R.length _ (rowF_sl G_15) (by omega)).mono ?_
    rintro e w16 ⟨rfl, b16⟩
    have c16 := Below.step b16 c15.size c15
    have W_16 := rowF_below W_15 b16
    have G_16 := rowF_below G_15 b16
    have Z_16 := rowF_below Z_15 b16
    have H_16 := rowF_below H_15 b16
    replace g0 : w16.cell? ⟨w.heap.size, 0, none⟩ = some (v) := (b16.cell (p := ⟨w.heap.size, 0, none⟩) (show w.heap.size < w15.heap.size by omega)).trans g0
    replace g1 : w16.cell? ⟨w.heap.size, 1, none⟩ = some (.int .i64 next) := (b16.cell (p := ⟨w.heap.size, 1, none⟩) (show w.heap.size < w15.heap.size by omega)).trans g1
    have z16 : w15.heap.size ≤ w16.heap.size := b16.size
    go_wp2
    go_ret
    exact ⟨rfl, c16⟩
end Go.Proofs.Ytlanbgpmmlnehaa
