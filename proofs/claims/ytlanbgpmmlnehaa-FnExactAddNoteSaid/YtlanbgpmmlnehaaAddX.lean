/- The exact law on AddNote: the walk. -/
import Derived.Test.YtlanbgpmmlnehaaNotX
import Derived.Test.YtlanbgpmmlnehaaNoteI
set_option linter.unusedSimpArgs false
set_option linter.unusedVariables false
set_option linter.unusedSectionVars false
namespace Go.Proofs.Ytlanbgpmmlnehaa
open Go.RowKit

theorem addF_short (nx : Int) (l : List T4) (who : Int) (what : ByteArray) (fault : Int) : (addF nx l who what fault).1.length ≤ 11 := by
  unfold addF
  split
  · next h =>
    obtain ⟨_, _, k3, _⟩ := audB_all h
    split
    · unfold addL
      split <;> (simp; omega)
    · show l.length ≤ 11; omega
  · simp
theorem audB_long {nx : Int} {l : List T4} (h : 1000 < l.length) : audB nx l = false := by
  cases e : audB nx l
  · rfl
  · obtain ⟨_, _, k3, _⟩ := audB_all e; omega
set_option maxHeartbeats 4000000 in
theorem addNoteI_all (v : Value) (next : Int) (l : List T4) (who : Int) (what : ByteArray) (fault : Int) (w : World) (h : SlG EN w v l) (hx : Txt l) (hs : what.size ≤ maxLen) :
    Calls Try.prog 26 #[.agg #[v, .int .i64 next], .int .i64 who, .string what, .int .i64 fault] w (AddGot w (addF next l who what fault)) := by
  by_cases hl : l.length ≤ 1000
  · exact addNoteI_of v next l who what fault w h hx hl hs
  · have ha : audB next l = false := audB_long (by omega)
    have H := Lib.hid h
    have h1 := fun w h => auditValidI_of v next l w (sl4_of h) hx
    rw [ha] at h1
    obtain ⟨A, cap, rfl⟩ := h.shape
    clear h
    have hr : addF next l who what fault = ([], 0, false) := by unfold addF; rw [ha]; rfl
    have Hr := Lib.hid hr
    clear hr
    go_enter Try.func26, Try.ntmps26
    go_wp2_with fail
    refine (h1 _ (H.out.below (by (repeat (first | exact Below.refl _ _ | exact Hbl.out | refine Below.ext ?_ (by first | omega | (simp; omega) | simp) | refine Below.setCell ?_ (by first | omega | (simp; omega) | simp) _ | refine Below.alloc ?_ (by first | omega | (simp; omega) | simp) _ | refine Below.drew ?_ | refine below_drewN ?_ _ | refine Below.step (by assumption) (by first | omega | (simp; omega) | simp) ?_))))).mono ?_
    rintro e w1 ⟨rfl, hb⟩
    obtain ⟨d1, os1, rfl⟩ := ext_of_below hb; clear hb
    go_wp2
    simp [bodyPost, results, Try.results26, go_sem]
    exact ⟨_, by rw [Hr.out], by rw [Hr.out]; exact rowF_own (ownG_none (T := 49) _ _), (by (repeat (first | exact Below.refl _ _ | exact Hbl.out | refine Below.ext ?_ (by first | omega | (simp; omega) | simp) | refine Below.setCell ?_ (by first | omega | (simp; omega) | simp) _ | refine Below.alloc ?_ (by first | omega | (simp; omega) | simp) _ | refine Below.drew ?_ | refine below_drewN ?_ _ | refine Below.step (by assumption) (by first | omega | (simp; omega) | simp) ?_)))⟩
set_option maxHeartbeats 4000000 in
theorem addNoteS_all (v : Value) (next : Int) (l : List T4) (who : Int) (what : ByteArray) (fault : Int) (w : World) (h : SlG EN w v l) (hx : Txt l) (hl : l.length ≤ 1048576) (hs : what.size ≤ maxLen) :
    Calls Try.prog 27 #[.agg #[v, .int .i64 next], .int .i64 who, .string what, .int .i64 fault] w (AddGot w (addF next l who what fault)) := by
  by_cases hl : l.length ≤ 1000
  · exact addNoteS_of v next l who what fault w h hx hl hs
  · have ha : audB next l = false := audB_long (by omega)
    have H := Lib.hid h
    have h1 := fun w h => auditValidS_of v next l w (sl4_of h) (by omega) hx
    rw [ha] at h1
    obtain ⟨A, cap, rfl⟩ := h.shape
    clear h
    have hr : addF next l who what fault = ([], 0, false) := by unfold addF; rw [ha]; rfl
    have Hr := Lib.hid hr
    clear hr
    go_enter Try.func27, Try.ntmps27
    go_wp2_with fail
    refine (h1 _ (H.out.below (by (repeat (first | exact Below.refl _ _ | exact Hbl.out | refine Below.ext ?_ (by first | omega | (simp; omega) | simp) | refine Below.setCell ?_ (by first | omega | (simp; omega) | simp) _ | refine Below.alloc ?_ (by first | omega | (simp; omega) | simp) _ | refine Below.drew ?_ | refine below_drewN ?_ _ | refine Below.step (by assumption) (by first | omega | (simp; omega) | simp) ?_))))).mono ?_
    rintro e w1 ⟨rfl, hb⟩
    obtain ⟨d1, os1, rfl⟩ := ext_of_below hb; clear hb
    go_wp2
    simp [bodyPost, results, Try.results27, go_sem]
    exact ⟨_, by rw [Hr.out], by rw [Hr.out]; exact rowF_own (ownG_none (T := 49) _ _), (by (repeat (first | exact Below.refl _ _ | exact Hbl.out | refine Below.ext ?_ (by first | omega | (simp; omega) | simp) | refine Below.setCell ?_ (by first | omega | (simp; omega) | simp) _ | refine Below.alloc ?_ (by first | omega | (simp; omega) | simp) _ | refine Below.drew ?_ | refine below_drewN ?_ _ | refine Below.step (by assumption) (by first | omega | (simp; omega) | simp) ?_)))⟩
set_option maxHeartbeats 1000000 in
theorem heldAudit_of (v : Value) (next : Int) (n : Nat) (w : World) (h0 : SlG EN w v (mkL n)) (hm : n ≤ 1048576) : Calls Try.prog 39 #[.agg #[v, .int .i64 next], .int .i64 1] w fun e w' => e = .returned (.int .i64 (1 + 4 * (n : Int))) ∧ Below w.heap.size w w' := by
  have hk : ¬ (1 : Int) + 4 * (n : Int) < 0 := by omega
  go_enter Try.func39, Try.ntmps39
  go_wp2_with fail
  refine (heldN_of v n _ (h0.below (Below.alloc (Below.refl _ _) (Nat.le_refl _) _)) hm).mono ?_
  rintro e w' ⟨rfl, hb⟩
  go_wp2
  go_ret
  exact ⟨rfl, Below.step hb (by simp) (Below.alloc (Below.refl _ _) (Nat.le_refl _) _)⟩
set_option maxHeartbeats 4000000 in
theorem walkFnExactAddNote (v : Value) (next : Int) (l : List T4) (who : Int) (what : ByteArray) (fault : Int) (w : World) (h0 : Sl4 w v l) (hx : Txt l) (_hw : (Lit.int .i64 who).wf = true) (hs : what.size ≤ maxLen) (_hf : (Lit.int .i64 fault).wf = true) :
    Calls Try.prog 10 #[.agg #[v, .int .i64 next], .int .i64 who, .string what, .int .i64 fault] w fun e w' => e = .returned (.bool true) ∧ Below w.heap.size w w' := by
  have b0 : Below w.heap.size w (w.alloc (.cells #[v, .int .i64 next] 55)) := Below.alloc (Below.refl _ _) (Nat.le_refl _) _
  clear _hw _hf
  by_cases hbig : (1048576 : Int) < (what.size : Int)
  · go_enter Try.func10, Try.ntmps10
    go_wp2
    go_ret
    exact ⟨rfl, b0⟩
  have hsh := addF_short next l who what fault
  have hA1 := fun v w h => addNoteI_all v next l who what fault w h hx hs
  have hA2 := fun v w h hl => addNoteS_all v next l who what fault w h hx hl hs
  generalize addF next l who what fault = R at hsh hA1 hA2
  obtain ⟨rl, rn, rb⟩ := R
  have hsh : rl.length ≤ 11 := hsh
  have HA1 := Lib.hid hA1
  have HA2 := Lib.hid hA2
  clear hA1 hA2
  go_enter Try.func10, Try.ntmps10
  go_wp2_with fail
  refine (szAudit_of v next l _ _ (h0.below b0) hx (by decide) (by decide)).mono ?_
  rintro e w1 ⟨⟨r, rfl, r0, r1⟩, b1⟩
  have c1 := Below.step b1 b0.size b0
  have z1 : w.heap.size < w1.heap.size := by have := b1.size; simp at this; omega
  have g0 : w1.cell? ⟨w.heap.size, 0, none⟩ = some v := (b1.cell (p := ⟨w.heap.size, 0, none⟩) (by simp)).trans (by simp [go_sem])
  have g1 : w1.cell? ⟨w.heap.size, 1, none⟩ = some (.int .i64 next) := (b1.cell (p := ⟨w.heap.size, 1, none⟩) (by simp)).trans (by simp [go_sem])
  by_cases hr : r < 0
  · go_wp2
    go_ret
    exact ⟨rfl, c1⟩
  · have hm : l.length ≤ 1048576 := by have := r1 (by omega); omega
    have hk : ¬ (1 : Int) + 4 * (l.length : Int) < 0 := by omega
    have hq : ¬ (1 : Int) + 4 * (rl.length : Int) < 0 := by omega
    clear r1 b1
    go_wp2_with fail
    refine (toAudit_of v next l _ (h0.below c1) hm).mono ?_
    rintro e w2 ⟨x2, rfl, o2, b2⟩
    have c2 := Below.step b2 c1.size c1
    replace g0 : w2.cell? ⟨w.heap.size, 0, none⟩ = some (v) := (b2.cell (p := ⟨w.heap.size, 0, none⟩) (show w.heap.size < w1.heap.size by omega)).trans g0
    replace g1 : w2.cell? ⟨w.heap.size, 1, none⟩ = some (.int .i64 next) := (b2.cell (p := ⟨w.heap.size, 1, none⟩) (show w.heap.size < w1.heap.size by omega)).trans g1
    have z2 : w1.heap.size ≤ w2.heap.size := b2.size
    have P_2 := rowF_own4 o2
    clear o2
    go_wp2_with fail
    refine (HA2.out _ _ (rowF_sl P_2) hm).mono ?_
    rintro e w3 ⟨vW, rfl, o3, b3⟩
    have c3 := Below.step b3 c2.size c2
    have P_3 := rowF_below P_2 b3
    replace g0 : w3.cell? ⟨w.heap.size, 0, none⟩ = some (v) := (b3.cell (p := ⟨w.heap.size, 0, none⟩) (show w.heap.size < w2.heap.size by omega)).trans g0
    replace g1 : w3.cell? ⟨w.heap.size, 1, none⟩ = some (.int .i64 next) := (b3.cell (p := ⟨w.heap.size, 1, none⟩) (show w.heap.size < w2.heap.size by omega)).trans g1
    have z3 : w2.heap.size ≤ w3.heap.size := b3.size
    have W_3 : RowF EN _ w3 vW rl := o3
    obtain ⟨A3, k3, rfl⟩ := rowF_shape W_3
    clear o3 P_2 P_3
    go_wp2_with fail
    obtain ⟨w4, hw4⟩ : ∃ w4, w4 = w3.alloc (.cells #[(.slice A3 rl.length k3), .int .i64 rn] 39) := ⟨_, rfl⟩
    have b4 : Below w3.heap.size w3 w4 := by rw [hw4]; exact Below.alloc (Below.refl _ _) (Nat.le_refl _) _
    have p0 : w4.cell? ⟨w3.heap.size, 0, none⟩ = some (.slice A3 rl.length k3) := by rw [hw4]; simp [go_sem]
    have p1 : w4.cell? ⟨w3.heap.size, 1, none⟩ = some (.int .i64 rn) := by rw [hw4]; simp [go_sem]
    have zz4 : w4.heap.size = w3.heap.size + 1 := by rw [hw4]; simp
    rw [← hw4]
    have HW4 := Lib.hid hw4
    clear hw4
    have c4 := Below.step b4 c3.size c3
    have W_4 := rowF_below W_3 b4
    replace g0 : w4.cell? ⟨w.heap.size, 0, none⟩ = some (v) := (b4.cell (p := ⟨w.heap.size, 0, none⟩) (show w.heap.size < w3.heap.size by omega)).trans g0
    replace g1 : w4.cell? ⟨w.heap.size, 1, none⟩ = some (.int .i64 next) := (b4.cell (p := ⟨w.heap.size, 1, none⟩) (show w.heap.size < w3.heap.size by omega)).trans g1
    have z4 : w3.heap.size ≤ w4.heap.size := b4.size
    refine (toAudit_of v next l _ (h0.below c4) hm).mono ?_
    rintro e w5 ⟨x4, rfl, o5, b5⟩
    have c5 := Below.step b5 c4.size c4
    have W_5 := rowF_below W_4 b5
    replace g0 : w5.cell? ⟨w.heap.size, 0, none⟩ = some (v) := (b5.cell (p := ⟨w.heap.size, 0, none⟩) (show w.heap.size < w4.heap.size by omega)).trans g0
    replace g1 : w5.cell? ⟨w.heap.size, 1, none⟩ = some (.int .i64 next) := (b5.cell (p := ⟨w.heap.size, 1, none⟩) (show w.heap.size < w4.heap.size by omega)).trans g1
    replace p0 : w5.cell? ⟨w3.heap.size, 0, none⟩ = some (.slice A3 rl.length k3) := (b5.cell (p := ⟨w3.heap.size, 0, none⟩) (show w3.heap.size < w4.heap.size by omega)).trans p0
    replace p1 : w5.cell? ⟨w3.heap.size, 1, none⟩ = some (.int .i64 rn) := (b5.cell (p := ⟨w3.heap.size, 1, none⟩) (show w3.heap.size < w4.heap.size by omega)).trans p1
    have z5 : w4.heap.size ≤ w5.heap.size := b5.size
    have X_5 := rowF_own4 o5
    obtain ⟨A5, k5, rfl⟩ := own4_shape o5
    clear o5
    have hap1 := (rowF_apart W_4 X_5 (Nat.le_refl _)).1
    go_wp2_with fail
    obtain ⟨w6, hw6⟩ : ∃ w6, w6 = w5.alloc (.cells #[(.slice A5 l.length k5), .int .i64 next] 39) := ⟨_, rfl⟩
    have b6 : Below w5.heap.size w5 w6 := by rw [hw6]; exact Below.alloc (Below.refl _ _) (Nat.le_refl _) _
    have x0 : w6.cell? ⟨w5.heap.size, 0, none⟩ = some (.slice A5 l.length k5) := by rw [hw6]; simp [go_sem]
    have x1 : w6.cell? ⟨w5.heap.size, 1, none⟩ = some (.int .i64 next) := by rw [hw6]; simp [go_sem]
    have zz6 : w6.heap.size = w5.heap.size + 1 := by rw [hw6]; simp
    rw [← hw6]
    have HW6 := Lib.hid hw6
    clear hw6
    have c6 := Below.step b6 c5.size c5
    have W_6 := rowF_below W_5 b6
    have X_6 := rowF_below X_5 b6
    replace g0 : w6.cell? ⟨w.heap.size, 0, none⟩ = some (v) := (b6.cell (p := ⟨w.heap.size, 0, none⟩) (show w.heap.size < w5.heap.size by omega)).trans g0
    replace g1 : w6.cell? ⟨w.heap.size, 1, none⟩ = some (.int .i64 next) := (b6.cell (p := ⟨w.heap.size, 1, none⟩) (show w.heap.size < w5.heap.size by omega)).trans g1
    replace p0 : w6.cell? ⟨w3.heap.size, 0, none⟩ = some (.slice A3 rl.length k3) := (b6.cell (p := ⟨w3.heap.size, 0, none⟩) (show w3.heap.size < w5.heap.size by omega)).trans p0
    replace p1 : w6.cell? ⟨w3.heap.size, 1, none⟩ = some (.int .i64 rn) := (b6.cell (p := ⟨w3.heap.size, 1, none⟩) (show w3.heap.size < w5.heap.size by omega)).trans p1
    have z6 : w5.heap.size ≤ w6.heap.size := b6.size
    refine (HA1.out _ _ (rowF_sl X_6)).mono ?_
    rintro e w7 ⟨vG, rfl, o7, b7⟩
    have c7 := Below.step b7 c6.size c6
    have W_7 := rowF_below W_6 b7
    have X_7 := rowF_below X_6 b7
    replace g0 : w7.cell? ⟨w.heap.size, 0, none⟩ = some (v) := (b7.cell (p := ⟨w.heap.size, 0, none⟩) (show w.heap.size < w6.heap.size by omega)).trans g0
    replace g1 : w7.cell? ⟨w.heap.size, 1, none⟩ = some (.int .i64 next) := (b7.cell (p := ⟨w.heap.size, 1, none⟩) (show w.heap.size < w6.heap.size by omega)).trans g1
    replace p0 : w7.cell? ⟨w3.heap.size, 0, none⟩ = some (.slice A3 rl.length k3) := (b7.cell (p := ⟨w3.heap.size, 0, none⟩) (show w3.heap.size < w6.heap.size by omega)).trans p0
    replace p1 : w7.cell? ⟨w3.heap.size, 1, none⟩ = some (.int .i64 rn) := (b7.cell (p := ⟨w3.heap.size, 1, none⟩) (show w3.heap.size < w6.heap.size by omega)).trans p1
    replace x0 : w7.cell? ⟨w5.heap.size, 0, none⟩ = some (.slice A5 l.length k5) := (b7.cell (p := ⟨w5.heap.size, 0, none⟩) (show w5.heap.size < w6.heap.size by omega)).trans x0
    replace x1 : w7.cell? ⟨w5.heap.size, 1, none⟩ = some (.int .i64 next) := (b7.cell (p := ⟨w5.heap.size, 1, none⟩) (show w5.heap.size < w6.heap.size by omega)).trans x1
    have z7 : w6.heap.size ≤ w7.heap.size := b7.size
    have G_7 : RowF EN _ w7 vG rl := o7
    obtain ⟨A7, k7, rfl⟩ := rowF_shape G_7
    clear o7
    have hap2 := (rowF_apart X_6 G_7 (Nat.le_refl _)).2
    have hap3 := (rowF_apart W_6 G_7 (Nat.le_refl _)).1
    go_wp2_with fail
    obtain ⟨w8, hw8⟩ : ∃ w8, w8 = w7.alloc (.cells #[(.slice A7 rl.length k7), .int .i64 rn] 39) := ⟨_, rfl⟩
    have b8 : Below w7.heap.size w7 w8 := by rw [hw8]; exact Below.alloc (Below.refl _ _) (Nat.le_refl _) _
    have y0 : w8.cell? ⟨w7.heap.size, 0, none⟩ = some (.slice A7 rl.length k7) := by rw [hw8]; simp [go_sem]
    have y1 : w8.cell? ⟨w7.heap.size, 1, none⟩ = some (.int .i64 rn) := by rw [hw8]; simp [go_sem]
    have zz8 : w8.heap.size = w7.heap.size + 1 := by rw [hw8]; simp
    rw [← hw8]
    have HW8 := Lib.hid hw8
    clear hw8
    have c8 := Below.step b8 c7.size c7
    have W_8 := rowF_below W_7 b8
    have X_8 := rowF_below X_7 b8
    have G_8 := rowF_below G_7 b8
    replace g0 : w8.cell? ⟨w.heap.size, 0, none⟩ = some (v) := (b8.cell (p := ⟨w.heap.size, 0, none⟩) (show w.heap.size < w7.heap.size by omega)).trans g0
    replace g1 : w8.cell? ⟨w.heap.size, 1, none⟩ = some (.int .i64 next) := (b8.cell (p := ⟨w.heap.size, 1, none⟩) (show w.heap.size < w7.heap.size by omega)).trans g1
    replace p0 : w8.cell? ⟨w3.heap.size, 0, none⟩ = some (.slice A3 rl.length k3) := (b8.cell (p := ⟨w3.heap.size, 0, none⟩) (show w3.heap.size < w7.heap.size by omega)).trans p0
    replace p1 : w8.cell? ⟨w3.heap.size, 1, none⟩ = some (.int .i64 rn) := (b8.cell (p := ⟨w3.heap.size, 1, none⟩) (show w3.heap.size < w7.heap.size by omega)).trans p1
    replace x0 : w8.cell? ⟨w5.heap.size, 0, none⟩ = some (.slice A5 l.length k5) := (b8.cell (p := ⟨w5.heap.size, 0, none⟩) (show w5.heap.size < w7.heap.size by omega)).trans x0
    replace x1 : w8.cell? ⟨w5.heap.size, 1, none⟩ = some (.int .i64 next) := (b8.cell (p := ⟨w5.heap.size, 1, none⟩) (show w5.heap.size < w7.heap.size by omega)).trans x1
    have z8 : w7.heap.size ≤ w8.heap.size := b8.size
    refine (eqAudit_of _ _ rn rl _ (rowF_sl4 G_8) (rowF_sl4 W_8)).mono ?_
    rintro e w9 ⟨rfl, b9⟩
    have c9 := Below.step b9 c8.size c8
    have W_9 := rowF_below W_8 b9
    have X_9 := rowF_below X_8 b9
    have G_9 := rowF_below G_8 b9
    replace g0 : w9.cell? ⟨w.heap.size, 0, none⟩ = some (v) := (b9.cell (p := ⟨w.heap.size, 0, none⟩) (show w.heap.size < w8.heap.size by omega)).trans g0
    replace g1 : w9.cell? ⟨w.heap.size, 1, none⟩ = some (.int .i64 next) := (b9.cell (p := ⟨w.heap.size, 1, none⟩) (show w.heap.size < w8.heap.size by omega)).trans g1
    replace p0 : w9.cell? ⟨w3.heap.size, 0, none⟩ = some (.slice A3 rl.length k3) := (b9.cell (p := ⟨w3.heap.size, 0, none⟩) (show w3.heap.size < w8.heap.size by omega)).trans p0
    replace p1 : w9.cell? ⟨w3.heap.size, 1, none⟩ = some (.int .i64 rn) := (b9.cell (p := ⟨w3.heap.size, 1, none⟩) (show w3.heap.size < w8.heap.size by omega)).trans p1
    replace x0 : w9.cell? ⟨w5.heap.size, 0, none⟩ = some (.slice A5 l.length k5) := (b9.cell (p := ⟨w5.heap.size, 0, none⟩) (show w5.heap.size < w8.heap.size by omega)).trans x0
    replace x1 : w9.cell? ⟨w5.heap.size, 1, none⟩ = some (.int .i64 next) := (b9.cell (p := ⟨w5.heap.size, 1, none⟩) (show w5.heap.size < w8.heap.size by omega)).trans x1
    replace y0 : w9.cell? ⟨w7.heap.size, 0, none⟩ = some (.slice A7 rl.length k7) := (b9.cell (p := ⟨w7.heap.size, 0, none⟩) (show w7.heap.size < w8.heap.size by omega)).trans y0
    replace y1 : w9.cell? ⟨w7.heap.size, 1, none⟩ = some (.int .i64 rn) := (b9.cell (p := ⟨w7.heap.size, 1, none⟩) (show w7.heap.size < w8.heap.size by omega)).trans y1
    have z9 : w8.heap.size ≤ w9.heap.size := b9.size
    have X9 := Lib.hid (rowF_sl4 X_9)
    have H9 := Lib.hid (h0.below c9)
    go_wp2_with fail
    go_region_held3 (fun w' => w'.cell? ⟨w5.heap.size, 0, none⟩ = some (.slice A5 l.length k5) ∧ w'.cell? ⟨w5.heap.size, 1, none⟩ = some (.int .i64 next) ∧ w'.cell? ⟨w.heap.size, 0, none⟩ = some v ∧ w'.cell? ⟨w.heap.size, 1, none⟩ = some (.int .i64 next)) (go_simp) (first | (go_at_call 33; refine (toAudit_of v next l _ ?_ hm).mono ?_; (focus (exact H9.out)); rintro e w' ⟨x8, rfl, o8, b8'⟩; have O8 := Lib.hid (own4_sl o8); clear o8; obtain ⟨d1, os1, rfl⟩ := ext_of_below b8'; clear b8') | (go_at_call 35; refine (eqAudit_of _ _ next l _ ?_ ?_).mono ?_; (focus (exact Sl4.below X9.out (by (repeat (first | exact Below.refl _ _ | exact Hbl.out | refine Below.ext ?_ (by first | omega | (simp; omega) | simp) | refine Below.setCell ?_ (by first | omega | (simp; omega) | simp) _ | refine Below.alloc ?_ (by first | omega | (simp; omega) | simp) _ | refine Below.drew ?_ | refine below_drewN ?_ _ | refine Below.step (by assumption) (by first | omega | (simp; omega) | simp) ?_))))); (focus (exact O8.out)); rintro e w' ⟨rfl, b9'⟩; obtain ⟨d9, os9, rfl⟩ := ext_of_below b9'; clear b9'))
    obtain ⟨w10, hw10⟩ : ∃ w10, w10 = ext w9 d9 (os1 ++ os9) := ⟨_, rfl⟩
    have b10 : Below w9.heap.size w9 w10 := by rw [hw10]; exact below_ext _ _ _
    rw [← hw10]
    clear hw10
    have c10 := Below.step b10 c9.size c9
    have W_10 := rowF_below W_9 b10
    have X_10 := rowF_below X_9 b10
    have G_10 := rowF_below G_9 b10
    replace g0 : w10.cell? ⟨w.heap.size, 0, none⟩ = some (v) := (b10.cell (p := ⟨w.heap.size, 0, none⟩) (show w.heap.size < w9.heap.size by omega)).trans g0
    replace g1 : w10.cell? ⟨w.heap.size, 1, none⟩ = some (.int .i64 next) := (b10.cell (p := ⟨w.heap.size, 1, none⟩) (show w.heap.size < w9.heap.size by omega)).trans g1
    replace p0 : w10.cell? ⟨w3.heap.size, 0, none⟩ = some (.slice A3 rl.length k3) := (b10.cell (p := ⟨w3.heap.size, 0, none⟩) (show w3.heap.size < w9.heap.size by omega)).trans p0
    replace p1 : w10.cell? ⟨w3.heap.size, 1, none⟩ = some (.int .i64 rn) := (b10.cell (p := ⟨w3.heap.size, 1, none⟩) (show w3.heap.size < w9.heap.size by omega)).trans p1
    replace x0 : w10.cell? ⟨w5.heap.size, 0, none⟩ = some (.slice A5 l.length k5) := (b10.cell (p := ⟨w5.heap.size, 0, none⟩) (show w5.heap.size < w9.heap.size by omega)).trans x0
    replace x1 : w10.cell? ⟨w5.heap.size, 1, none⟩ = some (.int .i64 next) := (b10.cell (p := ⟨w5.heap.size, 1, none⟩) (show w5.heap.size < w9.heap.size by omega)).trans x1
    replace y0 : w10.cell? ⟨w7.heap.size, 0, none⟩ = some (.slice A7 rl.length k7) := (b10.cell (p := ⟨w7.heap.size, 0, none⟩) (show w7.heap.size < w9.heap.size by omega)).trans y0
    replace y1 : w10.cell? ⟨w7.heap.size, 1, none⟩ = some (.int .i64 rn) := (b10.cell (p := ⟨w7.heap.size, 1, none⟩) (show w7.heap.size < w9.heap.size by omega)).trans y1
    have z10 : w9.heap.size ≤ w10.heap.size := b10.size
    have hblk : ∀ j, (Value.slice A5 l.length k5).ownBlock = some j → w4.heap.size ≤ j ∧ j < w5.heap.size := fun j hj => ⟨(rowF_blk X_10 j hj).1, (rowF_blk X_5 j hj).2⟩
    go_wp2_with fail
    refine (markAudit_of _ _ next l _ X_10 hm).mono ?_
    rintro e w11 ⟨rfl, o11, g11⟩
    have c11 := c10.grown g11 c10.size (fun j hj => by have := (hblk j hj).1; omega)
    have W_11 := rowF_kept W_10 g11 hap1
    have G_11 := rowF_kept G_10 g11 hap2
    have z11 : w10.heap.size ≤ w11.heap.size := g11.size
    replace g0 : w11.cell? ⟨w.heap.size, 0, none⟩ = some (v) := (g11.cell_far ⟨w.heap.size, 0, none⟩ (show w.heap.size < w10.heap.size by omega) (fun e => by have h := hblk (w.heap.size) e.symm; omega)).trans g0
    replace g1 : w11.cell? ⟨w.heap.size, 1, none⟩ = some (.int .i64 next) := (g11.cell_far ⟨w.heap.size, 1, none⟩ (show w.heap.size < w10.heap.size by omega) (fun e => by have h := hblk (w.heap.size) e.symm; omega)).trans g1
    replace p0 : w11.cell? ⟨w3.heap.size, 0, none⟩ = some (.slice A3 rl.length k3) := (g11.cell_far ⟨w3.heap.size, 0, none⟩ (show w3.heap.size < w10.heap.size by omega) (fun e => by have h := hblk (w3.heap.size) e.symm; omega)).trans p0
    replace p1 : w11.cell? ⟨w3.heap.size, 1, none⟩ = some (.int .i64 rn) := (g11.cell_far ⟨w3.heap.size, 1, none⟩ (show w3.heap.size < w10.heap.size by omega) (fun e => by have h := hblk (w3.heap.size) e.symm; omega)).trans p1
    replace y0 : w11.cell? ⟨w7.heap.size, 0, none⟩ = some (.slice A7 rl.length k7) := (g11.cell_far ⟨w7.heap.size, 0, none⟩ (show w7.heap.size < w10.heap.size by omega) (fun e => by have h := hblk (w7.heap.size) e.symm; omega)).trans y0
    replace y1 : w11.cell? ⟨w7.heap.size, 1, none⟩ = some (.int .i64 rn) := (g11.cell_far ⟨w7.heap.size, 1, none⟩ (show w7.heap.size < w10.heap.size by omega) (fun e => by have h := hblk (w7.heap.size) e.symm; omega)).trans y1
    clear o11
    go_wp2_with fail
    refine (eqAudit_of _ _ rn rl _ (rowF_sl4 G_11) (rowF_sl4 W_11)).mono ?_
    rintro e w12 ⟨rfl, b12⟩
    have c12 := Below.step b12 c11.size c11
    have W_12 := rowF_below W_11 b12
    have G_12 := rowF_below G_11 b12
    replace g0 : w12.cell? ⟨w.heap.size, 0, none⟩ = some (v) := (b12.cell (p := ⟨w.heap.size, 0, none⟩) (show w.heap.size < w11.heap.size by omega)).trans g0
    replace g1 : w12.cell? ⟨w.heap.size, 1, none⟩ = some (.int .i64 next) := (b12.cell (p := ⟨w.heap.size, 1, none⟩) (show w.heap.size < w11.heap.size by omega)).trans g1
    replace p0 : w12.cell? ⟨w3.heap.size, 0, none⟩ = some (.slice A3 rl.length k3) := (b12.cell (p := ⟨w3.heap.size, 0, none⟩) (show w3.heap.size < w11.heap.size by omega)).trans p0
    replace p1 : w12.cell? ⟨w3.heap.size, 1, none⟩ = some (.int .i64 rn) := (b12.cell (p := ⟨w3.heap.size, 1, none⟩) (show w3.heap.size < w11.heap.size by omega)).trans p1
    replace y0 : w12.cell? ⟨w7.heap.size, 0, none⟩ = some (.slice A7 rl.length k7) := (b12.cell (p := ⟨w7.heap.size, 0, none⟩) (show w7.heap.size < w11.heap.size by omega)).trans y0
    replace y1 : w12.cell? ⟨w7.heap.size, 1, none⟩ = some (.int .i64 rn) := (b12.cell (p := ⟨w7.heap.size, 1, none⟩) (show w7.heap.size < w11.heap.size by omega)).trans y1
    have z12 : w11.heap.size ≤ w12.heap.size := b12.size
    have hblk : ∀ j, (Value.slice A7 rl.length k7).ownBlock = some j → w6.heap.size ≤ j ∧ j < w7.heap.size := fun j hj => ⟨(rowF_blk G_12 j hj).1, (rowF_blk G_7 j hj).2⟩
    go_wp2_with fail
    refine (markAudit_of _ _ rn rl _ G_12 (by omega)).mono ?_
    rintro e w13 ⟨rfl, o13, g13⟩
    have c13 := c12.grown g13 c12.size (fun j hj => by have := (hblk j hj).1; omega)
    have W_13 := rowF_kept W_12 g13 hap3
    have z13 : w12.heap.size ≤ w13.heap.size := g13.size
    replace g0 : w13.cell? ⟨w.heap.size, 0, none⟩ = some (v) := (g13.cell_far ⟨w.heap.size, 0, none⟩ (show w.heap.size < w12.heap.size by omega) (fun e => by have h := hblk (w.heap.size) e.symm; omega)).trans g0
    replace g1 : w13.cell? ⟨w.heap.size, 1, none⟩ = some (.int .i64 next) := (g13.cell_far ⟨w.heap.size, 1, none⟩ (show w.heap.size < w12.heap.size by omega) (fun e => by have h := hblk (w.heap.size) e.symm; omega)).trans g1
    replace p0 : w13.cell? ⟨w3.heap.size, 0, none⟩ = some (.slice A3 rl.length k3) := (g13.cell_far ⟨w3.heap.size, 0, none⟩ (show w3.heap.size < w12.heap.size by omega) (fun e => by have h := hblk (w3.heap.size) e.symm; omega)).trans p0
    replace p1 : w13.cell? ⟨w3.heap.size, 1, none⟩ = some (.int .i64 rn) := (g13.cell_far ⟨w3.heap.size, 1, none⟩ (show w3.heap.size < w12.heap.size by omega) (fun e => by have h := hblk (w3.heap.size) e.symm; omega)).trans p1
    replace y0 : w13.cell? ⟨w7.heap.size, 0, none⟩ = some (.slice A7 rl.length k7) := (g13.cell_far ⟨w7.heap.size, 0, none⟩ (show w7.heap.size < w12.heap.size by omega) (fun e => by have h := hblk (w7.heap.size) e.symm; omega)).trans y0
    replace y1 : w13.cell? ⟨w7.heap.size, 1, none⟩ = some (.int .i64 rn) := (g13.cell_far ⟨w7.heap.size, 1, none⟩ (show w7.heap.size < w12.heap.size by omega) (fun e => by have h := hblk (w7.heap.size) e.symm; omega)).trans y1
    have G_13 := o13
    clear o13
    go_wp2_with fail
    refine (heldAudit_of _ rn rl.length _ (rowF_sl G_13) (by omega)).mono ?_
    rintro e w14 ⟨rfl, b14⟩
    have c14 := Below.step b14 c13.size c13
    have W_14 := rowF_below W_13 b14
    have G_14 := rowF_below G_13 b14
    replace g0 : w14.cell? ⟨w.heap.size, 0, none⟩ = some (v) := (b14.cell (p := ⟨w.heap.size, 0, none⟩) (show w.heap.size < w13.heap.size by omega)).trans g0
    replace g1 : w14.cell? ⟨w.heap.size, 1, none⟩ = some (.int .i64 next) := (b14.cell (p := ⟨w.heap.size, 1, none⟩) (show w.heap.size < w13.heap.size by omega)).trans g1
    replace p0 : w14.cell? ⟨w3.heap.size, 0, none⟩ = some (.slice A3 rl.length k3) := (b14.cell (p := ⟨w3.heap.size, 0, none⟩) (show w3.heap.size < w13.heap.size by omega)).trans p0
    replace p1 : w14.cell? ⟨w3.heap.size, 1, none⟩ = some (.int .i64 rn) := (b14.cell (p := ⟨w3.heap.size, 1, none⟩) (show w3.heap.size < w13.heap.size by omega)).trans p1
    replace y0 : w14.cell? ⟨w7.heap.size, 0, none⟩ = some (.slice A7 rl.length k7) := (b14.cell (p := ⟨w7.heap.size, 0, none⟩) (show w7.heap.size < w13.heap.size by omega)).trans y0
    replace y1 : w14.cell? ⟨w7.heap.size, 1, none⟩ = some (.int .i64 rn) := (b14.cell (p := ⟨w7.heap.size, 1, none⟩) (show w7.heap.size < w13.heap.size by omega)).trans y1
    have z14 : w13.heap.size ≤ w14.heap.size := b14.size
    go_wp2_with fail
    refine (toAudit_of v next l _ (h0.below c14) hm).mono ?_
    rintro e w15 ⟨x15, rfl, o15, b15⟩
    have c15 := Below.step b15 c14.size c14
    have W_15 := rowF_below W_14 b15
    have G_15 := rowF_below G_14 b15
    replace g0 : w15.cell? ⟨w.heap.size, 0, none⟩ = some (v) := (b15.cell (p := ⟨w.heap.size, 0, none⟩) (show w.heap.size < w14.heap.size by omega)).trans g0
    replace g1 : w15.cell? ⟨w.heap.size, 1, none⟩ = some (.int .i64 next) := (b15.cell (p := ⟨w.heap.size, 1, none⟩) (show w.heap.size < w14.heap.size by omega)).trans g1
    replace p0 : w15.cell? ⟨w3.heap.size, 0, none⟩ = some (.slice A3 rl.length k3) := (b15.cell (p := ⟨w3.heap.size, 0, none⟩) (show w3.heap.size < w14.heap.size by omega)).trans p0
    replace p1 : w15.cell? ⟨w3.heap.size, 1, none⟩ = some (.int .i64 rn) := (b15.cell (p := ⟨w3.heap.size, 1, none⟩) (show w3.heap.size < w14.heap.size by omega)).trans p1
    replace y0 : w15.cell? ⟨w7.heap.size, 0, none⟩ = some (.slice A7 rl.length k7) := (b15.cell (p := ⟨w7.heap.size, 0, none⟩) (show w7.heap.size < w14.heap.size by omega)).trans y0
    replace y1 : w15.cell? ⟨w7.heap.size, 1, none⟩ = some (.int .i64 rn) := (b15.cell (p := ⟨w7.heap.size, 1, none⟩) (show w7.heap.size < w14.heap.size by omega)).trans y1
    have z15 : w14.heap.size ≤ w15.heap.size := b15.size
    have Z_15 := rowF_own4 o15
    clear o15
    go_wp2_with fail
    refine (HA1.out _ _ (rowF_sl Z_15)).mono ?_
    rintro e w16 ⟨vH, rfl, o16, b16⟩
    have c16 := Below.step b16 c15.size c15
    have W_16 := rowF_below W_15 b16
    have G_16 := rowF_below G_15 b16
    have Z_16 := rowF_below Z_15 b16
    replace g0 : w16.cell? ⟨w.heap.size, 0, none⟩ = some (v) := (b16.cell (p := ⟨w.heap.size, 0, none⟩) (show w.heap.size < w15.heap.size by omega)).trans g0
    replace g1 : w16.cell? ⟨w.heap.size, 1, none⟩ = some (.int .i64 next) := (b16.cell (p := ⟨w.heap.size, 1, none⟩) (show w.heap.size < w15.heap.size by omega)).trans g1
    replace p0 : w16.cell? ⟨w3.heap.size, 0, none⟩ = some (.slice A3 rl.length k3) := (b16.cell (p := ⟨w3.heap.size, 0, none⟩) (show w3.heap.size < w15.heap.size by omega)).trans p0
    replace p1 : w16.cell? ⟨w3.heap.size, 1, none⟩ = some (.int .i64 rn) := (b16.cell (p := ⟨w3.heap.size, 1, none⟩) (show w3.heap.size < w15.heap.size by omega)).trans p1
    replace y0 : w16.cell? ⟨w7.heap.size, 0, none⟩ = some (.slice A7 rl.length k7) := (b16.cell (p := ⟨w7.heap.size, 0, none⟩) (show w7.heap.size < w15.heap.size by omega)).trans y0
    replace y1 : w16.cell? ⟨w7.heap.size, 1, none⟩ = some (.int .i64 rn) := (b16.cell (p := ⟨w7.heap.size, 1, none⟩) (show w7.heap.size < w15.heap.size by omega)).trans y1
    have z16 : w15.heap.size ≤ w16.heap.size := b16.size
    have H_16 : RowF EN _ w16 vH rl := o16
    obtain ⟨A16, k16, rfl⟩ := rowF_shape H_16
    clear o16
    go_wp2_with fail
    obtain ⟨w17, hw17⟩ : ∃ w17, w17 = w16.alloc (.cells #[(.slice A16 rl.length k16), .int .i64 rn] 39) := ⟨_, rfl⟩
    have b17 : Below w16.heap.size w16 w17 := by rw [hw17]; exact Below.alloc (Below.refl _ _) (Nat.le_refl _) _
    have u0 : w17.cell? ⟨w16.heap.size, 0, none⟩ = some (.slice A16 rl.length k16) := by rw [hw17]; simp [go_sem]
    have u1 : w17.cell? ⟨w16.heap.size, 1, none⟩ = some (.int .i64 rn) := by rw [hw17]; simp [go_sem]
    have zz17 : w17.heap.size = w16.heap.size + 1 := by rw [hw17]; simp
    rw [← hw17]
    have HW17 := Lib.hid hw17
    clear hw17
    have c17 := Below.step b17 c16.size c16
    have W_17 := rowF_below W_16 b17
    have G_17 := rowF_below G_16 b17
    have Z_17 := rowF_below Z_16 b17
    have H_17 := rowF_below H_16 b17
    replace g0 : w17.cell? ⟨w.heap.size, 0, none⟩ = some (v) := (b17.cell (p := ⟨w.heap.size, 0, none⟩) (show w.heap.size < w16.heap.size by omega)).trans g0
    replace g1 : w17.cell? ⟨w.heap.size, 1, none⟩ = some (.int .i64 next) := (b17.cell (p := ⟨w.heap.size, 1, none⟩) (show w.heap.size < w16.heap.size by omega)).trans g1
    replace p0 : w17.cell? ⟨w3.heap.size, 0, none⟩ = some (.slice A3 rl.length k3) := (b17.cell (p := ⟨w3.heap.size, 0, none⟩) (show w3.heap.size < w16.heap.size by omega)).trans p0
    replace p1 : w17.cell? ⟨w3.heap.size, 1, none⟩ = some (.int .i64 rn) := (b17.cell (p := ⟨w3.heap.size, 1, none⟩) (show w3.heap.size < w16.heap.size by omega)).trans p1
    replace y0 : w17.cell? ⟨w7.heap.size, 0, none⟩ = some (.slice A7 rl.length k7) := (b17.cell (p := ⟨w7.heap.size, 0, none⟩) (show w7.heap.size < w16.heap.size by omega)).trans y0
    replace y1 : w17.cell? ⟨w7.heap.size, 1, none⟩ = some (.int .i64 rn) := (b17.cell (p := ⟨w7.heap.size, 1, none⟩) (show w7.heap.size < w16.heap.size by omega)).trans y1
    have z17 : w16.heap.size ≤ w17.heap.size := b17.size
    refine (eqAudit_of _ _ rn rl _ (rowF_sl4 H_17) (rowF_sl4 W_17)).mono ?_
    rintro e w18 ⟨rfl, b18⟩
    have c18 := Below.step b18 c17.size c17
    have W_18 := rowF_below W_17 b18
    have G_18 := rowF_below G_17 b18
    have Z_18 := rowF_below Z_17 b18
    have H_18 := rowF_below H_17 b18
    replace g0 : w18.cell? ⟨w.heap.size, 0, none⟩ = some (v) := (b18.cell (p := ⟨w.heap.size, 0, none⟩) (show w.heap.size < w17.heap.size by omega)).trans g0
    replace g1 : w18.cell? ⟨w.heap.size, 1, none⟩ = some (.int .i64 next) := (b18.cell (p := ⟨w.heap.size, 1, none⟩) (show w.heap.size < w17.heap.size by omega)).trans g1
    replace p0 : w18.cell? ⟨w3.heap.size, 0, none⟩ = some (.slice A3 rl.length k3) := (b18.cell (p := ⟨w3.heap.size, 0, none⟩) (show w3.heap.size < w17.heap.size by omega)).trans p0
    replace p1 : w18.cell? ⟨w3.heap.size, 1, none⟩ = some (.int .i64 rn) := (b18.cell (p := ⟨w3.heap.size, 1, none⟩) (show w3.heap.size < w17.heap.size by omega)).trans p1
    replace y0 : w18.cell? ⟨w7.heap.size, 0, none⟩ = some (.slice A7 rl.length k7) := (b18.cell (p := ⟨w7.heap.size, 0, none⟩) (show w7.heap.size < w17.heap.size by omega)).trans y0
    replace y1 : w18.cell? ⟨w7.heap.size, 1, none⟩ = some (.int .i64 rn) := (b18.cell (p := ⟨w7.heap.size, 1, none⟩) (show w7.heap.size < w17.heap.size by omega)).trans y1
    replace u0 : w18.cell? ⟨w16.heap.size, 0, none⟩ = some (.slice A16 rl.length k16) := (b18.cell (p := ⟨w16.heap.size, 0, none⟩) (show w16.heap.size < w17.heap.size by omega)).trans u0
    replace u1 : w18.cell? ⟨w16.heap.size, 1, none⟩ = some (.int .i64 rn) := (b18.cell (p := ⟨w16.heap.size, 1, none⟩) (show w16.heap.size < w17.heap.size by omega)).trans u1
    have z18 : w17.heap.size ≤ w18.heap.size := b18.size
    go_wp2_with fail
    refine (heldAudit_of _ rn rl.length _ (rowF_sl G_18) (by omega)).mono ?_
    rintro e w19 ⟨rfl, b19⟩
    have c19 := Below.step b19 c18.size c18
    have W_19 := rowF_below W_18 b19
    have G_19 := rowF_below G_18 b19
    have Z_19 := rowF_below Z_18 b19
    have H_19 := rowF_below H_18 b19
    replace g0 : w19.cell? ⟨w.heap.size, 0, none⟩ = some (v) := (b19.cell (p := ⟨w.heap.size, 0, none⟩) (show w.heap.size < w18.heap.size by omega)).trans g0
    replace g1 : w19.cell? ⟨w.heap.size, 1, none⟩ = some (.int .i64 next) := (b19.cell (p := ⟨w.heap.size, 1, none⟩) (show w.heap.size < w18.heap.size by omega)).trans g1
    replace p0 : w19.cell? ⟨w3.heap.size, 0, none⟩ = some (.slice A3 rl.length k3) := (b19.cell (p := ⟨w3.heap.size, 0, none⟩) (show w3.heap.size < w18.heap.size by omega)).trans p0
    replace p1 : w19.cell? ⟨w3.heap.size, 1, none⟩ = some (.int .i64 rn) := (b19.cell (p := ⟨w3.heap.size, 1, none⟩) (show w3.heap.size < w18.heap.size by omega)).trans p1
    replace y0 : w19.cell? ⟨w7.heap.size, 0, none⟩ = some (.slice A7 rl.length k7) := (b19.cell (p := ⟨w7.heap.size, 0, none⟩) (show w7.heap.size < w18.heap.size by omega)).trans y0
    replace y1 : w19.cell? ⟨w7.heap.size, 1, none⟩ = some (.int .i64 rn) := (b19.cell (p := ⟨w7.heap.size, 1, none⟩) (show w7.heap.size < w18.heap.size by omega)).trans y1
    replace u0 : w19.cell? ⟨w16.heap.size, 0, none⟩ = some (.slice A16 rl.length k16) := (b19.cell (p := ⟨w16.heap.size, 0, none⟩) (show w16.heap.size < w18.heap.size by omega)).trans u0
    replace u1 : w19.cell? ⟨w16.heap.size, 1, none⟩ = some (.int .i64 rn) := (b19.cell (p := ⟨w16.heap.size, 1, none⟩) (show w16.heap.size < w18.heap.size by omega)).trans u1
    have z19 : w18.heap.size ≤ w19.heap.size := b19.size
    go_wp2
    go_ret
    exact ⟨rfl, c19⟩
end Go.Proofs.Ytlanbgpmmlnehaa
