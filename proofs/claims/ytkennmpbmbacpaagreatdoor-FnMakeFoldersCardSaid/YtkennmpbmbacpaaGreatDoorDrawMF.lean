/- What is drawn: a tree, a credential, a path and a mode (DrawMakeFolders). -/
import Derived.Test.YtkennmpbmbacpaaGreatDoorDrawF
import Derived.Deep.RegionHeld3
set_option linter.unusedSimpArgs false
set_option linter.unusedVariables false
set_option linter.unusedSectionVars false
namespace Go.Proofs.YtkennmpbmbacpaaGreatDoor
open Go.RowKit

theorem mode_done {w W : World} {R : Nat} {p q x0 : Int} (hb : Below (w.setCell ⟨R, 1, none⟩ (.int .i64 q)).heap.size (w.setCell ⟨R, 1, none⟩ (.int .i64 q)) W) (h1 : p ≤ q) (h2 : q ≤ p + 5) : ∃ (x : Int) (q : Int) (d : Nat) (os : Array Obj), Ending.returned (.int .i64 x0) = .returned (.int .i64 x) ∧ p ≤ q ∧ q ≤ p + 5 ∧ W = ext (w.setCell ⟨R, 1, none⟩ (.int .i64 q)) d os := by
  obtain ⟨d, os, e⟩ := ext_of_below hb
  exact ⟨_, q, d, os, rfl, h1, h2, e⟩
/-- A mode is drawn. -/
theorem l20Mode_any (R : Nat) (p n : Int) (w : World) (hr : Rd w R p) (hp : p ≤ 1000000000) (hn : 1 ≤ n) (hn' : n ≤ 1000) : Calls Tryz.prog 64 #[.pointer (some ⟨R, 0, none⟩), .int .i64 n] w fun e w' => ∃ (x : Int) (q : Int) (d : Nat) (os : Array Obj), e = .returned (.int .i64 x) ∧ p ≤ q ∧ q ≤ p + 5 ∧ w' = ext (w.setCell ⟨R, 1, none⟩ (.int .i64 q)) d os := by
  have hR := hr.lt
  have hp0 := hr.pos
  go_enter Tryz.func64, Tryz.ntmps64
  go_wp2_with (go_at_call 63; refine (odd_any _ ?_ _ _ ?_ ?_ ?_ ?_).mono ?_; rotate_left; (focus ((repeat (first | assumption | refine Rd.ext ?_ | refine Rd.drew ?_ | refine Rd.drewN ?_ | refine Rd.set (by assumption) ?_ | refine Rd.lit (by assumption) (by simp) ?_ | refine Rd.alloc ?_ _ | omega)))); (focus omega); (focus omega); (focus omega); rintro e w' ⟨b, d, rfl, rfl⟩)
  · refine (pick_any _ ?_ _ _ ?_ ?_).mono ?_; rotate_left; (focus ((repeat (first | assumption | refine Rd.ext ?_ | refine Rd.drew ?_ | refine Rd.drewN ?_ | refine Rd.set (by assumption) ?_ | refine Rd.lit (by assumption) (by simp) ?_ | refine Rd.alloc ?_ _ | omega)))); (focus omega); rintro e w' ⟨c, dc, rfl, lc, hc, h2, rfl⟩; replace hc := hc (by omega); clear h2
    go_wp2
    go_ret
    refine mode_done (q := p + 1 + 1) ?_ (by omega) (by omega)
    (repeat (first | exact Below.refl _ _ | exact Hbl.out | refine Below.ext ?_ (by first | omega | (simp; omega) | simp) | refine Below.setCell ?_ (by first | omega | (simp; omega) | simp) _ | refine Below.alloc ?_ (by first | omega | (simp; omega) | simp) _ | refine Below.drew ?_ | refine below_drewN ?_ _ | refine Below.step (by assumption) (by first | omega | (simp; omega) | simp) ?_))
  · refine (pick_any _ ?_ _ _ ?_ ?_).mono ?_; rotate_left; (focus ((repeat (first | assumption | refine Rd.ext ?_ | refine Rd.drew ?_ | refine Rd.drewN ?_ | refine Rd.set (by assumption) ?_ | refine Rd.lit (by assumption) (by simp) ?_ | refine Rd.alloc ?_ _ | omega)))); (focus omega); rintro e w' ⟨u, du, rfl, lu, hu, h2, rfl⟩; replace hu := hu (by omega); clear h2
    have zu : IntKind.i64.wrap (u * 4) = u * 4 := IntWalk.i64_in _ (by omega)
    (go_wp2_with fail); refine (pick_any _ ?_ _ _ ?_ ?_).mono ?_; rotate_left; (focus ((repeat (first | assumption | refine Rd.ext ?_ | refine Rd.drew ?_ | refine Rd.drewN ?_ | refine Rd.set (by assumption) ?_ | refine Rd.lit (by assumption) (by simp) ?_ | refine Rd.alloc ?_ _ | omega)))); (focus omega); rintro e w' ⟨x, dx, rfl, lx, hx, h2, rfl⟩; replace hx := hx (by omega); clear h2
    (go_wp2_with fail); refine (pick_any _ ?_ _ _ ?_ ?_).mono ?_; rotate_left; (focus ((repeat (first | assumption | refine Rd.ext ?_ | refine Rd.drew ?_ | refine Rd.drewN ?_ | refine Rd.set (by assumption) ?_ | refine Rd.lit (by assumption) (by simp) ?_ | refine Rd.alloc ?_ _ | omega)))); (focus omega); rintro e w' ⟨v, dv, rfl, lv, hv, h2, rfl⟩; replace hv := hv (by omega); clear h2
    go_wp2
    go_ret
    refine mode_done (q := p + 1 + 1 + 1 + 1) ?_ (by omega) (by omega)
    (repeat (first | exact Below.refl _ _ | exact Hbl.out | refine Below.ext ?_ (by first | omega | (simp; omega) | simp) | refine Below.setCell ?_ (by first | omega | (simp; omega) | simp) _ | refine Below.alloc ?_ (by first | omega | (simp; omega) | simp) _ | refine Below.drew ?_ | refine below_drewN ?_ _ | refine Below.step (by assumption) (by first | omega | (simp; omega) | simp) ?_))
theorem follow_len (p q : List UInt8) : (followF p q).length ≤ 54 := by
  unfold followF
  split
  · unfold endW
    split
    · exact joinP_len _
    · exact Nat.zero_le _
  · exact Nat.zero_le _
/-- A tree, a credential, a text and a number are drawn. -/
def GotFM (w : World) (e : Ending) (w' : World) : Prop := ∃ (v : Value) (t : List Nd) (a b c d : Int) (s : ByteArray) (n : Int), e = .returned (.tuple #[v, .agg #[.int .i64 a, .int .i64 b, .int .i64 c, .int .i64 d], .string s, .int .i64 n]) ∧ TreeO w.heap.size w' v t ∧ t.length ≤ 20 ∧ (kidsOf t).length ≤ 16 ∧ s.size ≤ 54 ∧ Below w.heap.size w w'
set_option maxRecDepth 100000 in
set_option maxHeartbeats 4000000 in
theorem drawMF_any (a : Option Addr) (len cap : Nat) (zs : List Int) (w : World) (hrow : IsRow .u8 w a len cap zs) : Calls Tryz.prog 29 #[.slice a len cap] w (GotFM w) := by
  go_enter Tryz.func29, Tryz.ntmps29
  go_wp2_with (go_at_call 58; refine (open_any _ _ _ _ _ (IsRow.below hrow (by repeat (first | exact Below.refl _ _ | refine Below.alloc ?_ (by simp; try omega) _)))).mono ?_; rintro e w' ⟨A, le, ca, rfl, rfl, zs', hby⟩; (try simp only [World.size_alloc] at hby))
  have D0 := DS.start hby
  obtain ⟨W0, hW0⟩ : ∃ W0, W0 = ((w.alloc (.cells #[.int .i64 0, .int .i64 0, .int .i64 0, .int .i64 0] 25)).alloc (.cells #[.slice A le ca, .int .i64 0] 103)) := ⟨_, rfl⟩
  have hz0 : W0.heap.size = w.heap.size + 2 := by rw [hW0]; simp
  rw [← hW0] at D0 ⊢
  obtain ⟨R, hR⟩ : ∃ R, R = w.heap.size + 1 := ⟨_, rfl⟩
  rw [← hR] at D0
  simp only [← hR]
  have hRz : R < W0.heap.size := by omega
  clear hW0 hR hby hrow hz0
  refine (l20Tree_any R 0 14 W0 D0.rd (by decide) (by decide) (by decide)).mono ?_
  rintro e W1 ⟨v, cs, t, q1, rfl, hT, h1, h2, h3, k0, k1, hRB⟩
  have D1 := D0.step k0 hRB
  have hr1 := D1.rd
  have HT1 := Lib.hid hT
  have HD1 := Lib.hid D1
  have hlt := D0.lt
  obtain ⟨A1, cap1, rfl⟩ := (TreeO.r ⟨_, hT⟩).shape
  clear D0 D1 hT hRB h3
  go_wp2_with fail
  refine (l20Cred_any R q1 14 W1 hr1 (by omega) (by decide) (by decide)).mono ?_
  rintro e W2 ⟨_, q2, d2, os2, rfl, k2, k3, ⟨a0, b0, c0, d0, rfl⟩, hW2⟩
  have D2 := HD1.out.pick (d := d2) (os := os2) (q' := q2) (by omega)
  have T2 := HT1.out.pick (d := d2) (os := os2) (i := 1) (u := .int .i64 q2) hRz
  rw [← hW2] at D2 T2
  have hr2 := D2.rd
  have HT2 := Lib.hid T2
  have Hbl := Lib.hid D2.below
  have y0 := D2.cell 0 (by decide)
  have y1 := D2.cell 1 (by decide)
  have y2 := D2.cell 2 (by decide)
  have y3 := D2.cell 3 (by decide)
  have f0 := D2.froz 0
  have f1 := D2.froz 1
  have f2 := D2.froz 2
  have f3 := D2.froz 3
  have hz2 : w.heap.size < W2.heap.size := by have := D2.rd.lt; omega
  have hne : w.heap.size ≠ R := by omega
  have hRz2 : R < W2.heap.size := D2.rd.lt
  have hne2 : R ≠ W2.heap.size := by omega
  have hne3 : W2.heap.size ≠ R := by omega
  have HR2 := Lib.hid (TreeO.r ⟨_, T2⟩)
  have HW := Lib.hid (fun w hr h => l20New_any R q2 (.slice A1 t.length cap1) t w hr (by omega) h (by omega) h2)
  clear hW2 D2 T2 HD1 HT1 hr1
  have hn1 := h1
  have hn2 := h2
  go_wp2_with fail
  refine (HW.out _ ?_ (HR2.out.below (by (repeat (first | exact Below.refl _ _ | exact Hbl.out | refine Below.ext ?_ (by first | omega | (simp; omega) | simp) | refine Below.setCell ?_ (by first | omega | (simp; omega) | simp) _ | refine Below.alloc ?_ (by first | omega | (simp; omega) | simp) _ | refine Below.drew ?_ | refine below_drewN ?_ _ | refine Below.step (by assumption) (by first | omega | (simp; omega) | simp) ?_))))).mono ?_
  · (repeat (first | assumption | refine Rd.ext ?_ | refine Rd.drew ?_ | refine Rd.drewN ?_ | refine Rd.set (by assumption) ?_ | refine Rd.lit (by assumption) (by simp) ?_ | refine Rd.alloc ?_ _ | omega))
  rintro e w' ⟨_, q3, d3, os3, rfl, k4, k5, ⟨x, rfl, hx⟩, rfl⟩
  go_wp2_with fail
  refine (pick_any _ ?_ _ _ ?_ ?_).mono ?_
  rotate_left
  · (repeat (first | assumption | refine Rd.ext ?_ | refine Rd.drew ?_ | refine Rd.drewN ?_ | refine Rd.set (by assumption) ?_ | refine Rd.lit (by assumption) (by simp) ?_ | refine Rd.alloc ?_ _ | omega))
  · omega
  rintro e w' ⟨u, d6, rfl, g0, g1, g2, rfl⟩
  replace g1 := g1 (by omega)
  clear g2
  by_cases hu : u = 0
  · subst hu
    go_wp2_with fail
    refine (followS_of x ⟨#[113, 47, 115]⟩ _ (by omega) (by decide)).mono ?_
    rintro e w' ⟨rfl, hb⟩
    obtain ⟨d7, os7, rfl⟩ := ext_of_below hb
    clear hb
    have hX : (mk (followF x.data.toList (⟨#[113, 47, 115]⟩ : ByteArray).data.toList)).size ≤ 54 := by rw [mk_size]; exact follow_len _ _
    generalize mk (followF x.data.toList (⟨#[113, 47, 115]⟩ : ByteArray).data.toList) = X at hX ⊢
    go_wp2_with fail
    go_region_held3 (fun w' => w'.cell? ⟨W2.heap.size, 0, none⟩ = some (.int .i64 a0) ∧ w'.cell? ⟨W2.heap.size, 1, none⟩ = some (.int .i64 b0) ∧ w'.cell? ⟨W2.heap.size, 2, none⟩ = some (.int .i64 c0) ∧ w'.cell? ⟨W2.heap.size, 3, none⟩ = some (.int .i64 d0)) (first | assumption | (go_simp; done) | fail) (first | (go_at_call 64; refine (l20Mode_any R ?_ 12 _ ?_ ?_ (by decide) (by decide)).mono ?_; rotate_left; (focus ((repeat (first | assumption | refine Rd.ext ?_ | refine Rd.drew ?_ | refine Rd.drewN ?_ | refine Rd.set (by assumption) ?_ | refine Rd.lit (by assumption) (by simp) ?_ | refine Rd.alloc ?_ _ | omega)))); (focus omega); rintro e w' ⟨mo, q4, d4, os4, rfl, j0, j1, rfl⟩))
    all_goals
      go_wp2
      refine bodyPost_ret (v := .tuple #[.slice A1 t.length cap1, .agg #[.int .i64 a0, .int .i64 b0, .int .i64 c0, .int .i64 d0], .string X, .int .i64 mo]) ?_ rfl ?_
      · simp only [results, Tryz.results29]
        go_simp
      · refine ⟨_, t, _, _, _, _, _, _, rfl, ⟨cs, TreeC.mono (B := W0.heap.size) ?_ (by omega)⟩, hn1, hn2, hX, ?_⟩
        · repeat (first | with_reducible exact HT2.out | with_reducible refine TreeC.ext ?_ | with_reducible refine TreeC.alloc ?_ _ | with_reducible refine TreeC.rset ?_ (by omega))
        · (repeat (first | with_reducible exact Hbl.out | with_reducible refine Below.ext ?_ (by first | omega | (simp; omega) | (simp; done)) | with_reducible refine Below.alloc ?_ (by first | omega | (simp; omega) | (simp; done)) _ | with_reducible refine Below.setCell ?_ (by first | omega | (simp; omega) | (simp; done)) _))
  · have hd : (u == 0) = false := by simpa using hu
    go_wp2_with fail
    go_region_held3 (fun w' => w'.cell? ⟨W2.heap.size, 0, none⟩ = some (.int .i64 a0) ∧ w'.cell? ⟨W2.heap.size, 1, none⟩ = some (.int .i64 b0) ∧ w'.cell? ⟨W2.heap.size, 2, none⟩ = some (.int .i64 c0) ∧ w'.cell? ⟨W2.heap.size, 3, none⟩ = some (.int .i64 d0)) (first | assumption | (go_simp; done) | fail) (first | (go_at_call 64; refine (l20Mode_any R ?_ 12 _ ?_ ?_ (by decide) (by decide)).mono ?_; rotate_left; (focus ((repeat (first | assumption | refine Rd.ext ?_ | refine Rd.drew ?_ | refine Rd.drewN ?_ | refine Rd.set (by assumption) ?_ | refine Rd.lit (by assumption) (by simp) ?_ | refine Rd.alloc ?_ _ | omega)))); (focus omega); rintro e w' ⟨mo, q4, d4, os4, rfl, j0, j1, rfl⟩))
    all_goals
      go_wp2
      refine bodyPost_ret (v := .tuple #[.slice A1 t.length cap1, .agg #[.int .i64 a0, .int .i64 b0, .int .i64 c0, .int .i64 d0], .string x, .int .i64 mo]) ?_ rfl ?_
      · simp only [results, Tryz.results29]
        go_simp
      · refine ⟨_, t, _, _, _, _, _, _, rfl, ⟨cs, TreeC.mono (B := W0.heap.size) ?_ (by omega)⟩, hn1, hn2, hx, ?_⟩
        · repeat (first | with_reducible exact HT2.out | with_reducible refine TreeC.ext ?_ | with_reducible refine TreeC.alloc ?_ _ | with_reducible refine TreeC.rset ?_ (by omega))
        · (repeat (first | with_reducible exact Hbl.out | with_reducible refine Below.ext ?_ (by first | omega | (simp; omega) | (simp; done)) | with_reducible refine Below.alloc ?_ (by first | omega | (simp; omega) | (simp; done)) _ | with_reducible refine Below.setCell ?_ (by first | omega | (simp; omega) | (simp; done)) _))
end Go.Proofs.YtkennmpbmbacpaaGreatDoor
