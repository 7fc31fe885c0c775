/- Handles: what is drawn. -/
import Derived.Test.YthcmecgmidopoaaMG
import Derived.Test.YthcmecgmidopoaaSel12
import Derived.Deep.RegionHeld3
import Derived.Deep.Cut
import Derived.Deep.CutRange
set_option linter.unusedSimpArgs false
set_option linter.unusedVariables false
set_option linter.unusedSectionVars false
namespace Go.Proofs.Ythcmecgmidopoaa
open Go.RowKit

/-- The box of a handle. -/
structure HBox (w : World) (g : Nat) (f a r : Int) : Prop where
  c0 : w.cell? ⟨g, 0, none⟩ = some (.int .i64 f)
  c1 : w.cell? ⟨g, 1, none⟩ = some (.int .i64 a)
  c2 : w.cell? ⟨g, 2, none⟩ = some (.int .i64 r)
  fz : ∀ i, w.frozen? ⟨g, i, none⟩ = false
  lt : g < w.heap.size
section
variable {w w' : World} {g g' B i : Nat} {f a r n : Int} {z : Value}
theorem HBox.other (h : HBox w g f a r) (hne : g ≠ g') : HBox (w.setCell ⟨g', i, none⟩ z) g f a r := by
  have hc : ∀ j, (w.setCell ⟨g', i, none⟩ z).cell? ⟨g, j, none⟩ = w.cell? ⟨g, j, none⟩ := fun j => World.cell?_setCell_other _ _ _ _ (fun e => hne (by cases e; rfl))
  obtain ⟨h0, h1, h2, h7, h8⟩ := h
  exact ⟨(hc _).trans h0, (hc _).trans h1, (hc _).trans h2, fun i => by rw [World.frozen?_setCell]; exact h7 i, by simpa using h8⟩
theorem HBox.set0 (h : HBox w g f a r) : HBox (w.setCell ⟨g, 0, none⟩ (.int .i64 n)) g n a r := by
  obtain ⟨h0, h1, h2, h7, h8⟩ := h
  exact ⟨by go_simp, by go_simp, by go_simp, fun i => by rw [World.frozen?_setCell]; exact h7 i, by simpa using h8⟩
end
/-- A handle is drawn. -/
def DrewH (w : World) (R : Nat) (p : Int) (n : Int) (e : Ending) (w' : World) : Prop := ∃ f a r q : Int, e = .returned (.agg #[.int .i64 f, .int .i64 a, .int .i64 r]) ∧ -1 ≤ f ∧ f ≤ n ∧ -1 ≤ a ∧ a ≤ 41 ∧ -1 ≤ r ∧ r ≤ 8 ∧ p ≤ q ∧ q ≤ p + 10 ∧ RB w R q w'
theorem DrewH.mk {w w' : World} {R : Nat} {p n f a r q : Int} (h : RB w R q w') (f0 : -1 ≤ f) (f1 : f ≤ n) (a0 : -1 ≤ a) (a1 : a ≤ 41) (r0 : -1 ≤ r) (r1 : r ≤ 8) (h1 : p ≤ q) (h2 : q ≤ p + 10) : DrewH w R p n (.returned (.agg #[.int .i64 f, .int .i64 a, .int .i64 r])) w' :=
  ⟨f, a, r, q, rfl, f0, f1, a0, a1, r0, r1, h1, h2, h⟩
section
variable {w wr : World} {R G Z i d : Nat} {q q0 : Int} {u u0 u1 u2 : Value} {o : Obj} {os : Array Obj}
theorem rb_finA (h : RB w R q0 wr) (hR : R < w.heap.size) (hG : w.heap.size ≤ G) (hZ : w.heap.size ≤ Z) : RB w R q (ext ((((((wr.setCell ⟨R, 1, none⟩ (.int .i64 q)).setCell ⟨G, i, none⟩ u).setCell ⟨Z, 0, none⟩ u0).setCell ⟨Z, 1, none⟩ u1).setCell ⟨Z, 2, none⟩ u2).alloc o) d os) :=
  RB.step (RB.step (RB.store (RB.store (RB.store (RB.store (RB.rset h hR) hG) hZ) hZ) hZ) (Below.alloc (Below.refl _ _) (Nat.le_refl _) _)) (below_ext _ _ _)
theorem rb_finB (h : RB w R q0 wr) (hR : R < w.heap.size) (hZ : w.heap.size ≤ Z) : RB w R q (ext ((((wr.setCell ⟨R, 1, none⟩ (.int .i64 q)).setCell ⟨Z, 0, none⟩ u0).setCell ⟨Z, 1, none⟩ u1).setCell ⟨Z, 2, none⟩ u2) d os) :=
  RB.step (RB.store (RB.store (RB.store (RB.rset h hR) hZ) hZ) hZ) (below_ext _ _ _)
end
theorem sel4r {z r : Int} (h0 : 0 ≤ z) (h1 : z < 4) (r0 : 0 ≤ r) (r1 : r < 8) : 0 ≤ selN z [6, 4, 2, r] ∧ selN z [6, 4, 2, r] < 8 := by
  have : z = 0 ∨ z = 1 ∨ z = 2 ∨ z = 3 := by omega
  rcases this with rfl | rfl | rfl | rfl <;> simp [selN] <;> omega
theorem sel3y {z n : Int} (h0 : 0 ≤ z) (h1 : z < 3) (hn : 0 ≤ n) : -1 ≤ selN z [-1, n, 0] ∧ selN z [-1, n, 0] ≤ n := by
  have : z = 0 ∨ z = 1 ∨ z = 2 := by omega
  rcases this with rfl | rfl | rfl <;> simp [selN] <;> omega
theorem sel3x {z : Int} (h0 : 0 ≤ z) (h1 : z < 3) : -1 ≤ selN z [-1, 41, 40] ∧ selN z [-1, 41, 40] ≤ 41 := by
  have : z = 0 ∨ z = 1 ∨ z = 2 := by omega
  rcases this with rfl | rfl | rfl <;> simp [selN]
theorem sel2x {z : Int} (h0 : 0 ≤ z) (h1 : z < 2) : -1 ≤ selN z [-1, 8] ∧ selN z [-1, 8] ≤ 8 := by
  have : z = 0 ∨ z = 1 := by omega
  rcases this with rfl | rfl <;> simp [selN]
set_option maxRecDepth 100000 in
set_option maxHeartbeats 40000000 in
theorem l20Handle_any (R : Nat) (p : Int) (v : Value) (t : List Nd) (w : World) (hr : Rd w R p) (hp : p ≤ 1000000000) (h : ∀ q : Int, TreeR (w.setCell ⟨R, 1, none⟩ (.int .i64 q)) v t) (hl : t.length ≤ 20) : Calls Try.prog 47 #[.pointer (some ⟨R, 0, none⟩), v] w (DrewH w R p t.length) := by
  have hR := hr.lt
  have hp0 := hr.pos
  have H := Lib.hid h
  have HR := Lib.hid hr
  obtain ⟨A, cap, rfl⟩ := (h 0).shape
  have hcap := (h 0).caps
  clear h
  go_enter Try.func47, Try.ntmps47
  go_upto_region 1 with fail
  go_cut [5] from 7 to 21 (fun x wx => x = .pointer (some ⟨w.heap.size + 2, 0, none⟩) ∧ ∃ f a r : Int, 0 ≤ f ∧ (f < (t.length : Int) ∨ f = 0) ∧ 0 ≤ a ∧ a < 7 ∧ 0 ≤ r ∧ r < 8 ∧ RB w R (p + 4) wx ∧ HBox wx (w.heap.size + 2) f a r ∧ HBox wx w.heap.size 0 0 0)
  case first =>
    go_wp2_with fail
    all_goals
      refine (pick_any _ ?_ _ _ ?_ ?_).mono ?_; rotate_left; (focus ((repeat (first | assumption | refine Rd.ext ?_ | refine Rd.drew ?_ | refine Rd.drewN ?_ | refine Rd.set (by assumption) ?_ | refine Rd.lit (by assumption) (by simp) ?_ | refine Rd.alloc ?_ _ | omega)))); (focus omega); rintro e w' ⟨f, df, rfl, lf, hf, h2, rfl⟩; replace hf := hf (by omega); clear h2
      (go_wp2_with fail); refine (pick_any _ ?_ _ _ ?_ ?_).mono ?_; rotate_left; (focus ((repeat (first | assumption | refine Rd.ext ?_ | refine Rd.drew ?_ | refine Rd.drewN ?_ | refine Rd.set (by assumption) ?_ | refine Rd.lit (by assumption) (by simp) ?_ | refine Rd.alloc ?_ _ | omega)))); (focus omega); rintro e w' ⟨a, da, rfl, la, ha, h2, rfl⟩; replace ha := ha (by omega); clear h2
      (go_wp2_with fail); refine (pick_any _ ?_ _ _ ?_ ?_).mono ?_; rotate_left; (focus ((repeat (first | assumption | refine Rd.ext ?_ | refine Rd.drew ?_ | refine Rd.drewN ?_ | refine Rd.set (by assumption) ?_ | refine Rd.lit (by assumption) (by simp) ?_ | refine Rd.alloc ?_ _ | omega)))); (focus omega); rintro e w' ⟨r, dr, rfl, lr, hr, h2, rfl⟩; replace hr := hr (by omega); clear h2
      (go_wp2_with fail); refine (pick_any _ ?_ _ _ ?_ ?_).mono ?_; rotate_left; (focus ((repeat (first | assumption | refine Rd.ext ?_ | refine Rd.drew ?_ | refine Rd.drewN ?_ | refine Rd.set (by assumption) ?_ | refine Rd.lit (by assumption) (by simp) ?_ | refine Rd.alloc ?_ _ | omega)))); (focus omega); rintro e w' ⟨z, dz, rfl, lz, hz, h2, rfl⟩; replace hz := hz (by omega); clear h2
      go_wp2_with fail
      go_meet
      refine ⟨rfl, f, a, selN z [6, 4, 2, r], lf, by omega, la, ha, (sel4r lz hz lr hr).1, (sel4r lz hz lr hr).2, ?_, ?_, ?_⟩
      · rw [show p + 4 = p + 1 + 1 + 1 + 1 from by omega]
        unfold RB
        (repeat (first | exact Below.refl _ _ | exact Hbl.out | refine Below.ext ?_ (by first | omega | (simp; omega) | simp) | refine Below.setCell ?_ (by first | omega | (simp; omega) | simp) _ | refine Below.alloc ?_ (by first | omega | (simp; omega) | simp) _ | refine Below.drew ?_ | refine below_drewN ?_ _ | refine Below.step (by assumption) (by first | omega | (simp; omega) | simp) ?_))
      · exact ⟨by go_simp, by go_simp, by go_simp, fun i => by go_simp, by go_simp⟩
      · exact ⟨by go_simp, by go_simp, by go_simp, fun i => by go_simp, by go_simp⟩
  case rest =>
    obtain ⟨rfl, f, a, r, f0, f1, a0, a1, r0, r1, hRx, hG, hZ⟩ := hcut
    obtain ⟨G, hGw⟩ : ∃ G, G = w.heap.size + 2 := ⟨_, rfl⟩
    rw [← hGw] at hG ⊢
    have hG1 : w.heap.size < G := by omega
    have hRG : R < G := by omega
    clear hGw
    have HG := Lib.hid hG
    have HZ := Lib.hid hZ
    have HX := Lib.hid hRx
    clear hG hZ hRx
    go_wp2
    go_loopw [6] (fun i wr => ∃ (k : Nat) (f : Int), i = .int .i64 k ∧ k ≤ t.length ∧ 0 ≤ f ∧ (f < (t.length : Int) ∨ f = 0) ∧ RB w R (p + 4) wr ∧ HBox wr G f a r ∧ HBox wr w.heap.size 0 0 0) (fun i _ => t.length - (intOf i).toNat)
    case atStart => exact ⟨0, f, rfl, Nat.zero_le _, f0, f1, HX.out, HG.out, HZ.out⟩
    case round =>
      clear HG HZ HX f0 f1
      obtain ⟨k, f, rfl, hk, f0, f1, hRr, hG, hZ⟩ := hrel
      obtain ⟨c0, c1, c2, cf, hGl⟩ := id hG
      obtain ⟨z0, z1, z2, zf, hZl⟩ := id hZ
      have cf0 := cf 0
      have cf1 := cf 1
      have cf2 := cf 2
      have zf0 := zf 0
      have zf1 := zf 1
      have zf2 := zf 2
      have HG := Lib.hid hG
      have HZ := Lib.hid hZ
      have HX := Lib.hid hRr
      clear hG hZ cf zf
      by_cases hlt : k < t.length
      · have hlt' : (k : Int) < (t.length : Int) := by omega
        have zk : IntKind.i64.wrap ((k : Int) + 1) = (k : Int) + 1 := IntWalk.i64_in _ (by omega)
        obtain ⟨m, rfl⟩ : ∃ m : Nat, f = (m : Int) := ⟨f.toNat, by omega⟩
        have hm : m < t.length := by omega
        have hm' : (m : Int) < (t.length : Int) := by omega
        have zm : IntKind.i64.wrap ((m : Int) + 1) = (m : Int) + 1 := IntWalk.i64_in _ (by omega)
        obtain ⟨bt, ot, nA, nC, kA, kC, rfl, hbt, _, y0, _⟩ := ((H.out (p + 4)).below hRr).at_ (kth_at hm)
        cases hfo : (kth t m).fo
        · rw [hfo] at y0
          have hr5 := RB.rd hRr HR.out (by omega)
          go_wp2_with (go_at_call 65; refine (odd_any _ ?_ _ _ ?_ ?_ ?_ ?_).mono ?_; rotate_left; (focus ((repeat (first | assumption | refine Rd.ext ?_ | refine Rd.drew ?_ | refine Rd.drewN ?_ | refine Rd.set (by assumption) ?_ | refine Rd.lit (by assumption) (by simp) ?_ | refine Rd.alloc ?_ _ | omega)))); (focus omega); (focus omega); (focus omega); rintro e w' ⟨b, d, rfl, rfl⟩)
          · refine (pick_any _ ?_ _ _ ?_ ?_).mono ?_; rotate_left; (focus ((repeat (first | assumption | refine Rd.ext ?_ | refine Rd.drew ?_ | refine Rd.drewN ?_ | refine Rd.set (by assumption) ?_ | refine Rd.lit (by assumption) (by simp) ?_ | refine Rd.alloc ?_ _ | omega)))); (focus omega); rintro e w' ⟨y, dy, rfl, ly, hy, h2, rfl⟩; replace hy := hy (by omega); clear h2
            have hy : y = 0 ∨ y = 1 ∨ y = 2 := by omega
            rcases hy with rfl | rfl | rfl
            · (go_wp2_with fail); refine (pick_any _ ?_ _ _ ?_ ?_).mono ?_; rotate_left; (focus ((repeat (first | assumption | refine Rd.ext ?_ | refine Rd.drew ?_ | refine Rd.drewN ?_ | refine Rd.set (by assumption) ?_ | refine Rd.lit (by assumption) (by simp) ?_ | refine Rd.alloc ?_ _ | omega)))); (focus omega); rintro e w' ⟨u, du, rfl, lu, hu, h2, rfl⟩; replace hu := hu (by omega); clear h2
              go_wp2
              simp [bodyPost, results, Try.results47, go_sem, z0, z1, z2, c0, c1, c2]
              with_reducible refine DrewH.mk (q := p + 4 + 1 + 1 + 1) ?_ ((sel3y lu hu (by omega)).1) ((sel3y lu hu (by omega)).2) (by omega) (by omega) (by omega) (by omega) (by omega) (by omega)
              exact rb_finA HX.out hR (by omega) (Nat.le_refl _)
            · (go_wp2_with fail); refine (pick_any _ ?_ _ _ ?_ ?_).mono ?_; rotate_left; (focus ((repeat (first | assumption | refine Rd.ext ?_ | refine Rd.drew ?_ | refine Rd.drewN ?_ | refine Rd.set (by assumption) ?_ | refine Rd.lit (by assumption) (by simp) ?_ | refine Rd.alloc ?_ _ | omega)))); (focus omega); rintro e w' ⟨u, du, rfl, lu, hu, h2, rfl⟩; replace hu := hu (by omega); clear h2
              go_wp2
              simp [bodyPost, results, Try.results47, go_sem, z0, z1, z2, c0, c1, c2]
              with_reducible refine DrewH.mk (q := p + 4 + 1 + 1 + 1) ?_ (by omega) (by omega) ((sel3x lu hu).1) ((sel3x lu hu).2) (by omega) (by omega) (by omega) (by omega)
              exact rb_finA HX.out hR (by omega) (Nat.le_refl _)
            · (go_wp2_with fail); refine (pick_any _ ?_ _ _ ?_ ?_).mono ?_; rotate_left; (focus ((repeat (first | assumption | refine Rd.ext ?_ | refine Rd.drew ?_ | refine Rd.drewN ?_ | refine Rd.set (by assumption) ?_ | refine Rd.lit (by assumption) (by simp) ?_ | refine Rd.alloc ?_ _ | omega)))); (focus omega); rintro e w' ⟨u, du, rfl, lu, hu, h2, rfl⟩; replace hu := hu (by omega); clear h2
              go_wp2
              simp [bodyPost, results, Try.results47, go_sem, z0, z1, z2, c0, c1, c2]
              with_reducible refine DrewH.mk (q := p + 4 + 1 + 1 + 1) ?_ (by omega) (by omega) (by omega) (by omega) ((sel2x lu hu).1) ((sel2x lu hu).2) (by omega) (by omega)
              exact rb_finA HX.out hR (by omega) (Nat.le_refl _)
          · go_wp2
            simp [bodyPost, results, Try.results47, go_sem, z0, z1, z2, c0, c1, c2]
            with_reducible refine DrewH.mk (q := p + 4 + 1) ?_ (by omega) (by omega) (by omega) (by omega) (by omega) (by omega) (by omega) (by omega)
            exact rb_finB HX.out hR (Nat.le_refl _)
        · rw [hfo] at y0
          clear hRr
          go_wp2
          exact ⟨⟨k + 1, _, by go_num, hlt, Int.emod_nonneg _ (by omega), .inl (Int.emod_lt_of_pos _ (by omega)), RB.store HX.out (by omega), HG.out.set0, HZ.out.other (by omega)⟩, by simp [intOf]; omega⟩
      · obtain rfl : k = t.length := by omega
        have hr5 := RB.rd hRr HR.out (by omega)
        go_wp2_with (go_at_call 65; refine (odd_any _ ?_ _ _ ?_ ?_ ?_ ?_).mono ?_; rotate_left; (focus ((repeat (first | assumption | refine Rd.ext ?_ | refine Rd.drew ?_ | refine Rd.drewN ?_ | refine Rd.set (by assumption) ?_ | refine Rd.lit (by assumption) (by simp) ?_ | refine Rd.alloc ?_ _ | omega)))); (focus omega); (focus omega); (focus omega); rintro e w' ⟨b, d, rfl, rfl⟩)
        · refine (pick_any _ ?_ _ _ ?_ ?_).mono ?_; rotate_left; (focus ((repeat (first | assumption | refine Rd.ext ?_ | refine Rd.drew ?_ | refine Rd.drewN ?_ | refine Rd.set (by assumption) ?_ | refine Rd.lit (by assumption) (by simp) ?_ | refine Rd.alloc ?_ _ | omega)))); (focus omega); rintro e w' ⟨y, dy, rfl, ly, hy, h2, rfl⟩; replace hy := hy (by omega); clear h2
          have hy : y = 0 ∨ y = 1 ∨ y = 2 := by omega
          rcases hy with rfl | rfl | rfl
          · (go_wp2_with fail); refine (pick_any _ ?_ _ _ ?_ ?_).mono ?_; rotate_left; (focus ((repeat (first | assumption | refine Rd.ext ?_ | refine Rd.drew ?_ | refine Rd.drewN ?_ | refine Rd.set (by assumption) ?_ | refine Rd.lit (by assumption) (by simp) ?_ | refine Rd.alloc ?_ _ | omega)))); (focus omega); rintro e w' ⟨u, du, rfl, lu, hu, h2, rfl⟩; replace hu := hu (by omega); clear h2
            go_wp2
            simp [bodyPost, results, Try.results47, go_sem, z0, z1, z2, c0, c1, c2]
            with_reducible refine DrewH.mk (q := p + 4 + 1 + 1 + 1) ?_ ((sel3y lu hu (by omega)).1) ((sel3y lu hu (by omega)).2) (by omega) (by omega) (by omega) (by omega) (by omega) (by omega)
            exact rb_finA HX.out hR (by omega) (Nat.le_refl _)
          · (go_wp2_with fail); refine (pick_any _ ?_ _ _ ?_ ?_).mono ?_; rotate_left; (focus ((repeat (first | assumption | refine Rd.ext ?_ | refine Rd.drew ?_ | refine Rd.drewN ?_ | refine Rd.set (by assumption) ?_ | refine Rd.lit (by assumption) (by simp) ?_ | refine Rd.alloc ?_ _ | omega)))); (focus omega); rintro e w' ⟨u, du, rfl, lu, hu, h2, rfl⟩; replace hu := hu (by omega); clear h2
            go_wp2
            simp [bodyPost, results, Try.results47, go_sem, z0, z1, z2, c0, c1, c2]
            with_reducible refine DrewH.mk (q := p + 4 + 1 + 1 + 1) ?_ (by omega) (by omega) ((sel3x lu hu).1) ((sel3x lu hu).2) (by omega) (by omega) (by omega) (by omega)
            exact rb_finA HX.out hR (by omega) (Nat.le_refl _)
          · (go_wp2_with fail); refine (pick_any _ ?_ _ _ ?_ ?_).mono ?_; rotate_left; (focus ((repeat (first | assumption | refine Rd.ext ?_ | refine Rd.drew ?_ | refine Rd.drewN ?_ | refine Rd.set (by assumption) ?_ | refine Rd.lit (by assumption) (by simp) ?_ | refine Rd.alloc ?_ _ | omega)))); (focus omega); rintro e w' ⟨u, du, rfl, lu, hu, h2, rfl⟩; replace hu := hu (by omega); clear h2
            go_wp2
            simp [bodyPost, results, Try.results47, go_sem, z0, z1, z2, c0, c1, c2]
            with_reducible refine DrewH.mk (q := p + 4 + 1 + 1 + 1) ?_ (by omega) (by omega) (by omega) (by omega) ((sel2x lu hu).1) ((sel2x lu hu).2) (by omega) (by omega)
            exact rb_finA HX.out hR (by omega) (Nat.le_refl _)
        · go_wp2
          simp [bodyPost, results, Try.results47, go_sem, z0, z1, z2, c0, c1, c2]
          with_reducible refine DrewH.mk (q := p + 4 + 1) ?_ (by omega) (by omega) (by omega) (by omega) (by omega) (by omega) (by omega) (by omega)
          exact rb_finB HX.out hR (Nat.le_refl _)
end Go.Proofs.Ythcmecgmidopoaa
