/- What is drawn: a tree, a credential and a path. -/
import Derived.Test.YtkennmpbmbacpaaGreatDoorDrawC
import Derived.Deep.RegionHeld3
set_option linter.unusedSimpArgs false
set_option linter.unusedVariables false
set_option linter.unusedSectionVars false
namespace Go.Proofs.YtkennmpbmbacpaaGreatDoor
open Go.RowKit

/-- A draw under way: the result's credential lies ahead of the reader, nothing else is known. -/
structure DS (w W : World) (R : Nat) (q : Int) : Prop where
  rd : Rd W R q
  lt : w.heap.size < R
  below : Below w.heap.size w W
  cell : ∀ i, i < 4 → W.cell? ⟨w.heap.size, i, none⟩ = some (.int .i64 0)
  froz : ∀ i, W.frozen? ⟨w.heap.size, i, none⟩ = false
theorem DS.start {w : World} {A : Option Addr} {le ca : Nat} {zs : Nat → Int} (h : Bytes (w.alloc (.cells #[.int .i64 0, .int .i64 0, .int .i64 0, .int .i64 0] 25)) (w.heap.size + 1) A le ca zs) :
    DS w ((w.alloc (.cells #[.int .i64 0, .int .i64 0, .int .i64 0, .int .i64 0] 25)).alloc (.cells #[.slice A le ca, .int .i64 0] 103)) (w.heap.size + 1) 0 := by
  have hrd : Rd ((w.alloc (.cells #[.int .i64 0, .int .i64 0, .int .i64 0, .int .i64 0] 25)).alloc (.cells #[.slice A le ca, .int .i64 0] 103)) (w.heap.size + 1) 0 := by (repeat (first | assumption | refine Rd.ext ?_ | refine Rd.drew ?_ | refine Rd.drewN ?_ | refine Rd.set (by assumption) ?_ | refine Rd.lit (by assumption) (by simp) ?_ | refine Rd.alloc ?_ _ | omega))
  refine ⟨hrd, Nat.lt_succ_self _, (by (repeat (first | exact Below.refl _ _ | exact Hbl.out | refine Below.ext ?_ (by first | omega | (simp; omega) | simp) | refine Below.setCell ?_ (by first | omega | (simp; omega) | simp) _ | refine Below.alloc ?_ (by first | omega | (simp; omega) | simp) _ | refine Below.drew ?_ | refine below_drewN ?_ _ | refine Below.step (by assumption) (by first | omega | (simp; omega) | simp) ?_))), fun i hi => ?_, fun i => by go_simp⟩
  rcases i with _ | _ | _ | _ | i
  · go_simp
  · go_simp
  · go_simp
  · go_simp
  · omega
theorem DS.step {w W W' : World} {R : Nat} {q q' : Int} (h : DS w W R q) (hq : 0 ≤ q') (hb : RB W R q' W') : DS w W' R q' := by
  have hR := h.rd.lt
  have hl := h.lt
  have hc : ∀ i, (W.setCell ⟨R, 1, none⟩ (.int .i64 q')).cell? ⟨w.heap.size, i, none⟩ = W.cell? ⟨w.heap.size, i, none⟩ := fun i => World.cell?_setCell_other _ _ _ _ (fun e => by injection e with e1; omega)
  have hs : w.heap.size < (W.setCell ⟨R, 1, none⟩ (.int .i64 q')).heap.size := by simp; omega
  refine ⟨hb.rd h.rd hq, hl, ?_, fun i hi => ((Below.cell (p := ⟨w.heap.size, i, none⟩) hb hs).trans (hc i)).trans (h.cell i hi), fun i => ?_⟩
  · exact Below.trans (Below.setCell h.below (Nat.le_of_lt hl) _) (Below.mono hb (Nat.le_of_lt hs))
  · rw [Below.frozen (p := ⟨w.heap.size, i, none⟩) hb hs, World.frozen?_setCell]
    exact h.froz i
theorem DS.pick {w W : World} {R d : Nat} {q q' : Int} {os : Array Obj} (h : DS w W R q) (hq : 0 ≤ q') : DS w (ext (W.setCell ⟨R, 1, none⟩ (.int .i64 q')) d os) R q' := h.step hq (below_ext _ _ _)
theorem TreeC.ext {B d : Nat} {os : Array Obj} {w : World} {v : Value} {cs : List Cn} {t : List Nd} (h : TreeC B w v cs t) : TreeC B (ext w d os) v cs t := h.below (below_ext _ _ _)
theorem TreeC.alloc {B : Nat} {w : World} {v : Value} {cs : List Cn} {t : List Nd} (h : TreeC B w v cs t) (o : Obj) : TreeC B (w.alloc o) v cs t := h.below (Below.alloc (Below.refl _ _) (Nat.le_refl _) _)
abbrev finW (W : World) (R g d : Nat) (u u0 u1 u2 u3 : Value) (o : Obj) (os : Array Obj) : World := Go.Proofs.YtkennmpbmbacpaaGreatDoor.ext ((((((W.setCell ⟨R, 1, none⟩ u).setCell ⟨g, 0, none⟩ u0).setCell ⟨g, 1, none⟩ u1).setCell ⟨g, 2, none⟩ u2).setCell ⟨g, 3, none⟩ u3).alloc o) d os
theorem fin_tree {B R g d : Nat} {W : World} {v u u0 u1 u2 u3 : Value} {o : Obj} {os : Array Obj} {cs : List Cn} {t : List Nd} (h : TreeC B W v cs t) (hR : R < B) (hg : g < B) : TreeC B (finW W R g d u u0 u1 u2 u3 o os) v cs t :=
  ((((((h.rset hR).rset hg).rset hg).rset hg).rset hg).alloc o).ext
theorem fin_below {A R g d : Nat} {w W : World} {u u0 u1 u2 u3 : Value} {o : Obj} {os : Array Obj} (h : Below A w W) (hR : A ≤ R) (hg : A ≤ g) (hz : A ≤ W.heap.size) : Below A w (finW W R g d u u0 u1 u2 u3 o os) :=
  Below.ext (Below.alloc (Below.setCell (Below.setCell (Below.setCell (Below.setCell (Below.setCell h hR _) hg _) hg _) hg _) hg _) (by simp; exact hz) _) (by simp; omega)
/-- A tree, a credential and a text are drawn. -/
def GotF (w : World) (e : Ending) (w' : World) : Prop := ∃ (v : Value) (t : List Nd) (a b c d : Int) (s : ByteArray), e = .returned (.tuple #[v, .agg #[.int .i64 a, .int .i64 b, .int .i64 c, .int .i64 d], .string s]) ∧ TreeO w.heap.size w' v t ∧ t.length ≤ 20 ∧ (kidsOf t).length ≤ 16 ∧ s.size ≤ 54 ∧ Below w.heap.size w w'
set_option maxRecDepth 100000 in
set_option maxHeartbeats 8000000 in
theorem drawFN_any (a : Option Addr) (len cap : Nat) (zs : List Int) (w : World) (hrow : IsRow .u8 w a len cap zs) : Calls Tryz.prog 38 #[.slice a len cap] w (GotF w) := by
  go_enter Tryz.func38, Tryz.ntmps38
  go_wp2_with (go_at_call 58; refine (open_any _ _ _ _ _ (IsRow.below hrow (by repeat (first | exact Below.refl _ _ | refine Below.alloc ?_ (by simp; try omega) _)))).mono ?_; rintro e w' ⟨A, le, ca, rfl, rfl, zs', hby⟩; (try simp only [World.size_alloc] at hby))
  have D0 := DS.start hby
  obtain ⟨W0, hW0⟩ : ∃ W0, W0 = ((w.alloc (.cells #[.int .i64 0, .int .i64 0, .int .i64 0, .int .i64 0] 25)).alloc (.cells #[.slice A le ca, .int .i64 0] 103)) := ⟨_, rfl⟩
  have hz0 : W0.heap.size = w.heap.size + 2 := by rw [hW0]; simp
  rw [← hW0] at D0 ⊢
  obtain ⟨R, hR⟩ : ∃ R, R = w.heap.size + 1 := ⟨_, rfl⟩
  rw [← hR] at D0
  simp only [← hR]
  have hRz : R < W0.heap.size := by omega
  clear hW0 hR hby hrow hz0
  refine (l20Tree_any R 0 14 W0 D0.rd (by decide) (by decide) (by decide)).mono ?_
  rintro e W1 ⟨v, cs, t, q1, rfl, hT, h1, h2, h3, k0, k1, hRB⟩
  have D1 := D0.step k0 hRB
  have hr1 := D1.rd
  have HT1 := Lib.hid hT
  have HD1 := Lib.hid D1
  have hlt := D0.lt
  obtain ⟨A1, cap1, rfl⟩ := (TreeO.r ⟨_, hT⟩).shape
  clear D0 D1 hT hRB h3
  go_wp2_with fail
  refine (l20Cred_any R q1 14 W1 hr1 (by omega) (by decide) (by decide)).mono ?_
  rintro e W2 ⟨_, q2, d2, os2, rfl, k2, k3, ⟨a0, b0, c0, d0, rfl⟩, hW2⟩
  have D2 := HD1.out.pick (d := d2) (os := os2) (q' := q2) (by omega)
  have T2 := HT1.out.pick (d := d2) (os := os2) (i := 1) (u := .int .i64 q2) hRz
  rw [← hW2] at D2 T2
  have hr2 := D2.rd
  have HT2 := Lib.hid T2
  have Hbl := Lib.hid D2.below
  have y0 := D2.cell 0 (by decide)
  have y1 := D2.cell 1 (by decide)
  have y2 := D2.cell 2 (by decide)
  have y3 := D2.cell 3 (by decide)
  have f0 := D2.froz 0
  have f1 := D2.froz 1
  have f2 := D2.froz 2
  have f3 := D2.froz 3
  have hz2 : w.heap.size < W2.heap.size := by have := D2.rd.lt; omega
  have hne : w.heap.size ≠ R := by omega
  have hRz2 : R < W2.heap.size := D2.rd.lt
  have hne2 : R ≠ W2.heap.size := by omega
  have hne3 : W2.heap.size ≠ R := by omega
  have HR2 := Lib.hid (TreeO.r ⟨_, T2⟩)
  have HW := Lib.hid (fun w hr h => l20Where_any R q2 (.slice A1 t.length cap1) t w hr (by omega) h (by omega) h2)
  clear hW2 D2 T2 HD1 HT1 hr1
  go_wp2_with fail
  go_region_held3 (fun w' => w'.cell? ⟨W2.heap.size, 0, none⟩ = some (.int .i64 a0) ∧ w'.cell? ⟨W2.heap.size, 1, none⟩ = some (.int .i64 b0) ∧ w'.cell? ⟨W2.heap.size, 2, none⟩ = some (.int .i64 c0) ∧ w'.cell? ⟨W2.heap.size, 3, none⟩ = some (.int .i64 d0)) (first | assumption | (go_simp; done) | fail) (first | (go_at_call 72; refine (HW.out _ ?_ (HR2.out.below (by (repeat (first | exact Below.refl _ _ | exact Hbl.out | refine Below.ext ?_ (by first | omega | (simp; omega) | simp) | refine Below.setCell ?_ (by first | omega | (simp; omega) | simp) _ | refine Below.alloc ?_ (by first | omega | (simp; omega) | simp) _ | refine Below.drew ?_ | refine below_drewN ?_ _ | refine Below.step (by assumption) (by first | omega | (simp; omega) | simp) ?_))))).mono ?_; (focus ((repeat (first | assumption | refine Rd.ext ?_ | refine Rd.drew ?_ | refine Rd.drewN ?_ | refine Rd.set (by assumption) ?_ | refine Rd.lit (by assumption) (by simp) ?_ | refine Rd.alloc ?_ _ | omega)))); rintro e w' ⟨_, q3, d3, os3, rfl, k4, k5, ⟨x, rfl, hx⟩, rfl⟩))
  all_goals
    go_wp2
    refine bodyPost_ret (v := .tuple #[.slice A1 t.length cap1, .agg #[.int .i64 a0, .int .i64 b0, .int .i64 c0, .int .i64 d0], .string x]) ?_ rfl ?_
    · simp only [results, Tryz.results38]
      go_simp
    · refine ⟨_, t, _, _, _, _, _, rfl, ⟨cs, TreeC.mono (B := W0.heap.size) ?_ (by omega)⟩, h1, h2, hx, ?_⟩
      · exact fin_tree HT2.out hRz (by omega)
      · exact fin_below Hbl.out (by omega) (Nat.le_refl _) (by omega)
end Go.Proofs.YtkennmpbmbacpaaGreatDoor
