/- What is drawn: a tree, a credential and a path. -/
import Derived.Test.YthcmecgmidopoaaDrawC
import Derived.Deep.RegionHeld3
set_option linter.unusedSimpArgs false
set_option linter.unusedVariables false
set_option linter.unusedSectionVars false
namespace Go.Proofs.Ythcmecgmidopoaa
open Go.RowKit

/-- A draw under way: the result's credential lies ahead of the reader, nothing else is known. -/
structure DS (w W : World) (R : Nat) (q : Int) : Prop where
  rd : Rd W R q
  lt : w.heap.size < R
  below : Below w.heap.size w W
  cell : ∀ i, i < 4 → W.cell? ⟨w.heap.size, i, none⟩ = some (.int .i64 0)
  froz : ∀ i, W.frozen? ⟨w.heap.size, i, none⟩ = false
theorem DS.start {w : World} {A : Option Addr} {le ca : Nat} {zs : Nat → Int} (h : Bytes (w.alloc (.cells #[.int .i64 0, .int .i64 0, .int .i64 0, .int .i64 0] 75)) (w.heap.size + 1) A le ca zs) :
    DS w ((w.alloc (.cells #[.int .i64 0, .int .i64 0, .int .i64 0, .int .i64 0] 75)).alloc (.cells #[.slice A le ca, .int .i64 0] 85)) (w.heap.size + 1) 0 := by
  have hrd : Rd ((w.alloc (.cells #[.int .i64 0, .int .i64 0, .int .i64 0, .int .i64 0] 75)).alloc (.cells #[.slice A le ca, .int .i64 0] 85)) (w.heap.size + 1) 0 := by (repeat (first | assumption | refine Rd.ext ?_ | refine Rd.drew ?_ | refine Rd.drewN ?_ | refine Rd.set (by assumption) ?_ | refine Rd.lit (by assumption) (by simp) ?_ | refine Rd.alloc ?_ _ | omega))
  refine ⟨hrd, Nat.lt_succ_self _, (by (repeat (first | exact Below.refl _ _ | exact Hbl.out | refine Below.ext ?_ (by first | omega | (simp; omega) | simp) | refine Below.setCell ?_ (by first | omega | (simp; omega) | simp) _ | refine Below.alloc ?_ (by first | omega | (simp; omega) | simp) _ | refine Below.drew ?_ | refine below_drewN ?_ _ | refine Below.step (by assumption) (by first | omega | (simp; omega) | simp) ?_))), fun i hi => ?_, fun i => by go_simp⟩
  rcases i with _ | _ | _ | _ | i
  · go_simp
  · go_simp
  · go_simp
  · go_simp
  · omega
theorem DS.step {w W W' : World} {R : Nat} {q q' : Int} (h : DS w W R q) (hq : 0 ≤ q') (hb : RB W R q' W') : DS w W' R q' := by
  have hR := h.rd.lt
  have hl := h.lt
  have hc : ∀ i, (W.setCell ⟨R, 1, none⟩ (.int .i64 q')).cell? ⟨w.heap.size, i, none⟩ = W.cell? ⟨w.heap.size, i, none⟩ := fun i => World.cell?_setCell_other _ _ _ _ (fun e => by injection e with e1; omega)
  have hs : w.heap.size < (W.setCell ⟨R, 1, none⟩ (.int .i64 q')).heap.size := by simp; omega
  refine ⟨hb.rd h.rd hq, hl, ?_, fun i hi => ((Below.cell (p := ⟨w.heap.size, i, none⟩) hb hs).trans (hc i)).trans (h.cell i hi), fun i => ?_⟩
  · exact Below.trans (Below.setCell h.below (Nat.le_of_lt hl) _) (Below.mono hb (Nat.le_of_lt hs))
  · rw [Below.frozen (p := ⟨w.heap.size, i, none⟩) hb hs, World.frozen?_setCell]
    exact h.froz i
theorem DS.pick {w W : World} {R d : Nat} {q q' : Int} {os : Array Obj} (h : DS w W R q) (hq : 0 ≤ q') : DS w (ext (W.setCell ⟨R, 1, none⟩ (.int .i64 q')) d os) R q' := h.step hq (below_ext _ _ _)
theorem TreeC.ext {B d : Nat} {os : Array Obj} {w : World} {v : Value} {cs : List Cn} {t : List Nd} (h : TreeC B w v cs t) : TreeC B (ext w d os) v cs t := h.below (below_ext _ _ _)
theorem TreeC.alloc {B : Nat} {w : World} {v : Value} {cs : List Cn} {t : List Nd} (h : TreeC B w v cs t) (o : Obj) : TreeC B (w.alloc o) v cs t := h.below (Below.alloc (Below.refl _ _) (Nat.le_refl _) _)
abbrev finW (W : World) (R g d : Nat) (u u0 u1 u2 u3 : Value) (o : Obj) (os : Array Obj) : World := Go.Proofs.Ythcmecgmidopoaa.ext ((((((W.setCell ⟨R, 1, none⟩ u).setCell ⟨g, 0, none⟩ u0).setCell ⟨g, 1, none⟩ u1).setCell ⟨g, 2, none⟩ u2).setCell ⟨g, 3, none⟩ u3).alloc o) d os
theorem fin_tree {B R g d : Nat} {W : World} {v u u0 u1 u2 u3 : Value} {o : Obj} {os : Array Obj} {cs : List Cn} {t : List Nd} (h : TreeC B W v cs t) (hR : R < B) (hg : g < B) : TreeC B (finW W R g d u u0 u1 u2 u3 o os) v cs t :=
  ((((((h.rset hR).rset hg).rset hg).rset hg).rset hg).alloc o).ext
theorem fin_below {A R g d : Nat} {w W : World} {u u0 u1 u2 u3 : Value} {o : Obj} {os : Array Obj} (h : Below A w W) (hR : A ≤ R) (hg : A ≤ g) (hz : A ≤ W.heap.size) : Below A w (finW W R g d u u0 u1 u2 u3 o os) :=
  Below.ext (Below.alloc (Below.setCell (Below.setCell (Below.setCell (Below.setCell (Below.setCell h hR _) hg _) hg _) hg _) hg _) (by simp; exact hz) _) (by simp; omega)
/-- A tree, a credential and a text are drawn. -/
def GotF (w : World) (e : Ending) (w' : World) : Prop := ∃ (v : Value) (t : List Nd) (a b c d : Int) (s : ByteArray), e = .returned (.tuple #[v, .agg #[.int .i64 a, .int .i64 b, .int .i64 c, .int .i64 d], .string s]) ∧ TreeO w.heap.size w' v t ∧ t.length ≤ 20 ∧ (kidsOf t).length ≤ 16 ∧ s.size ≤ 54 ∧ Below w.heap.size w w'
end Go.Proofs.Ythcmecgmidopoaa
