/- What is drawn: a tree, a handle and a number. -/
import Derived.Test.YthcmecgmidopoaaDrawH
set_option linter.unusedSimpArgs false
set_option linter.unusedVariables false
set_option linter.unusedSectionVars false
namespace Go.Proofs.Ythcmecgmidopoaa
open Go.RowKit

/-- A draw under way: the result's handle lies ahead of the reader, nothing else is known. -/
structure DH (w W : World) (R : Nat) (q : Int) : Prop where
  rd : Rd W R q
  lt : w.heap.size < R
  below : Below w.heap.size w W
  cell : ∀ i, i < 3 → W.cell? ⟨w.heap.size, i, none⟩ = some (.int .i64 0)
  froz : ∀ i, W.frozen? ⟨w.heap.size, i, none⟩ = false
theorem DH.start {w : World} {A : Option Addr} {le ca : Nat} {zs : Nat → Int} (h : Bytes (w.alloc (.cells #[.int .i64 0, .int .i64 0, .int .i64 0] 40)) (w.heap.size + 1) A le ca zs) :
    DH w ((w.alloc (.cells #[.int .i64 0, .int .i64 0, .int .i64 0] 40)).alloc (.cells #[.slice A le ca, .int .i64 0] 85)) (w.heap.size + 1) 0 := by
  have hrd : Rd ((w.alloc (.cells #[.int .i64 0, .int .i64 0, .int .i64 0] 40)).alloc (.cells #[.slice A le ca, .int .i64 0] 85)) (w.heap.size + 1) 0 := by (repeat (first | assumption | refine Rd.ext ?_ | refine Rd.drew ?_ | refine Rd.drewN ?_ | refine Rd.set (by assumption) ?_ | refine Rd.lit (by assumption) (by simp) ?_ | refine Rd.alloc ?_ _ | omega))
  refine ⟨hrd, Nat.lt_succ_self _, (by (repeat (first | exact Below.refl _ _ | exact Hbl.out | refine Below.ext ?_ (by first | omega | (simp; omega) | simp) | refine Below.setCell ?_ (by first | omega | (simp; omega) | simp) _ | refine Below.alloc ?_ (by first | omega | (simp; omega) | simp) _ | refine Below.drew ?_ | refine below_drewN ?_ _ | refine Below.step (by assumption) (by first | omega | (simp; omega) | simp) ?_))), fun i hi => ?_, fun i => by go_simp⟩
  rcases i with _ | _ | _ | i
  · go_simp
  · go_simp
  · go_simp
  · omega
theorem DH.step {w W W' : World} {R : Nat} {q q' : Int} (h : DH w W R q) (hq : 0 ≤ q') (hb : RB W R q' W') : DH w W' R q' := by
  have hR := h.rd.lt
  have hl := h.lt
  have hc : ∀ i, (W.setCell ⟨R, 1, none⟩ (.int .i64 q')).cell? ⟨w.heap.size, i, none⟩ = W.cell? ⟨w.heap.size, i, none⟩ := fun i => World.cell?_setCell_other _ _ _ _ (fun e => by injection e with e1; omega)
  have hs : w.heap.size < (W.setCell ⟨R, 1, none⟩ (.int .i64 q')).heap.size := by simp; omega
  refine ⟨hb.rd h.rd hq, hl, ?_, fun i hi => ((Below.cell (p := ⟨w.heap.size, i, none⟩) hb hs).trans (hc i)).trans (h.cell i hi), fun i => ?_⟩
  · exact Below.trans (Below.setCell h.below (Nat.le_of_lt hl) _) (Below.mono hb (Nat.le_of_lt hs))
  · rw [Below.frozen (p := ⟨w.heap.size, i, none⟩) hb hs, World.frozen?_setCell]
    exact h.froz i
theorem TreeC.step {B R : Nat} {q : Int} {W W' : World} {v : Value} {cs : List Cn} {t : List Nd} (h : TreeC B W v cs t) (hR : R < B) (hb : RB W R q W') : TreeC B W' v cs t := by
  have := (h.rset (i := 1) (u := .int .i64 q) hR).below hb
  exact this
abbrev finH (W : World) (R g d : Nat) (u u0 u1 u2 : Value) (o : Obj) (os : Array Obj) : World := Go.Proofs.Ythcmecgmidopoaa.ext (((((W.setCell ⟨R, 1, none⟩ u).setCell ⟨g, 0, none⟩ u0).setCell ⟨g, 1, none⟩ u1).setCell ⟨g, 2, none⟩ u2).alloc o) d os
theorem finH_tree {B R g d : Nat} {W : World} {v u u0 u1 u2 : Value} {o : Obj} {os : Array Obj} {cs : List Cn} {t : List Nd} (h : TreeC B W v cs t) (hR : R < B) (hg : g < B) : TreeC B (finH W R g d u u0 u1 u2 o os) v cs t :=
  (((((h.rset hR).rset hg).rset hg).rset hg).below (Below.alloc (Below.refl _ _) (Nat.le_refl _) o)).below (below_ext _ _ _)
theorem finH_below {A R g d : Nat} {w W : World} {u u0 u1 u2 : Value} {o : Obj} {os : Array Obj} (h : Below A w W) (hR : A ≤ R) (hg : A ≤ g) (hz : A ≤ W.heap.size) : Below A w (finH W R g d u u0 u1 u2 o os) :=
  Below.ext (Below.alloc (Below.setCell (Below.setCell (Below.setCell (Below.setCell h hR _) hg _) hg _) hg _) (by simp; exact hz) _) (by simp; omega)
/-- A tree, a handle and a number are drawn. -/
def GotH (w : World) (e : Ending) (w' : World) : Prop := ∃ (v : Value) (t : List Nd) (f a r n : Int), e = .returned (.tuple #[v, .agg #[.int .i64 f, .int .i64 a, .int .i64 r], .int .i64 n]) ∧ TreeO w.heap.size w' v t ∧ t.length ≤ 20 ∧ (kidsOf t).length ≤ 16 ∧ -1 ≤ a ∧ a ≤ 41 ∧ Below w.heap.size w w'
set_option maxRecDepth 100000 in
set_option maxHeartbeats 8000000 in
theorem drawRH_any (a : Option Addr) (len cap : Nat) (zs : List Int) (w : World) (hrow : IsRow .u8 w a len cap zs) : Calls Try.prog 25 #[.slice a len cap] w (GotH w) := by
  go_enter Try.func25, Try.ntmps25
  go_wp2_with (go_at_call 40; refine (open_any _ _ _ _ _ (IsRow.below hrow (by repeat (first | exact Below.refl _ _ | refine Below.alloc ?_ (by simp; try omega) _)))).mono ?_; rintro e w' ⟨A, le, ca, rfl, rfl, zs', hby⟩; (try simp only [World.size_alloc] at hby))
  have D0 := DH.start hby
  obtain ⟨W0, hW0⟩ : ∃ W0, W0 = ((w.alloc (.cells #[.int .i64 0, .int .i64 0, .int .i64 0] 40)).alloc (.cells #[.slice A le ca, .int .i64 0] 85)) := ⟨_, rfl⟩
  have hz0 : W0.heap.size = w.heap.size + 2 := by rw [hW0]; simp
  rw [← hW0] at D0 ⊢
  obtain ⟨R, hR⟩ : ∃ R, R = w.heap.size + 1 := ⟨_, rfl⟩
  rw [← hR] at D0
  simp only [← hR]
  have hRz : R < W0.heap.size := by omega
  clear hW0 hR hby hrow hz0
  refine (l20Tree_any R 0 14 W0 D0.rd (by decide) (by decide) (by decide)).mono ?_
  rintro e W1 ⟨v, cs, t, q1, rfl, hT, h1, h2, h3, k0, k1, hRB⟩
  have D1 := D0.step k0 hRB
  have hr1 := D1.rd
  have HT1 := Lib.hid hT
  have HD1 := Lib.hid D1
  have hlt := D0.lt
  have HR1 := Lib.hid (fun q : Int => TreeO.r ⟨_, hT.rset (i := 1) (u := .int .i64 q) hRz⟩)
  obtain ⟨A1, cap1, rfl⟩ := (TreeO.r ⟨_, hT⟩).shape
  clear D0 D1 hT hRB h3
  go_wp2_with fail
  refine (l20Handle_any R q1 _ t W1 hr1 (by omega) HR1.out h1).mono ?_
  rintro e W2 ⟨hf, ha, hr, q2, rfl, kf0, kf1, ka0, ka1, kr0, kr1, k2, k3, hRB⟩
  have D2 := HD1.out.step (by omega) hRB
  have T2 := HT1.out.step hRz hRB
  have hr2 := D2.rd
  have HT2 := Lib.hid T2
  have Hbl := Lib.hid D2.below
  have y0 := D2.cell 0 (by decide)
  have y1 := D2.cell 1 (by decide)
  have y2 := D2.cell 2 (by decide)
  have f0 := D2.froz 0
  have f1 := D2.froz 1
  have f2 := D2.froz 2
  have hz2 : w.heap.size < W2.heap.size := by have := D2.rd.lt; omega
  have hne : w.heap.size ≠ R := by omega
  have hRz2 : R < W2.heap.size := D2.rd.lt
  have hne2 : R ≠ W2.heap.size := by omega
  have hne3 : W2.heap.size ≠ R := by omega
  clear hRB D2 T2 HD1 HT1 hr1 HR1
  have hn1 := h1
  have hn2 := h2
  go_wp2_with fail
  go_region_held3 (fun w' => w'.cell? ⟨W2.heap.size, 0, none⟩ = some (.int .i64 hf) ∧ w'.cell? ⟨W2.heap.size, 1, none⟩ = some (.int .i64 ha) ∧ w'.cell? ⟨W2.heap.size, 2, none⟩ = some (.int .i64 hr)) (first | assumption | (go_simp; done) | fail) (first | (go_at_call 48; refine (pick_any _ ?_ _ _ ?_ ?_).mono ?_; rotate_left; (focus ((repeat (first | assumption | refine Rd.ext ?_ | refine Rd.drew ?_ | refine Rd.drewN ?_ | refine Rd.set (by assumption) ?_ | refine Rd.lit (by assumption) (by simp) ?_ | refine Rd.alloc ?_ _ | omega)))); (focus omega); rintro e w' ⟨v, d, rfl, h0, h1, h2, rfl⟩; replace h1 := h1 (by omega); clear h2))
  all_goals
    rename_i vA dA hA0 hA1 hHx
    go_wp2
    refine bodyPost_ret (v := .tuple #[.slice A1 t.length cap1, .agg #[.int .i64 hf, .int .i64 ha, .int .i64 hr], .int .i64 (IntKind.i64.wrap (vA - IntKind.i64.wrap (v.tdiv 8)))]) ?_ rfl ?_
    · simp only [results, Try.results25]
      go_simp
    · refine ⟨_, t, _, _, _, _, rfl, ⟨cs, TreeC.mono (B := W0.heap.size) ?_ (by omega)⟩, hn1, hn2, ka0, ka1, ?_⟩
      · exact finH_tree HT2.out hRz (by omega)
      · exact finH_below Hbl.out (by omega) (Nat.le_refl _) (by omega)
end Go.Proofs.Ythcmecgmidopoaa
