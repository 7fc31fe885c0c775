/- Texts in one: What is drawn for trees: modes, users; PathsOf of the reference. Drawn trees: what the draws leave as it is. Drawn trees: a name or a kid is appended to those of a node. Drawn trees: 'l20Tree'. Draws of one tree. -/
import Derived.Test.YtkennmpbmbacpaaGreatDoorMF
import Derived.Test.YtkennmpbmbacpaaGreatDoorMA
import Derived.Test.YtkennmpbmbacpaaGreatDoorMC
import Derived.Deep.RegionHeld3
import Derived.Deep.Cut
set_option linter.unusedSimpArgs false
set_option linter.unusedVariables false
set_option linter.unusedSectionVars false
namespace Go.Proofs.YtkennmpbmbacpaaGreatDoor
open Go.RowKit

theorem selN2l (v : Int) (x0 x1 : Int) (h : v.toNat < [Value.int .i64 x0, Value.int .i64 x1].length) : [Value.int .i64 x0, Value.int .i64 x1][v.toNat]'h = .int .i64 (selN v [x0, x1]) := by
  have h' : v.toNat < 2 := h
  have : v.toNat = 0 ∨ v.toNat = 1 := by omega
  rcases this with h | h <;> simp [h, selN]
@[go_sem] theorem selN2g (v : Int) (x0 x1 : Int) (h : v.toNat < [Value.int .i64 x0, Value.int .i64 x1].length) : [Value.int .i64 x0, Value.int .i64 x1][v.toNat]'h = .int .i64 (selN v [x0, x1]) := selN2l v x0 x1 h
@[go_sem] theorem selN2 {v : Int} (h0 : 0 ≤ v) (h1 : v < 2) (x0 x1 : Int) : [Value.int .i64 x0, Value.int .i64 x1][v.toNat]? = some (.int .i64 (selN v [x0, x1])) := by
  have hl : v.toNat < [Value.int .i64 x0, Value.int .i64 x1].length := by simp; omega
  rw [List.getElem?_eq_getElem hl, selN2l]
@[go_sem] theorem selN2a {v : Int} (h0 : 0 ≤ v) (h1 : v < 2) (x0 x1 : Int) : (#[Value.int .i64 x0, Value.int .i64 x1] : Array Value)[v.toNat]? = some (.int .i64 (selN v [x0, x1])) := by
  rw [List.getElem?_toArray]; exact selN2 h0 h1 x0 x1
theorem selN4l (v : Int) (x0 x1 x2 x3 : Int) (h : v.toNat < [Value.int .i64 x0, Value.int .i64 x1, Value.int .i64 x2, Value.int .i64 x3].length) : [Value.int .i64 x0, Value.int .i64 x1, Value.int .i64 x2, Value.int .i64 x3][v.toNat]'h = .int .i64 (selN v [x0, x1, x2, x3]) := by
  have h' : v.toNat < 4 := h
  have : v.toNat = 0 ∨ v.toNat = 1 ∨ v.toNat = 2 ∨ v.toNat = 3 := by omega
  rcases this with h | h | h | h <;> simp [h, selN]
@[go_sem] theorem selN4g (v : Int) (x0 x1 x2 x3 : Int) (h : v.toNat < [Value.int .i64 x0, Value.int .i64 x1, Value.int .i64 x2, Value.int .i64 x3].length) : [Value.int .i64 x0, Value.int .i64 x1, Value.int .i64 x2, Value.int .i64 x3][v.toNat]'h = .int .i64 (selN v [x0, x1, x2, x3]) := selN4l v x0 x1 x2 x3 h
@[go_sem] theorem selN4 {v : Int} (h0 : 0 ≤ v) (h1 : v < 4) (x0 x1 x2 x3 : Int) : [Value.int .i64 x0, Value.int .i64 x1, Value.int .i64 x2, Value.int .i64 x3][v.toNat]? = some (.int .i64 (selN v [x0, x1, x2, x3])) := by
  have hl : v.toNat < [Value.int .i64 x0, Value.int .i64 x1, Value.int .i64 x2, Value.int .i64 x3].length := by simp; omega
  rw [List.getElem?_eq_getElem hl, selN4l]
@[go_sem] theorem selN4a {v : Int} (h0 : 0 ≤ v) (h1 : v < 4) (x0 x1 x2 x3 : Int) : (#[Value.int .i64 x0, Value.int .i64 x1, Value.int .i64 x2, Value.int .i64 x3] : Array Value)[v.toNat]? = some (.int .i64 (selN v [x0, x1, x2, x3])) := by
  rw [List.getElem?_toArray]; exact selN4 h0 h1 x0 x1 x2 x3
theorem selN7l (v : Int) (x0 x1 x2 x3 x4 x5 x6 : Int) (h : v.toNat < [Value.int .i64 x0, Value.int .i64 x1, Value.int .i64 x2, Value.int .i64 x3, Value.int .i64 x4, Value.int .i64 x5, Value.int .i64 x6].length) : [Value.int .i64 x0, Value.int .i64 x1, Value.int .i64 x2, Value.int .i64 x3, Value.int .i64 x4, Value.int .i64 x5, Value.int .i64 x6][v.toNat]'h = .int .i64 (selN v [x0, x1, x2, x3, x4, x5, x6]) := by
  have h' : v.toNat < 7 := h
  have : v.toNat = 0 ∨ v.toNat = 1 ∨ v.toNat = 2 ∨ v.toNat = 3 ∨ v.toNat = 4 ∨ v.toNat = 5 ∨ v.toNat = 6 := by omega
  rcases this with h | h | h | h | h | h | h <;> simp [h, selN]
@[go_sem] theorem selN7g (v : Int) (x0 x1 x2 x3 x4 x5 x6 : Int) (h : v.toNat < [Value.int .i64 x0, Value.int .i64 x1, Value.int .i64 x2, Value.int .i64 x3, Value.int .i64 x4, Value.int .i64 x5, Value.int .i64 x6].length) : [Value.int .i64 x0, Value.int .i64 x1, Value.int .i64 x2, Value.int .i64 x3, Value.int .i64 x4, Value.int .i64 x5, Value.int .i64 x6][v.toNat]'h = .int .i64 (selN v [x0, x1, x2, x3, x4, x5, x6]) := selN7l v x0 x1 x2 x3 x4 x5 x6 h
@[go_sem] theorem selN7 {v : Int} (h0 : 0 ≤ v) (h1 : v < 7) (x0 x1 x2 x3 x4 x5 x6 : Int) : [Value.int .i64 x0, Value.int .i64 x1, Value.int .i64 x2, Value.int .i64 x3, Value.int .i64 x4, Value.int .i64 x5, Value.int .i64 x6][v.toNat]? = some (.int .i64 (selN v [x0, x1, x2, x3, x4, x5, x6])) := by
  have hl : v.toNat < [Value.int .i64 x0, Value.int .i64 x1, Value.int .i64 x2, Value.int .i64 x3, Value.int .i64 x4, Value.int .i64 x5, Value.int .i64 x6].length := by simp; omega
  rw [List.getElem?_eq_getElem hl, selN7l]
@[go_sem] theorem selN7a {v : Int} (h0 : 0 ≤ v) (h1 : v < 7) (x0 x1 x2 x3 x4 x5 x6 : Int) : (#[Value.int .i64 x0, Value.int .i64 x1, Value.int .i64 x2, Value.int .i64 x3, Value.int .i64 x4, Value.int .i64 x5, Value.int .i64 x6] : Array Value)[v.toNat]? = some (.int .i64 (selN v [x0, x1, x2, x3, x4, x5, x6])) := by
  rw [List.getElem?_toArray]; exact selN7 h0 h1 x0 x1 x2 x3 x4 x5 x6
theorem pathsS_of (v : Value) (t : List Nd) (w : World) (h : TreeR w v t) (ht : t.length ≤ 1000) (hk : (kidsOf t).length ≤ 16) :
    Calls Tryz.prog 100 #[v] w fun e w' => ∃ v', e = .returned v' ∧ OwnG EL 9 w.heap.size w' v' (pathsOfF t) ∧ Below w.heap.size w w' := by
  have H := Lib.hid h
  have hT := fun w h => treeS_of v t w h ht (by omega)
  have HT := Lib.hid hT
  obtain ⟨A, cap, rfl⟩ := h.shape
  clear h hT
  unfold pathsOfF
  cases ht : treeB t
  · rw [ht] at HT
    go_enter Tryz.func100, Tryz.ntmps100
    go_wp2_with fail
    refine (HT.out _ H.out).mono ?_
    rintro e w1 ⟨rfl, b1⟩
    go_wp2
    go_ret
    exact ⟨_, rfl, ownG_mono (ownG_empty _ rfl (Nat.le_refl _)) b1.size, Below.alloc b1 b1.size _⟩
  · rw [ht] at HT
    have h0 : 0 < t.length := by have := inB_iffL.1 (tree_all ht).1; omega
    have hlen : (pathsF t 6 ((0 : Nat) : Int) []).length ≤ 1000000 := by
      refine Nat.le_trans (paths_len ht 6 0 [] h0) ?_
      rw [List.drop_zero]
      exact Nat.le_trans (Nat.pow_le_pow_right (by decide) hk) (by decide)
    have hp := fun u w h hu => l6PathsS_of t ht 6 0 [] (.slice A t.length cap) u w h h0 rfl (fun x hx => by cases hx) hu hlen
    have HPp := Lib.hid hp
    clear hp hlen
    go_enter Tryz.func100, Tryz.ntmps100
    go_wp2_with fail
    refine (HT.out _ H.out).mono ?_
    rintro e w1 ⟨rfl, b1⟩
    go_wp2_with fail
    refine (HPp.out _ _ (H.out.below (Below.alloc b1 b1.size _)) (SlG.zero (by decide))).mono ?_
    rintro e w2 ⟨v2, rfl, o2, b2⟩
    have O2 := Lib.hid o2
    have B2 := Lib.hid (Below.step b2 (by simp; have := b1.size; omega) (Below.alloc b1 b1.size _))
    have hz := b1.size
    clear o2 b2 b1
    go_wp2
    go_ret
    exact ⟨_, rfl, ownG_mono O2.out (by simp; omega), B2.out⟩
/-- A user is drawn. -/
theorem l20User_any (R : Nat) (p : Int) (w : World) (hr : Rd w R p) (hp : p ≤ 1000000000) : Calls Tryz.prog 101 #[.pointer (some ⟨R, 0, none⟩)] w fun e w' => ∃ (x : Int) (d : Nat) (os : Array Obj), e = .returned (.int .i64 x) ∧ 0 ≤ x ∧ x ≤ 7 ∧ w' = ext (w.setCell ⟨R, 1, none⟩ (.int .i64 (p + 1))) d os := by
  have hR := hr.lt
  go_enter Tryz.func101, Tryz.ntmps101
  (go_wp2_with fail); refine (pick_any _ ?_ _ _ ?_ ?_).mono ?_; rotate_left; (focus ((repeat (first | assumption | refine Rd.ext ?_ | refine Rd.drew ?_ | refine Rd.drewN ?_ | refine Rd.set (by assumption) ?_ | refine Rd.lit (by assumption) (by simp) ?_ | refine Rd.alloc ?_ _ | omega)))); (focus omega); rintro e w' ⟨v, dv, rfl, lv, hv, h2, rfl⟩; replace hv := hv (by omega); clear h2
  go_wp2
  go_ret
  have hb : Below (w.setCell ⟨R, 1, none⟩ (.int .i64 (p + 1))).heap.size (w.setCell ⟨R, 1, none⟩ (.int .i64 (p + 1))) (ext ((w.setCell ⟨R, 1, none⟩ (.int .i64 (p + 1))).alloc (.cells #[.int .i64 0, .int .i64 5, .int .i64 6, .int .i64 7] 3)) dv #[]) := (by (repeat (first | exact Below.refl _ _ | exact Hbl.out | refine Below.ext ?_ (by first | omega | (simp; omega) | simp) | refine Below.setCell ?_ (by first | omega | (simp; omega) | simp) _ | refine Below.alloc ?_ (by first | omega | (simp; omega) | simp) _ | refine Below.drew ?_ | refine below_drewN ?_ _ | refine Below.step (by assumption) (by first | omega | (simp; omega) | simp) ?_)))
  obtain ⟨d, os, e⟩ := ext_of_below hb
  refine ⟨_, d, os, rfl, ?_, ?_, e⟩
  · have : v.toNat = 0 ∨ v.toNat = 1 ∨ v.toNat = 2 ∨ v.toNat = 3 := by omega
    rcases this with h | h | h | h <;> simp [selN, h]
  · have : v.toNat = 0 ∨ v.toNat = 1 ∨ v.toNat = 2 ∨ v.toNat = 3 := by omega
    rcases this with h | h | h | h <;> simp [selN, h]
/-- A mode is drawn. -/
theorem l20Mode_zero (R : Nat) (p : Int) (w : World) (hr : Rd w R p) (hp : p ≤ 1000000000) : Calls Tryz.prog 64 #[.pointer (some ⟨R, 0, none⟩), .int .i64 0] w fun e w' => ∃ (x : Int) (q : Int) (d : Nat) (os : Array Obj), e = .returned (.int .i64 x) ∧ p ≤ q ∧ q ≤ p + 4 ∧ w' = ext (w.setCell ⟨R, 1, none⟩ (.int .i64 q)) d os := by
  have hR := hr.lt
  have hp0 := hr.pos
  go_enter Tryz.func64, Tryz.ntmps64
  go_wp2_with (go_at_call 63; refine (odd_zero _ _).mono ?_; rintro e w' ⟨rfl, rfl⟩)
  refine (pick_any _ ?_ _ _ ?_ ?_).mono ?_; rotate_left; (focus ((repeat (first | assumption | refine Rd.ext ?_ | refine Rd.drew ?_ | refine Rd.drewN ?_ | refine Rd.set (by assumption) ?_ | refine Rd.lit (by assumption) (by simp) ?_ | refine Rd.alloc ?_ _ | omega)))); (focus omega); rintro e w' ⟨u, du, rfl, lu, hu, h2, rfl⟩; replace hu := hu (by omega); clear h2
  have zu : IntKind.i64.wrap (u * 4) = u * 4 := IntWalk.i64_in _ (by omega)
  (go_wp2_with fail); refine (pick_any _ ?_ _ _ ?_ ?_).mono ?_; rotate_left; (focus ((repeat (first | assumption | refine Rd.ext ?_ | refine Rd.drew ?_ | refine Rd.drewN ?_ | refine Rd.set (by assumption) ?_ | refine Rd.lit (by assumption) (by simp) ?_ | refine Rd.alloc ?_ _ | omega)))); (focus omega); rintro e w' ⟨x, dx, rfl, lx, hx, h2, rfl⟩; replace hx := hx (by omega); clear h2
  (go_wp2_with fail); refine (pick_any _ ?_ _ _ ?_ ?_).mono ?_; rotate_left; (focus ((repeat (first | assumption | refine Rd.ext ?_ | refine Rd.drew ?_ | refine Rd.drewN ?_ | refine Rd.set (by assumption) ?_ | refine Rd.lit (by assumption) (by simp) ?_ | refine Rd.alloc ?_ _ | omega)))); (focus omega); rintro e w' ⟨v, dv, rfl, lv, hv, h2, rfl⟩; replace hv := hv (by omega); clear h2
  go_wp2
  go_ret
  have hb : Below (w.setCell ⟨R, 1, none⟩ (.int .i64 (p + 1 + 1 + 1))).heap.size (w.setCell ⟨R, 1, none⟩ (.int .i64 (p + 1 + 1 + 1))) (ext ((w.setCell ⟨R, 1, none⟩ (.int .i64 (p + 1 + 1 + 1))).alloc (.cells #[.int .i64 511, .int .i64 493, .int .i64 448, .int .i64 420, .int .i64 1023, .int .i64 (u * 4), .int .i64 x] 3)) dv #[]) := (by (repeat (first | exact Below.refl _ _ | exact Hbl.out | refine Below.ext ?_ (by first | omega | (simp; omega) | simp) | refine Below.setCell ?_ (by first | omega | (simp; omega) | simp) _ | refine Below.alloc ?_ (by first | omega | (simp; omega) | simp) _ | refine Below.drew ?_ | refine below_drewN ?_ _ | refine Below.step (by assumption) (by first | omega | (simp; omega) | simp) ?_)))
  obtain ⟨d, os, e⟩ := ext_of_below hb
  exact ⟨_, p + 1 + 1 + 1, d, os, rfl, by omega, by omega, e⟩
end Go.Proofs.YtkennmpbmbacpaaGreatDoor

namespace Go.Proofs.YtkennmpbmbacpaaGreatDoor
open Go.RowKit

/-- From w on only the reader's place (q now) and new blocks. -/
def RB (w : World) (R : Nat) (q : Int) (wx : World) : Prop := Below (w.setCell ⟨R, 1, none⟩ (.int .i64 q)).heap.size (w.setCell ⟨R, 1, none⟩ (.int .i64 q)) wx
section
variable {w wx wy : World} {R g i d : Nat} {p q q' : Int} {u : Value} {os : Array Obj}
theorem RB.size (h : RB w R q wx) : w.heap.size ≤ wx.heap.size := by
  have := Below.size h
  rwa [size_setCell] at this
theorem RB.rd (h : RB w R q wx) (h0 : Rd w R p) (hq : 0 ≤ q) : Rd wx R q := by
  obtain ⟨d, os, rfl⟩ := ext_of_below h
  exact Rd.ext (Rd.set h0 hq)
theorem RB.step (h : RB w R q wx) (hb : Below wx.heap.size wx wy) : RB w R q wy := Below.step hb (Below.size h) h
theorem RB.pick (h : RB w R q wx) (hR : R < w.heap.size) : RB w R q' (ext (wx.setCell ⟨R, 1, none⟩ (.int .i64 q')) d os) := Ev.pick hR h
theorem RB.rset (h : RB w R q wx) (hR : R < w.heap.size) : RB w R q' (wx.setCell ⟨R, 1, none⟩ (.int .i64 q')) := by
  obtain ⟨d, os, rfl⟩ := ext_of_below h
  rw [ext_setCell (by unfold LtA; rw [size_setCell]; exact hR), setCell_twice]
  exact below_ext _ _ _
theorem RB.store (h : RB w R q wx) (hg : w.heap.size ≤ g) : RB w R q (wx.setCell ⟨g, i, none⟩ u) := Below.setCell h (by rw [size_setCell]; exact hg) _
theorem RB.start (h0 : Rd w R p) : RB w R q (ext (w.setCell ⟨R, 1, none⟩ (.int .i64 q)) d os) := below_ext _ _ _
end
section
variable {B : Nat} {w w' : World} {v : Value} {cs : List Cn} {t : List Nd} {R i d : Nat} {u : Value} {os : Array Obj}
theorem NdO.pick {c : Cn} {x : Nd} (h : NdO B w c x) (hR : R < B) : NdO B (ext (w.setCell ⟨R, i, none⟩ u) d os) c x :=
  ⟨h.fo, h.ow, h.gr, h.mo, h.tx, ownG_ext (ownG_set h.ns (fun j hj => by have := (ownG_block h.ns j hj).1; omega)), ownG_ext (ownG_set h.ks (fun j hj => by have := (ownG_block h.ks j hj).1; omega)), h.sz, h.nz⟩
theorem TreeC.pick (h : TreeC B w v cs t) (hR : R < B) : TreeC B (ext (w.setCell ⟨R, i, none⟩ u) d os) v cs t :=
  ⟨h.len, ownG_ext (ownG_set h.row (fun j hj => by have := (ownG_block h.row j hj).1; omega)), fun i c x hc hx => (h.nds i c x hc hx).pick hR, h.sep⟩
theorem TreeC.rset (h : TreeC B w v cs t) (hR : R < B) : TreeC B (w.setCell ⟨R, i, none⟩ u) v cs t :=
  ⟨h.len, ownG_set h.row (fun j hj => by have := (ownG_block h.row j hj).1; omega), fun i c x hc hx => by
    have hn := h.nds i c x hc hx
    exact ⟨hn.fo, hn.ow, hn.gr, hn.mo, hn.tx, ownG_set hn.ns (fun j hj => by have := (ownG_block hn.ns j hj).1; omega), ownG_set hn.ks (fun j hj => by have := (ownG_block hn.ks j hj).1; omega), hn.sz, hn.nz⟩, h.sep⟩
theorem own_rset {α : Type} {E : Lay α} {T : TypeId} {l : List α} (h : OwnG E T B w v l) (hR : R < B) : OwnG E T B (w.setCell ⟨R, i, none⟩ u) v l :=
  ownG_set h (fun j hj => by have := (ownG_block h j hj).1; omega)
theorem own_pick {α : Type} {E : Lay α} {T : TypeId} {l : List α} (h : OwnG E T B w v l) (hR : R < B) : OwnG E T B (ext (w.setCell ⟨R, i, none⟩ u) d os) v l :=
  ownG_ext (ownG_set h (fun j hj => by have := (ownG_block h j hj).1; omega))
/-- One cell of the head of node k is written. -/
theorem TreeC.head {g n cap k j : Nat} {y : Nd} (h : TreeC B w (.slice (some ⟨g, 0, none⟩) n cap) cs t) (hk : k < t.length) (hj : j < 7)
    (hy : y.ns = (kth t k).ns ∧ y.ks = (kth t k).ks ∧ y.tx.size ≤ maxLen)
    (hc : ∀ c, cs[k]? = some c → EC.put { c with fo := y.fo, ow := y.ow, gr := y.gr, mo := y.mo, tx := y.tx } = (EC.put c).set j u) :
    ∃ cs', TreeC B (w.setCell ⟨g, k * 7 + j, none⟩ u) (.slice (some ⟨g, 0, none⟩) n cap) cs' (t.set k y) := by
  have hlt : k < cs.length := by rw [h.len]; exact hk
  have hc0 : cs[k]? = some cs[k] := List.getElem?_eq_getElem hlt
  obtain ⟨g', e, _, _, _, h5⟩ := ownG_store h.row hc0 hj (hc _ hc0)
  cases e
  have hn := h.nds k _ _ hc0 (kth_at hk)
  refine ⟨_, h.swap hlt h5 (Lib.grownBy_setB (World.grownBy.refl _ _) _ _) ?_ ?_⟩
  · exact ⟨rfl, rfl, rfl, rfl, rfl, by rw [hy.1]; exact hn.ns, by rw [hy.2.1]; exact hn.ks, hy.2.2, by rw [hy.1]; exact hn.nz⟩
  · intro j' d hj' hd
    have := h.sep k j' _ d hc0 hd (fun e => hj' e.symm)
    exact this
end
/-- A node whose head alone is another one keeps a tree valid. -/
theorem head_tree {t : List Nd} {k : Nat} {y : Nd} (h : treeB t = true) (hk : k < t.length) (h1 : y.fo = (kth t k).fo) (h2 : y.ns = (kth t k).ns) (h3 : y.ks = (kth t k).ks) (h4 : headB y = true) : treeB (t.set k y) = true ∧ (kidsOf (t.set k y)).length = (kidsOf t).length := by
  have hkth : ∀ i, i < t.length → kth (t.set k y) i = if i = k then y else kth t i := fun i hi => by
    have := kth_set (ex := []) (y := y) hk hi
    rwa [List.append_nil] at this
  have hfo : ∀ i, i < t.length → (kth (t.set k y) i).fo = (kth t i).fo := fun i hi => by
    rw [hkth i hi]; split
    · next e => subst e; exact h1
    · rfl
  have hks : ∀ i, i < t.length → (kth (t.set k y) i).ks = (kth t i).ks := fun i hi => by
    rw [hkth i hi]; split
    · next e => subst e; exact h3
    · rfl
  have hnK : ∀ i j, i < t.length → nthK (kth (t.set k y) i) j = nthK (kth t i) j := fun i j hi => by unfold nthK; rw [hks i hi]
  obtain ⟨a1, a2, a3, a4⟩ := tree_all h
  have hl := inB_iffL.1 a1
  have hcnt : ∀ i : Nat, lnk (t.set k y) i = lnk t i := fun i => by
    have := kids_set y hk (i : Int)
    rw [h3] at this
    unfold lnk; omega
  have hlen : (t.set k y).length = t.length := List.length_set
  refine ⟨tree_good (by rw [hlen]; exact a1) (by rw [hfo 0 (by omega)]; exact a2) (fun i hi => ?_) (fun i hi => ?_), ?_⟩
  · rw [hlen] at hi
    have hr := a3 i hi
    unfold rowB at hr
    rw [Bool.and_eq_true, List.all_eq_true] at hr
    refine row_good ?_ (fun j hj => ?_)
    · rw [hlen, hkth i hi]
      split
      · next e =>
        subst e
        have hb := nodeB_iff.1 hr.1
        rw [nodeB_iff]
        refine ⟨h4, fun j hj => ?_⟩
        rw [h2] at hj
        have := hb.2 j hj
        rw [kidOk_iff] at this ⊢
        unfold nthN nthK at *
        rw [h2, h3]; exact this
      · exact hr.1
    · rw [hks i hi] at hj
      have hd := hr.2 j (List.mem_range.2 hj)
      have hn := (node_kids hr.1).2 j hj
      unfold downB at hd ⊢
      rw [hnK i j hi, hfo _ (by omega)]
      exact hd
  · rw [hlen] at hi
    have := a4 i hi
    unfold namedB at this ⊢
    rw [hcnt, hfo i hi]; exact this
  · have := kidsLen_set y hk
    rw [h3] at this; omega
/-- The last name of a path is a name. -/
theorem lastF_name {s : List UInt8} (h : aboveOk s = true) : nameB (lastF s) = true := by
  have h1 : okP s = true := by
    unfold aboveOk at h
    cases hh : okP s
    · rw [hh] at h; simp at h
    · rfl
  have hne : partsP s ≠ [] := fun e => by have := (above_no (s := s) (.inr e)).2.2; rw [this] at h; cases h
  rw [(above_yes h1 hne).2.1]
  have hall : ∀ x ∈ partsP s, nameB x = true := by
    cases s with
    | nil => simp [partsP]
    | cons c r =>
      rw [show partsP (c :: r) = if okP (c :: r) = true then (if r = [] then [] else spl r) else [] from rfl, if_pos h1]
      split
      · simp
      · next hr =>
        unfold okP at h1
        rw [Bool.and_eq_true, Bool.or_eq_true] at h1
        rcases h1.2 with h | h
        · exact absurd (by simpa using h) hr
        · unfold namesB at h
          rw [Bool.and_eq_true, List.all_eq_true] at h
          exact h.2
  refine hall _ ?_
  have hl : (partsP s).length - 1 < (partsP s).length := by have := List.length_pos_iff.2 hne; omega
  rw [List.getD_eq_getElem?_getD, List.getElem?_eq_getElem hl]
  exact List.getElem_mem hl
theorem make_above {t : List Nd} {a b c d : Int} {s : List UInt8} {fo : Bool} {mode : Int} (hg : (makeF t a b c d s fo mode).2 = 0) : aboveOk s = true := by
  unfold makeF at hg
  split at hg
  · cases hg
  · split at hg
    · next h => exact absurd hg h
    · next h => exact (placeF_yes (Decidable.not_not.1 h)).2.2.1
theorem link_above {t : List Nd} {a b c d : Int} {p q : List UInt8} (hg : (linkF t a b c d p q).2 = 0) : aboveOk q = true := by
  unfold linkF at hg
  split at hg
  · next h => exact absurd hg h
  · split at hg
    · cases hg
    · split at hg
      · next h => exact absurd hg h
      · next h => exact (placeF_yes (Decidable.not_not.1 h)).2.2.1
theorem make_tree2 {t : List Nd} {a b c d : Int} {s : List UInt8} {fo : Bool} {mode : Int} (hg : (makeF t a b c d s fo mode).2 = 0) : treeB (makeF t a b c d s fo mode).1 = true ∧ (kidsOf (makeF t a b c d s fo mode).1).length = (kidsOf t).length + 1 ∧ (makeF t a b c d s fo mode).1.length = t.length + 1 ∧ treeB t = true := make_tree (lastF_name (make_above hg)) hg
theorem link_tree2 {t : List Nd} {a b c d : Int} {p q : List UInt8} (hg : (linkF t a b c d p q).2 = 0) : treeB (linkF t a b c d p q).1 = true ∧ (kidsOf (linkF t a b c d p q).1).length = (kidsOf t).length + 1 ∧ (linkF t a b c d p q).1.length = t.length ∧ treeB t = true := link_tree (lastF_name (link_above hg)) hg
/-- A row of texts is none of the nodes' row. -/
theorem TreeC.keepP {B B' : Nat} {w : World} {g n cap i : Nat} {u vp : Value} {cs : List Cn} {t : List Nd} {P : List (List UInt8)} (h : TreeC B w (.slice (some ⟨g, 0, none⟩) n cap) cs t) (hp : OwnG EL 9 B' w vp P) : OwnG EL 9 B' (w.setCell ⟨g, i, none⟩ u) vp P :=
  ownG_kept hp (Lib.grownBy_setB (World.grownBy.refl _ _) i u) (ownG_type hp h.row (by decide))
theorem head_ow {y : Nd} {z : Int} (h : headB y = true) (hz : inB z 0 99 = true) : headB { y with ow := z } = true := by
  unfold headB at h ⊢
  simp only [Bool.and_eq_true] at h ⊢
  exact ⟨hz, h.2⟩
theorem head_gr {y : Nd} {z : Int} (h : headB y = true) (hz : inB z 0 7 = true) : headB { y with gr := z } = true := by
  unfold headB at h ⊢
  simp only [Bool.and_eq_true] at h ⊢
  exact ⟨h.1, hz, h.2.2⟩
theorem head_tx {y : Nd} {z : ByteArray} (h : headB y = true) (hf : y.fo = false) (hz : z.size ≤ 40) : headB { y with tx := z } = true := by
  unfold headB at h ⊢
  simp only [Bool.and_eq_true, Bool.or_eq_true, decide_eq_true_eq] at h ⊢
  exact ⟨h.1, h.2.1, h.2.2.1, h.2.2.2.1, h.2.2.2.2.1, .inl (by rw [hf]; rfl), hz⟩
/-- Node k of a tree, its head changed. -/
theorem TreeC.field {B : Nat} {w : World} {g n cap k j : Nat} {u : Value} {cs : List Cn} {t : List Nd} {y : Nd} (h : TreeC B w (.slice (some ⟨g, 0, none⟩) n cap) cs t) (hv : treeB t = true) (hk : k < t.length) (hj : j < 7) (h1 : y.fo = (kth t k).fo) (h2 : y.ns = (kth t k).ns) (h3 : y.ks = (kth t k).ks) (h4 : headB y = true)
    (hc : ∀ c, cs[k]? = some c → c.fo = (kth t k).fo → c.ow = (kth t k).ow → c.gr = (kth t k).gr → c.mo = (kth t k).mo → c.tx = (kth t k).tx → EC.put { c with fo := y.fo, ow := y.ow, gr := y.gr, mo := y.mo, tx := y.tx } = (EC.put c).set j u) :
    ∃ cs', TreeC B (w.setCell ⟨g, k * 7 + j, none⟩ u) (.slice (some ⟨g, 0, none⟩) n cap) cs' (t.set k y) ∧ treeB (t.set k y) = true ∧ (kidsOf (t.set k y)).length = (kidsOf t).length := by
  have hsz : y.tx.size ≤ maxLen := by
    unfold headB at h4
    simp only [Bool.and_eq_true, decide_eq_true_eq] at h4
    have := h4.2.2.2.2.2.2
    unfold maxLen; omega
  obtain ⟨cs', h5⟩ := h.head (y := y) (u := u) hk hj ⟨h2, h3, hsz⟩ (fun c hcc => by
    have hn := h.nds k c _ hcc (kth_at hk)
    exact hc c hcc hn.fo hn.ow hn.gr hn.mo hn.tx)
  exact ⟨cs', h5, head_tree hv hk h1 h2 h3 h4⟩
end Go.Proofs.YtkennmpbmbacpaaGreatDoor

namespace Go.Proofs.YtkennmpbmbacpaaGreatDoor
open Go.RowKit

theorem TreeC.names {B : Nat} {w w' : World} {g n cap k N' C' : Nat} {A' : Option Addr} {cs : List Cn} {t : List Nd} {c : Cn} {s : List UInt8} (h : TreeC B w (.slice (some ⟨g, 0, none⟩) n cap) cs t) (hk : k < t.length) (hc : cs[k]? = some c)
    (ha : AppG EL 9 w B (.slice c.nA c.nL c.nC) ((kth t k).ns ++ [s]) (.slice A' N' C') w') (hs : s.length ≤ 1048576) :
    ∃ cs', TreeC B (w'.setCell ⟨g, k * 7 + 5, none⟩ (.slice A' N' C')) (.slice (some ⟨g, 0, none⟩) n cap) cs' (t.set k { kth t k with ns := (kth t k).ns ++ [s] }) := by
  have hn := h.nds k c _ hc (kth_at hk)
  have hlt : k < cs.length := by rw [h.len]; exact hk
  obtain ⟨h1, h2, h3⟩ := ha
  have hrow' : OwnG EC 44 B w' (.slice (some ⟨g, 0, none⟩) n cap) cs := ownG_kept h.row h2 (ownG_type h.row hn.ns (by decide))
  have hgs := Lib.grownBy_setB (World.grownBy.refl w' (some g)) (k * 7 + 5) (.slice A' N' C')
  obtain ⟨g', e, _, _, _, h5⟩ := ownG_store hrow' hc (j := 5) (y := { c with nA := A', nL := N', nC := C' }) (u := .slice A' N' C') (by decide) rfl
  cases e
  have hnew : ∀ (j : Nat) d, k ≠ j → cs[j]? = some d → Sep ((Value.slice A' N' C').ownBlock) (nB d) := by
    intro j d hkj hd
    have hj : j < t.length := by rw [← h.len]; exact (List.getElem?_eq_some_iff.1 hd).1
    rcases h3 with h3 | h3
    · rw [h3]; exact (h.sep k j c d hc hd hkj).1
    · rw [h3]
      refine .inr fun e => ?_
      have := (ownG_block (h.nds j d _ hd (kth_at hj)).ns _ e.symm).2
      omega
  refine ⟨_, by simp [h.len], h5, fun i d y hd hy => ?_, fun i j d e hd he hij => ?_⟩
  · by_cases hi : k = i
    · subst hi
      rw [List.getElem?_set_self hlt] at hd
      rw [List.getElem?_set_self hk] at hy
      injection hd with hd
      injection hy with hy
      subst hd hy
      exact ⟨hn.fo, hn.ow, hn.gr, hn.mo, hn.tx, ownG_kept h1 hgs (ownG_type h1 hrow' (by decide)), ownG_kept (ownG_kept hn.ks h2 (ownG_type hn.ks hn.ns (by decide))) hgs (ownG_type (ownG_kept hn.ks h2 (ownG_type hn.ks hn.ns (by decide))) hrow' (by decide)), hn.sz, fun z hz => by
        rcases List.mem_append.1 hz with h | h
        · exact hn.nz z h
        · rw [List.mem_singleton.1 h]; exact hs⟩
    · rw [List.getElem?_set_ne hi] at hd hy
      have hd2 := h.nds i d y hd hy
      exact (hd2.kept h2 (h.sep i k d c hd hc (fun e => hi e.symm)).1 (ownG_type hd2.ks hn.ns (by decide))).keptR hrow' hgs
  · by_cases hi : k = i
    · subst hi
      rw [List.getElem?_set_self hlt] at hd
      injection hd with hd
      subst hd
      rw [List.getElem?_set_ne hij] at he
      exact ⟨hnew j e hij he, (h.sep k j c e hc he hij).2⟩
    · rw [List.getElem?_set_ne hi] at hd
      by_cases hj : k = j
      · subst hj
        rw [List.getElem?_set_self hlt] at he
        injection he with he
        subst he
        exact ⟨(hnew i d hi hd).symm, (h.sep i k d c hd hc hij).2⟩
      · rw [List.getElem?_set_ne hj] at he
        exact h.sep i j d e hd he hij
theorem TreeC.kids {B : Nat} {w w' : World} {g n cap k N' C' : Nat} {A' : Option Addr} {cs : List Cn} {t : List Nd} {c : Cn} {s : Int} (h : TreeC B w (.slice (some ⟨g, 0, none⟩) n cap) cs t) (hk : k < t.length) (hc : cs[k]? = some c)
    (ha : AppG EI 3 w B (.slice c.kA c.kL c.kC) ((kth t k).ks ++ [s]) (.slice A' N' C') w') :
    ∃ cs', TreeC B (w'.setCell ⟨g, k * 7 + 6, none⟩ (.slice A' N' C')) (.slice (some ⟨g, 0, none⟩) n cap) cs' (t.set k { kth t k with ks := (kth t k).ks ++ [s] }) := by
  have hn := h.nds k c _ hc (kth_at hk)
  have hlt : k < cs.length := by rw [h.len]; exact hk
  obtain ⟨h1, h2, h3⟩ := ha
  have hrow' : OwnG EC 44 B w' (.slice (some ⟨g, 0, none⟩) n cap) cs := ownG_kept h.row h2 (ownG_type h.row hn.ks (by decide))
  have hgs := Lib.grownBy_setB (World.grownBy.refl w' (some g)) (k * 7 + 6) (.slice A' N' C')
  obtain ⟨g', e, _, _, _, h5⟩ := ownG_store hrow' hc (j := 6) (y := { c with kA := A', kL := N', kC := C' }) (u := .slice A' N' C') (by decide) rfl
  cases e
  have hnew : ∀ (j : Nat) d, k ≠ j → cs[j]? = some d → Sep ((Value.slice A' N' C').ownBlock) (kB d) := by
    intro j d hkj hd
    have hj : j < t.length := by rw [← h.len]; exact (List.getElem?_eq_some_iff.1 hd).1
    rcases h3 with h3 | h3
    · rw [h3]; exact (h.sep k j c d hc hd hkj).2
    · rw [h3]
      refine .inr fun e => ?_
      have := (ownG_block (h.nds j d _ hd (kth_at hj)).ks _ e.symm).2
      omega
  refine ⟨_, by simp [h.len], h5, fun i d y hd hy => ?_, fun i j d e hd he hij => ?_⟩
  · by_cases hi : k = i
    · subst hi
      rw [List.getElem?_set_self hlt] at hd
      rw [List.getElem?_set_self hk] at hy
      injection hd with hd
      injection hy with hy
      subst hd hy
      exact ⟨hn.fo, hn.ow, hn.gr, hn.mo, hn.tx, ownG_kept (ownG_kept hn.ns h2 (ownG_type hn.ns hn.ks (by decide))) hgs (ownG_type (ownG_kept hn.ns h2 (ownG_type hn.ns hn.ks (by decide))) hrow' (by decide)), ownG_kept h1 hgs (ownG_type h1 hrow' (by decide)), hn.sz, hn.nz⟩
    · rw [List.getElem?_set_ne hi] at hd hy
      have hd2 := h.nds i d y hd hy
      exact (hd2.kept h2 (ownG_type hd2.ns hn.ks (by decide)) (h.sep i k d c hd hc (fun e => hi e.symm)).2).keptR hrow' hgs
  · by_cases hi : k = i
    · subst hi
      rw [List.getElem?_set_self hlt] at hd
      injection hd with hd
      subst hd
      rw [List.getElem?_set_ne hij] at he
      exact ⟨(h.sep k j c e hc he hij).1, hnew j e hij he⟩
    · rw [List.getElem?_set_ne hi] at hd
      by_cases hj : k = j
      · subst hj
        rw [List.getElem?_set_self hlt] at he
        injection he with he
        subst he
        exact ⟨(h.sep i k d c hd hc hij).1, (hnew i d hi hd).symm⟩
      · rw [List.getElem?_set_ne hj] at he
        exact h.sep i j d e hd he hij
end Go.Proofs.YtkennmpbmbacpaaGreatDoor

namespace Go.Proofs.YtkennmpbmbacpaaGreatDoor
open Go.RowKit

theorem selN3l (v : Int) (x0 x1 x2 : Int) (h : v.toNat < [Value.int .i64 x0, Value.int .i64 x1, Value.int .i64 x2].length) : [Value.int .i64 x0, Value.int .i64 x1, Value.int .i64 x2][v.toNat]'h = .int .i64 (selN v [x0, x1, x2]) := by
  have h' : v.toNat < 3 := h
  have : v.toNat = 0 ∨ v.toNat = 1 ∨ v.toNat = 2 := by omega
  rcases this with h | h | h <;> simp [h, selN]
@[go_sem] theorem selN3g (v : Int) (x0 x1 x2 : Int) (h : v.toNat < [Value.int .i64 x0, Value.int .i64 x1, Value.int .i64 x2].length) : [Value.int .i64 x0, Value.int .i64 x1, Value.int .i64 x2][v.toNat]'h = .int .i64 (selN v [x0, x1, x2]) := selN3l v x0 x1 x2 h
@[go_sem] theorem selN3 {v : Int} (h0 : 0 ≤ v) (h1 : v < 3) (x0 x1 x2 : Int) : [Value.int .i64 x0, Value.int .i64 x1, Value.int .i64 x2][v.toNat]? = some (.int .i64 (selN v [x0, x1, x2])) := by
  have hl : v.toNat < [Value.int .i64 x0, Value.int .i64 x1, Value.int .i64 x2].length := by simp; omega
  rw [List.getElem?_eq_getElem hl, selN3l]
@[go_sem] theorem selN3a {v : Int} (h0 : 0 ≤ v) (h1 : v < 3) (x0 x1 x2 : Int) : (#[Value.int .i64 x0, Value.int .i64 x1, Value.int .i64 x2] : Array Value)[v.toNat]? = some (.int .i64 (selN v [x0, x1, x2])) := by
  rw [List.getElem?_toArray]; exact selN3 h0 h1 x0 x1 x2
/-- A slice of four texts; one of its places. -/
def IsS4 (R : Nat) (u : Value) (w : World) : Prop := ∃ g, u = .slice (some ⟨g, 0, none⟩) 4 4 ∧ g < w.heap.size ∧ g ≠ R ∧ ∀ k, k < 4 → ∃ s : ByteArray, w.cell? ⟨g, k, none⟩ = some (.string s) ∧ s.size ≤ 9
def IsSp (R : Nat) (u : Value) (w : World) : Prop := ∃ g k, u = .pointer (some ⟨g, k, none⟩) ∧ g < w.heap.size ∧ g ≠ R ∧ ∃ s : ByteArray, w.cell? ⟨g, k, none⟩ = some (.string s) ∧ s.size ≤ 9
theorem IsS4.ev {R : Nat} {u : Value} {w w' : World} (h : IsS4 R u w) (e : Ev R w w') : IsS4 R u w' := by
  obtain ⟨g, h1, h2, h3, h4⟩ := h
  exact ⟨g, h1, Nat.lt_of_lt_of_le h2 e.size, h3, fun k hk => by rw [e.cell g k h2 h3]; exact h4 k hk⟩
theorem IsSp.ev {R : Nat} {u : Value} {w w' : World} (h : IsSp R u w) (e : Ev R w w') : IsSp R u w' := by
  obtain ⟨g, k, h1, h2, h3, h4⟩ := h
  exact ⟨g, k, h1, Nat.lt_of_lt_of_le h2 e.size, h3, by rw [e.cell g k h2 h3]; exact h4⟩
theorem IsS4.made {R : Nat} {w : World} {a b c d : ByteArray} {T : TypeId} (hR : R < w.heap.size) (ha : a.size ≤ 9) (hb : b.size ≤ 9) (hc : c.size ≤ 9) (hd : d.size ≤ 9) : IsS4 R (.slice (some ⟨w.heap.size, 0, none⟩) 4 4) (w.alloc (.cells #[.string a, .string b, .string c, .string d] T)) :=
  ⟨_, rfl, by simp, by omega, fun k hk => by
    have : k = 0 ∨ k = 1 ∨ k = 2 ∨ k = 3 := by omega
    rcases this with rfl | rfl | rfl | rfl
    · exact ⟨a, by go_simp, ha⟩
    · exact ⟨b, by go_simp, hb⟩
    · exact ⟨c, by go_simp, hc⟩
    · exact ⟨d, by go_simp, hd⟩⟩
theorem IsSp.of4 {R g : Nat} {w : World} {v : Int} (h1 : g < w.heap.size) (h2 : g ≠ R) (h3 : ∀ k, k < 4 → ∃ s : ByteArray, w.cell? ⟨g, k, none⟩ = some (.string s) ∧ s.size ≤ 9) (v0 : 0 ≤ v) (v1 : v < 4) : IsSp R (.pointer (some ⟨g, v.toNat, none⟩)) w :=
  ⟨g, v.toNat, rfl, h1, h2, h3 _ (by omega)⟩
theorem Rd.below {w w' : World} {R : Nat} {p : Int} (h : Rd w R p) (hb : Below w.heap.size w w') : Rd w' R p := by
  obtain ⟨d, os, rfl⟩ := ext_of_below hb
  exact Rd.ext h
theorem Rd.at_ {w w' : World} {R : Nat} {p q : Int} (h : Rd w R p) (hq : 0 ≤ q) (hb : Below (w.setCell ⟨R, 1, none⟩ (.int .i64 q)).heap.size (w.setCell ⟨R, 1, none⟩ (.int .i64 q)) w') : Rd w' R q := Rd.below (Rd.set h hq) hb
theorem setCell_same {w : World} {b o : Nat} {v : Value} (h : w.cell? ⟨b, o, none⟩ = some v) : w.setCell ⟨b, o, none⟩ v = w := by
  have e : (w.setCell ⟨b, o, none⟩ v).heap = w.heap := by
    apply Array.ext_getElem?
    intro k
    simp only [World.setCell, Array.getElem?_modify]
    split
    · rename_i hk
      subst hk
      unfold World.cell? at h
      cases hh : w.heap[b]? with
      | none => rfl
      | some x =>
        cases x with
        | cells c elem fr =>
          simp only [hh] at h
          have h' : c[o]? = some v := by simpa using h
          have : c.setIfInBounds o v = c := by
            apply Array.ext_getElem?
            intro j
            rw [Array.getElem?_setIfInBounds]
            split
            · rename_i hj; subst hj; split
              · rw [h']
              · rename_i hlt; rw [Array.getElem?_eq_none (by omega)] at h'; cases h'
            · rfl
          simp [this]
        | _ => rfl
    · rfl
  obtain ⟨heap, tape, drawn, os, output⟩ := w
  simp only [World.setCell] at e ⊢
  rw [e]
theorem same_setCell {w : World} {R : Nat} {q : Int} (h : Rd w R q) : w.setCell ⟨R, 1, none⟩ (.int .i64 q) = w := by
  obtain ⟨A, len, cap, zs, _, _, h6, _, h8, _⟩ := h
  exact setCell_same h6
/-- An old cell, where only the reader's place has moved. -/
theorem boxed {w w' : World} {R b o : Nat} {x : Value} (hb : Below (w.setCell ⟨R, 1, none⟩ x).heap.size (w.setCell ⟨R, 1, none⟩ x) w') (h : b < w.heap.size) (hR : b ≠ R) : w'.cell? ⟨b, o, none⟩ = w.cell? ⟨b, o, none⟩ :=
  (hb.cell (p := ⟨b, o, none⟩) (by simpa using h)).trans (World.cell?_setCell_other _ _ _ _ (fun e => hR (by cases e; rfl)))
theorem comb {w wr wx : World} {R : Nat} {q0 q : Int} (hR : R < w.heap.size) (h1 : Below (w.setCell ⟨R, 1, none⟩ (.int .i64 q0)).heap.size (w.setCell ⟨R, 1, none⟩ (.int .i64 q0)) wr) (h2 : Below (wr.setCell ⟨R, 1, none⟩ (.int .i64 q)).heap.size (wr.setCell ⟨R, 1, none⟩ (.int .i64 q)) wx) :
    Below (w.setCell ⟨R, 1, none⟩ (.int .i64 q)).heap.size (w.setCell ⟨R, 1, none⟩ (.int .i64 q)) wx := by
  obtain ⟨d, os, rfl⟩ := ext_of_below h1
  rw [ext_setCell (by unfold LtA; rw [size_setCell]; exact hR), setCell_twice] at h2
  exact Below.step h2 (by simp) (below_ext _ _ _)
structure FT (R : Nat) (q0 : Int) (wr : World) (gp N cp : Nat) (L : Nat → Bool) (w : World) (u27 u28 u29 u30 u31 u32 u33 u34 u35 u36 u37 u38 u39 u8 : Value) : Prop where
  com : ∃ q, q0 ≤ q ∧ q ≤ q0 + (b2n (L 4) + b2n (L 9)) ∧ Below (wr.setCell ⟨R, 1, none⟩ (.int .i64 q)).heap.size (wr.setCell ⟨R, 1, none⟩ (.int .i64 q)) w
  cl : L 13 = true → ∀ k, k < 13 → L k = true
  f0 : (L 13 = false → L 0 = true → u27 = .slice (some ⟨gp, 0, none⟩) N cp)
  f1 : (L 13 = false → L 1 = true → u28 = .pointer (some ⟨R, 0, none⟩))
  f2 : (L 13 = false → L 2 = true → u29 = .slice (some ⟨gp, 0, none⟩) N cp)
  f3 : (L 13 = false → L 3 = true → u30 = .int .i64 (N : Int))
  f4 : (L 13 = false → L 4 = true → ∃ v : Int, u31 = .int .i64 v ∧ 0 ≤ v ∧ v < (N : Int))
  f5 : (L 13 = false → L 5 = true → ∃ v : Nat, u32 = .pointer (some ⟨gp, v, none⟩) ∧ v < N)
  f6 : (L 13 = false → L 6 = true → ∃ s : List UInt8, u33 = .string (mk s) ∧ s.length ≤ 54)
  f7 : (L 13 = false → L 7 = true → IsS4 R u34 w)
  f8 : (L 13 = false → L 8 = true → u35 = .pointer (some ⟨R, 0, none⟩))
  f9 : (L 13 = false → L 9 = true → ∃ v : Int, u36 = .int .i64 v ∧ 0 ≤ v ∧ v < 4)
  f10 : (L 13 = false → L 10 = true → IsSp R u37 w)
  f11 : (L 13 = false → L 11 = true → ∃ s : ByteArray, u38 = .string s ∧ s.size ≤ 9)
  f12 : (L 13 = false → L 12 = true → ∃ s : List UInt8, u39 = .string (mk s) ∧ s.length ≤ 54)
  f13 : (L 13 = true → ∃ s : List UInt8, u8 = .string (mk s) ∧ s.length ≤ 54)
structure ClK (L : Nat → Bool) : Prop where
  e2_1 : L 2 = true → L 1 = true
  e3_2 : L 3 = true → L 2 = true
  e4_3 : L 4 = true → L 3 = true
  e6_5 : L 6 = true → L 5 = true
  e7_6 : L 7 = true → L 6 = true
  e9_8 : L 9 = true → L 8 = true
  e10_7 : L 10 = true → L 7 = true
  e10_9 : L 10 = true → L 9 = true
  e11_10 : L 11 = true → L 10 = true
  e12_11 : L 12 = true → L 11 = true
  e13_12 : L 13 = true → L 12 = true
  e13_4 : L 13 = true → L 4 = true
  e16_13 : L 16 = true → L 13 = true
theorem step_appG1 {α : Type} {E : Lay α} {P : Program} {t e : TypeId} {o : Oper} {ops : Array Oper} {a : Act} {ts : Array Value} {K : Act → World → Prop} {Q : Exit → Act → World → Prop} {E0 : Prop} (hf : Fit P E t e) (W : World) (hgd : o.guard = none) (s x : Operand) (ho : o.op = .call { callee := .builtin .append, args := #[s, x], argTypes := #[t, t] })
    (B : Nat) (v : Value) (l : List α) (hs : a.eval s = v) (hown : OwnG E e B W v l) (u : Value) (m : List α) (hx : a.eval x = u) (h0 : SlG E W u m) (hl : l.length + m.length ≤ 1048600) (hB : B ≤ W.heap.size)
    {N : Nat} (hN : (l ++ m).length = N) (h : ∀ A C w', AppG E e W B v (l ++ m) (.slice A N C) w' → Below B W w' → K (a.put o.dst (.slice A N C)) w') : if Region.wanted o (yielded ops ts) = true then Oper.wp P o a W K Q else E0 := by
  rw [if_pos (by simp [Region.wanted, hgd])]
  obtain ⟨v', w', hr, ha⟩ := run_appG hf W o.type hown h0 hl hB
  obtain ⟨A, C, rfl⟩ := ownG_shape ha.1
  rw [hN] at hr ha
  exact wp_run_app s x _ ho hs hx hr (h A C w' ha (Below.grown (Below.refl _ _) ha.2.1 hB (fun j hj => (hown.lt j hj).1)))
/-- A slice of three ints, one of its places, a slice of one int. -/
def IsI3 (R : Nat) (u : Value) (w : World) : Prop := ∃ g, u = .slice (some ⟨g, 0, none⟩) 3 3 ∧ g < w.heap.size ∧ g ≠ R ∧ ∀ k, k < 3 → ∃ x : Int, w.cell? ⟨g, k, none⟩ = some (.int .i64 x)
def IsIp (R : Nat) (u : Value) (w : World) : Prop := ∃ g k, u = .pointer (some ⟨g, k, none⟩) ∧ g < w.heap.size ∧ g ≠ R ∧ ∃ x : Int, w.cell? ⟨g, k, none⟩ = some (.int .i64 x)
def IsI1 (R : Nat) (u : Value) (w : World) : Prop := ∃ (g : Nat) (x : Int), u = .slice (some ⟨g, 0, none⟩) 1 1 ∧ g < w.heap.size ∧ g ≠ R ∧ w.cell? ⟨g, 0, none⟩ = some (.int .i64 x)
theorem IsI3.ev {R : Nat} {u : Value} {w w' : World} (h : IsI3 R u w) (e : Ev R w w') : IsI3 R u w' := by
  obtain ⟨g, h1, h2, h3, h4⟩ := h
  exact ⟨g, h1, Nat.lt_of_lt_of_le h2 e.size, h3, fun k hk => by rw [e.cell g k h2 h3]; exact h4 k hk⟩
theorem IsIp.ev {R : Nat} {u : Value} {w w' : World} (h : IsIp R u w) (e : Ev R w w') : IsIp R u w' := by
  obtain ⟨g, k, h1, h2, h3, h4⟩ := h
  exact ⟨g, k, h1, Nat.lt_of_lt_of_le h2 e.size, h3, by rw [e.cell g k h2 h3]; exact h4⟩
theorem IsI1.ev {R : Nat} {u : Value} {w w' : World} (h : IsI1 R u w) (e : Ev R w w') : IsI1 R u w' := by
  obtain ⟨g, x, h1, h2, h3, h4⟩ := h
  exact ⟨g, x, h1, Nat.lt_of_lt_of_le h2 e.size, h3, by rw [e.cell g 0 h2 h3]; exact h4⟩
theorem IsI3.made {R : Nat} {w : World} {a b c : Int} {T : TypeId} (hR : R < w.heap.size) : IsI3 R (.slice (some ⟨w.heap.size, 0, none⟩) 3 3) (w.alloc (.cells #[.int .i64 a, .int .i64 b, .int .i64 c] T)) :=
  ⟨_, rfl, by simp, by omega, fun k hk => by
    have : k = 0 ∨ k = 1 ∨ k = 2 := by omega
    rcases this with rfl | rfl | rfl
    · exact ⟨a, by go_simp⟩
    · exact ⟨b, by go_simp⟩
    · exact ⟨c, by go_simp⟩⟩
theorem IsIp.of3 {R g : Nat} {w : World} {v : Int} (h1 : g < w.heap.size) (h2 : g ≠ R) (h3 : ∀ k, k < 3 → ∃ x : Int, w.cell? ⟨g, k, none⟩ = some (.int .i64 x)) (v0 : 0 ≤ v) (v1 : v < 3) : IsIp R (.pointer (some ⟨g, v.toNat, none⟩)) w :=
  ⟨g, v.toNat, rfl, h1, h2, h3 _ (by omega)⟩
theorem IsI1.made {R : Nat} {w : World} {a : Int} {T : TypeId} (hR : R < w.heap.size) : IsI1 R (.slice (some ⟨w.heap.size, 0, none⟩) 1 1) (w.alloc (.cells #[.int .i64 a] T)) :=
  ⟨_, a, rfl, by simp, by omega, by go_simp⟩
theorem put29 {B : Nat} {w w' : World} {g n ct N C : Nat} {A : Option Addr} {x : Int} {T : List Nd} {cs : List Cn} {c : Cn} {K : List Int} (hC : TreeC B w (.slice (some ⟨g, 0, none⟩) n ct) cs T) (h0 : 0 < T.length) (hcc : cs[0]? = some c) (hkl : c.kL = (kth T 0).ks.length) (hK : K = (kth T 0).ks)
    (ha : AppG EI 3 w B (.slice c.kA K.length c.kC) (K ++ [x]) (.slice A N C) w') : ∃ cs', TreeC B (w'.setCell ⟨g, 6, none⟩ (.slice A N C)) (.slice (some ⟨g, 0, none⟩) n ct) cs' (T.set 0 { kth T 0 with ks := K ++ [x] }) := by
  subst hK
  rw [← hkl] at ha
  have := TreeC.kids hC h0 hcc ha
  rwa [Nat.zero_mul, Nat.zero_add] at this
structure FK (R B g n ct kC : Nat) (q0 : Int) (wr w0 : World) (kA : Option Addr) (K : List Int) (T : List Nd) (L : Nat → Bool) (w : World) (u150 u151 u152 u153 u154 u155 u156 u157 u158 u159 u160 u161 u162 u163 u164 u165 : Value) : Prop where
  com : ∃ q, q0 ≤ q ∧ q ≤ q0 + b2n (L 9) ∧ (L 13 = false → Below (wr.setCell ⟨R, 1, none⟩ (.int .i64 q)).heap.size (wr.setCell ⟨R, 1, none⟩ (.int .i64 q)) w) ∧ ClK L
  cl : L 13 = true → ∀ k, k < 13 → k ≠ 0 → L k = true
  f0 : (L 0 = true → u150 = .slice (some ⟨g, 0, none⟩) n ct)
  f1 : (L 13 = false → L 1 = true → u151 = .slice (some ⟨g, 0, none⟩) n ct)
  f2 : (L 13 = false → L 2 = true → u152 = .pointer (some ⟨g, 0, none⟩))
  f3 : (L 13 = false → L 3 = true → u153 = .pointer (some ⟨g, 6, none⟩))
  f4 : (L 13 = false → L 4 = true → u154 = .slice kA K.length kC)
  f5 : (L 13 = false → L 5 = true → u155 = .slice (some ⟨g, 0, none⟩) n ct)
  f6 : (L 13 = false → L 6 = true → u156 = .int .i64 (n : Int))
  f7 : (L 13 = false → L 7 = true → IsI3 R u157 w)
  f8 : (L 13 = false → L 8 = true → u158 = .pointer (some ⟨R, 0, none⟩))
  f9 : (L 13 = false → L 9 = true → ∃ v : Int, u159 = .int .i64 v ∧ 0 ≤ v ∧ v < 3)
  f10 : (L 13 = false → L 10 = true → IsIp R u160 w)
  f11 : (L 13 = false → L 11 = true → ∃ x : Int, u161 = .int .i64 x)
  f12 : (L 13 = false → L 12 = true → IsI1 R u162 w)
  f13 : (L 13 = true → L 16 = false → ∃ A c x cs q y, u163 = .slice A (K.length + 1) c ∧ TreeC B (w.setCell ⟨g, 6, none⟩ (.slice A (K.length + 1) c)) (.slice (some ⟨g, 0, none⟩) n ct) cs (T.set 0 { kth T 0 with ks := K ++ [x] }) ∧ w.cell? ⟨g, 6, none⟩ = some y ∧ w.frozen? ⟨g, 6, none⟩ = false ∧ q0 ≤ q ∧ q ≤ q0 + 1 ∧ RB w0 R q w)
  f14 : (L 14 = true → u164 = .pointer (some ⟨g, 0, none⟩))
  f15 : (L 15 = true → u165 = .pointer (some ⟨g, 6, none⟩))
  f16 : (L 16 = true → ∃ x cs q, TreeC B w (.slice (some ⟨g, 0, none⟩) n ct) cs (T.set 0 { kth T 0 with ks := K ++ [x] }) ∧ q0 ≤ q ∧ q ≤ q0 + 1 ∧ RB w0 R q w)
def GotTr (w : World) (R : Nat) (p : Int) (e : Ending) (w' : World) : Prop := ∃ v cs t q, e = .returned v ∧ TreeC w.heap.size w' v cs t ∧ t.length ≤ 20 ∧ (kidsOf t).length ≤ 16 ∧ Few t ∧ p ≤ q ∧ q ≤ p + 100 ∧ RB w R q w'
theorem newT_tree {mode : Int} (hm : inB mode 0 1023 = true) : treeB [newNd true 0 0 mode] = true := by
  have e : kth [newNd true 0 0 mode] 0 = newNd true 0 0 mode := rfl
  refine tree_good (inB_iffL.2 (by simp)) rfl (fun k hk => ?_) (fun k hk => ?_)
  · obtain rfl : k = 0 := by simp at hk; exact hk
    refine row_good ?_ (fun j hj => ?_)
    · rw [e, nodeB_iff]
      refine ⟨?_, fun j hj => by simp [newNd] at hj⟩
      unfold headB
      simp only [newNd, hm]
      rfl
    · rw [e] at hj; simp [newNd] at hj
  · obtain rfl : k = 0 := by simp at hk; exact hk
    rfl
theorem sel_mode {v : Int} (h0 : 0 ≤ v) (h1 : v < 3) : inB (selN v [511, 493, 1023]) 0 1023 = true := by
  have : v.toNat = 0 ∨ v.toNat = 1 ∨ v.toNat = 2 := by omega
  rcases this with h | h | h <;> simp [selN, h] <;> decide
set_option maxRecDepth 100000 in
set_option maxHeartbeats 16000000 in
theorem l20Tree_any (R : Nat) (p n : Int) (w : World) (hr : Rd w R p) (hp : p ≤ 1000) (hn : 1 ≤ n) (hn' : n ≤ 1000) : Calls Tryz.prog 59 #[.pointer (some ⟨R, 0, none⟩), .int .i64 n] w (GotTr w R p) := by
  have hR := hr.lt
  have hp0 := hr.pos
  go_enter Tryz.func59, Tryz.ntmps59
  (go_wp2_with fail); refine (pick_any _ ?_ _ _ ?_ ?_).mono ?_; rotate_left; (focus ((repeat (first | assumption | refine Rd.ext ?_ | refine Rd.drew ?_ | refine Rd.drewN ?_ | refine Rd.set (by assumption) ?_ | refine Rd.lit (by assumption) (by simp) ?_ | refine Rd.alloc ?_ _ | omega)))); (focus omega); rintro e w' ⟨x, dx, rfl, lx, hx, h2, rfl⟩; replace hx := hx (by omega); clear h2
  have hmo := sel_mode lx hx
  go_wp2_with fail
  refine (newS_of _ _ hmo).mono ?_
  rintro e w1 ⟨v1, rfl, ⟨cs1, hT1⟩, b1⟩
  have hRB1 : RB w R (p + 1) w1 := RB.step (show RB w R (p + 1) _ from by unfold RB; (repeat (first | exact Below.refl _ _ | exact Hbl.out | refine Below.ext ?_ (by first | omega | (simp; omega) | simp) | refine Below.setCell ?_ (by first | omega | (simp; omega) | simp) _ | refine Below.alloc ?_ (by first | omega | (simp; omega) | simp) _ | refine Below.drew ?_ | refine below_drewN ?_ _ | refine Below.step (by assumption) (by first | omega | (simp; omega) | simp) ?_))) b1
  have hz1 := hRB1.size
  have hT1' := hT1.mono (B' := w.heap.size) (by simp)
  have hd1 := hRB1.rd hr (by omega)
  clear b1 hT1
  go_wp2_with fail
  refine (pick_any R (p + 1) 8 w1 hd1 (by omega)).mono ?_
  rintro e w2 ⟨y, d2, rfl, ly, hy, h2, rfl⟩
  replace hy := hy (by omega)
  clear h2
  obtain ⟨w2, hw2⟩ : ∃ w2, w2 = ext (w1.setCell ⟨R, 1, none⟩ (.int .i64 (p + 1 + 1))) d2 #[] := ⟨_, rfl⟩
  have hRB2 : RB w R (p + 1 + 1) w2 := by rw [hw2]; exact hRB1.pick hR
  have hT2 : TreeC w.heap.size w2 v1 cs1 [newNd true 0 0 (selN x [511, 493, 1023])] := by rw [hw2]; exact hT1'.pick hR
  rw [← hw2]
  clear hw2 hRB1 hT1' hd1
  obtain ⟨kk, rfl⟩ : ∃ kk : Nat, y = (kk : Int) := ⟨y.toNat, by omega⟩
  have HRB2 := Lib.hid hRB2
  have HT2 := Lib.hid hT2
  have Hmo := Lib.hid hmo
  clear hRB2 hT2 hmo
  go_wp2
  go_loopw [5, 6] (fun o i wr => ∃ (kk : Nat) (cs : List Cn) (t : List Nd) (q : Int), kk ≤ 7 ∧ i = .int .i64 kk ∧ TreeC w.heap.size wr o cs t ∧ treeB t = true ∧ (kidsOf t).length + 2 * kk ≤ 14 ∧ RB w R q wr ∧ p ≤ q ∧ q ≤ p + 2 + 12 * (7 - (kk : Int))) (fun _ i _ => (intOf i).toNat)
  case atStart => exact ⟨kk, cs1, _, p + 1 + 1, by omega, rfl, HT2.out, newT_tree Hmo.out, by simp [kidsOf, newNd]; omega, HRB2.out, by omega, by omega⟩
  case round =>
    obtain ⟨k, cs, t, q, hk7, rfl, hC, hT, hks, hRB, hq1, hq2⟩ := hrel
    have HC := Lib.hid hC
    have HRB := Lib.hid hRB
    have htl := inB_iffL.1 (tree_all hT).1
    by_cases hk : 0 < k
    · have hk' : (0 : Int) < (k : Int) := by omega
      have hpp := pathsS_of _ t wr (TreeO.r ⟨cs, hC⟩) (by omega) (by omega)
      have hPl : 1 ≤ (pathsOfF t).length ∧ (pathsOfF t).length ≤ 65536 ∧ ∀ x ∈ pathsOfF t, x.length ≤ 54 := by
        unfold pathsOfF
        rw [if_pos hT]
        refine ⟨paths_ne _ _ _ _, ?_, paths_short _ _ _ _⟩
        have := paths_len hT 6 0 [] (by omega)
        rw [List.drop_zero] at this
        exact Nat.le_trans this (Nat.le_trans (Nat.pow_le_pow_right (by decide) (show (kidsOf t).length ≤ 16 by omega)) (by decide))
      generalize pathsOfF t = P at hpp hPl
      obtain ⟨hP1, hP2, hP3⟩ := hPl
      have HP3 := Lib.hid hP3
      obtain ⟨At, ct, rfl⟩ := ownG_shape hC.row
      have hlen := hC.len
      rw [hlen] at hpp HC ⊢
      have Hlen := Lib.hid hlen
      clear hC hRB hP3 hlen
      go_wp2_with fail
      refine hpp.mono ?_
      rintro e w3 ⟨v3, rfl, o3, b3⟩
      have hRB3 : RB w R q w3 := RB.step HRB.out b3
      have hC3 := HC.out.below b3
      have hP3 := ownG_mono (B' := w.heap.size) o3 HRB.out.size
      obtain ⟨Ap, cp, rfl⟩ := ownG_shape o3
      obtain ⟨gp, rfl, hgp1, hgp2⟩ : ∃ gp, Ap = some ⟨gp, 0, none⟩ ∧ w.heap.size ≤ gp ∧ gp < w3.heap.size := by
        rcases hP3.2 with ⟨e, h0⟩ | ⟨g, c, cur, e, hB, _⟩
        · have h0 : P.length = 0 := h0
          omega
        · injection e with e1 _ _
          subst e1
          exact ⟨g, rfl, hB, (ownG_block hP3 g rfl).2⟩
      have hd3 := hRB3.rd hr (by omega)
      have hR3 := hd3.lt
      have HRB3 := Lib.hid hRB3
      have HC3 := Lib.hid hC3
      have HPo := Lib.hid hP3
      clear hpp o3 b3 hRB3 hC3 hP3
      go_upto_region 6 with fail
      have hP1' : 1 ≤ (P.length : Int) := by omega
      have hgpR : gp ≠ R := by omega
      have hcl : ∀ j, j < P.length → ∃ y : List UInt8, w3.cell? ⟨gp, j, none⟩ = some (.string (mk y)) ∧ y.length ≤ 54 := fun j hj => by
        obtain ⟨b', o', e, _, hat⟩ := (ownG_sl HPo.out).at_ (List.getElem?_eq_getElem hj)
        cases e
        have := hat 0 _ rfl
        refine ⟨P[j], by simpa [EL] using this, HP3.out _ (List.getElem_mem hj)⟩
      have Hcl := Lib.hid hcl
      clear hcl
      refine wp_region_put [27, 28, 29, 30, 31, 32, 33, 34, 35, 36, 37, 38, 39, 8] (fun L us wx => ∃ u27 u28 u29 u30 u31 u32 u33 u34 u35 u36 u37 u38 u39 u8, us = [u27, u28, u29, u30, u31, u32, u33, u34, u35, u36, u37, u38, u39, u8] ∧ FT R q w3 gp P.length cp L wx u27 u28 u29 u30 u31 u32 u33 u34 u35 u36 u37 u38 u39 u8) (by kernel_rfl) (by kernel_rfl) ?_ ?_ ?_
      · exact ⟨_, _, _, _, _, _, _, _, _, _, _, _, _, _, rfl, ⟨⟨q, Int.le_refl _, by simp [b2n], Below.drew (by rw [same_setCell hd3]; exact Below.refl _ _)⟩, fun h => absurd h (by simp), fun _ h => absurd h (by simp), fun _ h => absurd h (by simp), fun _ h => absurd h (by simp), fun _ h => absurd h (by simp), fun _ h => absurd h (by simp), fun _ h => absurd h (by simp), fun _ h => absurd h (by simp), fun _ h => absurd h (by simp), fun _ h => absurd h (by simp), fun _ h => absurd h (by simp), fun _ h => absurd h (by simp), fun _ h => absurd h (by simp), fun _ h => absurd h (by simp), fun h => absurd h (by simp)⟩⟩
      · repeat' (first | exact Stps.nil | refine Stps.cons ?_ ?_)
        · show Stp _ _ _ _ _ 0 _
          intro L _ w hi hL ⟨us, hus, u27, u28, u29, u30, u31, u32, u33, u34, u35, u36, u37, u38, u39, u8, e, hF⟩ K hK
          subst hus
          have HF := Lib.hid hF
          clear hF
          obtain ⟨q, q1, q2, hbl⟩ := HF.out.com
          have hnl : L 13 = false := no_last (fun h => HF.out.cl h 0 (by decide)) hi
          subst e
          simp only [putsA, putsL, List.set_cons_zero, List.set_cons_succ]
          go_simp
          refine hK.out _ _ ⟨[.slice (some ⟨gp, 0, none⟩) P.length cp, u28, u29, u30, u31, u32, u33, u34, u35, u36, u37, u38, u39, u8], by kernel_rfl, _, _, _, _, _, _, _, _, _, _, _, _, _, _, rfl, ⟨q, q1, q2, hbl⟩, fun h => absurd (show L 13 = true from h) (by simp [hnl]),
            fun _ _ => rfl,
            fun _ hj => HF.out.f1 hnl hj,
            fun _ hj => HF.out.f2 hnl hj,
            fun _ hj => HF.out.f3 hnl hj,
            fun _ hj => HF.out.f4 hnl hj,
            fun _ hj => HF.out.f5 hnl hj,
            fun _ hj => HF.out.f6 hnl hj,
            fun _ hj => HF.out.f7 hnl hj,
            fun _ hj => HF.out.f8 hnl hj,
            fun _ hj => HF.out.f9 hnl hj,
            fun _ hj => HF.out.f10 hnl hj,
            fun _ hj => HF.out.f11 hnl hj,
            fun _ hj => HF.out.f12 hnl hj,
            fun hj => absurd (show L 13 = true from hj) (by simp [hnl])⟩
        · show Stp _ _ _ _ _ 1 _
          intro L _ w hi hL ⟨us, hus, u27, u28, u29, u30, u31, u32, u33, u34, u35, u36, u37, u38, u39, u8, e, hF⟩ K hK
          subst hus
          have HF := Lib.hid hF
          clear hF
          obtain ⟨q, q1, q2, hbl⟩ := HF.out.com
          have hnl : L 13 = false := no_last (fun h => HF.out.cl h 1 (by decide)) hi
          subst e
          simp only [putsA, putsL, List.set_cons_zero, List.set_cons_succ]
          go_simp
          refine hK.out _ _ ⟨[u27, .pointer (some ⟨R, 0, none⟩), u29, u30, u31, u32, u33, u34, u35, u36, u37, u38, u39, u8], by kernel_rfl, _, _, _, _, _, _, _, _, _, _, _, _, _, _, rfl, ⟨q, q1, q2, hbl⟩, fun h => absurd (show L 13 = true from h) (by simp [hnl]),
            fun _ hj => HF.out.f0 hnl hj,
            fun _ _ => rfl,
            fun _ hj => HF.out.f2 hnl hj,
            fun _ hj => HF.out.f3 hnl hj,
            fun _ hj => HF.out.f4 hnl hj,
            fun _ hj => HF.out.f5 hnl hj,
            fun _ hj => HF.out.f6 hnl hj,
            fun _ hj => HF.out.f7 hnl hj,
            fun _ hj => HF.out.f8 hnl hj,
            fun _ hj => HF.out.f9 hnl hj,
            fun _ hj => HF.out.f10 hnl hj,
            fun _ hj => HF.out.f11 hnl hj,
            fun _ hj => HF.out.f12 hnl hj,
            fun hj => absurd (show L 13 = true from hj) (by simp [hnl])⟩
        · show Stp _ _ _ _ _ 2 _
          intro L _ w hi hL ⟨us, hus, u27, u28, u29, u30, u31, u32, u33, u34, u35, u36, u37, u38, u39, u8, e, hF⟩ K hK
          subst hus
          have HF := Lib.hid hF
          clear hF
          obtain ⟨q, q1, q2, hbl⟩ := HF.out.com
          have hnl : L 13 = false := no_last (fun h => HF.out.cl h 2 (by decide)) hi
          subst e
          simp only [putsA, putsL, List.set_cons_zero, List.set_cons_succ]
          go_simp
          refine hK.out _ _ ⟨[u27, u28, .slice (some ⟨gp, 0, none⟩) P.length cp, u30, u31, u32, u33, u34, u35, u36, u37, u38, u39, u8], by kernel_rfl, _, _, _, _, _, _, _, _, _, _, _, _, _, _, rfl, ⟨q, q1, q2, hbl⟩, fun h => absurd (show L 13 = true from h) (by simp [hnl]),
            fun _ hj => HF.out.f0 hnl hj,
            fun _ hj => HF.out.f1 hnl hj,
            fun _ _ => rfl,
            fun _ hj => HF.out.f3 hnl hj,
            fun _ hj => HF.out.f4 hnl hj,
            fun _ hj => HF.out.f5 hnl hj,
            fun _ hj => HF.out.f6 hnl hj,
            fun _ hj => HF.out.f7 hnl hj,
            fun _ hj => HF.out.f8 hnl hj,
            fun _ hj => HF.out.f9 hnl hj,
            fun _ hj => HF.out.f10 hnl hj,
            fun _ hj => HF.out.f11 hnl hj,
            fun _ hj => HF.out.f12 hnl hj,
            fun hj => absurd (show L 13 = true from hj) (by simp [hnl])⟩
        · show Stp _ _ _ _ _ 3 _
          intro L _ w hi hL ⟨us, hus, u27, u28, u29, u30, u31, u32, u33, u34, u35, u36, u37, u38, u39, u8, e, hF⟩ K hK
          subst hus
          have HF := Lib.hid hF
          clear hF
          obtain ⟨q, q1, q2, hbl⟩ := HF.out.com
          have hnl : L 13 = false := no_last (fun h => HF.out.cl h 3 (by decide)) hi
          simp [Region.binds] at hL
          have g2 := HF.out.f2 hnl (by simp [hL])
          obtain rfl := g2
          subst e
          simp only [putsA, putsL, List.set_cons_zero, List.set_cons_succ]
          go_simp
          refine hK.out _ _ ⟨[u27, u28, .slice (some ⟨gp, 0, none⟩) P.length cp, .int .i64 (P.length : Int), u31, u32, u33, u34, u35, u36, u37, u38, u39, u8], by kernel_rfl, _, _, _, _, _, _, _, _, _, _, _, _, _, _, rfl, ⟨q, q1, q2, hbl⟩, fun h => absurd (show L 13 = true from h) (by simp [hnl]),
            fun _ hj => HF.out.f0 hnl hj,
            fun _ hj => HF.out.f1 hnl hj,
            fun _ hj => HF.out.f2 hnl hj,
            fun _ _ => rfl,
            fun _ hj => HF.out.f4 hnl hj,
            fun _ hj => HF.out.f5 hnl hj,
            fun _ hj => HF.out.f6 hnl hj,
            fun _ hj => HF.out.f7 hnl hj,
            fun _ hj => HF.out.f8 hnl hj,
            fun _ hj => HF.out.f9 hnl hj,
            fun _ hj => HF.out.f10 hnl hj,
            fun _ hj => HF.out.f11 hnl hj,
            fun _ hj => HF.out.f12 hnl hj,
            fun hj => absurd (show L 13 = true from hj) (by simp [hnl])⟩
        · show Stp _ _ _ _ _ 4 _
          intro L _ w hi hL ⟨us, hus, u27, u28, u29, u30, u31, u32, u33, u34, u35, u36, u37, u38, u39, u8, e, hF⟩ K hK
          subst hus
          have HF := Lib.hid hF
          clear hF
          obtain ⟨q, q1, q2, hbl⟩ := HF.out.com
          have hnl : L 13 = false := no_last (fun h => HF.out.cl h 4 (by decide)) hi
          simp [Region.binds] at hL
          have g1 := HF.out.f1 hnl (by simp [hL])
          have g3 := HF.out.f3 hnl (by simp [hL])
          obtain rfl := g1
          obtain rfl := g3
          have hrd := Rd.at_ hd3 (by omega) hbl
          have qb : b2n (L 4) + b2n (L 9) ≤ 2 := by unfold b2n; split <;> split <;> omega
          subst e
          simp only [putsA, putsL, List.set_cons_zero, List.set_cons_succ]
          go_simp
          refine (pick_any R q (P.length : Int) _ hrd (by omega)).mono ?_
          rintro e w' ⟨v, d', rfl, h0, h1, h2, rfl⟩
          replace h1 := h1 (by omega)
          go_simp
          refine hK.out _ _ ⟨[u27, .pointer (some ⟨R, 0, none⟩), u29, .int .i64 (P.length : Int), .int .i64 v, u32, u33, u34, u35, u36, u37, u38, u39, u8], by kernel_rfl, _, _, _, _, _, _, _, _, _, _, _, _, _, _, rfl, ⟨q + 1, by omega, by simp [b2n, upd, show L 4 = false from hi] at q2 ⊢; omega, Ev.pick hR3 hbl⟩, fun h => absurd (show L 13 = true from h) (by simp [hnl]),
            fun _ hj => HF.out.f0 hnl hj,
            fun _ hj => HF.out.f1 hnl hj,
            fun _ hj => HF.out.f2 hnl hj,
            fun _ hj => HF.out.f3 hnl hj,
            fun _ _ => ⟨_, rfl, h0, h1⟩,
            fun _ hj => HF.out.f5 hnl hj,
            fun _ hj => HF.out.f6 hnl hj,
            fun _ hj => IsS4.ev (HF.out.f7 hnl hj) (Ev.draw),
            fun _ hj => HF.out.f8 hnl hj,
            fun _ hj => HF.out.f9 hnl hj,
            fun _ hj => IsSp.ev (HF.out.f10 hnl hj) (Ev.draw),
            fun _ hj => HF.out.f11 hnl hj,
            fun _ hj => HF.out.f12 hnl hj,
            fun hj => absurd (show L 13 = true from hj) (by simp [hnl])⟩
        · show Stp _ _ _ _ _ 5 _
          intro L _ w hi hL ⟨us, hus, u27, u28, u29, u30, u31, u32, u33, u34, u35, u36, u37, u38, u39, u8, e, hF⟩ K hK
          subst hus
          have HF := Lib.hid hF
          clear hF
          obtain ⟨q, q1, q2, hbl⟩ := HF.out.com
          have hnl : L 13 = false := no_last (fun h => HF.out.cl h 5 (by decide)) hi
          simp [Region.binds] at hL
          have g0 := HF.out.f0 hnl (by simp [hL])
          have g4 := HF.out.f4 hnl (by simp [hL])
          obtain rfl := g0
          obtain ⟨v, rfl, v0, v1⟩ := g4
          subst e
          simp only [putsA, putsL, List.set_cons_zero, List.set_cons_succ]
          go_simp
          refine hK.out _ _ ⟨[.slice (some ⟨gp, 0, none⟩) P.length cp, u28, u29, u30, .int .i64 v, .pointer (some ⟨gp, v.toNat, none⟩), u33, u34, u35, u36, u37, u38, u39, u8], by kernel_rfl, _, _, _, _, _, _, _, _, _, _, _, _, _, _, rfl, ⟨q, q1, q2, hbl⟩, fun h => absurd (show L 13 = true from h) (by simp [hnl]),
            fun _ hj => HF.out.f0 hnl hj,
            fun _ hj => HF.out.f1 hnl hj,
            fun _ hj => HF.out.f2 hnl hj,
            fun _ hj => HF.out.f3 hnl hj,
            fun _ hj => HF.out.f4 hnl hj,
            fun _ _ => ⟨v.toNat, rfl, by omega⟩,
            fun _ hj => HF.out.f6 hnl hj,
            fun _ hj => HF.out.f7 hnl hj,
            fun _ hj => HF.out.f8 hnl hj,
            fun _ hj => HF.out.f9 hnl hj,
            fun _ hj => HF.out.f10 hnl hj,
            fun _ hj => HF.out.f11 hnl hj,
            fun _ hj => HF.out.f12 hnl hj,
            fun hj => absurd (show L 13 = true from hj) (by simp [hnl])⟩
        · show Stp _ _ _ _ _ 6 _
          intro L _ w hi hL ⟨us, hus, u27, u28, u29, u30, u31, u32, u33, u34, u35, u36, u37, u38, u39, u8, e, hF⟩ K hK
          subst hus
          have HF := Lib.hid hF
          clear hF
          obtain ⟨q, q1, q2, hbl⟩ := HF.out.com
          have hnl : L 13 = false := no_last (fun h => HF.out.cl h 6 (by decide)) hi
          simp [Region.binds] at hL
          have g5 := HF.out.f5 hnl (by simp [hL])
          obtain ⟨v, rfl, v0⟩ := g5
          obtain ⟨y, c1, hs0⟩ := Hcl.out v v0
          have c0 := (boxed (o := v) hbl hgp2 hgpR).trans c1
          subst e
          simp only [putsA, putsL, List.set_cons_zero, List.set_cons_succ]
          go_simp
          refine hK.out _ _ ⟨[u27, u28, u29, u30, u31, .pointer (some ⟨gp, v, none⟩), .string (mk y), u34, u35, u36, u37, u38, u39, u8], by kernel_rfl, _, _, _, _, _, _, _, _, _, _, _, _, _, _, rfl, ⟨q, q1, q2, hbl⟩, fun h => absurd (show L 13 = true from h) (by simp [hnl]),
            fun _ hj => HF.out.f0 hnl hj,
            fun _ hj => HF.out.f1 hnl hj,
            fun _ hj => HF.out.f2 hnl hj,
            fun _ hj => HF.out.f3 hnl hj,
            fun _ hj => HF.out.f4 hnl hj,
            fun _ hj => HF.out.f5 hnl hj,
            fun _ _ => ⟨_, rfl, hs0⟩,
            fun _ hj => HF.out.f7 hnl hj,
            fun _ hj => HF.out.f8 hnl hj,
            fun _ hj => HF.out.f9 hnl hj,
            fun _ hj => HF.out.f10 hnl hj,
            fun _ hj => HF.out.f11 hnl hj,
            fun _ hj => HF.out.f12 hnl hj,
            fun hj => absurd (show L 13 = true from hj) (by simp [hnl])⟩
        · show Stp _ _ _ _ _ 7 _
          intro L _ w hi hL ⟨us, hus, u27, u28, u29, u30, u31, u32, u33, u34, u35, u36, u37, u38, u39, u8, e, hF⟩ K hK
          subst hus
          have HF := Lib.hid hF
          clear hF
          obtain ⟨q, q1, q2, hbl⟩ := HF.out.com
          have hnl : L 13 = false := no_last (fun h => HF.out.cl h 7 (by decide)) hi
          have hw : R < w.heap.size := (Rd.at_ hd3 (by omega) hbl).lt
          subst e
          simp only [putsA, putsL, List.set_cons_zero, List.set_cons_succ]
          go_simp
          refine hK.out _ _ ⟨[u27, u28, u29, u30, u31, u32, u33, .slice (some ⟨w.heap.size, 0, none⟩) 4 4, u35, u36, u37, u38, u39, u8], by kernel_rfl, _, _, _, _, _, _, _, _, _, _, _, _, _, _, rfl, ⟨q, q1, q2, Below.alloc hbl hbl.size _⟩, fun h => absurd (show L 13 = true from h) (by simp [hnl]),
            fun _ hj => HF.out.f0 hnl hj,
            fun _ hj => HF.out.f1 hnl hj,
            fun _ hj => HF.out.f2 hnl hj,
            fun _ hj => HF.out.f3 hnl hj,
            fun _ hj => HF.out.f4 hnl hj,
            fun _ hj => HF.out.f5 hnl hj,
            fun _ hj => HF.out.f6 hnl hj,
            fun _ _ => IsS4.made (by omega) (by decide) (by decide) (by decide) (by decide),
            fun _ hj => HF.out.f8 hnl hj,
            fun _ hj => HF.out.f9 hnl hj,
            fun _ hj => IsSp.ev (HF.out.f10 hnl hj) (Ev.alloc),
            fun _ hj => HF.out.f11 hnl hj,
            fun _ hj => HF.out.f12 hnl hj,
            fun hj => absurd (show L 13 = true from hj) (by simp [hnl])⟩
        · show Stp _ _ _ _ _ 8 _
          intro L _ w hi hL ⟨us, hus, u27, u28, u29, u30, u31, u32, u33, u34, u35, u36, u37, u38, u39, u8, e, hF⟩ K hK
          subst hus
          have HF := Lib.hid hF
          clear hF
          obtain ⟨q, q1, q2, hbl⟩ := HF.out.com
          have hnl : L 13 = false := no_last (fun h => HF.out.cl h 8 (by decide)) hi
          subst e
          simp only [putsA, putsL, List.set_cons_zero, List.set_cons_succ]
          go_simp
          refine hK.out _ _ ⟨[u27, u28, u29, u30, u31, u32, u33, u34, .pointer (some ⟨R, 0, none⟩), u36, u37, u38, u39, u8], by kernel_rfl, _, _, _, _, _, _, _, _, _, _, _, _, _, _, rfl, ⟨q, q1, q2, hbl⟩, fun h => absurd (show L 13 = true from h) (by simp [hnl]),
            fun _ hj => HF.out.f0 hnl hj,
            fun _ hj => HF.out.f1 hnl hj,
            fun _ hj => HF.out.f2 hnl hj,
            fun _ hj => HF.out.f3 hnl hj,
            fun _ hj => HF.out.f4 hnl hj,
            fun _ hj => HF.out.f5 hnl hj,
            fun _ hj => HF.out.f6 hnl hj,
            fun _ hj => HF.out.f7 hnl hj,
            fun _ _ => rfl,
            fun _ hj => HF.out.f9 hnl hj,
            fun _ hj => HF.out.f10 hnl hj,
            fun _ hj => HF.out.f11 hnl hj,
            fun _ hj => HF.out.f12 hnl hj,
            fun hj => absurd (show L 13 = true from hj) (by simp [hnl])⟩
        · show Stp _ _ _ _ _ 9 _
          intro L _ w hi hL ⟨us, hus, u27, u28, u29, u30, u31, u32, u33, u34, u35, u36, u37, u38, u39, u8, e, hF⟩ K hK
          subst hus
          have HF := Lib.hid hF
          clear hF
          obtain ⟨q, q1, q2, hbl⟩ := HF.out.com
          have hnl : L 13 = false := no_last (fun h => HF.out.cl h 9 (by decide)) hi
          simp [Region.binds] at hL
          have g8 := HF.out.f8 hnl (by simp [hL])
          obtain rfl := g8
          have hrd := Rd.at_ hd3 (by omega) hbl
          have qb : b2n (L 4) + b2n (L 9) ≤ 2 := by unfold b2n; split <;> split <;> omega
          subst e
          simp only [putsA, putsL, List.set_cons_zero, List.set_cons_succ]
          go_simp
          refine (pick_any R q 4 _ hrd (by omega)).mono ?_
          rintro e w' ⟨v, d', rfl, h0, h1, h2, rfl⟩
          replace h1 := h1 (by omega)
          go_simp
          refine hK.out _ _ ⟨[u27, u28, u29, u30, u31, u32, u33, u34, .pointer (some ⟨R, 0, none⟩), .int .i64 v, u37, u38, u39, u8], by kernel_rfl, _, _, _, _, _, _, _, _, _, _, _, _, _, _, rfl, ⟨q + 1, by omega, by simp [b2n, upd, show L 9 = false from hi] at q2 ⊢; omega, Ev.pick hR3 hbl⟩, fun h => absurd (show L 13 = true from h) (by simp [hnl]),
            fun _ hj => HF.out.f0 hnl hj,
            fun _ hj => HF.out.f1 hnl hj,
            fun _ hj => HF.out.f2 hnl hj,
            fun _ hj => HF.out.f3 hnl hj,
            fun _ hj => HF.out.f4 hnl hj,
            fun _ hj => HF.out.f5 hnl hj,
            fun _ hj => HF.out.f6 hnl hj,
            fun _ hj => IsS4.ev (HF.out.f7 hnl hj) (Ev.draw),
            fun _ hj => HF.out.f8 hnl hj,
            fun _ _ => ⟨_, rfl, h0, h1⟩,
            fun _ hj => IsSp.ev (HF.out.f10 hnl hj) (Ev.draw),
            fun _ hj => HF.out.f11 hnl hj,
            fun _ hj => HF.out.f12 hnl hj,
            fun hj => absurd (show L 13 = true from hj) (by simp [hnl])⟩
        · show Stp _ _ _ _ _ 10 _
          intro L _ w hi hL ⟨us, hus, u27, u28, u29, u30, u31, u32, u33, u34, u35, u36, u37, u38, u39, u8, e, hF⟩ K hK
          subst hus
          have HF := Lib.hid hF
          clear hF
          obtain ⟨q, q1, q2, hbl⟩ := HF.out.com
          have hnl : L 13 = false := no_last (fun h => HF.out.cl h 10 (by decide)) hi
          simp [Region.binds] at hL
          have g7 := HF.out.f7 hnl (by simp [hL])
          have g9 := HF.out.f9 hnl (by simp [hL])
          obtain ⟨g, rfl, k1, k2, k3⟩ := g7
          obtain ⟨v, rfl, v0, v1⟩ := g9
          subst e
          simp only [putsA, putsL, List.set_cons_zero, List.set_cons_succ]
          go_simp
          refine hK.out _ _ ⟨[u27, u28, u29, u30, u31, u32, u33, .slice (some ⟨g, 0, none⟩) 4 4, u35, .int .i64 v, .pointer (some ⟨g, v.toNat, none⟩), u38, u39, u8], by kernel_rfl, _, _, _, _, _, _, _, _, _, _, _, _, _, _, rfl, ⟨q, q1, q2, hbl⟩, fun h => absurd (show L 13 = true from h) (by simp [hnl]),
            fun _ hj => HF.out.f0 hnl hj,
            fun _ hj => HF.out.f1 hnl hj,
            fun _ hj => HF.out.f2 hnl hj,
            fun _ hj => HF.out.f3 hnl hj,
            fun _ hj => HF.out.f4 hnl hj,
            fun _ hj => HF.out.f5 hnl hj,
            fun _ hj => HF.out.f6 hnl hj,
            fun _ hj => HF.out.f7 hnl hj,
            fun _ hj => HF.out.f8 hnl hj,
            fun _ hj => HF.out.f9 hnl hj,
            fun _ _ => IsSp.of4 k1 k2 k3 v0 v1,
            fun _ hj => HF.out.f11 hnl hj,
            fun _ hj => HF.out.f12 hnl hj,
            fun hj => absurd (show L 13 = true from hj) (by simp [hnl])⟩
        · show Stp _ _ _ _ _ 11 _
          intro L _ w hi hL ⟨us, hus, u27, u28, u29, u30, u31, u32, u33, u34, u35, u36, u37, u38, u39, u8, e, hF⟩ K hK
          subst hus
          have HF := Lib.hid hF
          clear hF
          obtain ⟨q, q1, q2, hbl⟩ := HF.out.com
          have hnl : L 13 = false := no_last (fun h => HF.out.cl h 11 (by decide)) hi
          simp [Region.binds] at hL
          have g10 := HF.out.f10 hnl (by simp [hL])
          obtain ⟨g, k, rfl, k1, k2, s, k3, k4⟩ := g10
          subst e
          simp only [putsA, putsL, List.set_cons_zero, List.set_cons_succ]
          go_simp
          refine hK.out _ _ ⟨[u27, u28, u29, u30, u31, u32, u33, u34, u35, u36, .pointer (some ⟨g, k, none⟩), .string s, u39, u8], by kernel_rfl, _, _, _, _, _, _, _, _, _, _, _, _, _, _, rfl, ⟨q, q1, q2, hbl⟩, fun h => absurd (show L 13 = true from h) (by simp [hnl]),
            fun _ hj => HF.out.f0 hnl hj,
            fun _ hj => HF.out.f1 hnl hj,
            fun _ hj => HF.out.f2 hnl hj,
            fun _ hj => HF.out.f3 hnl hj,
            fun _ hj => HF.out.f4 hnl hj,
            fun _ hj => HF.out.f5 hnl hj,
            fun _ hj => HF.out.f6 hnl hj,
            fun _ hj => HF.out.f7 hnl hj,
            fun _ hj => HF.out.f8 hnl hj,
            fun _ hj => HF.out.f9 hnl hj,
            fun _ hj => HF.out.f10 hnl hj,
            fun _ _ => ⟨_, rfl, k4⟩,
            fun _ hj => HF.out.f12 hnl hj,
            fun hj => absurd (show L 13 = true from hj) (by simp [hnl])⟩
        · show Stp _ _ _ _ _ 12 _
          intro L _ w hi hL ⟨us, hus, u27, u28, u29, u30, u31, u32, u33, u34, u35, u36, u37, u38, u39, u8, e, hF⟩ K hK
          subst hus
          have HF := Lib.hid hF
          clear hF
          obtain ⟨q, q1, q2, hbl⟩ := HF.out.com
          have hnl : L 13 = false := no_last (fun h => HF.out.cl h 12 (by decide)) hi
          simp [Region.binds] at hL
          have g6 := HF.out.f6 hnl (by simp [hL])
          have g11 := HF.out.f11 hnl (by simp [hL])
          obtain ⟨s, rfl, hs⟩ := g6
          obtain ⟨y, rfl, hy⟩ := g11
          subst e
          simp only [putsA, putsL, List.set_cons_zero, List.set_cons_succ]
          go_simp
          refine (followS_of (mk s) y w (by rw [mk_size]; omega) (by omega)).mono ?_
          rintro e w' ⟨rfl, hb'⟩
          go_simp
          refine hK.out _ _ ⟨[u27, u28, u29, u30, u31, u32, .string (mk s), u34, u35, u36, u37, .string y, .string (mk (followF (mk s).data.toList y.data.toList)), u8], by kernel_rfl, _, _, _, _, _, _, _, _, _, _, _, _, _, _, rfl, ⟨q, q1, q2, Below.step hb' hbl.size hbl⟩, fun h => absurd (show L 13 = true from h) (by simp [hnl]),
            fun _ hj => HF.out.f0 hnl hj,
            fun _ hj => HF.out.f1 hnl hj,
            fun _ hj => HF.out.f2 hnl hj,
            fun _ hj => HF.out.f3 hnl hj,
            fun _ hj => HF.out.f4 hnl hj,
            fun _ hj => HF.out.f5 hnl hj,
            fun _ hj => HF.out.f6 hnl hj,
            fun _ hj => IsS4.ev (HF.out.f7 hnl hj) (Ev.below hb'),
            fun _ hj => HF.out.f8 hnl hj,
            fun _ hj => HF.out.f9 hnl hj,
            fun _ hj => IsSp.ev (HF.out.f10 hnl hj) (Ev.below hb'),
            fun _ hj => HF.out.f11 hnl hj,
            fun _ _ => ⟨_, rfl, follow_size _ _⟩,
            fun hj => absurd (show L 13 = true from hj) (by simp [hnl])⟩
        · show Stp _ _ _ _ _ 13 _
          intro L _ w hi hL ⟨us, hus, u27, u28, u29, u30, u31, u32, u33, u34, u35, u36, u37, u38, u39, u8, e, hF⟩ K hK
          subst hus
          have HF := Lib.hid hF
          clear hF
          obtain ⟨q, q1, q2, hbl⟩ := HF.out.com
          simp [Region.binds] at hL
          have hall : ∀ k, k < 13 → L k = true := by
            intro k hk
            have hk' : k = 0 ∨ k = 1 ∨ k = 2 ∨ k = 3 ∨ k = 4 ∨ k = 5 ∨ k = 6 ∨ k = 7 ∨ k = 8 ∨ k = 9 ∨ k = 10 ∨ k = 11 ∨ k = 12 := by omega
            rcases hk' with h | h | h | h | h | h | h | h | h | h | h | h | h
            all_goals (rw [h]; simp only [hL])
          have g12 := HF.out.f12 (by simpa using hi) (by simp [hL])
          obtain ⟨s, rfl, hs⟩ := g12
          subst e
          simp only [putsA, putsL, List.set_cons_zero, List.set_cons_succ]
          go_simp
          refine hK.out _ _ ⟨[u27, u28, u29, u30, u31, u32, u33, u34, u35, u36, u37, u38, .string (mk s), .string (mk s)], by kernel_rfl, _, _, _, _, _, _, _, _, _, _, _, _, _, _, rfl, ⟨q, q1, q2, hbl⟩, fun _ k hk => upd_of (hall k hk),
            fun h => absurd h (by simp),
            fun h => absurd h (by simp),
            fun h => absurd h (by simp),
            fun h => absurd h (by simp),
            fun h => absurd h (by simp),
            fun h => absurd h (by simp),
            fun h => absurd h (by simp),
            fun h => absurd h (by simp),
            fun h => absurd h (by simp),
            fun h => absurd h (by simp),
            fun h => absurd h (by simp),
            fun h => absurd h (by simp),
            fun h => absurd h (by simp),
            fun _ => ⟨_, rfl, hs⟩⟩
      · intro L us wx hL ⟨u27, u28, u29, u30, u31, u32, u33, u34, u35, u36, u37, u38, u39, u8, hus, hF⟩
        subst hus
        obtain ⟨q6, r1, r2, hbl⟩ := hF.com
        obtain ⟨s, rfl, hs⟩ := hF.f13 (hL 13 (by decide))
        have qb : b2n (L 4) + b2n (L 9) ≤ 2 := by unfold b2n; split <;> split <;> omega
        have hRBx : RB w R q6 wx := comb hR HRB3.out hbl
        have hCx : TreeC w.heap.size wx (.slice At t.length ct) cs t := by
          obtain ⟨d, os, e⟩ := ext_of_below hbl
          rw [e]; exact HC3.out.pick hR
        have hPx : OwnG EL 9 w.heap.size wx (.slice (some ⟨gp, 0, none⟩) P.length cp) P := by
          obtain ⟨d, os, e⟩ := ext_of_below hbl
          rw [e]; exact own_pick HPo.out hR
        have HRBx := Lib.hid hRBx
        have HCx := Lib.hid hCx
        have HPx := Lib.hid hPx
        clear hF hbl hL hRBx hCx hPx
        simp only [putsA, putsL, List.set_cons_zero, List.set_cons_succ]
        have hdx := HRBx.out.rd hr (by omega)
        have hRx := hdx.lt
        go_wp2_with fail
        refine (pick_any R q6 2 wx hdx (by omega)).mono ?_
        rintro e w' ⟨fb, d4, rfl, lf, hf, h2, rfl⟩
        replace hf := hf (by omega)
        clear h2
        obtain ⟨w4, hw4⟩ : ∃ w4, w4 = ext (wx.setCell ⟨R, 1, none⟩ (.int .i64 (q6 + 1))) d4 #[] := ⟨_, rfl⟩
        have hRB4 : RB w R (q6 + 1) w4 := by rw [hw4]; exact HRBx.out.pick hR
        have hC4 : TreeC w.heap.size w4 (.slice At t.length ct) cs t := by rw [hw4]; exact HCx.out.pick hR
        have hP4 : OwnG EL 9 w.heap.size w4 (.slice (some ⟨gp, 0, none⟩) P.length cp) P := by rw [hw4]; exact own_pick HPx.out hR
        rw [← hw4]
        have hd4 := hRB4.rd hr (by omega)
        have HRB4 := Lib.hid hRB4
        have HC4 := Lib.hid hC4
        have HP4 := Lib.hid hP4
        clear hw4 hRB4 hC4 hP4 HRBx HCx HPx
        go_wp2_with fail
        refine (l20Mode_zero R (q6 + 1) w4 hd4 (by omega)).mono ?_
        rintro e w' ⟨mo, q7, d5, os5, rfl, m1, m2, rfl⟩
        obtain ⟨w5, hw5⟩ : ∃ w5, w5 = ext (w4.setCell ⟨R, 1, none⟩ (.int .i64 q7)) d5 os5 := ⟨_, rfl⟩
        have hRB5 : RB w R q7 w5 := by rw [hw5]; exact HRB4.out.pick hR
        have hC5 : TreeC w.heap.size w5 (.slice At t.length ct) cs t := by rw [hw5]; exact HC4.out.pick hR
        have hP5 : OwnG EL 9 w.heap.size w5 (.slice (some ⟨gp, 0, none⟩) P.length cp) P := by rw [hw5]; exact own_pick HP4.out hR
        rw [← hw5]
        have hd5 := hRB5.rd hr (by omega)
        have HRB5 := Lib.hid hRB5
        have HC5 := Lib.hid hC5
        have HP5 := Lib.hid hP5
        clear hw5 hRB5 hC5 hP5 HRB4 HC4 HP4
        go_wp2_with fail
        refine (makeS_of _ t 0 0 0 0 s _ mo w5 (TreeO.r ⟨cs, HC5.out⟩) (by omega) (by omega) (by omega)).mono ?_
        rintro e w6 ⟨v6, rfl, hT6, b6⟩
        have hmk := fun hg => make_tree2 (t := t) (a := 0) (b := 0) (c := 0) (d := 0) (s := s) (fo := (fb == 0)) (mode := mo) hg
        have hRB6 := HRB5.out.step b6
        have hC6o := HC5.out.below b6
        have hP6 := ownG_below HP5.out b6
        have hd6 := hRB6.rd hr (by omega)
        have HRBw6 := Lib.hid hRB6
        have HCw6 := Lib.hid hC6o
        have HPw6 := Lib.hid hP6
        have hdw6 := hd6
        have HT0 := Lib.hid hT
        have zk : IntKind.i64.wrap ((k : Int) - 1) = ((k - 1 : Nat) : Int) := by rw [IntWalk.i64_in _ (by omega)]; omega
        have hP1' : 1 ≤ (P.length : Int) := by omega
        have hw5 := HRB5.out.size
        clear hRB6 hC6o hP6 HRB5 HC5 HP5 b6
        by_cases hg : (makeF t 0 0 0 0 s (fb == 0) mo).2 = 0
        · obtain ⟨k1, k2, k3, _⟩ := hmk hg
          obtain ⟨cs6, hC6⟩ := hT6
          have hC6' := hC6.mono hw5
          obtain ⟨T, hTe⟩ : ∃ T, T = (makeF t 0 0 0 0 s (fb == 0) mo).1 := ⟨_, rfl⟩
          rw [← hTe] at k1 k2 k3 hC6'
          obtain ⟨A6, c6, rfl⟩ := ownG_shape hC6'.row
          have hl6 := hC6'.len
          rw [k3] at hl6
          rw [hl6] at hC6' ⊢
          obtain ⟨g, c0, rfl, _⟩ := hC6'.at_ (k := t.length) (by omega)
          have HC6 := Lib.hid hC6'
          have HVT := Lib.hid k1
          have hlenT : T.length = t.length + 1 := k3
          clear hC6 hC6' hTe hmk hl6 HCw6 k1 k3
          have HCw6 := HC6
          clear HC6
          have zl : IntKind.i64.wrap ((t.length : Int) + 1 - 1) = (t.length : Int) := by rw [IntWalk.i64_in _ (by omega)]; omega
          have hl1 : (t.length : Int) < (t.length : Int) + 1 := by omega
          go_wp2_with fail
          refine (l20User_any R q7 w6 hdw6 (by omega)).mono ?_
          rintro e w' ⟨uw, d7, os7, rfl, u0, u7, rfl⟩
          obtain ⟨w7, hw7⟩ : ∃ w7, w7 = ext (w6.setCell ⟨R, 1, none⟩ (.int .i64 (q7 + 1))) d7 os7 := ⟨_, rfl⟩
          have hRBw7 : RB w R (q7 + 1) w7 := by rw [hw7]; exact HRBw6.out.pick hR
          have hCw7 : TreeC w.heap.size w7 (.slice (some ⟨g, 0, none⟩) (t.length + 1) c6) cs6 T := by rw [hw7]; exact HCw6.out.pick hR
          have hPw7 : OwnG EL 9 w.heap.size w7 (.slice (some ⟨gp, 0, none⟩) P.length cp) P := by rw [hw7]; exact own_pick HPw6.out hR
          rw [← hw7]
          have hdw7 := hRBw7.rd hr (by omega)
          have HRBw7 := Lib.hid hRBw7
          have HCw7 := Lib.hid hCw7
          have HPw7 := Lib.hid hPw7
          clear hw7 hRBw7 hCw7 hPw7 HRBw6 HCw6 HPw6
          obtain ⟨g', c', eg, hgB, hgw, _, hnd, _, z0, z1, z2, z3, z4, _, _, zf⟩ := HCw7.out.at_ (k := t.length) (by omega)
          cases eg
          have fj := zf (t.length * 7 + 1)
          have hhd : headB (kth T t.length) = true := (nodeB_iff.1 (tree_node HVT.out (by omega))).1
          obtain ⟨cs8, hCs, hVs, hKs⟩ := HCw7.out.field (k := t.length) (j := 1) (u := .int .i64 uw) (y := { kth T t.length with ow := uw }) HVT.out (by omega) (by decide) rfl rfl rfl (head_ow hhd (inB_iffL.2 ⟨by omega, by omega⟩)) (fun c hcc e1 e2 e3 e4 e5 => by cases c; simp only at e1 e2 e3 e4 e5; subst e1 e2 e3 e4 e5; rfl)
          have hlenT8 : (T.set t.length ({ kth T t.length with ow := uw })).length = t.length + 1 := by rw [List.length_set]; exact hlenT
          have hPs := HCw7.out.keepP (i := t.length * 7 + 1) (u := .int .i64 uw) HPw7.out
          have hRs : RB w R (q7 + 1) (w7.setCell ⟨g, t.length * 7 + 1, none⟩ (.int .i64 uw)) := HRBw7.out.store hgB
          obtain ⟨T8, hTn⟩ : ∃ T8, T8 = T.set t.length ({ kth T t.length with ow := uw }) := ⟨_, rfl⟩
          rw [← hTn] at hCs hVs hKs hlenT8
          have hfoT8 : (kth T8 t.length).fo = (kth T t.length).fo := by rw [hTn]; have := kth_set (ex := []) (y := { kth T t.length with ow := uw }) (show t.length < T.length by omega) (show t.length < T.length by omega); rw [List.append_nil, if_pos rfl] at this; rw [this]
          obtain ⟨w8, hW⟩ : ∃ w8, w8 = w7.setCell ⟨g, t.length * 7 + 1, none⟩ (.int .i64 uw) := ⟨_, rfl⟩
          rw [← hW] at hCs hPs hRs
          have HCw8 := Lib.hid hCs
          have HPw8 := Lib.hid hPs
          have HRBw8 := Lib.hid hRs
          have HVT8 := Lib.hid hVs
          have hdw8 := hRs.rd hr (by omega)
          have HWw8 := Lib.hid hW
          have hKlT8 : (kidsOf T8).length = (kidsOf T).length := hKs
          clear hCs hPs hRs hVs hKs hTn hW hhd hnd
          go_wp2_with fail
          rw [← HWw8.out]
          refine (pick_any R (q7 + 1) 3 w8 hdw8 (by omega)).mono ?_
          rintro e w' ⟨gv, d9, rfl, lg, hgv, h2, rfl⟩
          replace hgv := hgv (by omega)
          clear h2 z0 z1 z2 z3 z4 zf fj
          obtain ⟨w9, hw9⟩ : ∃ w9, w9 = ext (w8.setCell ⟨R, 1, none⟩ (.int .i64 (q7 + 1 + 1))) d9 #[] := ⟨_, rfl⟩
          have hRBw9 : RB w R (q7 + 1 + 1) w9 := by rw [hw9]; exact HRBw8.out.pick hR
          have hCw9 : TreeC w.heap.size w9 (.slice (some ⟨g, 0, none⟩) (t.length + 1) c6) cs8 T8 := by rw [hw9]; exact HCw8.out.pick hR
          have hPw9 : OwnG EL 9 w.heap.size w9 (.slice (some ⟨gp, 0, none⟩) P.length cp) P := by rw [hw9]; exact own_pick HPw8.out hR
          rw [← hw9]
          have hdw9 := hRBw9.rd hr (by omega)
          have HRBw9 := Lib.hid hRBw9
          have HCw9 := Lib.hid hCw9
          have HPw9 := Lib.hid hPw9
          clear hw9 hRBw9 hCw9 hPw9 HRBw8 HCw8 HPw8
          obtain ⟨g', c', eg, hgB, hgw, _, hnd, _, z0, z1, z2, z3, z4, _, _, zf⟩ := HCw9.out.at_ (k := t.length) (by omega)
          cases eg
          have fj := zf (t.length * 7 + 2)
          have hhd : headB (kth T8 t.length) = true := (nodeB_iff.1 (tree_node HVT8.out (by omega))).1
          obtain ⟨cs10, hCs, hVs, hKs⟩ := HCw9.out.field (k := t.length) (j := 2) (u := .int .i64 gv) (y := { kth T8 t.length with gr := gv }) HVT8.out (by omega) (by decide) rfl rfl rfl (head_gr hhd (inB_iffL.2 ⟨by omega, by omega⟩)) (fun c hcc e1 e2 e3 e4 e5 => by cases c; simp only at e1 e2 e3 e4 e5; subst e1 e2 e3 e4 e5; rfl)
          have hlenT10 : (T8.set t.length ({ kth T8 t.length with gr := gv })).length = t.length + 1 := by rw [List.length_set]; exact hlenT8
          have hPs := HCw9.out.keepP (i := t.length * 7 + 2) (u := .int .i64 gv) HPw9.out
          have hRs : RB w R (q7 + 1 + 1) (w9.setCell ⟨g, t.length * 7 + 2, none⟩ (.int .i64 gv)) := HRBw9.out.store hgB
          obtain ⟨T10, hTn⟩ : ∃ T10, T10 = T8.set t.length ({ kth T8 t.length with gr := gv }) := ⟨_, rfl⟩
          rw [← hTn] at hCs hVs hKs hlenT10
          have hfoT10 : (kth T10 t.length).fo = (kth T8 t.length).fo := by rw [hTn]; have := kth_set (ex := []) (y := { kth T8 t.length with gr := gv }) (show t.length < T8.length by omega) (show t.length < T8.length by omega); rw [List.append_nil, if_pos rfl] at this; rw [this]
          obtain ⟨w10, hW⟩ : ∃ w10, w10 = w9.setCell ⟨g, t.length * 7 + 2, none⟩ (.int .i64 gv) := ⟨_, rfl⟩
          rw [← hW] at hCs hPs hRs
          have HCw10 := Lib.hid hCs
          have HPw10 := Lib.hid hPs
          have HRBw10 := Lib.hid hRs
          have HVT10 := Lib.hid hVs
          have hdw10 := hRs.rd hr (by omega)
          have HWw10 := Lib.hid hW
          have hKlT10 : (kidsOf T10).length = (kidsOf T8).length := hKs
          clear hCs hPs hRs hVs hKs hTn hW hhd hnd
          cases hfo : (kth T8 t.length).fo
          · rw [hfo] at z0
            obtain ⟨g9, c9, eg9, _, hgw9, _, hnd9, _, y0, _, _, _, y4, _, _, yf⟩ := HCw10.out.at_ (k := t.length) (by omega)
            cases eg9
            have y4f := yf (t.length * 7 + 4)
            have hgR : g ≠ R := by omega
            have hR10 := hdw10.lt
            go_wp2_with fail
            rw [← HWw10.out]
            have hsz : w9.heap.size = w10.heap.size := by rw [HWw10.out]; simp
            rw [hsz]
            clear hsz
            have hdl := (HRBw10.out.step (show Below w10.heap.size w10 (w10.alloc (.cells #[.string ⟨#[]⟩, .string ⟨#[104, 105]⟩, .string ⟨#[104, 101, 108, 108, 111]⟩] 9)) from Below.alloc (Below.refl _ _) (Nat.le_refl _) _)).rd hr (by omega)
            refine (pick_any R (q7 + 1 + 1) 3 _ hdl (by omega)).mono ?_
            rintro e w' ⟨tv, d11, rfl, ltv, htv, h2, rfl⟩
            replace htv := htv (by omega)
            clear h2 hdl z0 z1 z2 z3 z4 zf fj
            have hst : (selS tv [⟨#[]⟩, ⟨#[104, 105]⟩, ⟨#[104, 101, 108, 108, 111]⟩]).size ≤ 40 := selS_size (by decide)
            go_wp2_with fail
            generalize selS tv [⟨#[]⟩, ⟨#[104, 105]⟩, ⟨#[104, 101, 108, 108, 111]⟩] = st at hst ⊢
            obtain ⟨wa, hwa⟩ : ∃ wa, wa = w10.setCell ⟨R, 1, none⟩ (.int .i64 (q7 + 1 + 1 + 1)) := ⟨_, rfl⟩
            have HRBwa : Hid (RB w R (q7 + 1 + 1 + 1) wa) := by rw [hwa]; exact HRBw10.out.rset hR
            have HCwa : Hid (TreeC w.heap.size wa (.slice (some ⟨g, 0, none⟩) (t.length + 1) c6) cs10 T10) := by rw [hwa]; exact HCw10.out.rset hR
            have HPwa : Hid (OwnG EL 9 w.heap.size wa (.slice (some ⟨gp, 0, none⟩) P.length cp) P) := by rw [hwa]; exact own_rset HPw10.out hR
            rw [← hwa]
            clear hwa HRBw10 HCw10 HPw10 y0 y4 y4f yf hnd9
            have hfo10 : (kth T10 t.length).fo = false := by rw [hfoT10]; exact hfo
            obtain ⟨g', c', eg, hgB, hgw, _, hnd, _, z0, z1, z2, z3, z4, _, _, zf⟩ := HCwa.out.at_ (k := t.length) (by omega)
            cases eg
            have fj := zf (t.length * 7 + 4)
            have hhd : headB (kth T10 t.length) = true := (nodeB_iff.1 (tree_node HVT10.out (by omega))).1
            obtain ⟨cs11, hCs, hVs, hKs⟩ := HCwa.out.field (k := t.length) (j := 4) (u := .string st) (y := { kth T10 t.length with tx := st }) HVT10.out (by omega) (by decide) rfl rfl rfl (head_tx hhd hfo10 hst) (fun c hcc e1 e2 e3 e4 e5 => by cases c; simp only at e1 e2 e3 e4 e5; subst e1 e2 e3 e4 e5; rfl)
            have hlenT11 : (T10.set t.length ({ kth T10 t.length with tx := st })).length = t.length + 1 := by rw [List.length_set]; exact hlenT10
            have hPs := HCwa.out.keepP (i := t.length * 7 + 4) (u := .string st) HPwa.out
            have hRs : RB w R (q7 + 1 + 1 + 1) (wa.setCell ⟨g, t.length * 7 + 4, none⟩ (.string st)) := HRBwa.out.store hgB
            obtain ⟨T11, hTn⟩ : ∃ T11, T11 = T10.set t.length ({ kth T10 t.length with tx := st }) := ⟨_, rfl⟩
            rw [← hTn] at hCs hVs hKs hlenT11
            have hfoT11 : (kth T11 t.length).fo = (kth T10 t.length).fo := by rw [hTn]; have := kth_set (ex := []) (y := { kth T10 t.length with tx := st }) (show t.length < T10.length by omega) (show t.length < T10.length by omega); rw [List.append_nil, if_pos rfl] at this; rw [this]
            obtain ⟨w11, hW⟩ : ∃ w11, w11 = wa.setCell ⟨g, t.length * 7 + 4, none⟩ (.string st) := ⟨_, rfl⟩
            rw [← hW] at hCs hPs hRs
            have HCw11 := Lib.hid hCs
            have HPw11 := Lib.hid hPs
            have HRBw11 := Lib.hid hRs
            have HVT11 := Lib.hid hVs
            have hdw11 := hRs.rd hr (by omega)
            have HWw11 := Lib.hid hW
            have hKlT11 : (kidsOf T11).length = (kidsOf T10).length := hKs
            clear hCs hPs hRs hVs hKs hTn hW hhd hnd
            rw [← HWw11.out]
            obtain ⟨w12, hw12⟩ : ∃ w12, w12 = ext (w11.alloc (.cells #[.string ⟨#[]⟩, .string ⟨#[104, 105]⟩, .string ⟨#[104, 101, 108, 108, 111]⟩] 9)) d11 #[] := ⟨_, rfl⟩
            have hb12 : Below w11.heap.size w11 w12 := by rw [hw12]; exact Below.ext (Below.alloc (Below.refl _ _) (Nat.le_refl _) _) (by simp)
            have hRB12 := HRBw11.out.step hb12
            have hC12 := HCw11.out.below hb12
            have hP12 := ownG_below HPw11.out hb12
            have hdw12 := hRB12.rd hr (by omega)
            rw [← hw12]
            have HRBw12 := Lib.hid hRB12
            have HCw12 := Lib.hid hC12
            have HPw12 := Lib.hid hP12
            clear hw12 hb12 hRB12 hC12 hP12 z0 z1 z2 z3 z4 zf fj
            go_wp2_with fail
            refine (pick_any R (q7 + 1 + 1 + 1) 4 w12 hdw12 (by omega)).mono ?_
            rintro e w' ⟨lk, dl, rfl, ll, hl, h2, rfl⟩
            replace hl := hl (by omega)
            clear h2
            obtain ⟨wlc, hwlc⟩ : ∃ wlc, wlc = ext (w12.setCell ⟨R, 1, none⟩ (.int .i64 (q7 + 1 + 1 + 1 + 1))) dl #[] := ⟨_, rfl⟩
            have hRBwlc : RB w R (q7 + 1 + 1 + 1 + 1) wlc := by rw [hwlc]; exact HRBw12.out.pick hR
            have hCwlc : TreeC w.heap.size wlc (.slice (some ⟨g, 0, none⟩) (t.length + 1) c6) cs11 T11 := by rw [hwlc]; exact HCw12.out.pick hR
            have hPwlc : OwnG EL 9 w.heap.size wlc (.slice (some ⟨gp, 0, none⟩) P.length cp) P := by rw [hwlc]; exact own_pick HPw12.out hR
            rw [← hwlc]
            have hdwlc := hRBwlc.rd hr (by omega)
            have HRBwlc := Lib.hid hRBwlc
            have HCwlc := Lib.hid hCwlc
            have HPwlc := Lib.hid hPwlc
            clear hwlc hRBwlc hCwlc hPwlc HRBw12 HCw12 HPw12
            by_cases hl0 : lk = 0
            · subst hl0
              go_wp2_with fail
              refine (pick_any R (q7 + 1 + 1 + 1 + 1) (P.length : Int) wlc hdwlc (by omega)).mono ?_
              rintro e w' ⟨pv, dm, rfl, lp, hpv, h2, rfl⟩
              replace hpv := hpv (by omega)
              clear h2
              obtain ⟨wmc, hwmc⟩ : ∃ wmc, wmc = ext (wlc.setCell ⟨R, 1, none⟩ (.int .i64 (q7 + 1 + 1 + 1 + 1 + 1))) dm #[] := ⟨_, rfl⟩
              have hRBwmc : RB w R (q7 + 1 + 1 + 1 + 1 + 1) wmc := by rw [hwmc]; exact HRBwlc.out.pick hR
              have hCwmc : TreeC w.heap.size wmc (.slice (some ⟨g, 0, none⟩) (t.length + 1) c6) cs11 T11 := by rw [hwmc]; exact HCwlc.out.pick hR
              have hPwmc : OwnG EL 9 w.heap.size wmc (.slice (some ⟨gp, 0, none⟩) P.length cp) P := by rw [hwmc]; exact own_pick HPwlc.out hR
              rw [← hwmc]
              have hdwmc := hRBwmc.rd hr (by omega)
              have HRBwmc := Lib.hid hRBwmc
              have HCwmc := Lib.hid hCwmc
              have HPwmc := Lib.hid hPwmc
              clear hwmc hRBwmc hCwmc hPwmc HRBwlc HCwlc HPwlc
              have hpn : pv.toNat < P.length := by omega
              obtain ⟨b9, o9, ee9, _, hat9⟩ := (ownG_sl HPwmc.out).at_ (List.getElem?_eq_getElem hpn)
              cases ee9
              have cy : wmc.cell? ⟨gp, pv.toNat, none⟩ = some (.string (mk P[pv.toNat])) := by have := hat9 0 _ rfl; simpa [EL] using this
              have hyl : (P[pv.toNat]).length ≤ 54 := HP3.out _ (List.getElem_mem hpn)
              clear hat9
              generalize P[pv.toNat] = y at cy hyl
              go_wp2_with fail
              refine (linkS_of _ T11 0 0 0 0 y [47, 98] wmc (TreeO.r ⟨cs11, HCwmc.out⟩) (by omega) (by omega) (by omega) (by decide)).mono ?_
              rintro e w9 ⟨v9, rfl, hT9, b9⟩
              have hRB9 := HRBwmc.out.step b9
              by_cases hg9 : (linkF T11 0 0 0 0 y [47, 98]).2 = 0
              · obtain ⟨j1, j2, j3, j4⟩ := link_tree2 hg9
                obtain ⟨cs9, hC9⟩ := hT9
                have hC9' := hC9.mono HRBwmc.out.size
                have HC9 := Lib.hid hC9'
                have HRB9 := Lib.hid hRB9
                have J1 := Lib.hid j1
                clear hC9 hC9' hRB9 b9 j1 j4
                obtain ⟨T9, hT9e⟩ : ∃ T9, T9 = (linkF T11 0 0 0 0 y [47, 98]).1 := ⟨_, rfl⟩
                rw [← hT9e] at HC9 J1 j2 j3
                clear hT9e j3
                go_wp2
                go_roundw
                case rel => exact ⟨k - 1, cs9, T9, q7 + 1 + 1 + 1 + 1 + 1, by omega, by go_num, HC9.out, J1.out, by omega, HRB9.out, by omega, by omega⟩
                case measure => simp [intOf]; omega
              · have hC9 := HCwmc.out.below b9
                have HC9 := Lib.hid hC9
                have HRB9 := Lib.hid hRB9
                clear hC9 hRB9 b9 hT9
                go_wp2
                go_roundw
                case rel => exact ⟨k - 1, cs11, T11, q7 + 1 + 1 + 1 + 1 + 1, by omega, by go_num, HC9.out, HVT11.out, by omega, HRB9.out, by omega, by omega⟩
                case measure => simp [intOf]; omega
            · go_wp2
              go_roundw
              case rel => exact ⟨k - 1, cs11, T11, q7 + 1 + 1 + 1 + 1, by omega, by go_num, HCwlc.out, HVT11.out, by omega, HRBwlc.out, by omega, by omega⟩
              case measure => simp [intOf]; omega
          · rw [hfo] at z0
            go_wp2_with fail
            rw [← HWw10.out]
            clear z0 z1 z2 z3 z4 zf fj
            go_wp2_with fail
            refine (pick_any R (q7 + 1 + 1) 4 w10 hdw10 (by omega)).mono ?_
            rintro e w' ⟨lk, dl, rfl, ll, hl, h2, rfl⟩
            replace hl := hl (by omega)
            clear h2
            obtain ⟨wlb, hwlb⟩ : ∃ wlb, wlb = ext (w10.setCell ⟨R, 1, none⟩ (.int .i64 (q7 + 1 + 1 + 1))) dl #[] := ⟨_, rfl⟩
            have hRBwlb : RB w R (q7 + 1 + 1 + 1) wlb := by rw [hwlb]; exact HRBw10.out.pick hR
            have hCwlb : TreeC w.heap.size wlb (.slice (some ⟨g, 0, none⟩) (t.length + 1) c6) cs10 T10 := by rw [hwlb]; exact HCw10.out.pick hR
            have hPwlb : OwnG EL 9 w.heap.size wlb (.slice (some ⟨gp, 0, none⟩) P.length cp) P := by rw [hwlb]; exact own_pick HPw10.out hR
            rw [← hwlb]
            have hdwlb := hRBwlb.rd hr (by omega)
            have HRBwlb := Lib.hid hRBwlb
            have HCwlb := Lib.hid hCwlb
            have HPwlb := Lib.hid hPwlb
            clear hwlb hRBwlb hCwlb hPwlb HRBw10 HCw10 HPw10
            by_cases hl0 : lk = 0
            · subst hl0
              go_wp2_with fail
              refine (pick_any R (q7 + 1 + 1 + 1) (P.length : Int) wlb hdwlb (by omega)).mono ?_
              rintro e w' ⟨pv, dm, rfl, lp, hpv, h2, rfl⟩
              replace hpv := hpv (by omega)
              clear h2
              obtain ⟨wmb, hwmb⟩ : ∃ wmb, wmb = ext (wlb.setCell ⟨R, 1, none⟩ (.int .i64 (q7 + 1 + 1 + 1 + 1))) dm #[] := ⟨_, rfl⟩
              have hRBwmb : RB w R (q7 + 1 + 1 + 1 + 1) wmb := by rw [hwmb]; exact HRBwlb.out.pick hR
              have hCwmb : TreeC w.heap.size wmb (.slice (some ⟨g, 0, none⟩) (t.length + 1) c6) cs10 T10 := by rw [hwmb]; exact HCwlb.out.pick hR
              have hPwmb : OwnG EL 9 w.heap.size wmb (.slice (some ⟨gp, 0, none⟩) P.length cp) P := by rw [hwmb]; exact own_pick HPwlb.out hR
              rw [← hwmb]
              have hdwmb := hRBwmb.rd hr (by omega)
              have HRBwmb := Lib.hid hRBwmb
              have HCwmb := Lib.hid hCwmb
              have HPwmb := Lib.hid hPwmb
              clear hwmb hRBwmb hCwmb hPwmb HRBwlb HCwlb HPwlb
              have hpn : pv.toNat < P.length := by omega
              obtain ⟨b9, o9, ee9, _, hat9⟩ := (ownG_sl HPwmb.out).at_ (List.getElem?_eq_getElem hpn)
              cases ee9
              have cy : wmb.cell? ⟨gp, pv.toNat, none⟩ = some (.string (mk P[pv.toNat])) := by have := hat9 0 _ rfl; simpa [EL] using this
              have hyl : (P[pv.toNat]).length ≤ 54 := HP3.out _ (List.getElem_mem hpn)
              clear hat9
              generalize P[pv.toNat] = y at cy hyl
              go_wp2_with fail
              refine (linkS_of _ T10 0 0 0 0 y [47, 98] wmb (TreeO.r ⟨cs10, HCwmb.out⟩) (by omega) (by omega) (by omega) (by decide)).mono ?_
              rintro e w9 ⟨v9, rfl, hT9, b9⟩
              have hRB9 := HRBwmb.out.step b9
              by_cases hg9 : (linkF T10 0 0 0 0 y [47, 98]).2 = 0
              · obtain ⟨j1, j2, j3, j4⟩ := link_tree2 hg9
                obtain ⟨cs9, hC9⟩ := hT9
                have hC9' := hC9.mono HRBwmb.out.size
                have HC9 := Lib.hid hC9'
                have HRB9 := Lib.hid hRB9
                have J1 := Lib.hid j1
                clear hC9 hC9' hRB9 b9 j1 j4
                obtain ⟨T9, hT9e⟩ : ∃ T9, T9 = (linkF T10 0 0 0 0 y [47, 98]).1 := ⟨_, rfl⟩
                rw [← hT9e] at HC9 J1 j2 j3
                clear hT9e j3
                go_wp2
                go_roundw
                case rel => exact ⟨k - 1, cs9, T9, q7 + 1 + 1 + 1 + 1, by omega, by go_num, HC9.out, J1.out, by omega, HRB9.out, by omega, by omega⟩
                case measure => simp [intOf]; omega
              · have hC9 := HCwmb.out.below b9
                have HC9 := Lib.hid hC9
                have HRB9 := Lib.hid hRB9
                clear hC9 hRB9 b9 hT9
                go_wp2
                go_roundw
                case rel => exact ⟨k - 1, cs10, T10, q7 + 1 + 1 + 1 + 1, by omega, by go_num, HC9.out, HVT10.out, by omega, HRB9.out, by omega, by omega⟩
                case measure => simp [intOf]; omega
            · go_wp2
              go_roundw
              case rel => exact ⟨k - 1, cs10, T10, q7 + 1 + 1 + 1, by omega, by go_num, HCwlb.out, HVT10.out, by omega, HRBwlb.out, by omega, by omega⟩
              case measure => simp [intOf]; omega
        · have hg' := hg
          go_wp2_with fail
          refine (pick_any R (q7) 4 w6 hdw6 (by omega)).mono ?_
          rintro e w' ⟨lk, dl, rfl, ll, hl, h2, rfl⟩
          replace hl := hl (by omega)
          clear h2
          obtain ⟨wla, hwla⟩ : ∃ wla, wla = ext (w6.setCell ⟨R, 1, none⟩ (.int .i64 (q7 + 1))) dl #[] := ⟨_, rfl⟩
          have hRBwla : RB w R (q7 + 1) wla := by rw [hwla]; exact HRBw6.out.pick hR
          have hCwla : TreeC w.heap.size wla (.slice At t.length ct) cs t := by rw [hwla]; exact HCw6.out.pick hR
          have hPwla : OwnG EL 9 w.heap.size wla (.slice (some ⟨gp, 0, none⟩) P.length cp) P := by rw [hwla]; exact own_pick HPw6.out hR
          rw [← hwla]
          have hdwla := hRBwla.rd hr (by omega)
          have HRBwla := Lib.hid hRBwla
          have HCwla := Lib.hid hCwla
          have HPwla := Lib.hid hPwla
          clear hwla hRBwla hCwla hPwla HRBw6 HCw6 HPw6
          by_cases hl0 : lk = 0
          · subst hl0
            go_wp2_with fail
            refine (pick_any R (q7 + 1) (P.length : Int) wla hdwla (by omega)).mono ?_
            rintro e w' ⟨pv, dm, rfl, lp, hpv, h2, rfl⟩
            replace hpv := hpv (by omega)
            clear h2
            obtain ⟨wma, hwma⟩ : ∃ wma, wma = ext (wla.setCell ⟨R, 1, none⟩ (.int .i64 (q7 + 1 + 1))) dm #[] := ⟨_, rfl⟩
            have hRBwma : RB w R (q7 + 1 + 1) wma := by rw [hwma]; exact HRBwla.out.pick hR
            have hCwma : TreeC w.heap.size wma (.slice At t.length ct) cs t := by rw [hwma]; exact HCwla.out.pick hR
            have hPwma : OwnG EL 9 w.heap.size wma (.slice (some ⟨gp, 0, none⟩) P.length cp) P := by rw [hwma]; exact own_pick HPwla.out hR
            rw [← hwma]
            have hdwma := hRBwma.rd hr (by omega)
            have HRBwma := Lib.hid hRBwma
            have HCwma := Lib.hid hCwma
            have HPwma := Lib.hid hPwma
            clear hwma hRBwma hCwma hPwma HRBwla HCwla HPwla
            have hpn : pv.toNat < P.length := by omega
            obtain ⟨b9, o9, ee9, _, hat9⟩ := (ownG_sl HPwma.out).at_ (List.getElem?_eq_getElem hpn)
            cases ee9
            have cy : wma.cell? ⟨gp, pv.toNat, none⟩ = some (.string (mk P[pv.toNat])) := by have := hat9 0 _ rfl; simpa [EL] using this
            have hyl : (P[pv.toNat]).length ≤ 54 := HP3.out _ (List.getElem_mem hpn)
            clear hat9
            generalize P[pv.toNat] = y at cy hyl
            go_wp2_with fail
            refine (linkS_of _ t 0 0 0 0 y [47, 98] wma (TreeO.r ⟨cs, HCwma.out⟩) (by omega) (by omega) (by omega) (by decide)).mono ?_
            rintro e w9 ⟨v9, rfl, hT9, b9⟩
            have hRB9 := HRBwma.out.step b9
            by_cases hg9 : (linkF t 0 0 0 0 y [47, 98]).2 = 0
            · obtain ⟨j1, j2, j3, j4⟩ := link_tree2 hg9
              obtain ⟨cs9, hC9⟩ := hT9
              have hC9' := hC9.mono HRBwma.out.size
              have HC9 := Lib.hid hC9'
              have HRB9 := Lib.hid hRB9
              have J1 := Lib.hid j1
              clear hC9 hC9' hRB9 b9 j1 j4
              obtain ⟨T9, hT9e⟩ : ∃ T9, T9 = (linkF t 0 0 0 0 y [47, 98]).1 := ⟨_, rfl⟩
              rw [← hT9e] at HC9 J1 j2 j3
              clear hT9e j3
              go_wp2
              go_roundw
              case rel => exact ⟨k - 1, cs9, T9, q7 + 1 + 1, by omega, by go_num, HC9.out, J1.out, by omega, HRB9.out, by omega, by omega⟩
              case measure => simp [intOf]; omega
            · have hC9 := HCwma.out.below b9
              have HC9 := Lib.hid hC9
              have HRB9 := Lib.hid hRB9
              clear hC9 hRB9 b9 hT9
              go_wp2
              go_roundw
              case rel => exact ⟨k - 1, cs, t, q7 + 1 + 1, by omega, by go_num, HC9.out, HT0.out, by omega, HRB9.out, by omega, by omega⟩
              case measure => simp [intOf]; omega
          · go_wp2
            go_roundw
            case rel => exact ⟨k - 1, cs, t, q7 + 1, by omega, by go_num, HCwla.out, HT0.out, by omega, HRBwla.out, by omega, by omega⟩
            case measure => simp [intOf]; omega
    · have hdr := HRB.out.rd hr (by omega)
      have hk0' : ¬ (0 : Int) < (k : Int) := by omega
      obtain ⟨At, ct, rfl⟩ := ownG_shape hC.row
      have hlen := hC.len
      rw [hlen] at HC ⊢
      have Hlen := Lib.hid hlen
      have hfew : Few t := few_of hT (by omega)
      have Hfew := Lib.hid hfew
      have HT := Lib.hid hT
      have hfo0 := (tree_all hT).2.1
      clear hC hRB hlen hfew
      go_wp2_with fail
      refine (odd_any R q n wr hdr (by omega) hn hn').mono ?_
      rintro e w' ⟨ob, d1, rfl, rfl⟩
      obtain ⟨wo, hwo⟩ : ∃ wo, wo = ext (wr.setCell ⟨R, 1, none⟩ (.int .i64 (q + 1))) d1 #[] := ⟨_, rfl⟩
      have hRBo : RB w R (q + 1) wo := by rw [hwo]; exact HRB.out.pick hR
      have hCo : TreeC w.heap.size wo (.slice At t.length ct) cs t := by rw [hwo]; exact HC.out.pick hR
      have hdo := hRBo.rd hr (by omega)
      rw [← hwo]
      have HRBo := Lib.hid hRBo
      have HCo := Lib.hid hCo
      clear hwo hRBo hCo HRB HC hT
      cases ob
      · go_wp2
        go_ret
        exact ⟨_, cs, t, q + 1, rfl, HCo.out, by omega, by omega, Hfew.out, by omega, by omega, HRBo.out⟩
      · go_wp2_with fail
        refine (pick_any R (q + 1) 6 wo hdo (by omega)).mono ?_
        rintro e w' ⟨sv, d2', rfl, ls, hs, h2, rfl⟩
        replace hs := hs (by omega)
        clear h2
        obtain ⟨wp, hwp⟩ : ∃ wp, wp = ext (wo.setCell ⟨R, 1, none⟩ (.int .i64 (q + 1 + 1))) d2' #[] := ⟨_, rfl⟩
        have hRBp : RB w R (q + 1 + 1) wp := by rw [hwp]; exact HRBo.out.pick hR
        have hCp : TreeC w.heap.size wp (.slice At t.length ct) cs t := by rw [hwp]; exact HCo.out.pick hR
        have hdp := hRBp.rd hr (by omega)
        rw [← hwp]
        have HRBp := Lib.hid hRBp
        have hszp := hRBp.size
        obtain ⟨g, c0, rfl, hgB, hgw, hcc0, hnd0, _, z0, z1, _, z3, _, z5, z6, zf⟩ := hCp.at_ (k := 0) (by omega)
        have hks0 := head_ks (tree_node HT.out (show 0 < t.length by omega))
        have hkl0 : (kth t 0).ks.length ≤ 14 := by have := kids_drop_take (show 0 < t.length by omega); omega
        have Hks0 := Lib.hid hks0
        have Hnd0 := Lib.hid hnd0
        clear hks0 hnd0
        obtain ⟨g', c1', eg, _, _, _, _, _, y0, y1, _, y3, _, _, _, yf⟩ := hCp.at_ (k := t.length - 1) (by omega)
        cases eg
        have hlt0 : (0 : Int) < (t.length : Int) := by omega
        have zl : IntKind.i64.wrap ((t.length : Int) - 1) = ((t.length - 1 : Nat) : Int) := by rw [IntWalk.i64_in _ (by omega)]; omega
        have hl1 : ((t.length - 1 : Nat) : Int) < (t.length : Int) := by omega
        have hl2 : (0 : Int) ≤ ((t.length - 1 : Nat) : Int) := by omega
        have zf0 := zf (0 * 7)
        have yf1 := yf ((t.length - 1) * 7 + 1)
        have yf3 := yf ((t.length - 1) * 7 + 3)
        have hset : ∀ (i : Nat) (y : Nd), i < t.length → y.ns = (kth t i).ns → y.ks = (kth t i).ks → (t.set i y).length ≤ 20 ∧ (kidsOf (t.set i y)).length ≤ 16 ∧ Few (t.set i y) := fun i y hi h1 h2 => by
          refine ⟨by rw [List.length_set]; omega, ?_, fun j hj => ?_⟩
          · have := kidsLen_set y hi
            rw [h2] at this; omega
          · rw [List.length_set] at hj
            have := kth_set (ex := []) (y := y) hi hj
            rw [List.append_nil] at this
            rw [this]
            split
            · next e => subst e; rw [h1, h2]; exact Hfew.out j hj
            · exact Hfew.out j hj
        have Hset := Lib.hid hset
        have HCp := Lib.hid hCp
        clear hwp hRBp HRBo HCo hdo hset hCp
        have hs6 : sv = 0 ∨ sv = 1 ∨ sv = 2 ∨ sv = 3 ∨ sv = 4 ∨ sv = 5 := by omega
        rcases hs6 with rfl | rfl | rfl | rfl | rfl | rfl
        · go_wp2_with (at_builtin; refine wpList_appG fitEC _ rfl (.tmp 117) (.tmp 119) rfl w.heap.size (.slice (some ⟨g, 0, none⟩) t.length ct) cs rfl ?cO _ [⟨false, 0, 0, 0, ByteArray.empty, none, 0, 0, none, 0, 0⟩] rfl ?cS ?cL ?cB ?_)
          case cO => exact ownG_alloc HCp.out.row _
          case cS => exact slG_one (by simp) (by intro j u hu; rcases j with _ | _ | _ | _ | _ | _ | _ | j <;> simp [EC, Cn.cells] at hu <;> subst hu <;> first | (go_simp; done) | (go_simp; rfl))
          case cL => rw [Hlen.out]; simp; omega
          case cB => simp; omega
          intro v9 w9 ha9 hb9
          have hP := fun h hc hs => TreeC.push (x := newNd false 0 0 0) (t := t) h hc hs ha9
          have hC9 := hP (HCp.out.below (Below.alloc (Below.refl _ _) (Nat.le_refl _) _)) ⟨rfl, rfl, rfl, rfl, rfl, ownG_none _ _, ownG_none _ _, by show ByteArray.empty.size ≤ maxLen; decide, fun y hy => by cases hy⟩ (fun j d _ => ⟨.inl rfl, .inl rfl⟩)
          have hR9 : RB w R (q + 1 + 1) w9 := Below.trans (HRBp.out.step (Below.alloc (Below.refl _ _) (Nat.le_refl _) _)) (Below.mono hb9 (by rw [size_setCell]; exact Nat.le_refl _))
          have HC9 := Lib.hid hC9
          have HR9 := Lib.hid hR9
          clear hP hC9 hR9 ha9 hb9
          go_wp2
          go_ret
          refine ⟨_, _, _, q + 1 + 1, rfl, HC9.out, by simp; omega, ?_, fun j hj => ?_, by omega, by omega, HR9.out⟩
          · have e : kidsOf (t ++ [newNd false 0 0 0]) = kidsOf t := by simp [kidsOf, newNd]
            rw [e]; omega
          · by_cases hj2 : j < t.length
            · have e : kth (t ++ [newNd false 0 0 0]) j = kth t j := by
                unfold kth
                rw [List.getD_eq_getElem?_getD, List.getD_eq_getElem?_getD, List.getElem?_append_left hj2]
              rw [e]; exact Hfew.out j hj2
            · have hj3 : j = t.length := by simp at hj; omega
              subst hj3
              have e : kth (t ++ [newNd false 0 0 0]) t.length = newNd false 0 0 0 := by
                unfold kth
                rw [List.getD_eq_getElem?_getD, List.getElem?_append_right (Nat.le_refl _), Nat.sub_self]; rfl
              rw [e]; simp [newNd]
        · obtain ⟨cs9, hC9⟩ := HCp.out.head (k := 0) (j := 0) (u := .bool false) (y := { kth t 0 with fo := false }) (by omega) (by decide) ⟨rfl, rfl, (HCp.out.nds 0 _ _ (List.getElem?_eq_getElem (show 0 < cs.length by have := Hlen.out; omega)) (kth_at (by omega))).sz⟩ (fun c hc => by
            have hn := HCp.out.nds 0 c _ hc (kth_at (by omega))
            rw [← hn.ow, ← hn.gr, ← hn.mo, ← hn.tx]; rfl)
          have HC9 := Lib.hid hC9
          have hs9 := Lib.hid (Hset.out 0 { kth t 0 with fo := false } (by omega) rfl rfl)
          have HR9 := Lib.hid (HRBp.out.store (i := 0 * 7 + 0) (u := .bool false) hgB)
          clear hC9
          go_wp2
          go_ret
          exact ⟨_, _, _, q + 1 + 1, rfl, HC9.out, hs9.out.1, hs9.out.2.1, hs9.out.2.2, by omega, by omega, HR9.out⟩
        · go_wp2_with fail
          have hdl := (HRBp.out.step (show Below wp.heap.size wp (wp.alloc (.cells #[.int .i64 (-1), .int .i64 100] 3)) from Below.alloc (Below.refl _ _) (Nat.le_refl _) _)).rd hr (by omega)
          refine (pick_any R (q + 1 + 1) 2 _ hdl (by omega)).mono ?_
          rintro e w' ⟨ov, dq, rfl, lo, ho, h2, rfl⟩
          replace ho := ho (by omega)
          clear h2 hdl
          have hgR : g ≠ R := by omega
          have hRp := hdp.lt
          have hCa := HCp.out.rset (u := .int .i64 (q + 1 + 1 + 1)) (i := 1) hR
          obtain ⟨cs9, hC9⟩ := hCa.head (k := t.length - 1) (j := 1) (u := .int .i64 (selN ov [-1, 100])) (y := { kth t (t.length - 1) with ow := selN ov [-1, 100] }) (by omega) (by decide) ⟨rfl, rfl, (HCp.out.nds (t.length - 1) _ _ (List.getElem?_eq_getElem (show t.length - 1 < cs.length by have := Hlen.out; omega)) (kth_at (by omega))).sz⟩ (fun c hc => by
            have hn := HCp.out.nds (t.length - 1) c _ hc (kth_at (by omega))
            rw [← hn.fo, ← hn.gr, ← hn.mo, ← hn.tx]; rfl)
          have HC9 := Lib.hid hC9
          have hs9 := Lib.hid (Hset.out (t.length - 1) { kth t (t.length - 1) with ow := selN ov [-1, 100] } (by omega) rfl rfl)
          have HR9 := Lib.hid ((HRBp.out.rset (q' := q + 1 + 1 + 1) hR).store (i := (t.length - 1) * 7 + 1) (u := .int .i64 (selN ov [-1, 100])) hgB)
          clear hC9 hCa
          go_wp2
          go_ret
          exact ⟨_, _, _, q + 1 + 1 + 1, rfl, HC9.out.below (Below.ext (Below.alloc (Below.refl _ _) (Nat.le_refl _) _) (by simp)), hs9.out.1, hs9.out.2.1, hs9.out.2.2, by omega, by omega, HR9.out.step (Below.ext (Below.alloc (Below.refl _ _) (Nat.le_refl _) _) (by simp))⟩
        · have hnl : c0.nL = (kth t 0).ns.length := by obtain ⟨_, _, e⟩ := ownG_shape Hnd0.out.ns; injection e with _ e _
          have hkl : c0.kL = (kth t 0).ks.length := by obtain ⟨_, _, e⟩ := ownG_shape Hnd0.out.ks; injection e with _ e _
          have Hnl := Lib.hid hnl
          have Hkl := Lib.hid hkl
          have hnl0 : (kth t 0).ns.length ≤ 14 := by have := Hks0.out; omega
          have z5' : wp.cell? ⟨g, 5, none⟩ = some (.slice c0.nA (kth t 0).ns.length c0.nC) := z5
          have z6' : wp.cell? ⟨g, 6, none⟩ = some (.slice c0.kA (kth t 0).ks.length c0.kC) := z6
          have zf5 := zf 5
          have zf6 := zf 6
          have hgR : g ≠ R := by omega
          clear hnl hkl
          go_wp2_with (at_builtin; refine wpList_appG fitEL _ rfl (.tmp 145) (.tmp 146) rfl w.heap.size (.slice c0.nA (kth t 0).ns.length c0.nC) (kth t 0).ns rfl ?cO _ [[122, 122]] rfl ?cS ?cL ?cB ?_)
          case cO =>
            have := Hnd0.out.ns
            rw [Hnl.out] at this
            exact ownG_alloc this _
          case cS => exact slG_one (by simp) (by intro j u hu; rcases j with _ | j <;> simp [EL] at hu; subst hu; first | (go_simp; done) | (go_simp; rfl))
          case cL => simp; omega
          case cB => simp; omega
          intro v8 w8 ha8 hb8
          obtain ⟨A8, c8, rfl⟩ := ownG_shape ha8.1
          have hCl := HCp.out.below (Below.alloc (Below.refl _ _) (Nat.le_refl _) (.cells #[.string ⟨#[122, 122]⟩] 9))
          have hsep : some g ≠ (Value.slice c0.nA (kth t 0).ns.length c0.nC).ownBlock := by
            have h1 := Hnd0.out.ns
            rw [Hnl.out] at h1
            have h2 := ownG_type HCp.out.row h1 (by decide)
            exact h2.resolve_left (by simp [Value.ownBlock])
          have x5 : w8.cell? ⟨g, 5, none⟩ = some (.slice c0.nA (kth t 0).ns.length c0.nC) := (ha8.2.1.cell_far ⟨g, 5, none⟩ (by simp; omega) hsep).trans (by go_simp)
          have x6 : w8.cell? ⟨g, 6, none⟩ = some (.slice c0.kA (kth t 0).ks.length c0.kC) := (ha8.2.1.cell_far ⟨g, 6, none⟩ (by simp; omega) hsep).trans (by go_simp)
          have xf5 : w8.frozen? ⟨g, 5, none⟩ = false := (ha8.2.1.frozen_far ⟨g, 5, none⟩ (by simp; omega) hsep).trans (by go_simp)
          have xf6 : w8.frozen? ⟨g, 6, none⟩ = false := (ha8.2.1.frozen_far ⟨g, 6, none⟩ (by simp; omega) hsep).trans (by go_simp)
          have ha8' := ha8
          rw [← Hnl.out] at ha8'
          obtain ⟨cs9, hC9⟩ := TreeC.names hCl (k := 0) (by omega) hcc0 ha8' (by decide)
          have hRB8 : RB w R (q + 1 + 1) w8 := Below.trans (HRBp.out.step (Below.alloc (Below.refl _ _) (Nat.le_refl _) _)) (Below.mono hb8 (by rw [size_setCell]; exact Nat.le_refl _))
          have hRB9 := hRB8.store (i := 5) (u := .slice A8 ((kth t 0).ns ++ [[122, 122]]).length c8) hgB
          simp only [List.length_append, List.length_singleton] at hC9 hRB9
          obtain ⟨T9, hT9⟩ : ∃ T9, T9 = t.set 0 { kth t 0 with ns := (kth t 0).ns ++ [[122, 122]] } := ⟨_, rfl⟩
          rw [← hT9] at hC9
          obtain ⟨w9, hw9⟩ : ∃ w9, w9 = w8.setCell ⟨g, 5, none⟩ (.slice A8 ((kth t 0).ns.length + 1) c8) := ⟨_, rfl⟩
          have hC9' : TreeC w.heap.size w9 (.slice (some ⟨g, 0, none⟩) t.length ct) cs9 T9 := by rw [hw9]; exact hC9
          rw [← hw9] at hRB9
          have hd9 := hRB9.rd hr (by omega)
          have hl9 : T9.length = t.length := by rw [hT9, List.length_set]
          have hk9 : ∀ j, j < t.length → kth T9 j = if j = 0 then { kth t 0 with ns := (kth t 0).ns ++ [[122, 122]] } else kth t j := fun j hj => by
            have := kth_set (ex := []) (y := { kth t 0 with ns := (kth t 0).ns ++ [[122, 122]] }) (show 0 < t.length by omega) hj
            rw [List.append_nil] at this
            rw [hT9, this]
          have hK9 : (kth T9 0).ks = (kth t 0).ks := by rw [hk9 0 (by omega), if_pos rfl]
          have hkids9 : (kidsOf T9).length = (kidsOf t).length := by
            have := kidsLen_set { kth t 0 with ns := (kth t 0).ns ++ [[122, 122]] } (show 0 < t.length by omega)
            rw [← hT9] at this
            simp only at this
            omega
          have hfew9 : Few T9 := fun j hj => by
            rw [hk9 j (by omega)]
            split
            · simp; omega
            · exact Hfew.out j (by omega)
          obtain ⟨g', c9, eg, _, hgw9, hcc9, hnd9, _, _, _, _, _, _, _, y6, yf9⟩ := hC9'.at_ (k := 0) (by omega)
          cases eg
          have y6' : w9.cell? ⟨g, 6, none⟩ = some (.slice c9.kA (kth T9 0).ks.length c9.kC) := y6
          have yf6 := yf9 6
          have hkl9 : c9.kL = (kth T9 0).ks.length := by obtain ⟨_, _, e⟩ := ownG_shape hnd9.ks; injection e with _ e _
          have hKlen : (kth T9 0).ks.length ≤ 14 := by rw [hK9]; exact hkl0
          have hown9 : OwnG EI 3 w.heap.size w9 (.slice c9.kA (kth T9 0).ks.length c9.kC) (kth T9 0).ks := by have := hnd9.ks; rw [hkl9] at this; exact this
          have hsep9 : some g ≠ (Value.slice c9.kA (kth T9 0).ks.length c9.kC).ownBlock := (ownG_type hC9'.row hown9 (by decide)).resolve_left (by simp [Value.ownBlock])
          have HC9 := Lib.hid hC9'
          have HRB9 := Lib.hid hRB9
          have Hown9 := Lib.hid hown9
          have Hk9 := Lib.hid hk9
          have Hkl9 := Lib.hid hkl9
          have Hf9 := Lib.hid hfew9
          have Hl9 := Lib.hid hl9
          have Hki9 := Lib.hid hkids9
          have hR9 := hd9.lt
          have hsz9 := hRB9.size
          go_upto_region 29 with fail
          rw [← hw9]
          obtain ⟨KL, hKe⟩ : ∃ KL, KL = (kth T9 0).ks := ⟨_, rfl⟩
          rw [← hKe] at y6' Hown9 hsep9 hKlen
          have HKe := Lib.hid hKe
          clear hw9 hC9 hC9' hRB9 hown9 hk9 hT9 hK9 hkl9 hnd9 ha8 ha8' hb8 hRB8 hCl hfew9 hl9 hkids9 hKe x5 x6 xf5 xf6 y6 yf9 hsep z0 z1 z3 z5 z6 z5' z6' zf y0 y1 y3 yf zf0 yf1 yf3 zf5 zf6 Hset HCp HRBp hdp hgw
          have h0t : 0 < t.length := by omega
          have h0t' : (0 : Int) < (t.length : Int) := by omega
          have hl9' : T9.length = t.length := Hl9.out
          obtain ⟨w0, hw0⟩ : ∃ w0, w0 = w := ⟨_, rfl⟩
          obtain ⟨B, hB⟩ : ∃ B, B = w.heap.size := ⟨_, rfl⟩
          obtain ⟨q0, hq0⟩ : ∃ q0, q0 = q + 1 + 1 := ⟨_, rfl⟩
          have hB0 : w0.heap.size = B := by rw [hw0, hB]
          have hRB : R < B := by rw [hB]; exact hR
          rw [← hB] at HC9 Hown9 hgB
          rw [← hw0] at HRB9 hR
          rw [← hq0] at HRB9 hd9
          generalize ((kth t 0).ns ++ [[122, 122]]).length = NN
          refine wp_region_put [150, 151, 152, 153, 154, 155, 156, 157, 158, 159, 160, 161, 162, 163, 164, 165] (fun L us wx => ∃ u150 u151 u152 u153 u154 u155 u156 u157 u158 u159 u160 u161 u162 u163 u164 u165, us = [u150, u151, u152, u153, u154, u155, u156, u157, u158, u159, u160, u161, u162, u163, u164, u165] ∧ FK R B g t.length ct c9.kC q0 w9 w0 c9.kA KL T9 L wx u150 u151 u152 u153 u154 u155 u156 u157 u158 u159 u160 u161 u162 u163 u164 u165) (by kernel_rfl) (by kernel_rfl) ?_ ?_ ?_
          · exact ⟨_, _, _, _, _, _, _, _, _, _, _, _, _, _, _, _, rfl, ⟨⟨q0, Int.le_refl _, by simp [b2n], fun _ => Below.drew (by rw [same_setCell hd9]; exact Below.refl _ _), ⟨fun h => absurd h (by simp), fun h => absurd h (by simp), fun h => absurd h (by simp), fun h => absurd h (by simp), fun h => absurd h (by simp), fun h => absurd h (by simp), fun h => absurd h (by simp), fun h => absurd h (by simp), fun h => absurd h (by simp), fun h => absurd h (by simp), fun h => absurd h (by simp), fun h => absurd h (by simp), fun h => absurd h (by simp)⟩⟩, fun h => absurd h (by simp), fun h => absurd h (by simp), fun _ h => absurd h (by simp), fun _ h => absurd h (by simp), fun _ h => absurd h (by simp), fun _ h => absurd h (by simp), fun _ h => absurd h (by simp), fun _ h => absurd h (by simp), fun _ h => absurd h (by simp), fun _ h => absurd h (by simp), fun _ h => absurd h (by simp), fun _ h => absurd h (by simp), fun _ h => absurd h (by simp), fun _ h => absurd h (by simp), fun h => absurd h (by simp), fun h => absurd h (by simp), fun h => absurd h (by simp), fun h => absurd h (by simp)⟩⟩
          · repeat' (first | exact Stps.nil | refine Stps.cons ?_ ?_)
            · show Stp _ _ _ _ _ 0 _
              intro L _ w hi hL ⟨us, hus, u150, u151, u152, u153, u154, u155, u156, u157, u158, u159, u160, u161, u162, u163, u164, u165, e, hF⟩ K hK
              subst hus
              have HF := Lib.hid hF
              clear hF
              obtain ⟨qq, q1, q2, hbl, c16⟩ := HF.out.com
              subst e
              simp only [putsA, putsL, List.set_cons_zero, List.set_cons_succ]
              go_simp
              refine hK.out _ _ ⟨[.slice (some ⟨g, 0, none⟩) t.length ct, u151, u152, u153, u154, u155, u156, u157, u158, u159, u160, u161, u162, u163, u164, u165], by kernel_rfl, _, _, _, _, _, _, _, _, _, _, _, _, _, _, _, _, rfl, ⟨qq, q1, q2, hbl, ⟨fun h => upd_of (c16.e2_1 h), fun h => upd_of (c16.e3_2 h), fun h => upd_of (c16.e4_3 h), fun h => upd_of (c16.e6_5 h), fun h => upd_of (c16.e7_6 h), fun h => upd_of (c16.e9_8 h), fun h => upd_of (c16.e10_7 h), fun h => upd_of (c16.e10_9 h), fun h => upd_of (c16.e11_10 h), fun h => upd_of (c16.e12_11 h), fun h => upd_of (c16.e13_12 h), fun h => upd_of (c16.e13_4 h), fun h => upd_of (c16.e16_13 h)⟩⟩, fun h k hk k0 => upd_of (HF.out.cl h k hk k0),
                fun _ => rfl,
                fun h hj => HF.out.f1 h hj,
                fun h hj => HF.out.f2 h hj,
                fun h hj => HF.out.f3 h hj,
                fun h hj => HF.out.f4 h hj,
                fun h hj => HF.out.f5 h hj,
                fun h hj => HF.out.f6 h hj,
                fun h hj => HF.out.f7 h hj,
                fun h hj => HF.out.f8 h hj,
                fun h hj => HF.out.f9 h hj,
                fun h hj => HF.out.f10 h hj,
                fun h hj => HF.out.f11 h hj,
                fun h hj => HF.out.f12 h hj,
                fun hj => HF.out.f13 hj,
                fun hj => HF.out.f14 hj,
                fun hj => HF.out.f15 hj,
                fun hj => HF.out.f16 hj⟩
            · show Stp _ _ _ _ _ 1 _
              intro L _ w hi hL ⟨us, hus, u150, u151, u152, u153, u154, u155, u156, u157, u158, u159, u160, u161, u162, u163, u164, u165, e, hF⟩ K hK
              subst hus
              have HF := Lib.hid hF
              clear hF
              obtain ⟨qq, q1, q2, hbl, c16⟩ := HF.out.com
              have hnl : L 13 = false := no_last (fun h => HF.out.cl h 1 (by decide) (by decide)) hi
              have hn13 := hnl
              subst e
              simp only [putsA, putsL, List.set_cons_zero, List.set_cons_succ]
              go_simp
              refine hK.out _ _ ⟨[u150, .slice (some ⟨g, 0, none⟩) t.length ct, u152, u153, u154, u155, u156, u157, u158, u159, u160, u161, u162, u163, u164, u165], by kernel_rfl, _, _, _, _, _, _, _, _, _, _, _, _, _, _, _, _, rfl, ⟨qq, q1, q2, hbl, ⟨fun h => upd_of (c16.e2_1 h), fun h => upd_of (c16.e3_2 h), fun h => upd_of (c16.e4_3 h), fun h => upd_of (c16.e6_5 h), fun h => upd_of (c16.e7_6 h), fun h => upd_of (c16.e9_8 h), fun h => upd_of (c16.e10_7 h), fun h => upd_of (c16.e10_9 h), fun h => upd_of (c16.e11_10 h), fun h => upd_of (c16.e12_11 h), fun h => upd_of (c16.e13_12 h), fun h => upd_of (c16.e13_4 h), fun h => upd_of (c16.e16_13 h)⟩⟩, fun h => absurd (show L 13 = true from h) (by simp [hnl]),
                fun hj => HF.out.f0 hj,
                fun _ _ => rfl,
                fun _ hj => HF.out.f2 hnl hj,
                fun _ hj => HF.out.f3 hnl hj,
                fun _ hj => HF.out.f4 hnl hj,
                fun _ hj => HF.out.f5 hnl hj,
                fun _ hj => HF.out.f6 hnl hj,
                fun _ hj => HF.out.f7 hnl hj,
                fun _ hj => HF.out.f8 hnl hj,
                fun _ hj => HF.out.f9 hnl hj,
                fun _ hj => HF.out.f10 hnl hj,
                fun _ hj => HF.out.f11 hnl hj,
                fun _ hj => HF.out.f12 hnl hj,
                fun hj => absurd (show L 13 = true from hj) (by simp [hnl]),
                fun hj => HF.out.f14 hj,
                fun hj => HF.out.f15 hj,
                fun hj => absurd (show L 13 = true from c16.e16_13 hj) (by simp [hn13])⟩
            · show Stp _ _ _ _ _ 2 _
              intro L _ w hi hL ⟨us, hus, u150, u151, u152, u153, u154, u155, u156, u157, u158, u159, u160, u161, u162, u163, u164, u165, e, hF⟩ K hK
              subst hus
              have HF := Lib.hid hF
              clear hF
              obtain ⟨qq, q1, q2, hbl, c16⟩ := HF.out.com
              have hnl : L 13 = false := no_last (fun h => HF.out.cl h 2 (by decide) (by decide)) hi
              have hn13 := hnl
              simp [Region.binds] at hL
              have g1 := HF.out.f1 hnl (by simp [hL])
              obtain rfl := g1
              subst e
              simp only [putsA, putsL, List.set_cons_zero, List.set_cons_succ]
              go_simp
              refine hK.out _ _ ⟨[u150, .slice (some ⟨g, 0, none⟩) t.length ct, .pointer (some ⟨g, 0, none⟩), u153, u154, u155, u156, u157, u158, u159, u160, u161, u162, u163, u164, u165], by kernel_rfl, _, _, _, _, _, _, _, _, _, _, _, _, _, _, _, _, rfl, ⟨qq, q1, q2, hbl, ⟨fun _ => upd_of (by simp [hL]), fun h => upd_of (c16.e3_2 h), fun h => upd_of (c16.e4_3 h), fun h => upd_of (c16.e6_5 h), fun h => upd_of (c16.e7_6 h), fun h => upd_of (c16.e9_8 h), fun h => upd_of (c16.e10_7 h), fun h => upd_of (c16.e10_9 h), fun h => upd_of (c16.e11_10 h), fun h => upd_of (c16.e12_11 h), fun h => upd_of (c16.e13_12 h), fun h => upd_of (c16.e13_4 h), fun h => upd_of (c16.e16_13 h)⟩⟩, fun h => absurd (show L 13 = true from h) (by simp [hnl]),
                fun hj => HF.out.f0 hj,
                fun _ hj => HF.out.f1 hnl hj,
                fun _ _ => rfl,
                fun _ hj => HF.out.f3 hnl hj,
                fun _ hj => HF.out.f4 hnl hj,
                fun _ hj => HF.out.f5 hnl hj,
                fun _ hj => HF.out.f6 hnl hj,
                fun _ hj => HF.out.f7 hnl hj,
                fun _ hj => HF.out.f8 hnl hj,
                fun _ hj => HF.out.f9 hnl hj,
                fun _ hj => HF.out.f10 hnl hj,
                fun _ hj => HF.out.f11 hnl hj,
                fun _ hj => HF.out.f12 hnl hj,
                fun hj => absurd (show L 13 = true from hj) (by simp [hnl]),
                fun hj => HF.out.f14 hj,
                fun hj => HF.out.f15 hj,
                fun hj => absurd (show L 13 = true from c16.e16_13 hj) (by simp [hn13])⟩
            · show Stp _ _ _ _ _ 3 _
              intro L _ w hi hL ⟨us, hus, u150, u151, u152, u153, u154, u155, u156, u157, u158, u159, u160, u161, u162, u163, u164, u165, e, hF⟩ K hK
              subst hus
              have HF := Lib.hid hF
              clear hF
              obtain ⟨qq, q1, q2, hbl, c16⟩ := HF.out.com
              have hnl : L 13 = false := no_last (fun h => HF.out.cl h 3 (by decide) (by decide)) hi
              have hn13 := hnl
              simp [Region.binds] at hL
              have g2 := HF.out.f2 hnl (by simp [hL])
              obtain rfl := g2
              subst e
              simp only [putsA, putsL, List.set_cons_zero, List.set_cons_succ]
              go_simp
              refine hK.out _ _ ⟨[u150, u151, .pointer (some ⟨g, 0, none⟩), .pointer (some ⟨g, 6, none⟩), u154, u155, u156, u157, u158, u159, u160, u161, u162, u163, u164, u165], by kernel_rfl, _, _, _, _, _, _, _, _, _, _, _, _, _, _, _, _, rfl, ⟨qq, q1, q2, hbl, ⟨fun h => upd_of (c16.e2_1 h), fun _ => upd_of (by simp [hL]), fun h => upd_of (c16.e4_3 h), fun h => upd_of (c16.e6_5 h), fun h => upd_of (c16.e7_6 h), fun h => upd_of (c16.e9_8 h), fun h => upd_of (c16.e10_7 h), fun h => upd_of (c16.e10_9 h), fun h => upd_of (c16.e11_10 h), fun h => upd_of (c16.e12_11 h), fun h => upd_of (c16.e13_12 h), fun h => upd_of (c16.e13_4 h), fun h => upd_of (c16.e16_13 h)⟩⟩, fun h => absurd (show L 13 = true from h) (by simp [hnl]),
                fun hj => HF.out.f0 hj,
                fun _ hj => HF.out.f1 hnl hj,
                fun _ hj => HF.out.f2 hnl hj,
                fun _ _ => rfl,
                fun _ hj => HF.out.f4 hnl hj,
                fun _ hj => HF.out.f5 hnl hj,
                fun _ hj => HF.out.f6 hnl hj,
                fun _ hj => HF.out.f7 hnl hj,
                fun _ hj => HF.out.f8 hnl hj,
                fun _ hj => HF.out.f9 hnl hj,
                fun _ hj => HF.out.f10 hnl hj,
                fun _ hj => HF.out.f11 hnl hj,
                fun _ hj => HF.out.f12 hnl hj,
                fun hj => absurd (show L 13 = true from hj) (by simp [hnl]),
                fun hj => HF.out.f14 hj,
                fun hj => HF.out.f15 hj,
                fun hj => absurd (show L 13 = true from c16.e16_13 hj) (by simp [hn13])⟩
            · show Stp _ _ _ _ _ 4 _
              intro L _ w hi hL ⟨us, hus, u150, u151, u152, u153, u154, u155, u156, u157, u158, u159, u160, u161, u162, u163, u164, u165, e, hF⟩ K hK
              subst hus
              have HF := Lib.hid hF
              clear hF
              obtain ⟨qq, q1, q2, hbl, c16⟩ := HF.out.com
              have hnl : L 13 = false := no_last (fun h => HF.out.cl h 4 (by decide) (by decide)) hi
              have hn13 := hnl
              simp [Region.binds] at hL
              have g3 := HF.out.f3 hnl (by simp [hL])
              obtain rfl := g3
              have hbl := hbl hnl
              have c0 := (boxed (o := 6) hbl hgw9 hgR).trans y6'
              subst e
              simp only [putsA, putsL, List.set_cons_zero, List.set_cons_succ]
              go_simp
              refine hK.out _ _ ⟨[u150, u151, u152, .pointer (some ⟨g, 6, none⟩), .slice c9.kA KL.length c9.kC, u155, u156, u157, u158, u159, u160, u161, u162, u163, u164, u165], by kernel_rfl, _, _, _, _, _, _, _, _, _, _, _, _, _, _, _, _, rfl, ⟨qq, q1, q2, fun _ => hbl, ⟨fun h => upd_of (c16.e2_1 h), fun h => upd_of (c16.e3_2 h), fun _ => upd_of (by simp [hL]), fun h => upd_of (c16.e6_5 h), fun h => upd_of (c16.e7_6 h), fun h => upd_of (c16.e9_8 h), fun h => upd_of (c16.e10_7 h), fun h => upd_of (c16.e10_9 h), fun h => upd_of (c16.e11_10 h), fun h => upd_of (c16.e12_11 h), fun h => upd_of (c16.e13_12 h), fun h => upd_of (c16.e13_4 h), fun h => upd_of (c16.e16_13 h)⟩⟩, fun h => absurd (show L 13 = true from h) (by simp [hnl]),
                fun hj => HF.out.f0 hj,
                fun _ hj => HF.out.f1 hnl hj,
                fun _ hj => HF.out.f2 hnl hj,
                fun _ hj => HF.out.f3 hnl hj,
                fun _ _ => rfl,
                fun _ hj => HF.out.f5 hnl hj,
                fun _ hj => HF.out.f6 hnl hj,
                fun _ hj => HF.out.f7 hnl hj,
                fun _ hj => HF.out.f8 hnl hj,
                fun _ hj => HF.out.f9 hnl hj,
                fun _ hj => HF.out.f10 hnl hj,
                fun _ hj => HF.out.f11 hnl hj,
                fun _ hj => HF.out.f12 hnl hj,
                fun hj => absurd (show L 13 = true from hj) (by simp [hnl]),
                fun hj => HF.out.f14 hj,
                fun hj => HF.out.f15 hj,
                fun hj => absurd (show L 13 = true from c16.e16_13 hj) (by simp [hn13])⟩
            · show Stp _ _ _ _ _ 5 _
              intro L _ w hi hL ⟨us, hus, u150, u151, u152, u153, u154, u155, u156, u157, u158, u159, u160, u161, u162, u163, u164, u165, e, hF⟩ K hK
              subst hus
              have HF := Lib.hid hF
              clear hF
              obtain ⟨qq, q1, q2, hbl, c16⟩ := HF.out.com
              have hnl : L 13 = false := no_last (fun h => HF.out.cl h 5 (by decide) (by decide)) hi
              have hn13 := hnl
              subst e
              simp only [putsA, putsL, List.set_cons_zero, List.set_cons_succ]
              go_simp
              refine hK.out _ _ ⟨[u150, u151, u152, u153, u154, .slice (some ⟨g, 0, none⟩) t.length ct, u156, u157, u158, u159, u160, u161, u162, u163, u164, u165], by kernel_rfl, _, _, _, _, _, _, _, _, _, _, _, _, _, _, _, _, rfl, ⟨qq, q1, q2, hbl, ⟨fun h => upd_of (c16.e2_1 h), fun h => upd_of (c16.e3_2 h), fun h => upd_of (c16.e4_3 h), fun h => upd_of (c16.e6_5 h), fun h => upd_of (c16.e7_6 h), fun h => upd_of (c16.e9_8 h), fun h => upd_of (c16.e10_7 h), fun h => upd_of (c16.e10_9 h), fun h => upd_of (c16.e11_10 h), fun h => upd_of (c16.e12_11 h), fun h => upd_of (c16.e13_12 h), fun h => upd_of (c16.e13_4 h), fun h => upd_of (c16.e16_13 h)⟩⟩, fun h => absurd (show L 13 = true from h) (by simp [hnl]),
                fun hj => HF.out.f0 hj,
                fun _ hj => HF.out.f1 hnl hj,
                fun _ hj => HF.out.f2 hnl hj,
                fun _ hj => HF.out.f3 hnl hj,
                fun _ hj => HF.out.f4 hnl hj,
                fun _ _ => rfl,
                fun _ hj => HF.out.f6 hnl hj,
                fun _ hj => HF.out.f7 hnl hj,
                fun _ hj => HF.out.f8 hnl hj,
                fun _ hj => HF.out.f9 hnl hj,
                fun _ hj => HF.out.f10 hnl hj,
                fun _ hj => HF.out.f11 hnl hj,
                fun _ hj => HF.out.f12 hnl hj,
                fun hj => absurd (show L 13 = true from hj) (by simp [hnl]),
                fun hj => HF.out.f14 hj,
                fun hj => HF.out.f15 hj,
                fun hj => absurd (show L 13 = true from c16.e16_13 hj) (by simp [hn13])⟩
            · show Stp _ _ _ _ _ 6 _
              intro L _ w hi hL ⟨us, hus, u150, u151, u152, u153, u154, u155, u156, u157, u158, u159, u160, u161, u162, u163, u164, u165, e, hF⟩ K hK
              subst hus
              have HF := Lib.hid hF
              clear hF
              obtain ⟨qq, q1, q2, hbl, c16⟩ := HF.out.com
              have hnl : L 13 = false := no_last (fun h => HF.out.cl h 6 (by decide) (by decide)) hi
              have hn13 := hnl
              simp [Region.binds] at hL
              have g5 := HF.out.f5 hnl (by simp [hL])
              obtain rfl := g5
              subst e
              simp only [putsA, putsL, List.set_cons_zero, List.set_cons_succ]
              go_simp
              refine hK.out _ _ ⟨[u150, u151, u152, u153, u154, .slice (some ⟨g, 0, none⟩) t.length ct, .int .i64 (t.length : Int), u157, u158, u159, u160, u161, u162, u163, u164, u165], by kernel_rfl, _, _, _, _, _, _, _, _, _, _, _, _, _, _, _, _, rfl, ⟨qq, q1, q2, hbl, ⟨fun h => upd_of (c16.e2_1 h), fun h => upd_of (c16.e3_2 h), fun h => upd_of (c16.e4_3 h), fun _ => upd_of (by simp [hL]), fun h => upd_of (c16.e7_6 h), fun h => upd_of (c16.e9_8 h), fun h => upd_of (c16.e10_7 h), fun h => upd_of (c16.e10_9 h), fun h => upd_of (c16.e11_10 h), fun h => upd_of (c16.e12_11 h), fun h => upd_of (c16.e13_12 h), fun h => upd_of (c16.e13_4 h), fun h => upd_of (c16.e16_13 h)⟩⟩, fun h => absurd (show L 13 = true from h) (by simp [hnl]),
                fun hj => HF.out.f0 hj,
                fun _ hj => HF.out.f1 hnl hj,
                fun _ hj => HF.out.f2 hnl hj,
                fun _ hj => HF.out.f3 hnl hj,
                fun _ hj => HF.out.f4 hnl hj,
                fun _ hj => HF.out.f5 hnl hj,
                fun _ _ => rfl,
                fun _ hj => HF.out.f7 hnl hj,
                fun _ hj => HF.out.f8 hnl hj,
                fun _ hj => HF.out.f9 hnl hj,
                fun _ hj => HF.out.f10 hnl hj,
                fun _ hj => HF.out.f11 hnl hj,
                fun _ hj => HF.out.f12 hnl hj,
                fun hj => absurd (show L 13 = true from hj) (by simp [hnl]),
                fun hj => HF.out.f14 hj,
                fun hj => HF.out.f15 hj,
                fun hj => absurd (show L 13 = true from c16.e16_13 hj) (by simp [hn13])⟩
            · show Stp _ _ _ _ _ 7 _
              intro L _ w hi hL ⟨us, hus, u150, u151, u152, u153, u154, u155, u156, u157, u158, u159, u160, u161, u162, u163, u164, u165, e, hF⟩ K hK
              subst hus
              have HF := Lib.hid hF
              clear hF
              obtain ⟨qq, q1, q2, hbl, c16⟩ := HF.out.com
              have hnl : L 13 = false := no_last (fun h => HF.out.cl h 7 (by decide) (by decide)) hi
              have hn13 := hnl
              simp [Region.binds] at hL
              have g6 := HF.out.f6 hnl (by simp [hL])
              obtain rfl := g6
              have hbl := hbl hnl
              have hw : R < w.heap.size := (Rd.at_ hd9 (by omega) hbl).lt
              subst e
              simp only [putsA, putsL, List.set_cons_zero, List.set_cons_succ]
              go_simp
              refine hK.out _ _ ⟨[u150, u151, u152, u153, u154, u155, .int .i64 (t.length : Int), .slice (some ⟨w.heap.size, 0, none⟩) 3 3, u158, u159, u160, u161, u162, u163, u164, u165], by kernel_rfl, _, _, _, _, _, _, _, _, _, _, _, _, _, _, _, _, rfl, ⟨qq, q1, q2, fun _ => Below.alloc hbl hbl.size _, ⟨fun h => upd_of (c16.e2_1 h), fun h => upd_of (c16.e3_2 h), fun h => upd_of (c16.e4_3 h), fun h => upd_of (c16.e6_5 h), fun _ => upd_of (by simp [hL]), fun h => upd_of (c16.e9_8 h), fun h => upd_of (c16.e10_7 h), fun h => upd_of (c16.e10_9 h), fun h => upd_of (c16.e11_10 h), fun h => upd_of (c16.e12_11 h), fun h => upd_of (c16.e13_12 h), fun h => upd_of (c16.e13_4 h), fun h => upd_of (c16.e16_13 h)⟩⟩, fun h => absurd (show L 13 = true from h) (by simp [hnl]),
                fun hj => HF.out.f0 hj,
                fun _ hj => HF.out.f1 hnl hj,
                fun _ hj => HF.out.f2 hnl hj,
                fun _ hj => HF.out.f3 hnl hj,
                fun _ hj => HF.out.f4 hnl hj,
                fun _ hj => HF.out.f5 hnl hj,
                fun _ hj => HF.out.f6 hnl hj,
                fun _ _ => IsI3.made (by omega),
                fun _ hj => HF.out.f8 hnl hj,
                fun _ hj => HF.out.f9 hnl hj,
                fun _ hj => IsIp.ev (HF.out.f10 hnl hj) (Ev.alloc),
                fun _ hj => HF.out.f11 hnl hj,
                fun _ hj => IsI1.ev (HF.out.f12 hnl hj) (Ev.alloc),
                fun hj => absurd (show L 13 = true from hj) (by simp [hnl]),
                fun hj => HF.out.f14 hj,
                fun hj => HF.out.f15 hj,
                fun hj => absurd (show L 13 = true from c16.e16_13 hj) (by simp [hn13])⟩
            · show Stp _ _ _ _ _ 8 _
              intro L _ w hi hL ⟨us, hus, u150, u151, u152, u153, u154, u155, u156, u157, u158, u159, u160, u161, u162, u163, u164, u165, e, hF⟩ K hK
              subst hus
              have HF := Lib.hid hF
              clear hF
              obtain ⟨qq, q1, q2, hbl, c16⟩ := HF.out.com
              have hnl : L 13 = false := no_last (fun h => HF.out.cl h 8 (by decide) (by decide)) hi
              have hn13 := hnl
              subst e
              simp only [putsA, putsL, List.set_cons_zero, List.set_cons_succ]
              go_simp
              refine hK.out _ _ ⟨[u150, u151, u152, u153, u154, u155, u156, u157, .pointer (some ⟨R, 0, none⟩), u159, u160, u161, u162, u163, u164, u165], by kernel_rfl, _, _, _, _, _, _, _, _, _, _, _, _, _, _, _, _, rfl, ⟨qq, q1, q2, hbl, ⟨fun h => upd_of (c16.e2_1 h), fun h => upd_of (c16.e3_2 h), fun h => upd_of (c16.e4_3 h), fun h => upd_of (c16.e6_5 h), fun h => upd_of (c16.e7_6 h), fun h => upd_of (c16.e9_8 h), fun h => upd_of (c16.e10_7 h), fun h => upd_of (c16.e10_9 h), fun h => upd_of (c16.e11_10 h), fun h => upd_of (c16.e12_11 h), fun h => upd_of (c16.e13_12 h), fun h => upd_of (c16.e13_4 h), fun h => upd_of (c16.e16_13 h)⟩⟩, fun h => absurd (show L 13 = true from h) (by simp [hnl]),
                fun hj => HF.out.f0 hj,
                fun _ hj => HF.out.f1 hnl hj,
                fun _ hj => HF.out.f2 hnl hj,
                fun _ hj => HF.out.f3 hnl hj,
                fun _ hj => HF.out.f4 hnl hj,
                fun _ hj => HF.out.f5 hnl hj,
                fun _ hj => HF.out.f6 hnl hj,
                fun _ hj => HF.out.f7 hnl hj,
                fun _ _ => rfl,
                fun _ hj => HF.out.f9 hnl hj,
                fun _ hj => HF.out.f10 hnl hj,
                fun _ hj => HF.out.f11 hnl hj,
                fun _ hj => HF.out.f12 hnl hj,
                fun hj => absurd (show L 13 = true from hj) (by simp [hnl]),
                fun hj => HF.out.f14 hj,
                fun hj => HF.out.f15 hj,
                fun hj => absurd (show L 13 = true from c16.e16_13 hj) (by simp [hn13])⟩
            · show Stp _ _ _ _ _ 9 _
              intro L _ w hi hL ⟨us, hus, u150, u151, u152, u153, u154, u155, u156, u157, u158, u159, u160, u161, u162, u163, u164, u165, e, hF⟩ K hK
              subst hus
              have HF := Lib.hid hF
              clear hF
              obtain ⟨qq, q1, q2, hbl, c16⟩ := HF.out.com
              have hnl : L 13 = false := no_last (fun h => HF.out.cl h 9 (by decide) (by decide)) hi
              have hn13 := hnl
              simp [Region.binds] at hL
              have g8 := HF.out.f8 hnl (by simp [hL])
              obtain rfl := g8
              have hbl := hbl hnl
              have hrd := Rd.at_ hd9 (by omega) hbl
              have qb : b2n (L 9) ≤ 1 := by unfold b2n; split <;> omega
              subst e
              simp only [putsA, putsL, List.set_cons_zero, List.set_cons_succ]
              go_simp
              refine (pick_any R qq 3 _ hrd (by omega)).mono ?_
              rintro e w' ⟨v, d', rfl, h0, h1, h2, rfl⟩
              replace h1 := h1 (by omega)
              go_simp
              refine hK.out _ _ ⟨[u150, u151, u152, u153, u154, u155, u156, u157, .pointer (some ⟨R, 0, none⟩), .int .i64 v, u160, u161, u162, u163, u164, u165], by kernel_rfl, _, _, _, _, _, _, _, _, _, _, _, _, _, _, _, _, rfl, ⟨qq + 1, by omega, by simp [b2n, upd, show L 9 = false from hi] at q2 ⊢; omega, fun _ => Ev.pick hR9 hbl, ⟨fun h => upd_of (c16.e2_1 h), fun h => upd_of (c16.e3_2 h), fun h => upd_of (c16.e4_3 h), fun h => upd_of (c16.e6_5 h), fun h => upd_of (c16.e7_6 h), fun _ => upd_of (by simp [hL]), fun h => upd_of (c16.e10_7 h), fun h => upd_of (c16.e10_9 h), fun h => upd_of (c16.e11_10 h), fun h => upd_of (c16.e12_11 h), fun h => upd_of (c16.e13_12 h), fun h => upd_of (c16.e13_4 h), fun h => upd_of (c16.e16_13 h)⟩⟩, fun h => absurd (show L 13 = true from h) (by simp [hnl]),
                fun hj => HF.out.f0 hj,
                fun _ hj => HF.out.f1 hnl hj,
                fun _ hj => HF.out.f2 hnl hj,
                fun _ hj => HF.out.f3 hnl hj,
                fun _ hj => HF.out.f4 hnl hj,
                fun _ hj => HF.out.f5 hnl hj,
                fun _ hj => HF.out.f6 hnl hj,
                fun _ hj => IsI3.ev (HF.out.f7 hnl hj) (Ev.draw),
                fun _ hj => HF.out.f8 hnl hj,
                fun _ _ => ⟨_, rfl, h0, h1⟩,
                fun _ hj => IsIp.ev (HF.out.f10 hnl hj) (Ev.draw),
                fun _ hj => HF.out.f11 hnl hj,
                fun _ hj => IsI1.ev (HF.out.f12 hnl hj) (Ev.draw),
                fun hj => absurd (show L 13 = true from hj) (by simp [hnl]),
                fun hj => HF.out.f14 hj,
                fun hj => HF.out.f15 hj,
                fun hj => absurd (show L 13 = true from c16.e16_13 hj) (by simp [hn13])⟩
            · show Stp _ _ _ _ _ 10 _
              intro L _ w hi hL ⟨us, hus, u150, u151, u152, u153, u154, u155, u156, u157, u158, u159, u160, u161, u162, u163, u164, u165, e, hF⟩ K hK
              subst hus
              have HF := Lib.hid hF
              clear hF
              obtain ⟨qq, q1, q2, hbl, c16⟩ := HF.out.com
              have hnl : L 13 = false := no_last (fun h => HF.out.cl h 10 (by decide) (by decide)) hi
              have hn13 := hnl
              simp [Region.binds] at hL
              have g7 := HF.out.f7 hnl (by simp [hL])
              have g9 := HF.out.f9 hnl (by simp [hL])
              obtain ⟨b, rfl, k1, k2, k3⟩ := g7
              obtain ⟨v, rfl, v0, v1⟩ := g9
              subst e
              simp only [putsA, putsL, List.set_cons_zero, List.set_cons_succ]
              go_simp
              refine hK.out _ _ ⟨[u150, u151, u152, u153, u154, u155, u156, .slice (some ⟨b, 0, none⟩) 3 3, u158, .int .i64 v, .pointer (some ⟨b, v.toNat, none⟩), u161, u162, u163, u164, u165], by kernel_rfl, _, _, _, _, _, _, _, _, _, _, _, _, _, _, _, _, rfl, ⟨qq, q1, q2, hbl, ⟨fun h => upd_of (c16.e2_1 h), fun h => upd_of (c16.e3_2 h), fun h => upd_of (c16.e4_3 h), fun h => upd_of (c16.e6_5 h), fun h => upd_of (c16.e7_6 h), fun h => upd_of (c16.e9_8 h), fun _ => upd_of (by simp [hL]), fun _ => upd_of (by simp [hL]), fun h => upd_of (c16.e11_10 h), fun h => upd_of (c16.e12_11 h), fun h => upd_of (c16.e13_12 h), fun h => upd_of (c16.e13_4 h), fun h => upd_of (c16.e16_13 h)⟩⟩, fun h => absurd (show L 13 = true from h) (by simp [hnl]),
                fun hj => HF.out.f0 hj,
                fun _ hj => HF.out.f1 hnl hj,
                fun _ hj => HF.out.f2 hnl hj,
                fun _ hj => HF.out.f3 hnl hj,
                fun _ hj => HF.out.f4 hnl hj,
                fun _ hj => HF.out.f5 hnl hj,
                fun _ hj => HF.out.f6 hnl hj,
                fun _ hj => HF.out.f7 hnl hj,
                fun _ hj => HF.out.f8 hnl hj,
                fun _ hj => HF.out.f9 hnl hj,
                fun _ _ => IsIp.of3 k1 k2 k3 v0 v1,
                fun _ hj => HF.out.f11 hnl hj,
                fun _ hj => HF.out.f12 hnl hj,
                fun hj => absurd (show L 13 = true from hj) (by simp [hnl]),
                fun hj => HF.out.f14 hj,
                fun hj => HF.out.f15 hj,
                fun hj => absurd (show L 13 = true from c16.e16_13 hj) (by simp [hn13])⟩
            · show Stp _ _ _ _ _ 11 _
              intro L _ w hi hL ⟨us, hus, u150, u151, u152, u153, u154, u155, u156, u157, u158, u159, u160, u161, u162, u163, u164, u165, e, hF⟩ K hK
              subst hus
              have HF := Lib.hid hF
              clear hF
              obtain ⟨qq, q1, q2, hbl, c16⟩ := HF.out.com
              have hnl : L 13 = false := no_last (fun h => HF.out.cl h 11 (by decide) (by decide)) hi
              have hn13 := hnl
              simp [Region.binds] at hL
              have g10 := HF.out.f10 hnl (by simp [hL])
              obtain ⟨b, k, rfl, k1, k2, x, k3⟩ := g10
              subst e
              simp only [putsA, putsL, List.set_cons_zero, List.set_cons_succ]
              go_simp
              refine hK.out _ _ ⟨[u150, u151, u152, u153, u154, u155, u156, u157, u158, u159, .pointer (some ⟨b, k, none⟩), .int .i64 x, u162, u163, u164, u165], by kernel_rfl, _, _, _, _, _, _, _, _, _, _, _, _, _, _, _, _, rfl, ⟨qq, q1, q2, hbl, ⟨fun h => upd_of (c16.e2_1 h), fun h => upd_of (c16.e3_2 h), fun h => upd_of (c16.e4_3 h), fun h => upd_of (c16.e6_5 h), fun h => upd_of (c16.e7_6 h), fun h => upd_of (c16.e9_8 h), fun h => upd_of (c16.e10_7 h), fun h => upd_of (c16.e10_9 h), fun _ => upd_of (by simp [hL]), fun h => upd_of (c16.e12_11 h), fun h => upd_of (c16.e13_12 h), fun h => upd_of (c16.e13_4 h), fun h => upd_of (c16.e16_13 h)⟩⟩, fun h => absurd (show L 13 = true from h) (by simp [hnl]),
                fun hj => HF.out.f0 hj,
                fun _ hj => HF.out.f1 hnl hj,
                fun _ hj => HF.out.f2 hnl hj,
                fun _ hj => HF.out.f3 hnl hj,
                fun _ hj => HF.out.f4 hnl hj,
                fun _ hj => HF.out.f5 hnl hj,
                fun _ hj => HF.out.f6 hnl hj,
                fun _ hj => HF.out.f7 hnl hj,
                fun _ hj => HF.out.f8 hnl hj,
                fun _ hj => HF.out.f9 hnl hj,
                fun _ hj => HF.out.f10 hnl hj,
                fun _ _ => ⟨_, rfl⟩,
                fun _ hj => HF.out.f12 hnl hj,
                fun hj => absurd (show L 13 = true from hj) (by simp [hnl]),
                fun hj => HF.out.f14 hj,
                fun hj => HF.out.f15 hj,
                fun hj => absurd (show L 13 = true from c16.e16_13 hj) (by simp [hn13])⟩
            · show Stp _ _ _ _ _ 12 _
              intro L _ w hi hL ⟨us, hus, u150, u151, u152, u153, u154, u155, u156, u157, u158, u159, u160, u161, u162, u163, u164, u165, e, hF⟩ K hK
              subst hus
              have HF := Lib.hid hF
              clear hF
              obtain ⟨qq, q1, q2, hbl, c16⟩ := HF.out.com
              have hnl : L 13 = false := no_last (fun h => HF.out.cl h 12 (by decide) (by decide)) hi
              have hn13 := hnl
              simp [Region.binds] at hL
              have g11 := HF.out.f11 hnl (by simp [hL])
              obtain ⟨x, rfl⟩ := g11
              have hbl := hbl hnl
              have hw : R < w.heap.size := (Rd.at_ hd9 (by omega) hbl).lt
              subst e
              simp only [putsA, putsL, List.set_cons_zero, List.set_cons_succ]
              go_simp
              refine hK.out _ _ ⟨[u150, u151, u152, u153, u154, u155, u156, u157, u158, u159, u160, .int .i64 x, .slice (some ⟨w.heap.size, 0, none⟩) 1 1, u163, u164, u165], by kernel_rfl, _, _, _, _, _, _, _, _, _, _, _, _, _, _, _, _, rfl, ⟨qq, q1, q2, fun _ => Below.alloc hbl hbl.size _, ⟨fun h => upd_of (c16.e2_1 h), fun h => upd_of (c16.e3_2 h), fun h => upd_of (c16.e4_3 h), fun h => upd_of (c16.e6_5 h), fun h => upd_of (c16.e7_6 h), fun h => upd_of (c16.e9_8 h), fun h => upd_of (c16.e10_7 h), fun h => upd_of (c16.e10_9 h), fun h => upd_of (c16.e11_10 h), fun _ => upd_of (by simp [hL]), fun h => upd_of (c16.e13_12 h), fun h => upd_of (c16.e13_4 h), fun h => upd_of (c16.e16_13 h)⟩⟩, fun h => absurd (show L 13 = true from h) (by simp [hnl]),
                fun hj => HF.out.f0 hj,
                fun _ hj => HF.out.f1 hnl hj,
                fun _ hj => HF.out.f2 hnl hj,
                fun _ hj => HF.out.f3 hnl hj,
                fun _ hj => HF.out.f4 hnl hj,
                fun _ hj => HF.out.f5 hnl hj,
                fun _ hj => HF.out.f6 hnl hj,
                fun _ hj => IsI3.ev (HF.out.f7 hnl hj) (Ev.alloc),
                fun _ hj => HF.out.f8 hnl hj,
                fun _ hj => HF.out.f9 hnl hj,
                fun _ hj => IsIp.ev (HF.out.f10 hnl hj) (Ev.alloc),
                fun _ hj => HF.out.f11 hnl hj,
                fun _ _ => IsI1.made (by omega),
                fun hj => absurd (show L 13 = true from hj) (by simp [hnl]),
                fun hj => HF.out.f14 hj,
                fun hj => HF.out.f15 hj,
                fun hj => absurd (show L 13 = true from c16.e16_13 hj) (by simp [hn13])⟩
            · show Stp _ _ _ _ _ 13 _
              intro L _ w hi hL ⟨us, hus, u150, u151, u152, u153, u154, u155, u156, u157, u158, u159, u160, u161, u162, u163, u164, u165, e, hF⟩ K hK
              subst hus
              have HF := Lib.hid hF
              clear hF
              obtain ⟨qq, q1, q2, hbl, c16⟩ := HF.out.com
              simp [Region.binds] at hL
              have z12 : L 12 = true := by simp [hL]
              have z4 : L 4 = true := by simp [hL]
              have z9 : L 9 = true := by simp [hL]
              have z11 := c16.e12_11 z12
              have z10 := c16.e11_10 z11
              have z7 := c16.e10_7 z10
              have z6 := c16.e7_6 z7
              have z5 := c16.e6_5 z6
              have z3 := c16.e4_3 z4
              have z2 := c16.e3_2 z3
              have z1 := c16.e2_1 z2
              have z8 := c16.e9_8 z9
              have hall : ∀ k, k < 13 → k ≠ 0 → L k = true := by
                intro k hk hk0
                have hk' : k = 1 ∨ k = 2 ∨ k = 3 ∨ k = 4 ∨ k = 5 ∨ k = 6 ∨ k = 7 ∨ k = 8 ∨ k = 9 ∨ k = 10 ∨ k = 11 ∨ k = 12 := by omega
                rcases hk' with h | h | h | h | h | h | h | h | h | h | h | h
                all_goals (rw [h]; simp only [hL, z1, z2, z3, z5, z6, z7, z8, z10, z11])
              have g4 := HF.out.f4 (by simpa using hi) (by simp [hL])
              have g12 := HF.out.f12 (by simpa using hi) (by simp [hL])
              obtain rfl := g4
              obtain ⟨b, x, rfl, k1, k2, k3⟩ := g12
              have hbl := hbl hi
              have qb : b2n (L 9) ≤ 1 := by unfold b2n; split <;> omega
              have hC : TreeC B w (.slice (some ⟨g, 0, none⟩) t.length ct) cs9 T9 := by rw [(ext_of_below hbl).choose_spec.choose_spec]; exact HC9.out.pick hRB
              have hO : OwnG EI 3 B w (.slice c9.kA KL.length c9.kC) KL := by rw [(ext_of_below hbl).choose_spec.choose_spec]; exact own_pick Hown9.out hRB
              have hRBx : RB w0 R qq w := comb hR HRB9.out hbl
              have hBw : B ≤ w.heap.size := by rw [← hB0]; exact hRBx.size
              obtain ⟨g', c', eg, _, hgw, hcc, hnd, _, _, _, _, _, _, _, z6, zf⟩ := hC.at_ (k := 0) (by omega)
              have eg' : g' = g := by injection eg with e; injection e with e; exact e.symm
              rw [eg'] at z6 zf hgw
              refine step_appG1 fitEI w rfl (.tmp 154) (.tmp 162) rfl B (.slice c9.kA KL.length c9.kC) KL (by rewrite [e]; kernel_rfl) hO (.slice (some ⟨b, 0, none⟩) 1 1) [x] (by rewrite [e]; kernel_rfl) (slG_one k1 (by intro j u hu; rcases j with _ | j <;> simp [EI] at hu; subst hu; exact k3)) (by simp; omega) hBw (N := KL.length + 1) (by simp) ?_
              intro A' C' w' ha hb'
              obtain ⟨cs', hP⟩ := put29 hC (by omega) hcc9 Hkl9.out HKe.out ha
              have x6 := (ha.2.1.cell_far ⟨g, 6, none⟩ hgw hsep9).trans z6
              have xf6 := (ha.2.1.frozen_far ⟨g, 6, none⟩ hgw hsep9).trans (zf 6)
              have hRBy : RB w0 R qq w' := Below.trans hRBx (Below.mono hb' (by rw [size_setCell, hB0]; exact Nat.le_refl _))
              refine hK.out _ _ ⟨[u150, u151, u152, u153, .slice c9.kA KL.length c9.kC, u155, u156, u157, u158, u159, u160, u161, .slice (some ⟨b, 0, none⟩) 1 1, .slice A' (KL.length + 1) C', u164, u165], by rewrite [e]; kernel_rfl, _, _, _, _, _, _, _, _, _, _, _, _, _, _, _, _, rfl, ⟨qq, q1, q2, fun h => absurd h (by simp), ⟨fun h => upd_of (c16.e2_1 h), fun h => upd_of (c16.e3_2 h), fun h => upd_of (c16.e4_3 h), fun h => upd_of (c16.e6_5 h), fun h => upd_of (c16.e7_6 h), fun h => upd_of (c16.e9_8 h), fun h => upd_of (c16.e10_7 h), fun h => upd_of (c16.e10_9 h), fun h => upd_of (c16.e11_10 h), fun h => upd_of (c16.e12_11 h), fun _ => upd_of (by simp [hL]), fun _ => upd_of (by simp [hL]), fun h => upd_of (c16.e16_13 h)⟩⟩, fun _ k hk k0 => upd_of (hall k hk k0),
                fun hj => HF.out.f0 hj,
                fun h => absurd h (by simp),
                fun h => absurd h (by simp),
                fun h => absurd h (by simp),
                fun h => absurd h (by simp),
                fun h => absurd h (by simp),
                fun h => absurd h (by simp),
                fun h => absurd h (by simp),
                fun h => absurd h (by simp),
                fun h => absurd h (by simp),
                fun h => absurd h (by simp),
                fun h => absurd h (by simp),
                fun h => absurd h (by simp),
                fun _ _ => ⟨_, _, _, _, _, _, rfl, hP, x6, xf6, q1, by show qq ≤ q0 + 1; omega, hRBy⟩,
                fun hj => HF.out.f14 hj,
                fun hj => HF.out.f15 hj,
                fun hj => absurd (show L 13 = true from c16.e16_13 hj) (by simp [show L 13 = false from hi])⟩
            · show Stp _ _ _ _ _ 14 _
              intro L _ w hi hL ⟨us, hus, u150, u151, u152, u153, u154, u155, u156, u157, u158, u159, u160, u161, u162, u163, u164, u165, e, hF⟩ K hK
              subst hus
              have HF := Lib.hid hF
              clear hF
              obtain ⟨qq, q1, q2, hbl, c16⟩ := HF.out.com
              simp [Region.binds] at hL
              have g0 := HF.out.f0 (by simp [hL])
              obtain rfl := g0
              subst e
              simp only [putsA, putsL, List.set_cons_zero, List.set_cons_succ]
              go_simp
              refine hK.out _ _ ⟨[.slice (some ⟨g, 0, none⟩) t.length ct, u151, u152, u153, u154, u155, u156, u157, u158, u159, u160, u161, u162, u163, .pointer (some ⟨g, 0, none⟩), u165], by kernel_rfl, _, _, _, _, _, _, _, _, _, _, _, _, _, _, _, _, rfl, ⟨qq, q1, q2, hbl, ⟨fun h => upd_of (c16.e2_1 h), fun h => upd_of (c16.e3_2 h), fun h => upd_of (c16.e4_3 h), fun h => upd_of (c16.e6_5 h), fun h => upd_of (c16.e7_6 h), fun h => upd_of (c16.e9_8 h), fun h => upd_of (c16.e10_7 h), fun h => upd_of (c16.e10_9 h), fun h => upd_of (c16.e11_10 h), fun h => upd_of (c16.e12_11 h), fun h => upd_of (c16.e13_12 h), fun h => upd_of (c16.e13_4 h), fun h => upd_of (c16.e16_13 h)⟩⟩, fun h k hk k0 => upd_of (HF.out.cl h k hk k0),
                fun hj => HF.out.f0 hj,
                fun h hj => HF.out.f1 h hj,
                fun h hj => HF.out.f2 h hj,
                fun h hj => HF.out.f3 h hj,
                fun h hj => HF.out.f4 h hj,
                fun h hj => HF.out.f5 h hj,
                fun h hj => HF.out.f6 h hj,
                fun h hj => HF.out.f7 h hj,
                fun h hj => HF.out.f8 h hj,
                fun h hj => HF.out.f9 h hj,
                fun h hj => HF.out.f10 h hj,
                fun h hj => HF.out.f11 h hj,
                fun h hj => HF.out.f12 h hj,
                fun hj => HF.out.f13 hj,
                fun _ => rfl,
                fun hj => HF.out.f15 hj,
                fun hj => HF.out.f16 hj⟩
            · show Stp _ _ _ _ _ 15 _
              intro L _ w hi hL ⟨us, hus, u150, u151, u152, u153, u154, u155, u156, u157, u158, u159, u160, u161, u162, u163, u164, u165, e, hF⟩ K hK
              subst hus
              have HF := Lib.hid hF
              clear hF
              obtain ⟨qq, q1, q2, hbl, c16⟩ := HF.out.com
              simp [Region.binds] at hL
              have g14 := HF.out.f14 (by simp [hL])
              obtain rfl := g14
              subst e
              simp only [putsA, putsL, List.set_cons_zero, List.set_cons_succ]
              go_simp
              refine hK.out _ _ ⟨[u150, u151, u152, u153, u154, u155, u156, u157, u158, u159, u160, u161, u162, u163, .pointer (some ⟨g, 0, none⟩), .pointer (some ⟨g, 6, none⟩)], by kernel_rfl, _, _, _, _, _, _, _, _, _, _, _, _, _, _, _, _, rfl, ⟨qq, q1, q2, hbl, ⟨fun h => upd_of (c16.e2_1 h), fun h => upd_of (c16.e3_2 h), fun h => upd_of (c16.e4_3 h), fun h => upd_of (c16.e6_5 h), fun h => upd_of (c16.e7_6 h), fun h => upd_of (c16.e9_8 h), fun h => upd_of (c16.e10_7 h), fun h => upd_of (c16.e10_9 h), fun h => upd_of (c16.e11_10 h), fun h => upd_of (c16.e12_11 h), fun h => upd_of (c16.e13_12 h), fun h => upd_of (c16.e13_4 h), fun h => upd_of (c16.e16_13 h)⟩⟩, fun h k hk k0 => upd_of (HF.out.cl h k hk k0),
                fun hj => HF.out.f0 hj,
                fun h hj => HF.out.f1 h hj,
                fun h hj => HF.out.f2 h hj,
                fun h hj => HF.out.f3 h hj,
                fun h hj => HF.out.f4 h hj,
                fun h hj => HF.out.f5 h hj,
                fun h hj => HF.out.f6 h hj,
                fun h hj => HF.out.f7 h hj,
                fun h hj => HF.out.f8 h hj,
                fun h hj => HF.out.f9 h hj,
                fun h hj => HF.out.f10 h hj,
                fun h hj => HF.out.f11 h hj,
                fun h hj => HF.out.f12 h hj,
                fun hj => HF.out.f13 hj,
                fun hj => HF.out.f14 hj,
                fun _ => rfl,
                fun hj => HF.out.f16 hj⟩
            · show Stp _ _ _ _ _ 16 _
              intro L _ w hi hL ⟨us, hus, u150, u151, u152, u153, u154, u155, u156, u157, u158, u159, u160, u161, u162, u163, u164, u165, e, hF⟩ K hK
              subst hus
              have HF := Lib.hid hF
              clear hF
              obtain ⟨qq, q1, q2, hbl, c16⟩ := HF.out.com
              simp [Region.binds] at hL
              have g15 := HF.out.f15 (by simp [hL])
              have g13 := HF.out.f13 (by simp [hL]) hi
              obtain rfl := g15
              obtain ⟨A', C', x, cs', q9, y, rfl, hP, x6, xf6, e1, e2, e3⟩ := g13
              subst e
              simp only [putsA, putsL, List.set_cons_zero, List.set_cons_succ]
              go_simp
              refine hK.out _ _ ⟨[u150, u151, u152, u153, u154, u155, u156, u157, u158, u159, u160, u161, u162, .slice A' (KL.length + 1) C', u164, .pointer (some ⟨g, 6, none⟩)], by kernel_rfl, _, _, _, _, _, _, _, _, _, _, _, _, _, _, _, _, rfl, ⟨qq, q1, q2, fun h => absurd (show L 13 = false from h) (by simp [hL]), ⟨fun h => upd_of (c16.e2_1 h), fun h => upd_of (c16.e3_2 h), fun h => upd_of (c16.e4_3 h), fun h => upd_of (c16.e6_5 h), fun h => upd_of (c16.e7_6 h), fun h => upd_of (c16.e9_8 h), fun h => upd_of (c16.e10_7 h), fun h => upd_of (c16.e10_9 h), fun h => upd_of (c16.e11_10 h), fun h => upd_of (c16.e12_11 h), fun h => upd_of (c16.e13_12 h), fun h => upd_of (c16.e13_4 h), fun _ => upd_of (by simp [hL])⟩⟩, fun h k hk k0 => upd_of (HF.out.cl h k hk k0),
                fun hj => HF.out.f0 hj,
                fun h hj => HF.out.f1 h hj,
                fun h hj => HF.out.f2 h hj,
                fun h hj => HF.out.f3 h hj,
                fun h hj => HF.out.f4 h hj,
                fun h hj => HF.out.f5 h hj,
                fun h hj => HF.out.f6 h hj,
                fun h => absurd (show L 13 = false from h) (by simp [hL]),
                fun h hj => HF.out.f8 h hj,
                fun h hj => HF.out.f9 h hj,
                fun h => absurd (show L 13 = false from h) (by simp [hL]),
                fun h hj => HF.out.f11 h hj,
                fun h => absurd (show L 13 = false from h) (by simp [hL]),
                fun _ h => absurd h (by simp),
                fun hj => HF.out.f14 hj,
                fun hj => HF.out.f15 hj,
                fun _ => ⟨_, _, _, hP, e1, e2, RB.store e3 (by rw [hB0]; exact hgB)⟩⟩
          · intro L us wx hL ⟨u150, u151, u152, u153, u154, u155, u156, u157, u158, u159, u160, u161, u162, u163, u164, u165, hus, hF⟩
            subst hus
            obtain ⟨x, cs', q9, hCx, e1, e2, hRBx⟩ := hF.f16 (hL 16 (by decide))
            have HCx := Lib.hid hCx
            have HRBx := Lib.hid hRBx
            clear hF hL hCx hRBx
            simp only [putsA, putsL, List.set_cons_zero, List.set_cons_succ]
            go_wp2
            go_ret
            have hks := kidsLen_set { kth T9 0 with ks := KL ++ [x] } (show 0 < T9.length by omega)
            have hKl : KL.length = (kth T9 0).ks.length := congrArg List.length HKe.out
            simp only [List.length_append, List.length_singleton] at hks
            have hk9 := Hki9.out
            rw [hB] at HCx
            rw [hw0] at HRBx
            refine ⟨_, _, _, q9, rfl, HCx.out, by rw [List.length_set]; omega, by omega, fun j hj => ?_, by omega, by omega, HRBx.out⟩
            rw [List.length_set] at hj
            have e := kth_set (ex := []) (y := { kth T9 0 with ks := KL ++ [x] }) (show 0 < T9.length by omega) hj
            rw [List.append_nil] at e
            rw [e]
            split
            · have := Hf9.out 0 (by omega)
              exact ⟨this.1, by simp only [List.length_append, List.length_singleton]; omega⟩
            · exact Hf9.out j hj
        · obtain ⟨cs9, hC9⟩ := HCp.out.head (k := t.length - 1) (j := 3) (u := .int .i64 1024) (y := { kth t (t.length - 1) with mo := 1024 }) (by omega) (by decide) ⟨rfl, rfl, (HCp.out.nds (t.length - 1) _ _ (List.getElem?_eq_getElem (show t.length - 1 < cs.length by have := Hlen.out; omega)) (kth_at (by omega))).sz⟩ (fun c hc => by
            have hn := HCp.out.nds (t.length - 1) c _ hc (kth_at (by omega))
            rw [← hn.fo, ← hn.ow, ← hn.gr, ← hn.tx]; rfl)
          have HC9 := Lib.hid hC9
          have hs9 := Lib.hid (Hset.out (t.length - 1) { kth t (t.length - 1) with mo := 1024 } (by omega) rfl rfl)
          have HR9 := Lib.hid (HRBp.out.store (i := (t.length - 1) * 7 + 3) (u := .int .i64 1024) hgB)
          clear hC9
          go_wp2
          go_ret
          exact ⟨_, _, _, q + 1 + 1, rfl, HC9.out, hs9.out.1, hs9.out.2.1, hs9.out.2.2, by omega, by omega, HR9.out⟩
        · go_wp2
          go_ret
          exact ⟨_, [], [], q + 1 + 1, rfl, treeC_empty (ownG_empty _ rfl hszp), by simp, by simp [kidsOf], (fun j hj => by simp at hj), by omega, by omega, HRBp.out.step (Below.alloc (Below.refl _ _) (Nat.le_refl _) _)⟩
end Go.Proofs.YtkennmpbmbacpaaGreatDoor

namespace Go.Proofs.YtkennmpbmbacpaaGreatDoor
open Go.RowKit

/-- A tree was drawn. -/
def DrewTr (w : World) (e : Ending) (w' : World) : Prop := ∃ v cs t, e = .returned v ∧ TreeC w.heap.size w' v cs t ∧ t.length ≤ 20 ∧ (kidsOf t).length ≤ 16 ∧ Few t ∧ Below w.heap.size w w'
theorem rd_opened {w : World} {A : Option Addr} {le ca : Nat} {zs : Nat → Int} (h : Bytes w w.heap.size A le ca zs) : Rd (w.alloc (.cells #[.slice A le ca, .int .i64 0] 103)) w.heap.size 0 := by
  (repeat (first | assumption | refine Rd.ext ?_ | refine Rd.drew ?_ | refine Rd.drewN ?_ | refine Rd.set (by assumption) ?_ | refine Rd.lit (by assumption) (by simp) ?_ | refine Rd.alloc ?_ _ | omega))
theorem below_opened {w w' : World} {A : Option Addr} {le ca : Nat} {q : Int} (h : RB (w.alloc (.cells #[.slice A le ca, .int .i64 0] 103)) w.heap.size q w') : Below w.heap.size w w' := by
  unfold RB at h
  refine Below.trans (b := (w.alloc (.cells #[.slice A le ca, .int .i64 0] 103)).setCell ⟨w.heap.size, 1, none⟩ (.int .i64 q)) ?_ (Below.mono h (by simp))
  (repeat (first | exact Below.refl _ _ | exact Hbl.out | refine Below.ext ?_ (by first | omega | (simp; omega) | simp) | refine Below.setCell ?_ (by first | omega | (simp; omega) | simp) _ | refine Below.alloc ?_ (by first | omega | (simp; omega) | simp) _ | refine Below.drew ?_ | refine below_drewN ?_ _ | refine Below.step (by assumption) (by first | omega | (simp; omega) | simp) ?_))
end Go.Proofs.YtkennmpbmbacpaaGreatDoor
