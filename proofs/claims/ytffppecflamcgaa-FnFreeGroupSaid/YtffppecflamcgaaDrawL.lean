/- Limits: what is drawn. -/
import Derived.Test.YtffppecflamcgaaDraw
import Derived.Test.YtffppecflamcgaaAppL
import Derived.Test.YtffppecflamcgaaUseS
set_option linter.unusedSimpArgs false
set_option linter.unusedVariables false
set_option linter.unusedSectionVars false
namespace Go.Proofs.Ytffppecflamcgaa
open Go.RowKit

/-- A list of limits is drawn, of at most m. -/
def DrewL (w : World) (R : Nat) (p k : Int) (m : Nat) (e : Ending) (w' : World) : Prop :=
  ∃ (v : Value) (l : List T3) (q : Int) (d : Nat) (os : Array Obj), e = .returned v ∧ p ≤ q ∧ q ≤ p + k ∧ l.length ≤ m ∧ w' = ext (w.setCell ⟨R, 1, none⟩ (.int .i64 q)) d os ∧ Own w.heap.size w' v l
theorem sel6l (v : Int) (x0 x1 x2 x3 x4 x5 : Int) (h : v.toNat < [Value.int .i64 x0, Value.int .i64 x1, Value.int .i64 x2, Value.int .i64 x3, Value.int .i64 x4, Value.int .i64 x5].length) : [Value.int .i64 x0, Value.int .i64 x1, Value.int .i64 x2, Value.int .i64 x3, Value.int .i64 x4, Value.int .i64 x5][v.toNat]'h = .int .i64 (selN v [x0, x1, x2, x3, x4, x5]) := by
  have h' : v.toNat < 6 := h
  have : v.toNat = 0 ∨ v.toNat = 1 ∨ v.toNat = 2 ∨ v.toNat = 3 ∨ v.toNat = 4 ∨ v.toNat = 5 := by omega
  rcases this with h | h | h | h | h | h <;> simp [h, selN]

@[go_sem] theorem sel6g (v : Int) (x0 x1 x2 x3 x4 x5 : Int) (h : v.toNat < [Value.int .i64 x0, Value.int .i64 x1, Value.int .i64 x2, Value.int .i64 x3, Value.int .i64 x4, Value.int .i64 x5].length) : [Value.int .i64 x0, Value.int .i64 x1, Value.int .i64 x2, Value.int .i64 x3, Value.int .i64 x4, Value.int .i64 x5][v.toNat]'h = .int .i64 (selN v [x0, x1, x2, x3, x4, x5]) := sel6l v x0 x1 x2 x3 x4 x5 h
@[go_sem] theorem sel6 {v : Int} (h0 : 0 ≤ v) (h1 : v < 6) (x0 x1 x2 x3 x4 x5 : Int) : [Value.int .i64 x0, Value.int .i64 x1, Value.int .i64 x2, Value.int .i64 x3, Value.int .i64 x4, Value.int .i64 x5][v.toNat]? = some (.int .i64 (selN v [x0, x1, x2, x3, x4, x5])) := by
  have hl : v.toNat < [Value.int .i64 x0, Value.int .i64 x1, Value.int .i64 x2, Value.int .i64 x3, Value.int .i64 x4, Value.int .i64 x5].length := by simp; omega
  rw [List.getElem?_eq_getElem hl, sel6l]
@[go_sem] theorem sel6a {v : Int} (h0 : 0 ≤ v) (h1 : v < 6) (x0 x1 x2 x3 x4 x5 : Int) : (#[Value.int .i64 x0, Value.int .i64 x1, Value.int .i64 x2, Value.int .i64 x3, Value.int .i64 x4, Value.int .i64 x5] : Array Value)[v.toNat]? = some (.int .i64 (selN v [x0, x1, x2, x3, x4, x5])) := by
  rw [List.getElem?_toArray]; exact sel6 h0 h1 x0 x1 x2 x3 x4 x5
theorem sel6_bd {c : Int} (h0 : 0 ≤ c) (h1 : c < 6) : 0 ≤ selN c [0, 0, 0, 0, 1, 2] ∧ selN c [0, 0, 0, 0, 1, 2] < 3 := by
  have : c = 0 ∨ c = 1 ∨ c = 2 ∨ c = 3 ∨ c = 4 ∨ c = 5 := by omega
  rcases this with h | h | h | h | h | h <;> subst h <;> decide

theorem sel12l0 (v : Int) (x0 x1 x2 x3 x4 x5 x6 x7 x8 x9 x10 x11 : Int) (h1 : v < 4) (h : v.toNat * 3 < [Value.int .i64 x0, Value.int .i64 x1, Value.int .i64 x2, Value.int .i64 x3, Value.int .i64 x4, Value.int .i64 x5, Value.int .i64 x6, Value.int .i64 x7, Value.int .i64 x8, Value.int .i64 x9, Value.int .i64 x10, Value.int .i64 x11].length) : [Value.int .i64 x0, Value.int .i64 x1, Value.int .i64 x2, Value.int .i64 x3, Value.int .i64 x4, Value.int .i64 x5, Value.int .i64 x6, Value.int .i64 x7, Value.int .i64 x8, Value.int .i64 x9, Value.int .i64 x10, Value.int .i64 x11][v.toNat * 3]'h = .int .i64 (selN v [x0, x3, x6, x9]) := by
  have : v.toNat = 0 ∨ v.toNat = 1 ∨ v.toNat = 2 ∨ v.toNat = 3 := by omega
  rcases this with h | h | h | h <;> simp [h, selN]
@[go_sem] theorem sel12_0 {v : Int} (h0 : 0 ≤ v) (h1 : v < 4) (x0 x1 x2 x3 x4 x5 x6 x7 x8 x9 x10 x11 : Int) : [Value.int .i64 x0, Value.int .i64 x1, Value.int .i64 x2, Value.int .i64 x3, Value.int .i64 x4, Value.int .i64 x5, Value.int .i64 x6, Value.int .i64 x7, Value.int .i64 x8, Value.int .i64 x9, Value.int .i64 x10, Value.int .i64 x11][v.toNat * 3]? = some (.int .i64 (selN v [x0, x3, x6, x9])) := by
  have hl : v.toNat * 3 < [Value.int .i64 x0, Value.int .i64 x1, Value.int .i64 x2, Value.int .i64 x3, Value.int .i64 x4, Value.int .i64 x5, Value.int .i64 x6, Value.int .i64 x7, Value.int .i64 x8, Value.int .i64 x9, Value.int .i64 x10, Value.int .i64 x11].length := by simp; omega
  rw [List.getElem?_eq_getElem hl, sel12l0 _ _ _ _ _ _ _ _ _ _ _ _ _ h1]
@[go_sem] theorem sel12a_0 {v : Int} (h0 : 0 ≤ v) (h1 : v < 4) (x0 x1 x2 x3 x4 x5 x6 x7 x8 x9 x10 x11 : Int) : (#[Value.int .i64 x0, Value.int .i64 x1, Value.int .i64 x2, Value.int .i64 x3, Value.int .i64 x4, Value.int .i64 x5, Value.int .i64 x6, Value.int .i64 x7, Value.int .i64 x8, Value.int .i64 x9, Value.int .i64 x10, Value.int .i64 x11] : Array Value)[v.toNat * 3]? = some (.int .i64 (selN v [x0, x3, x6, x9])) := by
  rw [List.getElem?_toArray]; exact sel12_0 h0 h1 x0 x1 x2 x3 x4 x5 x6 x7 x8 x9 x10 x11
theorem sel12l1 (v : Int) (x0 x1 x2 x3 x4 x5 x6 x7 x8 x9 x10 x11 : Int) (h1 : v < 4) (h : v.toNat * 3 + 1 < [Value.int .i64 x0, Value.int .i64 x1, Value.int .i64 x2, Value.int .i64 x3, Value.int .i64 x4, Value.int .i64 x5, Value.int .i64 x6, Value.int .i64 x7, Value.int .i64 x8, Value.int .i64 x9, Value.int .i64 x10, Value.int .i64 x11].length) : [Value.int .i64 x0, Value.int .i64 x1, Value.int .i64 x2, Value.int .i64 x3, Value.int .i64 x4, Value.int .i64 x5, Value.int .i64 x6, Value.int .i64 x7, Value.int .i64 x8, Value.int .i64 x9, Value.int .i64 x10, Value.int .i64 x11][v.toNat * 3 + 1]'h = .int .i64 (selN v [x1, x4, x7, x10]) := by
  have : v.toNat = 0 ∨ v.toNat = 1 ∨ v.toNat = 2 ∨ v.toNat = 3 := by omega
  rcases this with h | h | h | h <;> simp [h, selN]
@[go_sem] theorem sel12_1 {v : Int} (h0 : 0 ≤ v) (h1 : v < 4) (x0 x1 x2 x3 x4 x5 x6 x7 x8 x9 x10 x11 : Int) : [Value.int .i64 x0, Value.int .i64 x1, Value.int .i64 x2, Value.int .i64 x3, Value.int .i64 x4, Value.int .i64 x5, Value.int .i64 x6, Value.int .i64 x7, Value.int .i64 x8, Value.int .i64 x9, Value.int .i64 x10, Value.int .i64 x11][v.toNat * 3 + 1]? = some (.int .i64 (selN v [x1, x4, x7, x10])) := by
  have hl : v.toNat * 3 + 1 < [Value.int .i64 x0, Value.int .i64 x1, Value.int .i64 x2, Value.int .i64 x3, Value.int .i64 x4, Value.int .i64 x5, Value.int .i64 x6, Value.int .i64 x7, Value.int .i64 x8, Value.int .i64 x9, Value.int .i64 x10, Value.int .i64 x11].length := by simp; omega
  rw [List.getElem?_eq_getElem hl, sel12l1 _ _ _ _ _ _ _ _ _ _ _ _ _ h1]
@[go_sem] theorem sel12a_1 {v : Int} (h0 : 0 ≤ v) (h1 : v < 4) (x0 x1 x2 x3 x4 x5 x6 x7 x8 x9 x10 x11 : Int) : (#[Value.int .i64 x0, Value.int .i64 x1, Value.int .i64 x2, Value.int .i64 x3, Value.int .i64 x4, Value.int .i64 x5, Value.int .i64 x6, Value.int .i64 x7, Value.int .i64 x8, Value.int .i64 x9, Value.int .i64 x10, Value.int .i64 x11] : Array Value)[v.toNat * 3 + 1]? = some (.int .i64 (selN v [x1, x4, x7, x10])) := by
  rw [List.getElem?_toArray]; exact sel12_1 h0 h1 x0 x1 x2 x3 x4 x5 x6 x7 x8 x9 x10 x11
theorem sel12l2 (v : Int) (x0 x1 x2 x3 x4 x5 x6 x7 x8 x9 x10 x11 : Int) (h1 : v < 4) (h : v.toNat * 3 + 2 < [Value.int .i64 x0, Value.int .i64 x1, Value.int .i64 x2, Value.int .i64 x3, Value.int .i64 x4, Value.int .i64 x5, Value.int .i64 x6, Value.int .i64 x7, Value.int .i64 x8, Value.int .i64 x9, Value.int .i64 x10, Value.int .i64 x11].length) : [Value.int .i64 x0, Value.int .i64 x1, Value.int .i64 x2, Value.int .i64 x3, Value.int .i64 x4, Value.int .i64 x5, Value.int .i64 x6, Value.int .i64 x7, Value.int .i64 x8, Value.int .i64 x9, Value.int .i64 x10, Value.int .i64 x11][v.toNat * 3 + 2]'h = .int .i64 (selN v [x2, x5, x8, x11]) := by
  have : v.toNat = 0 ∨ v.toNat = 1 ∨ v.toNat = 2 ∨ v.toNat = 3 := by omega
  rcases this with h | h | h | h <;> simp [h, selN]
@[go_sem] theorem sel12_2 {v : Int} (h0 : 0 ≤ v) (h1 : v < 4) (x0 x1 x2 x3 x4 x5 x6 x7 x8 x9 x10 x11 : Int) : [Value.int .i64 x0, Value.int .i64 x1, Value.int .i64 x2, Value.int .i64 x3, Value.int .i64 x4, Value.int .i64 x5, Value.int .i64 x6, Value.int .i64 x7, Value.int .i64 x8, Value.int .i64 x9, Value.int .i64 x10, Value.int .i64 x11][v.toNat * 3 + 2]? = some (.int .i64 (selN v [x2, x5, x8, x11])) := by
  have hl : v.toNat * 3 + 2 < [Value.int .i64 x0, Value.int .i64 x1, Value.int .i64 x2, Value.int .i64 x3, Value.int .i64 x4, Value.int .i64 x5, Value.int .i64 x6, Value.int .i64 x7, Value.int .i64 x8, Value.int .i64 x9, Value.int .i64 x10, Value.int .i64 x11].length := by simp; omega
  rw [List.getElem?_eq_getElem hl, sel12l2 _ _ _ _ _ _ _ _ _ _ _ _ _ h1]
@[go_sem] theorem sel12a_2 {v : Int} (h0 : 0 ≤ v) (h1 : v < 4) (x0 x1 x2 x3 x4 x5 x6 x7 x8 x9 x10 x11 : Int) : (#[Value.int .i64 x0, Value.int .i64 x1, Value.int .i64 x2, Value.int .i64 x3, Value.int .i64 x4, Value.int .i64 x5, Value.int .i64 x6, Value.int .i64 x7, Value.int .i64 x8, Value.int .i64 x9, Value.int .i64 x10, Value.int .i64 x11] : Array Value)[v.toNat * 3 + 2]? = some (.int .i64 (selN v [x2, x5, x8, x11])) := by
  rw [List.getElem?_toArray]; exact sel12_2 h0 h1 x0 x1 x2 x3 x4 x5 x6 x7 x8 x9 x10 x11

theorem sel12t1 (v : Int) (x1 x2 x3 x4 x5 x6 x7 x8 x9 x10 x11 : Int) (h1 : v < 4) (h : v.toNat * 3 < [Value.int .i64 x1, Value.int .i64 x2, Value.int .i64 x3, Value.int .i64 x4, Value.int .i64 x5, Value.int .i64 x6, Value.int .i64 x7, Value.int .i64 x8, Value.int .i64 x9, Value.int .i64 x10, Value.int .i64 x11].length) : [Value.int .i64 x1, Value.int .i64 x2, Value.int .i64 x3, Value.int .i64 x4, Value.int .i64 x5, Value.int .i64 x6, Value.int .i64 x7, Value.int .i64 x8, Value.int .i64 x9, Value.int .i64 x10, Value.int .i64 x11][v.toNat * 3]'h = .int .i64 (selN v [x1, x4, x7, x10]) := by
  have : v.toNat = 0 ∨ v.toNat = 1 ∨ v.toNat = 2 ∨ v.toNat = 3 := by omega
  rcases this with h | h | h | h <;> simp [h, selN]
@[go_sem] theorem sel12u1 {v : Int} (h0 : 0 ≤ v) (h1 : v < 4) (x1 x2 x3 x4 x5 x6 x7 x8 x9 x10 x11 : Int) : [Value.int .i64 x1, Value.int .i64 x2, Value.int .i64 x3, Value.int .i64 x4, Value.int .i64 x5, Value.int .i64 x6, Value.int .i64 x7, Value.int .i64 x8, Value.int .i64 x9, Value.int .i64 x10, Value.int .i64 x11][v.toNat * 3]? = some (.int .i64 (selN v [x1, x4, x7, x10])) := by
  have hl : v.toNat * 3 < [Value.int .i64 x1, Value.int .i64 x2, Value.int .i64 x3, Value.int .i64 x4, Value.int .i64 x5, Value.int .i64 x6, Value.int .i64 x7, Value.int .i64 x8, Value.int .i64 x9, Value.int .i64 x10, Value.int .i64 x11].length := by simp; omega
  rw [List.getElem?_eq_getElem hl, sel12t1 _ _ _ _ _ _ _ _ _ _ _ _ h1]
theorem sel12t2 (v : Int) (x2 x3 x4 x5 x6 x7 x8 x9 x10 x11 : Int) (h1 : v < 4) (h : v.toNat * 3 < [Value.int .i64 x2, Value.int .i64 x3, Value.int .i64 x4, Value.int .i64 x5, Value.int .i64 x6, Value.int .i64 x7, Value.int .i64 x8, Value.int .i64 x9, Value.int .i64 x10, Value.int .i64 x11].length) : [Value.int .i64 x2, Value.int .i64 x3, Value.int .i64 x4, Value.int .i64 x5, Value.int .i64 x6, Value.int .i64 x7, Value.int .i64 x8, Value.int .i64 x9, Value.int .i64 x10, Value.int .i64 x11][v.toNat * 3]'h = .int .i64 (selN v [x2, x5, x8, x11]) := by
  have : v.toNat = 0 ∨ v.toNat = 1 ∨ v.toNat = 2 ∨ v.toNat = 3 := by omega
  rcases this with h | h | h | h <;> simp [h, selN]
@[go_sem] theorem sel12u2 {v : Int} (h0 : 0 ≤ v) (h1 : v < 4) (x2 x3 x4 x5 x6 x7 x8 x9 x10 x11 : Int) : [Value.int .i64 x2, Value.int .i64 x3, Value.int .i64 x4, Value.int .i64 x5, Value.int .i64 x6, Value.int .i64 x7, Value.int .i64 x8, Value.int .i64 x9, Value.int .i64 x10, Value.int .i64 x11][v.toNat * 3]? = some (.int .i64 (selN v [x2, x5, x8, x11])) := by
  have hl : v.toNat * 3 < [Value.int .i64 x2, Value.int .i64 x3, Value.int .i64 x4, Value.int .i64 x5, Value.int .i64 x6, Value.int .i64 x7, Value.int .i64 x8, Value.int .i64 x9, Value.int .i64 x10, Value.int .i64 x11].length := by simp; omega
  rw [List.getElem?_eq_getElem hl, sel12t2 _ _ _ _ _ _ _ _ _ _ _ h1]

theorem own_made {B g : Nat} (W : World) (hg : g = W.heap.size) (hB : B ≤ W.heap.size) : Own B (W.alloc (.cells #[] 34)) (.slice (some ⟨g, 0, none⟩) 0 0) [] := by
  subst hg
  exact World.ownsRow_made W #[] 0 hB (by decide) rfl
theorem own_re {B R d d' : Nat} {w : World} {u u' v : Value} {os : Array Obj} {l : List T3} (h : Own B (ext (w.setCell ⟨R, 1, none⟩ u) d os) v l) (hR : R < B) : Own B (ext (w.setCell ⟨R, 1, none⟩ u') d' os) v l := by
  refine ⟨h.1, h.2.imp id fun ⟨g, c, cur, e1, e2, e3, e4⟩ => ⟨g, c, cur, e1, e2, ?_, e4⟩⟩
  rw [← e3]
  simp only [ext, World.setCell, Array.getElem?_append, Array.size_modify, Array.getElem?_modify]
  rw [if_neg (show ¬ R = g from by omega), if_neg (show ¬ R = g from by omega)]
theorem own_alloc {B : Nat} {w : World} {v : Value} {l : List T3} (h : Own B w v l) (o : Obj) : Own B (w.alloc o) v l := World.ownsRow.alloc h o
theorem own_ext' {B d : Nat} {os : Array Obj} {w : World} {v : Value} {l : List T3} (h : Own B w v l) : Own B (ext w d os) v l := own_ext h
set_option maxHeartbeats 4000000 in
theorem l20Limits_any (R : Nat) (p n : Int) (w : World) (hr : Rd w R p) (hp : p ≤ 1000000000) (hn : 1 ≤ n) (hn' : n ≤ 1000) : Calls Try.prog 34 #[.pointer (some ⟨R, 0, none⟩), .int .i64 n] w (DrewL w R p 40 7) := by
  have hR := hr.lt
  have hp0 := hr.pos
  go_enter Try.func34, Try.ntmps34
  (go_wp2_with fail); refine (pick_any _ ?_ _ _ ?_ ?_).mono ?_; rotate_left; (focus ((repeat (first | assumption | refine Rd.ext ?_ | refine Rd.drew ?_ | refine Rd.drewN ?_ | refine Rd.set (by assumption) ?_ | refine Rd.lit (by assumption) (by simp) ?_ | refine Rd.alloc ?_ _ | omega)))); (focus omega); rintro e w' ⟨m, dm, rfl, lm, hm, h2, rfl⟩; replace hm := hm (by omega); clear h2
  go_wp2
  go_loopw [5, 7] (fun o i wr => ∃ (j : Nat) (l : List T3) (q : Int) (d : Nat) (os : Array Obj), i = .int .i64 j ∧ (j : Int) ≤ m ∧ l.length = j ∧ p ≤ q ∧ q ≤ p + 1 + 3 * (j : Int) ∧ wr = ext (w.setCell ⟨R, 1, none⟩ (.int .i64 q)) d os ∧ Own w.heap.size wr o l) (fun _ i _ => (m - intOf i).toNat)
  case atStart =>
    obtain ⟨d, os, e⟩ := ext_of_below (show Below (w.setCell ⟨R, 1, none⟩ (.int .i64 (p + 1))).heap.size (w.setCell ⟨R, 1, none⟩ (.int .i64 (p + 1))) (ext ((w.setCell ⟨R, 1, none⟩ (.int .i64 (p + 1))).alloc (.cells #[] 34)) dm #[]) from (by (repeat (first | exact Below.refl _ _ | exact Hbl.out | refine Below.ext ?_ (by first | omega | (simp; omega) | simp) | refine Below.setCell ?_ (by first | omega | (simp; omega) | simp) _ | refine Below.alloc ?_ (by first | omega | (simp; omega) | simp) _ | refine Below.drew ?_ | refine below_drewN ?_ _ | refine Below.step (by assumption) (by first | omega | (simp; omega) | simp) ?_))))
    exact ⟨0, [], p + 1, d, os, rfl, by omega, rfl, by omega, by omega, e, own_ext (own_made _ (by simp) (by simp))⟩
  case round =>
    obtain ⟨j, l, q, d, os, rfl, j1, rfl, q1, q2, rfl, hown⟩ := hrel
    obtain ⟨A, cap, rfl⟩ := own_shape hown
    have Hown := Lib.hid hown; clear hown
    by_cases hlt : (l.length : Int) < m
    · have zj : IntKind.i64.wrap ((l.length : Int) + 1) = (l.length : Int) + 1 := IntWalk.i64_in _ (by omega)
      (go_wp2_with fail); refine (pick_any _ ?_ _ _ ?_ ?_).mono ?_; rotate_left; (focus ((repeat (first | assumption | refine Rd.ext ?_ | refine Rd.drew ?_ | refine Rd.drewN ?_ | refine Rd.set (by assumption) ?_ | refine Rd.lit (by assumption) (by simp) ?_ | refine Rd.alloc ?_ _ | omega)))); (focus omega); rintro e w' ⟨a, da, rfl, la, ha, h2, rfl⟩; replace ha := ha (by omega); clear h2
      have za : IntKind.i64.wrap (a - 1) = a - 1 := IntWalk.i64_in _ (by omega)
      (go_wp2_with fail); refine (pick_any _ ?_ _ _ ?_ ?_).mono ?_; rotate_left; (focus ((repeat (first | assumption | refine Rd.ext ?_ | refine Rd.drew ?_ | refine Rd.drewN ?_ | refine Rd.set (by assumption) ?_ | refine Rd.lit (by assumption) (by simp) ?_ | refine Rd.alloc ?_ _ | omega)))); (focus omega); rintro e w' ⟨b, db, rfl, lb, hb, h2, rfl⟩; replace hb := hb (by omega); clear h2
      have zb : IntKind.i64.wrap (20 + b) = 20 + b := IntWalk.i64_in _ (by omega)
      (go_wp2_with fail); refine (pick_any _ ?_ _ _ ?_ ?_).mono ?_; rotate_left; (focus ((repeat (first | assumption | refine Rd.ext ?_ | refine Rd.drew ?_ | refine Rd.drewN ?_ | refine Rd.set (by assumption) ?_ | refine Rd.lit (by assumption) (by simp) ?_ | refine Rd.alloc ?_ _ | omega)))); (focus omega); rintro e w' ⟨c, dc, rfl, lc, hc, h2, rfl⟩; replace hc := hc (by omega); clear h2
      obtain ⟨hs0, hs1⟩ := sel6_bd lc hc
      go_wp2_with (at_builtin; refine wpList_app1 _ rfl (.tmp 19) (.tmp 37) rfl w.heap.size _ l rfl ?cO ?cL ?cB _ rfl (a - 1) (selN (selN c [0, 0, 0, 0, 1, 2]) [20 + b, 10000, 0]) 0 ?c0 ?c1 ?c2 ?_)
      case cO => repeat (first | exact own_re Hown.out (by omega) | refine own_ext' ?_ | refine own_alloc ?_ _)
      case cL => omega
      case cB => simp; try omega
      case c0 => simp [go_sem]
      case c1 => simp [go_sem]
      case c2 => simp [go_sem]
      intro v' w' o' hg'
      have hbl' : Below (w.setCell ⟨R, 1, none⟩ (.int .i64 (q + 1 + 1 + 1))).heap.size (w.setCell ⟨R, 1, none⟩ (.int .i64 (q + 1 + 1 + 1))) w' := Below.grown ((by (repeat (first | exact Below.refl _ _ | exact Hbl.out | refine Below.ext ?_ (by first | omega | (simp; omega) | simp) | refine Below.setCell ?_ (by first | omega | (simp; omega) | simp) _ | refine Below.alloc ?_ (by first | omega | (simp; omega) | simp) _ | refine Below.drew ?_ | refine below_drewN ?_ _ | refine Below.step (by assumption) (by first | omega | (simp; omega) | simp) ?_)))) hg' (by simp; try omega) (fun k hk => by have := (Hown.out.lt k hk).1; simp; omega)
      obtain ⟨d', os', rfl⟩ := ext_of_below hbl'
      go_wp2
      go_roundw
      case rel => exact ⟨l.length + 1, _, q + 1 + 1 + 1, d', os', by go_num, by omega, by simp, by omega, by omega, rfl, o'⟩
      case measure => simp [intOf]; omega
    · have hml : (l.length : Int) = m := by omega
      (go_wp2_with fail); refine (pick_any _ ?_ _ _ ?_ ?_).mono ?_; rotate_left; (focus ((repeat (first | assumption | refine Rd.ext ?_ | refine Rd.drew ?_ | refine Rd.drewN ?_ | refine Rd.set (by assumption) ?_ | refine Rd.lit (by assumption) (by simp) ?_ | refine Rd.alloc ?_ _ | omega)))); (focus omega); rintro e w' ⟨kk, dkk, rfl, lkk, hkk, h2, rfl⟩; replace hkk := hkk (by omega); clear h2
      go_wp2
      go_loopw [5, 8, 9, 10] (fun o i _ _ wr => ∃ (j : Int) (l : List T3) (q : Int) (d : Nat) (os : Array Obj), i = .int .i64 j ∧ 0 ≤ j ∧ j ≤ 5 ∧ (l.length : Int) = m ∧ p ≤ q ∧ q ≤ p + 30 - 2 * j ∧ wr = ext (w.setCell ⟨R, 1, none⟩ (.int .i64 q)) d os ∧ Own w.heap.size wr o l) (fun _ i _ _ _ => (intOf i).toNat)
      case atStart => exact ⟨kk, l, q + 1, _, _, rfl, lkk, by omega, hml, by omega, by omega, rfl, own_re Hown.out (by omega)⟩
      case round =>
        obtain ⟨j, l, q, d, os, rfl, j0, j1, hml, q1, q2, rfl, hown⟩ := hrel
        obtain ⟨A, cap, rfl⟩ := own_shape hown
        have Hown := Lib.hid hown; clear hown
        by_cases hlt : 0 < j ∧ 0 < m
        · obtain ⟨h1, h2⟩ := hlt
          have zj : IntKind.i64.wrap (j - 1) = j - 1 := IntWalk.i64_in _ (by omega)
          (go_wp2_with fail); refine (pick_any _ ?_ _ _ ?_ ?_).mono ?_; rotate_left; (focus ((repeat (first | assumption | refine Rd.ext ?_ | refine Rd.drew ?_ | refine Rd.drewN ?_ | refine Rd.set (by assumption) ?_ | refine Rd.lit (by assumption) (by simp) ?_ | refine Rd.alloc ?_ _ | omega)))); (focus omega); rintro e w' ⟨a, da, rfl, la, ha, h2, rfl⟩; replace ha := ha (by omega); clear h2
          (go_wp2_with fail); refine (pick_any _ ?_ _ _ ?_ ?_).mono ?_; rotate_left; (focus ((repeat (first | assumption | refine Rd.ext ?_ | refine Rd.drew ?_ | refine Rd.drewN ?_ | refine Rd.set (by assumption) ?_ | refine Rd.lit (by assumption) (by simp) ?_ | refine Rd.alloc ?_ _ | omega)))); (focus omega); rintro e w' ⟨b, db, rfl, lb, hb, h2, rfl⟩; replace hb := hb (by omega); clear h2
          go_wp2_with fail
          refine (chargeS_of _ l a b _ (own_sl3 (own_re Hown.out (by omega))) (by omega)).mono ?_
          rintro e w' ⟨v', rfl, ow, bl⟩
          have bl' : Below (w.setCell ⟨R, 1, none⟩ (.int .i64 (q + 1 + 1))).heap.size (w.setCell ⟨R, 1, none⟩ (.int .i64 (q + 1 + 1))) w' := (by (repeat (first | exact Below.refl _ _ | exact Hbl.out | refine Below.ext ?_ (by first | omega | (simp; omega) | simp) | refine Below.setCell ?_ (by first | omega | (simp; omega) | simp) _ | refine Below.alloc ?_ (by first | omega | (simp; omega) | simp) _ | refine Below.drew ?_ | refine below_drewN ?_ _ | refine Below.step (by assumption) (by first | omega | (simp; omega) | simp) ?_)))
          obtain ⟨d', os', e'⟩ := ext_of_below bl'
          have ow' : Own w.heap.size (ext (w.setCell ⟨R, 1, none⟩ (.int .i64 (q + 1 + 1))) d' os') v' (chargeF l a b).1 := by rw [← e']; exact own_mono ow (by simp; try omega)
          have oo' : Own w.heap.size (ext (w.setCell ⟨R, 1, none⟩ (.int .i64 (q + 1 + 1))) d' os') (.slice A l.length cap) l := by rw [← e']; exact own_below (own_re Hown.out (by omega)) bl
          clear bl bl' ow
          subst e'
          have Ow := Lib.hid ow'; clear ow'
          have Oo := Lib.hid oo'; clear oo'
          rcases Bool.eq_false_or_eq_true (chargeF l a b).2 with hc | hc
          · have hlen := chargeF_len hc
            rw [hc]
            go_wp2
            go_roundw
            case rel => exact ⟨j - 1, _, q + 1 + 1, d', os', by go_num, by omega, by omega, by rw [hlen]; exact hml, by omega, by omega, rfl, Ow.out⟩
            case measure => simp [intOf]; omega
          · rw [hc]
            go_wp2
            go_roundw
            case rel => exact ⟨j - 1, _, q + 1 + 1, d', os', by go_num, by omega, by omega, hml, by omega, by omega, rfl, Oo.out⟩
            case measure => simp [intOf]; omega
        · have hlt' : ¬ 0 < j ∨ (0 < j ∧ ¬ 0 < m) := by omega
          have hp' : q ≤ p + 30 := by omega
          clear hlt
          rcases hlt' with hlt | ⟨hlt, hlt2⟩
          all_goals
            go_wp2_with (go_at_call 40; refine (odd_any _ ?_ _ _ ?_ ?_ ?_ ?_).mono ?_; rotate_left; (focus ((repeat (first | assumption | refine Rd.ext ?_ | refine Rd.drew ?_ | refine Rd.drewN ?_ | refine Rd.set (by assumption) ?_ | refine Rd.lit (by assumption) (by simp) ?_ | refine Rd.alloc ?_ _ | omega)))); (focus omega); (focus omega); (focus omega); rintro e w' ⟨b, d, rfl, rfl⟩)
            · refine (pick_any _ ?_ _ _ ?_ ?_).mono ?_; rotate_left; (focus ((repeat (first | assumption | refine Rd.ext ?_ | refine Rd.drew ?_ | refine Rd.drewN ?_ | refine Rd.set (by assumption) ?_ | refine Rd.lit (by assumption) (by simp) ?_ | refine Rd.alloc ?_ _ | omega)))); (focus omega); rintro e w' ⟨c, dc, rfl, lc, hc, h2, rfl⟩; replace hc := hc (by omega); clear h2
              go_wp2_with (at_builtin; refine wpList_app1 _ rfl (.tmp 64) (.tmp 74) rfl w.heap.size _ l rfl ?cO ?cL ?cB _ rfl (selN c [8, -2, -1, -1]) (selN c [0, 0, 0, 10001]) (selN c [0, 0, 1, 0]) ?c0 ?c1 ?c2 ?_)
              case cO => repeat (first | exact own_re Hown.out (by omega) | refine own_ext' ?_ | refine own_alloc ?_ _)
              case cL => omega
              case cB => simp; try omega
              case c0 => simp [go_sem]
              case c1 => simp [go_sem]
              case c2 => simp [go_sem]
              intro v' w' o' hg'
              have hbl' : Below (w.setCell ⟨R, 1, none⟩ (.int .i64 (q + 1 + 1))).heap.size (w.setCell ⟨R, 1, none⟩ (.int .i64 (q + 1 + 1))) w' := Below.grown ((by (repeat (first | exact Below.refl _ _ | exact Hbl.out | refine Below.ext ?_ (by first | omega | (simp; omega) | simp) | refine Below.setCell ?_ (by first | omega | (simp; omega) | simp) _ | refine Below.alloc ?_ (by first | omega | (simp; omega) | simp) _ | refine Below.drew ?_ | refine below_drewN ?_ _ | refine Below.step (by assumption) (by first | omega | (simp; omega) | simp) ?_)))) hg' (by simp; try omega) (fun k hk => by have := (Hown.out.lt k hk).1; simp; omega)
              obtain ⟨d', os', rfl⟩ := ext_of_below hbl'
              go_wp2
              go_ret
              exact ⟨_, _, q + 1 + 1, d', os', rfl, by omega, by omega, by simp; omega, rfl, o'⟩
            · go_ret
              exact ⟨_, _, q + 1, _, _, rfl, by omega, by omega, by omega, rfl, own_re Hown.out (by omega)⟩
end Go.Proofs.Ytffppecflamcgaa
