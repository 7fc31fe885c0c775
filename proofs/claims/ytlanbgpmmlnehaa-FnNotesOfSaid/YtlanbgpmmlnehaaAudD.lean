/- Audits: what is drawn. -/
import Derived.Test.YtlanbgpmmlnehaaInv
import Derived.Test.YtlanbgpmmlnehaaNoteG
set_option linter.unusedSimpArgs false
set_option linter.unusedVariables false
set_option linter.unusedSectionVars false
namespace Go.Proofs.Ytlanbgpmmlnehaa
open Go.RowKit

/-- A user is drawn. -/
theorem l20User_any (R : Nat) (p : Int) (w : World) (hr : Rd w R p) (hp : p ≤ 1000000000) : Calls Try.prog 54 #[.pointer (some ⟨R, 0, none⟩)] w fun e w' => ∃ (x : Int) (d : Nat) (os : Array Obj), e = .returned (.int .i64 x) ∧ 0 ≤ x ∧ x ≤ 7 ∧ w' = ext (w.setCell ⟨R, 1, none⟩ (.int .i64 (p + 1))) d os := by
  have hR := hr.lt
  go_enter Try.func54, Try.ntmps54
  (go_wp2_with fail); refine (pick_any _ ?_ _ _ ?_ ?_).mono ?_; rotate_left; (focus ((repeat (first | assumption | refine Rd.ext ?_ | refine Rd.drew ?_ | refine Rd.drewN ?_ | refine Rd.set (by assumption) ?_ | refine Rd.lit (by assumption) (by simp) ?_ | refine Rd.alloc ?_ _ | omega)))); (focus omega); rintro e w' ⟨v, dv, rfl, lv, hv, h2, rfl⟩; replace hv := hv (by omega); clear h2
  go_wp2
  go_ret
  have hb : Below (w.setCell ⟨R, 1, none⟩ (.int .i64 (p + 1))).heap.size (w.setCell ⟨R, 1, none⟩ (.int .i64 (p + 1))) (ext ((w.setCell ⟨R, 1, none⟩ (.int .i64 (p + 1))).alloc (.cells #[.int .i64 0, .int .i64 5, .int .i64 6, .int .i64 7] 3)) dv #[]) := (by (repeat (first | exact Below.refl _ _ | exact Hbl.out | refine Below.ext ?_ (by first | omega | (simp; omega) | simp) | refine Below.setCell ?_ (by first | omega | (simp; omega) | simp) _ | refine Below.alloc ?_ (by first | omega | (simp; omega) | simp) _ | refine Below.drew ?_ | refine below_drewN ?_ _ | refine Below.step (by assumption) (by first | omega | (simp; omega) | simp) ?_)))
  obtain ⟨d, os, e⟩ := ext_of_below hb
  refine ⟨_, d, os, rfl, ?_, ?_, e⟩
  · have : v.toNat = 0 ∨ v.toNat = 1 ∨ v.toNat = 2 ∨ v.toNat = 3 := by omega
    rcases this with h | h | h | h <;> simp [selN, h]
  · have : v.toNat = 0 ∨ v.toNat = 1 ∨ v.toNat = 2 ∨ v.toNat = 3 := by omega
    rcases this with h | h | h | h <;> simp [selN, h]

/-- A slice of two texts, one of its places; of two numbers. -/
def IsS2 (R : Nat) (u : Value) (w : World) : Prop := ∃ g, u = .slice (some ⟨g, 0, none⟩) 2 2 ∧ g < w.heap.size ∧ g ≠ R ∧ ∀ k, k < 2 → ∃ s : ByteArray, w.cell? ⟨g, k, none⟩ = some (.string s) ∧ s.size ≤ 9
def IsSp (R : Nat) (u : Value) (w : World) : Prop := ∃ g k, u = .pointer (some ⟨g, k, none⟩) ∧ g < w.heap.size ∧ g ≠ R ∧ ∃ s : ByteArray, w.cell? ⟨g, k, none⟩ = some (.string s) ∧ s.size ≤ 9
def IsN2 (R : Nat) (u : Value) (w : World) : Prop := ∃ g, u = .slice (some ⟨g, 0, none⟩) 2 2 ∧ g < w.heap.size ∧ g ≠ R ∧ ∀ k, k < 2 → ∃ x : Int, w.cell? ⟨g, k, none⟩ = some (.int .i64 x)
def IsNp (R : Nat) (u : Value) (w : World) : Prop := ∃ g k, u = .pointer (some ⟨g, k, none⟩) ∧ g < w.heap.size ∧ g ≠ R ∧ ∃ x : Int, w.cell? ⟨g, k, none⟩ = some (.int .i64 x)
section
variable {R B : Nat} {u u7 : Value} {w w' : World}
theorem IsS2.ev (h : IsS2 R u w) (e : Ev R w w') : IsS2 R u w' := by
  obtain ⟨g, h1, h2, h3, h4⟩ := h
  exact ⟨g, h1, Nat.lt_of_lt_of_le h2 e.size, h3, fun k hk => by rw [e.cell g k h2 h3]; exact h4 k hk⟩
theorem IsSp.ev (h : IsSp R u w) (e : Ev R w w') : IsSp R u w' := by
  obtain ⟨g, k, h1, h2, h3, h4⟩ := h
  exact ⟨g, k, h1, Nat.lt_of_lt_of_le h2 e.size, h3, by rw [e.cell g k h2 h3]; exact h4⟩
theorem IsN2.ev (h : IsN2 R u w) (e : Ev R w w') : IsN2 R u w' := by
  obtain ⟨g, h1, h2, h3, h4⟩ := h
  exact ⟨g, h1, Nat.lt_of_lt_of_le h2 e.size, h3, fun k hk => by rw [e.cell g k h2 h3]; exact h4 k hk⟩
theorem IsNp.ev (h : IsNp R u w) (e : Ev R w w') : IsNp R u w' := by
  obtain ⟨g, k, h1, h2, h3, h4⟩ := h
  exact ⟨g, k, h1, Nat.lt_of_lt_of_le h2 e.size, h3, by rw [e.cell g k h2 h3]; exact h4⟩
theorem IsS2.made {a b : ByteArray} {T : TypeId} (hR : R < w.heap.size) (ha : a.size ≤ 9) (hb : b.size ≤ 9) : IsS2 R (.slice (some ⟨w.heap.size, 0, none⟩) 2 2) (w.alloc (.cells #[.string a, .string b] T)) :=
  ⟨_, rfl, by simp, by omega, fun k hk => by
    have : k = 0 ∨ k = 1 := by omega
    rcases this with rfl | rfl
    · exact ⟨a, by go_simp, ha⟩
    · exact ⟨b, by go_simp, hb⟩⟩
theorem IsN2.made {a b : Int} {T : TypeId} (hR : R < w.heap.size) : IsN2 R (.slice (some ⟨w.heap.size, 0, none⟩) 2 2) (w.alloc (.cells #[.int .i64 a, .int .i64 b] T)) :=
  ⟨_, rfl, by simp, by omega, fun k hk => by
    have : k = 0 ∨ k = 1 := by omega
    rcases this with rfl | rfl
    · exact ⟨a, by go_simp⟩
    · exact ⟨b, by go_simp⟩⟩
theorem IsSp.of {g : Nat} {v : Int} (h1 : g < w.heap.size) (h2 : g ≠ R) (h3 : ∀ k, k < 2 → ∃ s : ByteArray, w.cell? ⟨g, k, none⟩ = some (.string s) ∧ s.size ≤ 9) (v0 : 0 ≤ v) (v1 : v < 2) : IsSp R (.pointer (some ⟨g, v.toNat, none⟩)) w :=
  ⟨g, v.toNat, rfl, h1, h2, h3 _ (by omega)⟩
theorem IsNp.of {g : Nat} {v : Int} (h1 : g < w.heap.size) (h2 : g ≠ R) (h3 : ∀ k, k < 2 → ∃ x : Int, w.cell? ⟨g, k, none⟩ = some (.int .i64 x)) (v0 : 0 ≤ v) (v1 : v < 2) : IsNp R (.pointer (some ⟨g, v.toNat, none⟩)) w :=
  ⟨g, v.toNat, rfl, h1, h2, h3 _ (by omega)⟩
theorem ev_out {α : Type} {E : Lay α} {l : List α} {v : Value} (h : RowF E B w v l) (e : Ev R w w') (hR : R < B) : RowF E B w' v l := by
  obtain ⟨A, cap, h0, h1, h2, h3⟩ := h
  refine ⟨A, cap, h0, h1, h2, h3.imp id fun ⟨b, off, q, hB, hlt, hat, hw⟩ => ⟨b, off, q, hB, Nat.lt_of_lt_of_le hlt e.size, fun i x hx j u hu => by rw [e.cell b _ hlt (by omega)]; exact hat i x hx j u hu, fun j hj => ?_⟩⟩
  obtain ⟨k1, k2⟩ := hw j hj
  exact ⟨by rw [e.cell b _ hlt (by omega)]; exact k1, by rw [e.frozen b _ hlt]; exact k2⟩
/-- What AddNote hands back; the audit of it; the box of an audit, empty and full. 'l': the box is made; it is none of the row's. -/
def IsT (R B : Nat) (l : Bool) (u7 u : Value) (w : World) : Prop := R < B ∧ ∃ v' n' b l', u = .tuple #[.agg #[v', .int .i64 n'], .bool b] ∧ RowF EN B w v' l' ∧ l'.length ≤ 10 ∧ Txt l' ∧ (l = true → ∀ g, u7 = .pointer (some ⟨g, 0, none⟩) → ∀ j, v'.ownBlock = some j → j ≠ g)
def IsA (R B : Nat) (l : Bool) (u7 u : Value) (w : World) : Prop := R < B ∧ ∃ v' n' l', u = .agg #[v', .int .i64 n'] ∧ RowF EN B w v' l' ∧ l'.length ≤ 10 ∧ Txt l' ∧ (l = true → ∀ g, u7 = .pointer (some ⟨g, 0, none⟩) → ∀ j, v'.ownBlock = some j → j ≠ g)
def IsBox (R base : Nat) (u : Value) (w : World) : Prop := R < base ∧ ∃ g x0 x1, u = .pointer (some ⟨g, 0, none⟩) ∧ base ≤ g ∧ g < w.heap.size ∧ w.cell? ⟨g, 0, none⟩ = some x0 ∧ w.cell? ⟨g, 1, none⟩ = some x1 ∧ w.frozen? ⟨g, 0, none⟩ = false ∧ w.frozen? ⟨g, 1, none⟩ = false
def IsAud (B base : Nat) (u : Value) (w : World) : Prop := ∃ g v' n' l', u = .pointer (some ⟨g, 0, none⟩) ∧ base ≤ g ∧ g < w.heap.size ∧ w.cell? ⟨g, 0, none⟩ = some v' ∧ w.cell? ⟨g, 1, none⟩ = some (.int .i64 n') ∧ RowF EN B w v' l' ∧ l'.length ≤ 10 ∧ Txt l'
variable {l : Bool} {base : Nat}
theorem IsT.ev (h : IsT R B l u7 u w) (e : Ev R w w') : IsT R B l u7 u w' := by
  obtain ⟨h0, v', n', b, l', h1, h2, h3⟩ := h
  exact ⟨h0, v', n', b, l', h1, ev_out h2 e h0, h3⟩
theorem IsA.ev (h : IsA R B l u7 u w) (e : Ev R w w') : IsA R B l u7 u w' := by
  obtain ⟨h0, v', n', l', h1, h2, h3⟩ := h
  exact ⟨h0, v', n', l', h1, ev_out h2 e h0, h3⟩
theorem IsBox.ev (h : IsBox R base u w) (e : Ev R w w') : IsBox R base u w' := by
  obtain ⟨h0, g, x0, x1, h1, h2, h3, h4, h5, h6, h7⟩ := h
  exact ⟨h0, g, x0, x1, h1, h2, Nat.lt_of_lt_of_le h3 e.size, by rw [e.cell g 0 h3 (by omega)]; exact h4, by rw [e.cell g 1 h3 (by omega)]; exact h5, by rw [e.frozen g 0 h3]; exact h6, by rw [e.frozen g 1 h3]; exact h7⟩
theorem row_block {α : Type} {E : Lay α} {l : List α} {v : Value} (h : RowF E B w v l) : ∀ j, v.ownBlock = some j → B ≤ j ∧ j < w.heap.size := by
  obtain ⟨A, cap, rfl, h1, h2, h3⟩ := h
  intro j hj
  rcases h3 with ⟨rfl, _⟩ | ⟨b, off, rfl, hB, hlt, _⟩
  · cases hj
  · cases hj; exact ⟨hB, hlt⟩
theorem IsT.box {o : Obj} {l' : Bool} (h : IsT R B l u7 u w) : IsT R B l' (.pointer (some ⟨w.heap.size, 0, none⟩)) u (w.alloc o) := by
  obtain ⟨h0, v', n', b, l', h1, h2, h3, h4, _⟩ := h
  exact ⟨h0, v', n', b, l', h1, ev_out h2 Ev.alloc h0, h3, h4, fun _ g e j hj => by cases e; have := (row_block h2 j hj).2; omega⟩
theorem IsA.box {o : Obj} {l' : Bool} (h : IsA R B l u7 u w) : IsA R B l' (.pointer (some ⟨w.heap.size, 0, none⟩)) u (w.alloc o) := by
  obtain ⟨h0, v', n', l', h1, h2, h3, h4, _⟩ := h
  exact ⟨h0, v', n', l', h1, ev_out h2 Ev.alloc h0, h3, h4, fun _ g e j hj => by cases e; have := (row_block h2 j hj).2; omega⟩
theorem IsBox.made {a b : Value} {T : TypeId} (h0 : R < base) (h : base ≤ w.heap.size) : IsBox R base (.pointer (some ⟨w.heap.size, 0, none⟩)) (w.alloc (.cells #[a, b] T)) :=
  ⟨h0, _, a, b, rfl, h, by simp, by go_simp, by go_simp, by go_simp, by go_simp⟩
theorem IsAud.made {g : Nat} {v : Value} {n : Int} {m : List T4} {x0 x1 : Value} (h : RowF EN B w v m) (h1 : m.length ≤ 10) (h2 : Txt m) (h3 : ∀ j, v.ownBlock = some j → j ≠ g) (k0 : base ≤ g) (k1 : g < w.heap.size) (k2 : w.cell? ⟨g, 0, none⟩ = some x0) (k3 : w.cell? ⟨g, 1, none⟩ = some x1) :
    IsAud B base (.pointer (some ⟨g, 0, none⟩)) ((w.setCell ⟨g, 0, none⟩ v).setCell ⟨g, 1, none⟩ (.int .i64 n)) :=
  ⟨g, v, n, m, rfl, k0, by simpa using k1, by go_simp, by go_simp, rowF_setCell (rowF_setCell h h3) h3, h1, h2⟩
end
theorem Rd.below {w w' : World} {R : Nat} {p : Int} (h : Rd w R p) (hb : Below w.heap.size w w') : Rd w' R p := by
  obtain ⟨d, os, rfl⟩ := ext_of_below hb
  exact Rd.ext h
theorem Rd.at_ {w w' : World} {R : Nat} {p q : Int} (h : Rd w R p) (hq : 0 ≤ q) (hb : Below (w.setCell ⟨R, 1, none⟩ (.int .i64 q)).heap.size (w.setCell ⟨R, 1, none⟩ (.int .i64 q)) w') : Rd w' R q := Rd.below (Rd.set h hq) hb
theorem setCell_same {w : World} {b o : Nat} {v : Value} (h : w.cell? ⟨b, o, none⟩ = some v) : w.setCell ⟨b, o, none⟩ v = w := by
  have e : (w.setCell ⟨b, o, none⟩ v).heap = w.heap := by
    apply Array.ext_getElem?
    intro k
    simp only [World.setCell, Array.getElem?_modify]
    split
    · rename_i hk
      subst hk
      unfold World.cell? at h
      cases hh : w.heap[b]? with
      | none => rfl
      | some x =>
        cases x with
        | cells c elem fr =>
          simp only [hh] at h
          have h' : c[o]? = some v := by simpa using h
          have : c.setIfInBounds o v = c := by
            apply Array.ext_getElem?
            intro j
            rw [Array.getElem?_setIfInBounds]
            split
            · rename_i hj; subst hj; split
              · rw [h']
              · rename_i hlt; rw [Array.getElem?_eq_none (by omega)] at h'; cases h'
            · rfl
          simp [this]
        | _ => rfl
    · rfl
  obtain ⟨heap, tape, drawn, os, output⟩ := w
  simp only [World.setCell] at e ⊢
  rw [e]
theorem same_setCell {w : World} {R : Nat} {q : Int} (h : Rd w R q) : w.setCell ⟨R, 1, none⟩ (.int .i64 q) = w := by
  obtain ⟨A, len, cap, zs, _, _, h6, _, h8, _⟩ := h
  exact setCell_same h6
/-- An old cell, where only the reader's place has moved. -/
theorem boxed {w w' : World} {R b o : Nat} {x : Value} (hb : Below (w.setCell ⟨R, 1, none⟩ x).heap.size (w.setCell ⟨R, 1, none⟩ x) w') (h : b < w.heap.size) (hR : b ≠ R) : w'.cell? ⟨b, o, none⟩ = w.cell? ⟨b, o, none⟩ :=
  (hb.cell (p := ⟨b, o, none⟩) (by simpa using h)).trans (World.cell?_setCell_other _ _ _ _ (fun e => hR (by cases e; rfl)))
theorem boxedF {w w' : World} {R b o : Nat} {x : Value} (hb : Below (w.setCell ⟨R, 1, none⟩ x).heap.size (w.setCell ⟨R, 1, none⟩ x) w') (h : b < w.heap.size) : w'.frozen? ⟨b, o, none⟩ = w.frozen? ⟨b, o, none⟩ :=
  (hb.frozen (p := ⟨b, o, none⟩) (by simpa using h)).trans (World.frozen?_setCell _ _ _ _)
theorem rowF_old {α : Type} {E : Lay α} {l : List α} {v x : Value} {w w' : World} {R B : Nat} (h : RowF E B w v l) (hb : Below (w.setCell ⟨R, 1, none⟩ x).heap.size (w.setCell ⟨R, 1, none⟩ x) w') (hR : R < B) : RowF E B w' v l :=
  ev_out h ((Ev.set R w x).trans (Ev.below hb)) hR
theorem addL_small (nn : Int) (l : List T4) (x : Int) (s : ByteArray) (y : Int) (hl : l.length ≤ 10) (hx : Txt l) (hs : s.size ≤ maxLen) : (addL nn l x s y).length ≤ 10 ∧ Txt (addL nn l x s y) := by
  have ha := txt_app (x := (nn, x, s, y)) hx hs
  unfold addL
  split
  · exact ⟨by simp; omega, txt_drop ha 1⟩
  · exact ⟨by simp; omega, ha⟩
theorem addF_small (nn : Int) (l : List T4) (x : Int) (s : ByteArray) (y : Int) (hl : l.length ≤ 10) (hx : Txt l) (hs : s.size ≤ maxLen) : (addF nn l x s y).1.length ≤ 10 ∧ Txt (addF nn l x s y).1 := by
  have ha := addL_small nn l x s y hl hx hs
  unfold addF
  split
  · split
    · exact ha
    · exact ⟨hl, hx⟩
  · exact ⟨by simp, fun i hi => by simp at hi⟩
theorem box_apart {R B base : Nat} {w w' : World} {v u : Value} {l : List T4} (h : IsBox R base u w) (hr : RowF EN w.heap.size w' v l) : ∀ g, u = .pointer (some ⟨g, 0, none⟩) → ∀ j, v.ownBlock = some j → j ≠ g := by
  obtain ⟨_, g', x0, x1, rfl, h1, h2, _⟩ := h
  intro g e j hj
  cases e
  have := (row_block hr j hj).1
  omega
theorem comb {w wr wx : World} {R : Nat} {q0 q : Int} (hR : R < w.heap.size) (h1 : Below (w.setCell ⟨R, 1, none⟩ (.int .i64 q0)).heap.size (w.setCell ⟨R, 1, none⟩ (.int .i64 q0)) wr) (h2 : Below (wr.setCell ⟨R, 1, none⟩ (.int .i64 q)).heap.size (wr.setCell ⟨R, 1, none⟩ (.int .i64 q)) wx) :
    Below (w.setCell ⟨R, 1, none⟩ (.int .i64 q)).heap.size (w.setCell ⟨R, 1, none⟩ (.int .i64 q)) wx := by
  obtain ⟨d, os, rfl⟩ := ext_of_below h1
  rw [ext_setCell (by rw [size_setCell]; exact hR), setCell_twice] at h2
  exact Below.step h2 (by simp) (below_ext _ _ _)
theorem out1 {w wr : World} {R : Nat} {q0 q : Int} (hR : R < w.heap.size) (h1 : Below (w.setCell ⟨R, 1, none⟩ (.int .i64 q0)).heap.size (w.setCell ⟨R, 1, none⟩ (.int .i64 q0)) wr) : Below (w.setCell ⟨R, 1, none⟩ (.int .i64 q)).heap.size (w.setCell ⟨R, 1, none⟩ (.int .i64 q)) (wr.setCell ⟨R, 1, none⟩ (.int .i64 q)) := comb hR h1 (Below.refl _ _)
set_option maxRecDepth 100000
/-- Audits are drawn. -/
def DrewA (w : World) (R : Nat) (p k : Int) (e : Ending) (w' : World) : Prop :=
  ∃ (v : Value) (l : List T4) (nx q : Int) (d : Nat) (os : Array Obj), e = .returned (.agg #[v, .int .i64 nx]) ∧ p ≤ q ∧ q ≤ p + k ∧ l.length ≤ 11 ∧ Txt l ∧ w' = ext (w.setCell ⟨R, 1, none⟩ (.int .i64 q)) d os ∧ RowF EN w.heap.size w' v l
theorem DrewA.mk {w w' : World} {R : Nat} {p k q : Int} {v : Value} {l : List T4} {nx : Int} (hb : Below (w.setCell ⟨R, 1, none⟩ (.int .i64 q)).heap.size (w.setCell ⟨R, 1, none⟩ (.int .i64 q)) w') (h1 : p ≤ q) (h2 : q ≤ p + k) (hl : l.length ≤ 11) (hx : Txt l) (hr : RowF EN w.heap.size w' v l) : DrewA w R p k (.returned (.agg #[v, .int .i64 nx])) w' := by
  obtain ⟨d, os, e⟩ := ext_of_below hb
  exact ⟨v, l, nx, q, d, os, rfl, h1, h2, hl, hx, e, hr⟩
theorem rowF_ext {α : Type} {E : Lay α} {l : List α} {v : Value} {w : World} {B d : Nat} {os : Array Obj} (h : RowF E B w v l) : RowF E B (ext w d os) v l := rowF_below h (below_ext _ _ _)
theorem rowF_alloc {α : Type} {E : Lay α} {l : List α} {v : Value} {w : World} {B : Nat} (h : RowF E B w v l) (o : Obj) : RowF E B (w.alloc o) v l := rowF_below h (Below.alloc (Below.refl _ _) (Nat.le_refl _) _)
structure FA (R B : Nat) (q0 : Int) (wr : World) (vv : Value) (nn : Int) (L : Nat → Bool) (w : World) (u17 u18 u19 u20 u21 u22 u23 u24 u25 u26 u27 u28 u29 u30 u31 u32 u16 u33 u34 u7 u8 : Value) : Prop where
  com : ∃ q, q0 ≤ q ∧ q ≤ q0 + (b2n (L 2) + b2n (L 5) + b2n (L 9) + b2n (L 12)) ∧ Below (wr.setCell ⟨R, 1, none⟩ (.int .i64 q)).heap.size (wr.setCell ⟨R, 1, none⟩ (.int .i64 q)) w
  cl : L 20 = true → ∀ k, k < 20 → k ≠ 18 → L k = true
  f0 : (L 20 = false → L 0 = true → u17 = .agg #[vv, .int .i64 nn])
  f1 : (L 20 = false → L 1 = true → u18 = .pointer (some ⟨R, 0, none⟩))
  f4 : (L 20 = false → L 4 = true → u21 = .pointer (some ⟨R, 0, none⟩))
  f8 : (L 20 = false → L 8 = true → u25 = .pointer (some ⟨R, 0, none⟩))
  f11 : (L 20 = false → L 11 = true → u28 = .pointer (some ⟨R, 0, none⟩))
  f2 : (L 20 = false → L 2 = true → ∃ x : Int, u19 = .int .i64 x)
  f3 : (L 20 = false → L 3 = true → IsS2 R u20 w)
  f5 : (L 20 = false → L 5 = true → ∃ v : Int, u22 = .int .i64 v ∧ 0 ≤ v ∧ v < 2)
  f6 : (L 20 = false → L 6 = true → IsSp R u23 w)
  f7 : (L 20 = false → L 7 = true → ∃ s : ByteArray, u24 = .string s ∧ s.size ≤ 9)
  f9 : (L 20 = false → L 9 = true → ∃ x : Int, u26 = .int .i64 x)
  f10 : (L 20 = false → L 10 = true → IsN2 R u27 w)
  f12 : (L 20 = false → L 12 = true → ∃ v : Int, u29 = .int .i64 v ∧ 0 ≤ v ∧ v < 2)
  f13 : (L 20 = false → L 13 = true → IsNp R u30 w)
  f14 : (L 20 = false → L 14 = true → ∃ x : Int, u31 = .int .i64 x)
  f15 : (L 20 = false → L 15 = true → IsT R B (L 19) u7 u32 w)
  f16 : (L 20 = false → L 16 = true → IsT R B (L 19) u7 u16 w)
  f17 : (L 20 = false → L 17 = true → IsA R B (L 19) u7 u33 w)
  f15b : (L 15 = true → ∃ (a : Value) (b : Bool), u32 = .tuple #[a, .bool b])
  f16b : (L 16 = true → ∃ (a : Value) (b : Bool), u16 = .tuple #[a, .bool b])
  f19 : (L 20 = false → L 19 = true → IsBox R wr.heap.size u7 w)
  f20 : (L 20 = true → IsAud B wr.heap.size u7 w)
set_option maxHeartbeats 20000000 in
theorem l20Audit_any (R : Nat) (p n : Int) (w : World) (hr : Rd w R p) (hp : p ≤ 900000000) (hn : 1 ≤ n) (hn' : n ≤ 1000) : Calls Try.prog 50 #[.pointer (some ⟨R, 0, none⟩), .int .i64 n] w (DrewA w R p 60) := by
  have hR := hr.lt
  have hp0 := hr.pos
  go_enter Try.func50, Try.ntmps50
  (go_wp2_with fail); refine (pick_any _ ?_ _ _ ?_ ?_).mono ?_; rotate_left; (focus ((repeat (first | assumption | refine Rd.ext ?_ | refine Rd.drew ?_ | refine Rd.drewN ?_ | refine Rd.set (by assumption) ?_ | refine Rd.lit (by assumption) (by simp) ?_ | refine Rd.alloc ?_ _ | omega)))); (focus omega); rintro e w' ⟨m, dm, rfl, lm, hm, h2, rfl⟩; replace hm := hm (by omega); clear h2
  go_wp2
  go_loopw [6] (fun i wr => ∃ (j : Int) (l : List T4) (vv : Value) (nn q : Int), i = .int .i64 j ∧ 0 ≤ j ∧ j ≤ 13 ∧ p ≤ q ∧ q ≤ p + 53 - 4 * j ∧ w.heap.size + 1 < wr.heap.size ∧ Below (w.setCell ⟨R, 1, none⟩ (.int .i64 q)).heap.size (w.setCell ⟨R, 1, none⟩ (.int .i64 q)) wr ∧ RowF EN (w.heap.size + 2) wr vv l ∧ l.length ≤ 10 ∧ Txt l ∧
    wr.cell? ⟨w.heap.size + 1, 0, none⟩ = some vv ∧ wr.cell? ⟨w.heap.size + 1, 1, none⟩ = some (.int .i64 nn) ∧ wr.frozen? ⟨w.heap.size + 1, 0, none⟩ = false ∧ wr.frozen? ⟨w.heap.size + 1, 1, none⟩ = false ∧
    wr.cell? ⟨w.heap.size, 0, none⟩ = some (.slice none 0 0) ∧ wr.cell? ⟨w.heap.size, 1, none⟩ = some (.int .i64 0) ∧ wr.frozen? ⟨w.heap.size, 0, none⟩ = false ∧ wr.frozen? ⟨w.heap.size, 1, none⟩ = false) (fun i _ => (intOf i).toNat)
  case atStart =>
    refine ⟨m, [], .slice none 0 0, 0, p + 1, rfl, lm, by omega, by omega, by omega, by simp, (by (repeat (first | exact Below.refl _ _ | exact Hbl.out | refine Below.ext ?_ (by first | omega | (simp; omega) | simp) | refine Below.setCell ?_ (by first | omega | (simp; omega) | simp) _ | refine Below.alloc ?_ (by first | omega | (simp; omega) | simp) _ | refine Below.drew ?_ | refine below_drewN ?_ _ | refine Below.step (by assumption) (by first | omega | (simp; omega) | simp) ?_))), rowF_own (T := 49) (ownG_none _ _), by simp, fun i hi => by simp at hi, ?_, ?_, ?_, ?_, ?_, ?_, ?_, ?_⟩
    all_goals go_simp
  case round =>
    obtain ⟨j, ll, vv, nn, q0, rfl, j0, j1, q1, q2, hz, hbl, hrow, hll, htx, y0, y1, z0, z1, x0, x1, e0, e1⟩ := hrel
    have Hbl := Lib.hid hbl
    clear hbl
    have hrd0 := Rd.at_ hr (by omega) Hbl.out
    by_cases hlt : 0 < j
    · have hzj : IntKind.i64.wrap (j - 1) = j - 1 := IntWalk.i64_in _ (by omega)
      go_wp2_with fail
      have hBR : R < w.heap.size + 2 := by omega
      have hRwr : R < wr.heap.size := by omega
      have b5R : w.heap.size + 1 ≠ R := by omega
      refine wp_region_put [17, 18, 19, 20, 21, 22, 23, 24, 25, 26, 27, 28, 29, 30, 31, 32, 16, 33, 34, 7, 8] (fun L us wx => ∃ u17 u18 u19 u20 u21 u22 u23 u24 u25 u26 u27 u28 u29 u30 u31 u32 u16 u33 u34 u7 u8, us = [u17, u18, u19, u20, u21, u22, u23, u24, u25, u26, u27, u28, u29, u30, u31, u32, u16, u33, u34, u7, u8] ∧ FA R (w.heap.size + 2) q0 wr vv nn L wx u17 u18 u19 u20 u21 u22 u23 u24 u25 u26 u27 u28 u29 u30 u31 u32 u16 u33 u34 u7 u8) (by kernel_rfl) (by kernel_rfl) ?_ ?_ ?_
      · exact ⟨_, _, _, _, _, _, _, _, _, _, _, _, _, _, _, _, _, _, _, _, _, rfl, ⟨⟨q0, Int.le_refl _, by simp [b2n], Below.drew (by rw [same_setCell hrd0]; exact Below.refl _ _)⟩, fun h => absurd h (by simp), fun _ h => absurd h (by simp), fun _ h => absurd h (by simp), fun _ h => absurd h (by simp), fun _ h => absurd h (by simp), fun _ h => absurd h (by simp), fun _ h => absurd h (by simp), fun _ h => absurd h (by simp), fun _ h => absurd h (by simp), fun _ h => absurd h (by simp), fun _ h => absurd h (by simp), fun _ h => absurd h (by simp), fun _ h => absurd h (by simp), fun _ h => absurd h (by simp), fun _ h => absurd h (by simp), fun _ h => absurd h (by simp), fun _ h => absurd h (by simp), fun _ h => absurd h (by simp), fun _ h => absurd h (by simp), fun h => absurd h (by simp), fun h => absurd h (by simp), fun _ h => absurd h (by simp), fun h => absurd h (by simp)⟩⟩
      · repeat' (first | exact Stps.nil | refine Stps.cons ?_ ?_)
        · show Stp _ _ _ _ _ 0 _
          intro L _ w hi hL ⟨us, hus, u17, u18, u19, u20, u21, u22, u23, u24, u25, u26, u27, u28, u29, u30, u31, u32, u16, u33, u34, u7, u8, e, hF⟩ K hK
          subst hus
          have HF := Lib.hid hF
          clear hF
          obtain ⟨q, q1, q2, hbl⟩ := HF.out.com
          have hnl : L 20 = false := no_last (fun h => HF.out.cl h 0 (by decide) (by decide)) hi
          have c0 := (boxed (o := 0) hbl hz b5R).trans y0
          have c1 := (boxed (o := 1) hbl hz b5R).trans y1
          subst e
          simp only [putsA, putsL, List.set_cons_zero, List.set_cons_succ]
          go_simp
          refine hK.out _ _ ⟨[.agg #[vv, .int .i64 nn], u18, u19, u20, u21, u22, u23, u24, u25, u26, u27, u28, u29, u30, u31, u32, u16, u33, u34, u7, u8], by kernel_rfl, _, _, _, _, _, _, _, _, _, _, _, _, _, _, _, _, _, _, _, _, _, rfl, ⟨q, q1, q2, hbl⟩, fun h => absurd (show L 20 = true from h) (by simp [hnl]),
    fun _ _ => rfl,
    fun _ hj => HF.out.f1 hnl hj,
    fun _ hj => HF.out.f4 hnl hj,
    fun _ hj => HF.out.f8 hnl hj,
    fun _ hj => HF.out.f11 hnl hj,
    fun _ hj => HF.out.f2 hnl hj,
    fun _ hj => HF.out.f3 hnl hj,
    fun _ hj => HF.out.f5 hnl hj,
    fun _ hj => HF.out.f6 hnl hj,
    fun _ hj => HF.out.f7 hnl hj,
    fun _ hj => HF.out.f9 hnl hj,
    fun _ hj => HF.out.f10 hnl hj,
    fun _ hj => HF.out.f12 hnl hj,
    fun _ hj => HF.out.f13 hnl hj,
    fun _ hj => HF.out.f14 hnl hj,
    fun _ hj => HF.out.f15 hnl hj,
    fun _ hj => HF.out.f16 hnl hj,
    fun _ hj => HF.out.f17 hnl hj,
    fun hj => HF.out.f15b hj,
    fun hj => HF.out.f16b hj,
    fun _ hj => HF.out.f19 hnl hj,
    fun hj => absurd (show L 20 = true from hj) (by simp [hnl])⟩
        · show Stp _ _ _ _ _ 1 _
          intro L _ w hi hL ⟨us, hus, u17, u18, u19, u20, u21, u22, u23, u24, u25, u26, u27, u28, u29, u30, u31, u32, u16, u33, u34, u7, u8, e, hF⟩ K hK
          subst hus
          have HF := Lib.hid hF
          clear hF
          obtain ⟨q, q1, q2, hbl⟩ := HF.out.com
          have hnl : L 20 = false := no_last (fun h => HF.out.cl h 1 (by decide) (by decide)) hi
          subst e
          simp only [putsA, putsL, List.set_cons_zero, List.set_cons_succ]
          go_simp
          refine hK.out _ _ ⟨[u17, .pointer (some ⟨R, 0, none⟩), u19, u20, u21, u22, u23, u24, u25, u26, u27, u28, u29, u30, u31, u32, u16, u33, u34, u7, u8], by kernel_rfl, _, _, _, _, _, _, _, _, _, _, _, _, _, _, _, _, _, _, _, _, _, rfl, ⟨q, q1, q2, hbl⟩, fun h => absurd (show L 20 = true from h) (by simp [hnl]),
    fun _ hj => HF.out.f0 hnl hj,
    fun _ _ => rfl,
    fun _ hj => HF.out.f4 hnl hj,
    fun _ hj => HF.out.f8 hnl hj,
    fun _ hj => HF.out.f11 hnl hj,
    fun _ hj => HF.out.f2 hnl hj,
    fun _ hj => HF.out.f3 hnl hj,
    fun _ hj => HF.out.f5 hnl hj,
    fun _ hj => HF.out.f6 hnl hj,
    fun _ hj => HF.out.f7 hnl hj,
    fun _ hj => HF.out.f9 hnl hj,
    fun _ hj => HF.out.f10 hnl hj,
    fun _ hj => HF.out.f12 hnl hj,
    fun _ hj => HF.out.f13 hnl hj,
    fun _ hj => HF.out.f14 hnl hj,
    fun _ hj => HF.out.f15 hnl hj,
    fun _ hj => HF.out.f16 hnl hj,
    fun _ hj => HF.out.f17 hnl hj,
    fun hj => HF.out.f15b hj,
    fun hj => HF.out.f16b hj,
    fun _ hj => HF.out.f19 hnl hj,
    fun hj => absurd (show L 20 = true from hj) (by simp [hnl])⟩
        · show Stp _ _ _ _ _ 2 _
          intro L _ w hi hL ⟨us, hus, u17, u18, u19, u20, u21, u22, u23, u24, u25, u26, u27, u28, u29, u30, u31, u32, u16, u33, u34, u7, u8, e, hF⟩ K hK
          subst hus
          have HF := Lib.hid hF
          clear hF
          obtain ⟨q, q1, q2, hbl⟩ := HF.out.com
          have hnl : L 20 = false := no_last (fun h => HF.out.cl h 2 (by decide) (by decide)) hi
          simp [Region.binds] at hL
          have g1 := HF.out.f1 hnl (by simp [hL])
          obtain rfl := g1
          have hrd := Rd.at_ hrd0 (by omega) hbl
          have qb : b2n (L 2) + b2n (L 5) + b2n (L 9) + b2n (L 12) ≤ 4 := by unfold b2n; split <;> split <;> split <;> split <;> omega
          subst e
          simp only [putsA, putsL, List.set_cons_zero, List.set_cons_succ]
          go_simp
          refine (l20User_any R q _ hrd (by omega)).mono ?_
          rintro e w' ⟨x, d', os', rfl, hx0, hx1, rfl⟩
          go_simp
          refine hK.out _ _ ⟨[u17, .pointer (some ⟨R, 0, none⟩), .int .i64 x, u20, u21, u22, u23, u24, u25, u26, u27, u28, u29, u30, u31, u32, u16, u33, u34, u7, u8], by kernel_rfl, _, _, _, _, _, _, _, _, _, _, _, _, _, _, _, _, _, _, _, _, _, rfl, ⟨q + 1, by omega, by simp [b2n, upd, show L 2 = false from hi] at q2 ⊢; omega, Ev.pick hRwr hbl⟩, fun h => absurd (show L 20 = true from h) (by simp [hnl]),
    fun _ hj => HF.out.f0 hnl hj,
    fun _ hj => HF.out.f1 hnl hj,
    fun _ hj => HF.out.f4 hnl hj,
    fun _ hj => HF.out.f8 hnl hj,
    fun _ hj => HF.out.f11 hnl hj,
    fun _ _ => ⟨_, rfl⟩,
    fun _ hj => IsS2.ev (HF.out.f3 hnl hj) (Ev.draw),
    fun _ hj => HF.out.f5 hnl hj,
    fun _ hj => IsSp.ev (HF.out.f6 hnl hj) (Ev.draw),
    fun _ hj => HF.out.f7 hnl hj,
    fun _ hj => HF.out.f9 hnl hj,
    fun _ hj => IsN2.ev (HF.out.f10 hnl hj) (Ev.draw),
    fun _ hj => HF.out.f12 hnl hj,
    fun _ hj => IsNp.ev (HF.out.f13 hnl hj) (Ev.draw),
    fun _ hj => HF.out.f14 hnl hj,
    fun _ hj => IsT.ev (HF.out.f15 hnl hj) (Ev.draw),
    fun _ hj => IsT.ev (HF.out.f16 hnl hj) (Ev.draw),
    fun _ hj => IsA.ev (HF.out.f17 hnl hj) (Ev.draw),
    fun hj => HF.out.f15b hj,
    fun hj => HF.out.f16b hj,
    fun _ hj => IsBox.ev (HF.out.f19 hnl hj) (Ev.draw),
    fun hj => absurd (show L 20 = true from hj) (by simp [hnl])⟩
        · show Stp _ _ _ _ _ 3 _
          intro L _ w hi hL ⟨us, hus, u17, u18, u19, u20, u21, u22, u23, u24, u25, u26, u27, u28, u29, u30, u31, u32, u16, u33, u34, u7, u8, e, hF⟩ K hK
          subst hus
          have HF := Lib.hid hF
          clear hF
          obtain ⟨q, q1, q2, hbl⟩ := HF.out.com
          have hnl : L 20 = false := no_last (fun h => HF.out.cl h 3 (by decide) (by decide)) hi
          have hw : R < w.heap.size := (Rd.at_ hrd0 (by omega) hbl).lt
          subst e
          simp only [putsA, putsL, List.set_cons_zero, List.set_cons_succ]
          go_simp
          refine hK.out _ _ ⟨[u17, u18, u19, .slice (some ⟨w.heap.size, 0, none⟩) 2 2, u21, u22, u23, u24, u25, u26, u27, u28, u29, u30, u31, u32, u16, u33, u34, u7, u8], by kernel_rfl, _, _, _, _, _, _, _, _, _, _, _, _, _, _, _, _, _, _, _, _, _, rfl, ⟨q, q1, q2, Below.alloc hbl hbl.size _⟩, fun h => absurd (show L 20 = true from h) (by simp [hnl]),
    fun _ hj => HF.out.f0 hnl hj,
    fun _ hj => HF.out.f1 hnl hj,
    fun _ hj => HF.out.f4 hnl hj,
    fun _ hj => HF.out.f8 hnl hj,
    fun _ hj => HF.out.f11 hnl hj,
    fun _ hj => HF.out.f2 hnl hj,
    fun _ _ => IsS2.made (by omega) (by decide) (by decide),
    fun _ hj => HF.out.f5 hnl hj,
    fun _ hj => IsSp.ev (HF.out.f6 hnl hj) (Ev.alloc),
    fun _ hj => HF.out.f7 hnl hj,
    fun _ hj => HF.out.f9 hnl hj,
    fun _ hj => IsN2.ev (HF.out.f10 hnl hj) (Ev.alloc),
    fun _ hj => HF.out.f12 hnl hj,
    fun _ hj => IsNp.ev (HF.out.f13 hnl hj) (Ev.alloc),
    fun _ hj => HF.out.f14 hnl hj,
    fun _ hj => IsT.ev (HF.out.f15 hnl hj) (Ev.alloc),
    fun _ hj => IsT.ev (HF.out.f16 hnl hj) (Ev.alloc),
    fun _ hj => IsA.ev (HF.out.f17 hnl hj) (Ev.alloc),
    fun hj => HF.out.f15b hj,
    fun hj => HF.out.f16b hj,
    fun _ hj => IsBox.ev (HF.out.f19 hnl hj) (Ev.alloc),
    fun hj => absurd (show L 20 = true from hj) (by simp [hnl])⟩
        · show Stp _ _ _ _ _ 4 _
          intro L _ w hi hL ⟨us, hus, u17, u18, u19, u20, u21, u22, u23, u24, u25, u26, u27, u28, u29, u30, u31, u32, u16, u33, u34, u7, u8, e, hF⟩ K hK
          subst hus
          have HF := Lib.hid hF
          clear hF
          obtain ⟨q, q1, q2, hbl⟩ := HF.out.com
          have hnl : L 20 = false := no_last (fun h => HF.out.cl h 4 (by decide) (by decide)) hi
          subst e
          simp only [putsA, putsL, List.set_cons_zero, List.set_cons_succ]
          go_simp
          refine hK.out _ _ ⟨[u17, u18, u19, u20, .pointer (some ⟨R, 0, none⟩), u22, u23, u24, u25, u26, u27, u28, u29, u30, u31, u32, u16, u33, u34, u7, u8], by kernel_rfl, _, _, _, _, _, _, _, _, _, _, _, _, _, _, _, _, _, _, _, _, _, rfl, ⟨q, q1, q2, hbl⟩, fun h => absurd (show L 20 = true from h) (by simp [hnl]),
    fun _ hj => HF.out.f0 hnl hj,
    fun _ hj => HF.out.f1 hnl hj,
    fun _ _ => rfl,
    fun _ hj => HF.out.f8 hnl hj,
    fun _ hj => HF.out.f11 hnl hj,
    fun _ hj => HF.out.f2 hnl hj,
    fun _ hj => HF.out.f3 hnl hj,
    fun _ hj => HF.out.f5 hnl hj,
    fun _ hj => HF.out.f6 hnl hj,
    fun _ hj => HF.out.f7 hnl hj,
    fun _ hj => HF.out.f9 hnl hj,
    fun _ hj => HF.out.f10 hnl hj,
    fun _ hj => HF.out.f12 hnl hj,
    fun _ hj => HF.out.f13 hnl hj,
    fun _ hj => HF.out.f14 hnl hj,
    fun _ hj => HF.out.f15 hnl hj,
    fun _ hj => HF.out.f16 hnl hj,
    fun _ hj => HF.out.f17 hnl hj,
    fun hj => HF.out.f15b hj,
    fun hj => HF.out.f16b hj,
    fun _ hj => HF.out.f19 hnl hj,
    fun hj => absurd (show L 20 = true from hj) (by simp [hnl])⟩
        · show Stp _ _ _ _ _ 5 _
          intro L _ w hi hL ⟨us, hus, u17, u18, u19, u20, u21, u22, u23, u24, u25, u26, u27, u28, u29, u30, u31, u32, u16, u33, u34, u7, u8, e, hF⟩ K hK
          subst hus
          have HF := Lib.hid hF
          clear hF
          obtain ⟨q, q1, q2, hbl⟩ := HF.out.com
          have hnl : L 20 = false := no_last (fun h => HF.out.cl h 5 (by decide) (by decide)) hi
          simp [Region.binds] at hL
          have g4 := HF.out.f4 hnl (by simp [hL])
          obtain rfl := g4
          have hrd := Rd.at_ hrd0 (by omega) hbl
          have qb : b2n (L 2) + b2n (L 5) + b2n (L 9) + b2n (L 12) ≤ 4 := by unfold b2n; split <;> split <;> split <;> split <;> omega
          subst e
          simp only [putsA, putsL, List.set_cons_zero, List.set_cons_succ]
          go_simp
          refine (pick_any R q 2 _ hrd (by omega)).mono ?_
          rintro e w' ⟨v, d', rfl, h0, h1, h2, rfl⟩
          replace h1 := h1 (by omega)
          go_simp
          refine hK.out _ _ ⟨[u17, u18, u19, u20, .pointer (some ⟨R, 0, none⟩), .int .i64 v, u23, u24, u25, u26, u27, u28, u29, u30, u31, u32, u16, u33, u34, u7, u8], by kernel_rfl, _, _, _, _, _, _, _, _, _, _, _, _, _, _, _, _, _, _, _, _, _, rfl, ⟨q + 1, by omega, by simp [b2n, upd, show L 5 = false from hi] at q2 ⊢; omega, Ev.pick hRwr hbl⟩, fun h => absurd (show L 20 = true from h) (by simp [hnl]),
    fun _ hj => HF.out.f0 hnl hj,
    fun _ hj => HF.out.f1 hnl hj,
    fun _ hj => HF.out.f4 hnl hj,
    fun _ hj => HF.out.f8 hnl hj,
    fun _ hj => HF.out.f11 hnl hj,
    fun _ hj => HF.out.f2 hnl hj,
    fun _ hj => IsS2.ev (HF.out.f3 hnl hj) (Ev.draw),
    fun _ _ => ⟨_, rfl, h0, h1⟩,
    fun _ hj => IsSp.ev (HF.out.f6 hnl hj) (Ev.draw),
    fun _ hj => HF.out.f7 hnl hj,
    fun _ hj => HF.out.f9 hnl hj,
    fun _ hj => IsN2.ev (HF.out.f10 hnl hj) (Ev.draw),
    fun _ hj => HF.out.f12 hnl hj,
    fun _ hj => IsNp.ev (HF.out.f13 hnl hj) (Ev.draw),
    fun _ hj => HF.out.f14 hnl hj,
    fun _ hj => IsT.ev (HF.out.f15 hnl hj) (Ev.draw),
    fun _ hj => IsT.ev (HF.out.f16 hnl hj) (Ev.draw),
    fun _ hj => IsA.ev (HF.out.f17 hnl hj) (Ev.draw),
    fun hj => HF.out.f15b hj,
    fun hj => HF.out.f16b hj,
    fun _ hj => IsBox.ev (HF.out.f19 hnl hj) (Ev.draw),
    fun hj => absurd (show L 20 = true from hj) (by simp [hnl])⟩
        · show Stp _ _ _ _ _ 6 _
          intro L _ w hi hL ⟨us, hus, u17, u18, u19, u20, u21, u22, u23, u24, u25, u26, u27, u28, u29, u30, u31, u32, u16, u33, u34, u7, u8, e, hF⟩ K hK
          subst hus
          have HF := Lib.hid hF
          clear hF
          obtain ⟨q, q1, q2, hbl⟩ := HF.out.com
          have hnl : L 20 = false := no_last (fun h => HF.out.cl h 6 (by decide) (by decide)) hi
          simp [Region.binds] at hL
          have g3 := HF.out.f3 hnl (by simp [hL])
          have g5 := HF.out.f5 hnl (by simp [hL])
          obtain ⟨g, rfl, k1, k2, k3⟩ := g3
          obtain ⟨v, rfl, v0, v1⟩ := g5
          subst e
          simp only [putsA, putsL, List.set_cons_zero, List.set_cons_succ]
          go_simp
          refine hK.out _ _ ⟨[u17, u18, u19, .slice (some ⟨g, 0, none⟩) 2 2, u21, .int .i64 v, .pointer (some ⟨g, v.toNat, none⟩), u24, u25, u26, u27, u28, u29, u30, u31, u32, u16, u33, u34, u7, u8], by kernel_rfl, _, _, _, _, _, _, _, _, _, _, _, _, _, _, _, _, _, _, _, _, _, rfl, ⟨q, q1, q2, hbl⟩, fun h => absurd (show L 20 = true from h) (by simp [hnl]),
    fun _ hj => HF.out.f0 hnl hj,
    fun _ hj => HF.out.f1 hnl hj,
    fun _ hj => HF.out.f4 hnl hj,
    fun _ hj => HF.out.f8 hnl hj,
    fun _ hj => HF.out.f11 hnl hj,
    fun _ hj => HF.out.f2 hnl hj,
    fun _ hj => HF.out.f3 hnl hj,
    fun _ hj => HF.out.f5 hnl hj,
    fun _ _ => IsSp.of k1 k2 k3 v0 v1,
    fun _ hj => HF.out.f7 hnl hj,
    fun _ hj => HF.out.f9 hnl hj,
    fun _ hj => HF.out.f10 hnl hj,
    fun _ hj => HF.out.f12 hnl hj,
    fun _ hj => HF.out.f13 hnl hj,
    fun _ hj => HF.out.f14 hnl hj,
    fun _ hj => HF.out.f15 hnl hj,
    fun _ hj => HF.out.f16 hnl hj,
    fun _ hj => HF.out.f17 hnl hj,
    fun hj => HF.out.f15b hj,
    fun hj => HF.out.f16b hj,
    fun _ hj => HF.out.f19 hnl hj,
    fun hj => absurd (show L 20 = true from hj) (by simp [hnl])⟩
        · show Stp _ _ _ _ _ 7 _
          intro L _ w hi hL ⟨us, hus, u17, u18, u19, u20, u21, u22, u23, u24, u25, u26, u27, u28, u29, u30, u31, u32, u16, u33, u34, u7, u8, e, hF⟩ K hK
          subst hus
          have HF := Lib.hid hF
          clear hF
          obtain ⟨q, q1, q2, hbl⟩ := HF.out.com
          have hnl : L 20 = false := no_last (fun h => HF.out.cl h 7 (by decide) (by decide)) hi
          simp [Region.binds] at hL
          have g6 := HF.out.f6 hnl (by simp [hL])
          obtain ⟨g, k, rfl, k1, k2, s, k3, k4⟩ := g6
          subst e
          simp only [putsA, putsL, List.set_cons_zero, List.set_cons_succ]
          go_simp
          refine hK.out _ _ ⟨[u17, u18, u19, u20, u21, u22, .pointer (some ⟨g, k, none⟩), .string s, u25, u26, u27, u28, u29, u30, u31, u32, u16, u33, u34, u7, u8], by kernel_rfl, _, _, _, _, _, _, _, _, _, _, _, _, _, _, _, _, _, _, _, _, _, rfl, ⟨q, q1, q2, hbl⟩, fun h => absurd (show L 20 = true from h) (by simp [hnl]),
    fun _ hj => HF.out.f0 hnl hj,
    fun _ hj => HF.out.f1 hnl hj,
    fun _ hj => HF.out.f4 hnl hj,
    fun _ hj => HF.out.f8 hnl hj,
    fun _ hj => HF.out.f11 hnl hj,
    fun _ hj => HF.out.f2 hnl hj,
    fun _ hj => HF.out.f3 hnl hj,
    fun _ hj => HF.out.f5 hnl hj,
    fun _ hj => HF.out.f6 hnl hj,
    fun _ _ => ⟨_, rfl, k4⟩,
    fun _ hj => HF.out.f9 hnl hj,
    fun _ hj => HF.out.f10 hnl hj,
    fun _ hj => HF.out.f12 hnl hj,
    fun _ hj => HF.out.f13 hnl hj,
    fun _ hj => HF.out.f14 hnl hj,
    fun _ hj => HF.out.f15 hnl hj,
    fun _ hj => HF.out.f16 hnl hj,
    fun _ hj => HF.out.f17 hnl hj,
    fun hj => HF.out.f15b hj,
    fun hj => HF.out.f16b hj,
    fun _ hj => HF.out.f19 hnl hj,
    fun hj => absurd (show L 20 = true from hj) (by simp [hnl])⟩
        · show Stp _ _ _ _ _ 8 _
          intro L _ w hi hL ⟨us, hus, u17, u18, u19, u20, u21, u22, u23, u24, u25, u26, u27, u28, u29, u30, u31, u32, u16, u33, u34, u7, u8, e, hF⟩ K hK
          subst hus
          have HF := Lib.hid hF
          clear hF
          obtain ⟨q, q1, q2, hbl⟩ := HF.out.com
          have hnl : L 20 = false := no_last (fun h => HF.out.cl h 8 (by decide) (by decide)) hi
          subst e
          simp only [putsA, putsL, List.set_cons_zero, List.set_cons_succ]
          go_simp
          refine hK.out _ _ ⟨[u17, u18, u19, u20, u21, u22, u23, u24, .pointer (some ⟨R, 0, none⟩), u26, u27, u28, u29, u30, u31, u32, u16, u33, u34, u7, u8], by kernel_rfl, _, _, _, _, _, _, _, _, _, _, _, _, _, _, _, _, _, _, _, _, _, rfl, ⟨q, q1, q2, hbl⟩, fun h => absurd (show L 20 = true from h) (by simp [hnl]),
    fun _ hj => HF.out.f0 hnl hj,
    fun _ hj => HF.out.f1 hnl hj,
    fun _ hj => HF.out.f4 hnl hj,
    fun _ _ => rfl,
    fun _ hj => HF.out.f11 hnl hj,
    fun _ hj => HF.out.f2 hnl hj,
    fun _ hj => HF.out.f3 hnl hj,
    fun _ hj => HF.out.f5 hnl hj,
    fun _ hj => HF.out.f6 hnl hj,
    fun _ hj => HF.out.f7 hnl hj,
    fun _ hj => HF.out.f9 hnl hj,
    fun _ hj => HF.out.f10 hnl hj,
    fun _ hj => HF.out.f12 hnl hj,
    fun _ hj => HF.out.f13 hnl hj,
    fun _ hj => HF.out.f14 hnl hj,
    fun _ hj => HF.out.f15 hnl hj,
    fun _ hj => HF.out.f16 hnl hj,
    fun _ hj => HF.out.f17 hnl hj,
    fun hj => HF.out.f15b hj,
    fun hj => HF.out.f16b hj,
    fun _ hj => HF.out.f19 hnl hj,
    fun hj => absurd (show L 20 = true from hj) (by simp [hnl])⟩
        · show Stp _ _ _ _ _ 9 _
          intro L _ w hi hL ⟨us, hus, u17, u18, u19, u20, u21, u22, u23, u24, u25, u26, u27, u28, u29, u30, u31, u32, u16, u33, u34, u7, u8, e, hF⟩ K hK
          subst hus
          have HF := Lib.hid hF
          clear hF
          obtain ⟨q, q1, q2, hbl⟩ := HF.out.com
          have hnl : L 20 = false := no_last (fun h => HF.out.cl h 9 (by decide) (by decide)) hi
          simp [Region.binds] at hL
          have g8 := HF.out.f8 hnl (by simp [hL])
          obtain rfl := g8
          have hrd := Rd.at_ hrd0 (by omega) hbl
          have qb : b2n (L 2) + b2n (L 5) + b2n (L 9) + b2n (L 12) ≤ 4 := by unfold b2n; split <;> split <;> split <;> split <;> omega
          subst e
          simp only [putsA, putsL, List.set_cons_zero, List.set_cons_succ]
          go_simp
          refine (pick_any R q 8 _ hrd (by omega)).mono ?_
          rintro e w' ⟨v, d', rfl, h0, h1, h2, rfl⟩
          replace h1 := h1 (by omega)
          go_simp
          refine hK.out _ _ ⟨[u17, u18, u19, u20, u21, u22, u23, u24, .pointer (some ⟨R, 0, none⟩), .int .i64 v, u27, u28, u29, u30, u31, u32, u16, u33, u34, u7, u8], by kernel_rfl, _, _, _, _, _, _, _, _, _, _, _, _, _, _, _, _, _, _, _, _, _, rfl, ⟨q + 1, by omega, by simp [b2n, upd, show L 9 = false from hi] at q2 ⊢; omega, Ev.pick hRwr hbl⟩, fun h => absurd (show L 20 = true from h) (by simp [hnl]),
    fun _ hj => HF.out.f0 hnl hj,
    fun _ hj => HF.out.f1 hnl hj,
    fun _ hj => HF.out.f4 hnl hj,
    fun _ hj => HF.out.f8 hnl hj,
    fun _ hj => HF.out.f11 hnl hj,
    fun _ hj => HF.out.f2 hnl hj,
    fun _ hj => IsS2.ev (HF.out.f3 hnl hj) (Ev.draw),
    fun _ hj => HF.out.f5 hnl hj,
    fun _ hj => IsSp.ev (HF.out.f6 hnl hj) (Ev.draw),
    fun _ hj => HF.out.f7 hnl hj,
    fun _ _ => ⟨_, rfl⟩,
    fun _ hj => IsN2.ev (HF.out.f10 hnl hj) (Ev.draw),
    fun _ hj => HF.out.f12 hnl hj,
    fun _ hj => IsNp.ev (HF.out.f13 hnl hj) (Ev.draw),
    fun _ hj => HF.out.f14 hnl hj,
    fun _ hj => IsT.ev (HF.out.f15 hnl hj) (Ev.draw),
    fun _ hj => IsT.ev (HF.out.f16 hnl hj) (Ev.draw),
    fun _ hj => IsA.ev (HF.out.f17 hnl hj) (Ev.draw),
    fun hj => HF.out.f15b hj,
    fun hj => HF.out.f16b hj,
    fun _ hj => IsBox.ev (HF.out.f19 hnl hj) (Ev.draw),
    fun hj => absurd (show L 20 = true from hj) (by simp [hnl])⟩
        · show Stp _ _ _ _ _ 10 _
          intro L _ w hi hL ⟨us, hus, u17, u18, u19, u20, u21, u22, u23, u24, u25, u26, u27, u28, u29, u30, u31, u32, u16, u33, u34, u7, u8, e, hF⟩ K hK
          subst hus
          have HF := Lib.hid hF
          clear hF
          obtain ⟨q, q1, q2, hbl⟩ := HF.out.com
          have hnl : L 20 = false := no_last (fun h => HF.out.cl h 10 (by decide) (by decide)) hi
          simp [Region.binds] at hL
          have g9 := HF.out.f9 hnl (by simp [hL])
          obtain ⟨x, rfl⟩ := g9
          have hw : R < w.heap.size := (Rd.at_ hrd0 (by omega) hbl).lt
          subst e
          simp only [putsA, putsL, List.set_cons_zero, List.set_cons_succ]
          go_simp
          refine hK.out _ _ ⟨[u17, u18, u19, u20, u21, u22, u23, u24, u25, .int .i64 x, .slice (some ⟨w.heap.size, 0, none⟩) 2 2, u28, u29, u30, u31, u32, u16, u33, u34, u7, u8], by kernel_rfl, _, _, _, _, _, _, _, _, _, _, _, _, _, _, _, _, _, _, _, _, _, rfl, ⟨q, q1, q2, Below.alloc hbl hbl.size _⟩, fun h => absurd (show L 20 = true from h) (by simp [hnl]),
    fun _ hj => HF.out.f0 hnl hj,
    fun _ hj => HF.out.f1 hnl hj,
    fun _ hj => HF.out.f4 hnl hj,
    fun _ hj => HF.out.f8 hnl hj,
    fun _ hj => HF.out.f11 hnl hj,
    fun _ hj => HF.out.f2 hnl hj,
    fun _ hj => IsS2.ev (HF.out.f3 hnl hj) (Ev.alloc),
    fun _ hj => HF.out.f5 hnl hj,
    fun _ hj => IsSp.ev (HF.out.f6 hnl hj) (Ev.alloc),
    fun _ hj => HF.out.f7 hnl hj,
    fun _ hj => HF.out.f9 hnl hj,
    fun _ _ => IsN2.made (by omega),
    fun _ hj => HF.out.f12 hnl hj,
    fun _ hj => IsNp.ev (HF.out.f13 hnl hj) (Ev.alloc),
    fun _ hj => HF.out.f14 hnl hj,
    fun _ hj => IsT.ev (HF.out.f15 hnl hj) (Ev.alloc),
    fun _ hj => IsT.ev (HF.out.f16 hnl hj) (Ev.alloc),
    fun _ hj => IsA.ev (HF.out.f17 hnl hj) (Ev.alloc),
    fun hj => HF.out.f15b hj,
    fun hj => HF.out.f16b hj,
    fun _ hj => IsBox.ev (HF.out.f19 hnl hj) (Ev.alloc),
    fun hj => absurd (show L 20 = true from hj) (by simp [hnl])⟩
        · show Stp _ _ _ _ _ 11 _
          intro L _ w hi hL ⟨us, hus, u17, u18, u19, u20, u21, u22, u23, u24, u25, u26, u27, u28, u29, u30, u31, u32, u16, u33, u34, u7, u8, e, hF⟩ K hK
          subst hus
          have HF := Lib.hid hF
          clear hF
          obtain ⟨q, q1, q2, hbl⟩ := HF.out.com
          have hnl : L 20 = false := no_last (fun h => HF.out.cl h 11 (by decide) (by decide)) hi
          subst e
          simp only [putsA, putsL, List.set_cons_zero, List.set_cons_succ]
          go_simp
          refine hK.out _ _ ⟨[u17, u18, u19, u20, u21, u22, u23, u24, u25, u26, u27, .pointer (some ⟨R, 0, none⟩), u29, u30, u31, u32, u16, u33, u34, u7, u8], by kernel_rfl, _, _, _, _, _, _, _, _, _, _, _, _, _, _, _, _, _, _, _, _, _, rfl, ⟨q, q1, q2, hbl⟩, fun h => absurd (show L 20 = true from h) (by simp [hnl]),
    fun _ hj => HF.out.f0 hnl hj,
    fun _ hj => HF.out.f1 hnl hj,
    fun _ hj => HF.out.f4 hnl hj,
    fun _ hj => HF.out.f8 hnl hj,
    fun _ _ => rfl,
    fun _ hj => HF.out.f2 hnl hj,
    fun _ hj => HF.out.f3 hnl hj,
    fun _ hj => HF.out.f5 hnl hj,
    fun _ hj => HF.out.f6 hnl hj,
    fun _ hj => HF.out.f7 hnl hj,
    fun _ hj => HF.out.f9 hnl hj,
    fun _ hj => HF.out.f10 hnl hj,
    fun _ hj => HF.out.f12 hnl hj,
    fun _ hj => HF.out.f13 hnl hj,
    fun _ hj => HF.out.f14 hnl hj,
    fun _ hj => HF.out.f15 hnl hj,
    fun _ hj => HF.out.f16 hnl hj,
    fun _ hj => HF.out.f17 hnl hj,
    fun hj => HF.out.f15b hj,
    fun hj => HF.out.f16b hj,
    fun _ hj => HF.out.f19 hnl hj,
    fun hj => absurd (show L 20 = true from hj) (by simp [hnl])⟩
        · show Stp _ _ _ _ _ 12 _
          intro L _ w hi hL ⟨us, hus, u17, u18, u19, u20, u21, u22, u23, u24, u25, u26, u27, u28, u29, u30, u31, u32, u16, u33, u34, u7, u8, e, hF⟩ K hK
          subst hus
          have HF := Lib.hid hF
          clear hF
          obtain ⟨q, q1, q2, hbl⟩ := HF.out.com
          have hnl : L 20 = false := no_last (fun h => HF.out.cl h 12 (by decide) (by decide)) hi
          simp [Region.binds] at hL
          have g11 := HF.out.f11 hnl (by simp [hL])
          obtain rfl := g11
          have hrd := Rd.at_ hrd0 (by omega) hbl
          have qb : b2n (L 2) + b2n (L 5) + b2n (L 9) + b2n (L 12) ≤ 4 := by unfold b2n; split <;> split <;> split <;> split <;> omega
          subst e
          simp only [putsA, putsL, List.set_cons_zero, List.set_cons_succ]
          go_simp
          refine (pick_any R q 2 _ hrd (by omega)).mono ?_
          rintro e w' ⟨v, d', rfl, h0, h1, h2, rfl⟩
          replace h1 := h1 (by omega)
          go_simp
          refine hK.out _ _ ⟨[u17, u18, u19, u20, u21, u22, u23, u24, u25, u26, u27, .pointer (some ⟨R, 0, none⟩), .int .i64 v, u30, u31, u32, u16, u33, u34, u7, u8], by kernel_rfl, _, _, _, _, _, _, _, _, _, _, _, _, _, _, _, _, _, _, _, _, _, rfl, ⟨q + 1, by omega, by simp [b2n, upd, show L 12 = false from hi] at q2 ⊢; omega, Ev.pick hRwr hbl⟩, fun h => absurd (show L 20 = true from h) (by simp [hnl]),
    fun _ hj => HF.out.f0 hnl hj,
    fun _ hj => HF.out.f1 hnl hj,
    fun _ hj => HF.out.f4 hnl hj,
    fun _ hj => HF.out.f8 hnl hj,
    fun _ hj => HF.out.f11 hnl hj,
    fun _ hj => HF.out.f2 hnl hj,
    fun _ hj => IsS2.ev (HF.out.f3 hnl hj) (Ev.draw),
    fun _ hj => HF.out.f5 hnl hj,
    fun _ hj => IsSp.ev (HF.out.f6 hnl hj) (Ev.draw),
    fun _ hj => HF.out.f7 hnl hj,
    fun _ hj => HF.out.f9 hnl hj,
    fun _ hj => IsN2.ev (HF.out.f10 hnl hj) (Ev.draw),
    fun _ _ => ⟨_, rfl, h0, h1⟩,
    fun _ hj => IsNp.ev (HF.out.f13 hnl hj) (Ev.draw),
    fun _ hj => HF.out.f14 hnl hj,
    fun _ hj => IsT.ev (HF.out.f15 hnl hj) (Ev.draw),
    fun _ hj => IsT.ev (HF.out.f16 hnl hj) (Ev.draw),
    fun _ hj => IsA.ev (HF.out.f17 hnl hj) (Ev.draw),
    fun hj => HF.out.f15b hj,
    fun hj => HF.out.f16b hj,
    fun _ hj => IsBox.ev (HF.out.f19 hnl hj) (Ev.draw),
    fun hj => absurd (show L 20 = true from hj) (by simp [hnl])⟩
        · show Stp _ _ _ _ _ 13 _
          intro L _ w hi hL ⟨us, hus, u17, u18, u19, u20, u21, u22, u23, u24, u25, u26, u27, u28, u29, u30, u31, u32, u16, u33, u34, u7, u8, e, hF⟩ K hK
          subst hus
          have HF := Lib.hid hF
          clear hF
          obtain ⟨q, q1, q2, hbl⟩ := HF.out.com
          have hnl : L 20 = false := no_last (fun h => HF.out.cl h 13 (by decide) (by decide)) hi
          simp [Region.binds] at hL
          have g10 := HF.out.f10 hnl (by simp [hL])
          have g12 := HF.out.f12 hnl (by simp [hL])
          obtain ⟨g, rfl, k1, k2, k3⟩ := g10
          obtain ⟨v, rfl, v0, v1⟩ := g12
          subst e
          simp only [putsA, putsL, List.set_cons_zero, List.set_cons_succ]
          go_simp
          refine hK.out _ _ ⟨[u17, u18, u19, u20, u21, u22, u23, u24, u25, u26, .slice (some ⟨g, 0, none⟩) 2 2, u28, .int .i64 v, .pointer (some ⟨g, v.toNat, none⟩), u31, u32, u16, u33, u34, u7, u8], by kernel_rfl, _, _, _, _, _, _, _, _, _, _, _, _, _, _, _, _, _, _, _, _, _, rfl, ⟨q, q1, q2, hbl⟩, fun h => absurd (show L 20 = true from h) (by simp [hnl]),
    fun _ hj => HF.out.f0 hnl hj,
    fun _ hj => HF.out.f1 hnl hj,
    fun _ hj => HF.out.f4 hnl hj,
    fun _ hj => HF.out.f8 hnl hj,
    fun _ hj => HF.out.f11 hnl hj,
    fun _ hj => HF.out.f2 hnl hj,
    fun _ hj => HF.out.f3 hnl hj,
    fun _ hj => HF.out.f5 hnl hj,
    fun _ hj => HF.out.f6 hnl hj,
    fun _ hj => HF.out.f7 hnl hj,
    fun _ hj => HF.out.f9 hnl hj,
    fun _ hj => HF.out.f10 hnl hj,
    fun _ hj => HF.out.f12 hnl hj,
    fun _ _ => IsNp.of k1 k2 k3 v0 v1,
    fun _ hj => HF.out.f14 hnl hj,
    fun _ hj => HF.out.f15 hnl hj,
    fun _ hj => HF.out.f16 hnl hj,
    fun _ hj => HF.out.f17 hnl hj,
    fun hj => HF.out.f15b hj,
    fun hj => HF.out.f16b hj,
    fun _ hj => HF.out.f19 hnl hj,
    fun hj => absurd (show L 20 = true from hj) (by simp [hnl])⟩
        · show Stp _ _ _ _ _ 14 _
          intro L _ w hi hL ⟨us, hus, u17, u18, u19, u20, u21, u22, u23, u24, u25, u26, u27, u28, u29, u30, u31, u32, u16, u33, u34, u7, u8, e, hF⟩ K hK
          subst hus
          have HF := Lib.hid hF
          clear hF
          obtain ⟨q, q1, q2, hbl⟩ := HF.out.com
          have hnl : L 20 = false := no_last (fun h => HF.out.cl h 14 (by decide) (by decide)) hi
          simp [Region.binds] at hL
          have g13 := HF.out.f13 hnl (by simp [hL])
          obtain ⟨g, k, rfl, k1, k2, x, k3⟩ := g13
          subst e
          simp only [putsA, putsL, List.set_cons_zero, List.set_cons_succ]
          go_simp
          refine hK.out _ _ ⟨[u17, u18, u19, u20, u21, u22, u23, u24, u25, u26, u27, u28, u29, .pointer (some ⟨g, k, none⟩), .int .i64 x, u32, u16, u33, u34, u7, u8], by kernel_rfl, _, _, _, _, _, _, _, _, _, _, _, _, _, _, _, _, _, _, _, _, _, rfl, ⟨q, q1, q2, hbl⟩, fun h => absurd (show L 20 = true from h) (by simp [hnl]),
    fun _ hj => HF.out.f0 hnl hj,
    fun _ hj => HF.out.f1 hnl hj,
    fun _ hj => HF.out.f4 hnl hj,
    fun _ hj => HF.out.f8 hnl hj,
    fun _ hj => HF.out.f11 hnl hj,
    fun _ hj => HF.out.f2 hnl hj,
    fun _ hj => HF.out.f3 hnl hj,
    fun _ hj => HF.out.f5 hnl hj,
    fun _ hj => HF.out.f6 hnl hj,
    fun _ hj => HF.out.f7 hnl hj,
    fun _ hj => HF.out.f9 hnl hj,
    fun _ hj => HF.out.f10 hnl hj,
    fun _ hj => HF.out.f12 hnl hj,
    fun _ hj => HF.out.f13 hnl hj,
    fun _ _ => ⟨_, rfl⟩,
    fun _ hj => HF.out.f15 hnl hj,
    fun _ hj => HF.out.f16 hnl hj,
    fun _ hj => HF.out.f17 hnl hj,
    fun hj => HF.out.f15b hj,
    fun hj => HF.out.f16b hj,
    fun _ hj => HF.out.f19 hnl hj,
    fun hj => absurd (show L 20 = true from hj) (by simp [hnl])⟩
        · show Stp _ _ _ _ _ 15 _
          intro L _ w hi hL ⟨us, hus, u17, u18, u19, u20, u21, u22, u23, u24, u25, u26, u27, u28, u29, u30, u31, u32, u16, u33, u34, u7, u8, e, hF⟩ K hK
          subst hus
          have HF := Lib.hid hF
          clear hF
          obtain ⟨q, q1, q2, hbl⟩ := HF.out.com
          have hnl : L 20 = false := no_last (fun h => HF.out.cl h 15 (by decide) (by decide)) hi
          simp [Region.binds] at hL
          have g0 := HF.out.f0 hnl (by simp [hL])
          have g2 := HF.out.f2 hnl (by simp [hL])
          have g7 := HF.out.f7 hnl (by simp [hL])
          have g14 := HF.out.f14 hnl (by simp [hL])
          obtain rfl := g0
          obtain ⟨x, rfl⟩ := g2
          obtain ⟨s, rfl, hs⟩ := g7
          obtain ⟨y, rfl⟩ := g14
          have hrow' := rowF_old hrow hbl hBR
          have hsz := hbl.size
          have hsz' : wr.heap.size ≤ w.heap.size := by simpa using hsz
          subst e
          simp only [putsA, putsL, List.set_cons_zero, List.set_cons_succ]
          go_simp
          refine (addNoteS_of vv nn ll x s y w (rowF_sl hrow') htx (by omega) (by unfold maxLen; omega)).mono ?_
          rintro e w' ⟨v', rfl, hr', hb'⟩
          obtain ⟨hl', htx'⟩ := addF_small nn ll x s y hll htx (by unfold maxLen; omega)
          go_simp
          refine hK.out _ _ ⟨[.agg #[vv, .int .i64 nn], u18, .int .i64 x, u20, u21, u22, u23, .string s, u25, u26, u27, u28, u29, u30, .int .i64 y, .tuple #[.agg #[v', .int .i64 (addF nn ll x s y).2.1], .bool (addF nn ll x s y).2.2], u16, u33, u34, u7, u8], by kernel_rfl, _, _, _, _, _, _, _, _, _, _, _, _, _, _, _, _, _, _, _, _, _, rfl, ⟨q, q1, q2, Below.step hb' hbl.size hbl⟩, fun h => absurd (show L 20 = true from h) (by simp [hnl]),
    fun _ hj => HF.out.f0 hnl hj,
    fun _ hj => HF.out.f1 hnl hj,
    fun _ hj => HF.out.f4 hnl hj,
    fun _ hj => HF.out.f8 hnl hj,
    fun _ hj => HF.out.f11 hnl hj,
    fun _ hj => HF.out.f2 hnl hj,
    fun _ hj => IsS2.ev (HF.out.f3 hnl hj) (Ev.below hb'),
    fun _ hj => HF.out.f5 hnl hj,
    fun _ hj => IsSp.ev (HF.out.f6 hnl hj) (Ev.below hb'),
    fun _ hj => HF.out.f7 hnl hj,
    fun _ hj => HF.out.f9 hnl hj,
    fun _ hj => IsN2.ev (HF.out.f10 hnl hj) (Ev.below hb'),
    fun _ hj => HF.out.f12 hnl hj,
    fun _ hj => IsNp.ev (HF.out.f13 hnl hj) (Ev.below hb'),
    fun _ hj => HF.out.f14 hnl hj,
    fun _ hj => ⟨hBR, v', _, _, _, rfl, rowF_mono hr' (by omega), hl', htx', fun h19 => box_apart (B := R) (HF.out.f19 hnl h19) hr'⟩,
    fun _ hj => IsT.ev (HF.out.f16 hnl hj) (Ev.below hb'),
    fun _ hj => IsA.ev (HF.out.f17 hnl hj) (Ev.below hb'),
    fun _ => ⟨_, _, rfl⟩,
    fun hj => HF.out.f16b hj,
    fun _ hj => IsBox.ev (HF.out.f19 hnl hj) (Ev.below hb'),
    fun hj => absurd (show L 20 = true from hj) (by simp [hnl])⟩
        · show Stp _ _ _ _ _ 16 _
          intro L _ w hi hL ⟨us, hus, u17, u18, u19, u20, u21, u22, u23, u24, u25, u26, u27, u28, u29, u30, u31, u32, u16, u33, u34, u7, u8, e, hF⟩ K hK
          subst hus
          have HF := Lib.hid hF
          clear hF
          obtain ⟨q, q1, q2, hbl⟩ := HF.out.com
          have hnl : L 20 = false := no_last (fun h => HF.out.cl h 16 (by decide) (by decide)) hi
          simp [Region.binds] at hL
          have g15 := HF.out.f15 hnl (by simp [hL])
          have g15b := HF.out.f15b (by simp [hL])
          subst e
          simp only [putsA, putsL, List.set_cons_zero, List.set_cons_succ]
          go_simp
          refine hK.out _ _ ⟨[u17, u18, u19, u20, u21, u22, u23, u24, u25, u26, u27, u28, u29, u30, u31, u32, u32, u33, u34, u7, u8], by kernel_rfl, _, _, _, _, _, _, _, _, _, _, _, _, _, _, _, _, _, _, _, _, _, rfl, ⟨q, q1, q2, hbl⟩, fun h => absurd (show L 20 = true from h) (by simp [hnl]),
    fun _ hj => HF.out.f0 hnl hj,
    fun _ hj => HF.out.f1 hnl hj,
    fun _ hj => HF.out.f4 hnl hj,
    fun _ hj => HF.out.f8 hnl hj,
    fun _ hj => HF.out.f11 hnl hj,
    fun _ hj => HF.out.f2 hnl hj,
    fun _ hj => HF.out.f3 hnl hj,
    fun _ hj => HF.out.f5 hnl hj,
    fun _ hj => HF.out.f6 hnl hj,
    fun _ hj => HF.out.f7 hnl hj,
    fun _ hj => HF.out.f9 hnl hj,
    fun _ hj => HF.out.f10 hnl hj,
    fun _ hj => HF.out.f12 hnl hj,
    fun _ hj => HF.out.f13 hnl hj,
    fun _ hj => HF.out.f14 hnl hj,
    fun _ hj => HF.out.f15 hnl hj,
    fun _ _ => g15,
    fun _ hj => HF.out.f17 hnl hj,
    fun hj => HF.out.f15b hj,
    fun _ => g15b,
    fun _ hj => HF.out.f19 hnl hj,
    fun hj => absurd (show L 20 = true from hj) (by simp [hnl])⟩
        · show Stp _ _ _ _ _ 17 _
          intro L _ w hi hL ⟨us, hus, u17, u18, u19, u20, u21, u22, u23, u24, u25, u26, u27, u28, u29, u30, u31, u32, u16, u33, u34, u7, u8, e, hF⟩ K hK
          subst hus
          have HF := Lib.hid hF
          clear hF
          obtain ⟨q, q1, q2, hbl⟩ := HF.out.com
          have hnl : L 20 = false := no_last (fun h => HF.out.cl h 17 (by decide) (by decide)) hi
          simp [Region.binds] at hL
          have g16 := HF.out.f16 hnl (by simp [hL])
          obtain ⟨hk, v', n', b', l', rfl, k1, k2, k3, k4⟩ := g16
          subst e
          simp only [putsA, putsL, List.set_cons_zero, List.set_cons_succ]
          go_simp
          refine hK.out _ _ ⟨[u17, u18, u19, u20, u21, u22, u23, u24, u25, u26, u27, u28, u29, u30, u31, u32, .tuple #[.agg #[v', .int .i64 n'], .bool b'], .agg #[v', .int .i64 n'], u34, u7, u8], by kernel_rfl, _, _, _, _, _, _, _, _, _, _, _, _, _, _, _, _, _, _, _, _, _, rfl, ⟨q, q1, q2, hbl⟩, fun h => absurd (show L 20 = true from h) (by simp [hnl]),
    fun _ hj => HF.out.f0 hnl hj,
    fun _ hj => HF.out.f1 hnl hj,
    fun _ hj => HF.out.f4 hnl hj,
    fun _ hj => HF.out.f8 hnl hj,
    fun _ hj => HF.out.f11 hnl hj,
    fun _ hj => HF.out.f2 hnl hj,
    fun _ hj => HF.out.f3 hnl hj,
    fun _ hj => HF.out.f5 hnl hj,
    fun _ hj => HF.out.f6 hnl hj,
    fun _ hj => HF.out.f7 hnl hj,
    fun _ hj => HF.out.f9 hnl hj,
    fun _ hj => HF.out.f10 hnl hj,
    fun _ hj => HF.out.f12 hnl hj,
    fun _ hj => HF.out.f13 hnl hj,
    fun _ hj => HF.out.f14 hnl hj,
    fun _ hj => HF.out.f15 hnl hj,
    fun _ hj => HF.out.f16 hnl hj,
    fun _ _ => ⟨hk, v', n', l', rfl, k1, k2, k3, k4⟩,
    fun hj => HF.out.f15b hj,
    fun hj => HF.out.f16b hj,
    fun _ hj => HF.out.f19 hnl hj,
    fun hj => absurd (show L 20 = true from hj) (by simp [hnl])⟩
        · show Stp _ _ _ _ _ 18 _
          intro L _ w hi hL ⟨us, hus, u17, u18, u19, u20, u21, u22, u23, u24, u25, u26, u27, u28, u29, u30, u31, u32, u16, u33, u34, u7, u8, e, hF⟩ K hK
          subst hus
          have HF := Lib.hid hF
          clear hF
          obtain ⟨q, q1, q2, hbl⟩ := HF.out.com
          simp [Region.binds] at hL
          have g16b := HF.out.f16b (by simp [hL])
          obtain ⟨a, b', rfl⟩ := g16b
          subst e
          simp only [putsA, putsL, List.set_cons_zero, List.set_cons_succ]
          go_simp
          refine hK.out _ _ ⟨[u17, u18, u19, u20, u21, u22, u23, u24, u25, u26, u27, u28, u29, u30, u31, u32, .tuple #[a, .bool b'], u33, .bool b', u7, u8], by kernel_rfl, _, _, _, _, _, _, _, _, _, _, _, _, _, _, _, _, _, _, _, _, _, rfl, ⟨q, q1, q2, hbl⟩, fun h k hk k18 => upd_of (HF.out.cl h k hk k18),
    fun h hj => HF.out.f0 h hj,
    fun h hj => HF.out.f1 h hj,
    fun h hj => HF.out.f4 h hj,
    fun h hj => HF.out.f8 h hj,
    fun h hj => HF.out.f11 h hj,
    fun h hj => HF.out.f2 h hj,
    fun h hj => HF.out.f3 h hj,
    fun h hj => HF.out.f5 h hj,
    fun h hj => HF.out.f6 h hj,
    fun h hj => HF.out.f7 h hj,
    fun h hj => HF.out.f9 h hj,
    fun h hj => HF.out.f10 h hj,
    fun h hj => HF.out.f12 h hj,
    fun h hj => HF.out.f13 h hj,
    fun h hj => HF.out.f14 h hj,
    fun h hj => HF.out.f15 h hj,
    fun h hj => HF.out.f16 h hj,
    fun h hj => HF.out.f17 h hj,
    fun hj => HF.out.f15b hj,
    fun hj => HF.out.f16b hj,
    fun h hj => HF.out.f19 h hj,
    fun hj => HF.out.f20 hj⟩
        · show Stp _ _ _ _ _ 19 _
          intro L _ w hi hL ⟨us, hus, u17, u18, u19, u20, u21, u22, u23, u24, u25, u26, u27, u28, u29, u30, u31, u32, u16, u33, u34, u7, u8, e, hF⟩ K hK
          subst hus
          have HF := Lib.hid hF
          clear hF
          obtain ⟨q, q1, q2, hbl⟩ := HF.out.com
          have hnl : L 20 = false := no_last (fun h => HF.out.cl h 19 (by decide) (by decide)) hi
          have hsz := hbl.size
          have hsz' : wr.heap.size ≤ w.heap.size := by simpa using hsz
          subst e
          simp only [putsA, putsL, List.set_cons_zero, List.set_cons_succ]
          go_simp
          refine hK.out _ _ ⟨[u17, u18, u19, u20, u21, u22, u23, u24, u25, u26, u27, u28, u29, u30, u31, u32, u16, u33, u34, .pointer (some ⟨w.heap.size, 0, none⟩), u8], by kernel_rfl, _, _, _, _, _, _, _, _, _, _, _, _, _, _, _, _, _, _, _, _, _, rfl, ⟨q, q1, q2, Below.alloc hbl hbl.size _⟩, fun h => absurd (show L 20 = true from h) (by simp [hnl]),
    fun _ hj => HF.out.f0 hnl hj,
    fun _ hj => HF.out.f1 hnl hj,
    fun _ hj => HF.out.f4 hnl hj,
    fun _ hj => HF.out.f8 hnl hj,
    fun _ hj => HF.out.f11 hnl hj,
    fun _ hj => HF.out.f2 hnl hj,
    fun _ hj => IsS2.ev (HF.out.f3 hnl hj) (Ev.alloc),
    fun _ hj => HF.out.f5 hnl hj,
    fun _ hj => IsSp.ev (HF.out.f6 hnl hj) (Ev.alloc),
    fun _ hj => HF.out.f7 hnl hj,
    fun _ hj => HF.out.f9 hnl hj,
    fun _ hj => IsN2.ev (HF.out.f10 hnl hj) (Ev.alloc),
    fun _ hj => HF.out.f12 hnl hj,
    fun _ hj => IsNp.ev (HF.out.f13 hnl hj) (Ev.alloc),
    fun _ hj => HF.out.f14 hnl hj,
    fun _ hj => IsT.box (HF.out.f15 hnl hj),
    fun _ hj => IsT.box (HF.out.f16 hnl hj),
    fun _ hj => IsA.box (HF.out.f17 hnl hj),
    fun hj => HF.out.f15b hj,
    fun hj => HF.out.f16b hj,
    fun _ _ => IsBox.made hRwr (by omega),
    fun hj => absurd (show L 20 = true from hj) (by simp [hnl])⟩
        · show Stp _ _ _ _ _ 20 _
          intro L _ w hi hL ⟨us, hus, u17, u18, u19, u20, u21, u22, u23, u24, u25, u26, u27, u28, u29, u30, u31, u32, u16, u33, u34, u7, u8, e, hF⟩ K hK
          subst hus
          have HF := Lib.hid hF
          clear hF
          obtain ⟨q, q1, q2, hbl⟩ := HF.out.com
          simp [Region.binds] at hL
          have hall : ∀ k, k < 20 → k ≠ 18 → L k = true := by
            intro k hk hk18
            have hk' : k = 0 ∨ k = 1 ∨ k = 2 ∨ k = 3 ∨ k = 4 ∨ k = 5 ∨ k = 6 ∨ k = 7 ∨ k = 8 ∨ k = 9 ∨ k = 10 ∨ k = 11 ∨ k = 12 ∨ k = 13 ∨ k = 14 ∨ k = 15 ∨ k = 16 ∨ k = 17 ∨ k = 19 := by omega
            rcases hk' with h | h | h | h | h | h | h | h | h | h | h | h | h | h | h | h | h | h | h
            all_goals (rw [h]; simp only [hL])
          have g17 := HF.out.f17 (by simpa using hi) (by simp [hL])
          have g19 := HF.out.f19 (by simpa using hi) (by simp [hL])
          obtain ⟨_, v', n', l', rfl, k1, k2, k3, k4⟩ := g17
          obtain ⟨_, g, x0, x1, rfl, j1, j2, j3, j4, j5, j6⟩ := g19
          obtain ⟨A, c, rfl⟩ := rowF_shape k1
          subst e
          simp only [putsA, putsL, List.set_cons_zero, List.set_cons_succ]
          go_simp
          refine hK.out _ _ ⟨[u17, u18, u19, u20, u21, u22, u23, u24, u25, u26, u27, u28, u29, u30, u31, u32, u16, .agg #[.slice A l'.length c, .int .i64 n'], u34, .pointer (some ⟨g, 0, none⟩), u8], by kernel_rfl, _, _, _, _, _, _, _, _, _, _, _, _, _, _, _, _, _, _, _, _, _, rfl, ⟨q, q1, q2, Below.setCell (Below.setCell hbl (by rw [size_setCell]; exact j1) _) (by rw [size_setCell]; exact j1) _⟩, fun _ k hk k18 => upd_of (hall k hk k18),
    fun h => absurd h (by simp),
    fun h => absurd h (by simp),
    fun h => absurd h (by simp),
    fun h => absurd h (by simp),
    fun h => absurd h (by simp),
    fun h => absurd h (by simp),
    fun h => absurd h (by simp),
    fun h => absurd h (by simp),
    fun h => absurd h (by simp),
    fun h => absurd h (by simp),
    fun h => absurd h (by simp),
    fun h => absurd h (by simp),
    fun h => absurd h (by simp),
    fun h => absurd h (by simp),
    fun h => absurd h (by simp),
    fun h => absurd h (by simp),
    fun h => absurd h (by simp),
    fun h => absurd h (by simp),
    fun hj => HF.out.f15b hj,
    fun hj => HF.out.f16b hj,
    fun h => absurd h (by simp),
    fun _ => IsAud.made k1 k2 k3 (k4 (by simp [hL]) g rfl) j1 j2 j3 j4⟩
        · show Stp _ _ _ _ _ 21 _
          intro L _ w hi hL ⟨us, hus, u17, u18, u19, u20, u21, u22, u23, u24, u25, u26, u27, u28, u29, u30, u31, u32, u16, u33, u34, u7, u8, e, hF⟩ K hK
          subst hus
          have HF := Lib.hid hF
          clear hF
          obtain ⟨q, q1, q2, hbl⟩ := HF.out.com
          simp [Region.binds] at hL
          subst e
          simp only [putsA, putsL, List.set_cons_zero, List.set_cons_succ]
          go_simp
          refine hK.out _ _ ⟨[u17, u18, u19, u20, u21, u22, u23, u24, u25, u26, u27, u28, u29, u30, u31, u32, u16, u33, u34, u7, u34], by kernel_rfl, _, _, _, _, _, _, _, _, _, _, _, _, _, _, _, _, _, _, _, _, _, rfl, ⟨q, q1, q2, hbl⟩, fun h k hk k18 => upd_of (HF.out.cl h k hk k18),
    fun h hj => HF.out.f0 h hj,
    fun h hj => HF.out.f1 h hj,
    fun h hj => HF.out.f4 h hj,
    fun h hj => HF.out.f8 h hj,
    fun h hj => HF.out.f11 h hj,
    fun h hj => HF.out.f2 h hj,
    fun h hj => HF.out.f3 h hj,
    fun h hj => HF.out.f5 h hj,
    fun h hj => HF.out.f6 h hj,
    fun h hj => HF.out.f7 h hj,
    fun h hj => HF.out.f9 h hj,
    fun h hj => HF.out.f10 h hj,
    fun h hj => HF.out.f12 h hj,
    fun h hj => HF.out.f13 h hj,
    fun h hj => HF.out.f14 h hj,
    fun h hj => HF.out.f15 h hj,
    fun h hj => HF.out.f16 h hj,
    fun h hj => HF.out.f17 h hj,
    fun hj => HF.out.f15b hj,
    fun hj => HF.out.f16b hj,
    fun h hj => HF.out.f19 h hj,
    fun hj => HF.out.f20 hj⟩
      · intro L us wx hL ⟨u17, u18, u19, u20, u21, u22, u23, u24, u25, u26, u27, u28, u29, u30, u31, u32, u16, u33, u34, u7, u8, hus, hF⟩
        subst hus
        obtain ⟨q, r1, r2, hbl⟩ := hF.com
        obtain ⟨g, v', n', l', rfl, k1, k2, k3, k4, k5, k6, k7⟩ := hF.f20 (hL 20 (by decide))
        have qb : b2n (L 2) + b2n (L 5) + b2n (L 9) + b2n (L 12) ≤ 4 := by unfold b2n; split <;> split <;> split <;> split <;> omega
        have hblw := comb hR Hbl.out hbl
        obtain ⟨A', c', rfl⟩ := rowF_shape k5
        have e5 := boxed (o := 0) hbl (show w.heap.size < wr.heap.size by omega) (by omega)
        have e6 := boxed (o := 1) hbl (show w.heap.size < wr.heap.size by omega) (by omega)
        have e7 := boxed (o := 0) hbl hz b5R
        have e8 := boxed (o := 1) hbl hz b5R
        have e1' := boxedF (o := 0) hbl (show w.heap.size < wr.heap.size by omega)
        have e2' := boxedF (o := 1) hbl (show w.heap.size < wr.heap.size by omega)
        have e3' := boxedF (o := 0) hbl hz
        have e4' := boxedF (o := 1) hbl hz
        rw [x0] at e5
        rw [x1] at e6
        rw [y0] at e7
        rw [y1] at e8
        rw [e0] at e1'
        rw [e1] at e2'
        rw [z0] at e3'
        rw [z1] at e4'
        have hgz : w.heap.size + 1 < wx.heap.size := by omega
        have Hblw := Lib.hid hblw
        have K5 := Lib.hid k5
        have hrow' := rowF_setCell (o := 0) (u := .slice A' l'.length c') k5 (g := w.heap.size + 1) (fun j hj => by have := (row_block k5 j hj).1; omega)
        have Hrow := Lib.hid (rowF_setCell (o := 1) (u := .int .i64 n') hrow' (g := w.heap.size + 1) (fun j hj => by have := (row_block k5 j hj).1; omega))
        clear hF hbl hblw k5 hrow'
        simp only [putsA, putsL, List.set_cons_zero, List.set_cons_succ]
        go_wp2
        go_roundw
        case rel => exact ⟨j - 1, l', _, n', q, by go_num, by omega, by omega, by omega, by omega, by simpa using hgz, Below.setCell (Below.setCell Hblw.out (by simp) _) (by simp) _, Hrow.out, k6, k7, by go_simp, by go_simp, by go_simp, by go_simp, by go_simp, by go_simp, by go_simp, by go_simp⟩
        case measure => simp [intOf]; omega
    · have hz' : R < wr.heap.size := by omega
      have b5R : w.heap.size + 1 ≠ R := by omega
      obtain ⟨Av, cv, rfl⟩ := rowF_shape hrow
      have HR := Lib.hid hrow
      clear hrow
      go_wp2_with (go_at_call 64; refine (odd_any _ ?_ _ _ ?_ ?_ ?_ ?_).mono ?_; rotate_left; (focus ((repeat (first | assumption | refine Rd.ext ?_ | refine Rd.drew ?_ | refine Rd.drewN ?_ | refine Rd.set (by assumption) ?_ | refine Rd.lit (by assumption) (by simp) ?_ | refine Rd.alloc ?_ _ | omega)))); (focus omega); (focus omega); (focus omega); rintro e w' ⟨b, d, rfl, rfl⟩)
      · refine (pick_any _ ?_ _ _ ?_ ?_).mono ?_; rotate_left; (focus ((repeat (first | assumption | refine Rd.ext ?_ | refine Rd.drew ?_ | refine Rd.drewN ?_ | refine Rd.set (by assumption) ?_ | refine Rd.lit (by assumption) (by simp) ?_ | refine Rd.alloc ?_ _ | omega)))); (focus omega); rintro e w' ⟨c, dc, rfl, lc, hc, h2, rfl⟩; replace hc := hc (by omega); clear h2
        have hc3 : c = 0 ∨ c = 1 ∨ c = 2 := by omega
        rcases hc3 with rfl | rfl | rfl
        · go_wp2
          refine bodyPost_ret (v := .agg #[.slice Av ll.length cv, .int .i64 (wrap64 (nn + 1))]) ?_ rfl ?_
          · simp only [results, Try.results50]
            go_simp
          · exact DrewA.mk (q := q0 + 1 + 1) (by repeat (first | exact out1 hR Hbl.out | refine Below.ext ?_ (by first | omega | (simp; omega) | simp) | refine Below.setCell ?_ (by first | omega | (simp; omega) | simp) _ | refine Below.alloc ?_ (by first | omega | (simp; omega) | simp) _)) (by omega) (by omega) (by omega) htx (rowF_mono (by repeat (first | exact HR.out | refine rowF_setCell ?_ (fun j hj => by have := (row_block HR.out j hj).1; omega) | refine rowF_ext ?_ | refine rowF_alloc ?_ _)) (Nat.le_add_right _ 2))
        · go_wp2_with (at_builtin; refine wpList_appF fitN _ rfl (.tmp 56) (.tmp 60) rfl (w.heap.size + 2) _ ll rfl ?cO _ _ [(nn, 0, ByteArray.empty, 0)] rfl ?cS ?cL ?cB ?_)
          case cO => exact (by repeat (first | exact HR.out | refine rowF_setCell ?_ (fun j hj => by have := (row_block HR.out j hj).1; omega) | refine rowF_ext ?_ | refine rowF_alloc ?_ _))
          case cS => exact slG_one (by simp) (by intro j u hu; rcases j with _ | _ | _ | _ | j <;> simp [EN] at hu <;> subst hu <;> (first | (go_simp; done) | (go_simp; rfl)))
          case cL => simp; omega
          case cB => simp; omega
          intro v4 w4 r4 hb4
          have y0' : w4.cell? ⟨w.heap.size + 1, 0, none⟩ = some (.slice Av ll.length cv) := (hb4.cell (p := ⟨w.heap.size + 1, 0, none⟩) (by simp)).trans (by go_simp)
          have y1' : w4.cell? ⟨w.heap.size + 1, 1, none⟩ = some (.int .i64 nn) := (hb4.cell (p := ⟨w.heap.size + 1, 1, none⟩) (by simp)).trans (by go_simp)
          have x0' : w4.cell? ⟨w.heap.size, 0, none⟩ = some (.slice none 0 0) := (hb4.cell (p := ⟨w.heap.size, 0, none⟩) (by simp)).trans (by go_simp)
          have x1' : w4.cell? ⟨w.heap.size, 1, none⟩ = some (.int .i64 0) := (hb4.cell (p := ⟨w.heap.size, 1, none⟩) (by simp)).trans (by go_simp)
          have z0' : w4.frozen? ⟨w.heap.size + 1, 0, none⟩ = false := (hb4.frozen (p := ⟨w.heap.size + 1, 0, none⟩) (by simp)).trans (by go_simp)
          have e0' : w4.frozen? ⟨w.heap.size, 0, none⟩ = false := (hb4.frozen (p := ⟨w.heap.size, 0, none⟩) (by simp)).trans (by go_simp)
          have e1' : w4.frozen? ⟨w.heap.size, 1, none⟩ = false := (hb4.frozen (p := ⟨w.heap.size, 1, none⟩) (by simp)).trans (by go_simp)
          have t4 : Below (w.setCell ⟨R, 1, none⟩ (.int .i64 (q0 + 1 + 1))).heap.size (w.setCell ⟨R, 1, none⟩ (.int .i64 (q0 + 1 + 1))) w4 := Below.step hb4 (by rw [size_setCell]; omega) (by repeat (first | exact out1 hR Hbl.out | refine Below.ext ?_ (by first | omega | (simp; omega) | simp) | refine Below.setCell ?_ (by first | omega | (simp; omega) | simp) _ | refine Below.alloc ?_ (by first | omega | (simp; omega) | simp) _))
          have hz4 : w.heap.size + 1 < w4.heap.size := by have := hb4.size; simp at this; omega
          obtain ⟨A4, c4, rfl⟩ := rowF_shape r4
          have T4' := Lib.hid t4
          have R4 := Lib.hid r4
          have htx4 : Txt (ll ++ [(nn, 0, ByteArray.empty, 0)]) := txt_app htx (show ByteArray.empty.size ≤ maxLen from by decide)
          clear hb4 t4 r4
          go_wp2
          refine bodyPost_ret (v := .agg #[.slice A4 (ll ++ [(nn, 0, ByteArray.empty, 0)]).length c4, .int .i64 nn]) ?_ rfl ?_
          · simp only [results, Try.results50]
            go_simp
          · exact DrewA.mk (q := q0 + 1 + 1) (by repeat (first | exact T4'.out | refine Below.ext ?_ (by first | omega | (simp; omega) | simp) | refine Below.setCell ?_ (by first | omega | (simp; omega) | simp) _ | refine Below.alloc ?_ (by first | omega | (simp; omega) | simp) _)) (by omega) (by omega) (by simp; omega) htx4 (rowF_mono (by repeat (first | exact R4.out | refine rowF_setCell ?_ (fun j hj => by have := (row_block R4.out j hj).1; omega) | refine rowF_ext ?_ | refine rowF_alloc ?_ _)) (Nat.le_add_right _ 2))
        · (go_wp2_with fail); refine (pick_any _ ?_ _ _ ?_ ?_).mono ?_; rotate_left; (focus ((repeat (first | assumption | refine Rd.ext ?_ | refine Rd.drew ?_ | refine Rd.drewN ?_ | refine Rd.set (by assumption) ?_ | refine Rd.lit (by assumption) (by simp) ?_ | refine Rd.alloc ?_ _ | omega)))); (focus omega); rintro e w' ⟨x, dx, rfl, lx, hx, h2, rfl⟩; replace hx := hx (by omega); clear h2
          go_wp2
          refine bodyPost_ret (v := .agg #[.slice Av ll.length cv, .int .i64 (selN x [-1, 10001])]) ?_ rfl ?_
          · simp only [results, Try.results50]
            go_simp
          · exact DrewA.mk (q := q0 + 1 + 1 + 1) (by repeat (first | exact out1 hR Hbl.out | refine Below.ext ?_ (by first | omega | (simp; omega) | simp) | refine Below.setCell ?_ (by first | omega | (simp; omega) | simp) _ | refine Below.alloc ?_ (by first | omega | (simp; omega) | simp) _)) (by omega) (by omega) (by omega) htx (rowF_mono (by repeat (first | exact HR.out | refine rowF_setCell ?_ (fun j hj => by have := (row_block HR.out j hj).1; omega) | refine rowF_ext ?_ | refine rowF_alloc ?_ _)) (Nat.le_add_right _ 2))
      · refine bodyPost_ret (v := .agg #[.slice Av ll.length cv, .int .i64 nn]) ?_ rfl ?_
        · simp only [results, Try.results50]
          go_simp
        · exact DrewA.mk (q := q0 + 1) (by repeat (first | exact out1 hR Hbl.out | refine Below.ext ?_ (by first | omega | (simp; omega) | simp) | refine Below.setCell ?_ (by first | omega | (simp; omega) | simp) _ | refine Below.alloc ?_ (by first | omega | (simp; omega) | simp) _)) (by omega) (by omega) (by omega) htx (rowF_mono (by repeat (first | exact HR.out | refine rowF_setCell ?_ (fun j hj => by have := (row_block HR.out j hj).1; omega) | refine rowF_ext ?_ | refine rowF_alloc ?_ _)) (Nat.le_add_right _ 2))
end Go.Proofs.Ytlanbgpmmlnehaa
