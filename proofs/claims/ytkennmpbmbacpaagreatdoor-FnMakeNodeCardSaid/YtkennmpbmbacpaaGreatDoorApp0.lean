/- Appends onto an empty row without room, and what a region of two chains of appends makes and keeps. -/
import Derived.Test.YtkennmpbmbacpaaGreatDoorDelC
import Derived.Test.YtkennmpbmbacpaaGreatDoorMG
import Derived.Test.YtkennmpbmbacpaaGreatDoorMA
import Derived.Laws.BytesArg
set_option linter.unusedSimpArgs false
set_option linter.unusedVariables false
set_option linter.unusedSectionVars false
namespace Go.Proofs.YtkennmpbmbacpaaGreatDoor
open Go.RowKit

section
variable {α : Type} {E : Lay α}
theorem run_app0 {P : Program} {t e : TypeId} (hf : Fit P E t e) (W : World) (ty : TypeId) {B g : Nat} (hown : OwnG E e B W (.slice (some ⟨g, 0, none⟩) 0 0) []) {u : Value} {m : List α} (h0 : SlG E W u m) (hl : m.length ≤ 1048600) (hB : B ≤ W.heap.size) :
    ∃ v' w', (Builtin.append_ #[t, t] ty #[.slice (some ⟨g, 0, none⟩) 0 0, u]).run P W = .ok v' w' ∧ OwnG E e B w' v' m ∧ Below W.heap.size W w' := by
  obtain ⟨v', w', hr, ha⟩ := run_appG hf W ty hown h0 (by simpa using hl) hB
  refine ⟨v', w', hr, by simpa using ha.1, ?_⟩
  obtain ⟨i0, z0, bytes, hi, hz0, hz1, hz2, hz3, hz4⟩ := hf.hi
  have hk := h0
  obtain ⟨A, cap, rfl, h1, h2, h3⟩ := h0
  by_cases hm : m = []
  · have hw : w' = W := by
      subst hm
      cases A with
      | none =>
        have : (Builtin.append_ #[t, t] ty #[.slice (some ⟨g, 0, none⟩) 0 0, .slice none ([] : List α).length cap]).run P W = .ok (.slice (some ⟨g, 0, none⟩) 0 0) W := by
          simp [Builtin.append_, run_underlying hf.ht, sizeOf, typeInfo, hi, Builtin.lenOf, Builtin.firstCells, storeCells]
        rw [this] at hr
        injection hr with _ e
        exact e.symm
      | some ad =>
        have := run_append_room_cells (P := P) (w := W) t ty e i0 hf.ht hi g 0 0 0 ad 0 cap [] (by simp) (fun j u hu => by simp at hu) (fun u hu => by cases hu) (by omega) (fun j hj => by simp at hj) (fun j hj => by simp at hj)
        rw [show ([] : List α).length = 0 from rfl, this] at hr
        injection hr with _ e
        rw [← e]; rfl
    rw [hw]; exact Below.refl _ _
  · rcases h3 with h3 | ⟨b, off, rfl, hb, hat⟩
    · exact absurd h3 hm
    · have hlen := List.length_pos_iff.2 hm
      obtain ⟨v2, w2, hr2, _, hg⟩ := run_append_arg_grows (P := P) (w := W) t ty e i0 z0 E.z bytes hf.ht hi hz0 hz1 hz2 hz3 E.pos ⟨g, 0, none⟩ 0 0 [] (by simp) (fun j u hu => by simp at hu) ⟨b, off, none⟩ m.length cap (m.flatMap E.put) (flat_len m)
        (fun j u hu => by
          obtain ⟨i, k, x, rfl, hk, hx, hu⟩ := flat_inv hu
          rw [Addr.add_lit, ← Nat.add_assoc]
          exact hat i x hx k u hu) (by omega) (by unfold maxLen; omega) (by have : (0 + m.length) * bytes ≤ 1048600 * 1000 := Nat.mul_le_mul (by omega) hz4; omega)
      rw [hr2] at hr
      injection hr with _ e
      rw [← e]
      exact (Below.refl _ _).grown hg (Nat.le_refl _) (by intro k hk; cases hk)
theorem step_app0 {P : Program} {t e : TypeId} {o : Oper} {a : Act} {ts : Array Value} {ops : Array Oper} {K : Act → World → Prop} {Q : Exit → Act → World → Prop} {E0 : Prop} (hf : Fit P E t e) (W : World) (hgd : o.guard = none) (s x : Operand) (ho : o.op = .call { callee := .builtin .append, args := #[s, x], argTypes := #[t, t] })
    (B g : Nat) (hs : a.eval s = .slice (some ⟨g, 0, none⟩) 0 0) (hown : OwnG E e B W (.slice (some ⟨g, 0, none⟩) 0 0) []) (u : Value) (m : List α) (hx : a.eval x = u) (h0 : SlG E W u m) (hl : m.length ≤ 1048600) (hB : B ≤ W.heap.size) {N : Nat} (hN : m.length = N)
    (h : ∀ A C w', OwnG E e B w' (.slice A N C) m → Below W.heap.size W w' → K (a.put o.dst (.slice A N C)) w') : if Region.wanted o (yielded ops ts) = true then Oper.wp P o a W K Q else E0 := by
  rw [if_pos (by simp [Region.wanted, hgd])]
  obtain ⟨v', w', hr, ho', hb⟩ := run_app0 hf W o.type hown h0 hl hB
  obtain ⟨A, C, rfl⟩ := ownG_shape ho'
  rw [hN] at hr ho'
  exact wp_run_app s x _ ho hs hx hr (h A C w' ho' hb)
/-- A literal slice of one element is a row of the call's own. -/
theorem ownG_lit {T : TypeId} {S : Nat} {w : World} {x : α} {u : Value} (hz : E.z = 1) (hp : E.put x = [u]) (hS : S ≤ w.heap.size) : OwnG E T S (w.alloc (.cells #[u] T)) (.slice (some ⟨w.heap.size, 0, none⟩) 1 1) [x] := by
  refine own1_of hz hS (heap_alloc_new w _) rfl (by simp) (by decide) rfl (fun j v hv => ?_)
  rw [cell_new]
  rcases j with _ | j
  · simp [hp] at hv; subst hv; rfl
  · simp [hp] at hv
end
/-- Rows of the region's own, as long as b is no. -/
def TilL (b : Bool) (S : Nat) (u : Value) (l : List (List UInt8)) (w : World) : Prop := b = false → OwnG EL 9 S w u l
def TilI (b : Bool) (S : Nat) (u : Value) (l : List Int) (w : World) : Prop := b = false → OwnG EI 3 S w u l
def Emp1 (b : Bool) (S : Nat) (u : Value) (w : World) : Prop := b = false → ∃ g, u = .slice (some ⟨g, 0, none⟩) 0 0 ∧ OwnG EL 9 S w u []
def Emp2 (b : Bool) (S : Nat) (u : Value) (w : World) : Prop := b = false → ∃ g, u = .slice (some ⟨g, 0, none⟩) 0 0 ∧ OwnG EI 3 S w u []
def OneB (b : Bool) (u : Value) (w : World) : Prop := b = false → ∃ (g : Nat) (x : Int), u = .slice (some ⟨g, 0, none⟩) 1 1 ∧ g < w.heap.size ∧ w.cell? ⟨g, 0, none⟩ = some (.int .u8 x)
def OneL (b : Bool) (S : Nat) (u : Value) (w : World) : Prop := b = false → ∃ (g : Nat) (s : List UInt8), u = .slice (some ⟨g, 0, none⟩) 1 1 ∧ s.length ≤ 10 ∧ OwnG EL 9 S w u [s]
def OneI (b : Bool) (S : Nat) (u : Value) (w : World) : Prop := b = false → ∃ (g : Nat) (z : Int), u = .slice (some ⟨g, 0, none⟩) 1 1 ∧ OwnG EI 3 S w u [z]
def GotL (S : Nat) (u : Value) (l : List (List UInt8)) (w : World) : Prop := ∃ A c s, u = .slice A (l.length + 1) c ∧ s.length ≤ 10 ∧ OwnG EL 9 S w u (l ++ [s])
def GotI (S : Nat) (u : Value) (l : List Int) (w : World) : Prop := ∃ A c z, u = .slice A (l.length + 1) c ∧ OwnG EI 3 S w u (l ++ [z])
section
variable {b : Bool} {S : Nat} {u : Value} {l : List (List UInt8)} {k : List Int} {w w' : World}
theorem TilL.ev (h : TilL b S u l w) (e : Below w.heap.size w w') : TilL b S u l w' := fun hb => ownG_below (h hb) e
theorem TilI.ev (h : TilI b S u k w) (e : Below w.heap.size w w') : TilI b S u k w' := fun hb => ownG_below (h hb) e
theorem Emp1.ev (h : Emp1 b S u w) (e : Below w.heap.size w w') : Emp1 b S u w' := fun hb => by
  obtain ⟨g, h1, h2⟩ := h hb
  exact ⟨g, h1, ownG_below h2 e⟩
theorem Emp2.ev (h : Emp2 b S u w) (e : Below w.heap.size w w') : Emp2 b S u w' := fun hb => by
  obtain ⟨g, h1, h2⟩ := h hb
  exact ⟨g, h1, ownG_below h2 e⟩
theorem OneB.ev (h : OneB b u w) (e : Below w.heap.size w w') : OneB b u w' := fun hb => by
  obtain ⟨g, x, h1, h2, h3⟩ := h hb
  exact ⟨g, x, h1, Nat.lt_of_lt_of_le h2 e.size, (e.cell (p := ⟨g, 0, none⟩) h2).trans h3⟩
theorem OneL.ev (h : OneL b S u w) (e : Below w.heap.size w w') : OneL b S u w' := fun hb => by
  obtain ⟨g, s, h1, h2, h3⟩ := h hb
  exact ⟨g, s, h1, h2, ownG_below h3 e⟩
theorem OneI.ev (h : OneI b S u w) (e : Below w.heap.size w w') : OneI b S u w' := fun hb => by
  obtain ⟨g, z, h1, h2⟩ := h hb
  exact ⟨g, z, h1, ownG_below h2 e⟩
theorem GotL.ev (h : GotL S u l w) (e : Below w.heap.size w w') : GotL S u l w' := by
  obtain ⟨A, c, s, h1, h2, h3⟩ := h
  exact ⟨A, c, s, h1, h2, ownG_below h3 e⟩
theorem GotI.ev (h : GotI S u k w) (e : Below w.heap.size w w') : GotI S u k w' := by
  obtain ⟨A, c, z, h1, h2⟩ := h
  exact ⟨A, c, z, h1, ownG_below h2 e⟩
variable {v : Value} {m : List (List UInt8)} {n : List Int}
theorem Emp2.kept (h : Emp2 b S u w) (hg : w.grownBy w' v.ownBlock) (hv : OwnG EL 9 S w v m) : Emp2 b S u w' := fun hb => by
  obtain ⟨g, h1, h2⟩ := h hb
  exact ⟨g, h1, ownG_kept h2 hg (ownG_type h2 hv (by decide))⟩
theorem TilI.kept (h : TilI b S u k w) (hg : w.grownBy w' v.ownBlock) (hv : OwnG EL 9 S w v m) : TilI b S u k w' := fun hb => ownG_kept (h hb) hg (ownG_type (h hb) hv (by decide))
theorem OneI.kept (h : OneI b S u w) (hg : w.grownBy w' v.ownBlock) (hv : OwnG EL 9 S w v m) : OneI b S u w' := fun hb => by
  obtain ⟨g, z, h1, h2⟩ := h hb
  exact ⟨g, z, h1, ownG_kept h2 hg (ownG_type h2 hv (by decide))⟩
theorem GotI.kept (h : GotI S u k w) (hg : w.grownBy w' v.ownBlock) (hv : OwnG EL 9 S w v m) : GotI S u k w' := by
  obtain ⟨A, c, z, h1, h2⟩ := h
  exact ⟨A, c, z, h1, ownG_kept h2 hg (ownG_type h2 hv (by decide))⟩
theorem GotL.kept (h : GotL S u l w) (hg : w.grownBy w' v.ownBlock) (hv : OwnG EI 3 S w v n) : GotL S u l w' := by
  obtain ⟨A, c, s, h1, h2, h3⟩ := h
  exact ⟨A, c, s, h1, h2, ownG_kept h3 hg (ownG_type h3 hv (by decide))⟩
end
end Go.Proofs.YtkennmpbmbacpaaGreatDoor
