/- Draws that end in a text: what the last region's operations make and keep. -/
import Derived.Test.YthcmecgmidopoaaMA
import Derived.Test.YthcmecgmidopoaaDrawC
import Derived.Laws.BytesArg
set_option linter.unusedSimpArgs false
set_option linter.unusedVariables false
set_option linter.unusedSectionVars false
namespace Go.Proofs.Ythcmecgmidopoaa
open Go.RowKit

/-- w' is w at all blocks from base on. -/
structure En (base : Nat) (w w' : World) : Prop where
  size : w.heap.size ≤ w'.heap.size
  cell : ∀ b o, base ≤ b → b < w.heap.size → w'.cell? ⟨b, o, none⟩ = w.cell? ⟨b, o, none⟩
theorem En.below {base : Nat} {w w' : World} (h : Below w.heap.size w w') : En base w w' := ⟨h.size, fun b o _ hl => h.cell (p := ⟨b, o, none⟩) hl⟩
theorem En.trans {base : Nat} {a b c : World} (h : En base a b) (k : En base b c) : En base a c := ⟨Nat.le_trans h.size k.size, fun x o h1 h2 => (k.cell x o h1 (Nat.lt_of_lt_of_le h2 h.size)).trans (h.cell x o h1 h2)⟩
theorem En.set {base g i : Nat} {w : World} {u : Value} (h : g < base) : En base w (w.setCell ⟨g, i, none⟩ u) := ⟨by simp, fun b o h1 _ => World.cell?_setCell_other _ _ _ _ (fun e => by cases e; omega)⟩
theorem En.alloc {base : Nat} {w : World} {o : Obj} : En base w (w.alloc o) := En.below (Below.alloc (Below.refl _ _) (Nat.le_refl _) _)
theorem En.pick {base R d : Nat} {w : World} {u : Value} {os : Array Obj} (h : R < base) : En base w (ext (w.setCell ⟨R, 1, none⟩ u) d os) := (En.set h).trans (En.below (below_ext _ _ _))
def zc (n : Nat) : Array Value := (List.replicate n (Value.int .u8 0)).toArray
def zt (n : Nat) : ByteArray := strOfNums (List.replicate n 0)
theorem zt_size (n : Nat) : (zt n).size = n := by unfold zt; rw [strOfNums_size, List.length_replicate]
def IsMk (n base : Nat) (u : Value) (w : World) : Prop := ∃ g, u = .slice (some ⟨g, 0, none⟩) n n ∧ base ≤ g ∧ g < w.heap.size ∧ ∀ i, i < n → w.cell? ⟨g, i, none⟩ = some (.int .u8 0)
def IsX4 (base : Nat) (u : Value) (w : World) : Prop := ∃ g, u = .slice (some ⟨g, 0, none⟩) 4 4 ∧ base ≤ g ∧ g < w.heap.size ∧ ∀ k, k < 4 → ∃ s : ByteArray, w.cell? ⟨g, k, none⟩ = some (.string s) ∧ s.size ≤ 41
def IsN6 (base : Nat) (u : Value) (w : World) : Prop := ∃ g, u = .slice (some ⟨g, 0, none⟩) 6 6 ∧ base ≤ g ∧ g < w.heap.size ∧ ∀ k, k < 6 → ∃ x : Int, w.cell? ⟨g, k, none⟩ = some (.int .i64 x) ∧ 0 ≤ x ∧ x < 4
def IsNq (base : Nat) (u : Value) (w : World) : Prop := ∃ g k, u = .pointer (some ⟨g, k, none⟩) ∧ base ≤ g ∧ g < w.heap.size ∧ ∃ x : Int, w.cell? ⟨g, k, none⟩ = some (.int .i64 x) ∧ 0 ≤ x ∧ x < 4
def IsSq (base : Nat) (u : Value) (w : World) : Prop := ∃ g k, u = .pointer (some ⟨g, k, none⟩) ∧ base ≤ g ∧ g < w.heap.size ∧ ∃ s : ByteArray, w.cell? ⟨g, k, none⟩ = some (.string s) ∧ s.size ≤ 41
section
variable {n base : Nat} {u : Value} {w w' : World}
theorem IsMk.ev (h : IsMk n base u w) (e : En base w w') : IsMk n base u w' := by
  obtain ⟨g, h1, h2, h3, h4⟩ := h
  exact ⟨g, h1, h2, Nat.lt_of_lt_of_le h3 e.size, fun i hi => by rw [e.cell g i h2 h3]; exact h4 i hi⟩
theorem IsX4.ev (h : IsX4 base u w) (e : En base w w') : IsX4 base u w' := by
  obtain ⟨g, h1, h2, h3, h4⟩ := h
  exact ⟨g, h1, h2, Nat.lt_of_lt_of_le h3 e.size, fun k hk => by rw [e.cell g k h2 h3]; exact h4 k hk⟩
theorem IsN6.ev (h : IsN6 base u w) (e : En base w w') : IsN6 base u w' := by
  obtain ⟨g, h1, h2, h3, h4⟩ := h
  exact ⟨g, h1, h2, Nat.lt_of_lt_of_le h3 e.size, fun k hk => by rw [e.cell g k h2 h3]; exact h4 k hk⟩
theorem IsNq.ev (h : IsNq base u w) (e : En base w w') : IsNq base u w' := by
  obtain ⟨g, k, h1, h2, h3, h4⟩ := h
  exact ⟨g, k, h1, h2, Nat.lt_of_lt_of_le h3 e.size, by rw [e.cell g k h2 h3]; exact h4⟩
theorem IsSq.ev (h : IsSq base u w) (e : En base w w') : IsSq base u w' := by
  obtain ⟨g, k, h1, h2, h3, h4⟩ := h
  exact ⟨g, k, h1, h2, Nat.lt_of_lt_of_le h3 e.size, by rw [e.cell g k h2 h3]; exact h4⟩
theorem IsMk.made {T : TypeId} (h : base ≤ w.heap.size) : IsMk n base (.slice (some ⟨w.heap.size, 0, none⟩) n n) (w.alloc (.cells (zc n) T)) := by
  refine ⟨_, rfl, h, by simp, fun i hi => ?_⟩
  rw [World.cell?_alloc_new]
  simp [zc, hi]
theorem IsX4.made {a b c s : ByteArray} {T : TypeId} (h : base ≤ w.heap.size) (ha : a.size ≤ 41) (hb : b.size ≤ 41) (hc : c.size ≤ 41) (hs : s.size ≤ 41) : IsX4 base (.slice (some ⟨w.heap.size, 0, none⟩) 4 4) (w.alloc (.cells #[.string a, .string b, .string c, .string s] T)) :=
  ⟨_, rfl, h, by simp, fun k hk => by
    have : k = 0 ∨ k = 1 ∨ k = 2 ∨ k = 3 := by omega
    rcases this with rfl | rfl | rfl | rfl
    · exact ⟨a, by go_simp, ha⟩
    · exact ⟨b, by go_simp, hb⟩
    · exact ⟨c, by go_simp, hc⟩
    · exact ⟨s, by go_simp, hs⟩⟩
theorem IsN6.made {T : TypeId} (h : base ≤ w.heap.size) : IsN6 base (.slice (some ⟨w.heap.size, 0, none⟩) 6 6) (w.alloc (.cells #[.int .i64 0, .int .i64 1, .int .i64 1, .int .i64 2, .int .i64 2, .int .i64 3] T)) :=
  ⟨_, rfl, h, by simp, fun k hk => by
    have : k = 0 ∨ k = 1 ∨ k = 2 ∨ k = 3 ∨ k = 4 ∨ k = 5 := by omega
    rcases this with rfl | rfl | rfl | rfl | rfl | rfl
    · exact ⟨0, by go_simp, by decide, by decide⟩
    · exact ⟨1, by go_simp, by decide, by decide⟩
    · exact ⟨1, by go_simp, by decide, by decide⟩
    · exact ⟨2, by go_simp, by decide, by decide⟩
    · exact ⟨2, by go_simp, by decide, by decide⟩
    · exact ⟨3, by go_simp, by decide, by decide⟩⟩
theorem IsNq.of {g : Nat} {v : Int} (h1 : base ≤ g) (h2 : g < w.heap.size) (h3 : ∀ k, k < 6 → ∃ x : Int, w.cell? ⟨g, k, none⟩ = some (.int .i64 x) ∧ 0 ≤ x ∧ x < 4) (v0 : 0 ≤ v) (v1 : v < 6) : IsNq base (.pointer (some ⟨g, v.toNat, none⟩)) w := ⟨g, v.toNat, rfl, h1, h2, h3 _ (by omega)⟩
theorem IsSq.of {g : Nat} {v : Int} (h1 : base ≤ g) (h2 : g < w.heap.size) (h3 : ∀ k, k < 4 → ∃ s : ByteArray, w.cell? ⟨g, k, none⟩ = some (.string s) ∧ s.size ≤ 41) (v0 : 0 ≤ v) (v1 : v < 4) : IsSq base (.pointer (some ⟨g, v.toNat, none⟩)) w := ⟨g, v.toNat, rfl, h1, h2, h3 _ (by omega)⟩
end
theorem rd_below {w w' : World} {R : Nat} {p : Int} (h : Rd w R p) (hb : Below w.heap.size w w') : Rd w' R p := by
  obtain ⟨d, os, rfl⟩ := ext_of_below hb
  exact Rd.ext h
/-- The world while the draw's last region runs: R the reader, C the box that is read, G the result's box. -/
structure WK (w0 : World) (R C G B : Nat) (q : Int) (v : Value) (cs : List Cn) (t : List Nd) (xs : List Value) (st : Bool) (w : World) : Prop where
  rd : st = false → Rd w R q
  tr : TreeC B w v cs t
  be : Below w0.heap.size w0 w
  cx : ∀ i u, xs[i]? = some u → w.cell? ⟨C, i, none⟩ = some u
  gx : ∀ i u, xs[i]? = some u → ∃ y, w.cell? ⟨G, i, none⟩ = some y ∧ (st = true → y = u)
  gf : ∀ i, w.frozen? ⟨G, i, none⟩ = false
  cl : C < w.heap.size
  gl : G < w.heap.size
section
variable {w0 w w' : World} {R C G B d : Nat} {q q' : Int} {v : Value} {cs : List Cn} {t : List Nd} {xs : List Value} {st : Bool} {os : Array Obj}
theorem WK.below (h : WK w0 R C G B q v cs t xs st w) (hb : Below w.heap.size w w') : WK w0 R C G B q v cs t xs st w' :=
  ⟨fun e => rd_below (h.rd e) hb, h.tr.below hb, Below.step hb h.be.size h.be, fun i u hu => (hb.cell (p := ⟨C, i, none⟩) h.cl).trans (h.cx i u hu),
   fun i u hu => by obtain ⟨y, h1, h2⟩ := h.gx i u hu; exact ⟨y, (hb.cell (p := ⟨G, i, none⟩) h.gl).trans h1, h2⟩, fun i => (hb.frozen (p := ⟨G, i, none⟩) h.gl).trans (h.gf i), Nat.lt_of_lt_of_le h.cl hb.size, Nat.lt_of_lt_of_le h.gl hb.size⟩
theorem WK.alloc {o : Obj} (h : WK w0 R C G B q v cs t xs st w) : WK w0 R C G B q v cs t xs st (w.alloc o) := h.below (Below.alloc (Below.refl _ _) (Nat.le_refl _) _)
theorem WK.pick (h : WK w0 R C G B q v cs t xs st w) (hq : 0 ≤ q') (hRB : R < B) (hR0 : w0.heap.size ≤ R) (hRC : R ≠ C) (hRG : R ≠ G) : WK w0 R C G B q' v cs t xs st (ext (w.setCell ⟨R, 1, none⟩ (.int .i64 q')) d os) := by
  refine WK.below ?_ (below_ext _ _ _)
  have ho : ∀ b i, R ≠ b → (w.setCell ⟨R, 1, none⟩ (.int .i64 q')).cell? ⟨b, i, none⟩ = w.cell? ⟨b, i, none⟩ := fun b i hb => World.cell?_setCell_other _ _ _ _ (fun e => hb (by cases e; rfl))
  exact ⟨fun e => Rd.set (h.rd e) hq, h.tr.rset hRB, Below.setCell h.be hR0 _, fun i u hu => (ho C i hRC).trans (h.cx i u hu), fun i u hu => by obtain ⟨y, h1, h2⟩ := h.gx i u hu; exact ⟨y, (ho G i hRG).trans h1, h2⟩, fun i => by rw [World.frozen?_setCell]; exact h.gf i, by simpa using h.cl, by simpa using h.gl⟩
end
theorem WK.store3 {w0 w : World} {R C G B : Nat} {q : Int} {v : Value} {cs : List Cn} {t : List Nd} {x0 x1 x2 : Value} {st : Bool} (h : WK w0 R C G B q v cs t [x0, x1, x2] st w) (hGB : G < B) (hG0 : w0.heap.size ≤ G) (hGC : G ≠ C) : WK w0 R C G B q v cs t [x0, x1, x2] true (((w.setCell ⟨G, 0, none⟩ x0).setCell ⟨G, 1, none⟩ x1).setCell ⟨G, 2, none⟩ x2) := by
  obtain ⟨y0, e0, _⟩ := h.gx 0 x0 rfl
  obtain ⟨y1, e1, _⟩ := h.gx 1 x1 rfl
  obtain ⟨y2, e2, _⟩ := h.gx 2 x2 rfl
  have ho : ∀ (u : World) (k j : Nat) (z : Value), (u.setCell ⟨G, k, none⟩ z).cell? ⟨C, j, none⟩ = u.cell? ⟨C, j, none⟩ := fun u k j z => World.cell?_setCell_other _ _ _ _ (fun e => hGC (by cases e; rfl))
  refine ⟨(fun e => by cases e), (TreeC.rset (TreeC.rset (TreeC.rset h.tr hGB) hGB) hGB), (Below.setCell (Below.setCell (Below.setCell h.be hG0 _) hG0 _) hG0 _), fun j z hz => ?_, fun j z hz => ?_, fun j => by simp only [World.frozen?_setCell]; exact h.gf j, by simpa using h.cl, by simpa using h.gl⟩
  · simp only [ho]; exact h.cx j z hz
  · rcases j with _ | _ | _ | j
    · cases hz; exact ⟨_, by go_simp, fun _ => rfl⟩
    · cases hz; exact ⟨_, by go_simp, fun _ => rfl⟩
    · cases hz; exact ⟨_, by go_simp, fun _ => rfl⟩
    · simp at hz
theorem WK.store4 {w0 w : World} {R C G B : Nat} {q : Int} {v : Value} {cs : List Cn} {t : List Nd} {x0 x1 x2 x3 : Value} {st : Bool} (h : WK w0 R C G B q v cs t [x0, x1, x2, x3] st w) (hGB : G < B) (hG0 : w0.heap.size ≤ G) (hGC : G ≠ C) : WK w0 R C G B q v cs t [x0, x1, x2, x3] true ((((w.setCell ⟨G, 0, none⟩ x0).setCell ⟨G, 1, none⟩ x1).setCell ⟨G, 2, none⟩ x2).setCell ⟨G, 3, none⟩ x3) := by
  obtain ⟨y0, e0, _⟩ := h.gx 0 x0 rfl
  obtain ⟨y1, e1, _⟩ := h.gx 1 x1 rfl
  obtain ⟨y2, e2, _⟩ := h.gx 2 x2 rfl
  obtain ⟨y3, e3, _⟩ := h.gx 3 x3 rfl
  have ho : ∀ (u : World) (k j : Nat) (z : Value), (u.setCell ⟨G, k, none⟩ z).cell? ⟨C, j, none⟩ = u.cell? ⟨C, j, none⟩ := fun u k j z => World.cell?_setCell_other _ _ _ _ (fun e => hGC (by cases e; rfl))
  refine ⟨(fun e => by cases e), (TreeC.rset (TreeC.rset (TreeC.rset (TreeC.rset h.tr hGB) hGB) hGB) hGB), (Below.setCell (Below.setCell (Below.setCell (Below.setCell h.be hG0 _) hG0 _) hG0 _) hG0 _), fun j z hz => ?_, fun j z hz => ?_, fun j => by simp only [World.frozen?_setCell]; exact h.gf j, by simpa using h.cl, by simpa using h.gl⟩
  · simp only [ho]; exact h.cx j z hz
  · rcases j with _ | _ | _ | _ | j
    · cases hz; exact ⟨_, by go_simp, fun _ => rfl⟩
    · cases hz; exact ⟨_, by go_simp, fun _ => rfl⟩
    · cases hz; exact ⟨_, by go_simp, fun _ => rfl⟩
    · cases hz; exact ⟨_, by go_simp, fun _ => rfl⟩
    · simp at hz
end Go.Proofs.Ythcmecgmidopoaa
