/- Texts in one: The world behind a call that leaves old memory alone, WRITTEN OUT: 'ext W d os': W with the blocks 'os' behind it and another count of draws. Rules by which the walk looks through it. Contracts of the smallest functions: 'within', 'l1In', 'NameValid', 'alive'. Slices of structs of three ints, read as lists. Slices of whatever element, read as lists; rows of the call's own; what append does to them. Names: 'NameValid', for every string; 'alive'. Names: the reference's 'NameValid'; 'isUser'. The reader of drawn bytes: 'l20Open', 'pick', 'odd'. Regions that draw their order, by an invariant that is told which operations have come up: one goal an operation. Rows of the call's own that need not begin where their block begins; what append does to them. Ways: what is drawn. -/
import Derived.Test.YtkennmpbmbacpaaGreatDoorRows
import Derived.WalkKit
import Derived.WalkSpells
import Derived.WalkLawsBesides
import Derived.Deep.QuietTactic
import Derived.BigQuiet
import Derived.Lib.Hide
import Derived.Laws.AppendOwnNone
import Derived.Laws.OwnMore
import Derived.Maps.AppendAt
import Derived.Lib.AppendZeros
import Derived.Deep.RegionHeld3
import Derived.Deep.Draws
import Derived.Orders
import Derived.ArgAppend
import Derived.Laws.IdiomCopy
import Derived.Lib.LazyBuf
import Derived.Deep.MidRow
set_option linter.unusedSimpArgs false
set_option linter.unusedVariables false
set_option linter.unusedSectionVars false
namespace Go.Proofs.YtkennmpbmbacpaaGreatDoor
open Go.RowKit

/-- 'b < s', under a name that the walk hands to arithmetic ('ltA_eq': an equation between two places is decided by omega). -/
def LtA (b s : Nat) : Prop := b < s
@[go_sem] theorem ltA_eq (b s : Nat) : LtA b s = ((⟨b + 1 - s, 0, none⟩ : Addr) = ⟨0, 0, none⟩) := by
  unfold LtA
  simp only [Addr.mk.injEq, and_true, eq_iff_iff]
  omega

def ext (W : World) (d : Nat) (os : Array Obj) : World := { W with heap := W.heap ++ os, drawn := d }

section
variable {W w w' : World} {d d' : Nat} {os os' : Array Obj}
@[go_sem, simp] theorem ext_size : (ext W d os).heap.size = W.heap.size + os.size := by simp [ext]
theorem ext_get {b : Nat} (h : b < W.heap.size) : (ext W d os).heap[b]? = W.heap[b]? := by
  simp [ext, Array.getElem?_append, h]
@[go_sem] theorem ext_cell {b o : Nat} (h : LtA b W.heap.size) : (ext W d os).cell? ⟨b, o, none⟩ = W.cell? ⟨b, o, none⟩ :=
  World.cell?_of_block (ext_get h)
@[go_sem] theorem ext_frozen {b o : Nat} (h : LtA b W.heap.size) : (ext W d os).frozen? ⟨b, o, none⟩ = W.frozen? ⟨b, o, none⟩ :=
  World.frozen?_of_block (ext_get h)
@[go_sem] theorem ext_setCell {b o : Nat} {v : Value} (h : LtA b W.heap.size) : (ext W d os).setCell ⟨b, o, none⟩ v = ext (W.setCell ⟨b, o, none⟩ v) d os := by
  have h : b < W.heap.size := h
  unfold ext World.setCell
  simp only
  congr 1
  apply Array.ext_getElem?
  intro k
  simp only [Array.getElem?_append, Array.getElem?_modify, Array.size_modify]
  by_cases hk : k < W.heap.size
  · simp [hk]
  · have : b ≠ k := by omega
    simp [hk, this]
@[go_sem] theorem ext_drew : (ext W d os).drew = ext W (d + 1) os := rfl
@[go_sem] theorem ext_drewN {n : Nat} : (ext W d os).drewN n = ext W (d + n) os := by
  simp [ext, World.drewN]
@[go_sem] theorem ext_ext : ext (ext W d os) d' os' = ext W d' (os ++ os') := by simp [ext]
@[go_sem] theorem ext_alloc0 {X : Obj} : (ext W d #[]).alloc X = ext (W.alloc X) d #[] := by
  unfold ext World.alloc
  simp
@[go_sem] theorem ext_of_drew : ext W.drew d os = ext W d os := rfl
@[go_sem] theorem alloc_cell_lt {X : Obj} {b o : Nat} (h : LtA b W.heap.size) : (W.alloc X).cell? ⟨b, o, none⟩ = W.cell? ⟨b, o, none⟩ := World.cell?_alloc_past X b o h
@[go_sem] theorem alloc_frozen_lt {X : Obj} {b o : Nat} (h : LtA b W.heap.size) : (W.alloc X).frozen? ⟨b, o, none⟩ = W.frozen? ⟨b, o, none⟩ := World.frozen?_alloc_past X b o h
@[go_sem] theorem alloc_setCell_lt {X : Obj} {b o : Nat} {v : Value} (h : LtA b W.heap.size) : (W.alloc X).setCell ⟨b, o, none⟩ v = (W.setCell ⟨b, o, none⟩ v).alloc X := World.setCell_alloc_past X b o v h

theorem below_ext (W : World) (d : Nat) (os : Array Obj) : Below W.heap.size W (ext W d os) :=
  ⟨rfl, rfl, rfl, by simp, fun _ hk => ext_get hk⟩
theorem ext_of_below (h : Below w.heap.size w w') : ∃ d os, w' = ext w d os := by
  refine ⟨w'.drawn, w'.heap.extract w.heap.size w'.heap.size, ?_⟩
  obtain ⟨heap', tape', drawn', os', output'⟩ := w'
  have e1 : os' = w.os := h.os
  have e2 : tape' = w.tape := h.tape
  have e3 : output' = w.output := h.output
  have hs : w.heap.size ≤ heap'.size := h.size
  have hb : ∀ k, k < w.heap.size → heap'[k]? = w.heap[k]? := h.block
  subst e1 e2 e3
  have eh : heap' = w.heap ++ heap'.extract w.heap.size heap'.size := by
    apply Array.ext_getElem?
    intro k
    by_cases hk : k < w.heap.size
    · rw [Array.getElem?_append_left hk]; exact hb k hk
    · rw [Array.getElem?_append_right (by omega), Array.getElem?_extract]
      by_cases hk2 : k < heap'.size
      · rw [if_pos (by omega)]; congr 1; omega
      · rw [if_neg (by omega), Array.getElem?_eq_none (by omega)]
  simp only [ext]
  congr 1
/-- Behind 'ext': what lies below B is as it was. -/
theorem Below.ext {B : Nat} {a : World} (h : Below B a W) (hB : B ≤ W.heap.size) : Below B a (ext W d os) := h.trans ((below_ext W d os).mono hB)
end

theorem bcell {W w1 : World} (hb : Below W.heap.size W w1) : (∀ b o, b < W.heap.size → w1.cell? ⟨b, o, none⟩ = W.cell? ⟨b, o, none⟩) ∧ (∀ b o, b < W.heap.size → w1.frozen? ⟨b, o, none⟩ = W.frozen? ⟨b, o, none⟩) :=
  ⟨fun b o h => hb.cell (p := ⟨b, o, none⟩) h, fun b o h => hb.frozen (p := ⟨b, o, none⟩) h⟩
/-- One step more behind a contract that ends in 'Below'. -/
theorem Below.step {B B' : Nat} {a b c : World} (k : Below B' b c) (hB : B ≤ B') (h : Below B a b) : Below B a c := h.trans (k.mono hB)

/-- A row of tests, each decided only where those ahead of it say yes. -/
theorem and2 (a b : Bool) : a = false ∨ (a = true ∧ b = false) ∨ (a = true ∧ b = true) := by cases a <;> cases b <;> simp
theorem and3 (a b c : Bool) : a = false ∨ (a = true ∧ b = false) ∨ (a = true ∧ b = true ∧ c = false) ∨ (a = true ∧ b = true ∧ c = true) := by cases a <;> cases b <;> cases c <;> simp
theorem and4 (a b c d : Bool) : a = false ∨ (a = true ∧ b = false) ∨ (a = true ∧ b = true ∧ c = false) ∨ (a = true ∧ b = true ∧ c = true ∧ d = false) ∨ (a = true ∧ b = true ∧ c = true ∧ d = true) := by cases a <;> cases b <;> cases c <;> cases d <;> simp

end Go.Proofs.YtkennmpbmbacpaaGreatDoor

namespace Go.Proofs.YtkennmpbmbacpaaGreatDoor
open Go.RowKit

/-- n is in lo..hi. -/
def inB (n lo hi : Int) : Bool := decide (lo ≤ n) && decide (n ≤ hi)

theorem within_any (n lo hi : Int) (w : World) : Calls Tryz.prog 56 #[.int .i64 n, .int .i64 lo, .int .i64 hi] w fun e w' => e = .returned (.bool (inB n lo hi)) ∧ w = w' := by
  unfold inB
  by_cases h1 : lo ≤ n <;> by_cases h2 : n ≤ hi
  all_goals
    go_enter Tryz.func56, Tryz.ntmps56
    go_wp2
    go_ret
    exact ⟨by simp [*], rfl⟩
theorem l1In_any (n lo hi : Int) (w : World) : Calls Tryz.prog 70 #[.int .i64 n, .int .i64 lo, .int .i64 hi] w fun e w' => e = .returned (.bool (inB n lo hi)) ∧ w = w' := by
  unfold inB
  by_cases h1 : lo ≤ n <;> by_cases h2 : n ≤ hi
  all_goals
    go_enter Tryz.func70, Tryz.ntmps70
    go_wp2
    go_ret
    exact ⟨by simp [*], rfl⟩
end Go.Proofs.YtkennmpbmbacpaaGreatDoor

namespace Go.Proofs.YtkennmpbmbacpaaGreatDoor
open Go.RowKit

theorem ext_nil (w : World) : w = ext w w.drawn #[] := by simp [ext]
theorem quiet_same {P : Program} {f : FuncId} {args : Array Value} {w : World} {n : Nat} {v : Value}
    (h : Calls P f args (w.drewN n) fun e w' => e = .returned v ∧ w.drewN n = w') : Calls P f args (w.drewN n) fun e w'' => e = .returned v ∧ ∃ m, w'' = w.drewN m :=
  h.mono fun _ _ ⟨he, hm⟩ => ⟨he, n, hm.symm⟩

theorem below_drewN {B : Nat} {a w : World} (h : Below B a w) (n : Nat) : Below B a (w.drewN n) := h.trans ⟨rfl, rfl, rfl, Nat.le_refl _, fun _ _ => rfl⟩
/-- Element i of a list of threes. -/
def ti (l : List (Int × Int × Int)) (i : Nat) : Int × Int × Int := l.getD i (0, 0, 0)
/-- The cells of the threes from place 'off' of block b on. -/
def At3 (w : World) (b off : Nat) (l : List (Int × Int × Int)) : Prop :=
  ∀ i, i < l.length → w.cell? ⟨b, off + i * 3, none⟩ = some (.int .i64 (ti l i).1) ∧ w.cell? ⟨b, off + i * 3 + 1, none⟩ = some (.int .i64 (ti l i).2.1) ∧ w.cell? ⟨b, off + i * 3 + 2, none⟩ = some (.int .i64 (ti l i).2.2)
/-- The slice v reads as the list l. -/
def Sl3 (w : World) (v : Value) (l : List (Int × Int × Int)) : Prop :=
  ∃ A cap, v = .slice A l.length cap ∧ l.length ≤ cap ∧ cap ≤ maxLen ∧ (l = [] ∨ ∃ b off, A = some ⟨b, off, none⟩ ∧ b < w.heap.size ∧ At3 w b off l)
section
variable {w w' : World} {v : Value} {l : List (Int × Int × Int)} {b off : Nat}
theorem At3.below (h : At3 w b off l) (hb : b < w.heap.size) (h' : Below w.heap.size w w') : At3 w' b off l := fun i hi => by
  obtain ⟨h1, h2, h3⟩ := h i hi
  exact ⟨(h'.cell (p := ⟨b, _, none⟩) hb).trans h1, (h'.cell (p := ⟨b, _, none⟩) hb).trans h2, (h'.cell (p := ⟨b, _, none⟩) hb).trans h3⟩
theorem Sl3.below (h : Sl3 w v l) (h' : Below w.heap.size w w') : Sl3 w' v l := by
  obtain ⟨A, cap, h1, h2, h3, h4⟩ := h
  refine ⟨A, cap, h1, h2, h3, h4.imp id fun ⟨b, off, e, hb, hc⟩ => ⟨b, off, e, Nat.lt_of_lt_of_le hb h'.size, hc.below hb h'⟩⟩
end
end Go.Proofs.YtkennmpbmbacpaaGreatDoor

namespace Go.Proofs.YtkennmpbmbacpaaGreatDoor
open Go.RowKit

/-- How an element is laid out: z cells. -/
structure Lay (α : Type) where
  z : Nat
  pos : 0 < z
  put : α → List Value
  len : ∀ x, (put x).length = z
  one : ∀ x, ∀ u ∈ put x, u.oneCell' = true
section
variable {α : Type} {E : Lay α}
theorem flat_len (l : List α) : (l.flatMap E.put).length = l.length * E.z := by
  induction l with
  | nil => simp
  | cons a r ih => rw [List.flatMap_cons, List.length_append, ih, E.len, List.length_cons, Nat.add_mul, Nat.one_mul, Nat.add_comm]
theorem flat_at : ∀ (l : List α) (i j : Nat) (x : α), l[i]? = some x → j < E.z → (l.flatMap E.put)[i * E.z + j]? = (E.put x)[j]?
  | [], i, j, x, h, _ => by simp at h
  | a :: r, 0, j, x, h, hj => by
    simp at h; subst h
    rw [List.flatMap_cons, Nat.zero_mul, Nat.zero_add, List.getElem?_append_left (by rw [E.len]; exact hj)]
  | a :: r, i + 1, j, x, h, hj => by
    simp at h
    rw [List.flatMap_cons, List.getElem?_append_right (by rw [E.len, Nat.add_mul]; omega), E.len, show (i + 1) * E.z + j - E.z = i * E.z + j from by rw [Nat.add_mul]; omega]
    exact flat_at r i j x h hj
theorem flat_inv {l : List α} {k : Nat} {u : Value} (h : (l.flatMap E.put)[k]? = some u) : ∃ i j x, k = i * E.z + j ∧ j < E.z ∧ l[i]? = some x ∧ (E.put x)[j]? = some u := by
  have hk : k < l.length * E.z := by
    have := (List.getElem?_eq_some_iff.1 h).1
    rwa [flat_len] at this
  have hi : k / E.z < l.length := (Nat.div_lt_iff_lt_mul E.pos).2 hk
  have hj := Nat.mod_lt k E.pos
  have hd : k = k / E.z * E.z + k % E.z := by have := Nat.div_add_mod k E.z; rw [Nat.mul_comm] at this; exact this.symm
  refine ⟨k / E.z, k % E.z, l[k / E.z], hd, hj, List.getElem?_eq_getElem hi, ?_⟩
  rw [← flat_at l (k / E.z) (k % E.z) _ (List.getElem?_eq_getElem hi) hj, ← hd]; exact h
theorem flat_one (l : List α) : ∀ u ∈ l.flatMap E.put, u.oneCell' = true := fun u hu => by
  obtain ⟨x, _, hx⟩ := List.mem_flatMap.1 hu
  exact E.one x u hx
theorem flat_set : ∀ (l : List α) (i j : Nat) (x y : α) (u : Value), l[i]? = some x → j < E.z → E.put y = (E.put x).set j u → (l.flatMap E.put).set (i * E.z + j) u = (l.set i y).flatMap E.put
  | [], i, j, x, y, u, h, _, _ => by simp at h
  | a :: r, 0, j, x, y, u, h, hj, e => by
    simp at h; subst h
    rw [Nat.zero_mul, Nat.zero_add, List.set_cons_zero, List.flatMap_cons, List.flatMap_cons, e, List.set_append_left _ _ (by rw [E.len]; exact hj)]
  | a :: r, i + 1, j, x, y, u, h, hj, e => by
    simp at h
    rw [List.set_cons_succ, List.flatMap_cons, List.flatMap_cons, List.set_append_right _ _ (by rw [E.len, Nat.add_mul]; omega), E.len, show (i + 1) * E.z + j - E.z = i * E.z + j from by rw [Nat.add_mul]; omega, flat_set r i j x y u h hj e]
/-- The cells of the elements from place 'off' of block b on. -/
def AtG (E : Lay α) (w : World) (b off : Nat) (l : List α) : Prop := ∀ i x, l[i]? = some x → ∀ j u, (E.put x)[j]? = some u → w.cell? ⟨b, off + i * E.z + j, none⟩ = some u
/-- The slice v reads as the list l. -/
def SlG (E : Lay α) (w : World) (v : Value) (l : List α) : Prop :=
  ∃ A cap, v = .slice A l.length cap ∧ l.length ≤ cap ∧ cap ≤ maxLen ∧ (l = [] ∨ ∃ b off, A = some ⟨b, off, none⟩ ∧ b < w.heap.size ∧ AtG E w b off l)
/-- The call's own slice v reads as l. -/
def OwnG (E : Lay α) (T : TypeId) (B : Nat) (w : World) (v : Value) (l : List α) : Prop := w.ownsRow B T E.z v l.length (l.flatMap E.put)
variable {w w' : World} {v : Value} {l m : List α} {b off B B' T : Nat}
theorem AtG.below (h : AtG E w b off l) (hb : b < w.heap.size) (h' : Below w.heap.size w w') : AtG E w' b off l := fun i x hx j u hu => (h'.cell (p := ⟨b, _, none⟩) hb).trans (h i x hx j u hu)
theorem SlG.below (h : SlG E w v l) (h' : Below w.heap.size w w') : SlG E w' v l := by
  obtain ⟨A, cap, h1, h2, h3, h4⟩ := h
  exact ⟨A, cap, h1, h2, h3, h4.imp id fun ⟨b, off, e, hb, hc⟩ => ⟨b, off, e, Nat.lt_of_lt_of_le hb h'.size, hc.below hb h'⟩⟩
theorem SlG.shape (h : SlG E w v l) : ∃ A c, v = .slice A l.length c := by
  obtain ⟨A, c, e, _⟩ := h
  exact ⟨A, c, e⟩
theorem SlG.caps {A : Option Addr} {n c : Nat} (h : SlG E w (.slice A n c) l) : l.length ≤ c ∧ c ≤ 9223372036854775807 := by
  obtain ⟨A', c', e, h1, h2, _⟩ := h
  injection e with _ _ e3
  unfold maxLen at h2
  omega
theorem SlG.nil (w : World) : SlG E w (.slice none 0 0) [] := ⟨none, 0, rfl, Nat.le_refl _, by decide, .inl rfl⟩
theorem SlG.zero {A : Option Addr} {c : Nat} (hc : c ≤ maxLen) : SlG E w (.slice A 0 c) [] := ⟨A, c, rfl, Nat.zero_le _, hc, .inl rfl⟩
/-- Where element k lies, and its cells. -/
theorem SlG.at_ {A : Option Addr} {n c k : Nat} {x : α} (h : SlG E w (.slice A n c) l) (hk : l[k]? = some x) : ∃ b off, A = some ⟨b, off, none⟩ ∧ b < w.heap.size ∧ ∀ j u, (E.put x)[j]? = some u → w.cell? ⟨b, off + k * E.z + j, none⟩ = some u := by
  obtain ⟨A', c', e, _, _, h3⟩ := h
  injection e with e1 _ _
  subst e1
  rcases h3 with h3 | ⟨b, off, rfl, hb, hat⟩
  · subst h3; simp at hk
  · exact ⟨b, off, rfl, hb, hat k x hk⟩
theorem SlG.take {A : Option Addr} {n cap k : Nat} (h : SlG E w (.slice A n cap) l) (hk : k ≤ l.length) : SlG E w (.slice A k cap) (l.take k) := by
  obtain ⟨A', cap', e, h1, h2, h3⟩ := h
  injection e with e1 _ e3
  subst e1 e3
  have hl : (l.take k).length = k := by rw [List.length_take]; omega
  refine ⟨A, cap, by rw [hl], by omega, h2, ?_⟩
  rcases h3 with h3 | ⟨b, off, e, hb, hat⟩
  · exact .inl (by rw [h3]; simp)
  · refine .inr ⟨b, off, e, hb, fun i x hx => hat i x ?_⟩
    rw [List.getElem?_take] at hx
    split at hx
    · exact hx
    · cases hx
theorem SlG.drop {b off n cap k : Nat} (h : SlG E w (.slice (some ⟨b, off, none⟩) n cap) l) (hk : k ≤ l.length) : SlG E w (.slice (some ⟨b, off + k * E.z, none⟩) (l.length - k) (cap - k)) (l.drop k) := by
  obtain ⟨A', cap', e, h1, h2, h3⟩ := h
  injection e with e1 _ e3
  subst e1 e3
  have hl : (l.drop k).length = l.length - k := List.length_drop
  refine ⟨_, cap - k, by rw [hl], by omega, by omega, ?_⟩
  rcases h3 with h3 | ⟨b', off', e, hb, hat⟩
  · exact .inl (by rw [h3]; simp)
  · cases e
    refine .inr ⟨b, off + k * E.z, rfl, hb, fun i x hx j u hu => ?_⟩
    rw [List.getElem?_drop] at hx
    have := hat (k + i) x hx j u hu
    rw [Nat.add_mul, ← Nat.add_assoc] at this
    exact this
theorem ownG_ext {d : Nat} {os : Array Obj} (h : OwnG E T B w v l) : OwnG E T B (ext w d os) v l := by
  refine ⟨h.1, ?_⟩
  rcases h.2 with h' | ⟨g, cap, cur, h1, h2, h3, h4⟩
  · exact .inl h'
  · refine .inr ⟨g, cap, cur, h1, h2, ?_, h4⟩
    have hg : g < w.heap.size := by
      rcases Nat.lt_or_ge g w.heap.size with hlt | hge
      · exact hlt
      · rw [Array.getElem?_eq_none hge] at h3; cases h3
    rw [ext_get hg]; exact h3
theorem ownG_below (h : OwnG E T B w v l) (hb : Below w.heap.size w w') : OwnG E T B w' v l := by
  obtain ⟨d, os, rfl⟩ := ext_of_below hb
  exact ownG_ext h
theorem ownG_mono (h : OwnG E T B w v l) (hB : B' ≤ B) : OwnG E T B' w v l :=
  ⟨h.1, h.2.imp id fun ⟨g, c, cur, e1, e2, e3⟩ => ⟨g, c, cur, e1, Nat.le_trans hB e2, e3⟩⟩
theorem ownG_alloc (h : OwnG E T B w v l) (o : Obj) : OwnG E T B (w.alloc o) v l := World.ownsRow.alloc h o
theorem ownG_block (h : OwnG E T B w v l) : ∀ j, v.ownBlock = some j → B ≤ j ∧ j < w.heap.size := fun j hj => h.lt j hj
theorem ownG_re {R d d' : Nat} {u u' : Value} {os : Array Obj} (h : OwnG E T B (ext (w.setCell ⟨R, 1, none⟩ u) d os) v l) (hR : R < B) : OwnG E T B (ext (w.setCell ⟨R, 1, none⟩ u') d' os) v l := by
  refine ⟨h.1, h.2.imp id fun ⟨g, c, cur, e1, e2, e3, e4⟩ => ⟨g, c, cur, e1, e2, ?_, e4⟩⟩
  rw [← e3]
  simp only [ext, World.setCell, Array.getElem?_append, Array.size_modify, Array.getElem?_modify]
  rw [if_neg (show ¬ R = g from by omega), if_neg (show ¬ R = g from by omega)]
theorem ownG_re2 {R d d' : Nat} {u u' : Value} {os os' : Array Obj} (h : OwnG E T B (ext (w.setCell ⟨R, 1, none⟩ u) d os) v l) (hR : R < B) : OwnG E T B (ext (w.setCell ⟨R, 1, none⟩ u') d' (os ++ os')) v l := by
  rw [← ext_ext (d := d')]
  exact ownG_ext (ownG_re h hR)
theorem ownG_none (B : Nat) (w : World) : OwnG E T B w (.slice none 0 0) [] := World.ownsRow_nil w B T E.z
theorem ownG_empty {g : Nat} (W : World) (hg : g = W.heap.size) (hB : B ≤ W.heap.size) : OwnG E T B (W.alloc (.cells #[] T)) (.slice (some ⟨g, 0, none⟩) 0 0) [] := by
  subst hg
  exact World.ownsRow_made W #[] 0 hB (by decide) (by simp)
theorem ownG_shape (h : OwnG E T B w v l) : ∃ A c, v = .slice A l.length c := by
  rcases h.2 with ⟨rfl, e⟩ | ⟨g, c, cur, rfl, _⟩
  · exact ⟨none, 0, by rw [e]⟩
  · exact ⟨_, c, rfl⟩
theorem ownG_sl (h : OwnG E T B w v l) : SlG E w v l := by
  have h' := h
  rcases h.2 with ⟨rfl, h0⟩ | ⟨g, c, cur, rfl, _, hg, h1, h2, _⟩
  · have h0 : l.length = 0 := h0
    exact ⟨none, 0, by rw [h0], by omega, by decide, .inl (List.length_eq_zero_iff.1 h0)⟩
  · refine ⟨_, c, rfl, h1, h2, .inr ⟨g, 0, rfl, ?_, fun i x hx j u hu => ?_⟩⟩
    · rcases Nat.lt_or_ge g w.heap.size with h | h
      · exact h
      · rw [Array.getElem?_eq_none h] at hg; cases hg
    · have hi : i < l.length := (List.getElem?_eq_some_iff.1 hx).1
      have hj : j < E.z := by rw [← E.len x]; exact (List.getElem?_eq_some_iff.1 hu).1
      have hlt : i * E.z + j < l.length * E.z := by
        have : (i + 1) * E.z ≤ l.length * E.z := Nat.mul_le_mul_right _ hi
        rw [Nat.add_mul] at this; omega
      rw [Nat.zero_add, h'.cellAt _ hlt, flat_at l i j x hx hj, hu]
/-- What the program says of an element's type and of its slices' type. -/
structure Fit (P : Program) (E : Lay α) (t e : TypeId) : Prop where
  ht : P.underlying t = some (.slice e)
  hi : ∃ i z0 bytes, P.info? e = some i ∧ i.zero = some z0 ∧ i.size = E.z ∧ i.bytes = bytes ∧ z0.cells.size = E.z ∧ bytes ≤ 1000
/-- What an append leaves: the longer list, in the old row or in a new block. -/
def AppG (E : Lay α) (T : TypeId) (W : World) (B : Nat) (v : Value) (l : List α) (v' : Value) (w' : World) : Prop :=
  OwnG E T B w' v' l ∧ W.grownBy w' v.ownBlock ∧ (v'.ownBlock = v.ownBlock ∨ v'.ownBlock = some W.heap.size)
theorem run_appG {P : Program} {t e : TypeId} (hf : Fit P E t e) (W : World) (ty : TypeId) (hown : OwnG E e B W v l) {u : Value} (h0 : SlG E W u m) (hl : l.length + m.length ≤ 1048600) (hB : B ≤ W.heap.size) :
    ∃ v' w', (Builtin.append_ #[t, t] ty #[v, u]).run P W = .ok v' w' ∧ AppG E e W B v (l ++ m) v' w' := by
  obtain ⟨i0, z0, bytes, hi, hz0, hz1, hz2, hz3, hz4⟩ := hf.hi
  obtain ⟨A, cap, rfl, h1, h2, h3⟩ := h0
  cases A with
  | none =>
    have hm : m = [] := by
      rcases h3 with h3 | ⟨b, off, e, _⟩
      · exact h3
      · cases e
    subst hm
    refine ⟨v, W, ?_, by rw [List.append_nil]; exact hown, World.grownBy.refl _ _, .inl rfl⟩
    rcases hown.2 with ⟨rfl, _⟩ | ⟨g, c, cur, rfl, _, _, hnc, _⟩
    · simp [Builtin.append_, run_underlying hf.ht, sizeOf, typeInfo, hi, Builtin.lenOf, Builtin.firstCells]
    · simp [Builtin.append_, run_underlying hf.ht, sizeOf, typeInfo, hi, Builtin.lenOf, Builtin.firstCells, hnc, storeCells]
  | some ad =>
    obtain ⟨v', w', hr, ho, hg, _, hat⟩ := run_append_own_at (P := P) W B t ty e i0 z0 E.z bytes hf.ht hi hz0 hz1 hz2 hz3 E.pos v l.length _ hown ad m.length cap (m.flatMap E.put) (flat_len m)
      (by
        intro k y hk
        rcases h3 with h3 | ⟨b, off, e, hb, hat⟩
        · subst h3; simp at hk
        · cases e
          obtain ⟨i, j, x, rfl, hj, hx, hu⟩ := flat_inv hk
          rw [Addr.add_lit, ← Nat.add_assoc]
          exact hat i x hx j y hu)
      (flat_one m) (by unfold maxLen; omega) (by have : (l.length + m.length) * bytes ≤ 1048600 * 1000 := Nat.mul_le_mul hl hz4; omega) hB
    refine ⟨v', w', hr, ?_, hg, hat⟩
    unfold OwnG
    rw [List.length_append, List.flatMap_append]
    exact ho
theorem wp_run_app {P : Program} {o : Oper} {a : Act} {w : World} {K : Act → World → Prop} {Q : Exit → Act → World → Prop} (s x : Operand) (t : TypeId)
    (ho : o.op = .call { callee := .builtin .append, args := #[s, x], argTypes := #[t, t] }) {v u : Value} (hs : a.eval s = v) (hx : a.eval x = u) {v' : Value} {w' : World}
    (hr : (Builtin.append_ #[t, t] o.type #[v, u]).run P w = .ok v' w') (h : K (a.put o.dst v') w') : o.wp P a w K Q := by
  unfold Oper.wp execOp
  simp only [ho, resolve, invoke, builtin, Sem.run_bind, Sem.run_pure, Result.andThen_ok, List.map_toArray, List.map_cons, List.map_nil, hs, hx, hr]
  exact h
variable {P : Program} {t e : TypeId} {ops : Array Oper} {rest : List Oper} {o : Oper} {a : Act} {Q : Exit → Act → World → Prop} {K : Act → World → Prop} {E0 : Prop}
theorem wpList_appG (hf : Fit P E t e) (W : World) (hgd : o.guard = none) (s x : Operand) (ho : o.op = .call { callee := .builtin .append, args := #[s, x], argTypes := #[t, t] })
    (B : Nat) (v : Value) (l : List α) (hs : a.eval s = v) (hown : OwnG E e B W v l) (u : Value) (m : List α) (hx : a.eval x = u) (h0 : SlG E W u m) (hl : l.length + m.length ≤ 1048600) (hB : B ≤ W.heap.size)
    (h : ∀ v' w', AppG E e W B v (l ++ m) v' w' → Below B W w' → wpList P ops Q rest (a.put o.dst v') w') : wpList P ops Q (o :: rest) a W := by
  obtain ⟨v', w', hr, ha⟩ := run_appG hf W o.type hown h0 hl hB
  exact wpList_plain hgd fun _ hK => wp_run_app s x t ho hs hx hr (hK _ _ (h v' w' ha (Below.grown (Below.refl _ _) ha.2.1 hB (fun j hj => (hown.lt j hj).1))))
theorem step_appG (hf : Fit P E t e) (W : World) (hgd : o.guard = none) (s x : Operand) (ho : o.op = .call { callee := .builtin .append, args := #[s, x], argTypes := #[t, t] })
    (B : Nat) (v : Value) (l : List α) (hs : a.eval s = v) (hown : OwnG E e B W v l) (u : Value) (m : List α) (hx : a.eval x = u) (h0 : SlG E W u m) (hl : l.length + m.length ≤ 1048600) (hB : B ≤ W.heap.size)
    (h : ∀ v' w', AppG E e W B v (l ++ m) v' w' → Below B W w' → K (a.put o.dst v') w') : if Region.wanted o (yielded ops a.tmps) = true then Oper.wp P o a W K Q else E0 := by
  rw [if_pos (by simp [Region.wanted, hgd])]
  obtain ⟨v', w', hr, ha⟩ := run_appG hf W o.type hown h0 hl hB
  exact wp_run_app s x _ ho hs hx hr (h v' w' ha (Below.grown (Below.refl _ _) ha.2.1 hB (fun j hj => (hown.lt j hj).1)))
/-- A literal slice of one element. -/
theorem slG_one {W : World} {g : Nat} {x : α} (hg : g < W.heap.size) (h : ∀ j u, (E.put x)[j]? = some u → W.cell? ⟨g, j, none⟩ = some u) : SlG E W (.slice (some ⟨g, 0, none⟩) 1 1) [x] :=
  ⟨_, 1, rfl, Nat.le_refl _, by decide, .inr ⟨g, 0, rfl, hg, fun i y hy j u hu => by
    have hi : i = 0 := by
      have := (List.getElem?_eq_some_iff.1 hy).1
      simp at this; omega
    subst hi
    simp at hy; subst hy
    simpa using h j u hu⟩⟩
/-- A store into an element of a row of the call's own. -/
theorem ownG_store {A : Option Addr} {n c i j : Nat} {x y : α} {u : Value} (h : OwnG E T B w (.slice A n c) l) (hx : l[i]? = some x) (hj : j < E.z) (hy : E.put y = (E.put x).set j u) : ∃ g, A = some ⟨g, 0, none⟩ ∧ B ≤ g ∧ g < w.heap.size ∧ n = l.length ∧ OwnG E T B (w.setCell ⟨g, i * E.z + j, none⟩ u) (.slice A n c) (l.set i y) := by
  have hi : i < l.length := (List.getElem?_eq_some_iff.1 hx).1
  obtain ⟨A', c', e⟩ := ownG_shape h
  injection e with e1 e2 e3
  subst e2 e3
  rcases h.2 with ⟨e, h0⟩ | ⟨g, c2, cur, e, hB, hg, _⟩
  · have h0 : l.length = 0 := h0
    omega
  · injection e with k1 _ _
    subst k1
    have hlt : g < w.heap.size := by
      rcases Nat.lt_or_ge g w.heap.size with h | h
      · exact h
      · rw [Array.getElem?_eq_none h] at hg; cases hg
    refine ⟨g, rfl, hB, hlt, rfl, ?_⟩
    have h1 := (World.ownsRow.stored h (i * E.z + j) u).1
    rw [flat_set l i j x y u hx hj hy] at h1
    unfold OwnG
    rw [List.length_set]
    exact h1
end
end Go.Proofs.YtkennmpbmbacpaaGreatDoor

namespace Go.Proofs.YtkennmpbmbacpaaGreatDoor
open Go.RowKit

/-- The sign c may stand at place i of a name. -/
def chOk (i : Nat) (c : UInt8) : Bool := (decide (97 ≤ (c.toNat : Int)) && decide ((c.toNat : Int) ≤ 122)) || (decide (0 < i) && (decide (48 ≤ (c.toNat : Int)) && decide ((c.toNat : Int) ≤ 57)))
/-- The bytes are a name. -/
def nameB (l : List UInt8) : Bool := (List.range l.length).all (fun i => chOk i (l.getD i 0)) && inB l.length 1 8

theorem nameB_bad {l : List UInt8} {k : Nat} (hk : k < l.length) (h : chOk k (l.getD k 0) = false) : nameB l = false := by
  unfold nameB
  have : (List.range l.length).all (fun i => chOk i (l.getD i 0)) = false := by
    rw [List.all_eq_false]
    exact ⟨k, List.mem_range.2 hk, by rw [h]; exact Bool.false_ne_true⟩
  rw [this, Bool.false_and]
theorem nameB_good {l : List UInt8} (h : ∀ k, k < l.length → chOk k (l.getD k 0) = true) : nameB l = inB l.length 1 8 := by
  unfold nameB
  have : (List.range l.length).all (fun i => chOk i (l.getD i 0)) = true := by
    rw [List.all_eq_true]
    intro k hk
    exact h k (List.mem_range.1 hk)
  rw [this, Bool.true_and]

set_option maxHeartbeats 1000000 in
theorem nameValid_any (s : ByteArray) (w : World) (hs : s.size ≤ maxLen) : Calls Tryz.prog 51 #[.string s] w fun e w' => e = .returned (.bool (nameB s.data.toList)) ∧ w = w' := by
  unfold maxLen at hs
  go_enter Tryz.func51, Tryz.ntmps51
  go_wp2
  go_loop [6] (fun i => ∃ k : Nat, k ≤ s.size ∧ i = .int .i64 k ∧ ∀ j, j < k → chOk j (s.data.toList.getD j 0) = true) (fun i => s.size - (intOf i).toNat)
  case atStart => exact ⟨0, Nat.zero_le _, rfl, fun j hj => absurd hj (by omega)⟩
  case round =>
    obtain ⟨k, hk, rfl, hall⟩ := hrel
    have Hall := Lib.hid hall; clear hall
    by_cases hlt : k < s.size
    · have hg : s.data.toList.getD k 0 = s[k] := by
        rw [List.getD_eq_getElem?_getD, List.getElem?_eq_getElem (by simpa using hlt)]; rfl
      have Hg := Lib.hid hg; clear hg
      have hgo : chOk k s[k] = true → ∀ j, j < k + 1 → chOk j (s.data.toList.getD j 0) = true := fun h j hj => by
        by_cases e : j = k
        · subst e; rw [Hg.out]; exact h
        · exact Hall.out j (by omega)
      have Hgo := Lib.hid hgo; clear hgo
      have hno : chOk k s[k] = false → nameB s.data.toList = false := fun h => nameB_bad (k := k) (by simpa using hlt) (by rw [Hg.out]; exact h)
      have Hno := Lib.hid hno; clear hno
      rcases and2 (decide (97 ≤ (s[k].toNat : Int))) (decide ((s[k].toNat : Int) ≤ 122)) with c1 | ⟨c1, c2⟩ | ⟨c1, c2⟩
      case inr.inr =>
        go_wp2
        go_round
        case rel => exact ⟨k + 1, by omega, by go_num, Hgo.out (by unfold chOk; rw [c1, c2]; rfl)⟩
        case measure => simp [intOf]; omega
      all_goals
        rcases and3 (decide (0 < k)) (decide (48 ≤ (s[k].toNat : Int))) (decide ((s[k].toNat : Int) ≤ 57)) with c3 | ⟨c3, c4⟩ | ⟨c3, c4, c5⟩ | ⟨c3, c4, c5⟩
        case inr.inr.inr =>
          have c3' : decide ((0 : Int) < (k : Int)) = true := by simp at c3 ⊢; omega
          go_wp2
          go_round
          case rel => exact ⟨k + 1, by omega, by go_num, Hgo.out (by unfold chOk; simp only [c1, c3, c4, c5, Bool.and_true, Bool.and_self, Bool.or_true])⟩
          case measure => simp [intOf]; omega
        all_goals
          have c3' : decide ((0 : Int) < (k : Int)) = decide (0 < k) := by simp
          rw [c3] at c3'
          go_wp2
          go_ret
          exact ⟨by rw [Hno.out (by unfold chOk; simp [*])]; rfl, rfl⟩
    · have hk' : k = s.size := by omega
      subst hk'
      have hgood := nameB_good (l := s.data.toList) (fun j hj => Hall.out j (by simpa using hj))
      have Hgood := Lib.hid hgood; clear hgood
      go_wp2_with (go_at_call 56; refine (within_any _ _ _ _).mono ?_; rintro e w' ⟨rfl, rfl⟩)
      go_ret
      exact ⟨by rw [Hgood.out]; simp, rfl⟩

theorem alive_any (w : World) : Calls Tryz.prog 15 #[] w fun e w' => e = .returned (.bool true) ∧ w = w' := by
  have h1 : nameB [97, 49] = true := by decide
  have h2 : nameB [49, 97] = false := by decide
  go_enter Tryz.func15, Tryz.ntmps15
  go_wp2_with (go_at_call 51; refine (nameValid_any _ _ (by decide)).mono ?_; rintro e w' ⟨rfl, rfl⟩; (try simp only [h1, h2]))
  go_ret
  exact ⟨rfl, rfl⟩
end Go.Proofs.YtkennmpbmbacpaaGreatDoor

namespace Go.Proofs.YtkennmpbmbacpaaGreatDoor
open Go.RowKit

theorem isUser_any (n : Int) (w : World) : Calls Tryz.prog 96 #[.int .i64 n] w fun e w' => e = .returned (.bool (inB n 0 99)) ∧ w = w' := by
  go_enter Tryz.func96, Tryz.ntmps96
  go_wp2_with (go_at_call 56; refine (within_any _ _ _ _).mono ?_; rintro e w' ⟨rfl, rfl⟩)
  go_ret
  exact ⟨rfl, rfl⟩

set_option maxHeartbeats 1000000 in
theorem nameValidS_any (s : ByteArray) (w : World) (hs : s.size ≤ maxLen) : Calls Tryz.prog 106 #[.string s] w fun e w' => e = .returned (.bool (nameB s.data.toList)) ∧ w = w' := by
  unfold maxLen at hs
  go_enter Tryz.func106, Tryz.ntmps106
  go_wp2
  go_loop [3, 4] (fun i _ => ∃ k : Nat, k ≤ s.size ∧ i = .int .i64 k ∧ ∀ j, j < k → chOk j (s.data.toList.getD j 0) = true) (fun i _ => s.size - (intOf i).toNat)
  case atStart => exact ⟨0, Nat.zero_le _, rfl, fun j hj => absurd hj (by omega)⟩
  case round =>
    obtain ⟨k, hk, rfl, hall⟩ := hrel
    have Hall := Lib.hid hall; clear hall
    by_cases hlt : k < s.size
    · have hg : s.data.toList.getD k 0 = s[k] := by
        rw [List.getD_eq_getElem?_getD, List.getElem?_eq_getElem (by simpa using hlt)]; rfl
      have Hg := Lib.hid hg; clear hg
      have hgo : chOk k s[k] = true → ∀ j, j < k + 1 → chOk j (s.data.toList.getD j 0) = true := fun h j hj => by
        by_cases e : j = k
        · subst e; rw [Hg.out]; exact h
        · exact Hall.out j (by omega)
      have Hgo := Lib.hid hgo; clear hgo
      have hno : chOk k s[k] = false → nameB s.data.toList = false := fun h => nameB_bad (k := k) (by simpa using hlt) (by rw [Hg.out]; exact h)
      have Hno := Lib.hid hno; clear hno
      rcases and2 (decide (97 ≤ (s[k].toNat : Int))) (decide ((s[k].toNat : Int) ≤ 122)) with c1 | ⟨c1, c2⟩ | ⟨c1, c2⟩
      case inr.inr =>
        go_wp2
        go_round
        case rel => exact ⟨k + 1, by omega, by go_num, Hgo.out (by unfold chOk; rw [c1, c2]; rfl)⟩
        case measure => simp [intOf]; omega
      all_goals
        rcases and3 (decide (0 < k)) (decide (48 ≤ (s[k].toNat : Int))) (decide ((s[k].toNat : Int) ≤ 57)) with c3 | ⟨c3, c4⟩ | ⟨c3, c4, c5⟩ | ⟨c3, c4, c5⟩
        case inr.inr.inr =>
          have c3' : ((k : Int) == 0) = false := by simp at c3 ⊢; omega
          have c4' : decide ((s[k].toNat : Int) < 48) = false := by simp at c4 ⊢; omega
          have c5' : decide ((57 : Int) < (s[k].toNat : Int)) = false := by simp at c5 ⊢; omega
          go_wp2
          go_round
          case rel => exact ⟨k + 1, by omega, by go_num, Hgo.out (by unfold chOk; simp only [c1, c3, c4, c5, Bool.and_true, Bool.and_self, Bool.or_true])⟩
          case measure => simp [intOf]; omega
        case inl =>
          have c3' : ((k : Int) == 0) = true := by simp at c3 ⊢; omega
          go_wp2
          go_ret
          exact ⟨by rw [Hno.out (by unfold chOk; simp [*])]; rfl, rfl⟩
        case inr.inl =>
          have c3' : ((k : Int) == 0) = false := by simp at c3 ⊢; omega
          have c4' : decide ((s[k].toNat : Int) < 48) = true := by simp at c4 ⊢; omega
          go_wp2
          go_ret
          exact ⟨by rw [Hno.out (by unfold chOk; simp [*])]; rfl, rfl⟩
        case inr.inr.inl =>
          have c3' : ((k : Int) == 0) = false := by simp at c3 ⊢; omega
          have c4' : decide ((s[k].toNat : Int) < 48) = false := by simp at c4 ⊢; omega
          have c5' : decide ((57 : Int) < (s[k].toNat : Int)) = true := by simp at c5 ⊢; omega
          go_wp2
          go_ret
          exact ⟨by rw [Hno.out (by unfold chOk; simp [*])]; rfl, rfl⟩
    · have hk' : k = s.size := by omega
      subst hk'
      have hgood := nameB_good (l := s.data.toList) (fun j hj => Hall.out j (by simpa using hj))
      have Hgood := Lib.hid hgood; clear hgood
      go_wp2_with (go_at_call 70; refine (l1In_any _ _ _ _).mono ?_; rintro e w' ⟨rfl, rfl⟩)
      go_ret
      exact ⟨by rw [Hgood.out]; simp, rfl⟩
end Go.Proofs.YtkennmpbmbacpaaGreatDoor

namespace Go.Proofs.YtkennmpbmbacpaaGreatDoor
open Go.RowKit

@[go_sem] theorem setCell_twice {w : World} {b o : Nat} {u v : Value} : (w.setCell ⟨b, o, none⟩ u).setCell ⟨b, o, none⟩ v = w.setCell ⟨b, o, none⟩ v := by
  unfold World.setCell
  simp only
  congr 1
  apply Array.ext_getElem?
  intro k
  simp only [Array.getElem?_modify]
  by_cases hk : b = k
  · cases hh : w.heap[k]? with
    | none => simp [hk, hh]
    | some x => cases x <;> simp [hk, hh]
  · simp [hk]

/-- The bytes of a slice that came in: nil, or a row in a block that is not R. -/
def Bytes (w : World) (R : Nat) (A : Option Addr) (len cap : Nat) (zs : Nat → Int) : Prop :=
  len ≤ cap ∧ cap ≤ maxLen ∧ (∀ i, 0 ≤ zs i ∧ zs i < 256) ∧ (len = 0 ∨ ∃ b off, A = some ⟨b, off, none⟩ ∧ b ≠ R ∧ b < w.heap.size ∧ ∀ i, i < len → w.cell? ⟨b, off + i, none⟩ = some (.int .u8 (zs i)))

/-- A reader lies at block R, its place is p. -/
def Rd (w : World) (R : Nat) (p : Int) : Prop :=
  ∃ A len cap zs, Bytes w R A len cap zs ∧ w.cell? ⟨R, 0, none⟩ = some (.slice A len cap) ∧ w.cell? ⟨R, 1, none⟩ = some (.int .i64 p) ∧ w.frozen? ⟨R, 1, none⟩ = false ∧ R < w.heap.size ∧ 0 ≤ p

section
variable {w : World} {R : Nat} {p q : Int}
theorem Rd.lt (h : Rd w R p) : R < w.heap.size := by obtain ⟨A, len, cap, zs, _, _, _, _, h, _⟩ := h; exact h
theorem Rd.ext {d : Nat} {os : Array Obj} (h : Rd w R p) : Rd (ext w d os) R p := by
  obtain ⟨A, len, cap, zs, ⟨h1, h2, h3, h4⟩, h5, h6, h7, h8, h9⟩ := h
  refine ⟨A, len, cap, zs, ⟨h1, h2, h3, ?_⟩, by rw [ext_cell h8]; exact h5, by rw [ext_cell h8]; exact h6, by rw [ext_frozen h8]; exact h7, by simp; omega, h9⟩
  rcases h4 with h4 | ⟨b, off, e, hb, hs, hc⟩
  · exact .inl h4
  · exact .inr ⟨b, off, e, hb, by simp; omega, fun i hi => by rw [ext_cell hs]; exact hc i hi⟩
theorem Rd.pos (h : Rd w R p) : 0 ≤ p := by obtain ⟨A, len, cap, zs, _, _, _, _, _, h⟩ := h; exact h
theorem Rd.drew (h : Rd w R p) : Rd w.drew R p := h
theorem Rd.drewN {n : Nat} (h : Rd w R p) : Rd (w.drewN n) R p := h
theorem Rd.alloc (h : Rd w R p) (X : Obj) : Rd (w.alloc X) R p := by
  obtain ⟨A, len, cap, zs, ⟨h1, h2, h3, h4⟩, h5, h6, h7, h8, h9⟩ := h
  refine ⟨A, len, cap, zs, ⟨h1, h2, h3, ?_⟩, by rw [alloc_cell_lt h8]; exact h5, by rw [alloc_cell_lt h8]; exact h6, by rw [alloc_frozen_lt h8]; exact h7, by simp; omega, h9⟩
  rcases h4 with h4 | ⟨b, off, e, hb, hs, hc⟩
  · exact .inl h4
  · exact .inr ⟨b, off, e, hb, by simp; omega, fun i hi => by rw [alloc_cell_lt hs]; exact hc i hi⟩
theorem Rd.set (h : Rd w R p) (hq : 0 ≤ q) : Rd (w.setCell ⟨R, 1, none⟩ (.int .i64 q)) R q := by
  obtain ⟨A, len, cap, zs, ⟨h1, h2, h3, h4⟩, h5, h6, h7, h8, h9⟩ := h
  refine ⟨A, len, cap, zs, ⟨h1, h2, h3, ?_⟩, ?_, World.cell?_setCell_same _ _ _ h6, ?_, by simp [World.setCell]; exact h8, hq⟩
  · rcases h4 with h4 | ⟨b, off, e, hb, hs, hc⟩
    · exact .inl h4
    · exact .inr ⟨b, off, e, hb, by simp [World.setCell]; exact hs, fun i hi => by rw [World.cell?_setCell_other _ _ _ _ (by simp; try (intro e; omega))]; exact hc i hi⟩
  · rw [World.cell?_setCell_other _ _ _ _ (by simp)]; exact h5
  · rw [World.frozen?_setCell]; exact h7
end

theorem xor_small (a b : Int) (h1 : 0 ≤ a) (h2 : a < 1099511627776) (h3 : 0 ≤ b) (h4 : b < 1099511627776) : 0 ≤ bits .xor .i64 a b := by
  obtain ⟨a, rfl⟩ := Int.eq_ofNat_of_zero_le h1
  obtain ⟨b, rfl⟩ := Int.eq_ofNat_of_zero_le h3
  have hx : a ^^^ b < 2 ^ 40 := Nat.xor_lt_two_pow (by omega) (by omega)
  have e : ∀ n : Nat, n < 18446744073709551616 → (BitVec.ofInt 64 (n : Int)).toNat = n := fun n hn => by
    rw [BitVec.ofInt_natCast, BitVec.toNat_ofNat]; exact Nat.mod_eq_of_lt (by omega)
  show 0 ≤ IntKind.i64.wrap ((BitVec.ofInt 64 (a : Int) ^^^ BitVec.ofInt 64 (b : Int)).toNat : Int)
  rw [BitVec.toNat_xor, e a (by omega), e b (by omega), IntKind.wrap_i64]
  omega

/-- What 'pick' leaves: a number in 0..n-1, and the place one further. -/
def Picks (w : World) (R : Nat) (p n : Int) (e : Ending) (w' : World) : Prop :=
  ∃ (v : Int) (d : Nat), e = .returned (.int .i64 v) ∧ 0 ≤ v ∧ (1 ≤ n → v < n) ∧ (n < 1 → v = 0) ∧ w' = ext (w.setCell ⟨R, 1, none⟩ (.int .i64 (p + 1))) d #[]
theorem ext_nil_drewN (w : World) (n : Nat) : w.drewN n = ext w (w.drawn + n) #[] := by simp [ext, World.drewN]

set_option maxHeartbeats 1000000 in
theorem pick_any (R : Nat) (p n : Int) (w : World) (hr : Rd w R p) (hp : p ≤ 2000000000) : Calls Tryz.prog 62 #[.pointer (some ⟨R, 0, none⟩), .int .i64 n] w (Picks w R p n) := by
  obtain ⟨A, len, cap, zs, ⟨h1, h2, h3, h4⟩, h5, h6, h7, h8, h9⟩ := hr
  unfold maxLen at h2
  obtain ⟨P, rfl⟩ := Int.eq_ofNat_of_zero_le h9
  by_cases hn : n < 1
  · go_enter Tryz.func62, Tryz.ntmps62
    go_wp2
    go_ret
    exact ⟨0, _, rfl, by omega, by omega, by omega, ext_nil _⟩
  · by_cases hl : len = 0
    · subst hl
      go_enter Tryz.func62, Tryz.ntmps62
      go_wp2
      go_ret
      exact ⟨0, _, rfl, by omega, by omega, by omega, ext_nil _⟩
    · rcases h4 with h4 | ⟨b, off, rfl, hb, hs, hc⟩
      · exact absurd h4 hl
      · by_cases hlt : P < len
        · have c0 := hc P hlt
          have z0 := h3 P
          clear hc h3
          go_enter Tryz.func62, Tryz.ntmps62
          go_wp2
          go_ret
          exact ⟨_, _, rfl, Int.emod_nonneg _ (by omega), fun _ => Int.emod_lt_of_pos _ (by omega), fun h => by omega, ext_nil _⟩
        · have c0 := hc (P % len) (Nat.mod_lt _ (by omega))
          have c1 := hc ((P * 7 + 3) % len) (Nat.mod_lt _ (by omega))
          obtain ⟨z0, z0'⟩ := h3 (P % len)
          obtain ⟨z1, z1'⟩ := h3 ((P * 7 + 3) % len)
          have q0 : (0 : Int) ≤ (P : Int) / (len : Int) := Int.ediv_nonneg (by omega) (by omega)
          have q1 : (P : Int) / (len : Int) ≤ P := Int.ediv_le_self _ (by omega)
          clear hc h3
          go_enter Tryz.func62, Tryz.ntmps62
          go_wp2
          have b0 : (0 : Int) ≤ (P : Int) % (len : Int) := Int.emod_nonneg _ (by omega)
          have b1 : (P : Int) % (len : Int) < (len : Int) := Int.emod_lt_of_pos _ (by omega)
          have b2 : ((P : Int) % (len : Int)).toNat = P % len := by omega
          have b3 : (P : Int).tmod (len : Int) = (P : Int) % (len : Int) := Int.tmod_eq_emod_of_nonneg (by omega)
          have s1 : IntKind.i64.wrap ((P : Int) * 7) = (P : Int) * 7 := IntWalk.i64_in _ (by omega)
          have s2 : IntKind.i64.wrap ((P : Int) * 7 + 3) = (P : Int) * 7 + 3 := IntWalk.i64_in _ (by omega)
          have f0 : (0 : Int) ≤ ((P : Int) * 7 + 3) % (len : Int) := Int.emod_nonneg _ (by omega)
          have f1 : ((P : Int) * 7 + 3) % (len : Int) < (len : Int) := Int.emod_lt_of_pos _ (by omega)
          have f2 : (((P : Int) * 7 + 3) % (len : Int)).toNat = (P * 7 + 3) % len := by
            have e : ((P : Int) * 7 + 3) % (len : Int) = (((P * 7 + 3) % len : Nat) : Int) := by push_cast; rfl
            rw [e]; rfl
          have f3 : ((P : Int) * 7 + 3).tmod (len : Int) = ((P : Int) * 7 + 3) % (len : Int) := Int.tmod_eq_emod_of_nonneg (by omega)
          refine wp_region_quiet_lit (by kernel_rfl) (by kernel_rfl) ?_
          repeat (go_big_quiet_step (fail))
          refine wpQuiet_nil ?_
          intro _ hw'
          obtain ⟨nq, hw''⟩ := hw'
          subst hw''
          go_wp2
          go_ret
          exact ⟨_, _, rfl, Int.tmod_nonneg _ (xor_small _ _ (by omega) (by omega) (by omega) (by omega)), fun _ => Int.tmod_lt_of_pos _ (by omega), fun h => by omega, ext_nil_drewN _ _⟩

/-- 'odd' of 0: false, nothing drawn. -/
theorem odd_zero (R : Nat) (w : World) : Calls Tryz.prog 63 #[.pointer (some ⟨R, 0, none⟩), .int .i64 0] w fun e w' => e = .returned (.bool false) ∧ w = w' := by
  go_enter Tryz.func63, Tryz.ntmps63
  go_wp2
  go_ret
  exact ⟨rfl, rfl⟩
/-- A Bool, and the place one further. -/
def Odds (w : World) (R : Nat) (p : Int) (e : Ending) (w' : World) : Prop :=
  ∃ (b : Bool) (d : Nat), e = .returned (.bool b) ∧ w' = ext (w.setCell ⟨R, 1, none⟩ (.int .i64 (p + 1))) d #[]
theorem odd_any (R : Nat) (p n : Int) (w : World) (hr : Rd w R p) (hp : p ≤ 2000000000) (hn : 1 ≤ n) (hn' : n ≤ 1000) : Calls Tryz.prog 63 #[.pointer (some ⟨R, 0, none⟩), .int .i64 n] w (Odds w R p) := by
  have hn0 : 0 < n := by omega
  go_enter Tryz.func63, Tryz.ntmps63
  go_wp2_with (go_at_call 62; refine (pick_any R p n _ hr hp).mono ?_; rintro e w' ⟨v, d, rfl, h0, h1, h2, rfl⟩)
  go_ret
  exact ⟨_, _, rfl, rfl⟩

/-- What the walk is told of a slice of bytes that came in (as the given statements' frame lays it). -/
def IsRow (k : IntKind) (w : World) (a : Option Addr) (len cap : Nat) (zs : List Int) : Prop :=
  (a = none ∧ len = 0 ∧ cap = 0 ∧ zs = []) ∨
  ∃ x, a = some x ∧ len ≤ cap ∧ cap ≤ maxLen ∧ zs.length = cap ∧ (∀ i, i < zs.length → w.cell? (x.add i) = some (.int k (zs.getD i 0))) ∧ ∀ n ∈ zs, (Lit.int k n).wf = true
theorem IsRow.len_le {k : IntKind} {w : World} {a : Option Addr} {len cap : Nat} {zs : List Int} (h : IsRow k w a len cap zs) : len ≤ cap ∧ cap ≤ maxLen := by
  rcases h with ⟨_, rfl, rfl, _⟩ | ⟨x, _, h1, h2, _⟩
  · exact ⟨Nat.le_refl _, by unfold maxLen; omega⟩
  · exact ⟨h1, h2⟩
theorem IsRow.bytes {w : World} {a : Option Addr} {len cap : Nat} {zs : List Int} (h : IsRow .u8 w a len cap zs) (m : Nat) (hm : m ≤ len) : Bytes w w.heap.size a m cap (fun i => zs.getD i 0) := by
  have hz : ∀ n ∈ zs, 0 ≤ n ∧ n < 256 := by
    rcases h with ⟨_, _, _, rfl⟩ | ⟨x, _, _, _, _, _, hw⟩
    · intro n hn; cases hn
    · intro n hn
      have := hw n hn
      simp only [Lit.wf, IntKind.min, IntKind.max, IntKind.signed, IntKind.bits] at this
      simp at this
      omega
  have hd : ∀ i, 0 ≤ zs.getD i 0 ∧ zs.getD i 0 < 256 := by
    intro i
    by_cases hi : i < zs.length
    · rw [List.getD_eq_getElem?_getD, List.getElem?_eq_getElem hi]; exact hz _ (List.getElem_mem hi)
    · rw [List.getD_eq_getElem?_getD, List.getElem?_eq_none (by omega)]; simp
  have hl := h.len_le
  refine ⟨by omega, hl.2, hd, ?_⟩
  rcases h with ⟨_, h0, _, _⟩ | ⟨x, rfl, h1, h2, h3, hc, _⟩
  · exact .inl (by omega)
  · by_cases h0 : m = 0
    · exact .inl h0
    · have hc0 := hc 0 (by omega)
      obtain ⟨b, off, spot⟩ := x
      have hspot : spot = none := by simpa [Addr.add] using World.cell?_spot hc0
      subst hspot
      have hb : b < w.heap.size := block_lt_of_cell hc0
      refine .inr ⟨b, off, rfl, by omega, hb, fun i hi => ?_⟩
      have := hc i (by omega)
      by_cases hi0 : i = 0
      · subst hi0; simpa [Addr.add] using this
      · simpa [Addr.add, hi0] using this

theorem IsRow.below {k : IntKind} {w w' : World} {a : Option Addr} {len cap : Nat} {zs : List Int} (h : IsRow k w a len cap zs) (hb : Below w.heap.size w w') : IsRow k w' a len cap zs := by
  rcases h with h | ⟨x, rfl, h1, h2, h3, h4, h5⟩
  · exact .inl h
  · exact .inr ⟨x, rfl, h1, h2, h3, fun i hi => by rw [hb.cell (block_lt_of_cell (h4 i hi))]; exact h4 i hi, h5⟩
/-- A new reader lies in the last block. -/
def Opened (w : World) (e : Ending) (w' : World) : Prop :=
  ∃ (A : Option Addr) (len cap : Nat), e = .returned (.pointer (some ⟨w.heap.size, 0, none⟩)) ∧ w' = w.alloc (.cells #[.slice A len cap, .int .i64 0] 103) ∧ ∃ zs, Bytes w w.heap.size A len cap zs
theorem open_any (a : Option Addr) (len cap : Nat) (zs : List Int) (w : World) (h : IsRow .u8 w a len cap zs) : Calls Tryz.prog 58 #[.slice a len cap] w (Opened w) := by
  have hl := h.len_le
  have hb := fun m hm => h.bytes m hm
  unfold maxLen at hl
  obtain ⟨hl1, hl2⟩ := hl
  by_cases hlt : 2000 < len
  · have hb := hb 2000 (by omega)
    go_enter Tryz.func58, Tryz.ntmps58
    go_wp2
    go_ret
    exact ⟨_, _, _, rfl, rfl, _, hb⟩
  · have hb := hb len (by omega)
    go_enter Tryz.func58, Tryz.ntmps58
    go_wp2
    go_ret
    exact ⟨_, _, _, rfl, rfl, _, hb⟩
/-- A reader that lies written out in the last block. -/
theorem Rd.lit {w : World} {R : Nat} {p : Int} {A : Option Addr} {len cap : Nat} {zs : Nat → Int} {T : TypeId} (h : Bytes w R A len cap zs) (hR : R = w.heap.size) (hp : 0 ≤ p) : Rd (w.alloc (.cells #[.slice A len cap, .int .i64 p] T)) R p := by
  subst hR
  obtain ⟨h1, h2, h3, h4⟩ := h
  refine ⟨A, len, cap, zs, ⟨h1, h2, h3, ?_⟩, by simp [go_sem], by simp [go_sem], by simp [go_sem], by simp, hp⟩
  rcases h4 with h4 | ⟨b, off, e, hb, hs, hc⟩
  · exact .inl h4
  · exact .inr ⟨b, off, e, hb, by simp; omega, fun i hi => by rw [alloc_cell_lt hs]; exact hc i hi⟩

/-- What a draw leaves: a value, the place at most k further, new blocks. -/
def Drew (w : World) (R : Nat) (p k : Int) (G : Value → Prop) (e : Ending) (w' : World) : Prop :=
  ∃ (v : Value) (q : Int) (d : Nat) (os : Array Obj), e = .returned v ∧ p ≤ q ∧ q ≤ p + k ∧ G v ∧ w' = ext (w.setCell ⟨R, 1, none⟩ (.int .i64 q)) d os

@[simp, go_sem] theorem size_setCell (w : World) (a : Addr) (v : Value) : (w.setCell a v).heap.size = w.heap.size := by simp [World.setCell]
theorem Drew.of {w w' : World} {R : Nat} {p k : Int} {G : Value → Prop} {e : Ending} (q : Int) {v : Value} (he : e = .returned v) (h1 : p ≤ q) (h2 : q ≤ p + k) (hG : G v)
    (hb : Below (w.setCell ⟨R, 1, none⟩ (.int .i64 q)).heap.size (w.setCell ⟨R, 1, none⟩ (.int .i64 q)) w') : Drew w R p k G e w' := by
  obtain ⟨d, os, rfl⟩ := ext_of_below hb
  exact ⟨v, q, d, os, he, h1, h2, hG, rfl⟩
theorem Drew.mk {w w' : World} {R : Nat} {p k : Int} {G : Value → Prop} {v : Value} (q : Int) (hb : Below (w.setCell ⟨R, 1, none⟩ (.int .i64 q)).heap.size (w.setCell ⟨R, 1, none⟩ (.int .i64 q)) w') (h1 : p ≤ q) (h2 : q ≤ p + k) (hG : G v) :
    Drew w R p k G (.returned v) w' := Drew.of q rfl h1 h2 hG hb
/-- The number in place v of a list. -/
def selN (v : Int) (l : List Int) : Int := l.getD v.toNat 0
theorem sel2l (v : Int) (x0 x1 : Int) (h : v.toNat < [Value.int .i64 x0, Value.int .i64 x1].length) : [Value.int .i64 x0, Value.int .i64 x1][v.toNat]'h = .int .i64 (selN v [x0, x1]) := by
  have h' : v.toNat < 2 := h
  have : v.toNat = 0 ∨ v.toNat = 1 := by omega
  rcases this with h | h <;> simp [h, selN]
@[go_sem] theorem sel2g (v : Int) (x0 x1 : Int) (h : v.toNat < [Value.int .i64 x0, Value.int .i64 x1].length) : [Value.int .i64 x0, Value.int .i64 x1][v.toNat]'h = .int .i64 (selN v [x0, x1]) := sel2l v x0 x1 h
@[go_sem] theorem sel2 {v : Int} (h0 : 0 ≤ v) (h1 : v < 2) (x0 x1 : Int) : [Value.int .i64 x0, Value.int .i64 x1][v.toNat]? = some (.int .i64 (selN v [x0, x1])) := by
  have hl : v.toNat < [Value.int .i64 x0, Value.int .i64 x1].length := by simp; omega
  rw [List.getElem?_eq_getElem hl, sel2l]
@[go_sem] theorem sel2a {v : Int} (h0 : 0 ≤ v) (h1 : v < 2) (x0 x1 : Int) : (#[Value.int .i64 x0, Value.int .i64 x1] : Array Value)[v.toNat]? = some (.int .i64 (selN v [x0, x1])) := by
  rw [List.getElem?_toArray]; exact sel2 h0 h1 x0 x1
theorem sel3l (v : Int) (x0 x1 x2 : Int) (h : v.toNat < [Value.int .i64 x0, Value.int .i64 x1, Value.int .i64 x2].length) : [Value.int .i64 x0, Value.int .i64 x1, Value.int .i64 x2][v.toNat]'h = .int .i64 (selN v [x0, x1, x2]) := by
  have h' : v.toNat < 3 := h
  have : v.toNat = 0 ∨ v.toNat = 1 ∨ v.toNat = 2 := by omega
  rcases this with h | h | h <;> simp [h, selN]
@[go_sem] theorem sel3g (v : Int) (x0 x1 x2 : Int) (h : v.toNat < [Value.int .i64 x0, Value.int .i64 x1, Value.int .i64 x2].length) : [Value.int .i64 x0, Value.int .i64 x1, Value.int .i64 x2][v.toNat]'h = .int .i64 (selN v [x0, x1, x2]) := sel3l v x0 x1 x2 h
@[go_sem] theorem sel3 {v : Int} (h0 : 0 ≤ v) (h1 : v < 3) (x0 x1 x2 : Int) : [Value.int .i64 x0, Value.int .i64 x1, Value.int .i64 x2][v.toNat]? = some (.int .i64 (selN v [x0, x1, x2])) := by
  have hl : v.toNat < [Value.int .i64 x0, Value.int .i64 x1, Value.int .i64 x2].length := by simp; omega
  rw [List.getElem?_eq_getElem hl, sel3l]
@[go_sem] theorem sel3a {v : Int} (h0 : 0 ≤ v) (h1 : v < 3) (x0 x1 x2 : Int) : (#[Value.int .i64 x0, Value.int .i64 x1, Value.int .i64 x2] : Array Value)[v.toNat]? = some (.int .i64 (selN v [x0, x1, x2])) := by
  rw [List.getElem?_toArray]; exact sel3 h0 h1 x0 x1 x2
theorem sel4l (v : Int) (x0 x1 x2 x3 : Int) (h : v.toNat < [Value.int .i64 x0, Value.int .i64 x1, Value.int .i64 x2, Value.int .i64 x3].length) : [Value.int .i64 x0, Value.int .i64 x1, Value.int .i64 x2, Value.int .i64 x3][v.toNat]'h = .int .i64 (selN v [x0, x1, x2, x3]) := by
  have h' : v.toNat < 4 := h
  have : v.toNat = 0 ∨ v.toNat = 1 ∨ v.toNat = 2 ∨ v.toNat = 3 := by omega
  rcases this with h | h | h | h <;> simp [h, selN]
@[go_sem] theorem sel4g (v : Int) (x0 x1 x2 x3 : Int) (h : v.toNat < [Value.int .i64 x0, Value.int .i64 x1, Value.int .i64 x2, Value.int .i64 x3].length) : [Value.int .i64 x0, Value.int .i64 x1, Value.int .i64 x2, Value.int .i64 x3][v.toNat]'h = .int .i64 (selN v [x0, x1, x2, x3]) := sel4l v x0 x1 x2 x3 h
@[go_sem] theorem sel4 {v : Int} (h0 : 0 ≤ v) (h1 : v < 4) (x0 x1 x2 x3 : Int) : [Value.int .i64 x0, Value.int .i64 x1, Value.int .i64 x2, Value.int .i64 x3][v.toNat]? = some (.int .i64 (selN v [x0, x1, x2, x3])) := by
  have hl : v.toNat < [Value.int .i64 x0, Value.int .i64 x1, Value.int .i64 x2, Value.int .i64 x3].length := by simp; omega
  rw [List.getElem?_eq_getElem hl, sel4l]
@[go_sem] theorem sel4a {v : Int} (h0 : 0 ≤ v) (h1 : v < 4) (x0 x1 x2 x3 : Int) : (#[Value.int .i64 x0, Value.int .i64 x1, Value.int .i64 x2, Value.int .i64 x3] : Array Value)[v.toNat]? = some (.int .i64 (selN v [x0, x1, x2, x3])) := by
  rw [List.getElem?_toArray]; exact sel4 h0 h1 x0 x1 x2 x3
theorem sel7l (v : Int) (x0 x1 x2 x3 x4 x5 x6 : Int) (h : v.toNat < [Value.int .i64 x0, Value.int .i64 x1, Value.int .i64 x2, Value.int .i64 x3, Value.int .i64 x4, Value.int .i64 x5, Value.int .i64 x6].length) : [Value.int .i64 x0, Value.int .i64 x1, Value.int .i64 x2, Value.int .i64 x3, Value.int .i64 x4, Value.int .i64 x5, Value.int .i64 x6][v.toNat]'h = .int .i64 (selN v [x0, x1, x2, x3, x4, x5, x6]) := by
  have h' : v.toNat < 7 := h
  have : v.toNat = 0 ∨ v.toNat = 1 ∨ v.toNat = 2 ∨ v.toNat = 3 ∨ v.toNat = 4 ∨ v.toNat = 5 ∨ v.toNat = 6 := by omega
  rcases this with h | h | h | h | h | h | h <;> simp [h, selN]
@[go_sem] theorem sel7g (v : Int) (x0 x1 x2 x3 x4 x5 x6 : Int) (h : v.toNat < [Value.int .i64 x0, Value.int .i64 x1, Value.int .i64 x2, Value.int .i64 x3, Value.int .i64 x4, Value.int .i64 x5, Value.int .i64 x6].length) : [Value.int .i64 x0, Value.int .i64 x1, Value.int .i64 x2, Value.int .i64 x3, Value.int .i64 x4, Value.int .i64 x5, Value.int .i64 x6][v.toNat]'h = .int .i64 (selN v [x0, x1, x2, x3, x4, x5, x6]) := sel7l v x0 x1 x2 x3 x4 x5 x6 h
@[go_sem] theorem sel7 {v : Int} (h0 : 0 ≤ v) (h1 : v < 7) (x0 x1 x2 x3 x4 x5 x6 : Int) : [Value.int .i64 x0, Value.int .i64 x1, Value.int .i64 x2, Value.int .i64 x3, Value.int .i64 x4, Value.int .i64 x5, Value.int .i64 x6][v.toNat]? = some (.int .i64 (selN v [x0, x1, x2, x3, x4, x5, x6])) := by
  have hl : v.toNat < [Value.int .i64 x0, Value.int .i64 x1, Value.int .i64 x2, Value.int .i64 x3, Value.int .i64 x4, Value.int .i64 x5, Value.int .i64 x6].length := by simp; omega
  rw [List.getElem?_eq_getElem hl, sel7l]
@[go_sem] theorem sel7a {v : Int} (h0 : 0 ≤ v) (h1 : v < 7) (x0 x1 x2 x3 x4 x5 x6 : Int) : (#[Value.int .i64 x0, Value.int .i64 x1, Value.int .i64 x2, Value.int .i64 x3, Value.int .i64 x4, Value.int .i64 x5, Value.int .i64 x6] : Array Value)[v.toNat]? = some (.int .i64 (selN v [x0, x1, x2, x3, x4, x5, x6])) := by
  rw [List.getElem?_toArray]; exact sel7 h0 h1 x0 x1 x2 x3 x4 x5 x6
end Go.Proofs.YtkennmpbmbacpaaGreatDoor

namespace Go.Proofs.YtkennmpbmbacpaaGreatDoor
open Go.RowKit

section
variable {P : Program} {ops : Array Oper} {Q : Exit → Act → World → Prop} {md : Region.Mode}
/-- i has come up, too. -/
def upd (L : Nat → Bool) (i : Nat) : Nat → Bool := fun j => if j = i then true else L j
@[simp] theorem upd_same (L : Nat → Bool) (i : Nat) : upd L i i = true := by simp [upd]
theorem upd_ne (L : Nat → Bool) {i j : Nat} (h : j ≠ i) : upd L i j = L j := by simp [upd, h]
/-- What an operation waits for stands ahead of it. -/
def backB (md : Region.Mode) (ops : Array Oper) : Bool := (List.range ops.size).all fun i => match ops[i]? with
  | some o => o.after.all fun e => !Region.binds md e || decide (e.on < i)
  | none => true
theorem backB_spec (h : backB md ops = true) {i : Nat} {o : Oper} (ho : ops[i]? = some o) : ∀ e ∈ o.after, Region.binds md e = true → e.on < i := by
  intro e he hb
  have hi : i < ops.size := (Array.getElem?_eq_some_iff.1 ho).1
  have h1 := List.all_eq_true.1 h i (List.mem_range.2 hi)
  simp only [ho] at h1
  have h2 := Array.all_eq_true_iff_forall_mem.1 h1 e he
  simp only [Bool.or_eq_true, Bool.not_eq_true', decide_eq_true_eq] at h2
  rcases h2 with h2 | h2
  · rw [hb] at h2; cases h2
  · exact h2
theorem all_listed {listed : Array Bool} (hB : backB md ops = true) (hs : listed.size = ops.size) (hr : Region.ready md ops listed = []) : ∀ i, i < ops.size → listed.getD i false = true := by
  intro i
  induction i using Nat.strongRecOn with
  | _ i ih =>
    intro hi
    cases hl : listed.getD i true with
    | true =>
      simp only [Array.getD_eq_getD_getElem?] at hl ⊢
      rw [Array.getElem?_eq_getElem (by omega)] at hl ⊢
      exact hl
    | false =>
      have : i ∈ Region.ready md ops listed := mem_ready.2 ⟨hl, ops[i], Array.getElem?_eq_getElem hi, fun e he hb => ih e.on (backB_spec hB (Array.getElem?_eq_getElem hi) e he hb) (Nat.lt_trans (backB_spec hB (Array.getElem?_eq_getElem hi) e he hb) hi)⟩
      rw [hr] at this
      cases this
/-- Operation i, whatever has come up of those that it does not wait for. -/
def Stp (P : Program) (md : Region.Mode) (ops : Array Oper) (Q : Exit → Act → World → Prop) (J : (Nat → Bool) → Act → World → Prop) (i : Nat) (o : Oper) : Prop :=
  ∀ L a w, L i = false → (o.after.all fun e => !Region.binds md e || L e.on) = true → J L a w → ∀ K, RowKit.Hid (∀ a w, J (upd L i) a w → K a w) →
    if Region.wanted o (yielded ops a.tmps) = true then o.wp P a w K Q else K (a.put o.dst undef) w
def Stps (P : Program) (md : Region.Mode) (ops : Array Oper) (Q : Exit → Act → World → Prop) (J : (Nat → Bool) → Act → World → Prop) (k : Nat) (l : List Oper) : Prop := ∀ i o, l[i]? = some o → Stp P md ops Q J (k + i) o
theorem Stps.nil {J : (Nat → Bool) → Act → World → Prop} {k : Nat} : Stps P md ops Q J k [] := fun i o h => by simp at h
theorem Stps.cons {J : (Nat → Bool) → Act → World → Prop} {k : Nat} {o : Oper} {l : List Oper} (h : Stp P md ops Q J k o) (h' : Stps P md ops Q J (k + 1) l) : Stps P md ops Q J k (o :: l) := fun i o' hi => by
  cases i with
  | zero => simp at hi; subst hi; exact h
  | succ i => simp at hi; rw [show k + (i + 1) = k + 1 + i from by omega]; exact h' i o' hi
def falses (l : Array Bool) : Nat := l.toList.countP (· = false)
theorem falses_set {l : Array Bool} {i : Nat} (h : l.getD i true = false) : falses (l.setIfInBounds i true) + 1 = falses l := by
  unfold falses
  obtain ⟨l⟩ := l
  simp only [List.setIfInBounds_toArray]
  simp only [Array.getD_eq_getD_getElem?, List.getElem?_toArray] at h
  induction l generalizing i with
  | nil => simp at h
  | cons b r ih =>
    cases i with
    | zero => simp at h; subst h; simp
    | succ i =>
      simp at h
      have := ih (i := i) (by simpa using h)
      simp only [List.set_cons_succ, List.countP_cons] at *
      omega
theorem falses_zero {l : Array Bool} (h : falses l = 0) {i : Nat} (hi : i < l.size) : l.getD i true = true := by
  have h0 : ∀ x ∈ l.toList, ¬ (decide (x = false) = true) := by
    rw [falses, List.countP_eq_zero] at h; exact h
  have := h0 l[i] (by simp)
  simp only [Array.getD_eq_getD_getElem?, Array.getElem?_eq_getElem hi, Option.getD_some]
  cases hx : l[i]
  · rw [hx] at this; simp at this
  · rfl
theorem wpAny_inv (hB : backB md ops = true) (J : (Nat → Bool) → Act → World → Prop) (hs : Stps P md ops Q J 0 ops.toList) (hd : ∀ L a w, (∀ i, i < ops.size → L i = true) → J L a w → Q .normal a w) :
    ∀ (fuel : Nat) (listed : Array Bool) (a : Act) (w : World), listed.size = ops.size → falses listed ≤ fuel → J (fun i => listed.getD i false) a w → wpAny P md ops Q fuel listed a w := by
  intro fuel
  induction fuel with
  | zero =>
    intro listed a w hz hf hJ
    have hr : Region.ready md ops listed = [] := by
      apply List.eq_nil_iff_forall_not_mem.2
      intro i hi
      obtain ⟨h0, o, ho, _⟩ := mem_ready.1 hi
      have hlt : i < ops.size := (Array.getElem?_eq_some_iff.1 ho).1
      rw [falses_zero (by omega) (by omega)] at h0
      cases h0
    exact ⟨hr, hd _ a w (all_listed hB hz hr) hJ⟩
  | succ fuel ih =>
    intro listed a w hz hf hJ
    refine ⟨fun hr => hd _ a w (all_listed hB hz hr) hJ, fun i hi => ?_⟩
    obtain ⟨h0, o, ho, hall⟩ := mem_ready.1 hi
    have hlt : i < ops.size := (Array.getElem?_eq_some_iff.1 ho).1
    have hlf : listed.getD i false = false := by
      simp only [Array.getD_eq_getD_getElem?] at h0 ⊢
      rw [Array.getElem?_eq_getElem (by omega)] at h0 ⊢
      exact h0
    have hst := hs i o (by rw [Array.getElem?_toList]; exact ho) (fun i => listed.getD i false) a w (by simpa using hlf)
      (Array.all_eq_true_iff_forall_mem.2 fun e he => by
        cases hb : Region.binds md e
        · simp
        · simpa using hall e he hb) hJ (wpAny P md ops Q fuel (listed.setIfInBounds i true))
      (fun a' w' hJ' => ih _ a' w' (by simp [hz]) (by have := falses_set h0; omega) (by
        have e : (fun j => (listed.setIfInBounds i true).getD j false) = upd (fun i => listed.getD i false) (0 + i) := by
          funext j
          rw [Nat.zero_add]
          by_cases hj : j = i
          · subst hj; simp [upd, show j < listed.size by omega]
          · rw [getD_set_ne false (Ne.symm hj), upd_ne _ hj]
        rw [e]; exact hJ'))
    unfold wpOp
    simp only [ho]
    split
    · rename_i hw; rw [if_pos hw] at hst; exact .inl hst
    · rename_i hw; rw [if_neg hw] at hst; exact hst
theorem falses_rep (n : Nat) : falses (Array.replicate n false) ≤ n := by
  unfold falses
  exact Nat.le_trans List.countP_le_length (by simp)
theorem wp_region_inv {id : Nat} {l : List Oper} {a : Act} {w : World} (hm : P.follows .mixedOrders = true) (hB : backB .any l.toArray = true) (J : (Nat → Bool) → Act → World → Prop)
    (h0 : J (fun _ => false) a w.drew) (hs : Stps P .any l.toArray Q J 0 l) (hd : ∀ L a w, (∀ i, i < l.length → L i = true) → J L a w → Q .normal a w) : (Code.region id l.toArray true).wp P Q a w :=
  wp_region_any hm (wpAny_inv hB J (by simpa using hs) (by simpa using hd) _ _ _ _ (by simp) (falses_rep _) (by
    have e : (fun i => (Array.replicate l.toArray.size false).getD i false) = fun _ => false := by
      funext i
      simp only [Array.getD_eq_getD_getElem?, Array.getElem?_replicate]
      split <;> rfl
    rw [e]; exact h0))
end

/-- The frame with other values in some slots. -/
def putsL : List Value → List Nat → List Value → List Value
  | l, s :: ss, u :: us => putsL (l.set s u) ss us
  | l, _, _ => l
def putsA (a : Act) (ss : List Nat) (us : List Value) : Act := { a with tmps := (putsL a.tmps.toList ss us).toArray }
theorem putsL_self : ∀ (ss : List Nat) (l : List Value), putsL l ss (ss.map fun s => l.getD s undef) = l
  | [], l => by cases l <;> rfl
  | s :: ss, l => by
    have e : l.set s (l.getD s undef) = l := by
      apply List.ext_getElem?
      intro k
      rw [List.getElem?_set]
      split
      · rename_i h
        subst h
        split
        · rename_i hk; simp [hk]
        · rename_i hk; rw [List.getElem?_eq_none (by omega)]
      · rfl
    rw [List.map_cons, putsL, e]
    exact putsL_self ss l
theorem puts_self (a : Act) (ss : List Nat) : a = putsA a ss (ss.map fun s => a.tmps.toList.getD s undef) := by
  unfold putsA
  rw [putsL_self]
theorem wp_region_put {P : Program} {Q : Exit → Act → World → Prop} {id : Nat} {l : List Oper} {a : Act} {w : World} (ss : List Nat) (F : (Nat → Bool) → List Value → World → Prop) (hm : P.follows .mixedOrders = true) (hB : backB .any l.toArray = true)
    (h0 : F (fun _ => false) (ss.map fun s => a.tmps.toList.getD s undef) w.drew) (hs : Stps P .any l.toArray Q (fun L a' w' => ∃ us, a' = putsA a ss us ∧ F L us w') 0 l)
    (hd : ∀ L us w, (∀ i, i < l.length → L i = true) → F L us w → Q .normal (putsA a ss us) w) : (Code.region id l.toArray true).wp P Q a w :=
  wp_region_inv hm hB _ ⟨_, puts_self a ss, h0⟩ hs fun L a' w' hL ⟨us, e, hF⟩ => by subst e; exact hd L us w' hL hF
theorem no_last {L : Nat → Bool} {n k : Nat} (hcl : L n = true → L k = true) (hi : L k = false) : L n = false := by
  cases h : L n
  · rfl
  · rw [hcl h] at hi; cases hi
theorem upd_of {L : Nat → Bool} {k i : Nat} (h : L k = true) : upd L i k = true := by
  unfold upd
  split
  · rfl
  · exact h
/-- A yes as a number. -/
def b2n (b : Bool) : Int := if b then 1 else 0

/-- w' is w, but for the reader's place, for draws and for new blocks. -/
structure Ev (R : Nat) (w w' : World) : Prop where
  size : w.heap.size ≤ w'.heap.size
  cell : ∀ b o, b < w.heap.size → b ≠ R → w'.cell? ⟨b, o, none⟩ = w.cell? ⟨b, o, none⟩
  frozen : ∀ b o, b < w.heap.size → w'.frozen? ⟨b, o, none⟩ = w.frozen? ⟨b, o, none⟩
theorem Ev.refl (R : Nat) (w : World) : Ev R w w := ⟨Nat.le_refl _, fun _ _ _ _ => rfl, fun _ _ _ => rfl⟩
theorem Ev.trans {R : Nat} {a b c : World} (h : Ev R a b) (k : Ev R b c) : Ev R a c :=
  ⟨Nat.le_trans h.size k.size, fun x o hx hr => (k.cell x o (Nat.lt_of_lt_of_le hx h.size) hr).trans (h.cell x o hx hr), fun x o hx => (k.frozen x o (Nat.lt_of_lt_of_le hx h.size)).trans (h.frozen x o hx)⟩
theorem Ev.below {R : Nat} {a b : World} (h : Below a.heap.size a b) : Ev R a b :=
  ⟨h.size, fun x o hx _ => h.cell (p := ⟨x, o, none⟩) hx, fun x o hx => h.frozen (p := ⟨x, o, none⟩) hx⟩
theorem Ev.set (R : Nat) (w : World) (v : Value) : Ev R w (w.setCell ⟨R, 1, none⟩ v) :=
  ⟨by simp, fun x o _ hr => World.cell?_setCell_other _ _ _ _ (fun e => hr (by cases e; rfl)), fun _ _ _ => World.frozen?_setCell _ _ _ _⟩
theorem Ev.draw {R d : Nat} {w : World} {v : Value} {os : Array Obj} : Ev R w (ext (w.setCell ⟨R, 1, none⟩ v) d os) := (Ev.set R w v).trans (Ev.below (below_ext _ _ _))
theorem Ev.pick {R d : Nat} {w0 w : World} {x v : Value} {os : Array Obj} (hR : R < w0.heap.size) (h : Below (w0.setCell ⟨R, 1, none⟩ x).heap.size (w0.setCell ⟨R, 1, none⟩ x) w) : Below (w0.setCell ⟨R, 1, none⟩ v).heap.size (w0.setCell ⟨R, 1, none⟩ v) (ext (w.setCell ⟨R, 1, none⟩ v) d os) := by
  obtain ⟨d', os', rfl⟩ := ext_of_below h
  rw [ext_setCell (by rw [size_setCell]; exact hR), setCell_twice, ext_ext]
  exact below_ext _ _ _
theorem Ev.alloc {R : Nat} {w : World} {o : Obj} : Ev R w (w.alloc o) := Ev.below (Below.alloc (Below.refl _ _) (Nat.le_refl _) _)
end Go.Proofs.YtkennmpbmbacpaaGreatDoor

namespace Go.Proofs.YtkennmpbmbacpaaGreatDoor
open Go.RowKit

section
variable {α : Type} {E : Lay α}
/-- The slice v reads as l, lies in blocks from B on, and may be written up to its capacity. -/
def RowF (E : Lay α) (B : Nat) (w : World) (v : Value) (l : List α) : Prop :=
  ∃ A cap, v = .slice A l.length cap ∧ l.length ≤ cap ∧ cap ≤ maxLen ∧ ((A = none ∧ l = [] ∧ cap = 0) ∨ ∃ b off, A = some ⟨b, off, none⟩ ∧ B ≤ b ∧ b < w.heap.size ∧ AtG E w b off l ∧ ∀ j, j < cap * E.z → (w.cell? ⟨b, off + j, none⟩).isSome = true ∧ w.frozen? ⟨b, off + j, none⟩ = false)
variable {w w' : World} {v : Value} {l m : List α} {B B' T : Nat}
theorem rowF_sl (h : RowF E B w v l) : SlG E w v l := by
  obtain ⟨A, cap, e, h1, h2, h3⟩ := h
  refine ⟨A, cap, e, h1, h2, ?_⟩
  rcases h3 with ⟨_, h, _⟩ | ⟨b, off, e, _, hb, hat, _⟩
  · exact .inl h
  · exact .inr ⟨b, off, e, hb, hat⟩
theorem rowF_own (h : OwnG E T B w v l) : RowF E B w v l := by
  have hs := ownG_sl h
  rcases h.2 with ⟨rfl, h0⟩ | ⟨g, c, cur, rfl, hB, hg, h1, h2, h3, h4⟩
  · have h0 : l.length = 0 := h0
    exact ⟨none, 0, by rw [h0], by omega, by decide, .inl ⟨rfl, List.length_eq_zero_iff.1 h0, rfl⟩⟩
  · obtain ⟨A', c', e, _, _, h5⟩ := hs
    injection e with e1 _ e3
    subst e1 e3
    have hlt : g < w.heap.size := by
      rcases Nat.lt_or_ge g w.heap.size with h | h
      · exact h
      · rw [Array.getElem?_eq_none h] at hg; cases hg
    refine ⟨_, c, rfl, h1, h2, .inr ⟨g, 0, rfl, hB, hlt, ?_, fun j hj => ?_⟩⟩
    · rcases h5 with h5 | ⟨b, off, e, _, hat⟩
      · subst h5; intro i x hx; simp at hx
      · cases e; exact hat
    · rw [Nat.zero_add]
      refine ⟨?_, h.frozenAt j⟩
      rw [cell_of_row w g j cur T (0, 0) hg, Array.getElem?_eq_getElem (by omega)]; rfl
theorem rowF_below (h : RowF E B w v l) (hb : Below w.heap.size w w') : RowF E B w' v l := by
  obtain ⟨A, cap, e, h1, h2, h3⟩ := h
  refine ⟨A, cap, e, h1, h2, h3.imp id fun ⟨b, off, e, hB, hlt, hat, hw⟩ => ⟨b, off, e, hB, Nat.lt_of_lt_of_le hlt hb.size, hat.below hlt hb, fun j hj => ?_⟩⟩
  obtain ⟨k1, k2⟩ := hw j hj
  exact ⟨by rw [hb.cell (p := ⟨b, _, none⟩) hlt]; exact k1, by rw [hb.frozen (p := ⟨b, _, none⟩) hlt]; exact k2⟩
theorem rowF_mono (h : RowF E B w v l) (hB : B' ≤ B) : RowF E B' w v l := by
  obtain ⟨A, cap, e, h1, h2, h3⟩ := h
  exact ⟨A, cap, e, h1, h2, h3.imp id fun ⟨b, off, e, k, r⟩ => ⟨b, off, e, Nat.le_trans hB k, r⟩⟩
theorem rowF_shape (h : RowF E B w v l) : ∃ A c, v = .slice A l.length c := by
  obtain ⟨A, c, e, _⟩ := h
  exact ⟨A, c, e⟩
theorem rowF_drop {b off n cap k : Nat} (h : RowF E B w (.slice (some ⟨b, off, none⟩) n cap) l) (hk : k ≤ l.length) : RowF E B w (.slice (some ⟨b, off + k * E.z, none⟩) (l.length - k) (cap - k)) (l.drop k) := by
  have hs := (rowF_sl h).drop hk
  obtain ⟨A', cap', e, h1, h2, h3⟩ := h
  injection e with e1 _ e3
  subst e1 e3
  have hl : (l.drop k).length = l.length - k := List.length_drop
  rcases h3 with ⟨e, _⟩ | ⟨b', off', e, hB, hlt, hat, hw⟩
  · cases e
  · cases e
    obtain ⟨A2, c2, e2, _, _, h5⟩ := hs
    injection e2 with k1 _ k3
    subst k1 k3
    refine ⟨_, cap - k, by rw [hl], by omega, by omega, .inr ⟨b, off + k * E.z, rfl, hB, hlt, ?_, fun j hj => ?_⟩⟩
    · rcases h5 with h5 | ⟨b3, off3, e, _, hat⟩
      · rw [h5]; intro i x hx; simp at hx
      · cases e; exact hat
    · rw [Nat.sub_mul] at hj
      have := hw (k * E.z + j) (by omega)
      rw [← Nat.add_assoc] at this
      exact this
theorem run_appF {P : Program} {t e : TypeId} (hf : Fit P E t e) (W : World) (ty : TypeId) (hrow : RowF E B W v l) {ad : Addr} {c : Nat} (h0 : SlG E W (.slice (some ad) m.length c) m) (hl : l.length + m.length ≤ 1048600) (hB : B ≤ W.heap.size) :
    ∃ v' w', (Builtin.append_ #[t, t] ty #[v, .slice (some ad) m.length c]).run P W = .ok v' w' ∧ RowF E B w' v' (l ++ m) ∧ Below B W w' := by
  obtain ⟨i0, z0, bytes, hi, hz0, hz1, hz2, hz3, hz4⟩ := hf.hi
  have hnews : ∀ k y, (m.flatMap E.put)[k]? = some y → W.cell? (ad.add k) = some y := by
    intro k y hk
    obtain ⟨A', c', e1, _, _, h3⟩ := h0
    injection e1 with e1 _ _
    subst e1
    rcases h3 with h3 | ⟨b, off, e2, hb, hat⟩
    · subst h3; simp at hk
    · cases e2
      obtain ⟨i, j, x, rfl, hj, hx, hu⟩ := flat_inv hk
      rw [Addr.add_lit, ← Nat.add_assoc]
      exact hat i x hx j y hu
  have hbytes : (l.length + m.length) * bytes ≤ 140737488355328 := by have : (l.length + m.length) * bytes ≤ 1048600 * 1000 := Nat.mul_le_mul hl hz4; omega
  obtain ⟨A, cap, rfl, h1, h2, h3⟩ := hrow
  rcases h3 with ⟨rfl, rfl, rfl⟩ | ⟨b, off, rfl, hBb, hlt, hat, hw⟩
  · obtain ⟨v', w', hr, ha⟩ := run_appG (B := B) hf W ty (ownG_none B W) h0 hl hB
    exact ⟨v', w', hr, rowF_own ha.1, Below.grown (Below.refl _ _) ha.2.1 hB (fun j hj => by cases hj)⟩
  · have holds : ∀ k y, (l.flatMap E.put)[k]? = some y → W.cell? ((⟨b, off, none⟩ : Addr).add k) = some y := by
      intro k y hk
      obtain ⟨i, j, x, rfl, hj, hx, hu⟩ := flat_inv hk
      rw [Addr.add_lit, ← Nat.add_assoc]
      exact hat i x hx j y hu
    by_cases hroom : l.length + m.length ≤ cap
    · have hcap : (l.length + m.length) * E.z ≤ cap * E.z := Nat.mul_le_mul_right _ hroom
      rw [Nat.add_mul] at hcap
      have hml : (m.flatMap E.put).length = m.length * E.z := flat_len m
      have hin : ∀ j, j < (m.flatMap E.put).length → (W.cell? ⟨b, off + l.length * E.z + j, none⟩).isSome = true := fun j hj => by
        have := (hw (l.length * E.z + j) (by omega)).1
        rw [← Nat.add_assoc] at this; exact this
      have hr := run_append_room_cells (P := P) W t ty e i0 hf.ht hi b off l.length cap ad m.length c (m.flatMap E.put) (by rw [hz1]; exact hml) hnews (flat_one m) hroom
        (by rw [hz1]; exact hin)
        (by rw [hz1]; intro j hj; have := (hw (l.length * E.z + j) (by omega)).2; rw [← Nat.add_assoc] at this; exact this)
      rw [hz1] at hr
      refine ⟨_, _, hr, ⟨_, cap, by rw [List.length_append], by rw [List.length_append]; exact hroom, h2, .inr ⟨b, off, rfl, hBb, ?_, fun i x hx j u hu => ?_, fun j hj => ?_⟩⟩, Go.below_setCells hBb _ _ _ (Below.refl _ _)⟩
      · have hs := (Go.below_setCells (B := 0) (a := W) (Nat.zero_le b) (m.flatMap E.put) (off + l.length * E.z) W (Below.refl _ _)).size
        omega
      · have hj : j < E.z := by rw [← E.len x]; exact (List.getElem?_eq_some_iff.1 hu).1
        by_cases hil : i < l.length
        · rw [List.getElem?_append_left hil] at hx
          rw [World.cell?_setCells_out b _ _ _ _ (fun _ _ => .inl (by
            have : (i + 1) * E.z ≤ l.length * E.z := Nat.mul_le_mul_right _ hil
            rw [Nat.add_mul] at this
            show off + i * E.z + j < off + l.length * E.z
            omega))]
          exact hat i x hx j u hu
        · rw [List.getElem?_append_right (by omega)] at hx
          have hk : (m.flatMap E.put)[(i - l.length) * E.z + j]? = some u := by rw [flat_at m _ j x hx hj]; exact hu
          have hkl := (List.getElem?_eq_some_iff.1 hk).1
          have e : off + i * E.z + j = off + l.length * E.z + ((i - l.length) * E.z + j) := by
            have : i * E.z = l.length * E.z + (i - l.length) * E.z := by rw [← Nat.add_mul]; congr 1; omega
            omega
          rw [e, World.cell?_setCells_in b _ _ _ hin _ hkl]
          exact (List.getElem?_eq_some_iff.1 hk).2 ▸ rfl
      · obtain ⟨k1, k2⟩ := hw j hj
        exact ⟨World.isSome_setCells b _ _ _ _ k1, by rw [World.frozen?_setCells]; exact k2⟩
    · obtain ⟨v', w', hr, ho, hg⟩ := run_append_arg_grows (P := P) W t ty e i0 z0 E.z bytes hf.ht hi hz0 hz1 hz2 hz3 E.pos ⟨b, off, none⟩ l.length cap _ (flat_len l) holds ad m.length c _ (flat_len m) hnews (by omega) (by unfold maxLen; omega) hbytes
      have ho' : OwnG E e W.heap.size w' v' (l ++ m) := by
        unfold OwnG
        rw [List.length_append, List.flatMap_append]
        exact ho
      exact ⟨v', w', hr, rowF_mono (rowF_own ho') hB, Below.grown (Below.refl _ _) hg hB (fun j hj => by cases hj)⟩
variable {P : Program} {t e : TypeId} {ops : Array Oper} {rest : List Oper} {o : Oper} {a : Act} {Q : Exit → Act → World → Prop}
theorem wpList_appF (hf : Fit P E t e) (W : World) (hgd : o.guard = none) (s x : Operand) (ho : o.op = .call { callee := .builtin .append, args := #[s, x], argTypes := #[t, t] })
    (B : Nat) (v : Value) (l : List α) (hs : a.eval s = v) (hrow : RowF E B W v l) (ad : Addr) (c : Nat) (m : List α) (hx : a.eval x = .slice (some ad) m.length c) (h0 : SlG E W (.slice (some ad) m.length c) m) (hl : l.length + m.length ≤ 1048600) (hB : B ≤ W.heap.size)
    (h : ∀ v' w', RowF E B w' v' (l ++ m) → Below B W w' → wpList P ops Q rest (a.put o.dst v') w') : wpList P ops Q (o :: rest) a W := by
  obtain ⟨v', w', hr, h1, h2⟩ := run_appF hf W o.type hrow h0 hl hB
  exact wpList_plain hgd fun _ hK => wp_run_app s x t ho hs hx hr (hK _ _ (h v' w' h1 h2))
end
end Go.Proofs.YtkennmpbmbacpaaGreatDoor

namespace Go.Proofs.YtkennmpbmbacpaaGreatDoor
open Go.RowKit

/-- The text in place v of a list. -/
def selS (v : Int) (l : List ByteArray) : ByteArray := l.getD v.toNat ByteArray.empty
theorem selS_size {v : Int} {l : List ByteArray} {N : Nat} (h : ∀ x ∈ l, x.size ≤ N) : (selS v l).size ≤ N := by
  unfold selS
  rw [List.getD_eq_getElem?_getD]
  cases e : l[v.toNat]? with
  | none => exact Nat.zero_le _
  | some x => exact h x (List.mem_of_getElem? e)
theorem selS3l (v : Int) (x0 x1 x2 : ByteArray) (h : v.toNat < [Value.string x0, Value.string x1, Value.string x2].length) : [Value.string x0, Value.string x1, Value.string x2][v.toNat]'h = .string (selS v [x0, x1, x2]) := by
  have h' : v.toNat < 3 := h
  have : v.toNat = 0 ∨ v.toNat = 1 ∨ v.toNat = 2 := by omega
  rcases this with h | h | h <;> simp [h, selS]
@[go_sem] theorem selS3g (v : Int) (x0 x1 x2 : ByteArray) (h : v.toNat < [Value.string x0, Value.string x1, Value.string x2].length) : [Value.string x0, Value.string x1, Value.string x2][v.toNat]'h = .string (selS v [x0, x1, x2]) := selS3l v x0 x1 x2 h
@[go_sem] theorem selS3 {v : Int} (h0 : 0 ≤ v) (h1 : v < 3) (x0 x1 x2 : ByteArray) : [Value.string x0, Value.string x1, Value.string x2][v.toNat]? = some (.string (selS v [x0, x1, x2])) := by
  have hl : v.toNat < [Value.string x0, Value.string x1, Value.string x2].length := by simp; omega
  rw [List.getElem?_eq_getElem hl, selS3l]
@[go_sem] theorem selS3a {v : Int} (h0 : 0 ≤ v) (h1 : v < 3) (x0 x1 x2 : ByteArray) : (#[Value.string x0, Value.string x1, Value.string x2] : Array Value)[v.toNat]? = some (.string (selS v [x0, x1, x2])) := by
  rw [List.getElem?_toArray]; exact selS3 h0 h1 x0 x1 x2
theorem selS4l (v : Int) (x0 x1 x2 x3 : ByteArray) (h : v.toNat < [Value.string x0, Value.string x1, Value.string x2, Value.string x3].length) : [Value.string x0, Value.string x1, Value.string x2, Value.string x3][v.toNat]'h = .string (selS v [x0, x1, x2, x3]) := by
  have h' : v.toNat < 4 := h
  have : v.toNat = 0 ∨ v.toNat = 1 ∨ v.toNat = 2 ∨ v.toNat = 3 := by omega
  rcases this with h | h | h | h <;> simp [h, selS]
@[go_sem] theorem selS4g (v : Int) (x0 x1 x2 x3 : ByteArray) (h : v.toNat < [Value.string x0, Value.string x1, Value.string x2, Value.string x3].length) : [Value.string x0, Value.string x1, Value.string x2, Value.string x3][v.toNat]'h = .string (selS v [x0, x1, x2, x3]) := selS4l v x0 x1 x2 x3 h
@[go_sem] theorem selS4 {v : Int} (h0 : 0 ≤ v) (h1 : v < 4) (x0 x1 x2 x3 : ByteArray) : [Value.string x0, Value.string x1, Value.string x2, Value.string x3][v.toNat]? = some (.string (selS v [x0, x1, x2, x3])) := by
  have hl : v.toNat < [Value.string x0, Value.string x1, Value.string x2, Value.string x3].length := by simp; omega
  rw [List.getElem?_eq_getElem hl, selS4l]
@[go_sem] theorem selS4a {v : Int} (h0 : 0 ≤ v) (h1 : v < 4) (x0 x1 x2 x3 : ByteArray) : (#[Value.string x0, Value.string x1, Value.string x2, Value.string x3] : Array Value)[v.toNat]? = some (.string (selS v [x0, x1, x2, x3])) := by
  rw [List.getElem?_toArray]; exact selS4 h0 h1 x0 x1 x2 x3
theorem selS6l (v : Int) (x0 x1 x2 x3 x4 x5 : ByteArray) (h : v.toNat < [Value.string x0, Value.string x1, Value.string x2, Value.string x3, Value.string x4, Value.string x5].length) : [Value.string x0, Value.string x1, Value.string x2, Value.string x3, Value.string x4, Value.string x5][v.toNat]'h = .string (selS v [x0, x1, x2, x3, x4, x5]) := by
  have h' : v.toNat < 6 := h
  have : v.toNat = 0 ∨ v.toNat = 1 ∨ v.toNat = 2 ∨ v.toNat = 3 ∨ v.toNat = 4 ∨ v.toNat = 5 := by omega
  rcases this with h | h | h | h | h | h <;> simp [h, selS]
@[go_sem] theorem selS6g (v : Int) (x0 x1 x2 x3 x4 x5 : ByteArray) (h : v.toNat < [Value.string x0, Value.string x1, Value.string x2, Value.string x3, Value.string x4, Value.string x5].length) : [Value.string x0, Value.string x1, Value.string x2, Value.string x3, Value.string x4, Value.string x5][v.toNat]'h = .string (selS v [x0, x1, x2, x3, x4, x5]) := selS6l v x0 x1 x2 x3 x4 x5 h
@[go_sem] theorem selS6 {v : Int} (h0 : 0 ≤ v) (h1 : v < 6) (x0 x1 x2 x3 x4 x5 : ByteArray) : [Value.string x0, Value.string x1, Value.string x2, Value.string x3, Value.string x4, Value.string x5][v.toNat]? = some (.string (selS v [x0, x1, x2, x3, x4, x5])) := by
  have hl : v.toNat < [Value.string x0, Value.string x1, Value.string x2, Value.string x3, Value.string x4, Value.string x5].length := by simp; omega
  rw [List.getElem?_eq_getElem hl, selS6l]
@[go_sem] theorem selS6a {v : Int} (h0 : 0 ≤ v) (h1 : v < 6) (x0 x1 x2 x3 x4 x5 : ByteArray) : (#[Value.string x0, Value.string x1, Value.string x2, Value.string x3, Value.string x4, Value.string x5] : Array Value)[v.toNat]? = some (.string (selS v [x0, x1, x2, x3, x4, x5])) := by
  rw [List.getElem?_toArray]; exact selS6 h0 h1 x0 x1 x2 x3 x4 x5

theorem with_ext {A w' : World} {G : Prop} (hb : Below A.heap.size A w') (h : ∀ d os, w' = ext A d os → G) : G := by
  obtain ⟨d, os, e⟩ := ext_of_below hb
  exact h d os e
def StrN (N : Nat) (v : Value) : Prop := ∃ s : ByteArray, v = .string s ∧ s.size ≤ N
end Go.Proofs.YtkennmpbmbacpaaGreatDoor
