/- Slices of whatever element, read as lists; rows of the call's own; what append does to them. -/
import Derived.Test.YtlanbgpmmlnehaaSl
import Derived.Laws.AppendOwnNone
import Derived.Laws.OwnMore
import Derived.Maps.AppendAt
import Derived.Lib.AppendZeros
set_option linter.unusedSimpArgs false
set_option linter.unusedVariables false
set_option linter.unusedSectionVars false
namespace Go.Proofs.Ytlanbgpmmlnehaa
open Go.RowKit

/-- How an element is laid out: z cells. -/
structure Lay (α : Type) where
  z : Nat
  pos : 0 < z
  put : α → List Value
  len : ∀ x, (put x).length = z
  one : ∀ x, ∀ u ∈ put x, u.oneCell' = true
section
variable {α : Type} {E : Lay α}
theorem flat_len (l : List α) : (l.flatMap E.put).length = l.length * E.z := by
  induction l with
  | nil => simp
  | cons a r ih => rw [List.flatMap_cons, List.length_append, ih, E.len, List.length_cons, Nat.add_mul, Nat.one_mul, Nat.add_comm]
theorem flat_at : ∀ (l : List α) (i j : Nat) (x : α), l[i]? = some x → j < E.z → (l.flatMap E.put)[i * E.z + j]? = (E.put x)[j]?
  | [], i, j, x, h, _ => by simp at h
  | a :: r, 0, j, x, h, hj => by
    simp at h; subst h
    rw [List.flatMap_cons, Nat.zero_mul, Nat.zero_add, List.getElem?_append_left (by rw [E.len]; exact hj)]
  | a :: r, i + 1, j, x, h, hj => by
    simp at h
    rw [List.flatMap_cons, List.getElem?_append_right (by rw [E.len, Nat.add_mul]; omega), E.len, show (i + 1) * E.z + j - E.z = i * E.z + j from by rw [Nat.add_mul]; omega]
    exact flat_at r i j x h hj
theorem flat_inv {l : List α} {k : Nat} {u : Value} (h : (l.flatMap E.put)[k]? = some u) : ∃ i j x, k = i * E.z + j ∧ j < E.z ∧ l[i]? = some x ∧ (E.put x)[j]? = some u := by
  have hk : k < l.length * E.z := by
    have := (List.getElem?_eq_some_iff.1 h).1
    rwa [flat_len] at this
  have hi : k / E.z < l.length := (Nat.div_lt_iff_lt_mul E.pos).2 hk
  have hj := Nat.mod_lt k E.pos
  have hd : k = k / E.z * E.z + k % E.z := by have := Nat.div_add_mod k E.z; rw [Nat.mul_comm] at this; exact this.symm
  refine ⟨k / E.z, k % E.z, l[k / E.z], hd, hj, List.getElem?_eq_getElem hi, ?_⟩
  rw [← flat_at l (k / E.z) (k % E.z) _ (List.getElem?_eq_getElem hi) hj, ← hd]; exact h
theorem flat_one (l : List α) : ∀ u ∈ l.flatMap E.put, u.oneCell' = true := fun u hu => by
  obtain ⟨x, _, hx⟩ := List.mem_flatMap.1 hu
  exact E.one x u hx
theorem flat_set : ∀ (l : List α) (i j : Nat) (x y : α) (u : Value), l[i]? = some x → j < E.z → E.put y = (E.put x).set j u → (l.flatMap E.put).set (i * E.z + j) u = (l.set i y).flatMap E.put
  | [], i, j, x, y, u, h, _, _ => by simp at h
  | a :: r, 0, j, x, y, u, h, hj, e => by
    simp at h; subst h
    rw [Nat.zero_mul, Nat.zero_add, List.set_cons_zero, List.flatMap_cons, List.flatMap_cons, e, List.set_append_left _ _ (by rw [E.len]; exact hj)]
  | a :: r, i + 1, j, x, y, u, h, hj, e => by
    simp at h
    rw [List.set_cons_succ, List.flatMap_cons, List.flatMap_cons, List.set_append_right _ _ (by rw [E.len, Nat.add_mul]; omega), E.len, show (i + 1) * E.z + j - E.z = i * E.z + j from by rw [Nat.add_mul]; omega, flat_set r i j x y u h hj e]
/-- The cells of the elements from place 'off' of block b on. -/
def AtG (E : Lay α) (w : World) (b off : Nat) (l : List α) : Prop := ∀ i x, l[i]? = some x → ∀ j u, (E.put x)[j]? = some u → w.cell? ⟨b, off + i * E.z + j, none⟩ = some u
/-- The slice v reads as the list l. -/
def SlG (E : Lay α) (w : World) (v : Value) (l : List α) : Prop :=
  ∃ A cap, v = .slice A l.length cap ∧ l.length ≤ cap ∧ cap ≤ maxLen ∧ (l = [] ∨ ∃ b off, A = some ⟨b, off, none⟩ ∧ b < w.heap.size ∧ AtG E w b off l)
/-- The call's own slice v reads as l. -/
def OwnG (E : Lay α) (T : TypeId) (B : Nat) (w : World) (v : Value) (l : List α) : Prop := w.ownsRow B T E.z v l.length (l.flatMap E.put)
variable {w w' : World} {v : Value} {l m : List α} {b off B B' T : Nat}
theorem AtG.below (h : AtG E w b off l) (hb : b < w.heap.size) (h' : Below w.heap.size w w') : AtG E w' b off l := fun i x hx j u hu => (h'.cell (p := ⟨b, _, none⟩) hb).trans (h i x hx j u hu)
theorem SlG.below (h : SlG E w v l) (h' : Below w.heap.size w w') : SlG E w' v l := by
  obtain ⟨A, cap, h1, h2, h3, h4⟩ := h
  exact ⟨A, cap, h1, h2, h3, h4.imp id fun ⟨b, off, e, hb, hc⟩ => ⟨b, off, e, Nat.lt_of_lt_of_le hb h'.size, hc.below hb h'⟩⟩
theorem SlG.shape (h : SlG E w v l) : ∃ A c, v = .slice A l.length c := by
  obtain ⟨A, c, e, _⟩ := h
  exact ⟨A, c, e⟩
theorem SlG.caps {A : Option Addr} {n c : Nat} (h : SlG E w (.slice A n c) l) : l.length ≤ c ∧ c ≤ 9223372036854775807 := by
  obtain ⟨A', c', e, h1, h2, _⟩ := h
  injection e with _ _ e3
  unfold maxLen at h2
  omega
theorem SlG.nil (w : World) : SlG E w (.slice none 0 0) [] := ⟨none, 0, rfl, Nat.le_refl _, by decide, .inl rfl⟩
theorem SlG.zero {A : Option Addr} {c : Nat} (hc : c ≤ maxLen) : SlG E w (.slice A 0 c) [] := ⟨A, c, rfl, Nat.zero_le _, hc, .inl rfl⟩
/-- Where element k lies, and its cells. -/
theorem SlG.at_ {A : Option Addr} {n c k : Nat} {x : α} (h : SlG E w (.slice A n c) l) (hk : l[k]? = some x) : ∃ b off, A = some ⟨b, off, none⟩ ∧ b < w.heap.size ∧ ∀ j u, (E.put x)[j]? = some u → w.cell? ⟨b, off + k * E.z + j, none⟩ = some u := by
  obtain ⟨A', c', e, _, _, h3⟩ := h
  injection e with e1 _ _
  subst e1
  rcases h3 with h3 | ⟨b, off, rfl, hb, hat⟩
  · subst h3; simp at hk
  · exact ⟨b, off, rfl, hb, hat k x hk⟩
theorem SlG.take {A : Option Addr} {n cap k : Nat} (h : SlG E w (.slice A n cap) l) (hk : k ≤ l.length) : SlG E w (.slice A k cap) (l.take k) := by
  obtain ⟨A', cap', e, h1, h2, h3⟩ := h
  injection e with e1 _ e3
  subst e1 e3
  have hl : (l.take k).length = k := by rw [List.length_take]; omega
  refine ⟨A, cap, by rw [hl], by omega, h2, ?_⟩
  rcases h3 with h3 | ⟨b, off, e, hb, hat⟩
  · exact .inl (by rw [h3]; simp)
  · refine .inr ⟨b, off, e, hb, fun i x hx => hat i x ?_⟩
    rw [List.getElem?_take] at hx
    split at hx
    · exact hx
    · cases hx
theorem SlG.drop {b off n cap k : Nat} (h : SlG E w (.slice (some ⟨b, off, none⟩) n cap) l) (hk : k ≤ l.length) : SlG E w (.slice (some ⟨b, off + k * E.z, none⟩) (l.length - k) (cap - k)) (l.drop k) := by
  obtain ⟨A', cap', e, h1, h2, h3⟩ := h
  injection e with e1 _ e3
  subst e1 e3
  have hl : (l.drop k).length = l.length - k := List.length_drop
  refine ⟨_, cap - k, by rw [hl], by omega, by omega, ?_⟩
  rcases h3 with h3 | ⟨b', off', e, hb, hat⟩
  · exact .inl (by rw [h3]; simp)
  · cases e
    refine .inr ⟨b, off + k * E.z, rfl, hb, fun i x hx j u hu => ?_⟩
    rw [List.getElem?_drop] at hx
    have := hat (k + i) x hx j u hu
    rw [Nat.add_mul, ← Nat.add_assoc] at this
    exact this
theorem ownG_ext {d : Nat} {os : Array Obj} (h : OwnG E T B w v l) : OwnG E T B (ext w d os) v l := by
  refine ⟨h.1, ?_⟩
  rcases h.2 with h' | ⟨g, cap, cur, h1, h2, h3, h4⟩
  · exact .inl h'
  · refine .inr ⟨g, cap, cur, h1, h2, ?_, h4⟩
    have hg : g < w.heap.size := by
      rcases Nat.lt_or_ge g w.heap.size with hlt | hge
      · exact hlt
      · rw [Array.getElem?_eq_none hge] at h3; cases h3
    rw [ext_get hg]; exact h3
theorem ownG_below (h : OwnG E T B w v l) (hb : Below w.heap.size w w') : OwnG E T B w' v l := by
  obtain ⟨d, os, rfl⟩ := ext_of_below hb
  exact ownG_ext h
theorem ownG_mono (h : OwnG E T B w v l) (hB : B' ≤ B) : OwnG E T B' w v l :=
  ⟨h.1, h.2.imp id fun ⟨g, c, cur, e1, e2, e3⟩ => ⟨g, c, cur, e1, Nat.le_trans hB e2, e3⟩⟩
theorem ownG_alloc (h : OwnG E T B w v l) (o : Obj) : OwnG E T B (w.alloc o) v l := World.ownsRow.alloc h o
theorem ownG_block (h : OwnG E T B w v l) : ∀ j, v.ownBlock = some j → B ≤ j ∧ j < w.heap.size := fun j hj => h.lt j hj
theorem ownG_re {R d d' : Nat} {u u' : Value} {os : Array Obj} (h : OwnG E T B (ext (w.setCell ⟨R, 1, none⟩ u) d os) v l) (hR : R < B) : OwnG E T B (ext (w.setCell ⟨R, 1, none⟩ u') d' os) v l := by
  refine ⟨h.1, h.2.imp id fun ⟨g, c, cur, e1, e2, e3, e4⟩ => ⟨g, c, cur, e1, e2, ?_, e4⟩⟩
  rw [← e3]
  simp only [ext, World.setCell, Array.getElem?_append, Array.size_modify, Array.getElem?_modify]
  rw [if_neg (show ¬ R = g from by omega), if_neg (show ¬ R = g from by omega)]
theorem ownG_re2 {R d d' : Nat} {u u' : Value} {os os' : Array Obj} (h : OwnG E T B (ext (w.setCell ⟨R, 1, none⟩ u) d os) v l) (hR : R < B) : OwnG E T B (ext (w.setCell ⟨R, 1, none⟩ u') d' (os ++ os')) v l := by
  rw [← ext_ext (d := d')]
  exact ownG_ext (ownG_re h hR)
theorem ownG_none (B : Nat) (w : World) : OwnG E T B w (.slice none 0 0) [] := World.ownsRow_nil w B T E.z
theorem ownG_empty {g : Nat} (W : World) (hg : g = W.heap.size) (hB : B ≤ W.heap.size) : OwnG E T B (W.alloc (.cells #[] T)) (.slice (some ⟨g, 0, none⟩) 0 0) [] := by
  subst hg
  exact World.ownsRow_made W #[] 0 hB (by decide) (by simp)
theorem ownG_shape (h : OwnG E T B w v l) : ∃ A c, v = .slice A l.length c := by
  rcases h.2 with ⟨rfl, e⟩ | ⟨g, c, cur, rfl, _⟩
  · exact ⟨none, 0, by rw [e]⟩
  · exact ⟨_, c, rfl⟩
theorem ownG_sl (h : OwnG E T B w v l) : SlG E w v l := by
  have h' := h
  rcases h.2 with ⟨rfl, h0⟩ | ⟨g, c, cur, rfl, _, hg, h1, h2, _⟩
  · have h0 : l.length = 0 := h0
    exact ⟨none, 0, by rw [h0], by omega, by decide, .inl (List.length_eq_zero_iff.1 h0)⟩
  · refine ⟨_, c, rfl, h1, h2, .inr ⟨g, 0, rfl, ?_, fun i x hx j u hu => ?_⟩⟩
    · rcases Nat.lt_or_ge g w.heap.size with h | h
      · exact h
      · rw [Array.getElem?_eq_none h] at hg; cases hg
    · have hi : i < l.length := (List.getElem?_eq_some_iff.1 hx).1
      have hj : j < E.z := by rw [← E.len x]; exact (List.getElem?_eq_some_iff.1 hu).1
      have hlt : i * E.z + j < l.length * E.z := by
        have : (i + 1) * E.z ≤ l.length * E.z := Nat.mul_le_mul_right _ hi
        rw [Nat.add_mul] at this; omega
      rw [Nat.zero_add, h'.cellAt _ hlt, flat_at l i j x hx hj, hu]
/-- What the program says of an element's type and of its slices' type. -/
structure Fit (P : Program) (E : Lay α) (t e : TypeId) : Prop where
  ht : P.underlying t = some (.slice e)
  hi : ∃ i z0 bytes, P.info? e = some i ∧ i.zero = some z0 ∧ i.size = E.z ∧ i.bytes = bytes ∧ z0.cells.size = E.z ∧ bytes ≤ 1000
/-- What an append leaves: the longer list, in the old row or in a new block. -/
def AppG (E : Lay α) (T : TypeId) (W : World) (B : Nat) (v : Value) (l : List α) (v' : Value) (w' : World) : Prop :=
  OwnG E T B w' v' l ∧ W.grownBy w' v.ownBlock ∧ (v'.ownBlock = v.ownBlock ∨ v'.ownBlock = some W.heap.size)
theorem run_appG {P : Program} {t e : TypeId} (hf : Fit P E t e) (W : World) (ty : TypeId) (hown : OwnG E e B W v l) {u : Value} (h0 : SlG E W u m) (hl : l.length + m.length ≤ 1048600) (hB : B ≤ W.heap.size) :
    ∃ v' w', (Builtin.append_ #[t, t] ty #[v, u]).run P W = .ok v' w' ∧ AppG E e W B v (l ++ m) v' w' := by
  obtain ⟨i0, z0, bytes, hi, hz0, hz1, hz2, hz3, hz4⟩ := hf.hi
  obtain ⟨A, cap, rfl, h1, h2, h3⟩ := h0
  cases A with
  | none =>
    have hm : m = [] := by
      rcases h3 with h3 | ⟨b, off, e, _⟩
      · exact h3
      · cases e
    subst hm
    refine ⟨v, W, ?_, by rw [List.append_nil]; exact hown, World.grownBy.refl _ _, .inl rfl⟩
    rcases hown.2 with ⟨rfl, _⟩ | ⟨g, c, cur, rfl, _, _, hnc, _⟩
    · simp [Builtin.append_, run_underlying hf.ht, sizeOf, typeInfo, hi, Builtin.lenOf, Builtin.firstCells]
    · simp [Builtin.append_, run_underlying hf.ht, sizeOf, typeInfo, hi, Builtin.lenOf, Builtin.firstCells, hnc, storeCells]
  | some ad =>
    obtain ⟨v', w', hr, ho, hg, _, hat⟩ := run_append_own_at (P := P) W B t ty e i0 z0 E.z bytes hf.ht hi hz0 hz1 hz2 hz3 E.pos v l.length _ hown ad m.length cap (m.flatMap E.put) (flat_len m)
      (by
        intro k y hk
        rcases h3 with h3 | ⟨b, off, e, hb, hat⟩
        · subst h3; simp at hk
        · cases e
          obtain ⟨i, j, x, rfl, hj, hx, hu⟩ := flat_inv hk
          rw [Addr.add_lit, ← Nat.add_assoc]
          exact hat i x hx j y hu)
      (flat_one m) (by unfold maxLen; omega) (by have : (l.length + m.length) * bytes ≤ 1048600 * 1000 := Nat.mul_le_mul hl hz4; omega) hB
    refine ⟨v', w', hr, ?_, hg, hat⟩
    unfold OwnG
    rw [List.length_append, List.flatMap_append]
    exact ho
theorem wp_run_app {P : Program} {o : Oper} {a : Act} {w : World} {K : Act → World → Prop} {Q : Exit → Act → World → Prop} (s x : Operand) (t : TypeId)
    (ho : o.op = .call { callee := .builtin .append, args := #[s, x], argTypes := #[t, t] }) {v u : Value} (hs : a.eval s = v) (hx : a.eval x = u) {v' : Value} {w' : World}
    (hr : (Builtin.append_ #[t, t] o.type #[v, u]).run P w = .ok v' w') (h : K (a.put o.dst v') w') : o.wp P a w K Q := by
  unfold Oper.wp execOp
  simp only [ho, resolve, invoke, builtin, Sem.run_bind, Sem.run_pure, Result.andThen_ok, List.map_toArray, List.map_cons, List.map_nil, hs, hx, hr]
  exact h
variable {P : Program} {t e : TypeId} {ops : Array Oper} {rest : List Oper} {o : Oper} {a : Act} {Q : Exit → Act → World → Prop} {K : Act → World → Prop} {E0 : Prop}
theorem wpList_appG (hf : Fit P E t e) (W : World) (hgd : o.guard = none) (s x : Operand) (ho : o.op = .call { callee := .builtin .append, args := #[s, x], argTypes := #[t, t] })
    (B : Nat) (v : Value) (l : List α) (hs : a.eval s = v) (hown : OwnG E e B W v l) (u : Value) (m : List α) (hx : a.eval x = u) (h0 : SlG E W u m) (hl : l.length + m.length ≤ 1048600) (hB : B ≤ W.heap.size)
    (h : ∀ v' w', AppG E e W B v (l ++ m) v' w' → Below B W w' → wpList P ops Q rest (a.put o.dst v') w') : wpList P ops Q (o :: rest) a W := by
  obtain ⟨v', w', hr, ha⟩ := run_appG hf W o.type hown h0 hl hB
  exact wpList_plain hgd fun _ hK => wp_run_app s x t ho hs hx hr (hK _ _ (h v' w' ha (Below.grown (Below.refl _ _) ha.2.1 hB (fun j hj => (hown.lt j hj).1))))
theorem step_appG (hf : Fit P E t e) (W : World) (hgd : o.guard = none) (s x : Operand) (ho : o.op = .call { callee := .builtin .append, args := #[s, x], argTypes := #[t, t] })
    (B : Nat) (v : Value) (l : List α) (hs : a.eval s = v) (hown : OwnG E e B W v l) (u : Value) (m : List α) (hx : a.eval x = u) (h0 : SlG E W u m) (hl : l.length + m.length ≤ 1048600) (hB : B ≤ W.heap.size)
    (h : ∀ v' w', AppG E e W B v (l ++ m) v' w' → Below B W w' → K (a.put o.dst v') w') : if Region.wanted o (yielded ops a.tmps) = true then Oper.wp P o a W K Q else E0 := by
  rw [if_pos (by simp [Region.wanted, hgd])]
  obtain ⟨v', w', hr, ha⟩ := run_appG hf W o.type hown h0 hl hB
  exact wp_run_app s x _ ho hs hx hr (h v' w' ha (Below.grown (Below.refl _ _) ha.2.1 hB (fun j hj => (hown.lt j hj).1)))
/-- A literal slice of one element. -/
theorem slG_one {W : World} {g : Nat} {x : α} (hg : g < W.heap.size) (h : ∀ j u, (E.put x)[j]? = some u → W.cell? ⟨g, j, none⟩ = some u) : SlG E W (.slice (some ⟨g, 0, none⟩) 1 1) [x] :=
  ⟨_, 1, rfl, Nat.le_refl _, by decide, .inr ⟨g, 0, rfl, hg, fun i y hy j u hu => by
    have hi : i = 0 := by
      have := (List.getElem?_eq_some_iff.1 hy).1
      simp at this; omega
    subst hi
    simp at hy; subst hy
    simpa using h j u hu⟩⟩
/-- A store into an element of a row of the call's own. -/
theorem ownG_store {A : Option Addr} {n c i j : Nat} {x y : α} {u : Value} (h : OwnG E T B w (.slice A n c) l) (hx : l[i]? = some x) (hj : j < E.z) (hy : E.put y = (E.put x).set j u) : ∃ g, A = some ⟨g, 0, none⟩ ∧ B ≤ g ∧ g < w.heap.size ∧ n = l.length ∧ OwnG E T B (w.setCell ⟨g, i * E.z + j, none⟩ u) (.slice A n c) (l.set i y) := by
  have hi : i < l.length := (List.getElem?_eq_some_iff.1 hx).1
  obtain ⟨A', c', e⟩ := ownG_shape h
  injection e with e1 e2 e3
  subst e2 e3
  rcases h.2 with ⟨e, h0⟩ | ⟨g, c2, cur, e, hB, hg, _⟩
  · have h0 : l.length = 0 := h0
    omega
  · injection e with k1 _ _
    subst k1
    have hlt : g < w.heap.size := by
      rcases Nat.lt_or_ge g w.heap.size with h | h
      · exact h
      · rw [Array.getElem?_eq_none h] at hg; cases hg
    refine ⟨g, rfl, hB, hlt, rfl, ?_⟩
    have h1 := (World.ownsRow.stored h (i * E.z + j) u).1
    rw [flat_set l i j x y u hx hj hy] at h1
    unfold OwnG
    rw [List.length_set]
    exact h1
end
end Go.Proofs.Ytlanbgpmmlnehaa
