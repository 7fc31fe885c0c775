/- Lists of texts: what append does, as a run, at a plain step and at a step of a region that draws its order. -/
import Derived.Test.YtaadobcfijegcaaDoorConcat
import Derived.Maps.AppendAt
set_option linter.unusedSimpArgs false
set_option linter.unusedVariables false
set_option linter.unusedSectionVars false
namespace Go.Proofs.YtaadobcfijegcaaDoor
open Go.RowKit

/-- An append whose run is known, at the operation. -/
theorem wp_app_run {P : Program} {o : Oper} {a : Act} {w : World} {K : Act → World → Prop} {Q : Exit → Act → World → Prop} (s x : Operand) (t : TypeId)
    (ho : o.op = .call { callee := .builtin .append, args := #[s, x], argTypes := #[t, t] }) {v u : Value} (hs : a.eval s = v) (hx : a.eval x = u) {v' : Value} {w' : World}
    (hr : (Builtin.append_ #[t, t] o.type #[v, u]).run P w = .ok v' w') (h : K (a.put o.dst v') w') : o.wp P a w K Q := by
  unfold Oper.wp execOp
  simp only [ho, resolve, invoke, builtin, Sem.run_bind, Sem.run_pure, Result.andThen_ok, List.map_toArray, List.map_cons, List.map_nil, hs, hx, hr]
  exact h
/-- What an append leaves: the longer list, in the old row or in a new block. -/
def AppS (W : World) (B : Nat) (v : Value) (ws : List ByteArray) (v' : Value) (w' : World) : Prop :=
  OwnS B w' v' ws ∧ W.grownBy w' v.ownBlock ∧ (v'.ownBlock = v.ownBlock ∨ v'.ownBlock = some W.heap.size)
theorem run_appSG (W : World) (ty : TypeId) {B : Nat} {v : Value} {ws : List ByteArray} (hown : OwnS B W v ws) {u : Value} {m : List ByteArray} (h0 : SlS W u m) (hl : ws.length + m.length ≤ 1048600) (hB : B ≤ W.heap.size) :
    ∃ v' w', (Builtin.append_ #[33, 33] ty #[v, u]).run Tryd.prog W = .ok v' w' ∧ AppS W B v (ws ++ m) v' w' := by
  obtain ⟨i0, hi, hz0, hz1, hz2⟩ := info_parts infoStr
  obtain ⟨A, cap, rfl, h1, h2, h3⟩ := h0
  cases A with
  | none =>
    have hm : m = [] := by
      rcases h3 with h3 | ⟨b, off, e, _⟩
      · exact h3
      · cases e
    subst hm
    refine ⟨v, W, ?_, by rw [List.append_nil]; exact hown, World.grownBy.refl _ _, .inl rfl⟩
    rcases hown.2 with ⟨rfl, _⟩ | ⟨g, c, cur, rfl, _, _, hnc, _⟩
    · simp [Builtin.append_, run_underlying Tryd.underlying33, sizeOf, typeInfo, hi, Builtin.lenOf, Builtin.firstCells]
    · simp [Builtin.append_, run_underlying Tryd.underlying33, sizeOf, typeInfo, hi, Builtin.lenOf, Builtin.firstCells, hnc, storeCells]
  | some ad =>
    obtain ⟨v', w', hr, ho, hg, _, hat⟩ := run_append_own_at (P := Tryd.prog) W B 33 ty 9 i0 _ 1 16 Tryd.underlying33 hi hz0 hz1 hz2 rfl (by decide) v ws.length _ hown ad m.length cap (m.map Value.string) (by simp)
      (by
        intro j y hj
        rcases h3 with h3 | ⟨b, off, e, hb, hat⟩
        · subst h3; simp at hj
        · cases e
          have hjl : j < m.length := by
            have := (List.getElem?_eq_some_iff.1 hj).1
            simpa using this
          rw [Addr.add_lit, hat j hjl]
          rw [List.getElem?_map, List.getElem?_eq_getElem hjl] at hj
          unfold st
          rw [List.getD_eq_getElem?_getD, List.getElem?_eq_getElem hjl]
          exact hj)
      (by intro y hy; obtain ⟨z, _, rfl⟩ := List.mem_map.1 hy; rfl) (by unfold maxLen; omega) (by omega) hB
    refine ⟨v', w', hr, ?_, hg, hat⟩
    unfold OwnS
    rw [List.length_append, List.map_append]
    exact ho
theorem slS_one {W : World} {g : Nat} {t : ByteArray} (c0 : W.cell? ⟨g, 0, none⟩ = some (.string t)) : SlS W (.slice (some ⟨g, 0, none⟩) 1 1) [t] :=
  ⟨_, 1, rfl, Nat.le_refl _, by decide, .inr ⟨g, 0, rfl, block_lt_of_cell c0, fun i hi => by
    obtain rfl : i = 0 := by simp at hi; omega
    exact c0⟩⟩
section
variable {ops : Array Oper} {rest : List Oper} {o : Oper} {a : Act} {Q : Exit → Act → World → Prop} {K : Act → World → Prop} {E : Prop}
theorem step_appSG (W : World) (hgd : o.guard = none) (s x : Operand) (ho : o.op = .call { callee := .builtin .append, args := #[s, x], argTypes := #[33, 33] })
    (B : Nat) (v : Value) (ws : List ByteArray) (hs : a.eval s = v) (hown : OwnS B W v ws) (u : Value) (m : List ByteArray) (hx : a.eval x = u) (h0 : SlS W u m) (hl : ws.length + m.length ≤ 1048600) (hB : B ≤ W.heap.size)
    (h : ∀ v' w', AppS W B v (ws ++ m) v' w' → Below B W w' → K (a.put o.dst v') w') : if Region.wanted o (yielded ops a.tmps) = true then Oper.wp Tryd.prog o a W K Q else E := by
  rw [if_pos (by simp [Region.wanted, hgd])]
  obtain ⟨v', w', hr, ha⟩ := run_appSG W o.type hown h0 hl hB
  exact wp_app_run s x _ ho hs hx hr (h v' w' ha (Below.grown (Below.refl _ _) ha.2.1 hB (fun j hj => (hown.lt j hj).1)))
end
end Go.Proofs.YtaadobcfijegcaaDoor
