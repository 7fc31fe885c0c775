/- Paths: lists of texts are appended; slices.Grow and slices.Concat on texts. -/
import Derived.Test.YtaadobcfijegcaaDoorInside
import Derived.Laws.AppendOwnNone
import Derived.Lib.AppendZeros
set_option linter.unusedSimpArgs false
set_option linter.unusedVariables false
set_option linter.unusedSectionVars false
namespace Go.Proofs.YtaadobcfijegcaaDoor
open Go.RowKit

theorem wpList_appSG {ops : Array Oper} {rest : List Oper} {o : Oper} {a : Act} {Q : Exit → Act → World → Prop} (W : World) (hgd : o.guard = none) (s x : Operand)
    (ho : o.op = .call { callee := .builtin .append, args := #[s, x], argTypes := #[33, 33] })
    (B : Nat) (v : Value) (ws : List ByteArray) (hs : a.eval s = v) (hown : OwnS B W v ws) (u : Value) (m : List ByteArray) (hx : a.eval x = u) (h0 : SlS W u m) (hl : ws.length + m.length ≤ 1048600) (hB : B ≤ W.heap.size)
    (h : ∀ v' w', OwnS B w' v' (ws ++ m) → W.grownBy w' v.ownBlock → wpList Tryd.prog ops Q rest (a.put o.dst v') w') : wpList Tryd.prog ops Q (o :: rest) a W := by
  obtain ⟨i0, hi, hz0, hz1, hz2⟩ := info_parts infoStr
  obtain ⟨A, cap, rfl, h1, h2, h3⟩ := h0
  cases A with
  | none =>
    have hm : m = [] := by
      rcases h3 with h3 | ⟨b, off, e, _⟩
      · exact h3
      · cases e
    subst hm
    have hr : ∀ ty, (Builtin.append_ #[33, 33] ty #[v, .slice none ([] : List ByteArray).length cap]).run Tryd.prog W = .ok v W := fun ty => by
      rcases hown.2 with ⟨rfl, _⟩ | ⟨g, c, cur, rfl, _, _, hnc, _⟩
      · simp [Builtin.append_, run_underlying Tryd.underlying33, sizeOf, typeInfo, hi, Builtin.lenOf, Builtin.firstCells]
      · simp [Builtin.append_, run_underlying Tryd.underlying33, sizeOf, typeInfo, hi, Builtin.lenOf, Builtin.firstCells, hnc, storeCells]
    exact Lib.wpList_append_run W hgd s x _ _ ho _ _ hs hx _ _ (hr _) (h v W (by rw [List.append_nil]; exact hown) (World.grownBy.refl _ _))
  | some ad =>
    refine wpList_append_own _ hgd s x 33 ho B 9 i0 _ 1 16 Tryd.underlying33 hi hz0 hz1 hz2 rfl (by decide) v ws.length _ hs hown ad m.length cap (m.map Value.string) hx (by simp) ?c1 ?c0 ?c2 ?c3 hB ?_
    case c0 => intro y hy; obtain ⟨z, _, rfl⟩ := List.mem_map.1 hy; rfl
    case c1 =>
      intro j y hj
      rcases h3 with h3 | ⟨b, off, e, hb, hat⟩
      · subst h3; simp at hj
      · cases e
        have hjl : j < m.length := by
          have := (List.getElem?_eq_some_iff.1 hj).1
          simpa using this
        rw [Addr.add_lit, hat j hjl]
        rw [List.getElem?_map, List.getElem?_eq_getElem hjl] at hj
        unfold st
        rw [List.getD_eq_getElem?_getD, List.getElem?_eq_getElem hjl]
        exact hj
    case c2 => unfold maxLen; omega
    case c3 => omega
    intro v' w' hown' hg _
    refine h v' w' ?_ hg
    unfold OwnS
    rw [List.length_append, List.map_append]
    exact hown'
set_option maxHeartbeats 1000000 in
theorem growS_any (n : Nat) (hn : n ≤ 1048600) (w : World) : Calls Tryd.prog 80 #[.slice none 0 0, .int .i64 n] w fun e w' => ∃ v, e = .returned v ∧ OwnS w.heap.size w' v [] ∧ Below w.heap.size w w' := by
  by_cases h0 : n = 0
  · subst h0
    go_enter Tryd.func80, Tryd.ntmps80
    go_wp2
    go_ret
    exact ⟨_, rfl, own_none _ _, Below.refl _ _⟩
  · obtain ⟨i0, hi, hz0, hz1, hz2⟩ := info_parts infoStr
    have hr := fun ty => Lib.run_append_nil_zeros (P := Tryd.prog) w 33 3 ty 9 i0 _ .i64 .i64 Tryd.underlying33 Tryd.underlying3 hi hz0 n (by omega) (by omega) (by omega) (by rw [hz2]; omega)
    have hge := grownCap_ge w n 0 9
    have hle := grownCap_le_maxLen w n 0 9 (by unfold maxLen; omega)
    generalize grownCap w n 0 9 = G at hr hge hle
    have hown : OwnS w.heap.size (w.drew.alloc (.cells (Builtin.zeroCells (Value.string ByteArray.empty).cells n ++ Builtin.zeroCells (Value.string ByteArray.empty).cells (G - n)) 9)) (.slice (some ⟨w.heap.size, 0, none⟩) 0 G) [] :=
      ⟨rfl, .inr ⟨w.heap.size, G, _, rfl, Nat.le_refl _, heap_alloc_new w.drew _, Nat.zero_le _, hle, by simp [size_zeroCells, Value.cells]; omega, rfl⟩⟩
    have Hown := Lib.hid hown; clear hown
    have hb : Below w.heap.size w (w.drew.alloc (.cells (Builtin.zeroCells (Value.string ByteArray.empty).cells n ++ Builtin.zeroCells (Value.string ByteArray.empty).cells (G - n)) 9)) := (by (repeat (first | exact Below.refl _ _ | exact Hbl.out | refine Below.ext ?_ (by first | omega | (simp; omega) | simp) | refine Below.setCell ?_ (by first | omega | (simp; omega) | simp) _ | refine Below.alloc ?_ (by first | omega | (simp; omega) | simp) _ | refine Below.drew ?_ | refine below_drewN ?_ _ | refine Below.step (by assumption) (by first | omega | (simp; omega) | simp) ?_)))
    have Hb := Lib.hid hb; clear hb
    have hle' : G ≤ 9223372036854775807 := by unfold maxLen at hle; exact hle
    clear hle
    generalize (w.drew.alloc (.cells (Builtin.zeroCells (Value.string ByteArray.empty).cells n ++ Builtin.zeroCells (Value.string ByteArray.empty).cells (G - n)) 9)) = W at hr Hown Hb
    go_enter Tryd.func80, Tryd.ntmps80
    go_wp2_with (at_builtin; refine Lib.wpList_append_run _ rfl _ _ _ _ rfl _ _ rfl rfl _ _ (hr _) ?_)
    all_goals
      go_ret
      exact ⟨_, rfl, Hown.out, Hb.out⟩
end Go.Proofs.YtaadobcfijegcaaDoor
