/- Limits: one limit is appended to the call's own list. -/
import Derived.Test.YtffppecflamcgaaUse
set_option linter.unusedSimpArgs false
set_option linter.unusedVariables false
set_option linter.unusedSectionVars false
namespace Go.Proofs.Ytffppecflamcgaa
open Go.RowKit

theorem ti_snoc_lt {l : List T3} {x : T3} {i : Nat} (h : i < l.length) : ti (l ++ [x]) i = ti l i := by
  unfold ti
  rw [List.getD_eq_getElem?_getD, List.getD_eq_getElem?_getD, List.getElem?_append_left h]
theorem ti_snoc {l : List T3} {x : T3} : ti (l ++ [x]) l.length = x := by
  unfold ti
  rw [List.getD_eq_getElem?_getD, List.getElem?_append_right (Nat.le_refl _)]; simp
theorem row3_snoc (l : List T3) (x0 x1 x2 : Int) : row3 l.length (ti l) ++ [.int .i64 x0, .int .i64 x1, .int .i64 x2] = row3 (l.length + 1) (ti (l ++ [(x0, x1, x2)])) := by
  apply List.ext_getElem?
  intro j
  have hl : (row3 l.length (ti l)).length = l.length * 3 := row3_len
  by_cases h : j < l.length * 3
  · rw [List.getElem?_append_left (by omega), row3_at h, row3_at (by omega), ti_snoc_lt (by omega)]
  · rw [List.getElem?_append_right (by omega), hl]
    by_cases h2 : j < (l.length + 1) * 3
    · rw [row3_at h2, show j / 3 = l.length from by omega, ti_snoc]
      have hc : j - l.length * 3 = 0 ∨ j - l.length * 3 = 1 ∨ j - l.length * 3 = 2 := by omega
      rcases hc with e | e | e
      · rw [e, show j % 3 = 0 from by omega]; rfl
      · rw [e, show j % 3 = 1 from by omega]; rfl
      · rw [e, show j % 3 = 2 from by omega]; rfl
    · rw [List.getElem?_eq_none (by simp; omega), List.getElem?_eq_none (by rw [row3_len]; omega)]
theorem wpList_app1 {ops : Array Oper} {rest : List Oper} {o : Oper} {a : Act} {Q : Exit → Act → World → Prop} (W : World) (hgd : o.guard = none) (s x : Operand)
    (ho : o.op = .call { callee := .builtin .append, args := #[s, x], argTypes := #[25, 25] })
    (B : Nat) (v : Value) (l : List T3) (hs : a.eval s = v) (hown : Own B W v l) (hl : l.length ≤ 1000) (hB : B ≤ W.heap.size) (g : Nat) (hx : a.eval x = .slice (some ⟨g, 0, none⟩) 1 1) (x0 x1 x2 : Int)
    (c0 : W.cell? ⟨g, 0, none⟩ = some (.int .i64 x0)) (c1 : W.cell? ⟨g, 1, none⟩ = some (.int .i64 x1)) (c2 : W.cell? ⟨g, 2, none⟩ = some (.int .i64 x2))
    (h : ∀ v' w', Own B w' v' (l ++ [(x0, x1, x2)]) → W.grownBy w' v.ownBlock → wpList Try.prog ops Q rest (a.put o.dst v') w') : wpList Try.prog ops Q (o :: rest) a W := by
  obtain ⟨i0, hi, hz0, hz1, hz2⟩ := info_parts infoLim
  refine wpList_append_own _ hgd s x 25 ho B 34 i0 _ 3 24 Try.underlying25 hi hz0 hz1 hz2 rfl (by decide) v l.length _ hs hown ⟨g, 0, none⟩ 1 1 [.int .i64 x0, .int .i64 x1, .int .i64 x2] hx rfl ?c1 ?c0 ?c2 ?c3 hB ?_
  case c0 => intro u hu; simp at hu; rcases hu with rfl | rfl | rfl <;> rfl
  case c1 =>
    intro j u hj
    match j, hj with
    | 0, hj => simp at hj; subst hj; exact c0
    | 1, hj => simp at hj; subst hj; exact c1
    | 2, hj => simp at hj; subst hj; exact c2
  case c2 => unfold maxLen; omega
  case c3 => omega
  intro v' w' hown' hg _
  refine h v' w' ?_ hg
  unfold Own
  rw [row3_snoc] at hown'
  rw [List.length_append]
  exact hown'
theorem chargeF_len {l : List T3} {n d : Int} (h : (chargeF l n d).2 = true) : (chargeF l n d).1.length = l.length := by
  unfold chargeF at h ⊢
  split at h
  · cases h
  · split at h
    · cases h
    · next h1 h2 => rw [if_neg h1, if_neg h2]; exact chgL_len _ _ _
end Go.Proofs.Ytffppecflamcgaa
