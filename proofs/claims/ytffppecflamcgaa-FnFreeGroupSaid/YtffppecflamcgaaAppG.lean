/- Limits: a list is appended to the call's own list; 'sameLimits'. -/
import Derived.Test.YtffppecflamcgaaAppL
import Derived.Test.YtffppecflamcgaaLimP
import Derived.Deep.RegionHeld3

set_option linter.unusedSimpArgs false
set_option linter.unusedVariables false
set_option linter.unusedSectionVars false
namespace Go.Proofs.Ytffppecflamcgaa
open Go.RowKit

theorem ti_app_lt {l m : List T3} {i : Nat} (h : i < l.length) : ti (l ++ m) i = ti l i := by
  unfold ti
  rw [List.getD_eq_getElem?_getD, List.getD_eq_getElem?_getD, List.getElem?_append_left h]
theorem ti_app_ge {l m : List T3} {i : Nat} (h : l.length ≤ i) : ti (l ++ m) i = ti m (i - l.length) := by
  unfold ti
  rw [List.getD_eq_getElem?_getD, List.getD_eq_getElem?_getD, List.getElem?_append_right h]
theorem row3_app (l m : List T3) : row3 l.length (ti l) ++ row3 m.length (ti m) = row3 (l ++ m).length (ti (l ++ m)) := by
  apply List.ext_getElem?
  intro j
  have hl : (row3 l.length (ti l)).length = l.length * 3 := row3_len
  have hm : (row3 m.length (ti m)).length = m.length * 3 := row3_len
  have hs : (l ++ m).length = l.length + m.length := List.length_append
  by_cases h : j < l.length * 3
  · rw [List.getElem?_append_left (by omega), row3_at h, row3_at (by omega), ti_app_lt (by omega)]
  · rw [List.getElem?_append_right (by omega), hl]
    by_cases h2 : j < (l ++ m).length * 3
    · rw [row3_at h2, row3_at (by omega), ti_app_ge (by omega), show (j - l.length * 3) / 3 = j / 3 - l.length from by omega, show (j - l.length * 3) % 3 = j % 3 from by omega]
    · rw [List.getElem?_eq_none (by omega), List.getElem?_eq_none (by rw [row3_len]; omega)]
theorem wpList_appG {ops : Array Oper} {rest : List Oper} {o : Oper} {a : Act} {Q : Exit → Act → World → Prop} (W : World) (hgd : o.guard = none) (s x : Operand)
    (ho : o.op = .call { callee := .builtin .append, args := #[s, x], argTypes := #[25, 25] })
    (B : Nat) (v : Value) (l : List T3) (hs : a.eval s = v) (hown : Own B W v l) (B2 : Nat) (u : Value) (m : List T3) (hx : a.eval x = u) (h0 : Own B2 W u m) (hl : l.length + m.length ≤ 1000) (hB : B ≤ W.heap.size)
    (h : ∀ v' w', Own B w' v' (l ++ m) → W.grownBy w' v.ownBlock → wpList Try.prog ops Q rest (a.put o.dst v') w') : wpList Try.prog ops Q (o :: rest) a W := by
  obtain ⟨i0, hi, hz0, hz1, hz2⟩ := info_parts infoLim
  have h0' := own_sl3 h0
  rcases h0.2 with ⟨rfl, hm0⟩ | ⟨g, c, cur, rfl, _, hg, hc1, hc2, _⟩
  · have hm : m = [] := List.length_eq_zero_iff.1 hm0
    subst hm
    refine wpList_append_own_none hgd s x 25 ho B 34 i0 3 Try.underlying25 hi v l.length _ hs hown hx ?_
    have := h v W (by rw [List.append_nil]; exact hown) (World.grownBy.refl _ _)
    exact this
  · obtain ⟨A', c', e, h1, h2, h3⟩ := h0'
    refine wpList_append_own _ hgd s x 25 ho B 34 i0 _ 3 24 Try.underlying25 hi hz0 hz1 hz2 rfl (by decide) v l.length _ hs hown ⟨g, 0, none⟩ m.length c (row3 m.length (ti m)) hx row3_len ?c1 row3_one ?c2 ?c3 hB ?_
    case c1 =>
      rcases h3 with h3 | ⟨b, off, e2, hb, ha⟩
      · subst h3; intro j u hj; simp [row3] at hj
      · rw [e2] at e; cases e
        exact row3_news ha
    case c2 => unfold maxLen; omega
    case c3 => omega
    intro v' w' hown' hgr _
    refine h v' w' ?_ hgr
    unfold Own
    rw [row3_app] at hown'
    rw [List.length_append] at hown' ⊢
    exact hown'
theorem own_one {B : Nat} (W : World) (hB : B ≤ W.heap.size) (a b c : Int) : Own B (W.alloc (.cells #[.int .i64 a, .int .i64 b, .int .i64 c] 34)) (.slice (some ⟨W.heap.size, 0, none⟩) 1 1) [(a, b, c)] := by
  have e : row3 1 (ti [(a, b, c)]) = #[Value.int .i64 a, .int .i64 b, .int .i64 c].toList := by simp [row3, ti, pick3, List.range, List.range.loop]
  unfold Own
  rw [show [(a, b, c)].length = 1 from rfl, e]
  exact World.ownsRow_lit (size := 3) (e := 34) W #[.int .i64 a, .int .i64 b, .int .i64 c] 1 hB (by decide) rfl

@[go_sem] theorem limGuard (op : BinOp) (x y : Operand) (xs ys : Array Value) (w : World) : (eqGuard op 34 x y (.agg xs) (.agg ys)).run Try.prog w = .ok () w :=
  run_eqGuard_agg w op 34 x y xs ys (by kernel_rfl)
@[go_sem] theorem limEq (a b c a' b' c' : Int) (w : World) : (Op.equalIn 10000 34 (.agg #[.int .i64 a, .int .i64 b, .int .i64 c]) (.agg #[.int .i64 a', .int .i64 b', .int .i64 c'])).run Try.prog w = .ok (a == a' && (b == b' && c == c')) w := by
  have u3 := Try.underlying3
  have a3 := Try.isAgg3
  have z3 := Try.sizeOf3
  have hS : Try.prog.underlying 34 = some (.struct (Try.prog.fieldsOf 34)) := by kernel_rfl
  have hp : Try.prog.stoodInHeld 34 = false := by kernel_rfl
  rw [show (10000 : Nat) = 9999 + 1 from rfl, run_equalIn_agg w 9999 34 _ _ hS hp]
  simp only [Program.fieldsOf, Try.underlying34]
  go_simp
  by_cases h1 : a = a' <;> by_cases h2 : b = b' <;> by_cases h3 : c = c' <;> simp [h1, h2, h3]
/-- Two lists that are the same. -/
def eqL (l m : List T3) : Bool := decide (l = m)
set_option maxHeartbeats 1000000 in
theorem sameLimits_of (u v : Value) (l m : List T3) (w : World) (h1 : Sl3 w u l) (h2 : Sl3 w v m) : Calls Try.prog 28 #[u, v] w fun e w' => e = .returned (.bool (eqL l m)) ∧ Below w.heap.size w w' := by
  obtain ⟨A, cap, rfl, a1, a2, a3⟩ := h1
  obtain ⟨A', cap', rfl, b1, b2, b3⟩ := h2
  unfold maxLen at a2 b2
  have HA := Lib.hid a3; clear a3
  have HA' := Lib.hid b3; clear b3
  by_cases hne : l.length = m.length
  · go_enter Try.func28, Try.ntmps28
    go_wp2
    go_loopw [5] (fun i wr => ∃ k : Nat, k ≤ l.length ∧ i = .int .i64 k ∧ (∀ j, j < k → ti l j = ti m j) ∧ Below w.heap.size w wr) (fun i _ => l.length - (intOf i).toNat)
    case atStart => exact ⟨0, Nat.zero_le _, rfl, fun j hj => absurd hj (by omega), Below.refl _ _⟩
    case round =>
      obtain ⟨k, hk, rfl, hall, hbl⟩ := hrel
      have Hall := Lib.hid hall; clear hall
      have hsz : w.heap.size ≤ wr.heap.size := hbl.size
      by_cases hlt : k < l.length
      · obtain ⟨b, off, rfl, hb, hcs⟩ := HA.out.resolve_left (fun e => by subst e; simp at hlt)
        obtain ⟨b', off', rfl, hb', hcs'⟩ := HA'.out.resolve_left (fun e => by subst e; simp only [List.length_nil] at hne; omega)
        have Hcs := Lib.hid hcs; clear hcs
        have Hcs' := Lib.hid hcs'; clear hcs'
        obtain ⟨c1, c2, c3⟩ := (Hcs.out.below hb hbl) k hlt
        obtain ⟨d1, d2, d3⟩ := (Hcs'.out.below hb' hbl) k (by omega)
        have hlt' : k < m.length := by omega
        have Hbl := Lib.hid hbl; clear hbl
        have Hne := Lib.hid hne
        by_cases heq : ti l k = ti m k
        · have f1 : (ti l k).1 = (ti m k).1 := by rw [heq]
          have f2 : (ti l k).2.1 = (ti m k).2.1 := by rw [heq]
          have f3 : (ti l k).2.2 = (ti m k).2.2 := by rw [heq]
          have Heq := Lib.hid heq; clear heq hne
          go_wp2
          go_quiet (fail)
          go_wp2
          go_roundw
          case rel => exact ⟨k + 1, by omega, by go_num, fun j hj => by
            by_cases e : j = k
            · subst e; exact Heq.out
            · exact Hall.out j (by omega), (by (repeat (first | exact Below.refl _ _ | exact Hbl.out | refine Below.ext ?_ (by first | omega | (simp; omega) | simp) | refine Below.setCell ?_ (by first | omega | (simp; omega) | simp) _ | refine Below.alloc ?_ (by first | omega | (simp; omega) | simp) _ | refine Below.drew ?_ | refine below_drewN ?_ _ | refine Below.step (by assumption) (by first | omega | (simp; omega) | simp) ?_)))⟩
          case measure => simp [intOf]; omega
        · have hlm : eqL l m = false := decide_eq_false fun e => heq (by rw [e])
          have Hlm := Lib.hid hlm; clear hlm
          have hor : ¬ (ti l k).1 = (ti m k).1 ∨ ((ti l k).1 = (ti m k).1 ∧ ¬ (ti l k).2.1 = (ti m k).2.1) ∨ ((ti l k).1 = (ti m k).1 ∧ (ti l k).2.1 = (ti m k).2.1 ∧ ¬ (ti l k).2.2 = (ti m k).2.2) := by
            by_cases f1 : (ti l k).1 = (ti m k).1
            · by_cases f2 : (ti l k).2.1 = (ti m k).2.1
              · exact .inr (.inr ⟨f1, f2, fun f3 => heq (Prod.ext f1 (Prod.ext f2 f3))⟩)
              · exact .inr (.inl ⟨f1, f2⟩)
            · exact .inl f1
          clear heq hne
          rcases hor with f1 | ⟨f1, f2⟩ | ⟨f1, f2, f3⟩
          all_goals
            go_wp2
            go_quiet (fail)
            go_wp2
            go_ret
            exact ⟨by rw [Hlm.out]; rfl, (by (repeat (first | exact Below.refl _ _ | exact Hbl.out | refine Below.ext ?_ (by first | omega | (simp; omega) | simp) | refine Below.setCell ?_ (by first | omega | (simp; omega) | simp) _ | refine Below.alloc ?_ (by first | omega | (simp; omega) | simp) _ | refine Below.drew ?_ | refine below_drewN ?_ _ | refine Below.step (by assumption) (by first | omega | (simp; omega) | simp) ?_)))⟩
      · have hlm : eqL l m = true := decide_eq_true (ti_ext hne fun i hi => Hall.out i (by omega))
        have Hlm := Lib.hid hlm; clear hlm
        have Hbl := Lib.hid hbl; clear hbl
        go_wp2
        go_ret
        exact ⟨by rw [Hlm.out]; rfl, (by (repeat (first | exact Below.refl _ _ | exact Hbl.out | refine Below.ext ?_ (by first | omega | (simp; omega) | simp) | refine Below.setCell ?_ (by first | omega | (simp; omega) | simp) _ | refine Below.alloc ?_ (by first | omega | (simp; omega) | simp) _ | refine Below.drew ?_ | refine below_drewN ?_ _ | refine Below.step (by assumption) (by first | omega | (simp; omega) | simp) ?_)))⟩
  · have hlm : eqL l m = false := decide_eq_false fun e => hne (by rw [e])
    have Hlm := Lib.hid hlm; clear hlm
    have hne' : ¬ (l.length : Int) = (m.length : Int) := by omega
    go_enter Try.func28, Try.ntmps28
    go_wp2
    go_ret
    exact ⟨by rw [Hlm.out]; rfl, Below.refl _ _⟩
end Go.Proofs.Ytffppecflamcgaa
