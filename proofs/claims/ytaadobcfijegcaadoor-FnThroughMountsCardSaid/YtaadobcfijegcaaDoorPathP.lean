/- Paths: plain laws: what is joined is taken apart again. -/
import Derived.Test.YtaadobcfijegcaaDoorFollow
set_option linter.unusedSimpArgs false
set_option linter.unusedVariables false
set_option linter.unusedSectionVars false
namespace Go.Proofs.YtaadobcfijegcaaDoor
open Go.RowKit

theorem nameB_ch {l : List UInt8} (h : nameB l = true) : ∀ c ∈ l, c ≠ 47 ∧ c ≠ 46 := by
  intro c hc
  unfold nameB at h
  rw [Bool.and_eq_true, List.all_eq_true] at h
  obtain ⟨i, hi, rfl⟩ := List.mem_iff_getElem.1 hc
  have h1 := h.1 i (List.mem_range.2 hi)
  have hg : l.getD i 0 = l[i] := by rw [List.getD_eq_getElem?_getD, List.getElem?_eq_getElem hi]; rfl
  rw [hg] at h1
  generalize l[i] = c at h1
  refine ⟨fun e => ?_, fun e => ?_⟩
  · subst e
    revert h1
    unfold chOk
    simp
  · subst e
    revert h1
    unfold chOk
    simp
theorem nameB_ne {l : List UInt8} (h : nameB l = true) : l ≠ [] ∧ l ≠ [46] ∧ l ≠ [46, 46] := by
  refine ⟨fun e => ?_, fun e => ?_, fun e => ?_⟩
  · subst e; exact absurd h (by decide)
  · subst e; exact absurd h (by decide)
  · subst e; exact absurd h (by decide)
theorem spl_plain {x : List UInt8} (h : ∀ c ∈ x, c ≠ 47) : spl x = [x] := by
  induction x with
  | nil => rfl
  | cons c cs ih => exact spl_other (h c (List.mem_cons_self ..)) (ih fun d hd => h d (List.mem_cons_of_mem _ hd))
theorem spl_name {x : List UInt8} (h : nameB x = true) : spl x = [x] := spl_plain fun c hc => (nameB_ch h c hc).1
theorem spl_app2 (l r : List UInt8) : spl (l ++ 47 :: r) = spl l ++ spl r := by
  induction l with
  | nil => rw [List.nil_append, spl_slash]; rfl
  | cons c cs ih =>
    by_cases hc : c = 47
    · subst hc; rw [List.cons_append, spl_slash, spl_slash, ih]; rfl
    · obtain ⟨h, t, e⟩ := spl_ne cs
      rw [List.cons_append, spl_other hc e, spl_other hc (h := h) (t := t ++ spl r) (by rw [ih, e]; rfl)]; rfl
theorem spl_join : ∀ (x : List UInt8) (r : List (List UInt8)), (x :: r).all nameB = true → spl (x ++ joinL r) = x :: r
  | x, [], h => by
    rw [List.all_cons, Bool.and_eq_true] at h
    show spl (x ++ []) = [x]
    rw [List.append_nil]; exact spl_name h.1
  | x, y :: r, h => by
    rw [List.all_cons, Bool.and_eq_true] at h
    show spl (x ++ 47 :: (y ++ joinL r)) = _
    rw [spl_app2, spl_name h.1, spl_join y r h.2]; rfl
/-- What names are joined to is a path, and they are its names. -/
theorem join_ok {ws : List (List UInt8)} (h : namesB ws = true) : okP (joinP ws) = true ∧ partsP (joinP ws) = ws := by
  cases ws with
  | nil => exact partsP_root
  | cons x r =>
    rw [joinP_yes h (by simp)]
    have hall : (x :: r).all nameB = true := by unfold namesB at h; rw [Bool.and_eq_true] at h; exact h.2
    have hs := spl_join x r hall
    have hx : x ≠ [] := by
      rw [List.all_cons, Bool.and_eq_true] at hall
      exact (nameB_ne hall.1).1
    have := partsP_yes (r := x ++ joinL r) (by intro e; exact hx (List.append_eq_nil_iff.1 e).1) (by rw [hs]; exact h)
    rw [hs] at this
    exact this
theorem ok_names {p : List UInt8} (h : okP p = true) : namesB (partsP p) = true ∧ joinP (partsP p) = p := by
  cases p with
  | nil => cases h
  | cons c r =>
    have hc : c = 47 := by
      by_cases hc : c = 47
      · exact hc
      · rw [okP_other hc] at h; cases h
    subst hc
    by_cases hr : r = []
    · subst hr; exact ⟨rfl, rfl⟩
    · have hn : namesB (spl r) = true := by
        rw [okP_slash, beq_eq_false_iff_ne.2 hr, Bool.false_or] at h; exact h
      rw [(partsP_yes hr hn).2]
      exact ⟨hn, by rw [joinP_spl, if_pos hn]⟩
theorem ok_bad {p : List UInt8} (h : okP p = false) : partsP p = [] := partsP_no h
theorem namesB_iff {ws : List (List UInt8)} : namesB ws = true ↔ ws.length ≤ 6 ∧ ∀ x ∈ ws, nameB x = true := by
  unfold namesB
  rw [Bool.and_eq_true, decide_eq_true_eq, List.all_eq_true]
theorem join_bad {ws : List (List UInt8)} (h : joinP ws = []) : namesB ws = false := by
  cases hn : namesB ws
  · rfl
  · have := (join_ok hn).1
    rw [h] at this; cases this
theorem okP_ne {p : List UInt8} (h : okP p = true) : p ≠ [] := fun e => by subst e; cases h
/-- Of two paths one is below the other: by their names. -/
theorem rest_ok {p r : List UInt8} (h1 : okP p = true) (h2 : okP r = true) : restOk p r = prefB (partsP r) (partsP p) := by unfold restOk; rw [h1, h2]; rfl
theorem rest_yes {p r : List UInt8} (h : restOk p r = true) : okP p = true ∧ okP r = true ∧ partsP p = partsP r ++ restP p r := by
  have h0 := h
  unfold restOk prefB at h
  simp only [Bool.and_eq_true, decide_eq_true_eq] at h
  obtain ⟨h1, h2, h3, h4⟩ := h
  refine ⟨h1, h2, ?_⟩
  unfold restP
  rw [if_pos h0]
  conv => lhs; rw [← List.take_append_drop (partsP r).length (partsP p), h4]
theorem prefB_app (a b : List (List UInt8)) : prefB a (a ++ b) = true := by
  unfold prefB
  simp
theorem names_app {a b : List (List UInt8)} (h : namesB (a ++ b) = true) : namesB a = true ∧ namesB b = true := by
  rw [namesB_iff] at h ⊢
  rw [namesB_iff]
  rw [List.length_append] at h
  exact ⟨⟨by omega, fun x hx => h.2 x (List.mem_append_left _ hx)⟩, ⟨by omega, fun x hx => h.2 x (List.mem_append_right _ hx)⟩⟩
/-- The path inside, outside again. -/
theorem below_inside {r p : List UInt8} (h : restOk p r = true) : belowF r (insideF r p) = p := by
  obtain ⟨h1, h2, h3⟩ := rest_yes h
  have hn := (ok_names h1).1
  rw [h3] at hn
  have hj := join_ok (names_app hn).2
  unfold belowF insideF
  rw [if_pos h, hj.1, h2, show (true && true) = true from rfl, if_pos rfl, hj.2, ← h3]
  exact (ok_names h1).2
/-- The path outside is below the root, and inside again. -/
theorem inside_below {r p : List UInt8} (h : belowF r p ≠ []) : restOk (belowF r p) r = true ∧ insideF r (belowF r p) = p := by
  unfold belowF at h ⊢
  cases h1 : okP p
  · rw [h1] at h; exact absurd rfl h
  · cases h2 : okP r
    · rw [h1, h2] at h; exact absurd rfl h
    · rw [h1, h2] at h
      rw [show (true && true) = true from rfl, if_pos rfl] at h ⊢
      have hn : namesB (partsP r ++ partsP p) = true := by
        cases hn : namesB (partsP r ++ partsP p)
        · rw [joinP_no hn] at h; exact absurd rfl h
        · rfl
      have hj := join_ok hn
      have hr : restOk (joinP (partsP r ++ partsP p)) r = true := by
        rw [rest_ok hj.1 h2, hj.2]; exact prefB_app _ _
      refine ⟨hr, ?_⟩
      unfold insideF
      rw [if_pos hr]
      have h3 := (rest_yes hr).2.2
      rw [hj.2] at h3
      rw [← List.append_cancel_left h3]
      exact (ok_names h1).2
theorem below_self (a : List UInt8) : restOk a a = okP a := by
  unfold restOk
  cases okP a
  · rfl
  · simp [prefB]
theorem below_root (a : List UInt8) : restOk a [47] = okP a := by
  unfold restOk
  rw [partsP_root.1, partsP_root.2]
  cases okP a
  · rfl
  · simp [prefB]
theorem below_both {a b : List UInt8} (h1 : restOk a b = true) (h2 : restOk b a = true) : a = b := by
  obtain ⟨a1, b1, e1⟩ := rest_yes h1
  obtain ⟨_, _, e2⟩ := rest_yes h2
  have hl := congrArg List.length e1
  have hl2 := congrArg List.length e2
  rw [List.length_append] at hl hl2
  have hz : restP a b = [] := List.length_eq_zero_iff.1 (by omega)
  rw [hz, List.append_nil] at e1
  rw [← (ok_names a1).2, ← (ok_names b1).2, e1]
/-- A word of a valid way that is put behind names: names. -/
theorem put_names {ps qs : List (List UInt8)} {x : List UInt8} (hw : wordB x = true) (h : namesB ps = true) (e : putW ps x = some qs) : namesB qs = true := by
  rw [namesB_iff] at h ⊢
  rcases put_cases ps x with ⟨_, d⟩ | ⟨_, _, _, d⟩ | ⟨_, _, _, _, d⟩ | ⟨d1, d2, d3, d4, d⟩
  · rw [d] at e; cases e; exact h
  · rw [d] at e; cases e
    exact ⟨by rw [List.length_dropLast]; omega, fun y hy => h.2 y (by rw [List.dropLast_eq_take] at hy; exact List.mem_of_mem_take hy)⟩
  · rw [d] at e; cases e
  · rw [d] at e; cases e
    have hx : nameB x = true := by
      rcases wordB_cases x with ⟨k, _⟩ | ⟨_, k, _⟩ | ⟨_, _, k, _⟩ | ⟨_, _, _, k⟩
      · exact absurd k d1
      · exact absurd k d2
      · exact absurd k d3
      · rw [← k]; exact hw
    refine ⟨by rw [List.length_append, List.length_singleton]; omega, fun y hy => ?_⟩
    rcases List.mem_append.1 hy with hy | hy
    · exact h.2 y hy
    · rw [List.mem_singleton.1 hy]; exact hx
theorem puts_names : ∀ (ws ps qs : List (List UInt8)), ws.all wordB = true → namesB ps = true → putWs ps ws = some qs → namesB qs = true
  | [], ps, qs, _, h, e => by cases e; exact h
  | x :: r, ps, qs, hw, h, e => by
    rw [List.all_cons, Bool.and_eq_true] at hw
    have e' : (match putW ps x with | some q => putWs q r | none => none) = some qs := e
    cases hp : putW ps x with
    | none => rw [hp] at e'; cases e'
    | some q => rw [hp] at e'; exact puts_names r q qs hw.2 (put_names hw.1 h hp) e'
theorem begin_names (f y : List UInt8) : namesB (beginP f y) = true := by
  unfold beginP
  split
  · rfl
  · cases h : okP f
    · rw [partsP_no h]; rfl
    · exact (ok_names h).1
/-- Where a way leads: to a path, or nowhere. -/
theorem follow_path (f y : List UInt8) : followF f y = [] ∨ okP (followF f y) = true := by
  unfold followF
  split
  · next h =>
    rw [Bool.and_eq_true] at h
    have hw : (spl y).all wordB = true := by
      have := h.2
      unfold wayB at this
      rw [Bool.and_eq_true] at this
      exact this.2
    cases e : putWs (beginP f y) (spl y) with
    | none => exact .inl rfl
    | some qs => exact .inr (join_ok (puts_names _ _ _ hw (begin_names f y) e)).1
  · exact .inl rfl
theorem follow_point {f : List UInt8} (h : okP f = true) : followF f [46] = f := by
  unfold followF
  rw [h, show wayB [46] = true from by decide]
  show endW (putWs (beginP f [46]) [[46]]) = f
  rw [show beginP f [46] = partsP f from rfl]
  show joinP (partsP f) = f
  exact (ok_names h).2
theorem follow_root {f y : List UInt8} (h : okP f = true) (hy : Lib.hasPrefix y [47] = true) : followF [47] y = followF f y := by
  unfold followF beginP
  rw [h, hy, partsP_root.1]
  rfl
/-- The path above, and the last name. -/
def aboveF (s : List UInt8) : List UInt8 := if okP s = true ∧ partsP s ≠ [] then joinP (partsP s).dropLast else []
def lastF (s : List UInt8) : List UInt8 := if okP s = true ∧ partsP s ≠ [] then (partsP s).getLastD [] else []
def aboveOk (s : List UInt8) : Bool := okP s && !(partsP s).isEmpty
theorem drop_last : ∀ {ws : List (List UInt8)}, ws ≠ [] → ws.dropLast ++ [ws.getLastD []] = ws
  | [], h => absurd rfl h
  | [a], _ => rfl
  | a :: b :: r, _ => by
    have h := drop_last (ws := b :: r) (by simp)
    rw [List.getLastD_cons] at h
    rw [List.getLastD_cons, List.getLastD_cons, List.dropLast_cons_cons, List.cons_append, h]
theorem put_name {ps : List (List UInt8)} {x : List UInt8} (hx : nameB x = true) (hl : ps.length ≠ 6) : putW ps x = some (ps ++ [x]) := by
  have h := nameB_ne hx
  unfold putW
  rw [if_neg (by simp [h.1, h.2.1]), if_neg h.2.2, if_neg hl]
theorem wayB_name {x : List UInt8} (hx : nameB x = true) : wayB x = true := by
  unfold wayB
  rw [spl_name hx]
  simp [wordB, hx]
theorem above_law {s : List UInt8} (h : aboveOk s = true) : followF (aboveF s) (lastF s) = s ∧ restOk s (aboveF s) = true ∧ nameB (lastF s) = true ∧ okP (aboveF s) = true ∧ partsP (aboveF s) = (partsP s).dropLast := by
  unfold aboveOk at h
  rw [Bool.and_eq_true] at h
  obtain ⟨h1, h2⟩ := h
  have hne : partsP s ≠ [] := fun e => by rw [e] at h2; cases h2
  have hc : okP s = true ∧ partsP s ≠ [] := ⟨h1, hne⟩
  unfold aboveF lastF
  rw [if_pos hc, if_pos hc]
  have hn := (ok_names h1).1
  have hd := drop_last hne
  rw [← hd] at hn
  have ha := names_app hn
  have hx : nameB ((partsP s).getLastD []) = true := (namesB_iff.1 ha.2).2 _ (List.mem_singleton.2 rfl)
  have hj := join_ok ha.1
  have hlen := (namesB_iff.1 hn).1
  refine ⟨?_, ?_, hx, hj.1, hj.2⟩
  · unfold followF
    have hch := fun c hc => (nameB_ch hx c hc).1
    have hnx := nameB_ne hx
    have hw : wayB ((partsP s).getLastD []) = true := wayB_name hx
    have hb : beginP (joinP (partsP s).dropLast) ((partsP s).getLastD []) = (partsP s).dropLast := by
      unfold beginP
      have hp : Lib.hasPrefix ((partsP s).getLastD []) [47] = false := by
        generalize (partsP s).getLastD [] = x at hch hnx
        cases x with
        | nil => exact absurd rfl hnx.1
        | cons c r => exact (cut_other (fun r' e => hch c (List.mem_cons_self ..) (by cases e; rfl))).2
      rw [hp]
      exact hj.2
    rw [hj.1, hw, hb, spl_name hx, show (true && true) = true from rfl, if_pos rfl]
    rw [List.length_append, List.length_singleton] at hlen
    have hp : putW (partsP s).dropLast ((partsP s).getLastD []) = some ((partsP s).dropLast ++ [(partsP s).getLastD []]) := put_name hx (by omega)
    show endW (match putW (partsP s).dropLast ((partsP s).getLastD []) with | some q => putWs q [] | none => none) = s
    rw [hp, hd]
    exact (ok_names h1).2
  · rw [rest_ok h1 hj.1, hj.2]
    conv => lhs; arg 2; rw [← hd]
    exact prefB_app _ _
end Go.Proofs.YtaadobcfijegcaaDoor
