/- Paths: the plain side. -/
import Derived.Test.YtaadobcfijegcaaDoorWayS
import Derived.Lib.Join
set_option linter.unusedSimpArgs false
set_option linter.unusedVariables false
set_option linter.unusedSectionVars false
namespace Go.Proofs.YtaadobcfijegcaaDoor
open Go.RowKit

/-- The text of words, each with the sign 47 ahead of it. -/
def joinL : List (List UInt8) → List UInt8
  | [] => []
  | x :: r => 47 :: (x ++ joinL r)
theorem join_spl (r : List UInt8) : joinL (spl r) = 47 :: r := by
  induction r with
  | nil => rfl
  | cons c cs ih =>
    by_cases hc : c = 47
    · subst hc; rw [spl_slash]; show 47 :: ([] ++ joinL (spl cs)) = _; rw [ih]; rfl
    · obtain ⟨h, t, e⟩ := spl_ne cs
      rw [e] at ih
      rw [spl_other hc e]
      have ih' : 47 :: (h ++ joinL t) = 47 :: cs := ih
      show 47 :: (c :: h ++ joinL t) = _
      rw [List.cons_append, (List.cons.inj ih').2]
/-- The words are names, and not too many. -/
def namesB (ws : List (List UInt8)) : Bool := decide (ws.length ≤ 6) && ws.all nameB
/-- What 'JoinPath' gives. -/
def joinP (ws : List (List UInt8)) : List UInt8 := if namesB ws = true then (if ws = [] then [47] else joinL ws) else []
theorem joinP_nil : joinP [] = [47] := rfl
theorem joinP_no {ws : List (List UInt8)} (h : namesB ws = false) : joinP ws = [] := by unfold joinP; rw [h]; rfl
theorem joinP_yes {ws : List (List UInt8)} (h : namesB ws = true) (hne : ws ≠ []) : joinP ws = joinL ws := by unfold joinP; rw [if_pos h, if_neg hne]
/-- A text is a path; its names. -/
def okP : List UInt8 → Bool
  | [] => false
  | c :: r => decide (c = 47) && (r == [] || namesB (spl r))
def partsP : List UInt8 → List (List UInt8)
  | [] => []
  | c :: r => if okP (c :: r) = true then (if r = [] then [] else spl r) else []
theorem okP_slash (r : List UInt8) : okP (47 :: r) = (r == [] || namesB (spl r)) := by unfold okP; rfl
theorem okP_other {c : UInt8} {r : List UInt8} (h : c ≠ 47) : okP (c :: r) = false := by
  show (decide (c = 47) && (r == [] || namesB (spl r))) = false
  rw [decide_eq_false h, Bool.false_and]
theorem partsP_no {l : List UInt8} (h : okP l = false) : partsP l = [] := by
  cases l with
  | nil => rfl
  | cons c r =>
    show (if okP (c :: r) = true then (if r = [] then [] else spl r) else []) = []
    rw [h]; rfl
theorem partsP_root : okP [47] = true ∧ partsP [47] = [] := ⟨rfl, rfl⟩
theorem partsP_yes {r : List UInt8} (hr : r ≠ []) (h : namesB (spl r) = true) : okP (47 :: r) = true ∧ partsP (47 :: r) = spl r := by
  have h0 : okP (47 :: r) = true := by rw [okP_slash, h, Bool.or_true]
  refine ⟨h0, ?_⟩
  show (if okP (47 :: r) = true then (if r = [] then [] else spl r) else []) = spl r
  rw [if_pos h0, if_neg hr]
theorem okP_bad {r : List UInt8} (hr : r ≠ []) (h : namesB (spl r) = false) : okP (47 :: r) = false := by
  rw [okP_slash, h, beq_eq_false_iff_ne.2 hr]; rfl
theorem spl_not_nil (r : List UInt8) : spl r ≠ [] := by obtain ⟨h, t, e⟩ := spl_ne r; rw [e]; exact fun h => by cases h
/-- A path is what its words are joined to. -/
theorem joinP_spl (r : List UInt8) : joinP (spl r) = if namesB (spl r) = true then 47 :: r else [] := by
  unfold joinP
  rw [if_neg (spl_not_nil r), join_spl]
/-- Joined words begin with 47, or nothing is left. -/
theorem joinP_head (ws : List (List UInt8)) : joinP ws = [] ∨ ∃ t, joinP ws = 47 :: t := by
  unfold joinP
  split
  · split
    · exact .inr ⟨[], rfl⟩
    · next h => cases ws with
      | nil => exact absurd rfl h
      | cons x r => exact .inr ⟨_, rfl⟩
  · exact .inl rfl
theorem nameB_size {l : List UInt8} (h : nameB l = true) : l.length ≤ 8 := by
  unfold nameB at h
  simp only [Bool.and_eq_true] at h
  have := h.2
  simp only [inB, Bool.and_eq_true, decide_eq_true_eq] at this
  omega
theorem joinL_size : ∀ {ws : List (List UInt8)}, ws.all nameB = true → (joinL ws).length ≤ 9 * ws.length
  | [], _ => Nat.le_refl _
  | x :: r, h => by
    rw [List.all_cons, Bool.and_eq_true] at h
    have h1 := nameB_size h.1
    have h2 := joinL_size h.2
    simp only [joinL, List.length_cons, List.length_append]; omega
theorem joinTail_eq (r : List (List UInt8)) : Lib.joinTail [47] r = joinL r := by
  induction r with
  | nil => rfl
  | cons x t ih =>
    show ([47] ++ x) ++ Lib.joinTail [47] t = _
    rw [ih]; rfl
theorem join_lib (ws : List (List UInt8)) (h : ws ≠ []) : 47 :: Lib.join ws [47] = joinL ws := by
  cases ws with
  | nil => exact absurd rfl h
  | cons x r => rw [Lib.join_cons, joinTail_eq]; rfl
theorem joinL_snoc (ws : List (List UInt8)) (x : List UInt8) : joinL (ws ++ [x]) = joinL ws ++ (47 :: x) := by
  induction ws with
  | nil => simp [joinL]
  | cons a r ih => simp [joinL, ih]
/-- strings.SplitN(rest, "/", 7): the words, if there are at most 6, else 7 pieces. -/
theorem split7 (l : List UInt8) : ((spl l).length ≤ 6 ∧ Lib.splitK [47] 0 (min 7 (l.length + 1) - 1) l = spl l) ∨ (6 < (spl l).length ∧ (Lib.splitK [47] 0 (min 7 (l.length + 1) - 1) l).length = 7) := by
  have hl := spl_len l
  by_cases h : (spl l).length ≤ 6
  · exact .inl ⟨h, splitK_whole _ _ (by omega)⟩
  · refine .inr ⟨by omega, ?_⟩
    have hk : min 7 (l.length + 1) - 1 = 6 := by omega
    rw [hk]
    by_cases h2 : (spl l).length = 7
    · rw [splitK_whole 6 l (by omega)]; exact h2
    · exact splitK_long 6 l (by omega)
end Go.Proofs.YtaadobcfijegcaaDoor
