/- The words of a text with / between them: the plain side. -/
import Derived.Test.YtaadobcfijegcaaDoorBase
import Derived.Lib.Split
set_option linter.unusedSimpArgs false
set_option linter.unusedVariables false
set_option linter.unusedSectionVars false
namespace Go.Proofs.YtaadobcfijegcaaDoor
open Go.Lib

/-- The words of a text with the sign 47 between them. -/
def spl : List UInt8 → List (List UInt8)
  | [] => [[]]
  | c :: cs => if c = 47 then [] :: spl cs else match spl cs with | h :: t => (c :: h) :: t | [] => [[c]]
theorem spl_ne (l : List UInt8) : ∃ h t, spl l = h :: t := by
  cases l with
  | nil => exact ⟨[], [], rfl⟩
  | cons c cs =>
    unfold spl
    by_cases hc : c = 47
    · rw [if_pos hc]; exact ⟨_, _, rfl⟩
    · rw [if_neg hc]
      cases spl cs with
      | nil => exact ⟨_, _, rfl⟩
      | cons h t => exact ⟨_, _, rfl⟩
theorem spl_slash (cs : List UInt8) : spl (47 :: cs) = [] :: spl cs := by
  conv => lhs; unfold spl
  rw [if_pos rfl]
theorem spl_other {c : UInt8} {cs h : List UInt8} {t : List (List UInt8)} (hc : c ≠ 47) (e : spl cs = h :: t) : spl (c :: cs) = (c :: h) :: t := by
  conv => lhs; unfold spl
  rw [if_neg hc, e]
theorem spl_len (l : List UInt8) : 1 ≤ (spl l).length ∧ (spl l).length ≤ l.length + 1 := by
  induction l with
  | nil => exact ⟨Nat.le_refl _, Nat.le_refl _⟩
  | cons c cs ih =>
    by_cases hc : c = 47
    · subst hc; rw [spl_slash]; simp only [List.length_cons]; omega
    · obtain ⟨h, t, e⟩ := spl_ne cs
      rw [spl_other hc e]
      rw [e] at ih
      simp only [List.length_cons] at ih ⊢; omega
/-- The last word gets one sign more. -/
def lastPut (ws : List (List UInt8)) (c : UInt8) : List (List UInt8) := ws.dropLast ++ [ws.getLastD [] ++ [c]]
theorem spl_snoc_slash (l : List UInt8) : spl (l ++ [47]) = spl l ++ [[]] := by
  induction l with
  | nil => rfl
  | cons c cs ih =>
    by_cases hc : c = 47
    · subst hc; rw [List.cons_append, spl_slash, spl_slash, ih]; rfl
    · obtain ⟨h, t, e⟩ := spl_ne cs
      rw [List.cons_append, spl_other hc e, spl_other hc (h := h) (t := t ++ [[]]) (by rw [ih, e]; rfl)]; rfl
theorem spl_snoc_other {c : UInt8} (hc : c ≠ 47) (l : List UInt8) : spl (l ++ [c]) = lastPut (spl l) c := by
  induction l with
  | nil => rw [List.nil_append, spl_other hc (h := []) (t := []) rfl]; rfl
  | cons a cs ih =>
    obtain ⟨h, t, e⟩ := spl_ne cs
    by_cases ha : a = 47
    · subst ha
      rw [List.cons_append, spl_slash, spl_slash, ih, e]
      cases t <;> rfl
    · rw [List.cons_append, spl_other ha e]
      rw [e] at ih
      cases t with
      | nil => rw [spl_other ha (h := h ++ [c]) (t := []) (by rw [ih]; rfl)]; rfl
      | cons x y =>
        rw [spl_other ha (h := h) (t := lastPut (x :: y) c) (by rw [ih]; rfl)]; rfl
/-- The words by the first sign 47. -/
theorem spl_index (l : List UInt8) : (index l [47] = -1 ∧ spl l = [l]) ∨ ∃ i : Nat, index l [47] = i ∧ i < l.length ∧ spl l = l.take i :: spl (l.drop (i + 1)) := by
  induction l with
  | nil => exact .inl ⟨by decide, rfl⟩
  | cons c cs ih =>
    by_cases hc : c = 47
    · subst hc
      exact .inr ⟨0, by simp [index], by simp, by rw [spl_slash]; rfl⟩
    · have hp : ([47] : List UInt8).isPrefixOf (c :: cs) = false := by
        simp only [List.isPrefixOf, Bool.and_true]
        exact beq_eq_false_iff_ne.2 (fun e => hc e.symm)
      rcases ih with ⟨h1, h2⟩ | ⟨i, h1, h2, h3⟩
      · refine .inl ⟨?_, by rw [spl_other hc h2]⟩
        simp [index, hp, h1]
      · refine .inr ⟨i + 1, ?_, by simp; omega, by rw [spl_other hc h3]; rfl⟩
        simp only [index, hp]
        rw [h1]
        have hne : ¬ ((i : Int) == -1) = true := fun e => by have := beq_iff_eq.1 e; omega
        simp only [Bool.false_eq_true, if_false]
        rw [if_neg hne]; push_cast; rfl
theorem splitK_whole : ∀ (k : Nat) (l : List UInt8), (spl l).length ≤ k + 1 → splitK [47] 0 k l = spl l
  | 0, l, h => by
    rcases spl_index l with ⟨h1, h2⟩ | ⟨i, h1, h2, h3⟩
    · rw [h2]; rfl
    · rw [h3] at h
      have := (spl_len (l.drop (i + 1))).1
      simp only [List.length_cons] at h; omega
  | k + 1, l, h => by
    rcases spl_index l with ⟨h1, h2⟩ | ⟨i, h1, h2, h3⟩
    · unfold splitK; rw [h1, h2]; rfl
    · unfold splitK
      have hne : ¬ ((i : Int) == -1) = true := fun e => by have := beq_iff_eq.1 e; omega
      rw [h1, if_neg hne, h3, show (i : Int).toNat = i from rfl, Nat.add_zero]
      rw [h3] at h
      simp only [List.length_cons, List.length_nil, Nat.zero_add] at h ⊢
      rw [splitK_whole k _ (by omega)]
theorem splitK_long : ∀ (k : Nat) (l : List UInt8), k + 1 < (spl l).length → (splitK [47] 0 k l).length = k + 1
  | 0, _, _ => rfl
  | k + 1, l, h => by
    rcases spl_index l with ⟨h1, h2⟩ | ⟨i, h1, h2, h3⟩
    · rw [h2] at h; simp at h
    · unfold splitK
      have hne : ¬ ((i : Int) == -1) = true := fun e => by have := beq_iff_eq.1 e; omega
      rw [h1, if_neg hne, show (i : Int).toNat = i from rfl]
      rw [h3] at h
      simp only [List.length_cons, List.length_nil, Nat.zero_add] at h ⊢
      rw [splitK_long k _ (by omega)]
/-- strings.SplitN(way, "/", 13): the words, if there are at most 12, else 13 pieces. -/
theorem split13 (l : List UInt8) : ((spl l).length ≤ 12 ∧ splitK [47] 0 (min 13 (l.length + 1) - 1) l = spl l) ∨ (12 < (spl l).length ∧ (splitK [47] 0 (min 13 (l.length + 1) - 1) l).length = 13) := by
  have hl := spl_len l
  by_cases h : (spl l).length ≤ 12
  · exact .inl ⟨h, splitK_whole _ _ (by omega)⟩
  · refine .inr ⟨by omega, ?_⟩
    have hk : min 13 (l.length + 1) - 1 = 12 := by omega
    rw [hk]
    by_cases h2 : (spl l).length = 13
    · rw [splitK_whole 12 l (by omega)]; exact h2
    · exact splitK_long 12 l (by omega)
end Go.Proofs.YtaadobcfijegcaaDoor
