/- MakeFolders: the plain law. -/
import Derived.Test.YtkennmpbmbacpaaGreatDoorMakeL
set_option linter.unusedSimpArgs false
set_option linter.unusedVariables false
set_option linter.unusedSectionVars false
namespace Go.Proofs.YtkennmpbmbacpaaGreatDoor
open Go.RowKit

/-- Directories are made, one after the other, where there are none. -/
def mkdirs (a b c d mode : Int) : List Nd → List (List UInt8) → List Nd × Int
  | out, [] => (out, 0)
  | out, p :: r => if (findF out a b c d p).2 = 2 then (if ¬ (makeF out a b c d p true mode).2 = 0 then ([], (makeF out a b c d p true mode).2) else mkdirs a b c d mode (makeF out a b c d p true mode).1 r)
    else if ¬ (findF out a b c d p).2 = 0 then ([], (findF out a b c d p).2) else if (kth out (findF out a b c d p).1.toNat).fo = false then ([], 4) else mkdirs a b c d mode out r
/-- The paths above a path and itself. -/
def ownsL (ps : List (List UInt8)) : List (List UInt8) := (List.range ps.length).map fun i => joinP (ps.take (i + 1))
def foldersF (t : List Nd) (a b c d : Int) (s : List UInt8) (mode : Int) : List Nd × Int :=
  if (okP s && (treeB t && (credB a b c d && inB mode 0 1023))) = true then mkdirs a b c d mode t (ownsL (partsP s)) else ([], 1)
section
variable {a b c d mode : Int}
theorem mkdirs_cons (out : List Nd) (p : List UInt8) (r : List (List UInt8)) : mkdirs a b c d mode out (p :: r) = if (findF out a b c d p).2 = 2 then (if ¬ (makeF out a b c d p true mode).2 = 0 then ([], (makeF out a b c d p true mode).2) else mkdirs a b c d mode (makeF out a b c d p true mode).1 r)
    else if ¬ (findF out a b c d p).2 = 0 then ([], (findF out a b c d p).2) else if (kth out (findF out a b c d p).1.toNat).fo = false then ([], 4) else mkdirs a b c d mode out r := rfl
theorem mkdirs_law : ∀ (ps : List (List UInt8)) (out : List Nd), treeB out = true → (mkdirs a b c d mode out ps).2 = 0 → treeB (mkdirs a b c d mode out ps).1 = true ∧ out.length ≤ (mkdirs a b c d mode out ps).1.length ∧ (mkdirs a b c d mode out ps).1.length ≤ out.length + ps.length ∧ (kidsOf (mkdirs a b c d mode out ps).1).length ≤ (kidsOf out).length + ps.length
  | [], out, hv, _ => ⟨hv, Nat.le_refl _, Nat.le_refl _, Nat.le_refl _⟩
  | p :: r, out, hv, h => by
    rw [mkdirs_cons] at h ⊢
    by_cases h1 : (findF out a b c d p).2 = 2
    · rw [if_pos h1] at h ⊢
      by_cases h2 : ¬ (makeF out a b c d p true mode).2 = 0
      · rw [if_pos h2] at h; exact absurd h h2
      · rw [if_neg h2] at h ⊢
        obtain ⟨m1, m2, m3, _⟩ := make_tree2 (Decidable.not_not.1 h2)
        obtain ⟨i1, i2, i3, i4⟩ := mkdirs_law r _ m1 h
        exact ⟨i1, by omega, by rw [List.length_cons]; omega, by rw [List.length_cons]; omega⟩
    · rw [if_neg h1] at h ⊢
      by_cases h2 : ¬ (findF out a b c d p).2 = 0
      · rw [if_pos h2] at h; exact absurd h h2
      · rw [if_neg h2] at h ⊢
        by_cases h3 : (kth out (findF out a b c d p).1.toNat).fo = false
        · rw [if_pos h3] at h; cases h
        · rw [if_neg h3] at h ⊢
          obtain ⟨i1, i2, i3, i4⟩ := mkdirs_law r _ hv h
          exact ⟨i1, i2, by rw [List.length_cons]; omega, by rw [List.length_cons]; omega⟩
theorem mkdirs_no : ∀ (ps : List (List UInt8)) (out : List Nd), ¬ (mkdirs a b c d mode out ps).2 = 0 → (mkdirs a b c d mode out ps).1 = []
  | [], _, h => absurd rfl h
  | p :: r, out, h => by
    rw [mkdirs_cons] at h ⊢
    by_cases h1 : (findF out a b c d p).2 = 2
    · rw [if_pos h1] at h ⊢
      by_cases h2 : ¬ (makeF out a b c d p true mode).2 = 0
      · rw [if_pos h2]
      · rw [if_neg h2] at h ⊢; exact mkdirs_no r _ h
    · rw [if_neg h1] at h ⊢
      by_cases h2 : ¬ (findF out a b c d p).2 = 0
      · rw [if_pos h2]
      · rw [if_neg h2] at h ⊢
        by_cases h3 : (kth out (findF out a b c d p).1.toNat).fo = false
        · rw [if_pos h3]
        · rw [if_neg h3] at h ⊢; exact mkdirs_no r _ h
/-- Where all of them are there nothing is made. -/
theorem mkdirs_same : ∀ (ps : List (List UInt8)) (out : List Nd), (∀ p ∈ ps, (findF out a b c d p).2 = 0) → (mkdirs a b c d mode out ps).2 = 0 → (mkdirs a b c d mode out ps).1 = out
  | [], _, _, _ => rfl
  | p :: r, out, hp, h => by
    have h0 := hp p List.mem_cons_self
    rw [mkdirs_cons] at h ⊢
    rw [if_neg (by rw [h0]; decide), if_neg (by rw [h0]; simp)] at h ⊢
    by_cases h3 : (kth out (findF out a b c d p).1.toNat).fo = false
    · rw [if_pos h3] at h; cases h
    · rw [if_neg h3] at h ⊢
      exact mkdirs_same r out (fun q hq => hp q (List.mem_cons_of_mem _ hq)) h
end
section
variable {t : List Nd} {a b c d mode : Int} {s : List UInt8}
theorem owns_len (ps : List (List UInt8)) : (ownsL ps).length = ps.length := by simp [ownsL]
theorem owns_at {ps : List (List UInt8)} {i : Nat} (h : i < ps.length) : (ownsL ps)[i]? = some (joinP (ps.take (i + 1))) := by
  unfold ownsL
  rw [List.getElem?_map, List.getElem?_range h]; rfl
theorem names_take {ps : List (List UInt8)} (h : namesB ps = true) (i : Nat) : namesB (ps.take i) = true := by
  rw [namesB_iff] at h ⊢
  refine ⟨by rw [List.length_take]; omega, fun x hx => h.2 x (List.mem_of_mem_take hx)⟩
/-- Where a path leads to a node those above it do, too. -/
theorem owns_found (h : (findF t a b c d s).2 = 0) : ∀ p ∈ ownsL (partsP s), (findF t a b c d p).2 = 0 := by
  obtain ⟨h1, h2, h3, _, _⟩ := findF_range h
  rw [find_yes h1 h2 h3] at h
  have hn := (ok_names h3).1
  intro p hp
  unfold ownsL at hp
  obtain ⟨i, _, rfl⟩ := List.mem_map.1 hp
  obtain ⟨j1, j2⟩ := join_ok (names_take hn (i + 1))
  rw [find_yes h1 h2 j1, j2]
  rw [← List.take_append_drop (i + 1) (partsP s), findL_app] at h
  by_cases h0 : (findL t (runF a b c d) 0 ((partsP s).take (i + 1))).2 = 0
  · exact h0
  · rw [if_neg h0] at h
    exact absurd h h0
theorem folders_no (h : ¬ (foldersF t a b c d s mode).2 = 0) : (foldersF t a b c d s mode).1 = [] := by
  unfold foldersF at h ⊢
  split
  · next hg => rw [if_pos hg] at h; exact mkdirs_no _ _ h
  · rfl
theorem folders_law (h : (foldersF t a b c d s mode).2 = 0) : treeB t = true ∧ treeB (foldersF t a b c d s mode).1 = true ∧ t.length ≤ (foldersF t a b c d s mode).1.length ∧ (foldersF t a b c d s mode).1.length ≤ t.length + 6 ∧ (kidsOf (foldersF t a b c d s mode).1).length ≤ (kidsOf t).length + 6 ∧ ((findF t a b c d s).2 = 0 → (foldersF t a b c d s mode).1 = t) := by
  unfold foldersF at h ⊢
  split at h
  · next hg =>
    rw [if_pos hg]
    simp only [Bool.and_eq_true] at hg
    have h6 := (namesB_iff.1 (ok_names hg.1).1).1
    obtain ⟨i1, i2, i3, i4⟩ := mkdirs_law _ _ hg.2.1 h
    rw [owns_len] at i3 i4
    exact ⟨hg.2.1, i1, i2, by omega, by omega, fun hf => mkdirs_same _ _ (owns_found hf) h⟩
  · cases h
end
end Go.Proofs.YtkennmpbmbacpaaGreatDoor
