/- Finding nodes: the plain laws. No program in sight. -/
import Derived.Test.YtkennmpbmbacpaaGreatDoorME
import Derived.Test.YtkennmpbmbacpaaGreatDoorMayI
set_option linter.unusedSimpArgs false
set_option linter.unusedVariables false
set_option linter.unusedSectionVars false
namespace Go.Proofs.YtkennmpbmbacpaaGreatDoor
open Go.RowKit

theorem findL_app (t : List Nd) (may : Nd → Bool) : ∀ (p q : List (List UInt8)) (n : Int), findL t may n (p ++ q) = if (findL t may n p).2 = 0 then findL t may (findL t may n p).1 q else findL t may n p
  | [], q, n => by simp [findL]
  | x :: p, q, n => by
    rw [List.cons_append]
    show (if (kth t n.toNat).fo = false then (-1, 4) else if may (kth t n.toNat) = false then (-1, 3) else if kidF (kth t n.toNat) x < 0 then (-1, 2) else findL t may (kidF (kth t n.toNat) x) (p ++ q)) = _
    have e : findL t may n (x :: p) = (if (kth t n.toNat).fo = false then (-1, 4) else if may (kth t n.toNat) = false then (-1, 3) else if kidF (kth t n.toNat) x < 0 then (-1, 2) else findL t may (kidF (kth t n.toNat) x) p) := rfl
    rw [e]
    by_cases h1 : (kth t n.toNat).fo = false
    · rw [if_pos h1, if_pos h1, if_neg (by decide)]
    · rw [if_neg h1, if_neg h1]
      by_cases h2 : may (kth t n.toNat) = false
      · rw [if_pos h2, if_pos h2, if_neg (by decide)]
      · rw [if_neg h2, if_neg h2]
        by_cases h3 : kidF (kth t n.toNat) x < 0
        · rw [if_pos h3, if_pos h3, if_neg (by decide)]
        · rw [if_neg h3, if_neg h3]
          exact findL_app t may p q _
theorem findL_one (t : List Nd) (may : Nd → Bool) (n : Int) (x : List UInt8) : findL t may n [x] = if (kth t n.toNat).fo = false then (-1, 4) else if may (kth t n.toNat) = false then (-1, 3) else if kidF (kth t n.toNat) x < 0 then (-1, 2) else (kidF (kth t n.toNat) x, 0) := rfl
theorem findL_no (t : List Nd) (may : Nd → Bool) : ∀ (p : List (List UInt8)) (n : Int), (findL t may n p).2 ≠ 0 → (findL t may n p).1 = -1 ∧ 2 ≤ (findL t may n p).2 ∧ (findL t may n p).2 ≤ 4
  | [], n, h => absurd rfl h
  | x :: p, n, h => by
    have e : findL t may n (x :: p) = (if (kth t n.toNat).fo = false then (-1, 4) else if may (kth t n.toNat) = false then (-1, 3) else if kidF (kth t n.toNat) x < 0 then (-1, 2) else findL t may (kidF (kth t n.toNat) x) p) := rfl
    rw [e] at h ⊢
    by_cases h1 : (kth t n.toNat).fo = false
    · rw [if_pos h1]; decide
    · rw [if_neg h1] at h ⊢
      by_cases h2 : may (kth t n.toNat) = false
      · rw [if_pos h2]; decide
      · rw [if_neg h2] at h ⊢
        by_cases h3 : kidF (kth t n.toNat) x < 0
        · rw [if_pos h3]; decide
        · rw [if_neg h3] at h ⊢
          exact findL_no t may p _ h
section
variable {t : List Nd} {a b c d : Int} {s : List UInt8}
theorem find_no (h : (findF t a b c d s).2 ≠ 0) : (findF t a b c d s).1 = -1 ∧ 1 ≤ (findF t a b c d s).2 ∧ (findF t a b c d s).2 ≤ 4 := by
  unfold findF at h ⊢
  split at h
  · next hg =>
    rw [if_pos hg]
    have := findL_no t _ _ _ h
    exact ⟨this.1, by omega, this.2.2⟩
  · next hg =>
    rw [if_neg hg]; decide
theorem find_yes (h1 : treeB t = true) (h2 : credB a b c d = true) (h3 : okP s = true) : findF t a b c d s = findL t (runF a b c d) 0 (partsP s) := by
  unfold findF
  rw [h1, h2, h3]; rfl
theorem find_bad (h : treeB t = false ∨ credB a b c d = false ∨ okP s = false) : findF t a b c d s = (-1, 1) := by
  unfold findF
  rw [if_neg]
  rcases h with h | h | h <;> rw [h] <;> simp
/-- The root. -/
theorem find_root (h : (findF t a b c d s).2 = 0) (ha : aboveOk s = false) : s = [47] ∧ (findF t a b c d s).1 = 0 := by
  obtain ⟨h1, h2, h3, _, _⟩ := findF_range h
  have hp : partsP s = [] := by
    unfold aboveOk at ha
    rw [h3] at ha
    simpa using ha
  have hs : s = [47] := by
    have := (ok_names h3).2
    rw [hp] at this
    exact this.symm
  refine ⟨hs, ?_⟩
  rw [find_yes h1 h2 h3, hp]; rfl
theorem above_split (ha : aboveOk s = true) : okP s = true ∧ okP (aboveF s) = true ∧ partsP s = partsP (aboveF s) ++ [lastF s] ∧ nameB (lastF s) = true := by
  have h := above_law ha
  unfold aboveOk at ha
  rw [Bool.and_eq_true] at ha
  have hne : partsP s ≠ [] := fun e => by rw [e] at ha; cases ha.2
  refine ⟨ha.1, h.2.2.2.1, ?_, h.2.2.1⟩
  rw [h.2.2.2.2]
  have hl : lastF s = (partsP s).getLastD [] := by unfold lastF; rw [if_pos ⟨ha.1, hne⟩]
  rw [hl]
  exact (drop_last hne).symm
/-- The node at a path is the one with the last name in the directory above. -/
theorem find_above (ha : aboveOk s = true) : findF t a b c d s = if (findF t a b c d (aboveF s)).2 = 0 then findL t (runF a b c d) (findF t a b c d (aboveF s)).1 [lastF s] else findF t a b c d (aboveF s) := by
  obtain ⟨h1, h2, h3, _⟩ := above_split ha
  by_cases ht : treeB t = true
  · by_cases hc : credB a b c d = true
    · rw [find_yes ht hc h1, find_yes ht hc h2, h3]
      exact findL_app t _ _ _ _
    · have hc' : credB a b c d = false := by simpa using hc
      rw [find_bad (.inr (.inl hc')), find_bad (.inr (.inl hc'))]; rfl
  · have ht' : treeB t = false := by simpa using ht
    rw [find_bad (.inl ht'), find_bad (.inl ht')]; rfl
theorem find_up (ha : aboveOk s = true) (h : (findF t a b c d s).2 = 0) : (findF t a b c d (aboveF s)).2 = 0 ∧ (kth t (findF t a b c d (aboveF s)).1.toNat).fo = true ∧ runF a b c d (kth t (findF t a b c d (aboveF s)).1.toNat) = true ∧ (findF t a b c d s).1 = kidF (kth t (findF t a b c d (aboveF s)).1.toNat) (lastF s) ∧ 0 ≤ kidF (kth t (findF t a b c d (aboveF s)).1.toNat) (lastF s) := by
  have e := find_above (t := t) (a := a) (b := b) (c := c) (d := d) ha
  by_cases h0 : (findF t a b c d (aboveF s)).2 = 0
  · rw [if_pos h0, findL_one] at e
    rw [e] at h ⊢
    by_cases h1 : (kth t (findF t a b c d (aboveF s)).1.toNat).fo = false
    · rw [if_pos h1] at h; cases h
    · rw [if_neg h1] at h ⊢
      by_cases h2 : runF a b c d (kth t (findF t a b c d (aboveF s)).1.toNat) = false
      · rw [if_pos h2] at h; cases h
      · rw [if_neg h2] at h ⊢
        by_cases h3 : kidF (kth t (findF t a b c d (aboveF s)).1.toNat) (lastF s) < 0
        · rw [if_pos h3] at h; cases h
        · rw [if_neg h3]
          exact ⟨h0, by simpa using h1, by simpa using h2, rfl, by omega⟩
  · rw [if_neg h0] at e
    rw [e] at h
    exact absurd h h0
/-- Who may write and run may run. -/
theorem may_run {ow gr mo : Int} (h : mayF a b c d ow gr mo 3 = true) : mayF a b c d ow gr mo 1 = true := by
  unfold mayF at h ⊢
  simp only [Bool.and_eq_true] at h ⊢
  obtain ⟨h1, h2, _, h4⟩ := h
  refine ⟨h1, h2, by decide, ?_⟩
  by_cases hb : b = 0
  · rw [if_pos hb] at h4 ⊢
    simpa using h4
  · rw [if_neg hb] at h4 ⊢
    obtain ⟨m0, _⟩ := inB_iffL.1 h2
    have hr := rights_lt mo (classF a b c d ow gr) m0
    generalize rightsF mo (classF a b c d ow gr) = r at h4 hr
    obtain ⟨r, rfl⟩ : ∃ k : Nat, r = (k : Int) := ⟨r.toNat, by omega⟩
    have e3 : bits .and .i64 (r : Int) 3 = ((r &&& 3 : Nat) : Int) := and_nat r 3 (by omega) (by omega)
    have e1 : bits .and .i64 (r : Int) 1 = ((r &&& 1 : Nat) : Int) := and_nat r 1 (by omega) (by omega)
    rw [e3] at h4
    rw [e1]
    have hd : ∀ k, k < 8 → k &&& 3 = 3 → k &&& 1 = 1 := by decide
    have h5 := beq_iff_eq.1 h4
    have h6 := hd r (by omega) (by omega)
    rw [h6]; rfl
theorem place_no (h : (placeF t a b c d s).2 ≠ 0) : (placeF t a b c d s).1 = -1 := by
  unfold placeF at h ⊢
  split
  · rfl
  · next h1 =>
    rw [if_neg h1] at h
    split
    · rfl
    · next h2 =>
      rw [if_neg h2] at h
      split
      · rfl
      · next h3 =>
        rw [if_neg h3] at h
        split
        · rfl
        · next h4 =>
          rw [if_neg h4] at h
          split
          · rfl
          · next h5 => rw [if_neg h5] at h; exact absurd rfl h
/-- Where a name may be made there is none. -/
theorem place_missing (h : (placeF t a b c d s).2 = 0) : (findF t a b c d s).2 = 2 := by
  unfold placeF at h
  by_cases h1 : aboveOk s = false
  · rw [if_pos h1] at h; cases h
  · rw [if_neg h1] at h
    by_cases h2 : ¬ (findF t a b c d (aboveF s)).2 = 0
    · rw [if_pos h2] at h; exact absurd h h2
    · rw [if_neg h2] at h
      by_cases h3 : (kth t (findF t a b c d (aboveF s)).1.toNat).fo = false
      · rw [if_pos h3] at h; cases h
      · rw [if_neg h3] at h
        by_cases h4 : mayF a b c d (kth t (findF t a b c d (aboveF s)).1.toNat).ow (kth t (findF t a b c d (aboveF s)).1.toNat).gr (kth t (findF t a b c d (aboveF s)).1.toNat).mo 3 = false
        · rw [if_pos h4] at h; cases h
        · rw [if_neg h4] at h
          by_cases h5 : 0 ≤ kidF (kth t (findF t a b c d (aboveF s)).1.toNat) (lastF s)
          · rw [if_pos h5] at h; cases h
          · have ha : aboveOk s = true := by simpa using h1
            have h4' : runF a b c d (kth t (findF t a b c d (aboveF s)).1.toNat) = true := may_run (by simpa using h4)
            rw [find_above ha, if_pos (by simpa using h2), findL_one, if_neg h3, if_neg (by rw [h4']; simp), if_pos (by omega)]
end
/-! ### MayAt, SameFile, ReadFile, OpenFile, MayDrop: what they compute -/
def mayAtF (t : List Nd) (a b c d : Int) (s : List UInt8) (want : Int) : Int :=
  if inB want 0 7 = false then 1 else if ¬ (findF t a b c d s).2 = 0 then (findF t a b c d s).2
  else if mayF a b c d (kth t (findF t a b c d s).1.toNat).ow (kth t (findF t a b c d s).1.toNat).gr (kth t (findF t a b c d s).1.toNat).mo want = false then 3 else 0
def sameF (t : List Nd) (a b c d : Int) (s r : List UInt8) : Bool := decide ((findF t a b c d s).2 = 0) && (decide ((findF t a b c d r).2 = 0) && decide ((findF t a b c d s).1 = (findF t a b c d r).1))
/-- The file at a path, for who may do something with it. -/
def fileF (t : List Nd) (a b c d : Int) (s : List UInt8) (want : Int) : Int × Int :=
  if ¬ (findF t a b c d s).2 = 0 then (-1, (findF t a b c d s).2) else if (kth t (findF t a b c d s).1.toNat).fo = true then (-1, 4)
  else if mayF a b c d (kth t (findF t a b c d s).1.toNat).ow (kth t (findF t a b c d s).1.toNat).gr (kth t (findF t a b c d s).1.toNat).mo want = false then (-1, 3) else ((findF t a b c d s).1, 0)
def readF (t : List Nd) (a b c d : Int) (s : List UInt8) : ByteArray × Int := if (fileF t a b c d s 4).2 = 0 then ((kth t (fileF t a b c d s 4).1.toNat).tx, 0) else (⟨#[]⟩, (fileF t a b c d s 4).2)
def openF (t : List Nd) (a b c d : Int) (s : List UInt8) (want : Int) : (Int × Int × Int) × Int :=
  if ¬ mayAtF t a b c d s want = 0 then ((0, 0, 0), mayAtF t a b c d s want) else if (kth t (findF t a b c d s).1.toNat).fo = true then ((0, 0, 0), 4) else (((findF t a b c d s).1, 0, want), 0)
/-- The directory above, in which names may be made and taken away. -/
def upF (t : List Nd) (a b c d : Int) (s : List UInt8) : Int × Int :=
  if aboveOk s = false then (-1, 1) else if ¬ (findF t a b c d (aboveF s)).2 = 0 then (-1, (findF t a b c d (aboveF s)).2)
  else if (kth t (findF t a b c d (aboveF s)).1.toNat).fo = false then (-1, 4)
  else if mayF a b c d (kth t (findF t a b c d (aboveF s)).1.toNat).ow (kth t (findF t a b c d (aboveF s)).1.toNat).gr (kth t (findF t a b c d (aboveF s)).1.toNat).mo 3 = false then (-1, 3) else ((findF t a b c d (aboveF s)).1, 0)
theorem place_up (t : List Nd) (a b c d : Int) (s : List UInt8) : placeF t a b c d s = if ¬ (upF t a b c d s).2 = 0 then (-1, (upF t a b c d s).2) else if 0 ≤ kidF (kth t (upF t a b c d s).1.toNat) (lastF s) then (-1, 5) else ((upF t a b c d s).1, 0) := by
  unfold placeF upF
  by_cases h1 : aboveOk s = false
  · rw [if_pos h1, if_pos h1, if_pos (by decide)]
  · rw [if_neg h1, if_neg h1]
    by_cases h2 : ¬ (findF t a b c d (aboveF s)).2 = 0
    · rw [if_pos h2, if_pos h2, if_pos h2]
    · rw [if_neg h2, if_neg h2]
      by_cases h3 : (kth t (findF t a b c d (aboveF s)).1.toNat).fo = false
      · rw [if_pos h3, if_pos h3, if_pos (by decide)]
      · rw [if_neg h3, if_neg h3]
        by_cases h4 : mayF a b c d (kth t (findF t a b c d (aboveF s)).1.toNat).ow (kth t (findF t a b c d (aboveF s)).1.toNat).gr (kth t (findF t a b c d (aboveF s)).1.toNat).mo 3 = false
        · rw [if_pos h4, if_pos h4, if_pos (by decide)]
        · rw [if_neg h4, if_neg h4]
          exact (if_neg (show ¬ ¬ (0 : Int) = 0 by simp)).symm
def stickyB (b : Int) (x y : Nd) : Bool := decide (512 ≤ x.mo) && (!(b == 0) && (!(b == x.ow) && !(b == y.ow)))
/-- What goes wrong with taking a name away; 'full': a directory may have names in it. -/
def dropOf (t : List Nd) (a b c d : Int) (s : List UInt8) (full : Bool) : Int :=
  if ¬ (upF t a b c d s).2 = 0 then (upF t a b c d s).2
  else if kidF (kth t (upF t a b c d s).1.toNat) (lastF s) < 0 then 2
  else if stickyB b (kth t (upF t a b c d s).1.toNat) (kth t (kidF (kth t (upF t a b c d s).1.toNat) (lastF s)).toNat) = true then 3
  else if (!full && !((kth t (kidF (kth t (upF t a b c d s).1.toNat) (lastF s)).toNat).ns.length == 0)) = true then 7 else 0
theorem up_yes {t : List Nd} {a b c d : Int} {s : List UInt8} (h : (upF t a b c d s).2 = 0) : aboveOk s = true ∧ (findF t a b c d (aboveF s)).2 = 0 ∧ (upF t a b c d s).1 = (findF t a b c d (aboveF s)).1 ∧ (kth t (findF t a b c d (aboveF s)).1.toNat).fo = true ∧ mayF a b c d (kth t (findF t a b c d (aboveF s)).1.toNat).ow (kth t (findF t a b c d (aboveF s)).1.toNat).gr (kth t (findF t a b c d (aboveF s)).1.toNat).mo 3 = true := by
  unfold upF at h ⊢
  by_cases h1 : aboveOk s = false
  · rw [if_pos h1] at h; cases h
  · rw [if_neg h1] at h ⊢
    by_cases h2 : ¬ (findF t a b c d (aboveF s)).2 = 0
    · rw [if_pos h2] at h; exact absurd h h2
    · rw [if_neg h2] at h ⊢
      by_cases h3 : (kth t (findF t a b c d (aboveF s)).1.toNat).fo = false
      · rw [if_pos h3] at h; cases h
      · rw [if_neg h3] at h ⊢
        by_cases h4 : mayF a b c d (kth t (findF t a b c d (aboveF s)).1.toNat).ow (kth t (findF t a b c d (aboveF s)).1.toNat).gr (kth t (findF t a b c d (aboveF s)).1.toNat).mo 3 = false
        · rw [if_pos h4] at h; cases h
        · rw [if_neg h4]
          exact ⟨by simpa using h1, by simpa using h2, rfl, by simpa using h3, by simpa using h4⟩
theorem mayAt_yes {t : List Nd} {a b c d want : Int} {s : List UInt8} (h : mayAtF t a b c d s want = 0) : inB want 0 7 = true ∧ (findF t a b c d s).2 = 0 ∧ mayF a b c d (kth t (findF t a b c d s).1.toNat).ow (kth t (findF t a b c d s).1.toNat).gr (kth t (findF t a b c d s).1.toNat).mo want = true := by
  unfold mayAtF at h
  by_cases h1 : inB want 0 7 = false
  · rw [if_pos h1] at h; cases h
  · rw [if_neg h1] at h
    by_cases h2 : ¬ (findF t a b c d s).2 = 0
    · rw [if_pos h2] at h; exact absurd h h2
    · rw [if_neg h2] at h
      by_cases h3 : mayF a b c d (kth t (findF t a b c d s).1.toNat).ow (kth t (findF t a b c d s).1.toNat).gr (kth t (findF t a b c d s).1.toNat).mo want = false
      · rw [if_pos h3] at h; cases h
      · exact ⟨by simpa using h1, by simpa using h2, by simpa using h3⟩
theorem file_yes {t : List Nd} {a b c d want : Int} {s : List UInt8} (h : (fileF t a b c d s want).2 = 0) : (findF t a b c d s).2 = 0 ∧ (fileF t a b c d s want).1 = (findF t a b c d s).1 ∧ (kth t (findF t a b c d s).1.toNat).fo = false ∧ mayF a b c d (kth t (findF t a b c d s).1.toNat).ow (kth t (findF t a b c d s).1.toNat).gr (kth t (findF t a b c d s).1.toNat).mo want = true := by
  unfold fileF at h ⊢
  by_cases h2 : ¬ (findF t a b c d s).2 = 0
  · rw [if_pos h2] at h; exact absurd h h2
  · rw [if_neg h2] at h ⊢
    by_cases h1 : (kth t (findF t a b c d s).1.toNat).fo = true
    · rw [if_pos h1] at h; cases h
    · rw [if_neg h1] at h ⊢
      by_cases h3 : mayF a b c d (kth t (findF t a b c d s).1.toNat).ow (kth t (findF t a b c d s).1.toNat).gr (kth t (findF t a b c d s).1.toNat).mo want = false
      · rw [if_pos h3] at h; cases h
      · rw [if_neg h3]
        exact ⟨by simpa using h2, rfl, by simpa using h1, by simpa using h3⟩
end Go.Proofs.YtkennmpbmbacpaaGreatDoor
