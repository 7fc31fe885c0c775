/- A written text can be read by the user 0: the plain law. -/
import Derived.Test.YtkennmpbmbacpaaGreatDoorWriteS
import Derived.Test.YtkennmpbmbacpaaGreatDoorMayI
set_option linter.unusedSimpArgs false
set_option linter.unusedVariables false
set_option linter.unusedSectionVars false
namespace Go.Proofs.YtkennmpbmbacpaaGreatDoor
open Go.RowKit

theorem class_in {a b c d o g : Int} (h : 0 ≤ classF a b c d o g) : inB o 0 99 = true ∧ inB g 0 7 = true := by
  unfold classF at h
  split at h
  · next hc => exact hc.2
  · omega
theorem class_root {o g : Int} (h1 : inB o 0 99 = true) (h2 : inB g 0 7 = true) : 0 ≤ classF 0 0 0 0 o g := by
  unfold classF
  rw [if_pos ⟨by decide, h1, h2⟩]
  split
  · omega
  · split <;> omega
/-- Whoever may run, the user 0 may. -/
theorem run_root {a b c d ow gr mo : Int} (h : mayF a b c d ow gr mo 1 = true) : mayF 0 0 0 0 ow gr mo 1 = true := by
  unfold mayF at h ⊢
  simp only [Bool.and_eq_true] at h ⊢
  obtain ⟨h1, h2, h3, h4⟩ := h
  have h1 := of_decide_eq_true h1
  obtain ⟨i1, i2⟩ := class_in h1
  refine ⟨decide_eq_true (class_root i1 i2), h2, h3, ?_⟩
  rw [if_pos trivial]
  by_cases hb : b = 0
  · rw [if_pos hb] at h4
    exact h4
  · rw [if_neg hb] at h4
    obtain ⟨m0, _⟩ := inB_iffL.1 h2
    have hr := rights_lt mo (classF a b c d ow gr) m0
    obtain ⟨_, _, hs⟩ := some_lt mo m0
    have h012 := class_012 h1
    have hodd : (rightsF mo (classF a b c d ow gr)).tmod 2 = 1 := by
      generalize rightsF mo (classF a b c d ow gr) = r at h4 hr
      obtain ⟨r, rfl⟩ : ∃ k : Nat, r = (k : Int) := ⟨r.toNat, by omega⟩
      have e1 : bits .and .i64 (r : Int) 1 = ((r &&& 1 : Nat) : Int) := and_nat r 1 (by omega) (by omega)
      rw [e1] at h4
      have h5 := beq_iff_eq.1 h4
      have hd : ∀ k : Nat, k < 8 → k &&& 1 = 1 → ((k : Nat) : Int).tmod 2 = 1 := by decide
      exact hd r (by omega) (by omega)
    have : (someF mo).tmod 2 = 1 := hs.2 (by
      rcases h012 with e | e | e <;> rw [e] at hodd
      · exact .inl hodd
      · exact .inr (.inl hodd)
      · exact .inr (.inr hodd))
    rw [this]
    simp
/-- The user 0 may read whatever is a file. -/
theorem read_root {ow gr mo : Int} (h1 : inB ow 0 99 = true) (h2 : inB gr 0 7 = true) (h3 : inB mo 0 1023 = true) : mayF 0 0 0 0 ow gr mo 4 = true := by
  unfold mayF
  simp only [Bool.and_eq_true]
  refine ⟨decide_eq_true (class_root h1 h2), h3, by decide, ?_⟩
  rw [if_pos trivial]
  rfl
theorem findL_root {t : List Nd} {a b c d : Int} (p : List (List UInt8)) : ∀ (n : Int), (findL t (runF a b c d) n p).2 = 0 → findL t (runF 0 0 0 0) n p = findL t (runF a b c d) n p := by
  induction p with
  | nil => intro n _; simp only [findL]
  | cons x p ih =>
    intro n h
    have e : ∀ may, findL t may n (x :: p) = (if (kth t n.toNat).fo = false then (-1, 4) else if may (kth t n.toNat) = false then (-1, 3) else if kidF (kth t n.toNat) x < 0 then (-1, 2) else findL t may (kidF (kth t n.toNat) x) p) := fun _ => rfl
    rw [e] at h
    rw [e, e]
    by_cases h1 : (kth t n.toNat).fo = false
    · rw [if_pos h1] at h; exact absurd h (by decide)
    · rw [if_neg h1] at h
      rw [if_neg h1, if_neg h1]
      by_cases h2 : runF a b c d (kth t n.toNat) = false
      · rw [if_pos h2] at h; exact absurd h (by decide)
      · have h3 : runF 0 0 0 0 (kth t n.toNat) = true := run_root (by simpa using h2)
        rw [if_neg h2] at h
        rw [if_neg h2, if_neg (show ¬ runF 0 0 0 0 (kth t n.toNat) = false by rw [h3]; simp)]
        by_cases h4 : kidF (kth t n.toNat) x < 0
        · rw [if_pos h4] at h; exact absurd h (by decide)
        · rw [if_neg h4] at h
          rw [if_neg h4, if_neg h4]
          exact ih _ h
theorem kth_text {t : List Nd} {m : Nat} {X : ByteArray} (hm : m < t.length) (k : Nat) : kth (t.set m (txN (kth t m) X)) k = if k = m then txN (kth t m) X else kth t k := by
  by_cases hk : k < t.length
  · have := kth_set (ex := []) (y := txN (kth t m) X) hm hk
    rwa [List.append_nil] at this
  · rw [if_neg (by omega)]
    unfold kth
    simp only [List.getD_eq_getElem?_getD]
    rw [List.getElem?_eq_none (l := t.set m _) (by rw [List.length_set]; omega), List.getElem?_eq_none (l := t) (by omega)]
theorem findL_text {t : List Nd} {m : Nat} {X : ByteArray} {a b c d : Int} (hm : m < t.length) : ∀ (p : List (List UInt8)) (n : Int), findL (t.set m (txN (kth t m) X)) (runF a b c d) n p = findL t (runF a b c d) n p
  | [], n => by simp only [findL]
  | x :: p, n => by
    have e : ∀ t', findL t' (runF a b c d) n (x :: p) = (if (kth t' n.toNat).fo = false then (-1, 4) else if runF a b c d (kth t' n.toNat) = false then (-1, 3) else if kidF (kth t' n.toNat) x < 0 then (-1, 2) else findL t' (runF a b c d) (kidF (kth t' n.toNat) x) p) := fun _ => rfl
    rw [e, e, findL_text hm p, kth_text hm]
    by_cases hk : n.toNat = m
    · rw [if_pos hk, hk]; rfl
    · rw [if_neg hk]
theorem write_cases (t : List Nd) (a b c d : Int) (s : List UInt8) (X : ByteArray) : (writeF t a b c d s X).1.length ≤ t.length ∧ ((¬ (writeF t a b c d s X).2 = 0 ∧ (writeF t a b c d s X).1 = []) ∨ ((writeF t a b c d s X).2 = 0 ∧ (findF t a b c d s).2 = 0 ∧ X.size ≤ 40 ∧ (kth t (findF t a b c d s).1.toNat).fo = false ∧
    (writeF t a b c d s X).1 = t.set (findF t a b c d s).1.toNat (txN (kth t (findF t a b c d s).1.toNat) X))) := by
  unfold writeF
  by_cases hf : (fileF t a b c d s 2).2 = 0
  · rw [if_pos hf]
    obtain ⟨h1, _, h3, _⟩ := file_yes hf
    by_cases hX : X.size ≤ 40
    · rw [if_pos hX]
      exact ⟨by simp, .inr ⟨rfl, h1, hX, h3, rfl⟩⟩
    · rw [if_neg hX]; exact ⟨Nat.zero_le _, .inl ⟨by decide, rfl⟩⟩
  · rw [if_neg hf]; exact ⟨Nat.zero_le _, .inl ⟨hf, rfl⟩⟩
theorem read_written {t : List Nd} {a b c d : Int} {s : List UInt8} {X : ByteArray} {m : Nat} (h : (findF t a b c d s).2 = 0) (hm : (findF t a b c d s).1 = (m : Int)) (hlt : m < t.length) (hfo : (kth t m).fo = false) (ht : treeB (t.set m (txN (kth t m) X)) = true) : readF (t.set m (txN (kth t m) X)) 0 0 0 0 s = (X, 0) := by
  obtain ⟨g1, g2, g3, _, _⟩ := findF_range h
  have e1 := find_yes (s := s) g1 g2 g3
  have e2 := find_yes (a := 0) (b := 0) (c := 0) (d := 0) (s := s) ht (by decide) g3
  rw [e1] at h hm
  rw [findL_text hlt, findL_root _ _ h] at e2
  have hn := headN_in (tree_node g1 hlt)
  unfold readF fileF
  rw [e2, if_neg (show ¬ ¬ (findL t (runF a b c d) 0 (partsP s)).2 = 0 from fun k => k h)]
  rw [hm, Int.toNat_natCast, kth_text hlt, if_pos rfl]
  have hfo' : (txN (kth t m) X).fo = false := hfo
  rw [if_neg (show ¬ (txN (kth t m) X).fo = true by rw [hfo']; simp)]
  have hr : mayF 0 0 0 0 (txN (kth t m) X).ow (txN (kth t m) X).gr (txN (kth t m) X).mo 4 = true := read_root hn.1 hn.2.1 hn.2.2
  rw [if_neg (show ¬ mayF 0 0 0 0 (txN (kth t m) X).ow (txN (kth t m) X).gr (txN (kth t m) X).mo 4 = false by rw [hr]; simp)]
  simp only [if_pos]
  rw [Int.toNat_natCast, kth_text hlt, if_pos rfl]
  rfl
end Go.Proofs.YtkennmpbmbacpaaGreatDoor
