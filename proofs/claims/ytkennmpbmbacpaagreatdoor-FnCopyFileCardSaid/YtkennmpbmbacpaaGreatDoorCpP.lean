/- CopyFile: the plain law. -/
import Derived.Test.YtkennmpbmbacpaaGreatDoorMakeL
import Derived.Test.YtkennmpbmbacpaaGreatDoorWriteP
set_option linter.unusedSimpArgs false
set_option linter.unusedVariables false
set_option linter.unusedSectionVars false
namespace Go.Proofs.YtkennmpbmbacpaaGreatDoor
open Go.RowKit

def copyF (t : List Nd) (a b c d : Int) (p q : List UInt8) : List Nd × Int :=
  if ¬ (fileF t a b c d p 4).2 = 0 then ([], (fileF t a b c d p 4).2)
  else if ¬ (findF t a b c d q).2 = 2 then writeF t a b c d q (kth t (fileF t a b c d p 4).1.toNat).tx
  else if ¬ (makeF t a b c d q false ((kth t (fileF t a b c d p 4).1.toNat).mo % 512)).2 = 0 then ([], (makeF t a b c d q false ((kth t (fileF t a b c d p 4).1.toNat).mo % 512)).2)
  else ((makeF t a b c d q false ((kth t (fileF t a b c d p 4).1.toNat).mo % 512)).1.set t.length (txN (kth (makeF t a b c d q false ((kth t (fileF t a b c d p 4).1.toNat).mo % 512)).1 t.length) (kth t (fileF t a b c d p 4).1.toNat).tx), 0)
section
variable {t : List Nd} {a b c d : Int} {p q : List UInt8}
theorem write_no {X : ByteArray} (h : ¬ (writeF t a b c d q X).2 = 0) : (writeF t a b c d q X).1 = [] := by
  rcases (write_cases t a b c d q X).2 with h1 | h1
  · exact h1.2
  · exact absurd h1.1 h
theorem copy_no (h : ¬ (copyF t a b c d p q).2 = 0) : (copyF t a b c d p q).1 = [] := by
  unfold copyF at h ⊢
  by_cases h1 : ¬ (fileF t a b c d p 4).2 = 0
  · rw [if_pos h1]
  · rw [if_neg h1] at h ⊢
    by_cases h2 : ¬ (findF t a b c d q).2 = 2
    · rw [if_pos h2] at h ⊢; exact write_no h
    · rw [if_neg h2] at h ⊢
      by_cases h3 : ¬ (makeF t a b c d q false ((kth t (fileF t a b c d p 4).1.toNat).mo % 512)).2 = 0
      · rw [if_pos h3]
      · rw [if_neg h3] at h; exact absurd rfl h
theorem find_text {t : List Nd} {m : Nat} {X : ByteArray} (hm : m < t.length) (h1 : treeB t = true) (h2 : treeB (t.set m (txN (kth t m) X)) = true) : findF (t.set m (txN (kth t m) X)) a b c d p = findF t a b c d p := by
  by_cases hc : credB a b c d = true
  · by_cases ho : okP p = true
    · rw [find_yes h1 hc ho, find_yes h2 hc ho, findL_text hm]
    · have ho : okP p = false := by simpa using ho
      rw [find_bad (.inr (.inr ho)), find_bad (.inr (.inr ho))]
  · have hc : credB a b c d = false := by simpa using hc
    rw [find_bad (.inr (.inl hc)), find_bad (.inr (.inl hc))]
/-- CopyFile: both files have the same text, and there is at most one node more. -/
theorem copy_law (h : (copyF t a b c d p q).2 = 0) : ∃ n m : Nat, n < (copyF t a b c d p q).1.length ∧ m < (copyF t a b c d p q).1.length ∧ findF (copyF t a b c d p q).1 a b c d p = ((n : Int), 0) ∧ findF (copyF t a b c d p q).1 a b c d q = ((m : Int), 0) ∧ (kth (copyF t a b c d p q).1 n).tx = (kth (copyF t a b c d p q).1 m).tx ∧
    treeB (copyF t a b c d p q).1 = true ∧ (copyF t a b c d p q).1.length ≤ t.length + 1 ∧ (kidsOf (copyF t a b c d p q).1).length ≤ (kidsOf t).length + 1 := by
  unfold copyF at h ⊢
  by_cases h1 : ¬ (fileF t a b c d p 4).2 = 0
  · rw [if_pos h1] at h; exact absurd h h1
  · rw [if_neg h1] at h ⊢
    obtain ⟨f1, f2, f3, _⟩ := file_yes (Decidable.not_not.1 h1)
    obtain ⟨g1, g2, g3, g4, g5⟩ := findF_range f1
    rw [f2] at h ⊢
    obtain ⟨n, hn⟩ : ∃ n : Nat, (findF t a b c d p).1 = (n : Int) := ⟨(findF t a b c d p).1.toNat, by omega⟩
    rw [hn] at f3 g5 h ⊢
    rw [Int.toNat_natCast] at f3 h ⊢
    have hfn : findF t a b c d p = ((n : Int), 0) := Prod.ext hn f1
    have hnl : n < t.length := by omega
    have htx : (kth t n).tx.size ≤ 40 := by
      have hv := (nodeB_iff.1 (tree_node g1 hnl)).1
      unfold headB at hv
      simp only [Bool.and_eq_true, decide_eq_true_eq] at hv
      exact hv.2.2.2.2.2.2
    by_cases h2 : ¬ (findF t a b c d q).2 = 2
    · rw [if_pos h2] at h ⊢
      rcases (write_cases t a b c d q (kth t n).tx).2 with w | ⟨_, w1, w2, w3, w4⟩
      · exact absurd h w.1
      · obtain ⟨_, _, _, q4, q5⟩ := findF_range w1
        obtain ⟨m, hm⟩ : ∃ m : Nat, (findF t a b c d q).1 = (m : Int) := ⟨(findF t a b c d q).1.toNat, by omega⟩
        rw [hm, Int.toNat_natCast] at w3 w4
        have hml : m < t.length := by omega
        obtain ⟨htb, hkk⟩ := head_tree g1 hml (y := txN (kth t m) (kth t n).tx) rfl rfl rfl (write_head (nodeB_iff.1 (tree_node g1 hml)).1 w3 w2)
        rw [w4]
        have e1 := find_text (a := a) (b := b) (c := c) (d := d) (p := p) hml g1 htb
        have e2 := find_text (a := a) (b := b) (c := c) (d := d) (p := q) hml g1 htb
        refine ⟨n, m, by rw [List.length_set]; exact hnl, by rw [List.length_set]; exact hml, e1.trans hfn, e2.trans (Prod.ext hm w1), ?_, htb, by rw [List.length_set]; omega, by omega⟩
        rw [kth_text hml, kth_text hml, if_pos rfl]
        split
        · rfl
        · rfl
    · rw [if_neg h2] at h ⊢
      by_cases h3 : ¬ (makeF t a b c d q false ((kth t n).mo % 512)).2 = 0
      · rw [if_pos h3] at h; exact absurd h h3
      · rw [if_neg h3]
        have h3' := Decidable.not_not.1 h3
        obtain ⟨k, hk, hl16, _, hp1, hp2, hM, hT, hq⟩ := make_law h3'
        obtain ⟨_, hkk, hlen, _⟩ := make_tree2 h3'
        have hpp : findF (makeF t a b c d q false ((kth t n).mo % 512)).1 a b c d p = ((n : Int), 0) := by
          have e := put_finds (t := t) (a := a) (b := b) (c := c) (d := d) (s := q) (z := (t.length : Int)) (ex := [newNd false b (kth t k).gr ((kth t n).mo % 512)]) (r := p) hp2 f1 (by rw [hp1, Int.toNat_natCast, ← hM]; exact hT)
          rw [hp1, Int.toNat_natCast, ← hM] at e
          exact e.trans hfn
        have hnew : kth (makeF t a b c d q false ((kth t n).mo % 512)).1 t.length = newNd false b (kth t k).gr ((kth t n).mo % 512) := by rw [hM]; exact kth_new
        have hold : (kth (makeF t a b c d q false ((kth t n).mo % 512)).1 n).tx = (kth t n).tx := by
          rw [hM, kth_set hk hnl]
          split
          · next e => subst e; rfl
          · rfl
        generalize (makeF t a b c d q false ((kth t n).mo % 512)).1 = M at hT hq hkk hlen hpp hnew hold ⊢
        have hL : t.length < M.length := by omega
        obtain ⟨htb, hkk2⟩ := head_tree hT hL (y := txN (kth M t.length) (kth t n).tx) rfl rfl rfl (write_head (nodeB_iff.1 (tree_node hT hL)).1 (by rw [hnew]; rfl) htx)
        have e1 := find_text (a := a) (b := b) (c := c) (d := d) (p := p) hL hT htb
        have e2 := find_text (a := a) (b := b) (c := c) (d := d) (p := q) hL hT htb
        refine ⟨n, t.length, by rw [List.length_set]; omega, by rw [List.length_set]; exact hL, e1.trans hpp, e2.trans hq, ?_, htb, by rw [List.length_set]; omega, by show (kidsOf (M.set _ _)).length ≤ _; omega⟩
        rw [kth_text hL, kth_text hL, if_pos rfl, if_neg (by omega)]
        exact hold
end
end Go.Proofs.YtkennmpbmbacpaaGreatDoor
