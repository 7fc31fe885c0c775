/- What is written through a handle can be read: the plain law. -/
import Derived.Test.YthcmecgmidopoaaHandW
import Derived.Test.YthcmecgmidopoaaRdP
set_option linter.unusedSimpArgs false
set_option linter.unusedVariables false
set_option linter.unusedSectionVars false
namespace Go.Proofs.Ythcmecgmidopoaa
open Go.RowKit

theorem wr_read {P X Q : ByteArray} {A : Nat} (h : P.size = A) : (P ++ X ++ Q).extract A (A + X.size) = X ∧ (P ++ X ++ Q).extract 0 A = P := by
  constructor
  · have e1 : (P ++ X ++ Q).extract 0 (A + X.size) = P ++ X := ByteArray.extract_append_eq_left (by rw [ByteArray.size_append, h])
    have e2 : (P ++ X).extract A (A + X.size) = X := ByteArray.extract_append_eq_right h.symm (by rw [h])
    rw [← e1, ByteArray.extract_extract] at e2
    simpa using e2
  · rw [ByteArray.append_assoc]
    exact ByteArray.extract_append_eq_left h.symm
theorem wh_no {t : List Nd} {f a r : Int} {X : ByteArray} (h : ¬ (whF t f a r X).2.2 = 0) : (whF t f a r X).1 = [] ∧ (whF t f a r X).2.1 = a := by
  unfold whF at h ⊢
  split
  · exact ⟨rfl, rfl⟩
  · split
    · exact ⟨rfl, rfl⟩
    · split
      · exact ⟨rfl, rfl⟩
      · next g1 g2 g3 => rw [if_neg g1, if_neg g2, if_neg g3] at h; exact absurd rfl h
theorem wh_law {t : List Nd} {f a r : Int} {X : ByteArray} (h : (whF t f a r X).2.2 = 0) : ∃ k A : Nat, f = (k : Int) ∧ a = (A : Int) ∧ k < t.length ∧ A ≤ (kth t k).tx.size ∧ (kth t k).tx.size ≤ 40 ∧ A + X.size ≤ 40 ∧ (whF t f a r X).1 = t.set k (txN (kth t k) (wrT (kth t k).tx A X)) ∧ (whF t f a r X).2.1 = a + (X.size : Int) ∧
    treeB (whF t f a r X).1 = true ∧ (kidsOf (whF t f a r X).1).length = (kidsOf t).length ∧ rdF (whF t f a r X).1 f a 4 (X.size : Int) = (X, a + (X.size : Int)) ∧ A + X.size ≤ (wrT (kth t k).tx A X).size ∧ (wrT (kth t k).tx A X).size ≤ 40 ∧ (wrT (kth t k).tx A X).extract 0 A = (kth t k).tx.extract 0 A := by
  unfold whF at h ⊢
  split at h
  · cases h
  · next g1 =>
    split at h
    · cases h
    · next g2 =>
      split at h
      · cases h
      · next g3 =>
        rw [if_neg g1, if_neg g2, if_neg g3]
        have hok : hOk t f a r = true := by simpa using g1
        obtain ⟨h1, h2, h3, h4, h5, h6, h7, h8⟩ := hOk_in hok
        obtain ⟨k, rfl⟩ : ∃ k : Nat, f = (k : Int) := ⟨f.toNat, by omega⟩
        obtain ⟨A, rfl⟩ : ∃ A : Nat, a = (A : Int) := ⟨a.toNat, by omega⟩
        rw [Int.toNat_natCast] at h4 g3 ⊢
        rw [Int.toNat_natCast]
        have hk : k < t.length := by omega
        have htx := tx_small h1 hk
        have hA : A ≤ (kth t k).tx.size := by omega
        have hX : A + X.size ≤ 40 := by omega
        have hP : ((kth t k).tx.extract 0 A).size = A := by rw [ByteArray.size_extract]; omega
        have hs1 : A + X.size ≤ (wrT (kth t k).tx A X).size := by unfold wrT; rw [ByteArray.size_append, ByteArray.size_append, hP]; omega
        have hs2 : (wrT (kth t k).tx A X).size ≤ 40 := by unfold wrT; rw [ByteArray.size_append, ByteArray.size_append, hP, ByteArray.size_extract]; omega
        obtain ⟨r1, r2⟩ := wr_read (X := X) (Q := (kth t k).tx.extract (min (A + X.size) (kth t k).tx.size) (kth t k).tx.size) hP
        obtain ⟨htb, hkk⟩ := head_tree h1 hk (y := txN (kth t k) (wrT (kth t k).tx A X)) rfl rfl rfl (write_head (nodeB_iff.1 (tree_node h1 hk)).1 h4 hs2)
        have hkx : kth (t.set k (txN (kth t k) (wrT (kth t k).tx A X))) k = txN (kth t k) (wrT (kth t k).tx A X) := by
          have := kth_set (ex := []) (y := txN (kth t k) (wrT (kth t k).tx A X)) hk hk
          rwa [List.append_nil, if_pos rfl] at this
        refine ⟨k, A, rfl, rfl, hk, hA, htx, hX, rfl, rfl, htb, hkk, ?_, hs1, hs2, r2⟩
        have hrd : rdOk (t.set k (txN (kth t k) (wrT (kth t k).tx A X))) (k : Int) (A : Int) 4 (X.size : Int) = true := by
          refine rdOk_mk ?_ (by omega) (by decide) ?_
          · unfold hOk
            simp only [Bool.and_eq_true, inB_iffL, List.length_set, Int.toNat_natCast, hkx, Bool.not_eq_true']
            exact ⟨htb, ⟨by omega, by omega⟩, h4, ⟨by omega, by omega⟩, by omega, by omega⟩
          · rw [Int.toNat_natCast, hkx]
            show (A : Int) ≤ ((wrT (kth t k).tx A X).size : Int)
            omega
        rw [rd_yes hrd, Int.toNat_natCast, hkx]
        obtain ⟨e1, e2⟩ := rdT_ex (tx := wrT (kth t k).tx A X) (A := A) (H := X.size) hs1
        have e3 : (wrT (kth t k).tx A X).extract A (A + X.size) = X := r1
        show (rdT (wrT (kth t k).tx A X) (A : Int) (X.size : Int), (A : Int) + ((rdT (wrT (kth t k).tx A X) (A : Int) (X.size : Int)).size : Int)) = _
        rw [e2, e1, e3]
end Go.Proofs.Ythcmecgmidopoaa
