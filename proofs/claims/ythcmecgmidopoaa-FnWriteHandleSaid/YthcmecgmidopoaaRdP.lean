/- Reading in two parts: the plain law. -/
import Derived.Test.YthcmecgmidopoaaHandR
set_option linter.unusedSimpArgs false
set_option linter.unusedVariables false
set_option linter.unusedSectionVars false
namespace Go.Proofs.Ythcmecgmidopoaa
open Go.RowKit

theorem rdT_ex {tx : ByteArray} {A H : Nat} (h : A + H ≤ tx.size) : rdT tx (A : Int) (H : Int) = tx.extract A (A + H) ∧ ((rdT tx (A : Int) (H : Int)).size : Int) = (H : Int) := by
  obtain ⟨h1, h2⟩ := rdT_le (tx := tx) (a := (A : Int)) (many := (H : Int)) (by omega) (by omega) (by omega) (by omega)
  refine ⟨?_, h2⟩
  rw [h1, Int.toNat_natCast, Int.toNat_natCast, ByteArray.extract_extract]
  congr 1
  omega
theorem rdT_size_le {tx : ByteArray} {a many : Int} (h0 : 0 ≤ a) (h1 : a ≤ (tx.size : Int)) (hm : 0 ≤ many) : ((rdT tx a many).size : Int) ≤ many ∧ a + ((rdT tx a many).size : Int) ≤ (tx.size : Int) := by
  by_cases h : many ≤ ((tx.size - a.toNat : Nat) : Int)
  · rw [(rdT_le hm h0 h1 h).2]; omega
  · rw [(rdT_ge hm h0 h1 (by omega)).2]; omega
theorem rdOk_in {t : List Nd} {f a r many : Int} (h : rdOk t f a r many = true) : hOk t f a r = true ∧ 0 ≤ many ∧ (bits .and .i64 r 4 == 0) = false ∧ a ≤ ((kth t f.toNat).tx.size : Int) := by
  unfold rdOk at h
  simp only [Bool.and_eq_true, decide_eq_true_eq, Bool.not_eq_true'] at h
  exact ⟨h.1, h.2.1, h.2.2.1, h.2.2.2⟩
theorem rdOk_mk {t : List Nd} {f a r many : Int} (h1 : hOk t f a r = true) (h2 : 0 ≤ many) (h3 : (bits .and .i64 r 4 == 0) = false) (h4 : a ≤ ((kth t f.toNat).tx.size : Int)) : rdOk t f a r many = true := by
  unfold rdOk
  rw [h1, h3, decide_eq_true h2, decide_eq_true h4]; rfl
theorem hOk_at {t : List Nd} {f a r b : Int} (h : hOk t f a r = true) (h0 : 0 ≤ b) (h1 : b ≤ 40) : hOk t f b r = true := by
  unfold hOk at h ⊢
  simp only [Bool.and_eq_true] at h ⊢
  exact ⟨h.1, h.2.1, h.2.2.1, inB_iffL.2 ⟨h0, h1⟩, h.2.2.2.2⟩
theorem rd_yes {t : List Nd} {f a r many : Int} (h : rdOk t f a r many = true) : rdF t f a r many = (rdT (kth t f.toNat).tx a many, a + ((rdT (kth t f.toNat).tx a many).size : Int)) := by unfold rdF; rw [h]; rfl
theorem tx_small {t : List Nd} {k : Nat} (h : treeB t = true) (hk : k < t.length) : (kth t k).tx.size ≤ 40 := by
  have hv := (nodeB_iff.1 (tree_node h hk)).1
  unfold headB at hv
  simp only [Bool.and_eq_true, decide_eq_true_eq] at hv
  exact hv.2.2.2.2.2.2
/-- A read that gives bytes can be had in two parts. -/
theorem rd_law {t : List Nd} {f a r many : Int} (h : 0 < (rdF t f a r many).1.size) : (rdF t f a r many).2 = a + ((rdF t f a r many).1.size : Int) ∧ 0 ≤ a ∧ a ≤ 40 ∧ (rdF t f a r many).1.size ≤ 40 ∧ ((rdF t f a r many).1.size : Int) ≤ many ∧ ∀ H : Nat, H ≤ (rdF t f a r many).1.size →
    (rdF t f a r (H : Int)).2 = a + (H : Int) ∧ (rdF t f a r (H : Int)).1 ++ (rdF t f (a + (H : Int)) r (((rdF t f a r many).1.size - H : Nat) : Int)).1 = (rdF t f a r many).1 ∧ (rdF t f (a + (H : Int)) r (((rdF t f a r many).1.size - H : Nat) : Int)).2 = (rdF t f a r many).2 := by
  cases hok : rdOk t f a r many
  · rw [rd_no hok] at h
    exact absurd (show 0 < (0 : Nat) from h) (by decide)
  · obtain ⟨h1, h2, h3, h4⟩ := rdOk_in hok
    obtain ⟨ht, f0, f1, _, a0, a1, _, _⟩ := hOk_in h1
    have hs := tx_small (k := f.toNat) ht (by omega)
    rw [rd_yes hok]
    obtain ⟨s1, s2⟩ := rdT_size_le (tx := (kth t f.toNat).tx) a0 h4 h2
    obtain ⟨A, rfl⟩ : ∃ A : Nat, a = (A : Int) := ⟨a.toNat, by omega⟩
    obtain ⟨N, hN⟩ : ∃ N, N = (rdT (kth t f.toNat).tx (A : Int) many).size := ⟨_, rfl⟩
    have hT : rdT (kth t f.toNat).tx (A : Int) many = (kth t f.toNat).tx.extract A (A + N) := by
      by_cases hq : many ≤ (((kth t f.toNat).tx.size - (A : Int).toNat : Nat) : Int)
      · obtain ⟨M, rfl⟩ : ∃ M : Nat, many = (M : Int) := ⟨many.toNat, by omega⟩
        have hx := rdT_ex (tx := (kth t f.toNat).tx) (A := A) (H := M) (by omega)
        have : N = M := by have := hx.2; omega
        rw [hx.1, this]
      · obtain ⟨e1, e2⟩ := rdT_ge (tx := (kth t f.toNat).tx) h2 a0 h4 (by omega)
        rw [e1, Int.toNat_natCast]
        congr 1
        rw [← hN] at e2
        omega
    simp only
    rw [← hN] at s1 s2 ⊢
    refine ⟨trivial, a0, a1, by omega, s1, fun H hH => ?_⟩
    have e1 := rd_yes (rdOk_mk (many := (H : Int)) h1 (by omega) h3 h4)
    have e2 := rd_yes (rdOk_mk (a := (A : Int) + (H : Int)) (many := ((N - H : Nat) : Int)) (hOk_at h1 (by omega) (by omega)) (by omega) h3 (by omega))
    obtain ⟨x1, x2⟩ := rdT_ex (tx := (kth t f.toNat).tx) (A := A) (H := H) (by omega)
    obtain ⟨y1, y2⟩ := rdT_ex (tx := (kth t f.toNat).tx) (A := A + H) (H := N - H) (by omega)
    rw [show ((A + H : Nat) : Int) = (A : Int) + (H : Int) from by omega] at y1 y2
    rw [e1, e2]
    simp only
    refine ⟨by rw [x2], ?_, by rw [y2]; omega⟩
    rw [x1, y1, hT, ByteArray.extract_append_extract]
    congr 1 <;> omega
theorem rd_zero {t : List Nd} {f a r many : Int} (h : (rdF t f a r many).1.size = 0) : (rdF t f a r many).2 = a := by
  cases hok : rdOk t f a r many
  · rw [rd_no hok]
  · rw [rd_yes hok] at h ⊢
    simp only at h ⊢
    omega
end Go.Proofs.Ythcmecgmidopoaa
