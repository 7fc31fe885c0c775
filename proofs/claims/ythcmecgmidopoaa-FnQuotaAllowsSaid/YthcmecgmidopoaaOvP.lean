/- Who has too much: the plain laws. -/
import Derived.Test.YthcmecgmidopoaaOver
import Derived.Test.YthcmecgmidopoaaMH
set_option linter.unusedSimpArgs false
set_option linter.unusedVariables false
set_option linter.unusedSectionVars false
namespace Go.Proofs.Ythcmecgmidopoaa
open Go.RowKit

theorem ovL_split (t : List Nd) (l : List Q3) (k : Nat) : ovL t l l.length = ovL t l k ++ ((l.drop k).filter (overB t)).map (·.1) := by
  unfold ovL
  rw [List.take_length, ← List.map_append, ← List.filter_append, List.take_append_drop]
theorem ov_hit {t : List Nd} {l : List Q3} {k : Nat} (hk : k < l.length) (h : overB t (qt l k) = true) : (ovL t l k).length < (ovL t l l.length).length ∧ nthL (ovL t l l.length) (ovL t l k).length = (qt l k).1 := by
  have e : ovL t l l.length = ovL t l k ++ (qt l k).1 :: ((l.drop (k + 1)).filter (overB t)).map (·.1) := by
    rw [ovL_split t l (k + 1), ovL_yes hk h, List.append_assoc]; rfl
  rw [e]
  refine ⟨by simp, ?_⟩
  unfold nthL
  rw [List.getD_eq_getElem?_getD, List.getElem?_append_right (Nat.le_refl _), Nat.sub_self]; rfl
theorem quota_asc {l : List Q3} (h : quotaB l = true) {i j : Nat} (hij : i < j) (hj : j < l.length) : (qt l i).1 < (qt l j).1 := by
  induction j with
  | zero => omega
  | succ j ih =>
    have hs : (qt l j).1 < (qt l (j + 1)).1 := by
      unfold quotaB at h
      rw [Bool.and_eq_true, List.all_eq_true] at h
      have := h.1 (j + 1) (List.mem_range.2 hj)
      unfold quotaOk at this
      simp only [Bool.and_eq_true, Bool.or_eq_true, decide_eq_true_eq] at this
      rcases this.2.2.2 with h0 | h0
      · omega
      · exact h0
    rcases Nat.lt_or_ge i j with hlt | hge
    · have := ih hlt (by omega); omega
    · obtain rfl : i = j := by omega
      exact hs
theorem ov_miss {t : List Nd} {l : List Q3} {k : Nat} (hq : quotaB l = true) (hk : k < l.length) (h : overB t (qt l k) = false) (hlt : (ovL t l k).length < (ovL t l l.length).length) : nthL (ovL t l l.length) (ovL t l k).length ≠ (qt l k).1 := by
  have e : ovL t l l.length = ovL t l k ++ ((l.drop (k + 1)).filter (overB t)).map (·.1) := by
    rw [ovL_split t l (k + 1), ovL_no hk h]
  obtain ⟨m, hm⟩ : ∃ m, m = ((l.drop (k + 1)).filter (overB t)).map (·.1) := ⟨_, rfl⟩
  rw [← hm] at e
  rw [e] at hlt ⊢
  rw [List.length_append] at hlt
  have h0 : 0 < m.length := by omega
  have hx : nthL (ovL t l k ++ m) (ovL t l k).length = m[0] := by
    unfold nthL
    rw [List.getD_eq_getElem?_getD, List.getElem?_append_right (Nat.le_refl _), Nat.sub_self, List.getElem?_eq_getElem h0]; rfl
  rw [hx]
  have hmem : m[0] ∈ ((l.drop (k + 1)).filter (overB t)).map (·.1) := by rw [← hm]; exact List.getElem_mem h0
  obtain ⟨q, hq1, hq2⟩ := List.mem_map.1 hmem
  have hq3 := (List.mem_filter.1 hq1).1
  obtain ⟨i, hi, rfl⟩ := List.mem_iff_getElem.1 hq3
  rw [List.getElem_drop] at hq2
  have hi' : k + 1 + i < l.length := by rw [List.length_drop] at hi; omega
  have hc := quota_asc hq (show k < k + 1 + i by omega) hi'
  have hd : qt l (k + 1 + i) = l[k + 1 + i] := by unfold qt; rw [List.getD_eq_getElem?_getD, List.getElem?_eq_getElem hi']; rfl
  rw [← hq2, ← hd]
  omega
end Go.Proofs.Ythcmecgmidopoaa
