/- The lexical order of a region that draws: a cheaper test than 'Region.lexB' itself. -/
import Derived.Test.YtkennmpbmbacpaaGreatDoorMA
set_option linter.unusedSimpArgs false
set_option linter.unusedVariables false
set_option linter.unusedSectionVars false
namespace Go.Proofs.YtkennmpbmbacpaaGreatDoor
open Go.RowKit

section
variable {ops : Array Oper}
def lexAhead (i : Nat) (o : Oper) : Bool := o.after.all fun e => !Region.binds .any e || Nat.blt e.on i
def lexApart (ops : Array Oper) (i : Nat) (o : Oper) (r : List Oper) : Bool := r.all fun oj => oj.after.any (fun e => Region.binds .any e && e.on == i) || o.apart ops oj
def lex2 (ops : Array Oper) : Nat → List Oper → Bool
  | _, [] => true
  | i, o :: r => lexAhead i o && (lexApart ops i o r && lex2 ops (i + 1) r)
/-- The first k have come up. -/
structure Came (listed : Array Bool) (n k : Nat) : Prop where
  size : listed.size = n
  yes : ∀ j, j < n → ∀ b, listed.getD j b = decide (j < k)
theorem came_zero (n : Nat) : Came (Array.replicate n false) n 0 := ⟨by simp, fun j hj b => by
  rw [Array.getD_eq_getD_getElem?, Array.getElem?_replicate, if_pos hj]; simp⟩
theorem Came.step {listed : Array Bool} {n k : Nat} (h : Came listed n k) (hk : k < n) : Came (listed.setIfInBounds k true) n (k + 1) := ⟨by rw [Array.size_setIfInBounds]; exact h.size, fun j hj b => by
  have h0 := h.yes j hj b
  rw [Array.getD_eq_getD_getElem?] at h0 ⊢
  rw [Array.getElem?_setIfInBounds]
  by_cases e : k = j
  · subst e
    rw [if_pos rfl, if_pos (by rw [h.size]; exact hk)]
    simp
  · rw [if_neg e, h0]
    exact decide_eq_decide.2 ⟨fun h => by omega, fun h => by omega⟩⟩
theorem came_end {listed : Array Bool} (h : Came listed ops.size ops.size) : (Region.ready .any ops listed).isEmpty = true := by
  rw [List.isEmpty_iff]
  unfold Region.ready
  rw [List.filter_eq_nil_iff]
  intro i hi
  have hi := List.mem_range.1 hi
  rw [h.yes i hi true, decide_eq_true hi]
  simp
theorem lex2_from : ∀ (l : List Oper) (k : Nat) (listed : Array Bool), (∀ j, l[j]? = ops[k + j]?) → k + l.length = ops.size → Came listed ops.size k → lex2 ops k l = true → Region.lexFrom .any ops l.length k listed = true
  | [], k, listed, _, hn, hc, _ => by
    rw [List.length_nil, Nat.add_zero] at hn
    subst hn
    exact came_end hc
  | o :: r, k, listed, hl, hn, hc, h => by
    have h0 : ops[k]? = some o := by simpa using (hl 0).symm
    have hk : k < ops.size := by rw [List.length_cons] at hn; omega
    simp only [lex2, Bool.and_eq_true] at h
    obtain ⟨h1, h2, h3⟩ := h
    simp only [List.length_cons, Region.lexFrom, Bool.and_eq_true]
    refine ⟨⟨?_, ?_⟩, lex2_from r (k + 1) _ (fun j => by have := hl (j + 1); simpa [Nat.add_assoc, Nat.add_comm 1 j] using this) (by rw [List.length_cons] at hn; omega) (hc.step hk) h3⟩
    · rw [List.contains_iff_mem]
      unfold Region.ready
      rw [List.mem_filter]
      refine ⟨List.mem_range.2 hk, ?_⟩
      rw [hc.yes k hk true, h0]
      simp only [Option.map_some, Option.getD_some, Bool.and_eq_true, Nat.lt_irrefl, decide_false, Bool.not_false, true_and]
      unfold lexAhead at h1
      rw [Array.all_eq_true_iff_forall_mem] at h1 ⊢
      intro e he
      have h4 := h1 e he
      rw [Bool.or_eq_true] at h4 ⊢
      rcases h4 with h4 | h4
      · exact .inl h4
      · have h5 : e.on < k := by
          have h6 : Nat.ble (e.on + 1) k = true := h4
          exact Nat.le_of_ble_eq_true h6
        right
        rw [hc.yes e.on (by omega) false]
        exact decide_eq_true h5
    · unfold Region.free
      rw [h0]
      simp only
      rw [List.all_eq_true]
      intro j hj
      have hj := List.mem_range.1 hj
      rw [hc.yes j hj true]
      rcases Nat.lt_trichotomy j k with c | c | c
      · simp [c]
      · simp [c]
      · have hr : r[j - k - 1]? = ops[j]? := by
          have := hl (j - k - 1 + 1)
          rw [List.getElem?_cons_succ] at this
          rw [this]
          congr 1
          omega
        obtain ⟨oj, hoj⟩ : ∃ oj, ops[j]? = some oj := ⟨ops[j], Array.getElem?_eq_getElem hj⟩
        rw [hoj] at hr ⊢
        unfold lexApart at h2
        rw [List.all_eq_true] at h2
        have h4 := h2 oj (List.mem_of_getElem? hr)
        simp only
        rw [h4]
        simp
/-- The cheaper test. -/
theorem lex_of {l : List Oper} (h1 : Region.noSelect l.toArray = true) (h2 : lex2 l.toArray 0 l = true) : Region.lexB .any l.toArray = true := by
  unfold Region.lexB
  rw [Bool.and_eq_true]
  refine ⟨h1, ?_⟩
  have := lex2_from (ops := l.toArray) l 0 (Array.replicate l.toArray.size false) (fun j => by simp) (by simp) (came_zero _) h2
  simpa using this
end
end Go.Proofs.YtkennmpbmbacpaaGreatDoor
