/- Listed names lead to nodes: the plain law. -/
import Derived.Test.YthfneaaenlgegaaGreatDoorList
import Derived.Test.YthfneaaenlgegaaGreatDoorMC
import Derived.Test.YthfneaaenlgegaaGreatDoorKidP
set_option linter.unusedSimpArgs false
set_option linter.unusedVariables false
set_option linter.unusedSectionVars false
namespace Go.Proofs.YthfneaaenlgegaaGreatDoor
open Go.RowKit

theorem follow_name {p x : List UInt8} (h : okP p = true) (hx : nameB x = true) : followF p x = [] ∨ (okP (followF p x) = true ∧ partsP (followF p x) = partsP p ++ [x]) := by
  have hch := fun c hc => (nameB_ch hx c hc).1
  have hnx := nameB_ne hx
  have hb : beginP p x = partsP p := by
    unfold beginP
    have hp : Lib.hasPrefix x [47] = false := by
      cases x with
      | nil => exact absurd rfl hnx.1
      | cons c r => exact (cut_other (fun r' e => hch c (List.mem_cons_self ..) (by cases e; rfl))).2
    rw [hp]; rfl
  have e : followF p x = endW (match putW (partsP p) x with | some q => putWs q [] | none => none) := by
    unfold followF
    rw [h, wayB_name hx, hb, spl_name hx, show (true && true) = true from rfl, if_pos rfl]
    rfl
  obtain ⟨n1, n2⟩ := namesB_iff.1 (ok_names h).1
  by_cases hl : (partsP p).length = 6
  · left
    rw [e]
    have hp : putW (partsP p) x = none := by
      unfold putW
      rw [if_neg (by simp [hnx.1, hnx.2.1]), if_neg hnx.2.2, if_pos hl]
    rw [hp]; rfl
  · right
    rw [put_name hx hl] at e
    have e2 : followF p x = joinP (partsP p ++ [x]) := e
    rw [e2]
    refine join_ok (namesB_iff.2 ⟨by simp; omega, fun y hy => ?_⟩)
    rcases List.mem_append.1 hy with hy | hy
    · exact n2 y hy
    · rw [List.mem_singleton.1 hy]; exact hx
theorem name_in {m : Int} {x : Nd} (h : nodeB m x = true) {s : List UInt8} (hs : s ∈ x.ns) : nameB s = true ∧ ¬ kidF x s < 0 := by
  have hall := (nodeB_iff.1 h).2
  obtain ⟨k, hk, rfl⟩ := List.mem_iff_getElem.1 hs
  have h1 := kidOk_iff.1 (hall k hk)
  have e : nthN x k = x.ns[k] := by
    have := nthN_at hk
    rw [List.getElem?_eq_getElem hk] at this
    injection this with this
    exact this.symm
  refine ⟨by rw [← e]; exact h1.1, ?_⟩
  unfold kidF
  rw [if_pos hs]
  have h2 := kidOk_iff.1 (hall _ (List.idxOf_lt_length_of_mem hs))
  have := h2.2.1
  omega
theorem list_law {t : List Nd} {a b c d : Int} {s : List UInt8} (h : (listF t a b c d s).2 = 0) : ∀ x ∈ (listF t a b c d s).1, nameB x = true ∧ (followF s x = [] ∨ ((findF t a b c d (followF s x)).2 = 0 ↔ mayAtF t a b c d s 1 = 0)) := by
  unfold listF at h ⊢
  by_cases hf : (findF t a b c d s).2 = 0
  · rw [if_neg (fun k => k hf)] at h ⊢
    by_cases hfo : (kth t (findF t a b c d s).1.toNat).fo = false
    · rw [if_pos hfo] at h; exact absurd h (by decide)
    · rw [if_neg hfo] at h ⊢
      by_cases hm : mayF a b c d (kth t (findF t a b c d s).1.toNat).ow (kth t (findF t a b c d s).1.toNat).gr (kth t (findF t a b c d s).1.toNat).mo 4 = false
      · rw [if_pos hm] at h; exact absurd h (by decide)
      · rw [if_neg hm]
        intro x hx
        obtain ⟨g1, g2, g3, g4, g5⟩ := findF_range hf
        have hlt : (findF t a b c d s).1.toNat < t.length := by omega
        obtain ⟨hn, hk⟩ := name_in (tree_node g1 hlt) hx
        refine ⟨hn, ?_⟩
        rcases follow_name g3 hn with e | ⟨e1, e2⟩
        · exact .inl e
        · right
          have f1 := find_yes (s := s) g1 g2 g3
          have f2 := find_yes (s := followF s x) g1 g2 e1
          rw [e2, findL_app, ← f1, if_pos hf, findL_one] at f2
          rw [f2, if_neg hfo]
          unfold mayAtF
          rw [if_neg (show ¬ inB 1 0 7 = false by decide), if_neg (show ¬ ¬ (findF t a b c d s).2 = 0 from fun k => k hf)]
          by_cases hr : mayF a b c d (kth t (findF t a b c d s).1.toNat).ow (kth t (findF t a b c d s).1.toNat).gr (kth t (findF t a b c d s).1.toNat).mo 1 = false
          · have hr' : runF a b c d (kth t (findF t a b c d s).1.toNat) = false := hr
            rw [if_pos hr, if_pos hr']
          · have hr' : ¬ runF a b c d (kth t (findF t a b c d s).1.toNat) = false := hr
            rw [if_neg hr, if_neg hr', if_neg hk]
  · rw [if_pos hf] at h
    exact absurd h hf
theorem list_no {t : List Nd} {a b c d : Int} {s : List UInt8} (h : ¬ (listF t a b c d s).2 = 0) : (listF t a b c d s).1 = [] := by
  unfold listF at h ⊢
  split
  · rfl
  · next h1 =>
    rw [if_neg h1] at h
    split
    · rfl
    · next h2 =>
      rw [if_neg h2] at h
      split
      · rfl
      · next h3 => rw [if_neg h3] at h; exact absurd rfl h
end Go.Proofs.YthfneaaenlgegaaGreatDoor
