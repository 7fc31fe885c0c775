/- What is taken away is gone: the plain law of DropName. -/
import Derived.Test.YtkennmpbmbacpaaGreatDoorDropP
set_option linter.unusedSimpArgs false
set_option linter.unusedVariables false
set_option linter.unusedSectionVars false
namespace Go.Proofs.YtkennmpbmbacpaaGreatDoor
open Go.RowKit

theorem findL_cons (t : List Nd) (may : Nd → Bool) (n : Int) (p : List UInt8) (r : List (List UInt8)) : findL t may n (p :: r) = if (kth t n.toNat).fo = false then (-1, 4) else if may (kth t n.toNat) = false then (-1, 3) else if kidF (kth t n.toNat) p < 0 then (-1, 2) else findL t may (kidF (kth t n.toNat) p) r := rfl
/-- One step of a path that leads to a node. -/
theorem findL_step {t : List Nd} {may : Nd → Bool} {n : Int} {p : List UInt8} {r : List (List UInt8)} (h : (findL t may n (p :: r)).2 = 0) : (kth t n.toNat).fo = true ∧ may (kth t n.toNat) = true ∧ 0 ≤ kidF (kth t n.toNat) p ∧ findL t may n (p :: r) = findL t may (kidF (kth t n.toNat) p) r := by
  rw [findL_cons] at h ⊢
  split at h
  · cases h
  · next g1 =>
    split at h
    · cases h
    · next g2 =>
      split at h
      · cases h
      · next g3 =>
        rw [if_neg g1, if_neg g2, if_neg g3]
        exact ⟨by simpa using g1, by simpa using g2, by omega, rfl⟩
section
variable {t : List Nd} {may : Nd → Bool}
theorem kidF_down (hv : treeB t = true) {n : Nat} (hn : n < t.length) {p : List UInt8} (h : 0 ≤ kidF (kth t n) p) : 1 ≤ kidF (kth t n) p ∧ kidF (kth t n) p < (t.length : Int) ∧ ((kth t (kidF (kth t n) p).toNat).fo = true → (n : Int) < kidF (kth t n) p) := by
  rcases kidF_nth (s := p) (head_ks (tree_node hv hn)) with e | ⟨j, hj, e, _⟩
  · omega
  · have := (node_kids (tree_node hv hn)).2 j hj
    rw [e]
    exact ⟨this.1, by omega, tree_down hv hn hj⟩
/-- On a path to a directory the numbers rise. -/
theorem path_up (hv : treeB t = true) : ∀ (ps : List (List UInt8)) (n : Int), 0 ≤ n → n < (t.length : Int) → (findL t may n ps).2 = 0 → (kth t (findL t may n ps).1.toNat).fo = true → n ≤ (findL t may n ps).1 ∧ (ps ≠ [] → n < (findL t may n ps).1)
  | [], n, _, _, _, _ => ⟨Int.le_refl _, fun h => absurd rfl h⟩
  | p :: r, n, h0, h1, he, hf => by
    obtain ⟨_, _, a3, a4⟩ := findL_step he
    rw [a4] at he hf ⊢
    have hn : n.toNat < t.length := by omega
    obtain ⟨k1, k2, k3⟩ := kidF_down hv hn a3
    obtain ⟨i1, _⟩ := path_up hv r _ (by omega) k2 he hf
    have hz : (kth t (kidF (kth t n.toNat) p).toNat).fo = true := by
      cases r with
      | nil => exact hf
      | cons q r' => exact (findL_step he).1
    have := k3 hz
    exact ⟨by omega, fun _ => by omega⟩
/-- A path to a directory is not led by what that directory holds. -/
theorem findL_off {t' : List Nd} {m : Nat} (hv : treeB t = true) (hf : (kth t m).fo = true) (h : ∀ i, i < t.length → i ≠ m → (kth t' i).fo = (kth t i).fo ∧ may (kth t' i) = may (kth t i) ∧ ∀ y, 0 ≤ kidF (kth t i) y → kidF (kth t' i) y = kidF (kth t i) y) :
    ∀ (ps : List (List UInt8)) (n : Int), 0 ≤ n → n < (t.length : Int) → findL t may n ps = ((m : Int), 0) → findL t' may n ps = ((m : Int), 0)
  | [], n, _, _, he => he
  | p :: r, n, h0, h1, he => by
    have he2 : (findL t may n (p :: r)).2 = 0 := by rw [he]
    have hn : n.toNat < t.length := by omega
    obtain ⟨_, up⟩ := path_up hv (p :: r) n h0 h1 he2 (by rw [he]; exact hf)
    have hlt := up (by simp)
    rw [he] at hlt
    have hlt : n < (m : Int) := hlt
    obtain ⟨b1, b2, b3⟩ := h n.toNat hn (by omega)
    obtain ⟨a1, a2, a3, a4⟩ := findL_step he2
    obtain ⟨k1, k2, _⟩ := kidF_down hv hn a3
    rw [a4] at he
    have ih := findL_off hv hf h r _ (by omega) k2 he
    rw [findL_cons, if_neg (by rw [b1, a1]; simp), if_neg (by rw [b2, a2]; simp), b3 p a3, if_neg (by omega), ih]
end
section
variable {t : List Nd} {k : Nat}
theorem kid_ren (x : Nd) (hl : x.ns.length = x.ks.length) (y : List UInt8) : kidF (renN k x) y = if y ∈ x.ns then ren k (kidF x y) else -1 := by
  unfold kidF
  by_cases h : y ∈ x.ns
  · rw [if_pos h, if_pos h, if_pos (show y ∈ (renN k x).ns from h)]
    exact ren_nthK x _ (by rw [← hl]; exact List.idxOf_lt_length_of_mem h)
  · rw [if_neg h, if_neg (show y ∉ (renN k x).ns from h)]
/-- Paths lead to the same nodes, by their new numbers. -/
theorem findL_ren {a b c d : Int} (hk : k < t.length) (hn : ∀ i, i < t.length → nodeB (t.length : Int) (kth t i) = true) (hz : lnk t k = 0) :
    ∀ (ps : List (List UInt8)) (n : Int), 0 ≤ n → n < (t.length : Int) → n ≠ (k : Int) → findL (cleanT t k) (runF a b c d) (ren k n) ps = if (findL t (runF a b c d) n ps).2 = 0 then (ren k (findL t (runF a b c d) n ps).1, 0) else findL t (runF a b c d) n ps
  | [], n, _, _, _ => rfl
  | p :: r, n, h0, h1, hne => by
    have hn' : n.toNat < t.length := by omega
    have hup : upI k (ren k n).toNat = n.toNat := ren_up h0 hne
    have hlt : (ren k n).toNat < t.length - 1 := by unfold ren; split <;> omega
    have hc : kth (cleanT t k) (ren k n).toNat = renN k (kth t n.toNat) := by rw [clean_kth hk hlt, hup]
    have hx := hn _ hn'
    have hl := head_ks hx
    rw [findL_cons, findL_cons, hc, kid_ren _ hl]
    have e1 : (renN k (kth t n.toNat)).fo = (kth t n.toNat).fo := rfl
    have e2 : runF a b c d (renN k (kth t n.toNat)) = runF a b c d (kth t n.toNat) := rfl
    rw [e1, e2]
    by_cases g1 : (kth t n.toNat).fo = false
    · rw [if_pos g1, if_pos g1]; rfl
    · rw [if_neg g1, if_neg g1]
      by_cases g2 : runF a b c d (kth t n.toNat) = false
      · rw [if_pos g2, if_pos g2]; rfl
      · rw [if_neg g2, if_neg g2]
        rcases kidF_nth (s := p) hl with e | ⟨j, hj, e, hm⟩
        · have hni : p ∉ (kth t n.toNat).ns := by
            intro hm
            unfold kidF at e
            rw [if_pos hm] at e
            have := (node_kids hx).2 _ (by rw [← hl]; exact List.idxOf_lt_length_of_mem hm)
            omega
          rw [if_neg hni, e]; rfl
        · have hr := (node_kids hx).2 j hj
          have hne2 : kidF (kth t n.toNat) p ≠ (k : Int) := by
            intro e2
            have h3 : (k : Int) ∈ kidsOf t := by rw [← e2, e]; exact kid_in hn' hj
            have := List.count_pos_iff.2 h3
            unfold lnk at hz; omega
          have hnn : ¬ ren k (kidF (kth t n.toNat) p) < 0 := by
            unfold ren; split <;> omega
          rw [if_pos hm, if_neg hnn, if_neg (show ¬ kidF (kth t n.toNat) p < 0 by omega)]
          exact findL_ren (a := a) (b := b) (c := c) (d := d) hk hn hz r _ (by omega) (by omega) hne2
end
def dropT (t : List Nd) (m : Nat) (s : List UInt8) (k : Nat) : List Nd := if 0 < lnk (takeT t m s) k then takeT t m s else cleanT (takeT t m s) k
def dropF (t : List Nd) (a b c d : Int) (s : List UInt8) : List Nd × Int :=
  if ¬ dropOf t a b c d s false = 0 then ([], dropOf t a b c d s false) else (dropT t (upF t a b c d s).1.toNat (lastF s) (kidF (kth t (upF t a b c d s).1.toNat) (lastF s)).toNat, 0)
section
variable {t : List Nd} {a b c d : Int} {s : List UInt8}
theorem up_range (h : (upF t a b c d s).2 = 0) : ∃ m : Nat, (upF t a b c d s).1 = (m : Int) ∧ m < t.length ∧ treeB t = true ∧ credB a b c d = true ∧ aboveOk s = true ∧ findF t a b c d (aboveF s) = ((m : Int), 0) ∧ (kth t m).fo = true ∧ runF a b c d (kth t m) = true := by
  obtain ⟨h1, h2, h3, h4, h5⟩ := up_yes h
  obtain ⟨g1, g2, _, g4, g5⟩ := findF_range h2
  refine ⟨(findF t a b c d (aboveF s)).1.toNat, by omega, by omega, g1, g2, h1, Prod.ext (by simp; omega) h2, h4, may_run h5⟩
theorem dropOf_yes {full : Bool} (h : dropOf t a b c d s full = 0) : (upF t a b c d s).2 = 0 ∧ 0 ≤ kidF (kth t (upF t a b c d s).1.toNat) (lastF s) ∧ (full = false → (kth t (kidF (kth t (upF t a b c d s).1.toNat) (lastF s)).toNat).ns = []) := by
  unfold dropOf at h
  split at h
  · next h' => exact absurd h h'
  · next g1 =>
    split at h
    · cases h
    · next g2 =>
      split at h
      · cases h
      · split at h
        · cases h
        · next g4 =>
          refine ⟨Decidable.not_not.1 g1, by omega, fun hf => ?_⟩
          subst hf
          simpa using g4
/-- The parts of a name that may be taken away. -/
theorem drop_parts (h : dropOf t a b c d s false = 0) : ∃ m k : Nat, (upF t a b c d s).1 = (m : Int) ∧ m < t.length ∧ treeB t = true ∧ credB a b c d = true ∧ aboveOk s = true ∧ findF t a b c d (aboveF s) = ((m : Int), 0) ∧ (kth t m).fo = true ∧ runF a b c d (kth t m) = true ∧
    kidF (kth t m) (lastF s) = (k : Int) ∧ 1 ≤ k ∧ k < t.length ∧ lastF s ∈ (kth t m).ns ∧ (kth t k).ns = [] ∧ (kth t k).ks = [] ∧ findF t a b c d s = ((k : Int), 0) ∧ dropF t a b c d s = (dropT t m (lastF s) k, 0) := by
  obtain ⟨h1, h2, h3⟩ := dropOf_yes h
  obtain ⟨m, e, hm, hv, hc, ha, hf, hfo, hr⟩ := up_range h1
  rw [e, Int.toNat_natCast] at h2 h3
  obtain ⟨k1, k2, _⟩ := kidF_down hv hm h2
  obtain ⟨k, hk⟩ : ∃ k : Nat, kidF (kth t m) (lastF s) = (k : Int) := ⟨(kidF (kth t m) (lastF s)).toNat, by omega⟩
  have hns := h3 rfl
  rw [hk, Int.toNat_natCast] at hns
  have hkl : k < t.length := by omega
  have hks : (kth t k).ks = [] := List.length_eq_zero_iff.1 (by rw [← head_ks (tree_node hv hkl), hns]; rfl)
  refine ⟨m, k, e, hm, hv, hc, ha, hf, hfo, hr, hk, by omega, hkl, ?_, hns, hks, ?_, ?_⟩
  · rcases kidF_nth (s := lastF s) (head_ks (tree_node hv hm)) with e2 | ⟨_, _, _, e2⟩
    · omega
    · exact e2
  · rw [find_above ha, hf]
    show (if (0 : Int) = 0 then _ else _) = _
    rw [if_pos rfl, findL_one, Int.toNat_natCast, if_neg (by rw [hfo]; simp), if_neg (by rw [hr]; simp), hk, if_neg (by omega)]
  · unfold dropF
    rw [if_neg (by rw [h]; simp), e, Int.toNat_natCast, hk, Int.toNat_natCast]
/-- DropName: the tree is valid, the path is missing, and there is a node less exactly if it had one name. -/
theorem drop_law (h : dropOf t a b c d s false = 0) : ∃ k : Nat, k < t.length ∧ findF t a b c d s = ((k : Int), 0) ∧ (dropF t a b c d s).2 = 0 ∧ treeB (dropF t a b c d s).1 = true ∧ findF (dropF t a b c d s).1 a b c d s = (-1, 2) ∧
    (((dropF t a b c d s).1.length = t.length - 1 ∧ lnk t k = 1) ∨ ((dropF t a b c d s).1.length = t.length ∧ lnk t k ≠ 1)) ∧ 2 ≤ t.length ∧ (kidsOf (dropF t a b c d s).1).length + 1 = (kidsOf t).length := by
  obtain ⟨m, k, e, hm, hv, hc, ha, hf, hfo, hr, hk, hk1, hkl, hmem, hns, hks, hfs, hd⟩ := drop_parts h
  obtain ⟨s1, s2, s3, s4⟩ := above_split ha
  rw [hd]
  have hl := take_lnk hv hm hmem k
  rw [if_pos hk] at hl
  have ht : 2 ≤ t.length := by omega
  have hn0 : (0 : Int) < (t.length : Int) := by omega
  have hpath : findL t (runF a b c d) 0 (partsP (aboveF s)) = ((m : Int), 0) := by rw [← find_yes hv hc s2]; exact hf
  have hp1 := findL_off (t' := takeT t m (lastF s)) hv hfo (fun i hi hne => by
    rw [take_kth hm hi, if_neg hne]
    exact ⟨rfl, rfl, fun _ _ => rfl⟩) (partsP (aboveF s)) 0 (by omega) hn0 hpath
  have hA := asc_of (tree_node hv hm)
  have hgone := del_gone hA hmem
  have hkl2 : (kidsOf (takeT t m (lastF s))).length + 1 = (kidsOf t).length := by
    have h1 := kidsLen_set (delAt (kth t m) (putAt (kth t m) (lastF s))) hm
    obtain ⟨p1, _⟩ := put_there hA hmem
    have h2 := head_ks (tree_node hv hm)
    rw [del_lenK (by omega)] at h1
    unfold takeT
    omega
  by_cases h0 : 0 < lnk (takeT t m (lastF s)) k
  · have hT := take_tree hv hm hmem hk h0
    have e1 : dropT t m (lastF s) k = takeT t m (lastF s) := if_pos h0
    rw [e1]
    refine ⟨k, hkl, hfs, rfl, hT, ?_, .inr ⟨take_len, by omega⟩, ht, hkl2⟩
    show findF (takeT t m (lastF s)) a b c d s = (-1, 2)
    rw [find_yes hT hc s1, s3, findL_app, hp1]
    show (if (0 : Int) = 0 then _ else _) = _
    rw [if_pos rfl, findL_one, Int.toNat_natCast, take_kth hm hm, if_pos rfl]
    have f1 : (delAt (kth t m) (putAt (kth t m) (lastF s))).fo = true := hfo
    have f2 : runF a b c d (delAt (kth t m) (putAt (kth t m) (lastF s))) = true := hr
    rw [if_neg (by rw [f1]; simp), if_neg (by rw [f2]; simp), if_pos]
    unfold kidF
    rw [if_neg hgone]
    decide
  · have e1 : dropT t m (lastF s) k = cleanT (takeT t m (lastF s)) k := if_neg h0
    have h00 : lnk (takeT t m (lastF s)) k = 0 := by unfold lnk at h0 ⊢; omega
    obtain ⟨a1, a2, a3, a4⟩ := tree_all hv
    obtain ⟨n1, n2⟩ := inB_iffL.1 a1
    have hkT : k < (takeT t m (lastF s)).length := by rw [take_len]; exact hkl
    have hkm : k ≠ m := by
      intro e2
      subst e2
      rw [hns] at hmem
      cases hmem
    have hkk : kth (takeT t m (lastF s)) k = kth t k := by rw [take_kth hm hkl, if_neg hkm]
    have hnode : ∀ i, i < (takeT t m (lastF s)).length → nodeB ((takeT t m (lastF s)).length : Int) (kth (takeT t m (lastF s)) i) = true := fun i hi => by
      rw [take_len] at hi ⊢
      exact take_nodes hv hm hmem hi
    have hT : treeB (cleanT (takeT t m (lastF s)) k) = true := clean_tree hkT (by omega) (by rw [take_len]; omega) (by rw [take_fo hm (by omega)]; exact a2) hnode
      (fun i j hi hj => by rw [take_len] at hi; exact take_down hv hm hmem hi hj) h00 (fun i hi hne => by
        rw [take_len] at hi
        have h1 := named_iff.1 (a4 i hi)
        have h2 := take_lnk hv hm hmem i
        rw [if_neg (by rw [hk]; omega)] at h2
        rw [named_iff, take_fo hm hi]
        rcases h1 with h1 | ⟨h3, h4⟩
        · exact .inl h1
        · exact .inr ⟨by omega, fun hf => by have := h4 hf; omega⟩) (by rw [hkk]; exact hks)
    rw [e1]
    have hlen : (cleanT (takeT t m (lastF s)) k).length = t.length - 1 := by rw [clean_len hkT, take_len]
    refine ⟨k, hkl, hfs, rfl, hT, ?_, .inl ⟨hlen, by omega⟩, ht, ?_⟩
    · show findF (cleanT (takeT t m (lastF s)) k) a b c d s = (-1, 2)
      have hr0 : (0 : Int) = ren k 0 := by unfold ren; rw [if_neg (by omega)]
      have hp2 := findL_ren (a := a) (b := b) (c := c) (d := d) hkT hnode h00 (partsP (aboveF s)) 0 (by omega) (by rw [take_len]; exact hn0) (by omega)
      rw [hp1, ← hr0] at hp2
      replace hp2 : findL (cleanT (takeT t m (lastF s)) k) (runF a b c d) 0 (partsP (aboveF s)) = (ren k (m : Int), 0) := hp2
      have hmk : (m : Int) ≠ (k : Int) := by omega
      have hup : upI k (ren k (m : Int)).toNat = m := by rw [ren_up (by omega) hmk, Int.toNat_natCast]
      have hlt : (ren k (m : Int)).toNat < (takeT t m (lastF s)).length - 1 := by rw [take_len]; unfold ren; split <;> omega
      have hcm : kth (cleanT (takeT t m (lastF s)) k) (ren k (m : Int)).toNat = renN k (delAt (kth t m) (putAt (kth t m) (lastF s))) := by
        rw [clean_kth hkT hlt, hup, take_kth hm hm, if_pos rfl]
      rw [find_yes hT hc s1, s3, findL_app, hp2]
      show (if (0 : Int) = 0 then _ else _) = _
      rw [if_pos rfl, findL_one, hcm]
      have f1 : (renN k (delAt (kth t m) (putAt (kth t m) (lastF s)))).fo = true := hfo
      have f2 : runF a b c d (renN k (delAt (kth t m) (putAt (kth t m) (lastF s)))) = true := hr
      rw [if_neg (by rw [f1]; simp), if_neg (by rw [f2]; simp), if_pos]
      unfold kidF
      rw [if_neg (show lastF s ∉ (renN k (delAt (kth t m) (putAt (kth t m) (lastF s)))).ns from hgone)]
      decide
    · show (kidsOf (cleanT (takeT t m (lastF s)) k)).length + 1 = _
      rw [clean_kids hkT (by rw [hkk]; exact hks), List.length_map]
      exact hkl2
theorem drop_no (h : ¬ dropOf t a b c d s false = 0) : dropF t a b c d s = ([], dropOf t a b c d s false) := if_pos h
end
end Go.Proofs.YtkennmpbmbacpaaGreatDoor
