/- DropAll: the plain side. -/
import Derived.Test.YtkennmpbmbacpaaGreatDoorLev
set_option linter.unusedSimpArgs false
set_option linter.unusedVariables false
set_option linter.unusedSectionVars false
namespace Go.Proofs.YtkennmpbmbacpaaGreatDoor
open Go.RowKit

/-- The path of a name in the directory at a path. -/
def belowP (s x : List UInt8) : List UInt8 := if s = [47] then 47 :: x else s ++ 47 :: x
theorem joinL_app : ∀ (u v : List (List UInt8)), joinL (u ++ v) = joinL u ++ joinL v
  | [], _ => rfl
  | x :: u, v => by
    show 47 :: (x ++ joinL (u ++ v)) = 47 :: (x ++ joinL u) ++ joinL v
    rw [joinL_app u v, List.cons_append, List.append_assoc]
theorem below_ok {s x : List UInt8} (hs : okP s = true) (hx : nameB x = true) (hl : (partsP s).length < 6) : okP (belowP s x) = true ∧ partsP (belowP s x) = partsP s ++ [x] ∧ joinP (partsP s ++ [x]) = belowP s x := by
  obtain ⟨n1, n2⟩ := ok_names hs
  obtain ⟨m1, m2⟩ := namesB_iff.1 n1
  have hW : namesB (partsP s ++ [x]) = true := namesB_iff.2 ⟨by rw [List.length_append, List.length_singleton]; omega, fun y hy => by
    rcases List.mem_append.1 hy with h | h
    · exact m2 y h
    · rw [List.mem_singleton.1 h]; exact hx⟩
  have e : joinP (partsP s ++ [x]) = belowP s x := by
    rw [joinP_yes hW (by simp), joinL_app]
    unfold belowP
    by_cases hp : partsP s = []
    · have hs2 : s = [47] := by rw [hp] at n2; exact n2.symm
      rw [if_pos hs2, hp]
      show [] ++ (47 :: (x ++ [])) = _
      simp
    · have hs2 : s ≠ [47] := fun e => hp (by rw [e]; rfl)
      rw [if_neg hs2, ← joinP_yes n1 hp, n2]
      show s ++ (47 :: (x ++ [])) = _
      simp
  have := join_ok hW
  rw [e] at this
  exact ⟨this.1, this.2, e⟩
theorem names_ok {m : Int} {x : Nd} (h : nodeB m x = true) : ∀ y ∈ x.ns, nameB y = true := fun y hy => by
  obtain ⟨k, hk, rfl⟩ := List.mem_iff_getElem.1 hy
  have h1 := kidOk_iff.1 ((nodeB_iff.1 h).2 k hk)
  have e : nthN x k = x.ns[k] := by
    have := nthN_at hk
    rw [List.getElem?_eq_getElem hk] at this
    injection this with this
    exact this.symm
  rw [← e]; exact h1.1
section
variable (a b c d : Int)
/-- Names of a directory are taken away, one by one. -/
def namesF (g : List Nd → List UInt8 → List Nd × Int) (s : List UInt8) : List Nd → List (List UInt8) → List Nd × Int
  | t, [] => (t, 0)
  | t, x :: r => if ¬ (g t (belowP s x)).2 = 0 then ([], (g t (belowP s x)).2) else namesF g s (g t (belowP s x)).1 r
def nodeNs (t : List Nd) (s : List UInt8) : List (List UInt8) := (kth t (findF t a b c d s).1.toNat).ns
/-- What DropAll computes; the number bounds the directories within one another. -/
def allF : Nat → List Nd → List UInt8 → List Nd × Int
  | 0, t, s => dropF t a b c d s
  | f + 1, t, s => if (findF t a b c d s).2 = 0 then (if ¬ (namesF (allF f) s t (nodeNs a b c d t s).reverse).2 = 0 then ([], (namesF (allF f) s t (nodeNs a b c d t s).reverse).2) else dropF (namesF (allF f) s t (nodeNs a b c d t s).reverse).1 a b c d s) else dropF t a b c d s
/-- The last name within the last name, and so on. -/
def deepF (t : List Nd) : Nat → List UInt8 → List UInt8
  | 0, s => s
  | g + 1, s => if (findF t a b c d s).2 = 0 ∧ nodeNs a b c d t s ≠ [] then deepF t g (belowP s ((nodeNs a b c d t s).getLastD [])) else s
end
section
variable {t : List Nd} {a b c d : Int} {s x : List UInt8}
theorem deep_no {g : Nat} (h : ¬ ((findF t a b c d s).2 = 0 ∧ nodeNs a b c d t s ≠ [])) : deepF a b c d t g s = s := by
  cases g with
  | zero => rfl
  | succ g => exact if_neg h
theorem deep_yes {g : Nat} (h : (findF t a b c d s).2 = 0 ∧ nodeNs a b c d t s ≠ []) : deepF a b c d t (g + 1) s = deepF a b c d t g (belowP s ((nodeNs a b c d t s).getLastD [])) := if_pos h
theorem getLastD_mem {l : List (List UInt8)} (h : l ≠ []) : l.getLastD [] ∈ l := by
  have hl := List.length_pos_iff.2 h
  rw [lastD_getD h, List.getD_eq_getElem?_getD, List.getElem?_eq_getElem (by omega)]
  exact List.getElem_mem _
/-- The last name of a directory that a path leads to: what lies below has a path. -/
theorem last_ok (hl : Lev t) (h : (findF t a b c d s).2 = 0 ∧ nodeNs a b c d t s ≠ []) (hx : x ∈ nodeNs a b c d t s) : okP s = true ∧ nameB x = true ∧ okP (belowP s x) = true ∧ partsP (belowP s x) = partsP s ++ [x] ∧ joinP (partsP s ++ [x]) = belowP s x ∧ (partsP s).length < 6 := by
  obtain ⟨hv, hc, hs, h0, h1⟩ := findF_range h.1
  have hk : (findF t a b c d s).1.toNat < t.length := by omega
  have h6 := lev_short hl h.1 h.2
  have hn := (names_ok (tree_node hv hk)) x hx
  obtain ⟨b1, b2, b3⟩ := below_ok hs hn h6
  exact ⟨hs, hn, b1, b2, b3, h6⟩
theorem deep_fuel (hl : Lev t) : ∀ (g : Nat) (s : List UInt8), (okP s = true → 6 ≤ g + (partsP s).length) → deepF a b c d t (g + 1) s = deepF a b c d t g s
  | 0, s, h6 => by
    refine deep_no fun h => ?_
    obtain ⟨h1, _, _, _, _, h2⟩ := last_ok hl h (getLastD_mem h.2)
    have := h6 h1
    omega
  | g + 1, s, h6 => by
    by_cases h : (findF t a b c d s).2 = 0 ∧ nodeNs a b c d t s ≠ []
    · obtain ⟨h1, _, h3, h4, _, _⟩ := last_ok hl h (getLastD_mem h.2)
      rw [deep_yes h, deep_yes h]
      refine deep_fuel hl g _ fun _ => ?_
      have := h6 h1
      rw [h4, List.length_append, List.length_singleton]; omega
    · rw [deep_no h, deep_no h]
theorem deep_parts (hl : Lev t) : ∀ (g : Nat) (s : List UInt8), okP s = true → okP (deepF a b c d t g s) = true ∧ ∃ q, partsP (deepF a b c d t g s) = partsP s ++ q
  | 0, s, hs => ⟨hs, [], by simp [deepF]⟩
  | g + 1, s, hs => by
    by_cases h : (findF t a b c d s).2 = 0 ∧ nodeNs a b c d t s ≠ []
    · obtain ⟨h1, _, h3, h4, _, _⟩ := last_ok hl h (getLastD_mem h.2)
      rw [deep_yes h]
      obtain ⟨i1, q, i2⟩ := deep_parts hl g _ h3
      exact ⟨i1, (nodeNs a b c d t s).getLastD [] :: q, by rw [i2, h4, List.append_assoc]; rfl⟩
    · rw [deep_no h]
      exact ⟨hs, [], by simp⟩
/-- A path to a directory is not led by directories with greater numbers. -/
theorem findL_low {t' : List Nd} {may : Nd → Bool} {m : Nat} (hv : treeB t = true) (hf : (kth t m).fo = true) (h : ∀ i, i < m → (kth t' i).fo = (kth t i).fo ∧ may (kth t' i) = may (kth t i) ∧ ∀ y, 0 ≤ kidF (kth t i) y → kidF (kth t' i) y = kidF (kth t i) y) :
    ∀ (ps : List (List UInt8)) (n : Int), 0 ≤ n → n < (t.length : Int) → findL t may n ps = ((m : Int), 0) → findL t' may n ps = ((m : Int), 0)
  | [], n, h0, h1, he => he
  | p :: r, n, h0, h1, he => by
    have he2 : (findL t may n (p :: r)).2 = 0 := by rw [he]
    have hn : n.toNat < t.length := by omega
    obtain ⟨_, up⟩ := path_up hv (p :: r) n h0 h1 he2 (by rw [he]; exact hf)
    have hlt := up (by simp)
    rw [he] at hlt
    have hlt : n < (m : Int) := hlt
    obtain ⟨b1, b2, b3⟩ := h n.toNat (by omega)
    obtain ⟨a1, a2, a3, a4⟩ := findL_step he2
    obtain ⟨k1, k2, _⟩ := kidF_down hv hn a3
    rw [a4] at he
    have ih := findL_low hv hf h r _ (by omega) k2 he
    rw [findL_cons, if_neg (by rw [b1, a1]; simp), if_neg (by rw [b2, a2]; simp), b3 p a3, if_neg (by omega), ih]
theorem del_last {y : Nd} (hA : Asc y) (hne : y.ns ≠ []) : (delAt y (putAt y (y.ns.getLastD []))).ns = y.ns.dropLast := by
  have hl : 0 < y.ns.length := List.length_pos_iff.2 hne
  obtain ⟨p1, p2⟩ := put_there hA (getLastD_mem hne)
  have e1 : nthN y (y.ns.length - 1) = y.ns.getLastD [] := by
    unfold nthN
    rw [lastD_getD hne]
  have e : putAt y (y.ns.getLastD []) = y.ns.length - 1 := by
    rcases Nat.lt_or_ge (putAt y (y.ns.getLastD [])) (y.ns.length - 1) with h | h
    · have := asc_lt hA h (by omega)
      rw [p2, e1, ltL_irr] at this
      cases this
    · omega
  show y.ns.eraseIdx _ = _
  rw [e, List.dropLast_eq_take, List.eraseIdx_eq_take_drop_succ, List.drop_eq_nil_of_le (by omega), List.append_nil]
/-- What is left of a directory's names when a path below it is taken away. -/
theorem drop_keep {at_ : List UInt8} {q : List (List UInt8)} (hs : (findF t a b c d s).2 = 0) (hne : nodeNs a b c d t s ≠ []) (hq : partsP at_ = partsP s ++ (nodeNs a b c d t s).getLastD [] :: q) (h : dropOf t a b c d at_ false = 0) :
    (findF (dropF t a b c d at_).1 a b c d s).2 = 0 ∧ nodeNs a b c d (dropF t a b c d at_).1 s = if q = [] then (nodeNs a b c d t s).dropLast else nodeNs a b c d t s := by
  obtain ⟨_, _, _, _, hT, _, _, _⟩ := drop_law h
  obtain ⟨m2, k, e, hm2, hv, hc, ha, hf2, hfo2, hr, hk, hk1, hkl, hmem, hns, hks, hfs, hd⟩ := drop_parts h
  obtain ⟨s1, s2, s3, s4⟩ := above_split ha
  obtain ⟨_, _, hso, g0, g1⟩ := findF_range hs
  obtain ⟨m, hm⟩ : ∃ m : Nat, (findF t a b c d s).1 = (m : Int) := ⟨(findF t a b c d s).1.toNat, by omega⟩
  have hml : m < t.length := by omega
  have hfs' : findF t a b c d s = ((m : Int), 0) := Prod.ext hm hs
  have hN : nodeNs a b c d t s = (kth t m).ns := by unfold nodeNs; rw [hm, Int.toNat_natCast]
  rw [hN] at hne hq ⊢
  have hfo : (kth t m).fo = true := by
    cases e : (kth t m).fo with
    | true => rfl
    | false => exact absurd (file_names (tree_node hv hml) e) hne
  have hl0 : (0 : Int) < (t.length : Int) := by omega
  have hp0 : findL t (runF a b c d) 0 (partsP s) = ((m : Int), 0) := by rw [← find_yes hv hc hso]; exact hfs'
  have hp2 : findL t (runF a b c d) 0 (partsP (aboveF at_)) = ((m2 : Int), 0) := by rw [← find_yes hv hc s2]; exact hf2
  -- where the name is taken away
  have hcase : (q = [] ∧ m2 = m ∧ lastF at_ = (kth t m).ns.getLastD []) ∨ (q ≠ [] ∧ m < m2) := by
    rw [hq] at s3
    by_cases hq0 : q = []
    · subst hq0
      have hx := List.append_inj' s3 rfl
      refine .inl ⟨rfl, ?_, ?_⟩
      · rw [← hx.1, hp0] at hp2
        injection hp2 with h1 _
        omega
      · have := hx.2
        injection this with h1 _
        exact h1.symm
    · refine .inr ⟨hq0, ?_⟩
      obtain ⟨q', z, rfl⟩ : ∃ q' z, q = q' ++ [z] := ⟨q.dropLast, q.getLast hq0, (List.dropLast_concat_getLast hq0).symm⟩
      have hx := List.append_inj' (s₁ := partsP s ++ (kth t m).ns.getLastD [] :: q') (t₁ := [z]) (s₂ := partsP (aboveF at_)) (t₂ := [lastF at_]) (by rw [← s3, List.append_assoc]; rfl) rfl
      rw [← hx.1, findL_app, hp0] at hp2
      replace hp2 : (if (0 : Int) = 0 then findL t (runF a b c d) (m : Int) ((kth t m).ns.getLastD [] :: q') else _) = _ := hp2
      rw [if_pos rfl] at hp2
      have := (path_up hv ((kth t m).ns.getLastD [] :: q') (m : Int) (by omega) (by omega) (by rw [hp2]) (by rw [hp2]; exact hfo2)).2 (by simp)
      rw [hp2] at this
      have h2 : (m : Int) < (m2 : Int) := this
      omega
  have hp1 : findL (takeT t m2 (lastF at_)) (runF a b c d) 0 (partsP s) = ((m : Int), 0) := findL_low hv hfo (fun i hi => by
    have hne2 : i ≠ m2 := by rcases hcase with ⟨_, h, _⟩ | ⟨_, h⟩ <;> omega
    rw [take_kth hm2 (by omega), if_neg hne2]
    exact ⟨rfl, rfl, fun _ _ => rfl⟩) _ 0 (by omega) hl0 hp0
  have hNs : (kth (takeT t m2 (lastF at_)) m).ns = if q = [] then (kth t m).ns.dropLast else (kth t m).ns := by
    rcases hcase with ⟨h1, h2, h3⟩ | ⟨h1, h2⟩
    · subst h2
      rw [take_kth hm2 hm2, if_pos rfl, if_pos h1, h3]
      exact del_last (asc_of (tree_node hv hm2)) hne
    · rw [take_kth hm2 hml, if_neg (by omega), if_neg h1]
  have hkm : k ≠ m := fun e => by subst e; exact hne hns
  have hd1 : (dropF t a b c d at_).1 = dropT t m2 (lastF at_) k := by rw [hd]
  rw [hd1] at hT ⊢
  by_cases h0 : 0 < lnk (takeT t m2 (lastF at_)) k
  · have e1 : dropT t m2 (lastF at_) k = takeT t m2 (lastF at_) := if_pos h0
    rw [e1] at hT ⊢
    have hF : findF (takeT t m2 (lastF at_)) a b c d s = ((m : Int), 0) := by rw [find_yes hT hc hso]; exact hp1
    refine ⟨by rw [hF], ?_⟩
    unfold nodeNs
    rw [hF]
    exact hNs
  · have e1 : dropT t m2 (lastF at_) k = cleanT (takeT t m2 (lastF at_)) k := if_neg h0
    rw [e1] at hT ⊢
    have h00 : lnk (takeT t m2 (lastF at_)) k = 0 := by unfold lnk at h0 ⊢; omega
    have hkT : k < (takeT t m2 (lastF at_)).length := by rw [take_len]; exact hkl
    have hnode : ∀ i, i < (takeT t m2 (lastF at_)).length → nodeB ((takeT t m2 (lastF at_)).length : Int) (kth (takeT t m2 (lastF at_)) i) = true := fun i hi => by
      rw [take_len] at hi ⊢
      exact take_nodes hv hm2 hmem hi
    have hr0 : (0 : Int) = ren k 0 := by unfold ren; rw [if_neg (by omega)]
    have hp3 := findL_ren (a := a) (b := b) (c := c) (d := d) hkT hnode h00 (partsP s) 0 (by omega) (by rw [take_len]; exact hl0) (by omega)
    rw [hp1, ← hr0] at hp3
    replace hp3 : findL (cleanT (takeT t m2 (lastF at_)) k) (runF a b c d) 0 (partsP s) = (ren k (m : Int), 0) := hp3
    have hmk : (m : Int) ≠ (k : Int) := by omega
    have hup : upI k (ren k (m : Int)).toNat = m := by rw [ren_up (by omega) hmk, Int.toNat_natCast]
    have hlt : (ren k (m : Int)).toNat < (takeT t m2 (lastF at_)).length - 1 := by rw [take_len]; unfold ren; split <;> omega
    have hF : findF (cleanT (takeT t m2 (lastF at_)) k) a b c d s = (ren k (m : Int), 0) := by rw [find_yes hT hc hso]; exact hp3
    refine ⟨by rw [hF], ?_⟩
    unfold nodeNs
    rw [hF]
    show (kth (cleanT (takeT t m2 (lastF at_)) k) (ren k (m : Int)).toNat).ns = _
    rw [clean_kth hkT hlt, hup]
    exact hNs
theorem all_zero : allF a b c d 0 t s = dropF t a b c d s := rfl
theorem all_no {f : Nat} (h : ¬ ((findF t a b c d s).2 = 0 ∧ nodeNs a b c d t s ≠ [])) : allF a b c d f t s = dropF t a b c d s := by
  cases f with
  | zero => rfl
  | succ f =>
    unfold allF
    by_cases h1 : (findF t a b c d s).2 = 0
    · have h2 : nodeNs a b c d t s = [] := Decidable.not_not.1 fun e => h ⟨h1, e⟩
      rw [if_pos h1, h2]
      exact if_neg (by simp [namesF])
    · rw [if_neg h1]
/-- One step: the deepest last name is taken away, and so on. -/
theorem all_step : ∀ (f : Nat) (t : List Nd) (s : List UInt8), (treeB t = true → Lev t) → (okP s = true → 6 ≤ f + (partsP s).length) →
    allF a b c d f t s = if deepF a b c d t 7 s = s then dropF t a b c d s else if ¬ (dropF t a b c d (deepF a b c d t 7 s)).2 = 0 then ([], (dropF t a b c d (deepF a b c d t 7 s)).2) else allF a b c d f (dropF t a b c d (deepF a b c d t 7 s)).1 s
  | 0, t, s, hl, h6 => by
    by_cases h : (findF t a b c d s).2 = 0 ∧ nodeNs a b c d t s ≠ []
    · have hv := (findF_range h.1).1
      obtain ⟨h1, _, _, _, _, h2⟩ := last_ok (hl hv) h (getLastD_mem h.2)
      have := h6 h1
      omega
    · rw [if_pos (deep_no h), all_zero]
  | f + 1, t, s, hl, h6 => by
    by_cases h : (findF t a b c d s).2 = 0 ∧ nodeNs a b c d t s ≠ []
    · have hv := (findF_range h.1).1
      have hL := hl hv
      obtain ⟨h1, _, h3, h4, _, h5⟩ := last_ok hL h (getLastD_mem h.2)
      obtain ⟨x, hx⟩ : ∃ x, x = (nodeNs a b c d t s).getLastD [] := ⟨_, rfl⟩
      rw [← hx] at h3 h4
      have hrev : (nodeNs a b c d t s).reverse = x :: (nodeNs a b c d t s).dropLast.reverse := by
        have := drop_last h.2
        rw [← hx] at this
        rw [← this, List.reverse_append, List.dropLast_concat]; rfl
      have hdeep : deepF a b c d t 7 s = deepF a b c d t 7 (belowP s x) := by
        rw [deep_yes (g := 6) h, ← hx]
        exact (deep_fuel hL 6 _ (fun _ => by omega)).symm
      have ih := all_step f t (belowP s x) hl (fun _ => by have := h6 h1; rw [h4, List.length_append, List.length_singleton]; omega)
      obtain ⟨ho, q, hq⟩ := deep_parts (a := a) (b := b) (c := c) (d := d) hL 7 (belowP s x) h3
      rw [h4, List.append_assoc] at hq
      have hq' : partsP (deepF a b c d t 7 (belowP s x)) = partsP s ++ (nodeNs a b c d t s).getLastD [] :: q := by rw [hq, ← hx]; rfl
      have hne : deepF a b c d t 7 s ≠ s := by
        intro e
        rw [hdeep] at e
        rw [e] at hq'
        have := congrArg List.length hq'
        simp at this
      have hunf : ∀ T, (findF T a b c d s).2 = 0 → allF a b c d (f + 1) T s = (if ¬ (namesF (allF a b c d f) s T (nodeNs a b c d T s).reverse).2 = 0 then ([], (namesF (allF a b c d f) s T (nodeNs a b c d T s).reverse).2) else dropF (namesF (allF a b c d f) s T (nodeNs a b c d T s).reverse).1 a b c d s) := fun T hT => if_pos hT
      rw [if_neg hne, hdeep, hunf t h.1, hrev]
      rw [show namesF (allF a b c d f) s t (x :: (nodeNs a b c d t s).dropLast.reverse) = if ¬ (allF a b c d f t (belowP s x)).2 = 0 then ([], (allF a b c d f t (belowP s x)).2) else namesF (allF a b c d f) s (allF a b c d f t (belowP s x)).1 (nodeNs a b c d t s).dropLast.reverse from rfl]
      by_cases hdr : (dropF t a b c d (deepF a b c d t 7 (belowP s x))).2 = 0
      · have hdo : dropOf t a b c d (deepF a b c d t 7 (belowP s x)) false = 0 := by
          by_cases e : dropOf t a b c d (deepF a b c d t 7 (belowP s x)) false = 0
          · exact e
          · rw [drop_no e] at hdr; exact absurd hdr e
        obtain ⟨k1, k2⟩ := drop_keep h.1 h.2 hq' hdo
        have eR : (if ¬ (dropF t a b c d (deepF a b c d t 7 (belowP s x))).2 = 0 then ([], (dropF t a b c d (deepF a b c d t 7 (belowP s x))).2) else allF a b c d (f + 1) (dropF t a b c d (deepF a b c d t 7 (belowP s x))).1 s) = allF a b c d (f + 1) (dropF t a b c d (deepF a b c d t 7 (belowP s x))).1 s := if_neg (fun e => e hdr)
        rw [eR, hunf _ k1, k2]
        by_cases he : deepF a b c d t 7 (belowP s x) = belowP s x
        · have hq0 : q = [] := by
            rw [he, h4] at hq
            have := congrArg List.length hq
            simp at this
            exact this
          rw [if_pos he] at ih
          rw [he] at hdr ⊢
          rw [if_pos hq0, ih]
          simp only [hdr, not_true_eq_false, if_false]
        · have hq0 : q ≠ [] := by
            intro e
            subst e
            apply he
            have e2 : partsP (deepF a b c d t 7 (belowP s x)) = partsP (belowP s x) := by rw [hq, h4]; rfl
            have e3 := congrArg joinP e2
            rw [(ok_names ho).2, (ok_names h3).2] at e3
            exact e3
          rw [if_neg he, if_neg (fun e => e hdr)] at ih
          rw [if_neg hq0, hrev, ih]
          rfl
      · rw [if_pos hdr]
        have hx2 : allF a b c d f t (belowP s x) = ([], (dropF t a b c d (deepF a b c d t 7 (belowP s x))).2) := by
          rw [ih]
          by_cases he : deepF a b c d t 7 (belowP s x) = belowP s x
          · rw [if_pos he, he]
            have hdo : ¬ dropOf t a b c d (belowP s x) false = 0 := fun e => by
              rw [he] at hdr
              obtain ⟨_, _, _, e2, _⟩ := drop_law e
              exact hdr e2
            rw [drop_no hdo]
          · rw [if_neg he, if_pos hdr]
        rw [hx2]
        rw [if_pos hdr, if_pos hdr]
    · rw [if_pos (deep_no h), all_no h]
/-- What is left is a valid tree, and the path is missing; or nothing is left. -/
theorem all_law : ∀ (n f : Nat) (t : List Nd) (s : List UInt8), (kidsOf t).length ≤ n → (treeB t = true → Lev t) → (okP s = true → 6 ≤ f + (partsP s).length) →
    (¬ (allF a b c d f t s).2 = 0 ∧ (allF a b c d f t s).1 = []) ∨ ((allF a b c d f t s).2 = 0 ∧ treeB (allF a b c d f t s).1 = true ∧ findF (allF a b c d f t s).1 a b c d s = (-1, 2) ∧ (allF a b c d f t s).1.length ≤ t.length ∧ (kidsOf (allF a b c d f t s).1).length ≤ (kidsOf t).length) := by
  intro n
  induction n with
  | zero =>
    intro f t s hk hl h6
    have hno : ∀ p, ¬ dropOf t a b c d p false = 0 := fun p e => by
      obtain ⟨_, _, _, _, _, _, _, _, h⟩ := drop_law e
      omega
    left
    rw [all_step f t s hl h6]
    by_cases he : deepF a b c d t 7 s = s
    · rw [if_pos he, drop_no (hno s)]
      exact ⟨hno s, rfl⟩
    · rw [if_neg he, drop_no (hno _), if_pos (hno _)]
      exact ⟨hno _, rfl⟩
  | succ n ih =>
    intro f t s hk hl h6
    rw [all_step f t s hl h6]
    by_cases he : deepF a b c d t 7 s = s
    · rw [if_pos he]
      by_cases hdo : dropOf t a b c d s false = 0
      · obtain ⟨k, _, _, e1, e2, e3, e4, _, e5⟩ := drop_law hdo
        right
        refine ⟨e1, e2, e3, ?_, by omega⟩
        rcases e4 with ⟨h, _⟩ | ⟨h, _⟩ <;> omega
      · left
        rw [drop_no hdo]
        exact ⟨hdo, rfl⟩
    · rw [if_neg he]
      by_cases hdo : dropOf t a b c d (deepF a b c d t 7 s) false = 0
      · obtain ⟨k, _, _, e1, e2, e3, e4, _, e5⟩ := drop_law hdo
        rw [if_neg (fun e => e e1)]
        have hle : (dropF t a b c d (deepF a b c d t 7 s)).1.length ≤ t.length := by rcases e4 with ⟨h, _⟩ | ⟨h, _⟩ <;> omega
        rcases ih f (dropF t a b c d (deepF a b c d t 7 s)).1 s (by omega) (fun _ => drop_lev (hl (findF_range (s := deepF a b c d t 7 s) (t := t) (by obtain ⟨_, _, h, _⟩ := drop_law hdo; rw [h])).1) hdo) h6 with h | ⟨h1, h2, h3, h4, h5⟩
        · exact .inl h
        · exact .inr ⟨h1, h2, h3, by omega, by omega⟩
      · left
        rw [drop_no hdo, if_pos hdo]
        exact ⟨hdo, rfl⟩
/-- Where the name alone may be taken away, that is all. -/
theorem all_one {f : Nat} (h : (dropF t a b c d s).2 = 0) : allF a b c d f t s = dropF t a b c d s := by
  have hdo : dropOf t a b c d s false = 0 := by
    by_cases e : dropOf t a b c d s false = 0
    · exact e
    · rw [drop_no e] at h; exact absurd h e
  obtain ⟨m, k, e, hm, hv, hc, ha, hf, hfo, hr, hk, hk1, hkl, hmem, hns, hks, hfs, hd⟩ := drop_parts hdo
  refine all_no fun h => h.2 ?_
  unfold nodeNs
  rw [hfs]
  exact hns
end
end Go.Proofs.YtkennmpbmbacpaaGreatDoor
