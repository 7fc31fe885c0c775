/- A name is taken away: the plain laws. -/
import Derived.Test.YtkennmpbmbacpaaGreatDoorMakeL
set_option linter.unusedSimpArgs false
set_option linter.unusedVariables false
set_option linter.unusedSectionVars false
namespace Go.Proofs.YtkennmpbmbacpaaGreatDoor
open Go.RowKit

def delAt (x : Nd) (j : Nat) : Nd := { x with ns := x.ns.eraseIdx j, ks := x.ks.eraseIdx j }
/-- Name s of directory m is taken away. -/
def takeT (t : List Nd) (m : Nat) (s : List UInt8) : List Nd := t.set m (delAt (kth t m) (putAt (kth t m) s))
section
variable {x : Nd} {s : List UInt8} {j i : Nat}
theorem del_lenN (h : j < x.ns.length) : (delAt x j).ns.length = x.ns.length - 1 := by simp [delAt, List.length_eraseIdx, h]
theorem del_lenK (h : j < x.ks.length) : (delAt x j).ks.length = x.ks.length - 1 := by simp [delAt, List.length_eraseIdx, h]
theorem del_n1 (h : i < j) : nthN (delAt x j) i = nthN x i := by
  unfold nthN delAt
  simp only [List.getD_eq_getElem?_getD]
  rw [List.getElem?_eraseIdx, if_pos h]
theorem del_n2 (h : j ≤ i) : nthN (delAt x j) i = nthN x (i + 1) := by
  unfold nthN delAt
  simp only [List.getD_eq_getElem?_getD]
  rw [List.getElem?_eraseIdx, if_neg (by omega)]
theorem del_k1 (h : i < j) : nthK (delAt x j) i = nthK x i := by
  unfold nthK delAt
  simp only [List.getD_eq_getElem?_getD]
  rw [List.getElem?_eraseIdx, if_pos h]
theorem del_k2 (h : j ≤ i) : nthK (delAt x j) i = nthK x (i + 1) := by
  unfold nthK delAt
  simp only [List.getD_eq_getElem?_getD]
  rw [List.getElem?_eraseIdx, if_neg (by omega)]
theorem del_count (h : j < x.ks.length) (z : Int) : (delAt x j).ks.count z + (if nthK x j = z then 1 else 0) = x.ks.count z := by
  have h1 : x.ks = x.ks.take j ++ nthK x j :: x.ks.drop (j + 1) := by
    have e := nthK_at h
    rw [List.getElem?_eq_getElem h] at e
    injection e with e
    rw [← e, List.getElem_cons_drop h, List.take_append_drop]
  have h2 : (delAt x j).ks = x.ks.take j ++ x.ks.drop (j + 1) := List.eraseIdx_eq_take_drop_succ _ _
  rw [h2]
  conv => rhs; rw [h1]
  rw [List.count_append, List.count_append, List.count_cons]
  by_cases e : nthK x j = z
  · rw [if_pos e, if_pos (by simp [e])]; omega
  · rw [if_neg e, if_neg (by simp [e])]; omega
/-- Where the name that is there stands. -/
theorem put_there (h : Asc x) (hs : s ∈ x.ns) : putAt x s < x.ns.length ∧ nthN x (putAt x s) = s := by
  have hk := kid_put h s
  by_cases hp : putAt x s < x.ns.length ∧ nthN x (putAt x s) = s
  · exact hp
  · obtain ⟨m, hm, e⟩ : ∃ m, m < x.ns.length ∧ nthN x m = s := by
      obtain ⟨m, hm, e⟩ := List.mem_iff_getElem.1 hs
      refine ⟨m, hm, ?_⟩
      have e2 := nthN_at hm
      rw [List.getElem?_eq_getElem hm] at e2
      injection e2 with e2
      rw [← e2]; exact e
    rcases Nat.lt_trichotomy m (putAt x s) with c | c | c
    · have := putAt_lt c
      rw [e, ltL_irr] at this
      cases this
    · subst c; exact ⟨hm, e⟩
    · have h2 := asc_ge h (s := s) (Nat.le_refl _) (by omega)
      have h3 := asc_lt h c hm
      rw [e] at h3
      rw [h3] at h2
      cases h2
theorem del_node {m : Int} (h : nodeB m x = true) (hj : j < x.ns.length) : nodeB m (delAt x j) = true := by
  have hb := nodeB_iff.1 h
  have hl := head_len hb.1
  have hA := asc_of h
  rw [nodeB_iff]
  refine ⟨?_, fun k hk => ?_⟩
  · have h1 := hb.1
    have e1 : (delAt x j).ns.length = (delAt x j).ks.length := by rw [del_lenN hj, del_lenK (by omega), hl]
    unfold headB at h1 ⊢
    simp only [Bool.and_eq_true, Bool.or_eq_true, decide_eq_true_eq] at h1 ⊢
    refine ⟨h1.1, h1.2.1, h1.2.2.1, e1, ?_, h1.2.2.2.2.2⟩
    rcases h1.2.2.2.2.1 with h2 | h2
    · exact .inl h2
    · omega
  · rw [del_lenN hj] at hk
    rw [kidOk_iff]
    by_cases hkj : k < j
    · rw [del_n1 hkj, del_k1 hkj]
      have := kidOk_iff.1 (hb.2 k (by omega))
      refine ⟨this.1, this.2.1, ?_⟩
      rcases this.2.2 with h3 | h3
      · exact .inl h3
      · by_cases hk0 : k = 0
        · exact .inl hk0
        · rw [del_n1 (by omega)]; exact .inr h3
    · rw [del_n2 (by omega), del_k2 (by omega)]
      have := kidOk_iff.1 (hb.2 (k + 1) (by omega))
      refine ⟨this.1, this.2.1, ?_⟩
      by_cases hk0 : k = 0
      · exact .inl hk0
      · right
        by_cases hkk : k - 1 < j
        · rw [del_n1 hkk]
          exact asc_lt hA (by omega) (by omega)
        · rw [del_n2 (by omega), show k - 1 + 1 = k from by omega]
          exact asc_lt hA (by omega) (by omega)
theorem del_gone (h : Asc x) (hs : s ∈ x.ns) : s ∉ (delAt x (putAt x s)).ns := by
  obtain ⟨h1, h2⟩ := put_there h hs
  intro hm
  obtain ⟨m, hm, e⟩ := List.mem_iff_getElem.1 hm
  have e2 := nthN_at hm
  rw [List.getElem?_eq_getElem hm] at e2
  injection e2 with e2
  rw [e] at e2
  rw [del_lenN h1] at hm
  by_cases c : m < putAt x s
  · rw [del_n1 c] at e2
    have := putAt_lt c
    rw [← e2, ltL_irr] at this
    cases this
  · rw [del_n2 (by omega)] at e2
    have := asc_lt h (show putAt x s < m + 1 by omega) (by omega)
    rw [h2, ← e2, ltL_irr] at this
    cases this
theorem del_other {y : List UInt8} (h : Asc x) (hl : x.ns.length = x.ks.length) (hs : s ∈ x.ns) (hy : y ≠ s) : kidF (delAt x (putAt x s)) y = kidF x y := by
  obtain ⟨h1, h2⟩ := put_there h hs
  rcases kid_split x y with ⟨j, hj, e, hm, hk⟩ | ⟨hm, hk⟩
  · rw [hk]
    rcases Nat.lt_trichotomy j (putAt x s) with c | c | c
    · rw [kid_some (k := j) (by rw [del_lenN h1]; omega) (by rw [del_n1 c]; exact e) (fun m h => by rw [del_n1 (by omega)]; exact hm m h), del_k1 c]
    · subst c; exact absurd (e.symm.trans h2) hy
    · rw [kid_some (k := j - 1) (by rw [del_lenN h1]; omega) (by rw [del_n2 (by omega), show j - 1 + 1 = j from by omega]; exact e) (fun m h => ?_), del_k2 (by omega), show j - 1 + 1 = j from by omega]
      by_cases c2 : m < putAt x s
      · rw [del_n1 c2]; exact hm m (by omega)
      · rw [del_n2 (by omega)]; exact hm (m + 1) (by omega)
  · rw [hk]
    refine kid_none fun m h => ?_
    rw [del_lenN h1] at h
    by_cases c2 : m < putAt x s
    · rw [del_n1 c2]; exact hm m (by omega)
    · rw [del_n2 (by omega)]; exact hm (m + 1) (by omega)
theorem kid_at (h : Asc x) (hs : s ∈ x.ns) : kidF x s = nthK x (putAt x s) := by
  rw [kid_put h s, if_pos (put_there h hs)]
end
section
variable {t : List Nd} {m k : Nat} {s : List UInt8}
theorem take_kth (hm : m < t.length) {i : Nat} (hi : i < t.length) : kth (takeT t m s) i = if i = m then delAt (kth t m) (putAt (kth t m) s) else kth t i := by
  have := kth_set (ex := []) (y := delAt (kth t m) (putAt (kth t m) s)) hm hi
  rwa [List.append_nil] at this
theorem take_len : (takeT t m s).length = t.length := List.length_set
theorem take_fo (hm : m < t.length) {i : Nat} (hi : i < t.length) : (kth (takeT t m s) i).fo = (kth t i).fo := by
  rw [take_kth hm hi]
  split
  · next e => subst e; rfl
  · rfl
theorem take_run {a b c d : Int} (hm : m < t.length) {i : Nat} (hi : i < t.length) : runF a b c d (kth (takeT t m s) i) = runF a b c d (kth t i) := by
  rw [take_kth hm hi]
  split
  · next e => subst e; rfl
  · rfl
theorem take_lnk (hv : treeB t = true) (hm : m < t.length) (hs : s ∈ (kth t m).ns) (i : Nat) : lnk (takeT t m s) i + (if kidF (kth t m) s = (i : Int) then 1 else 0) = lnk t i := by
  have hn := tree_node hv hm
  have hA := asc_of hn
  obtain ⟨h1, _⟩ := put_there hA hs
  have hl := head_ks hn
  have h2 := kids_set (delAt (kth t m) (putAt (kth t m) s)) hm (i : Int)
  have h3 := del_count (x := kth t m) (j := putAt (kth t m) s) (by omega) (i : Int)
  rw [kid_at hA hs]
  unfold lnk takeT
  split at h3
  · next e => rw [if_pos e]; omega
  · next e => rw [if_neg e]; omega
theorem take_nodes (hv : treeB t = true) (hm : m < t.length) (hs : s ∈ (kth t m).ns) {i : Nat} (hi : i < t.length) : nodeB (t.length : Int) (kth (takeT t m s) i) = true := by
  rw [take_kth hm hi]
  split
  · exact del_node (tree_node hv hm) (put_there (asc_of (tree_node hv hm)) hs).1
  · exact tree_node hv hi
/-- Every kid of the lessened tree is one of the tree. -/
theorem take_kid (hv : treeB t = true) (hm : m < t.length) (hs : s ∈ (kth t m).ns) {i j : Nat} (hi : i < t.length) (hj : j < (kth (takeT t m s) i).ks.length) : ∃ j', j' < (kth t i).ks.length ∧ nthK (kth (takeT t m s) i) j = nthK (kth t i) j' := by
  rw [take_kth hm hi] at hj ⊢
  split at hj
  · next e =>
    subst e
    rw [if_pos rfl]
    have hn := tree_node hv hm
    have hl := head_ks hn
    obtain ⟨h1, _⟩ := put_there (asc_of hn) hs
    rw [del_lenK (by omega)] at hj
    by_cases c : j < putAt (kth t i) s
    · exact ⟨j, by omega, del_k1 c⟩
    · exact ⟨j + 1, by omega, del_k2 (by omega)⟩
  · next e =>
    rw [if_neg e]
    exact ⟨j, hj, rfl⟩
theorem tree_down (hv : treeB t = true) {i j : Nat} (hi : i < t.length) (hj : j < (kth t i).ks.length) : (kth t (nthK (kth t i) j).toNat).fo = true → (i : Int) < nthK (kth t i) j := by
  intro hf
  have hr := (tree_all hv).2.2.1 i hi
  unfold rowB at hr
  rw [Bool.and_eq_true, List.all_eq_true] at hr
  have hd := hr.2 j (List.mem_range.2 hj)
  unfold downB at hd
  rw [hf] at hd
  simpa using hd
theorem down_iff {t : List Nd} {i j : Nat} : downB t i j = true ↔ ((kth t (nthK (kth t i) j).toNat).fo = true → (i : Int) < nthK (kth t i) j) := by
  unfold downB
  cases (kth t (nthK (kth t i) j).toNat).fo <;> simp
theorem named_iff {t : List Nd} {i : Nat} : namedB t i = true ↔ (i = 0 ∨ (1 ≤ lnk t i ∧ ((kth t i).fo = true → lnk t i ≤ 1))) := by
  unfold namedB
  simp only [Bool.or_eq_true, Bool.and_eq_true, decide_eq_true_eq, Bool.not_eq_true']
  refine or_congr_right (and_congr_right fun _ => ?_)
  cases (kth t i).fo <;> simp
theorem take_down (hv : treeB t = true) (hm : m < t.length) (hs : s ∈ (kth t m).ns) {i j : Nat} (hi : i < t.length) (hj : j < (kth (takeT t m s) i).ks.length) : downB (takeT t m s) i j = true := by
  obtain ⟨j', h1, h2⟩ := take_kid hv hm hs hi hj
  rw [down_iff, h2]
  have hr := (node_kids (tree_node hv hi)).2 j' h1
  rw [take_fo hm (by omega)]
  exact tree_down hv hi h1
/-- Where the node has another name the lessened tree is valid. -/
theorem take_tree (hv : treeB t = true) (hm : m < t.length) (hs : s ∈ (kth t m).ns) (hk : kidF (kth t m) s = (k : Int)) (h0 : 0 < lnk (takeT t m s) k) : treeB (takeT t m s) = true := by
  obtain ⟨a1, a2, a3, a4⟩ := tree_all hv
  obtain ⟨n1, n2⟩ := inB_iffL.1 a1
  refine tree_good (by rw [take_len]; exact a1) (by rw [take_fo hm (by omega)]; exact a2) (fun i hi => ?_) (fun i hi => ?_)
  · rw [take_len] at hi
    exact row_good (by rw [take_len]; exact take_nodes hv hm hs hi) (fun j hj => take_down hv hm hs hi hj)
  · rw [take_len] at hi
    have h1 := named_iff.1 (a4 i hi)
    have h2 := take_lnk hv hm hs i
    rw [named_iff, take_fo hm hi]
    rcases h1 with h1 | ⟨h3, h4⟩
    · exact .inl h1
    · right
      split at h2
      · next e =>
        obtain rfl : k = i := by rw [hk] at e; exact Int.ofNat_inj.1 e
        exact ⟨by omega, fun hf => by have := h4 hf; omega⟩
      · exact ⟨by omega, fun hf => by have := h4 hf; omega⟩
end
/-! ### A node that nobody names is taken away -/
def ren (k : Nat) (z : Int) : Int := if (k : Int) < z then z - 1 else z
def renN (k : Nat) (x : Nd) : Nd := { x with ks := x.ks.map (ren k) }
def cleanT (t : List Nd) (k : Nat) : List Nd := (t.eraseIdx k).map (renN k)
/-- The number that node i had. -/
def upI (k i : Nat) : Nat := if i < k then i else i + 1
section
variable {t : List Nd} {k : Nat}
theorem clean_len (hk : k < t.length) : (cleanT t k).length = t.length - 1 := by simp [cleanT, List.length_eraseIdx, hk]
theorem clean_kth (hk : k < t.length) {i : Nat} (hi : i < t.length - 1) : kth (cleanT t k) i = renN k (kth t (upI k i)) := by
  have h1 : (cleanT t k)[i]? = some (kth (cleanT t k) i) := kth_at (by rw [clean_len hk]; exact hi)
  have h2 : t[upI k i]? = some (kth t (upI k i)) := kth_at (by unfold upI; split <;> omega)
  have h3 : (cleanT t k)[i]? = (t[upI k i]?).map (renN k) := by
    unfold cleanT upI
    rw [List.getElem?_map, List.getElem?_eraseIdx]
    split
    · rfl
    · rfl
  rw [h1, h2] at h3
  simpa using h3
theorem ren_nthK (x : Nd) (j : Nat) (hj : j < x.ks.length) : nthK (renN k x) j = ren k (nthK x j) := by
  have h1 := nthK_at (x := renN k x) (j := j) (by simpa [renN] using hj)
  have h2 := nthK_at hj
  simp only [renN, List.getElem?_map, h2, Option.map_some, Option.some.injEq] at h1
  exact h1.symm
theorem ren_up {z : Int} (h0 : 0 ≤ z) (hne : z ≠ (k : Int)) : upI k (ren k z).toNat = z.toNat := by
  unfold upI ren
  split <;> split <;> omega
theorem up_ren (i : Nat) : ren k (upI k i : Nat) = (i : Int) := by
  unfold upI ren
  split <;> split <;> omega
theorem up_ne (i : Nat) : ((upI k i : Nat) : Int) ≠ (k : Int) := by
  unfold upI; split <;> omega
theorem ren_inj {y z : Int} (hy : y ≠ (k : Int)) (hz : z ≠ (k : Int)) (h : ren k y = ren k z) : y = z := by
  unfold ren at h
  split at h <;> split at h <;> omega
theorem count_ren (l : List Int) (hl : (k : Int) ∉ l) (i : Nat) : (l.map (ren k)).count (i : Int) = l.count ((upI k i : Nat) : Int) := by
  induction l with
  | nil => rfl
  | cons y r ih =>
    rw [List.mem_cons, not_or] at hl
    rw [List.map_cons, List.count_cons, List.count_cons, ih hl.2]
    congr 1
    by_cases e : y = ((upI k i : Nat) : Int)
    · rw [if_pos (by simp [e, up_ren]), if_pos (by simp [e])]
    · rw [if_neg (by
        intro h
        have h := beq_iff_eq.1 h
        exact e (ren_inj (fun e => hl.1 e.symm) (up_ne i) (h.trans (up_ren i).symm))), if_neg (by simp [e])]
theorem clean_kids (hk : k < t.length) (he : (kth t k).ks = []) : kidsOf (cleanT t k) = (kidsOf t).map (ren k) := by
  have h1 : t = t.take k ++ kth t k :: t.drop (k + 1) := by
    have e := kth_at hk
    rw [List.getElem?_eq_getElem hk] at e
    injection e with e
    rw [← e, List.getElem_cons_drop hk, List.take_append_drop]
  have h2 : t.eraseIdx k = t.take k ++ t.drop (k + 1) := List.eraseIdx_eq_take_drop_succ _ _
  have h3 : ∀ l : List Nd, (l.map (renN k)).flatMap (·.ks) = (l.flatMap (·.ks)).map (ren k) := by
    intro l
    induction l with
    | nil => rfl
    | cons a r ih => simp only [List.map_cons, List.flatMap_cons, List.map_append, ih]; rfl
  unfold kidsOf cleanT
  rw [h3, h2]
  conv => rhs; rw [h1]
  rw [List.flatMap_append, List.flatMap_append, List.flatMap_cons, he, List.nil_append]
theorem clean_lnk (hk : k < t.length) (he : (kth t k).ks = []) (h0 : lnk t k = 0) (i : Nat) : lnk (cleanT t k) i = lnk t (upI k i) := by
  unfold lnk at h0 ⊢
  rw [clean_kids hk he, count_ren]
  intro hm
  have := List.count_pos_iff.2 hm
  omega
end
/-- A node without names that nobody names is taken away: what else is valid stays so. -/
theorem clean_tree {t : List Nd} {k : Nat} (hk : k < t.length) (hk0 : 0 < k) (hl : t.length ≤ 16) (h0 : (kth t 0).fo = true) (hn : ∀ i, i < t.length → nodeB (t.length : Int) (kth t i) = true) (hd : ∀ i j, i < t.length → j < (kth t i).ks.length → downB t i j = true)
    (hz : lnk t k = 0) (hnm : ∀ i, i < t.length → i ≠ k → namedB t i = true) (he : (kth t k).ks = []) : treeB (cleanT t k) = true := by
  have hlen := clean_len hk
  have hno : (k : Int) ∉ kidsOf t := fun hm => by
    have := List.count_pos_iff.2 hm
    unfold lnk at hz; omega
  have hup : ∀ i, i < t.length - 1 → upI k i < t.length := fun i hi => by unfold upI; split <;> omega
  have hks : ∀ i, i < t.length - 1 → (kth (cleanT t k) i).ks.length = (kth t (upI k i)).ks.length := fun i hi => by rw [clean_kth hk hi]; simp [renN]
  have hkid : ∀ i j, i < t.length - 1 → j < (kth t (upI k i)).ks.length → nthK (kth (cleanT t k) i) j = ren k (nthK (kth t (upI k i)) j) ∧ nthK (kth t (upI k i)) j ≠ (k : Int) ∧ 1 ≤ nthK (kth t (upI k i)) j ∧ nthK (kth t (upI k i)) j ≤ (t.length : Int) - 1 := by
    intro i j hi hj
    have h1 := (node_kids (hn _ (hup i hi))).2 j hj
    refine ⟨by rw [clean_kth hk hi, ren_nthK _ _ hj], fun e => hno (e ▸ kid_in (hup i hi) hj), h1.1, h1.2⟩
  have hren : ∀ z : Int, z ≠ (k : Int) → 1 ≤ z → z ≤ (t.length : Int) - 1 → 1 ≤ ren k z ∧ ren k z ≤ (t.length : Int) - 2 := by
    intro z h1 h2 h3
    unfold ren
    split <;> omega
  refine tree_good (by rw [hlen]; unfold inB; simp; omega) ?_ (fun i hi => ?_) (fun i hi => ?_)
  · rw [clean_kth hk (by omega)]
    have : upI k 0 = 0 := by unfold upI; rw [if_pos hk0]
    rw [this]; exact h0
  · rw [hlen] at hi
    refine row_good ?_ (fun j hj => ?_)
    · have hb := nodeB_iff.1 (hn _ (hup i hi))
      rw [hlen, clean_kth hk hi, nodeB_iff]
      refine ⟨?_, fun j hj => ?_⟩
      · have h1 := hb.1
        unfold headB at h1 ⊢
        simp only [renN, List.length_map]
        exact h1
      · have hj1 : j < (kth t (upI k i)).ns.length := hj
        have h1 := kidOk_iff.1 (hb.2 j hj1)
        rw [kidOk_iff]
        have h2 := hkid i j hi (by rw [← head_len hb.1]; exact hj1)
        rw [clean_kth hk hi] at h2
        refine ⟨h1.1, ?_, h1.2.2⟩
        rw [h2.1]
        have := hren _ h2.2.1 h2.2.2.1 h2.2.2.2
        omega
    · rw [hks i hi] at hj
      obtain ⟨e1, e2, e3, e4⟩ := hkid i j hi hj
      obtain ⟨e5, e6⟩ := hren _ e2 e3 e4
      have h1 := down_iff.1 (hd (upI k i) j (hup i hi) hj)
      rw [down_iff, e1, clean_kth hk (by omega)]
      intro hf
      have hf' : (kth t (upI k (ren k (nthK (kth t (upI k i)) j)).toNat)).fo = true := hf
      rw [ren_up (by omega) e2] at hf'
      have h3 := h1 hf'
      generalize nthK (kth t (upI k i)) j = z at h3 e2 e3 e4 ⊢
      unfold ren
      unfold upI at h3
      split at h3 <;> split <;> omega
  · rw [hlen] at hi
    have h1 := named_iff.1 (hnm _ (hup i hi) (fun e => up_ne (k := k) i (by rw [e])))
    rw [named_iff, clean_lnk hk he hz, clean_kth hk hi]
    rcases h1 with h1 | h1
    · left; unfold upI at h1; split at h1 <;> omega
    · exact .inr h1
end Go.Proofs.YtkennmpbmbacpaaGreatDoor
