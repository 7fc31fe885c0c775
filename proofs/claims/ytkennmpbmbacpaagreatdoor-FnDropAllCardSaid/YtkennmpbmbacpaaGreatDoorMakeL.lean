/- What is made and linked is there: the plain laws. -/
import Derived.Test.YtkennmpbmbacpaaGreatDoorFindP
import Derived.Test.YtkennmpbmbacpaaGreatDoorKidP
import Derived.Test.YtkennmpbmbacpaaGreatDoorMG
set_option linter.unusedSimpArgs false
set_option linter.unusedVariables false
set_option linter.unusedSectionVars false
namespace Go.Proofs.YtkennmpbmbacpaaGreatDoor
open Go.RowKit

theorem kid_split (x : Nd) (s : List UInt8) : (∃ j, j < x.ns.length ∧ nthN x j = s ∧ (∀ m, m < j → ¬ nthN x m = s) ∧ kidF x s = nthK x j) ∨ ((∀ m, m < x.ns.length → ¬ nthN x m = s) ∧ kidF x s = -1) := by
  by_cases h : s ∈ x.ns
  · left
    have hj := List.idxOf_lt_length_of_mem h
    refine ⟨x.ns.idxOf s, hj, ?_, fun m hm => ?_, by unfold kidF; rw [if_pos h]⟩
    · have e := nthN_at hj
      rw [List.getElem?_eq_getElem hj, List.getElem_idxOf] at e
      injection e with e
      exact e.symm
    · intro e
      have hml : m < x.ns.length := by omega
      have e2 := nthN_at hml
      rw [List.getElem?_eq_getElem hml] at e2
      injection e2 with e2
      have h3 := List.not_of_lt_findIdx (p := (· == s)) (xs := x.ns) (i := m) (by unfold List.idxOf at hm; exact hm)
      rw [e2, e] at h3
      simp at h3
  · right
    refine ⟨fun m hm e => h ?_, by unfold kidF; rw [if_neg h]⟩
    rw [← e]
    exact List.mem_of_getElem? (nthN_at hm)
theorem nth_not {x : Nd} {s : List UInt8} (h : s ∉ x.ns) {m : Nat} (hm : m < x.ns.length) : ¬ nthN x m = s := fun e => h (by rw [← e]; exact List.mem_of_getElem? (nthN_at hm))
theorem kid_new {x : Nd} {s : List UInt8} {z : Int} (hl : x.ns.length = x.ks.length) (hs : s ∉ x.ns) : kidF (putF x s z) s = z := by
  have hp := putAt_le x s
  rw [kid_some (k := putAt x s) (by rw [putF_lenN]; omega) putF_n2 (fun m hm => by rw [putF_n1 hm]; exact nth_not hs (by omega)), putF_k2 hl]
theorem kid_old {x : Nd} {s y : List UInt8} {z : Int} (hl : x.ns.length = x.ks.length) (hy : y ≠ s) : kidF (putF x s z) y = kidF x y := by
  have hp := putAt_le x s
  rcases kid_split x y with ⟨j, hj, e, hm, hk⟩ | ⟨hm, hk⟩
  · rw [hk]
    by_cases hjp : j < putAt x s
    · rw [kid_some (k := j) (by rw [putF_lenN]; omega) (by rw [putF_n1 hjp]; exact e) (fun m h => by rw [putF_n1 (by omega)]; exact hm m h), putF_k1 hl hjp]
    · rw [kid_some (k := j + 1) (by rw [putF_lenN]; omega) (by rw [putF_n3 (by omega)]; exact e) (fun m h => ?_), putF_k3 hl (by omega)]
      · rfl
      · rcases Nat.lt_trichotomy m (putAt x s) with c | c | c
        · rw [putF_n1 c]; exact hm m (by omega)
        · subst c; rw [putF_n2]; exact fun e => hy e.symm
        · rw [putF_n3 c]; exact hm (m - 1) (by omega)
  · rw [hk]
    refine kid_none fun m h => ?_
    rw [putF_lenN] at h
    rcases Nat.lt_trichotomy m (putAt x s) with c | c | c
    · rw [putF_n1 c]; exact hm m (by omega)
    · subst c; rw [putF_n2]; exact fun e => hy e.symm
    · rw [putF_n3 c]; exact hm (m - 1) (by omega)
/-- A path that leads to a node leads there still, where nothing on it is taken away. -/
theorem findL_keep {t t' : List Nd} {may : Nd → Bool} (hv : treeB t = true) (h : ∀ i, i < t.length → (kth t' i).fo = (kth t i).fo ∧ may (kth t' i) = may (kth t i) ∧ ∀ y, 0 ≤ kidF (kth t i) y → kidF (kth t' i) y = kidF (kth t i) y) :
    ∀ (ps : List (List UInt8)) (n : Int), 0 ≤ n → n < (t.length : Int) → (findL t may n ps).2 = 0 → findL t' may n ps = findL t may n ps
  | [], n, _, _, _ => rfl
  | p :: r, n, h0, h1, he => by
    obtain ⟨a1, a2, a3⟩ := h n.toNat (by omega)
    unfold findL at he ⊢
    rw [a1, a2]
    split at he
    · cases he
    · next g1 =>
      split at he
      · cases he
      · next g2 =>
        split at he
        · cases he
        · next g3 =>
          rw [if_neg g1, if_neg g1, if_neg g2, if_neg g2, a3 p (by omega), if_neg g3, if_neg g3]
          rcases kid_range hv (k := n.toNat) (by omega) p with e | ⟨e1, e2⟩
          · omega
          · exact findL_keep hv h r _ (by omega) e2 he
theorem kth_out {t : List Nd} {k : Nat} (h : t.length ≤ k) : kth t k = default := by
  unfold kth
  rw [List.getD_eq_getElem?_getD, List.getElem?_eq_none h]; rfl
section
variable {t : List Nd} {a b c d : Int} {s : List UInt8}
/-- What a name more keeps. -/
theorem put_keep {n : Nat} {z : Int} {ex : List Nd} (hv : treeB t = true) (hn : n < t.length) (hm : s ∉ (kth t n).ns) : ∀ i, i < t.length → (kth (t.set n (putF (kth t n) s z) ++ ex) i).fo = (kth t i).fo ∧ runF a b c d (kth (t.set n (putF (kth t n) s z) ++ ex) i) = runF a b c d (kth t i) ∧
    ∀ y, 0 ≤ kidF (kth t i) y → kidF (kth (t.set n (putF (kth t n) s z) ++ ex) i) y = kidF (kth t i) y := fun i hi => by
  rw [kth_set hn hi]
  split
  · next e =>
    subst e
    refine ⟨rfl, rfl, fun y hy => kid_old (head_len (nodeB_iff.1 (tree_node hv hi)).1) fun e => ?_⟩
    subst e
    unfold kidF at hy
    rw [if_neg hm] at hy
    omega
  · exact ⟨rfl, rfl, fun _ _ => rfl⟩
theorem place_find (h : (placeF t a b c d s).2 = 0) : (findF t a b c d (aboveF s)).2 = 0 ∧ (placeF t a b c d s).1 = (findF t a b c d (aboveF s)).1 ∧ mayF a b c d (kth t (placeF t a b c d s).1.toNat).ow (kth t (placeF t a b c d s).1.toNat).gr (kth t (placeF t a b c d s).1.toNat).mo 3 = true := by
  unfold placeF at h ⊢
  split at h
  · cases h
  · split at h
    · next h' => exact absurd h h'
    · split at h
      · cases h
      · split at h
        · cases h
        · split at h
          · cases h
          · next g1 g2 g3 g4 g5 =>
            rw [if_neg g1, if_neg g2, if_neg g3, if_neg g4, if_neg g5]
            exact ⟨Decidable.not_not.1 g2, rfl, by simpa using g4⟩
/-- Where a name is put for a node the path leads to it. -/
theorem put_find {z : Int} {ex : List Nd} (h : (placeF t a b c d s).2 = 0) (hz : 0 ≤ z) (ht' : treeB (t.set (placeF t a b c d s).1.toNat (putF (kth t (placeF t a b c d s).1.toNat) (lastF s) z) ++ ex) = true) :
    findF (t.set (placeF t a b c d s).1.toNat (putF (kth t (placeF t a b c d s).1.toNat) (lastF s) z) ++ ex) a b c d s = (z, 0) := by
  obtain ⟨k1, k2, k3, k4, k5, k6, k7⟩ := placeF_yes h
  obtain ⟨f1, f2, f3⟩ := place_find h
  have hx : (placeF t a b c d s).1.toNat < t.length := by omega
  obtain ⟨s1, s2, s3, s4⟩ := above_split k3
  have hk := put_keep (a := a) (b := b) (c := c) (d := d) (z := z) (ex := ex) k1 hx k7
  have e1 := find_yes (s := aboveF s) k1 k2 s2
  have hl := (tree_all k1).1
  obtain ⟨n1, _⟩ := inB_iffL.1 hl
  rw [e1] at f1 f2
  have e2 := findL_keep k1 hk (partsP (aboveF s)) 0 (by omega) (by omega) f1
  have e3 := find_yes (s := s) ht' k2 s1
  rw [e3, s3, findL_app, e2, if_pos f1, ← f2, findL_one, kth_set hx hx, if_pos rfl]
  have q1 : ¬ (putF (kth t (placeF t a b c d s).1.toNat) (lastF s) z).fo = false := by
    show ¬ (kth t (placeF t a b c d s).1.toNat).fo = false
    rw [k6]; simp
  have q2 : ¬ runF a b c d (putF (kth t (placeF t a b c d s).1.toNat) (lastF s) z) = false := by
    show ¬ mayF a b c d (kth t (placeF t a b c d s).1.toNat).ow (kth t (placeF t a b c d s).1.toNat).gr (kth t (placeF t a b c d s).1.toNat).mo 1 = false
    rw [may_run f3]; simp
  rw [if_neg q1, if_neg q2, kid_new (head_len (nodeB_iff.1 (tree_node k1 hx)).1) k7, if_neg (by omega)]
/-- What else leads to a node leads there still. -/
theorem put_finds {z : Int} {ex : List Nd} {r : List UInt8} (h : (placeF t a b c d s).2 = 0) (hr : (findF t a b c d r).2 = 0) (ht' : treeB (t.set (placeF t a b c d s).1.toNat (putF (kth t (placeF t a b c d s).1.toNat) (lastF s) z) ++ ex) = true) :
    findF (t.set (placeF t a b c d s).1.toNat (putF (kth t (placeF t a b c d s).1.toNat) (lastF s) z) ++ ex) a b c d r = findF t a b c d r := by
  obtain ⟨k1, k2, k3, k4, k5, k6, k7⟩ := placeF_yes h
  have hx : (placeF t a b c d s).1.toNat < t.length := by omega
  have hk := put_keep (a := a) (b := b) (c := c) (d := d) (z := z) (ex := ex) k1 hx k7
  obtain ⟨_, _, r3, _, _⟩ := findF_range hr
  have hl := (tree_all k1).1
  obtain ⟨n1, _⟩ := inB_iffL.1 hl
  have e1 := find_yes (s := r) k1 k2 r3
  rw [e1] at hr ⊢
  rw [find_yes ht' k2 r3]
  exact findL_keep k1 hk (partsP r) 0 (by omega) (by omega) hr
theorem make_no {fo : Bool} {mode : Int} (h : ¬ (makeF t a b c d s fo mode).2 = 0) : (makeF t a b c d s fo mode).1 = [] := by
  unfold makeF at h ⊢
  split
  · rfl
  · split
    · rfl
    · split
      · rfl
      · next g1 g2 g3 => rw [if_neg g1, if_neg g2, if_neg g3] at h; exact absurd rfl h
/-- What MakeNode makes. -/
theorem make_law {fo : Bool} {mode : Int} (h : (makeF t a b c d s fo mode).2 = 0) : ∃ n : Nat, n < t.length ∧ t.length < 16 ∧ inB mode 0 1023 = true ∧ (placeF t a b c d s).1 = (n : Int) ∧ (placeF t a b c d s).2 = 0 ∧ (makeF t a b c d s fo mode).1 = t.set n (putF (kth t n) (lastF s) (t.length : Int)) ++ [newNd fo b (kth t n).gr mode] ∧
    treeB (makeF t a b c d s fo mode).1 = true ∧ findF (makeF t a b c d s fo mode).1 a b c d s = ((t.length : Int), 0) := by
  have h2 := make_tree2 h
  unfold makeF at h h2 ⊢
  split at h
  · cases h
  · split at h
    · next h' => exact absurd h h'
    · split at h
      · cases h
      · next g1 g2 g3 =>
        rw [if_neg g1, if_neg g2, if_neg g3] at h2 ⊢
        have g2' := Decidable.not_not.1 g2
        obtain ⟨k1, k2, k3, k4, k5, k6, k7⟩ := placeF_yes g2'
        obtain ⟨_, n2⟩ := inB_iffL.1 (tree_all k1).1
        exact ⟨(placeF t a b c d s).1.toNat, by omega, by omega, by simpa using g1, by omega, g2', rfl, h2.1, put_find g2' (by omega) h2.1⟩
theorem lnk_set {n : Nat} {z : Int} (hn : n < t.length) (k : Nat) : lnk (t.set n (putF (kth t n) s z)) k = lnk t k + (if z = (k : Int) then 1 else 0) := by
  have h1 := kids_set (putF (kth t n) s z) hn (k : Int)
  rw [putF_count] at h1
  unfold lnk
  split at h1
  · next e => rw [if_pos e]; omega
  · next e => rw [if_neg e]; omega
theorem link_no {p q : List UInt8} (h : ¬ (linkF t a b c d p q).2 = 0) : (linkF t a b c d p q).1 = [] := by
  unfold linkF at h ⊢
  split
  · rfl
  · split
    · rfl
    · split
      · rfl
      · next g1 g2 g3 => rw [if_neg g1, if_neg g2, if_neg g3] at h; exact absurd rfl h
/-- What LinkName makes. -/
theorem link_law {p q : List UInt8} (h : (linkF t a b c d p q).2 = 0) : ∃ n m : Nat, n < t.length ∧ m < t.length ∧ findF t a b c d p = ((n : Int), 0) ∧ (placeF t a b c d q).1 = (m : Int) ∧ (placeF t a b c d q).2 = 0 ∧ (linkF t a b c d p q).1 = t.set m (putF (kth t m) (lastF q) (n : Int)) ∧
    treeB (linkF t a b c d p q).1 = true ∧ findF (linkF t a b c d p q).1 a b c d p = ((n : Int), 0) ∧ findF (linkF t a b c d p q).1 a b c d q = ((n : Int), 0) ∧ lnk (linkF t a b c d p q).1 n = lnk t n + 1 := by
  have h2 := link_tree2 h
  unfold linkF at h h2 ⊢
  split at h
  · next h' => exact absurd h h'
  · split at h
    · cases h
    · split at h
      · next h' => exact absurd h h'
      · next g1 g2 g3 =>
        rw [if_neg g1, if_neg g2, if_neg g3] at h2 ⊢
        have g3' := Decidable.not_not.1 g3
        have g1' := Decidable.not_not.1 g1
        obtain ⟨k1, k2, k3, k4, k5, k6, k7⟩ := placeF_yes g3'
        obtain ⟨_, _, _, f4, f5⟩ := findF_range g1'
        have hm : (placeF t a b c d q).1.toNat < t.length := by omega
        have e0 : (findF t a b c d p).1 = (((findF t a b c d p).1.toNat : Nat) : Int) := by omega
        have e1 : findF t a b c d p = ((((findF t a b c d p).1.toNat : Nat) : Int), 0) := Prod.ext e0 g1'
        have f1 := put_find (ex := []) (z := (findF t a b c d p).1) g3' f4 (by rw [List.append_nil]; exact h2.1)
        have f2 := put_finds (ex := []) (z := (findF t a b c d p).1) g3' g1' (by rw [List.append_nil]; exact h2.1)
        rw [List.append_nil] at f1 f2
        refine ⟨(findF t a b c d p).1.toNat, (placeF t a b c d q).1.toNat, by omega, hm, e1, by omega, g3', by rw [← e0], h2.1, f2.trans e1, f1.trans (Prod.ext e0 rfl), ?_⟩
        rw [lnk_set hm, if_pos e0]
end
end Go.Proofs.YtkennmpbmbacpaaGreatDoor
