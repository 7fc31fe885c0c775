/- MoveName: the plain law. -/
import Derived.Test.YtkennmpbmbacpaaGreatDoorDropL
set_option linter.unusedSimpArgs false
set_option linter.unusedVariables false
set_option linter.unusedSectionVars false
namespace Go.Proofs.YtkennmpbmbacpaaGreatDoor
open Go.RowKit

theorem take_exact {l r : List (List UInt8)} {s : List UInt8} (h1 : ∀ y ∈ l, ltL y s = true) (h2 : ∀ y r', r = y :: r' → ltL y s = false) : (l ++ r).takeWhile (fun y => ltL y s) = l := by
  induction l with
  | nil =>
    cases r with
    | nil => rfl
    | cons y r' => rw [List.nil_append, List.takeWhile_cons, h2 y r' rfl]; rfl
  | cons x l ih => rw [List.cons_append, List.takeWhile_cons, h1 x List.mem_cons_self, if_pos rfl, ih (fun y hy => h1 y (List.mem_cons_of_mem _ hy))]
theorem nth_head {x : Nd} {p : Nat} {y : List UInt8} {r : List (List UInt8)} (h : x.ns.drop p = y :: r) : p < x.ns.length ∧ nthN x p = y := by
  have hl : p < x.ns.length := by
    have := congrArg List.length h
    rw [List.length_drop, List.length_cons] at this; omega
  refine ⟨hl, ?_⟩
  have e := nthN_at hl
  have e2 : (x.ns.drop p)[0]? = some y := by rw [h]; rfl
  rw [List.getElem?_drop, Nat.add_zero, e] at e2
  injection e2
theorem take_lt {x : Nd} {s : List UInt8} : ∀ y ∈ x.ns.take (putAt x s), ltL y s = true := by
  intro y hy
  obtain ⟨i, hi, e⟩ := List.mem_iff_getElem.1 hy
  rw [List.length_take] at hi
  have e2 : (x.ns.take (putAt x s))[i]? = some y := by rw [List.getElem?_eq_getElem (show i < (x.ns.take (putAt x s)).length by rw [List.length_take]; omega), e]
  rw [List.getElem?_take, if_pos (by omega), nthN_at (by omega)] at e2
  injection e2 with e2
  rw [← e2]
  exact putAt_lt (by omega)
/-- A name that was put in stands where it went. -/
theorem put_put {x : Nd} {s : List UInt8} {z : Int} : putAt (putF x s z) s = putAt x s := by
  have h : (putF x s z).ns.takeWhile (fun y => ltL y s) = x.ns.take (putAt x s) := by
    show (x.ns.take (putAt x s) ++ s :: x.ns.drop (putAt x s)).takeWhile _ = _
    exact take_exact take_lt (fun y r' e => by injection e with e1 _; rw [← e1]; exact ltL_irr s)
  have hp := putAt_le x s
  show ((putF x s z).ns.takeWhile (fun y => ltL y s)).length = _
  rw [h, List.length_take]; omega
theorem del_put {x : Nd} {s : List UInt8} {z : Int} (hl : x.ns.length = x.ks.length) : delAt (putF x s z) (putAt (putF x s z) s) = x := by
  rw [put_put]
  have hp := putAt_le x s
  have e : ∀ {α : Type} (l : List α) (y : α), putAt x s ≤ l.length → (l.take (putAt x s) ++ y :: l.drop (putAt x s)).eraseIdx (putAt x s) = l := fun l y h => by
    rw [List.eraseIdx_append_of_length_le (by rw [List.length_take]; omega), List.length_take, Nat.min_eq_left h, Nat.sub_self, List.eraseIdx_cons_zero, List.take_append_drop]
  show ({ x with ns := _, ks := _ } : Nd) = x
  have e1 : (putF x s z).ns.eraseIdx (putAt x s) = x.ns := e _ _ hp
  have e2 : (putF x s z).ks.eraseIdx (putAt x s) = x.ks := e _ _ (by omega)
  show (⟨x.fo, x.ow, x.gr, x.mo, x.tx, (putF x s z).ns.eraseIdx (putAt x s), (putF x s z).ks.eraseIdx (putAt x s)⟩ : Nd) = x
  rw [e1, e2]
theorem put_del {x : Nd} {s : List UInt8} (hA : Asc x) (hl : x.ns.length = x.ks.length) (hs : s ∈ x.ns) : putF (delAt x (putAt x s)) s (nthK x (putAt x s)) = x := by
  obtain ⟨h1, h2⟩ := put_there hA hs
  have ens : (delAt x (putAt x s)).ns = x.ns.take (putAt x s) ++ x.ns.drop (putAt x s + 1) := List.eraseIdx_eq_take_drop_succ _ _
  have eks : (delAt x (putAt x s)).ks = x.ks.take (putAt x s) ++ x.ks.drop (putAt x s + 1) := List.eraseIdx_eq_take_drop_succ _ _
  have hp : putAt (delAt x (putAt x s)) s = putAt x s := by
    have h : (delAt x (putAt x s)).ns.takeWhile (fun y => ltL y s) = x.ns.take (putAt x s) := by
      rw [ens]
      refine take_exact take_lt (fun y r' e => ?_)
      obtain ⟨h3, h4⟩ := nth_head e
      rw [← h4]
      exact asc_ge hA (by omega) h3
    show ((delAt x (putAt x s)).ns.takeWhile (fun y => ltL y s)).length = _
    rw [h, List.length_take]; omega
  have e : ∀ {α : Type} (l : List α) (y : α), l[putAt x s]? = some y → (l.take (putAt x s) ++ l.drop (putAt x s + 1)).take (putAt x s) ++ y :: (l.take (putAt x s) ++ l.drop (putAt x s + 1)).drop (putAt x s) = l := fun l y h => by
    have hl := (List.getElem?_eq_some_iff.1 h).1
    have ht : (l.take (putAt x s)).length = putAt x s := by rw [List.length_take]; omega
    rw [List.take_left' ht, List.drop_left' ht]
    rw [List.getElem?_eq_getElem hl] at h
    injection h with h
    rw [← h, List.getElem_cons_drop hl, List.take_append_drop]
  show (⟨x.fo, x.ow, x.gr, x.mo, x.tx, (delAt x (putAt x s)).ns.take (putAt (delAt x (putAt x s)) s) ++ s :: (delAt x (putAt x s)).ns.drop (putAt (delAt x (putAt x s)) s), (delAt x (putAt x s)).ks.take (putAt (delAt x (putAt x s)) s) ++ nthK x (putAt x s) :: (delAt x (putAt x s)).ks.drop (putAt (delAt x (putAt x s)) s)⟩ : Nd) = x
  rw [hp, ens, eks, e _ _ (by rw [nthN_at h1, h2]), e _ _ (nthK_at (by omega))]
/-- A path to a directory is led by what leads to directories alone, and not by what it holds. -/
theorem findL_fold {t t' : List Nd} {may : Nd → Bool} {m : Nat} (hv : treeB t = true) (hf : (kth t m).fo = true) (h : ∀ i, i < t.length → i ≠ m → (kth t' i).fo = (kth t i).fo ∧ may (kth t' i) = may (kth t i) ∧ ∀ y, 0 ≤ kidF (kth t i) y → (kth t (kidF (kth t i) y).toNat).fo = true → kidF (kth t' i) y = kidF (kth t i) y) :
    ∀ (ps : List (List UInt8)) (n : Int), 0 ≤ n → n < (t.length : Int) → findL t may n ps = ((m : Int), 0) → findL t' may n ps = ((m : Int), 0)
  | [], n, _, _, he => he
  | p :: r, n, h0, h1, he => by
    have he2 : (findL t may n (p :: r)).2 = 0 := by rw [he]
    have hn : n.toNat < t.length := by omega
    obtain ⟨_, up⟩ := path_up hv (p :: r) n h0 h1 he2 (by rw [he]; exact hf)
    have hlt := up (by simp)
    rw [he] at hlt
    have hlt : n < (m : Int) := hlt
    obtain ⟨b1, b2, b3⟩ := h n.toNat hn (by omega)
    obtain ⟨a1, a2, a3, a4⟩ := findL_step he2
    obtain ⟨k1, k2, _⟩ := kidF_down hv hn a3
    rw [a4] at he
    have hz : (kth t (kidF (kth t n.toNat) p).toNat).fo = true := by
      cases r with
      | nil =>
        have he : (kidF (kth t n.toNat) p, (0 : Int)) = ((m : Int), 0) := he
        injection he with he _
        rw [he, Int.toNat_natCast]; exact hf
      | cons q r' => exact (findL_step (by rw [he])).1
    have ih := findL_fold hv hf h r _ (by omega) k2 he
    rw [findL_cons, if_neg (by rw [b1, a1]; simp), if_neg (by rw [b2, a2]; simp), b3 p a3 hz, if_neg (by omega), ih]
def moveT (t : List Nd) (m n : Nat) (s q : List UInt8) (k : Nat) : List Nd := (takeT t m s).set n (putF (kth (takeT t m s) n) q (k : Int))
def moveF (t : List Nd) (a b c d : Int) (p q : List UInt8) : List Nd × Int :=
  if ¬ dropOf t a b c d p true = 0 then ([], dropOf t a b c d p true) else if ¬ (placeF t a b c d q).2 = 0 then ([], (placeF t a b c d q).2)
  else if (kth t (kidF (kth t (upF t a b c d p).1.toNat) (lastF p)).toNat).fo = true ∧ (placeF t a b c d q).1 ≠ (upF t a b c d p).1 then ([], 4)
  else (moveT t (upF t a b c d p).1.toNat (placeF t a b c d q).1.toNat (lastF p) (lastF q) (kidF (kth t (upF t a b c d p).1.toNat) (lastF p)).toNat, 0)
/-- What is moved, from where and to where. -/
structure Moved (t : List Nd) (a b c d : Int) (p q : List UInt8) (m n k : Nat) : Prop where
  hv : treeB t = true
  hc : credB a b c d = true
  hm : m < t.length
  hn : n < t.length
  hk : k < t.length
  k1 : 1 ≤ k
  ap : aboveOk p = true
  aq : aboveOk q = true
  um : (upF t a b c d p).1 = (m : Int)
  pn : (placeF t a b c d q).1 = (n : Int)
  fp : findF t a b c d (aboveF p) = ((m : Int), 0)
  fq : findF t a b c d (aboveF q) = ((n : Int), 0)
  mf : (kth t m).fo = true
  nf : (kth t n).fo = true
  mr : runF a b c d (kth t m) = true
  nr : runF a b c d (kth t n) = true
  kk : kidF (kth t m) (lastF p) = (k : Int)
  sm : lastF p ∈ (kth t m).ns
  qn : lastF q ∉ (kth t n).ns
  same : (kth t k).fo = true → n = m
section
variable {t : List Nd} {a b c d : Int} {p q : List UInt8}
theorem move_cases : (¬ (moveF t a b c d p q).2 = 0 ∧ (moveF t a b c d p q).1 = []) ∨ ((moveF t a b c d p q).2 = 0 ∧ dropOf t a b c d p true = 0 ∧ (placeF t a b c d q).2 = 0 ∧ ∃ m n k : Nat, Moved t a b c d p q m n k ∧ (moveF t a b c d p q).1 = moveT t m n (lastF p) (lastF q) k) := by
  unfold moveF
  by_cases h1 : dropOf t a b c d p true = 0
  · rw [if_neg (by rw [h1]; simp)]
    by_cases h2 : (placeF t a b c d q).2 = 0
    · rw [if_neg (by rw [h2]; simp)]
      obtain ⟨d1, d2, _⟩ := dropOf_yes h1
      obtain ⟨m, e, hm, hv, hc, ha, hf, hfo, hr⟩ := up_range d1
      rw [e, Int.toNat_natCast] at d2 ⊢
      obtain ⟨k1, k2, _⟩ := kidF_down hv hm d2
      obtain ⟨k, hk⟩ : ∃ k : Nat, kidF (kth t m) (lastF p) = (k : Int) := ⟨(kidF (kth t m) (lastF p)).toNat, by omega⟩
      rw [hk, Int.toNat_natCast]
      obtain ⟨q1, q2, q3, q4, q5, q6, q7⟩ := placeF_yes h2
      obtain ⟨r1, r2, r3⟩ := place_find h2
      obtain ⟨n, hn⟩ : ∃ n : Nat, (placeF t a b c d q).1 = (n : Int) := ⟨(placeF t a b c d q).1.toNat, by omega⟩
      rw [hn] at q5 q6 q7 r2 r3 ⊢
      rw [Int.toNat_natCast] at q6 q7 r3 ⊢
      by_cases h3 : (kth t k).fo = true ∧ ((n : Nat) : Int) ≠ ((m : Nat) : Int)
      · rw [if_pos h3]; exact .inl ⟨by decide, rfl⟩
      · rw [if_neg h3]
        refine .inr ⟨rfl, h1, h2, m, n, k, ⟨hv, hc, hm, by omega, by omega, by omega, ha, q3, e, hn, hf, Prod.ext r2.symm r1, hfo, q6, hr, may_run r3, hk, ?_, q7, fun hf => ?_⟩, rfl⟩
        · rcases kidF_nth (s := lastF p) (head_ks (tree_node hv hm)) with e2 | ⟨_, _, _, e2⟩
          · omega
          · exact e2
        · have : ¬ ((n : Nat) : Int) ≠ ((m : Nat) : Int) := fun h => h3 ⟨hf, h⟩
          omega
    · rw [if_pos h2]; exact .inl ⟨h2, rfl⟩
  · rw [if_pos h1]; exact .inl ⟨h1, rfl⟩
variable {m n k : Nat}
theorem Moved.kth (h : Moved t a b c d p q m n k) {i : Nat} (hi : i < t.length) : kth (moveT t m n (lastF p) (lastF q) k) i = if i = n then putF (Go.Proofs.YtkennmpbmbacpaaGreatDoor.kth (takeT t m (lastF p)) n) (lastF q) (k : Int) else Go.Proofs.YtkennmpbmbacpaaGreatDoor.kth (takeT t m (lastF p)) i := by
  have := kth_set (ex := []) (t := takeT t m (lastF p)) (y := putF (Go.Proofs.YtkennmpbmbacpaaGreatDoor.kth (takeT t m (lastF p)) n) (lastF q) (k : Int)) (n := n) (k := i) (by rw [take_len]; exact h.hn) (by rw [take_len]; exact hi)
  rwa [List.append_nil] at this
theorem Moved.len (h : Moved t a b c d p q m n k) : (moveT t m n (lastF p) (lastF q) k).length = t.length := by unfold moveT; rw [List.length_set, take_len]
theorem Moved.fo (h : Moved t a b c d p q m n k) {i : Nat} (hi : i < t.length) : (Go.Proofs.YtkennmpbmbacpaaGreatDoor.kth (moveT t m n (lastF p) (lastF q) k) i).fo = (Go.Proofs.YtkennmpbmbacpaaGreatDoor.kth t i).fo := by
  rw [h.kth hi]
  split
  · next e => subst e; exact take_fo h.hm hi
  · exact take_fo h.hm hi
theorem Moved.run (h : Moved t a b c d p q m n k) {i : Nat} (hi : i < t.length) : runF a b c d (Go.Proofs.YtkennmpbmbacpaaGreatDoor.kth (moveT t m n (lastF p) (lastF q) k) i) = runF a b c d (Go.Proofs.YtkennmpbmbacpaaGreatDoor.kth t i) := by
  rw [h.kth hi]
  split
  · next e => subst e; exact take_run h.hm hi
  · exact take_run h.hm hi
/-- The new name is none of those that are left. -/
theorem Moved.free (h : Moved t a b c d p q m n k) : lastF q ∉ (Go.Proofs.YtkennmpbmbacpaaGreatDoor.kth (takeT t m (lastF p)) n).ns := by
  rw [take_kth h.hm h.hn]
  split
  · next e =>
    intro hmem
    have := h.qn
    rw [e] at this
    exact this (List.mem_of_mem_eraseIdx hmem)
  · exact h.qn
theorem Moved.nodes (h : Moved t a b c d p q m n k) {i : Nat} (hi : i < t.length) : nodeB (t.length : Int) (Go.Proofs.YtkennmpbmbacpaaGreatDoor.kth (moveT t m n (lastF p) (lastF q) k) i) = true := by
  have h1 := take_nodes h.hv h.hm h.sm hi
  have hk := h.hk
  have hk1 := h.k1
  rw [h.kth hi]
  split
  · next e =>
    subst e
    exact putF_node h1 (by rw [take_fo h.hm hi]; exact h.nf) (above_split h.aq).2.2.2 h.free ⟨by omega, by omega⟩ (Int.le_refl _)
  · exact h1
theorem Moved.tree (h : Moved t a b c d p q m n k) : treeB (moveT t m n (lastF p) (lastF q) k) = true ∧ (kidsOf (moveT t m n (lastF p) (lastF q) k)).length = (kidsOf t).length := by
  obtain ⟨a1, a2, a3, a4⟩ := tree_all h.hv
  obtain ⟨n1, n2⟩ := inB_iffL.1 a1
  have hlen := h.len
  have hm := h.hm
  have hn := h.hn
  have hnT : n < (takeT t m (lastF p)).length := by rw [take_len]; exact hn
  have hlnk : ∀ i : Nat, lnk (moveT t m n (lastF p) (lastF q) k) i = lnk t i := fun i => by
    have e1 := lnk_set (s := lastF q) (z := (k : Int)) hnT i
    have e2 := take_lnk h.hv h.hm h.sm i
    rw [h.kk] at e2
    unfold moveT
    split at e2
    · next e => rw [if_pos e] at e1; omega
    · next e => rw [if_neg e] at e1; omega
  have hns := h.nodes hn
  have hks := head_ks (take_nodes h.hv h.hm h.sm hn)
  refine ⟨tree_good (by rw [hlen]; exact a1) (by rw [h.fo (by omega)]; exact a2) (fun i hi => ?_) (fun i hi => ?_), ?_⟩
  · rw [hlen] at hi
    refine row_good (by rw [hlen]; exact h.nodes hi) (fun j hj => ?_)
    have hkr := (node_kids (h.nodes hi)).2 j hj
    rw [down_iff, h.fo (by omega)]
    rw [h.kth hi] at hj ⊢
    by_cases e : i = n
    · subst e
      rw [if_pos rfl] at hj ⊢
      rw [putF_lenK hks] at hj
      have hp := putAt_le (Go.Proofs.YtkennmpbmbacpaaGreatDoor.kth (takeT t m (lastF p)) i) (lastF q)
      have old : ∀ j', j' < (Go.Proofs.YtkennmpbmbacpaaGreatDoor.kth (takeT t m (lastF p)) i).ks.length → (Go.Proofs.YtkennmpbmbacpaaGreatDoor.kth t (nthK (Go.Proofs.YtkennmpbmbacpaaGreatDoor.kth (takeT t m (lastF p)) i) j').toNat).fo = true → (i : Int) < nthK (Go.Proofs.YtkennmpbmbacpaaGreatDoor.kth (takeT t m (lastF p)) i) j' := by
        intro j' hj'
        obtain ⟨j2, h1, h2⟩ := take_kid h.hv h.hm h.sm hi hj'
        rw [h2]
        exact tree_down h.hv hi h1
      rcases Nat.lt_trichotomy j (putAt (Go.Proofs.YtkennmpbmbacpaaGreatDoor.kth (takeT t m (lastF p)) i) (lastF q)) with c1 | c1 | c1
      · rw [putF_k1 hks c1]; exact old j (by omega)
      · subst c1
        rw [putF_k2 hks, Int.toNat_natCast]
        intro hf
        have e := h.same hf
        have := (kidF_down h.hv h.hm (p := lastF p) (by rw [h.kk]; omega)).2.2
        rw [h.kk, Int.toNat_natCast] at this
        have := this hf
        omega
      · rw [putF_k3 hks c1]; exact old (j - 1) (by omega)
    · rw [if_neg e] at hj ⊢
      obtain ⟨j2, h1, h2⟩ := take_kid h.hv h.hm h.sm hi hj
      rw [h2]
      exact tree_down h.hv hi h1
  · rw [hlen] at hi
    have := named_iff.1 (a4 i hi)
    rw [named_iff, hlnk, h.fo hi]
    exact this
  · have h1 := kidsLen_set (putF (Go.Proofs.YtkennmpbmbacpaaGreatDoor.kth (takeT t m (lastF p)) n) (lastF q) (k : Int)) hnT
    rw [putF_lenK hks] at h1
    have h2 := kidsLen_set (delAt (Go.Proofs.YtkennmpbmbacpaaGreatDoor.kth t m) (putAt (Go.Proofs.YtkennmpbmbacpaaGreatDoor.kth t m) (lastF p))) hm
    obtain ⟨p1, _⟩ := put_there (asc_of (tree_node h.hv hm)) h.sm
    have h3 := head_ks (tree_node h.hv hm)
    rw [del_lenK (by omega)] at h2
    unfold moveT
    unfold takeT at h1 ⊢
    omega
/-- What leads to directories is kept. -/
theorem Moved.keep (h : Moved t a b c d p q m n k) {r : Nat} (hr : r = m ∨ (Go.Proofs.YtkennmpbmbacpaaGreatDoor.kth t k).fo = false) : ∀ i, i < t.length → i ≠ r → (Go.Proofs.YtkennmpbmbacpaaGreatDoor.kth (moveT t m n (lastF p) (lastF q) k) i).fo = (Go.Proofs.YtkennmpbmbacpaaGreatDoor.kth t i).fo ∧ runF a b c d (Go.Proofs.YtkennmpbmbacpaaGreatDoor.kth (moveT t m n (lastF p) (lastF q) k) i) = runF a b c d (Go.Proofs.YtkennmpbmbacpaaGreatDoor.kth t i) ∧
    ∀ y, 0 ≤ kidF (Go.Proofs.YtkennmpbmbacpaaGreatDoor.kth t i) y → (Go.Proofs.YtkennmpbmbacpaaGreatDoor.kth t (kidF (Go.Proofs.YtkennmpbmbacpaaGreatDoor.kth t i) y).toNat).fo = true → kidF (Go.Proofs.YtkennmpbmbacpaaGreatDoor.kth (moveT t m n (lastF p) (lastF q) k) i) y = kidF (Go.Proofs.YtkennmpbmbacpaaGreatDoor.kth t i) y := by
  intro i hi hne
  refine ⟨h.fo hi, h.run hi, fun y hy hyf => ?_⟩
  have hT : kidF (Go.Proofs.YtkennmpbmbacpaaGreatDoor.kth (takeT t m (lastF p)) i) y = kidF (Go.Proofs.YtkennmpbmbacpaaGreatDoor.kth t i) y := by
    rw [take_kth h.hm hi]
    split
    · next e =>
      subst e
      rcases hr with hr | hr
      · exact absurd hr.symm hne
      · refine del_other (asc_of (tree_node h.hv hi)) (head_ks (tree_node h.hv hi)) h.sm (fun e => ?_)
        subst e
        rw [h.kk, Int.toNat_natCast, hr] at hyf
        cases hyf
    · rfl
  rw [h.kth hi]
  split
  · next e =>
    subst e
    rw [kid_old (head_ks (take_nodes h.hv h.hm h.sm hi)) (fun e => ?_)]
    · exact hT
    · subst e
      unfold kidF at hy
      rw [if_neg h.qn] at hy
      omega
  · exact hT
theorem Moved.pathM (h : Moved t a b c d p q m n k) : findL (moveT t m n (lastF p) (lastF q) k) (runF a b c d) 0 (partsP (aboveF p)) = ((m : Int), 0) := by
  have h0 := h.hm
  refine findL_fold h.hv h.mf (h.keep (.inl rfl)) _ 0 (by omega) (by omega) ?_
  rw [← find_yes h.hv h.hc (above_split h.ap).2.1]; exact h.fp
theorem Moved.pathN (h : Moved t a b c d p q m n k) : findL (moveT t m n (lastF p) (lastF q) k) (runF a b c d) 0 (partsP (aboveF q)) = ((n : Int), 0) := by
  have h0 := h.hm
  refine findL_fold h.hv h.nf (h.keep ?_) _ 0 (by omega) (by omega) ?_
  · cases hf : (Go.Proofs.YtkennmpbmbacpaaGreatDoor.kth t k).fo
    · exact .inr rfl
    · exact .inl (h.same hf)
  · rw [← find_yes h.hv h.hc (above_split h.aq).2.1]; exact h.fq
theorem Moved.to (h : Moved t a b c d p q m n k) : findF (moveT t m n (lastF p) (lastF q) k) a b c d q = ((k : Int), 0) := by
  obtain ⟨s1, s2, s3, s4⟩ := above_split h.aq
  rw [find_yes h.tree.1 h.hc s1, s3, findL_app, h.pathN]
  show (if (0 : Int) = 0 then _ else _) = _
  rw [if_pos rfl, findL_one, Int.toNat_natCast, h.fo h.hn, h.run h.hn, if_neg (by rw [h.nf]; simp), if_neg (by rw [h.nr]; simp), h.kth h.hn, if_pos rfl, kid_new (head_ks (take_nodes h.hv h.hm h.sm h.hn)) h.free, if_neg (by omega)]
theorem Moved.gone (h : Moved t a b c d p q m n k) : findF (moveT t m n (lastF p) (lastF q) k) a b c d p = (-1, 2) := by
  obtain ⟨s1, s2, s3, s4⟩ := above_split h.ap
  have hg := del_gone (asc_of (tree_node h.hv h.hm)) h.sm
  have hk1 : kidF (Go.Proofs.YtkennmpbmbacpaaGreatDoor.kth (moveT t m n (lastF p) (lastF q) k) m) (lastF p) = -1 := by
    have e1 : kidF (Go.Proofs.YtkennmpbmbacpaaGreatDoor.kth (takeT t m (lastF p)) m) (lastF p) = -1 := by
      rw [take_kth h.hm h.hm, if_pos rfl]
      unfold kidF
      rw [if_neg hg]
    rw [h.kth h.hm]
    split
    · next e =>
      rw [← e, kid_old (head_ks (take_nodes h.hv h.hm h.sm h.hm)) (fun e2 => ?_)]
      · exact e1
      · have := h.qn
        rw [← e, ← e2] at this
        exact this h.sm
    · exact e1
  rw [find_yes h.tree.1 h.hc s1, s3, findL_app, h.pathM]
  show (if (0 : Int) = 0 then _ else _) = _
  rw [if_pos rfl, findL_one, Int.toNat_natCast, h.fo h.hm, h.run h.hm, if_neg (by rw [h.mf]; simp), if_neg (by rw [h.mr]; simp), hk1, if_pos (by decide)]
theorem Moved.from (h : Moved t a b c d p q m n k) : findF t a b c d p = ((k : Int), 0) := by
  rw [find_above h.ap, h.fp]
  show (if (0 : Int) = 0 then _ else _) = _
  rw [if_pos rfl, findL_one, Int.toNat_natCast, if_neg (by rw [h.mf]; simp), if_neg (by rw [h.mr]; simp), h.kk, if_neg (by omega)]
/-- Moving it back leads to the tree. -/
theorem Moved.back (h : Moved t a b c d p q m n k) (hb : (moveF (moveT t m n (lastF p) (lastF q) k) a b c d q p).2 = 0) : (moveF (moveT t m n (lastF p) (lastF q) k) a b c d q p).1 = t := by
  rcases move_cases (t := moveT t m n (lastF p) (lastF q) k) (a := a) (b := b) (c := c) (d := d) (p := q) (q := p) with ⟨h1, _⟩ | ⟨_, _, _, m', n', k', M, e⟩
  · exact absurd hb h1
  · rw [e]
    have em : m' = n := by
      have h1 := M.fp
      rw [find_yes h.tree.1 h.hc (above_split h.aq).2.1, h.pathN] at h1
      injection h1 with h1 _
      omega
    have en : n' = m := by
      have h1 := M.fq
      rw [find_yes h.tree.1 h.hc (above_split h.ap).2.1, h.pathM] at h1
      injection h1 with h1 _
      omega
    subst em en
    have ek : k' = k := by
      have h1 := M.from
      rw [h.to] at h1
      injection h1 with h1 _
      omega
    subst ek
    have hm := h.hm
    have hn := h.hn
    have hls := h.len
    apply List.ext_getElem?
    intro i
    have hl2 := M.len
    rw [hls] at hl2
    by_cases hi : i < t.length
    · rw [kth_at hi, kth_at (by rw [hl2]; exact hi)]
      congr 1
      have hi2 : i < (moveT t n' m' (lastF p) (lastF q) k').length := by rw [hls]; exact hi
      have hm2 : m' < (moveT t n' m' (lastF p) (lastF q) k').length := by rw [hls]; exact hn
      have hn2 : n' < (moveT t n' m' (lastF p) (lastF q) k').length := by rw [hls]; exact hm
      have hksm := head_ks (take_nodes h.hv h.hm h.sm hn)
      have eT : Go.Proofs.YtkennmpbmbacpaaGreatDoor.kth (takeT (moveT t n' m' (lastF p) (lastF q) k') m' (lastF q)) m' = Go.Proofs.YtkennmpbmbacpaaGreatDoor.kth (takeT t n' (lastF p)) m' := by
        rw [take_kth hm2 hm2, if_pos rfl, h.kth hn, if_pos rfl, del_put hksm]
      have eK : ((k' : Nat) : Int) = nthK (Go.Proofs.YtkennmpbmbacpaaGreatDoor.kth t n') (putAt (Go.Proofs.YtkennmpbmbacpaaGreatDoor.kth t n') (lastF p)) := by
        rw [← h.kk, kid_at (asc_of (tree_node h.hv hm)) h.sm]
      have eO : ∀ j, j < t.length → j ≠ m' → Go.Proofs.YtkennmpbmbacpaaGreatDoor.kth (takeT (moveT t n' m' (lastF p) (lastF q) k') m' (lastF q)) j = Go.Proofs.YtkennmpbmbacpaaGreatDoor.kth (takeT t n' (lastF p)) j := fun j hj hne => by
        rw [take_kth hm2 (by rw [hls]; exact hj), if_neg hne, h.kth hj, if_neg hne]
      have eA : ∀ j, j < t.length → Go.Proofs.YtkennmpbmbacpaaGreatDoor.kth (takeT (moveT t n' m' (lastF p) (lastF q) k') m' (lastF q)) j = Go.Proofs.YtkennmpbmbacpaaGreatDoor.kth (takeT t n' (lastF p)) j := fun j hj => by
        by_cases hne : j = m'
        · subst hne; exact eT
        · exact eO j hj hne
      rw [M.kth hi2, eA _ hm, eA _ hi, take_kth hm hm, if_pos rfl, take_kth hm hi]
      by_cases hin : i = n'
      · rw [if_pos hin, eK, put_del (asc_of (tree_node h.hv hm)) (head_ks (tree_node h.hv hm)) h.sm, hin]
      · rw [if_neg hin, if_neg hin]
    · rw [List.getElem?_eq_none (by omega), List.getElem?_eq_none (by omega)]
end
end Go.Proofs.YtkennmpbmbacpaaGreatDoor
