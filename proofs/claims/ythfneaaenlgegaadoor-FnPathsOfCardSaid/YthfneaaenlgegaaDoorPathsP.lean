/- All paths of a tree: the plain laws. No program in sight. -/
import Derived.Test.YthfneaaenlgegaaDoorFindP
import Derived.Test.YthfneaaenlgegaaDoorME
import Derived.Test.YthfneaaenlgegaaDoorKidP
import Derived.Test.YthfneaaenlgegaaDoorMG
set_option linter.unusedSimpArgs false
set_option linter.unusedVariables false
set_option linter.unusedSectionVars false
namespace Go.Proofs.YthfneaaenlgegaaDoor
open Go.RowKit

/-- The names on the ways from node n on. -/
def qsF (t : List Nd) : Nat → Int → List (List (List UInt8))
  | 0, _ => [[]]
  | d + 1, n => [] :: (List.range (kth t n.toNat).ns.length).flatMap fun k => (qsF t d (nthK (kth t n.toNat) k)).map (nthN (kth t n.toNat) k :: ·)
theorem paths_qs (t : List Nd) : ∀ (d : Nat) (n : Int) (ps : List (List UInt8)), pathsF t d n ps = (qsF t d n).map fun q => joinP (ps ++ q)
  | 0, n, ps => by simp [pathsF, qsF]
  | d + 1, n, ps => by
    unfold pathsF qsF
    rw [List.map_cons, List.append_nil, List.map_flatMap]
    congr 1
    congr 1
    funext k
    rw [paths_qs t d, List.map_map]
    congr 1
    funext q
    simp
theorem qs_all {t : List Nd} (hT : treeB t = true) {may : Nd → Bool} (hm : ∀ k, k < t.length → may (kth t k) = true) : ∀ (d n : Nat), n < t.length → ∀ q ∈ qsF t d (n : Int), q.length ≤ d ∧ (∀ x ∈ q, nameB x = true) ∧ (findL t may (n : Int) q).2 = 0
  | 0, n, hn, q, hq => by
    have : q = [] := by simpa [qsF] using hq
    subst this
    exact ⟨Nat.le_refl _, (fun x hx => by cases hx), rfl⟩
  | d + 1, n, hn, q, hq => by
    unfold qsF at hq
    rw [List.mem_cons] at hq
    rcases hq with rfl | hq
    · exact ⟨Nat.zero_le _, (fun x hx => by cases hx), rfl⟩
    · obtain ⟨k, hk, hq⟩ := List.mem_flatMap.1 hq
      obtain ⟨r, hr, rfl⟩ := List.mem_map.1 hq
      rw [Int.toNat_natCast] at hk hr ⊢
      have hk' := List.mem_range.1 hk
      have hnode := tree_node hT hn
      have hl := head_ks hnode
      have hok := kidOk_iff.1 ((nodeB_iff.1 hnode).2 k hk')
      have hfo : (kth t n).fo = true := by
        cases e : (kth t n).fo
        · have := file_names hnode e
          rw [this] at hk'
          simp at hk'
        · rfl
      have hkid : kidF (kth t n) (nthN (kth t n) k) = nthK (kth t n) k := kid_some hk' rfl fun m hm e => by
        have := asc_lt (asc_of hnode) hm hk'
        rw [e, ltL_irr] at this
        cases this
      obtain ⟨m, hm'⟩ : ∃ m : Nat, nthK (kth t n) k = (m : Int) := ⟨(nthK (kth t n) k).toNat, by omega⟩
      rw [hm'] at hr hkid
      have ih := qs_all hT hm d m (by omega) r hr
      refine ⟨by rw [List.length_cons]; omega, fun x hx => ?_, ?_⟩
      · rcases List.mem_cons.1 hx with rfl | hx
        · exact hok.1
        · exact ih.2.1 x hx
      · show (if (kth t (n : Int).toNat).fo = false then (-1, 4) else if may (kth t (n : Int).toNat) = false then (-1, 3) else if kidF (kth t (n : Int).toNat) (nthN (kth t n) k) < 0 then (-1, 2) else findL t may (kidF (kth t (n : Int).toNat) (nthN (kth t n) k)) r : Int × Int).2 = 0
        rw [Int.toNat_natCast, if_neg (by rw [hfo]; simp), if_neg (by rw [hm n hn]; simp), hkid, if_neg (by omega)]
        exact ih.2.2
theorem nodup_flat {α : Type} {n : Nat} {f : Nat → List α} (h1 : ∀ k, k < n → (f k).Nodup) (h2 : ∀ i j x, i < j → j < n → x ∈ f i → x ∈ f j → False) : ((List.range n).flatMap f).Nodup := by
  induction n with
  | zero => simp
  | succ n ih =>
    rw [List.range_succ, List.flatMap_append, List.nodup_append]
    refine ⟨ih (fun k hk => h1 k (by omega)) (fun i j x hij hj => h2 i j x hij (by omega)), by simpa using h1 n (by omega), fun x hx y hy e => ?_⟩
    subst e
    obtain ⟨i, hi, hx⟩ := List.mem_flatMap.1 hx
    exact h2 i n x (List.mem_range.1 hi) (by omega) hx (by simpa using hy)
theorem nodup_map {α β : Type} {f : α → β} {l : List α} (h : l.Nodup) (hf : ∀ a ∈ l, ∀ b ∈ l, f a = f b → a = b) : (l.map f).Nodup := by
  induction l with
  | nil => simp
  | cons x l ih =>
    rw [List.nodup_cons] at h
    rw [List.map_cons, List.nodup_cons]
    refine ⟨fun hx => ?_, ih h.2 (fun a ha b hb => hf a (List.mem_cons_of_mem _ ha) b (List.mem_cons_of_mem _ hb))⟩
    obtain ⟨y, hy, e⟩ := List.mem_map.1 hx
    have := hf y (List.mem_cons_of_mem _ hy) x (List.mem_cons_self ..) e
    subst this
    exact h.1 hy
theorem qs_nodup {t : List Nd} (hT : treeB t = true) : ∀ (d n : Nat), n < t.length → (qsF t d (n : Int)).Nodup
  | 0, n, hn => by simp [qsF]
  | d + 1, n, hn => by
    have hnode := tree_node hT hn
    have hl := head_ks hnode
    unfold qsF
    rw [Int.toNat_natCast, List.nodup_cons]
    refine ⟨fun h => ?_, nodup_flat (fun k hk => ?_) (fun i j x hij hj hx hy => ?_)⟩
    · obtain ⟨k, _, h⟩ := List.mem_flatMap.1 h
      obtain ⟨r, _, h⟩ := List.mem_map.1 h
      cases h
    · have hok := kidOk_iff.1 ((nodeB_iff.1 hnode).2 k hk)
      obtain ⟨m, hm'⟩ : ∃ m : Nat, nthK (kth t n) k = (m : Int) := ⟨(nthK (kth t n) k).toNat, by omega⟩
      rw [hm']
      exact nodup_map (qs_nodup hT d m (by omega)) (fun a _ b _ h => (List.cons.inj h).2)
    · obtain ⟨r, _, rfl⟩ := List.mem_map.1 hx
      obtain ⟨r', _, e⟩ := List.mem_map.1 hy
      have e1 := (List.cons.inj e).1
      have := asc_lt (asc_of hnode) hij hj
      rw [e1, ltL_irr] at this
      cases this
/-- Every path is a path, leads to a node where directories may be run, and they are different. -/
theorem paths_law {t : List Nd} (hT : treeB t = true) : (pathsOfF t).Nodup ∧ ∀ p ∈ pathsOfF t, okP p = true ∧ ∀ may : Nd → Bool, (∀ k, k < t.length → may (kth t k) = true) → (findL t may 0 (partsP p)).2 = 0 := by
  have hpos : 0 < t.length := by have := inB_iffL.1 (tree_all hT).1; omega
  have e : pathsOfF t = (qsF t 6 ((0 : Nat) : Int)).map joinP := by
    unfold pathsOfF
    rw [if_pos hT, paths_qs]
    rfl
  have hq := fun (may : Nd → Bool) (hm : ∀ k, k < t.length → may (kth t k) = true) => qs_all hT hm 6 0 hpos
  have hn : ∀ q ∈ qsF t 6 ((0 : Nat) : Int), namesB q = true := fun q h => namesB_iff.2 ⟨(hq (fun _ => true) (fun _ _ => rfl) q h).1, (hq (fun _ => true) (fun _ _ => rfl) q h).2.1⟩
  rw [e]
  refine ⟨nodup_map (qs_nodup hT 6 0 hpos) (fun a ha b hb h => ?_), fun p hp => ?_⟩
  · rw [← (join_ok (hn a ha)).2, ← (join_ok (hn b hb)).2, h]
  · obtain ⟨q, hqm, rfl⟩ := List.mem_map.1 hp
    refine ⟨(join_ok (hn q hqm)).1, fun may hm => ?_⟩
    rw [(join_ok (hn q hqm)).2]
    exact (hq may hm q hqm).2.2
theorem paths_first {t : List Nd} (hT : treeB t = true) : ∃ r, pathsOfF t = [47] :: r := by
  unfold pathsOfF
  rw [if_pos hT]
  exact ⟨_, rfl⟩
/-! ### All modes opened -/
def opened (t : List Nd) (k : Nat) : List Nd := (t.take k).map (fun x => { x with mo := 511 }) ++ t.drop k
theorem opened_zero (t : List Nd) : opened t 0 = t := by simp [opened]
theorem opened_len (t : List Nd) (k : Nat) : (opened t k).length = t.length := by
  unfold opened
  rw [List.length_append, List.length_map, ← List.length_append, List.take_append_drop]
theorem opened_kth {t : List Nd} {k i : Nat} (hi : i < t.length) : kth (opened t k) i = if i < k then { kth t i with mo := 511 } else kth t i := by
  have h1 := kth_at hi
  have h2 : i < (opened t k).length := by rw [opened_len]; exact hi
  have h3 := kth_at h2
  unfold opened at h3
  by_cases hk : i < k
  · rw [if_pos hk]
    rw [List.getElem?_append_left (by rw [List.length_map, List.length_take]; omega), List.getElem?_map, List.getElem?_take_of_lt hk, h1] at h3
    injection h3 with h3
    exact h3.symm
  · rw [if_neg hk]
    rw [List.getElem?_append_right (by rw [List.length_map, List.length_take]; omega), List.length_map, List.length_take, List.getElem?_drop, Nat.min_def] at h3
    have e : k + (i - if k ≤ t.length then k else t.length) = i := by split <;> omega
    rw [e, h1] at h3
    injection h3 with h3
    exact h3.symm
theorem opened_far {t : List Nd} {k i : Nat} (hi : t.length ≤ i) : kth (opened t k) i = kth t i := by
  unfold kth
  rw [List.getD_eq_getElem?_getD, List.getD_eq_getElem?_getD, List.getElem?_eq_none (by rw [opened_len]; exact hi), List.getElem?_eq_none hi]
theorem opened_same (t : List Nd) (k i : Nat) : (kth (opened t k) i).ns = (kth t i).ns ∧ (kth (opened t k) i).ks = (kth t i).ks ∧ (kth (opened t k) i).fo = (kth t i).fo := by
  by_cases hi : i < t.length
  · rw [opened_kth hi]
    split <;> exact ⟨rfl, rfl, rfl⟩
  · rw [opened_far (by omega)]; exact ⟨rfl, rfl, rfl⟩
theorem opened_succ {t : List Nd} {k : Nat} (hk : k < t.length) : opened t (k + 1) = (opened t k).set k { kth t k with mo := 511 } := by
  apply List.ext_getElem?
  intro i
  by_cases hi : i < t.length
  · have h1 := kth_at (t := opened t (k + 1)) (k := i) (by rw [opened_len]; exact hi)
    have h2 := kth_at (t := opened t k) (k := i) (by rw [opened_len]; exact hi)
    rw [h1, opened_kth hi]
    rw [List.getElem?_set]
    by_cases e : k = i
    · subst e
      rw [if_pos (Nat.lt_succ_self k), if_pos rfl, if_pos (by rw [opened_len]; exact hi)]
    · rw [if_neg e, h2, opened_kth hi]
      by_cases h3 : i < k
      · rw [if_pos h3, if_pos (by omega)]
      · rw [if_neg h3, if_neg (by omega)]
  · rw [List.getElem?_eq_none (by rw [opened_len]; omega), List.getElem?_eq_none (by rw [List.length_set, opened_len]; omega)]
theorem opened_tree {t : List Nd} (h : treeB t = true) : ∀ k, k ≤ t.length → treeB (opened t k) = true
  | 0, _ => by rw [opened_zero]; exact h
  | k + 1, hk => by
    have ih := opened_tree h k (by omega)
    rw [opened_succ (by omega)]
    have e := opened_kth (t := t) (k := k) (i := k) (by omega)
    rw [if_neg (by omega)] at e
    refine (head_tree ih (by rw [opened_len]; omega) (by rw [e]) (by rw [e]) (by rw [e]) ?_).1
    have hn := (nodeB_iff.1 (tree_node h (show k < t.length by omega))).1
    unfold headB at hn ⊢
    simp only [Bool.and_eq_true] at hn ⊢
    exact ⟨hn.1, hn.2.1, by decide, hn.2.2.2⟩
theorem pathsF_same {t T : List Nd} (h : ∀ i, (kth T i).ns = (kth t i).ns ∧ (kth T i).ks = (kth t i).ks) : ∀ (d : Nat) (n : Int) (ps : List (List UInt8)), pathsF T d n ps = pathsF t d n ps
  | 0, _, _ => rfl
  | d + 1, n, ps => by
    unfold pathsF
    have e1 : ∀ k, nthN (kth T n.toNat) k = nthN (kth t n.toNat) k := fun k => by unfold nthN; rw [(h _).1]
    have e2 : ∀ k, nthK (kth T n.toNat) k = nthK (kth t n.toNat) k := fun k => by unfold nthK; rw [(h _).2]
    rw [(h _).1]
    congr 2
    funext k
    rw [e1, e2, pathsF_same h d]
theorem run_open {x : Nd} {m : Int} (h : nodeB m x = true) (e : x.mo = 511) : runF 0 0 0 0 x = true := by
  have hn := (nodeB_iff.1 h).1
  unfold headB at hn
  simp only [Bool.and_eq_true] at hn
  have hc : 0 ≤ classF 0 0 0 0 x.ow x.gr := by
    unfold classF
    rw [if_pos ⟨by decide, hn.1, hn.2.1⟩]
    split
    · decide
    · split <;> decide
  show mayF 0 0 0 0 x.ow x.gr x.mo 1 = true
  unfold mayF
  rw [decide_eq_true hc, e, if_pos rfl]
  decide
/-- For the user 0, in a tree whose modes are all open, every path leads to a node. -/
theorem paths_open {t : List Nd} (hT : treeB t = true) {p : List UInt8} (hp : p ∈ pathsOfF t) : (findF (opened t t.length) 0 0 0 0 p).2 = 0 := by
  have hO := opened_tree hT t.length (Nat.le_refl _)
  have e : pathsOfF (opened t t.length) = pathsOfF t := by
    unfold pathsOfF
    rw [if_pos hT, if_pos hO]
    exact pathsF_same (fun i => ⟨(opened_same t _ i).1, (opened_same t _ i).2.1⟩) _ _ _
  rw [← e] at hp
  obtain ⟨h1, h2⟩ := (paths_law hO).2 p hp
  rw [find_yes hO (by decide) h1]
  refine h2 _ fun k hk => ?_
  have hk' : k < t.length := by rwa [opened_len] at hk
  refine run_open (tree_node hO hk) ?_
  rw [opened_kth hk', if_pos hk']
end Go.Proofs.YthfneaaenlgegaaDoor
