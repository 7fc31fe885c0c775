/- Texts in one: Trees: the plain side of FindNode, PlaceFor, MakeNode, LinkName. Trees: a name more keeps a tree valid. Trees of the call's own. Trees: the plain side of PathsOf. The reference's 'FindNode'. The reference's 'PlaceFor'. -/
import Derived.Test.YtkennmpbmbacpaaGreatDoorMD
import Derived.Test.YtkennmpbmbacpaaGreatDoorMC
import Derived.Lib.BufferOwn
import Derived.Deep.AppendLies
import Derived.Deep.RegionHeld3
set_option linter.unusedSimpArgs false
set_option linter.unusedVariables false
set_option linter.unusedSectionVars false
namespace Go.Proofs.YtkennmpbmbacpaaGreatDoor
open Go.RowKit

/-- From node n on, name by name. -/
def findL (t : List Nd) (may : Nd → Bool) : Int → List (List UInt8) → Int × Int
  | n, [] => (n, 0)
  | n, p :: r => if (kth t n.toNat).fo = false then (-1, 4) else if may (kth t n.toNat) = false then (-1, 3) else if kidF (kth t n.toNat) p < 0 then (-1, 2) else findL t may (kidF (kth t n.toNat) p) r
abbrev runF (a b c d : Int) (x : Nd) : Bool := mayF a b c d x.ow x.gr x.mo 1
def findF (t : List Nd) (a b c d : Int) (s : List UInt8) : Int × Int := if (okP s && (treeB t && credB a b c d)) = true then findL t (runF a b c d) 0 (partsP s) else (-1, 1)
def placeF (t : List Nd) (a b c d : Int) (s : List UInt8) : Int × Int :=
  if aboveOk s = false then (-1, 1) else if ¬ (findF t a b c d (aboveF s)).2 = 0 then (-1, (findF t a b c d (aboveF s)).2)
  else if (kth t (findF t a b c d (aboveF s)).1.toNat).fo = false then (-1, 4)
  else if mayF a b c d (kth t (findF t a b c d (aboveF s)).1.toNat).ow (kth t (findF t a b c d (aboveF s)).1.toNat).gr (kth t (findF t a b c d (aboveF s)).1.toNat).mo 3 = false then (-1, 3)
  else if 0 ≤ kidF (kth t (findF t a b c d (aboveF s)).1.toNat) (lastF s) then (-1, 5) else ((findF t a b c d (aboveF s)).1, 0)
/-- Where a name goes. -/
def putAt (x : Nd) (s : List UInt8) : Nat := (x.ns.takeWhile (fun y => ltL y s)).length
def putF (x : Nd) (s : List UInt8) (k : Int) : Nd := { x with ns := x.ns.take (putAt x s) ++ s :: x.ns.drop (putAt x s), ks := x.ks.take (putAt x s) ++ k :: x.ks.drop (putAt x s) }
def newNd (fo : Bool) (ow gr mo : Int) : Nd := ⟨fo, ow, gr, mo, ByteArray.empty, [], []⟩
def makeF (t : List Nd) (a b c d : Int) (s : List UInt8) (fo : Bool) (mode : Int) : List Nd × Int :=
  if inB mode 0 1023 = false then ([], 1) else if ¬ (placeF t a b c d s).2 = 0 then ([], (placeF t a b c d s).2)
  else if t.length = 16 then ([], 6)
  else (t.set (placeF t a b c d s).1.toNat (putF (kth t (placeF t a b c d s).1.toNat) (lastF s) (t.length : Int)) ++ [newNd fo b (kth t (placeF t a b c d s).1.toNat).gr mode], 0)
def linkF (t : List Nd) (a b c d : Int) (p q : List UInt8) : List Nd × Int :=
  if ¬ (findF t a b c d p).2 = 0 then ([], (findF t a b c d p).2)
  else if (kth t (findF t a b c d p).1.toNat).fo = true then ([], 4)
  else if ¬ (placeF t a b c d q).2 = 0 then ([], (placeF t a b c d q).2)
  else (t.set (placeF t a b c d q).1.toNat (putF (kth t (placeF t a b c d q).1.toNat) (lastF q) (findF t a b c d p).1), 0)

theorem kidF_mem {x : Nd} {s : List UInt8} (h : 0 ≤ kidF x s) (hk : ∀ j, j < x.ks.length → 1 ≤ nthK x j) : s ∈ x.ns := by
  unfold kidF at h
  split at h
  · assumption
  · omega
theorem kidF_nth {x : Nd} {s : List UInt8} (hl : x.ns.length = x.ks.length) : kidF x s = -1 ∨ ∃ j, j < x.ks.length ∧ kidF x s = nthK x j ∧ s ∈ x.ns := by
  unfold kidF
  split
  · next h => exact .inr ⟨_, by rw [← hl]; exact List.idxOf_lt_length_of_mem h, rfl, h⟩
  · exact .inl rfl
theorem tree_node {t : List Nd} (h : treeB t = true) {k : Nat} (hk : k < t.length) : nodeB (t.length : Int) (kth t k) = true := by
  have := (tree_all h).2.2.1 k hk
  unfold rowB at this
  rw [Bool.and_eq_true] at this
  exact this.1
theorem kid_range {t : List Nd} (h : treeB t = true) {k : Nat} (hk : k < t.length) (s : List UInt8) : kidF (kth t k) s = -1 ∨ (1 ≤ kidF (kth t k) s ∧ kidF (kth t k) s < (t.length : Int)) := by
  obtain ⟨hl, hn⟩ := node_kids (tree_node h hk)
  rcases kidF_nth (s := s) hl with e | ⟨j, hj, e, _⟩
  · exact .inl e
  · have := hn j hj
    rw [e]; right; omega
theorem head_ks {many : Int} {x : Nd} (h : nodeB many x = true) : x.ns.length = x.ks.length := (node_kids h).1
/-- What is found is a node. -/
theorem findL_range {t : List Nd} (h : treeB t = true) (may : Nd → Bool) : ∀ (ps : List (List UInt8)) (n : Int), 0 ≤ n → n < (t.length : Int) → (findL t may n ps).2 = 0 → 0 ≤ (findL t may n ps).1 ∧ (findL t may n ps).1 < (t.length : Int)
  | [], n, h0, h1, _ => ⟨h0, h1⟩
  | p :: r, n, h0, h1, he => by
    unfold findL at he ⊢
    split at he
    · cases he
    · split at he
      · cases he
      · split at he
        · cases he
        · next g1 g2 g3 =>
          rw [if_neg g1, if_neg g2, if_neg g3]
          rcases kid_range h (k := n.toNat) (by omega) p with e | ⟨e1, e2⟩
          · omega
          · exact findL_range h may r _ (by omega) e2 he
theorem findF_range {t : List Nd} {a b c d : Int} {s : List UInt8} (he : (findF t a b c d s).2 = 0) : treeB t = true ∧ credB a b c d = true ∧ okP s = true ∧ 0 ≤ (findF t a b c d s).1 ∧ (findF t a b c d s).1 < (t.length : Int) := by
  unfold findF at he ⊢
  split at he
  · next h =>
    simp only [Bool.and_eq_true] at h
    rw [if_pos (by simp [h])]
    have hl := (tree_all h.2.1).1
    obtain ⟨n1, _⟩ := inB_iffL.1 hl
    exact ⟨h.2.1, h.2.2, h.1, findL_range h.2.1 _ _ 0 (by omega) (by omega) he⟩
  · cases he
theorem placeF_yes {t : List Nd} {a b c d : Int} {s : List UInt8} (he : (placeF t a b c d s).2 = 0) : treeB t = true ∧ credB a b c d = true ∧ aboveOk s = true ∧ 0 ≤ (placeF t a b c d s).1 ∧ (placeF t a b c d s).1 < (t.length : Int) ∧ (kth t (placeF t a b c d s).1.toNat).fo = true ∧ lastF s ∉ (kth t (placeF t a b c d s).1.toNat).ns := by
  unfold placeF at he ⊢
  split at he
  · cases he
  · split at he
    · next h => exact absurd he h
    · split at he
      · cases he
      · split at he
        · cases he
        · split at he
          · cases he
          · next g1 g2 g3 g4 g5 =>
            rw [if_neg g1, if_neg g2, if_neg g3, if_neg g4, if_neg g5]
            have g2' : (findF t a b c d (aboveF s)).2 = 0 := Decidable.not_not.1 g2
            obtain ⟨k1, k2, _, k4, k5⟩ := findF_range g2'
            refine ⟨k1, k2, by simpa using g1, k4, k5, by simpa using g3, fun hm => g5 ?_⟩
            have hx : (findF t a b c d (aboveF s)).1.toNat < t.length := by omega
            obtain ⟨hl, hn⟩ := node_kids (tree_node k1 hx)
            unfold kidF
            rw [if_pos hm]
            have := hn ((kth t (findF t a b c d (aboveF s)).1.toNat).ns.idxOf (lastF s)) (by rw [← hl]; exact List.idxOf_lt_length_of_mem hm)
            omega
end Go.Proofs.YtkennmpbmbacpaaGreatDoor

namespace Go.Proofs.YtkennmpbmbacpaaGreatDoor
open Go.RowKit

theorem kidOk_iff {many : Int} {x : Nd} {k : Nat} : kidOk many x k = true ↔ nameB (nthN x k) = true ∧ (1 ≤ nthK x k ∧ nthK x k ≤ many - 1) ∧ (k = 0 ∨ ltL (nthN x (k - 1)) (nthN x k) = true) := by
  unfold kidOk
  simp only [Bool.and_eq_true, Bool.or_eq_true, decide_eq_true_eq, inB_iffL]
theorem nodeB_iff {many : Int} {x : Nd} : nodeB many x = true ↔ headB x = true ∧ ∀ k, k < x.ns.length → kidOk many x k = true := by
  unfold nodeB
  rw [Bool.and_eq_true, List.all_eq_true]
  exact and_congr_right fun _ => ⟨fun h k hk => h k (List.mem_range.2 hk), fun h k hk => h k (List.mem_range.1 hk)⟩
theorem head_len {x : Nd} (h : headB x = true) : x.ns.length = x.ks.length := by
  unfold headB at h
  simp only [Bool.and_eq_true, decide_eq_true_eq] at h
  exact h.2.2.2.1
theorem nodeB_mono {m m' : Int} {x : Nd} (h : nodeB m x = true) (hm : m ≤ m') : nodeB m' x = true := by
  rw [nodeB_iff] at h ⊢
  refine ⟨h.1, fun k hk => ?_⟩
  have := h.2 k hk
  rw [kidOk_iff] at this ⊢
  exact ⟨this.1, by omega, this.2.2⟩
theorem ltL_other {a b : List UInt8} (h : ltL a b = false) (hne : a ≠ b) : ltL b a = true := by
  have := ltL_flip a b
  rw [h] at this
  have hb : (b == a) = false := beq_eq_false_iff_ne.2 (fun e => hne e.symm)
  rw [hb] at this
  simpa using this
theorem putAt_le (x : Nd) (s : List UInt8) : putAt x s ≤ x.ns.length := by
  unfold putAt; exact (List.takeWhile_prefix _).length_le
theorem putAt_lt {x : Nd} {s : List UInt8} {k : Nat} (h : k < putAt x s) : ltL (nthN x k) s = true := by
  have hk : k < (x.ns.takeWhile (fun y => ltL y s)).length := h
  have h1 := List.getElem_mem hk
  have h2 := List.all_takeWhile (p := fun y => ltL y s) (l := x.ns)
  rw [List.all_eq_true] at h2
  have h3 := h2 _ h1
  have h4 : (x.ns.takeWhile (fun y => ltL y s))[k] = nthN x k := by
    have hle := putAt_le x s
    have hk' : k < x.ns.length := Nat.lt_of_lt_of_le h hle
    have := (List.takeWhile_prefix (fun y => ltL y s) (l := x.ns)).getElem hk
    rw [this]
    have e := nthN_at hk'
    rw [List.getElem?_eq_getElem hk'] at e
    injection e
  rw [h4] at h3
  exact h3
theorem putAt_ge {x : Nd} {s : List UInt8} (h : putAt x s < x.ns.length) : ltL (nthN x (putAt x s)) s = false := by
  have e : x.ns = x.ns.takeWhile (fun y => ltL y s) ++ x.ns.dropWhile (fun y => ltL y s) := (List.takeWhile_append_dropWhile).symm
  have hd : x.ns.dropWhile (fun y => ltL y s) ≠ [] := by
    intro h0
    rw [h0, List.append_nil] at e
    unfold putAt at h
    rw [← e] at h
    omega
  have h1 := List.head_dropWhile_not (fun y => ltL y s) hd
  have h2 : x.ns[putAt x s]? = some ((x.ns.dropWhile (fun y => ltL y s)).head hd) := by
    conv => lhs; rw [e]
    unfold putAt
    rw [List.getElem?_append_right (Nat.le_refl _), Nat.sub_self, ← List.head?_eq_getElem?, List.head?_eq_some_head hd]
  rw [nthN_at h] at h2
  injection h2 with h2
  rw [h2]
  simpa using h1
section
variable {x : Nd} {s : List UInt8} {z : Int} {j : Nat}
theorem putF_lenN : (putF x s z).ns.length = x.ns.length + 1 := by
  have := putAt_le x s
  simp only [putF, List.length_append, List.length_take, List.length_cons, List.length_drop]
  omega
theorem putF_lenK (hl : x.ns.length = x.ks.length) : (putF x s z).ks.length = x.ks.length + 1 := by
  have := putAt_le x s
  simp only [putF, List.length_append, List.length_take, List.length_cons, List.length_drop]
  omega
theorem putF_n1 (h : j < putAt x s) : nthN (putF x s z) j = nthN x j := by
  have := putAt_le x s
  unfold nthN putF
  simp only [List.getD_eq_getElem?_getD]
  rw [List.getElem?_append_left (by rw [List.length_take]; omega), List.getElem?_take_of_lt h]
theorem putF_n2 : nthN (putF x s z) (putAt x s) = s := by
  have := putAt_le x s
  unfold nthN putF
  simp only [List.getD_eq_getElem?_getD]
  rw [List.getElem?_append_right (by rw [List.length_take]; omega), List.length_take, Nat.min_eq_left this, Nat.sub_self]; rfl
theorem putF_n3 (h : putAt x s < j) : nthN (putF x s z) j = nthN x (j - 1) := by
  have := putAt_le x s
  unfold nthN putF
  simp only [List.getD_eq_getElem?_getD]
  rw [List.getElem?_append_right (by rw [List.length_take]; omega), List.length_take, Nat.min_eq_left this, show j - putAt x s = (j - 1 - putAt x s) + 1 by omega, List.getElem?_cons_succ, List.getElem?_drop, show putAt x s + (j - 1 - putAt x s) = j - 1 by omega]
theorem putF_k1 (hl : x.ns.length = x.ks.length) (h : j < putAt x s) : nthK (putF x s z) j = nthK x j := by
  have := putAt_le x s
  unfold nthK putF
  simp only [List.getD_eq_getElem?_getD]
  rw [List.getElem?_append_left (by rw [List.length_take]; omega), List.getElem?_take_of_lt h]
theorem putF_k2 (hl : x.ns.length = x.ks.length) : nthK (putF x s z) (putAt x s) = z := by
  have := putAt_le x s
  unfold nthK putF
  simp only [List.getD_eq_getElem?_getD]
  rw [List.getElem?_append_right (by rw [List.length_take]; omega), List.length_take, Nat.min_eq_left (by omega), Nat.sub_self]; rfl
theorem putF_k3 (hl : x.ns.length = x.ks.length) (h : putAt x s < j) : nthK (putF x s z) j = nthK x (j - 1) := by
  have := putAt_le x s
  unfold nthK putF
  simp only [List.getD_eq_getElem?_getD]
  rw [List.getElem?_append_right (by rw [List.length_take]; omega), List.length_take, Nat.min_eq_left (by omega), show j - putAt x s = (j - 1 - putAt x s) + 1 by omega, List.getElem?_cons_succ, List.getElem?_drop, show putAt x s + (j - 1 - putAt x s) = j - 1 by omega]
theorem putF_count (y : Int) : (putF x s z).ks.count y = x.ks.count y + (if z = y then 1 else 0) := by
  have e : x.ks.count y = (x.ks.take (putAt x s)).count y + (x.ks.drop (putAt x s)).count y := by rw [← List.count_append, List.take_append_drop]
  rw [e]
  simp only [putF, List.count_append, List.count_cons, beq_iff_eq]
  split <;> omega
theorem putF_node {m m' : Int} (h : nodeB m x = true) (hf : x.fo = true) (hs : nameB s = true) (hm : s ∉ x.ns) (hz : 1 ≤ z ∧ z ≤ m' - 1) (hmm : m ≤ m') : nodeB m' (putF x s z) = true := by
  have hl := head_len (nodeB_iff.1 h).1
  have h := nodeB_mono h hmm
  rw [nodeB_iff] at h ⊢
  obtain ⟨h1, h2⟩ := h
  refine ⟨?_, fun k hk => ?_⟩
  · unfold headB at h1 ⊢
    simp only [Bool.and_eq_true, decide_eq_true_eq, Bool.or_eq_true] at h1 ⊢
    refine ⟨h1.1, h1.2.1, h1.2.2.1, ?_, .inl hf, h1.2.2.2.2.2.1, h1.2.2.2.2.2.2⟩
    rw [putF_lenN, putF_lenK hl, hl]
  · rw [putF_lenN] at hk
    rw [kidOk_iff]
    have hle := putAt_le x s
    rcases Nat.lt_trichotomy k (putAt x s) with c | c | c
    · have := kidOk_iff.1 (h2 k (by omega))
      rw [putF_n1 c, putF_k1 hl c]
      refine ⟨this.1, this.2.1, ?_⟩
      rcases this.2.2 with e | e
      · exact .inl e
      · right; rw [putF_n1 (by omega)]; exact e
    · subst c
      rw [putF_n2, putF_k2 hl]
      refine ⟨hs, hz, ?_⟩
      by_cases h0 : putAt x s = 0
      · exact .inl h0
      · right; rw [putF_n1 (by omega)]; exact putAt_lt (by omega)
    · have := kidOk_iff.1 (h2 (k - 1) (by omega))
      rw [putF_n3 c, putF_k3 hl c]
      refine ⟨this.1, this.2.1, .inr ?_⟩
      by_cases h1 : k - 1 = putAt x s
      · rw [h1, putF_n2]
        refine ltL_other (putAt_ge (by omega)) (fun e => hm ?_)
        rw [← e]
        exact List.mem_of_getElem? (nthN_at (by omega))
      · rw [putF_n3 (by omega)]
        rcases this.2.2 with e | e
        · omega
        · exact e
end
theorem kth_set {t : List Nd} {n k : Nat} {y : Nd} {ex : List Nd} (hn : n < t.length) (hk : k < t.length) : kth (t.set n y ++ ex) k = if k = n then y else kth t k := by
  unfold kth
  simp only [List.getD_eq_getElem?_getD]
  rw [List.getElem?_append_left (by rw [List.length_set]; exact hk), List.getElem?_set]
  by_cases h : n = k
  · subst h; simp [hn]
  · rw [if_neg h, if_neg (fun e => h e.symm)]
theorem kth_new {t : List Nd} {n : Nat} {y z : Nd} : kth (t.set n y ++ [z]) t.length = z := by
  unfold kth
  simp only [List.getD_eq_getElem?_getD]
  rw [List.getElem?_append_right (by rw [List.length_set]; omega), List.length_set, Nat.sub_self]; rfl
theorem kids_set {t : List Nd} {n : Nat} (y : Nd) (hn : n < t.length) (z : Int) : (kidsOf (t.set n y)).count z + (kth t n).ks.count z = (kidsOf t).count z + y.ks.count z := by
  have h1 : t = t.take n ++ (kth t n :: t.drop (n + 1)) := by
    have h2 := kth_at hn
    rw [List.getElem?_eq_getElem hn] at h2
    injection h2 with h2
    rw [← h2, List.getElem_cons_drop, List.take_append_drop]
  have h3 : t.set n y = t.take n ++ (y :: t.drop (n + 1)) := by rw [List.set_eq_take_append_cons_drop, if_pos hn]
  have e : (kidsOf t).count z = (kidsOf (t.take n ++ (kth t n :: t.drop (n + 1)))).count z := congrArg (fun l => (kidsOf l).count z) h1
  rw [h3, e]
  simp only [kidsOf, List.flatMap_append, List.flatMap_cons, List.count_append]
  omega
theorem kidsLen_set {t : List Nd} {n : Nat} (y : Nd) (hn : n < t.length) : (kidsOf (t.set n y)).length + (kth t n).ks.length = (kidsOf t).length + y.ks.length := by
  have h1 : t = t.take n ++ (kth t n :: t.drop (n + 1)) := by
    have h2 := kth_at hn
    rw [List.getElem?_eq_getElem hn] at h2
    injection h2 with h2
    rw [← h2, List.getElem_cons_drop, List.take_append_drop]
  have h3 : t.set n y = t.take n ++ (y :: t.drop (n + 1)) := by rw [List.set_eq_take_append_cons_drop, if_pos hn]
  have e : (kidsOf t).length = (kidsOf (t.take n ++ (kth t n :: t.drop (n + 1)))).length := congrArg (fun l => (kidsOf l).length) h1
  rw [h3, e]
  simp only [kidsOf, List.flatMap_append, List.flatMap_cons, List.length_append]
  omega
theorem kids_drop_take {t : List Nd} {n : Nat} (hn : n < t.length) : (kidsOf t).length = (kidsOf (t.take n)).length + (kth t n).ks.length + (kidsOf (t.drop (n + 1))).length := by
  have h1 : t = t.take n ++ (kth t n :: t.drop (n + 1)) := by
    have h2 := kth_at hn
    rw [List.getElem?_eq_getElem hn] at h2
    injection h2 with h2
    rw [← h2, List.getElem_cons_drop, List.take_append_drop]
  have e : (kidsOf t).length = (kidsOf (t.take n ++ (kth t n :: t.drop (n + 1)))).length := congrArg (fun l => (kidsOf l).length) h1
  rw [e]
  simp only [kidsOf, List.flatMap_append, List.flatMap_cons, List.length_append]
  omega
theorem kids_bound {t : List Nd} (h : treeB t = true) {z : Int} (hz : z ∈ kidsOf t) : 1 ≤ z ∧ z < (t.length : Int) := by
  unfold kidsOf at hz
  obtain ⟨x, hx, hz⟩ := List.mem_flatMap.1 hz
  obtain ⟨k, hk, e⟩ := List.mem_iff_getElem.1 hx
  have hkx : kth t k = x := by
    have := kth_at hk
    rw [List.getElem?_eq_getElem hk, e] at this
    injection this with this
    exact this.symm
  have hn := (node_kids (tree_node h hk)).2
  rw [hkx] at hn
  obtain ⟨j, hj, ej⟩ := List.mem_iff_getElem.1 hz
  have := hn j hj
  have hjx : nthK x j = z := by
    have := nthK_at hj
    rw [List.getElem?_eq_getElem hj, ej] at this
    injection this with this
    exact this.symm
  rw [hjx] at this
  omega
/-- A name more for a file that is there, or for a new node. -/
theorem put_tree {t ex : List Nd} {n : Nat} {s : List UInt8} {z : Int} (h : treeB t = true) (hn : n < t.length) (hf : (kth t n).fo = true) (hs : nameB s = true) (hm : s ∉ (kth t n).ns) (hz : 1 ≤ z)
    (hex : (ex = [] ∧ z < (t.length : Int) ∧ (kth t z.toNat).fo = false) ∨ (∃ y, ex = [y] ∧ z = (t.length : Int) ∧ t.length < 16 ∧ headB y = true ∧ y.ns = [] ∧ y.ks = [])) : treeB (t.set n (putF (kth t n) s z) ++ ex) = true := by
  obtain ⟨h1, h2, h3, h4⟩ := tree_all h
  obtain ⟨n1, n2⟩ := inB_iffL.1 h1
  have hlen : (t.set n (putF (kth t n) s z) ++ ex).length = t.length + ex.length := by rw [List.length_append, List.length_set]
  have hl : t.length + ex.length ≤ 16 := by
    rcases hex with ⟨e, _⟩ | ⟨y, e, _, h, _⟩
    · subst e; simp; omega
    · subst e; simp; omega
  have hzm : z ≤ ((t.length + ex.length : Nat) : Int) - 1 := by
    rcases hex with ⟨e, h, _⟩ | ⟨y, e, h, _⟩
    · subst e; simp; omega
    · subst e; simp; omega
  have hks := head_len (nodeB_iff.1 (tree_node h hn)).1
  have hcnt : ∀ k : Nat, lnk (t.set n (putF (kth t n) s z) ++ ex) k = lnk t k + (if z = (k : Int) then 1 else 0) := by
    intro k
    have hx : (kidsOf ex).count (k : Int) = 0 := by
      rcases hex with ⟨e, _⟩ | ⟨y, e, _, _, _, _, hy⟩
      · subst e; rfl
      · subst e; simp [kidsOf, hy]
    have h5 := kids_set (putF (kth t n) s z) hn (k : Int)
    rw [putF_count] at h5
    have h6 : kidsOf (t.set n (putF (kth t n) s z) ++ ex) = kidsOf (t.set n (putF (kth t n) s z)) ++ kidsOf ex := by simp [kidsOf]
    unfold lnk
    rw [h6, List.count_append, hx]
    by_cases hc : z = (k : Int)
    · rw [if_pos hc] at h5 ⊢; omega
    · rw [if_neg hc] at h5 ⊢; omega
  have hfo : ∀ k, k < t.length → (kth (t.set n (putF (kth t n) s z) ++ ex) k).fo = (kth t k).fo := by
    intro k hk
    rw [kth_set hn hk]
    split
    · next e => subst e; rfl
    · rfl
  refine tree_good ?_ ?_ (fun k hk => ?_) (fun k hk => ?_)
  · rw [hlen]; exact inB_iffL.2 (by omega)
  · rw [hfo 0 (by omega)]; exact h2
  · rw [hlen] at hk
    refine row_good ?_ (fun j hj => ?_)
    · rw [hlen]
      by_cases hkl : k < t.length
      · rw [kth_set hn hkl]
        split
        · next e =>
          subst e
          exact putF_node (tree_node h hn) hf hs hm ⟨hz, hzm⟩ (by omega)
        · exact nodeB_mono (tree_node h hkl) (by omega)
      · rcases hex with ⟨e, _⟩ | ⟨y, e, _, _, hy1, hy2, _⟩
        · subst e; simp at hk; omega
        · subst e
          have : k = t.length := by simp at hk; omega
          subst this
          rw [kth_new, nodeB_iff]
          exact ⟨hy1, fun k hk => by rw [hy2] at hk; simp at hk⟩
    · by_cases hkl : k < t.length
      · unfold downB
        have hold : ∀ i, i < (kth t k).ks.length → (!((kth (t.set n (putF (kth t n) s z) ++ ex) (nthK (kth t k) i).toNat).fo && decide (nthK (kth t k) i ≤ (k : Int)))) = true := by
          intro i hi
          have hr := h3 k hkl
          unfold rowB at hr
          rw [Bool.and_eq_true, List.all_eq_true] at hr
          have hd := hr.2 i (List.mem_range.2 hi)
          unfold downB at hd
          have hk2 := (node_kids (tree_node h hkl)).2 i hi
          rw [hfo _ (by omega)]
          exact hd
        rw [kth_set hn hkl] at hj ⊢
        by_cases e : k = n
        · subst e
          rw [if_pos rfl] at hj ⊢
          rw [putF_lenK hks] at hj
          rcases Nat.lt_trichotomy j (putAt (kth t k) s) with c | c | c
          · rw [putF_k1 hks c]
            exact hold j (by have := putAt_le (kth t k) s; omega)
          · subst c
            rw [putF_k2 hks]
            rcases hex with ⟨e, hz2, hz3⟩ | ⟨y, e, hz2, _⟩
            · rw [hfo _ (by omega), hz3]; rfl
            · have : ¬ z ≤ (k : Int) := by omega
              simp [this]
          · rw [putF_k3 hks c]
            exact hold (j - 1) (by omega)
        · rw [if_neg e] at hj ⊢
          exact hold j hj
      · exfalso
        rcases hex with ⟨e, _⟩ | ⟨y, e, _, _, _, _, hy⟩
        · subst e; simp at hk; omega
        · subst e
          have : k = t.length := by simp at hk; omega
          subst this
          rw [kth_new, hy] at hj
          simp at hj
  · rw [hlen] at hk
    unfold namedB
    rw [hcnt]
    by_cases hkl : k < t.length
    · rw [hfo k hkl]
      have hd := h4 k hkl
      unfold namedB at hd
      by_cases hzk : z = (k : Int)
      · rw [if_pos hzk]
        rcases hex with ⟨e, hz2, hz3⟩ | ⟨y, e, hz2, _⟩
        · have : (kth t k).fo = false := by rw [← hz3, hzk]; rfl
          rw [this] at hd ⊢
          simp only [Bool.or_eq_true, decide_eq_true_eq, Bool.and_eq_true, Bool.not_false, Bool.true_or, and_true] at hd ⊢
          omega
        · omega
      · rw [if_neg hzk, Int.add_zero]; exact hd
    · rcases hex with ⟨e, _⟩ | ⟨y, e, hz2, _⟩
      · subst e; simp at hk; omega
      · subst e
        have : k = t.length := by simp at hk; omega
        subst this
        rw [if_pos hz2]
        have h0 : lnk t t.length = 0 := by
          unfold lnk
          rw [List.count_eq_zero.2 (fun hmem => by have := kids_bound h hmem; omega)]
          rfl
        rw [h0]
        simp
/-- MakeNode and LinkName keep a tree valid. -/
theorem make_tree {t : List Nd} {a b c d : Int} {s : List UInt8} {fo : Bool} {mode : Int} (hn : nameB (lastF s) = true) (hg : (makeF t a b c d s fo mode).2 = 0) : treeB (makeF t a b c d s fo mode).1 = true ∧ (kidsOf (makeF t a b c d s fo mode).1).length = (kidsOf t).length + 1 ∧ (makeF t a b c d s fo mode).1.length = t.length + 1 ∧ treeB t = true := by
  unfold makeF at hg ⊢
  split at hg
  · cases hg
  · split at hg
    · next h => exact absurd hg h
    · split at hg
      · cases hg
      · next g1 g2 g3 =>
        rw [if_neg g1, if_neg g2, if_neg g3]
        have g2' : (placeF t a b c d s).2 = 0 := Decidable.not_not.1 g2
        obtain ⟨k1, k2, k3, k4, k5, k6, k7⟩ := placeF_yes g2'
        have hx : (placeF t a b c d s).1.toNat < t.length := by omega
        obtain ⟨n1, n2⟩ := inB_iffL.1 (tree_all k1).1
        have hks := head_len (nodeB_iff.1 (tree_node k1 hx)).1
        have g1' : inB mode 0 1023 = true := by simpa using g1
        refine ⟨put_tree k1 hx k6 hn k7 (by omega) (.inr ⟨_, rfl, rfl, by omega, ?_, rfl, rfl⟩), ?_, by simp, k1⟩
        · have hb := nodeB_iff.1 (tree_node k1 hx)
          have hb1 := hb.1
          unfold headB at hb1 ⊢
          simp only [Bool.and_eq_true] at hb1
          have hcr : inB b 0 99 = true := by
            unfold credB at k2
            simp only [Bool.and_eq_true] at k2
            exact k2.2.1
          simp only [newNd, hcr, hb1.2.1, g1', Bool.true_and, List.length_nil]
          cases fo <;> rfl
        · have h6 := kidsLen_set (putF (kth t (placeF t a b c d s).1.toNat) (lastF s) (t.length : Int)) hx
          rw [putF_lenK hks] at h6
          have h7 : kidsOf (t.set (placeF t a b c d s).1.toNat (putF (kth t (placeF t a b c d s).1.toNat) (lastF s) (t.length : Int)) ++ [newNd fo b (kth t (placeF t a b c d s).1.toNat).gr mode]) = kidsOf (t.set (placeF t a b c d s).1.toNat (putF (kth t (placeF t a b c d s).1.toNat) (lastF s) (t.length : Int))) := by simp [kidsOf, newNd]
          rw [h7]
          omega
theorem link_tree {t : List Nd} {a b c d : Int} {p q : List UInt8} (hn : nameB (lastF q) = true) (hg : (linkF t a b c d p q).2 = 0) : treeB (linkF t a b c d p q).1 = true ∧ (kidsOf (linkF t a b c d p q).1).length = (kidsOf t).length + 1 ∧ (linkF t a b c d p q).1.length = t.length ∧ treeB t = true := by
  unfold linkF at hg ⊢
  split at hg
  · next h => exact absurd hg h
  · split at hg
    · cases hg
    · split at hg
      · next h => exact absurd hg h
      · next g1 g2 g3 =>
        rw [if_neg g1, if_neg g2, if_neg g3]
        have g3' : (placeF t a b c d q).2 = 0 := Decidable.not_not.1 g3
        have g1' : (findF t a b c d p).2 = 0 := Decidable.not_not.1 g1
        obtain ⟨k1, k2, k3, k4, k5, k6, k7⟩ := placeF_yes g3'
        obtain ⟨_, _, _, f4, f5⟩ := findF_range g1'
        have hx : (placeF t a b c d q).1.toNat < t.length := by omega
        have hks := head_len (nodeB_iff.1 (tree_node k1 hx)).1
        have g2' : (kth t (findF t a b c d p).1.toNat).fo = false := by simpa using g2
        have hz : 1 ≤ (findF t a b c d p).1 := by
          rcases Int.lt_or_le (findF t a b c d p).1 1 with h | h
          · have e : (findF t a b c d p).1 = 0 := by omega
            rw [e] at g2'
            have := (tree_all k1).2.1
            rw [show ((0 : Int).toNat) = 0 from rfl, this] at g2'
            cases g2'
          · exact h
        have := put_tree (ex := []) k1 hx k6 hn k7 hz (.inl ⟨rfl, f5, g2'⟩)
        rw [List.append_nil] at this
        refine ⟨this, ?_, by simp, k1⟩
        have h6 := kidsLen_set (putF (kth t (placeF t a b c d q).1.toNat) (lastF q) (findF t a b c d p).1) hx
        rw [putF_lenK hks] at h6
        show (kidsOf (t.set _ _)).length = _
        omega
end Go.Proofs.YtkennmpbmbacpaaGreatDoor

namespace Go.Proofs.YtkennmpbmbacpaaGreatDoor
open Go.RowKit

/-- Two places, of which the one is none or another than the other. -/
def Sep (a b : Option Nat) : Prop := a = none ∨ a ≠ b
theorem Sep.symm {a b : Option Nat} (h : Sep a b) : Sep b a := by
  unfold Sep at *
  cases a with
  | none => cases b <;> simp
  | some x => rcases h with h | h
              · cases h
              · exact .inr fun e => h e.symm
section
variable {α β : Type} {E : Lay α} {F : Lay β} {w w' : World} {v v' u : Value} {l : List α} {m : List β} {B C : Nat} {T U : TypeId}
theorem ownG_kept {row : Option Nat} (h : OwnG E T B w v l) (hg : w.grownBy w' row) (hne : Sep v.ownBlock row) : OwnG E T B w' v l := World.ownsRow.kept h hg hne
/-- Rows of elements of two types lie apart. -/
theorem ownG_type (h : OwnG E T B w v l) (h' : OwnG F U C w u m) (hT : T ≠ U) : Sep v.ownBlock u.ownBlock := by
  rcases h.2 with ⟨rfl, _⟩ | ⟨g, c, cur, rfl, _, hg, _⟩
  · exact .inl rfl
  · rcases h'.2 with ⟨rfl, _⟩ | ⟨g', c', cur', rfl, _, hg', _⟩
    · exact .inr (by intro e; cases e)
    · refine .inr fun e => hT ?_
      have e : some g = some g' := e
      injection e with e
      subst e
      rw [hg] at hg'
      injection hg' with hg'
      injection hg' with _ h2
/-- What was there in an elder world lies apart from what was made later. -/
theorem ownG_apart {w0 : World} (h0 : OwnG E T B w0 v l) (h2 : OwnG F U C w u m) (hC : w0.heap.size ≤ C) : Sep v.ownBlock u.ownBlock := by
  cases e : v.ownBlock with
  | none => exact .inl rfl
  | some k =>
    refine .inr fun e2 => ?_
    have a := h0.lt k e
    have b := h2.lt k e2.symm
    omega
end
def nB (c : Cn) : Option Nat := (Value.slice c.nA c.nL c.nC).ownBlock
def kB (c : Cn) : Option Nat := (Value.slice c.kA c.kL c.kC).ownBlock
structure NdO (B : Nat) (w : World) (c : Cn) (x : Nd) : Prop where
  fo : c.fo = x.fo
  ow : c.ow = x.ow
  gr : c.gr = x.gr
  mo : c.mo = x.mo
  tx : c.tx = x.tx
  ns : OwnG EL 9 B w (.slice c.nA c.nL c.nC) x.ns
  ks : OwnG EI 3 B w (.slice c.kA c.kL c.kC) x.ks
  sz : x.tx.size ≤ maxLen
  nz : ∀ s ∈ x.ns, s.length ≤ 1048576
def ApartC (cs : List Cn) : Prop := ∀ (i j : Nat) c d, cs[i]? = some c → cs[j]? = some d → i ≠ j → Sep (nB c) (nB d) ∧ Sep (kB c) (kB d)
/-- A tree of the call's own, by the cells of its nodes. -/
structure TreeC (B : Nat) (w : World) (v : Value) (cs : List Cn) (t : List Nd) : Prop where
  len : cs.length = t.length
  row : OwnG EC 44 B w v cs
  nds : ∀ (i : Nat) c x, cs[i]? = some c → t[i]? = some x → NdO B w c x
  sep : ApartC cs
def TreeO (B : Nat) (w : World) (v : Value) (t : List Nd) : Prop := ∃ cs, TreeC B w v cs t
section
variable {B B' : Nat} {w w' : World} {v v' : Value} {cs : List Cn} {t : List Nd} {c : Cn} {x : Nd}
theorem NdO.r (h : NdO B w c x) : NdR w c x := ⟨h.fo, h.ow, h.gr, h.mo, h.tx, ownG_sl h.ns, ownG_sl h.ks, h.sz, h.nz⟩
theorem NdO.below (h : NdO B w c x) (hb : Below w.heap.size w w') : NdO B w' c x := ⟨h.fo, h.ow, h.gr, h.mo, h.tx, ownG_below h.ns hb, ownG_below h.ks hb, h.sz, h.nz⟩
theorem NdO.mono (h : NdO B w c x) (hB : B' ≤ B) : NdO B' w c x := ⟨h.fo, h.ow, h.gr, h.mo, h.tx, ownG_mono h.ns hB, ownG_mono h.ks hB, h.sz, h.nz⟩
theorem NdO.kept {row : Option Nat} (h : NdO B w c x) (hg : w.grownBy w' row) (h1 : Sep (nB c) row) (h2 : Sep (kB c) row) : NdO B w' c x := ⟨h.fo, h.ow, h.gr, h.mo, h.tx, ownG_kept h.ns hg h1, ownG_kept h.ks hg h2, h.sz, h.nz⟩
/-- What is written into the row of the nodes, or into a new block, keeps the nodes' own rows. -/
theorem NdO.keptR (h : NdO B w c x) {ds : List Cn} (hv : OwnG EC 44 B' w v ds) (hg : w.grownBy w' v.ownBlock) : NdO B w' c x :=
  h.kept hg (ownG_type h.ns hv (by decide)) (ownG_type h.ks hv (by decide))
theorem TreeO.r (h : TreeO B w v t) : TreeR w v t := by
  obtain ⟨cs, h1, h2, h3, _⟩ := h
  exact ⟨cs, h1, ownG_sl h2, fun i c x hc hx => (h3 i c x hc hx).r⟩
theorem TreeC.below (h : TreeC B w v cs t) (hb : Below w.heap.size w w') : TreeC B w' v cs t := ⟨h.len, ownG_below h.row hb, fun i c x hc hx => (h.nds i c x hc hx).below hb, h.sep⟩
theorem TreeO.below (h : TreeO B w v t) (hb : Below w.heap.size w w') : TreeO B w' v t := ⟨_, h.choose_spec.below hb⟩
theorem TreeC.mono (h : TreeC B w v cs t) (hB : B' ≤ B) : TreeC B' w v cs t := ⟨h.len, ownG_mono h.row hB, fun i c x hc hx => (h.nds i c x hc hx).mono hB, h.sep⟩
theorem TreeO.mono (h : TreeO B w v t) (hB : B' ≤ B) : TreeO B' w v t := ⟨_, h.choose_spec.mono hB⟩
theorem TreeO.shape (h : TreeO B w v t) : ∃ A cap, v = .slice A t.length cap := h.r.shape
theorem treeC_empty (h : OwnG EC 44 B w v []) : TreeC B w v [] [] := ⟨rfl, h, fun i c x hc => by simp at hc, fun i j c d hc => by simp at hc⟩
/-- A node more behind all others. -/
theorem TreeC.push (h : TreeC B w v cs t) (hc : NdO B w c x) (hs : ∀ (j : Nat) d, cs[j]? = some d → Sep (nB c) (nB d) ∧ Sep (kB c) (kB d)) (ha : AppG EC 44 w B v (cs ++ [c]) v' w') : TreeC B w' v' (cs ++ [c]) (t ++ [x]) := by
  refine ⟨by simp [h.len], ha.1, fun i d y hd hy => ?_, fun i j d e hd he hij => ?_⟩
  · by_cases hi : i < cs.length
    · rw [List.getElem?_append_left hi] at hd
      rw [List.getElem?_append_left (by rw [← h.len]; exact hi)] at hy
      exact (h.nds i d y hd hy).keptR h.row ha.2.1
    · rw [List.getElem?_append_right (by omega)] at hd
      rw [List.getElem?_append_right (by rw [← h.len]; omega), ← h.len] at hy
      have h0 : i - cs.length = 0 := by
        have := (List.getElem?_eq_some_iff.1 hd).1
        simp at this; omega
      rw [h0] at hd hy
      simp at hd hy
      subst hd hy
      exact hc.keptR h.row ha.2.1
  · have cases1 : ∀ {k : Nat} {q : Cn}, (cs ++ [c])[k]? = some q → (k < cs.length ∧ cs[k]? = some q) ∨ (k = cs.length ∧ q = c) := by
      intro k q hq
      by_cases hk : k < cs.length
      · rw [List.getElem?_append_left hk] at hq; exact .inl ⟨hk, hq⟩
      · rw [List.getElem?_append_right (by omega)] at hq
        have h0 : k - cs.length = 0 := by
          have := (List.getElem?_eq_some_iff.1 hq).1
          simp at this; omega
        rw [h0] at hq
        simp at hq
        exact .inr ⟨by omega, hq.symm⟩
    rcases cases1 hd with ⟨k1, k2⟩ | ⟨k1, k2⟩ <;> rcases cases1 he with ⟨m1, m2⟩ | ⟨m1, m2⟩
    · exact h.sep i j d e k2 m2 hij
    · subst m2; exact ⟨(hs i d k2).1.symm, (hs i d k2).2.symm⟩
    · subst k2; exact hs j e m2
    · omega
/-- Node i is another one, whose rows lie apart; the world differs in the nodes' row alone. -/
theorem TreeC.swap {i : Nat} (h : TreeC B w v cs t) (hi : i < cs.length) (hrow : OwnG EC 44 B w' v (cs.set i c)) (hg : w.grownBy w' v.ownBlock) (hc : NdO B w c x) (hs : ∀ (j : Nat) d, j ≠ i → cs[j]? = some d → Sep (nB c) (nB d) ∧ Sep (kB c) (kB d)) : TreeC B w' v (cs.set i c) (t.set i x) := by
  refine ⟨by simp [h.len], hrow, fun k d y hd hy => ?_, fun a b d e hd he hab => ?_⟩
  · by_cases hk : i = k
    · subst hk
      rw [List.getElem?_set_self hi] at hd
      rw [List.getElem?_set_self (by rw [← h.len]; exact hi)] at hy
      injection hd with hd
      injection hy with hy
      subst hd hy
      exact hc.keptR h.row hg
    · rw [List.getElem?_set_ne hk] at hd hy
      exact (h.nds k d y hd hy).keptR h.row hg
  · by_cases ha : i = a
    · subst ha
      rw [List.getElem?_set_self hi] at hd
      injection hd with hd
      subst hd
      rw [List.getElem?_set_ne hab] at he
      exact hs b e (fun e => hab e.symm) he
    · rw [List.getElem?_set_ne ha] at hd
      by_cases hb : i = b
      · subst hb
        rw [List.getElem?_set_self hi] at he
        injection he with he
        subst he
        exact ⟨(hs a d (fun e => ha e.symm) hd).1.symm, (hs a d (fun e => ha e.symm) hd).2.symm⟩
      · rw [List.getElem?_set_ne hb] at he
        exact h.sep a b d e hd he hab
end
end Go.Proofs.YtkennmpbmbacpaaGreatDoor

namespace Go.Proofs.YtkennmpbmbacpaaGreatDoor
open Go.RowKit

/-- The paths from node n on, which lies at ps; d: how many names more a path may have. -/
def pathsF (t : List Nd) : Nat → Int → List (List UInt8) → List (List UInt8)
  | 0, _, ps => [joinP ps]
  | d + 1, n, ps => joinP ps :: (List.range (kth t n.toNat).ns.length).flatMap fun k => pathsF t d (nthK (kth t n.toNat) k) (ps ++ [nthN (kth t n.toNat) k])
def pathsOfF (t : List Nd) : List (List UInt8) := if treeB t = true then pathsF t 6 0 [] else []
theorem flat_le {α : Type} {f : Nat → List α} {n : Nat} {P : Nat} (h : ∀ k, k < n → (f k).length ≤ P) : ((List.range n).flatMap f).length ≤ n * P := by
  induction n with
  | zero => simp
  | succ n ih =>
    rw [List.range_succ, List.flatMap_append, List.length_append, Nat.succ_mul]
    have h1 := ih (fun k hk => h k (by omega))
    have h2 := h n (by omega)
    have h3 : (List.flatMap f [n]).length = (f n).length := by simp
    omega
theorem flat_part {α : Type} {f : Nat → List α} {n k : Nat} (h : k < n) : ((List.range k).flatMap f).length + (f k).length ≤ ((List.range n).flatMap f).length := by
  induction n with
  | zero => omega
  | succ n ih =>
    rw [List.range_succ, List.flatMap_append, List.length_append]
    by_cases hk : k = n
    · subst hk; simp
    · have := ih (by omega); omega
theorem flat_prefix {α : Type} {f : Nat → List α} {n k : Nat} (h : k ≤ n) : ((List.range k).flatMap f).length ≤ ((List.range n).flatMap f).length := by
  induction n with
  | zero => obtain rfl : k = 0 := by omega
            exact Nat.le_refl _
  | succ n ih =>
    by_cases hk : k = n + 1
    · subst hk; exact Nat.le_refl _
    · rw [List.range_succ, List.flatMap_append, List.length_append]; have := ih (by omega); omega
theorem flat_succ {α : Type} {f : Nat → List α} {k : Nat} : (List.range (k + 1)).flatMap f = (List.range k).flatMap f ++ f k := by
  rw [List.range_succ, List.flatMap_append]; simp
theorem two_pow (c P : Nat) (hP : 1 ≤ P) : 1 + c * P ≤ 2 ^ c * P := by
  have h : 1 + c ≤ 2 ^ c := by
    induction c with
    | zero => simp
    | succ c ih => rw [Nat.pow_succ]; omega
  calc 1 + c * P ≤ P + c * P := by omega
    _ = (1 + c) * P := by rw [Nat.add_mul, Nat.one_mul]
    _ ≤ 2 ^ c * P := Nat.mul_le_mul_right _ h
theorem kids_drop {t : List Nd} {n : Nat} (hn : n < t.length) : (kidsOf (t.drop n)).length = (kth t n).ks.length + (kidsOf (t.drop (n + 1))).length := by
  have h2 := kth_at hn
  rw [List.getElem?_eq_getElem hn] at h2
  injection h2 with h2
  rw [← List.getElem_cons_drop hn, h2]
  simp [kidsOf]
theorem kids_drop_le {t : List Nd} {n m : Nat} (h : n ≤ m) : (kidsOf (t.drop m)).length ≤ (kidsOf (t.drop n)).length := by
  induction m with
  | zero => obtain rfl : n = 0 := by omega
            exact Nat.le_refl _
  | succ m ih =>
    by_cases hk : n = m + 1
    · subst hk; exact Nat.le_refl _
    · have h1 := ih (by omega)
      by_cases hm : m < t.length
      · rw [kids_drop hm] at h1; omega
      · rw [List.drop_eq_nil_of_le (by omega)]; simp [kidsOf]
theorem file_names {many : Int} {x : Nd} (h : nodeB many x = true) (hf : x.fo = false) : x.ns = [] := by
  have h1 := (nodeB_iff.1 h).1
  unfold headB at h1
  simp only [Bool.and_eq_true, Bool.or_eq_true, decide_eq_true_eq] at h1
  rcases h1.2.2.2.2.1 with h | h
  · rw [hf] at h; cases h
  · exact List.length_eq_zero_iff.1 h
theorem kid_down {t : List Nd} (h : treeB t = true) {k j : Nat} (hk : k < t.length) (hj : j < (kth t k).ks.length) : 1 ≤ nthK (kth t k) j ∧ nthK (kth t k) j < (t.length : Int) ∧ ((kth t (nthK (kth t k) j).toNat).fo = true → (k : Int) < nthK (kth t k) j) := by
  have hr := (tree_all h).2.2.1 k hk
  unfold rowB at hr
  rw [Bool.and_eq_true, List.all_eq_true] at hr
  have hd := hr.2 j (List.mem_range.2 hj)
  have hn := (node_kids hr.1).2 j hj
  refine ⟨hn.1, by omega, fun hf => ?_⟩
  unfold downB at hd
  rw [hf] at hd
  simp at hd
  exact hd
theorem paths_len {t : List Nd} (h : treeB t = true) : ∀ (d n : Nat) (ps : List (List UInt8)), n < t.length → (pathsF t d (n : Int) ps).length ≤ 2 ^ (kidsOf (t.drop n)).length
  | 0, n, ps, _ => by simp [pathsF]; exact Nat.one_le_two_pow
  | d + 1, n, ps, hn => by
    have hks := head_len (nodeB_iff.1 (tree_node h hn)).1
    have hb : ∀ k, k < (kth t n).ns.length → (pathsF t d (nthK (kth t n) k) (ps ++ [nthN (kth t n) k])).length ≤ 2 ^ (kidsOf (t.drop (n + 1))).length := by
      intro k hk
      obtain ⟨z1, z2, z3⟩ := kid_down h hn (show k < (kth t n).ks.length by omega)
      have e : nthK (kth t n) k = ((nthK (kth t n) k).toNat : Int) := by omega
      cases hf : (kth t (nthK (kth t n) k).toNat).fo
      · have h0 := file_names (tree_node h (show (nthK (kth t n) k).toNat < t.length by omega)) hf
        cases d with
        | zero => simp [pathsF]; exact Nat.one_le_two_pow
        | succ d => simp only [pathsF, h0]; simp; exact Nat.one_le_two_pow
      · rw [e]
        have := paths_len h d (nthK (kth t n) k).toNat (ps ++ [nthN (kth t n) k]) (by omega)
        refine Nat.le_trans this (Nat.pow_le_pow_right (by decide) (kids_drop_le (by have := z3 hf; omega)))
    have h1 := flat_le hb
    simp only [pathsF, List.length_cons, Int.toNat_natCast]
    rw [kids_drop hn, Nat.pow_add, ← hks]
    have h2 := two_pow (kth t n).ns.length (2 ^ (kidsOf (t.drop (n + 1))).length) Nat.one_le_two_pow
    omega
theorem paths_ne (t : List Nd) (d : Nat) (n : Int) (ps : List (List UInt8)) : 1 ≤ (pathsF t d n ps).length := by
  cases d <;> simp [pathsF]
/-- All paths are short. -/
theorem joinL_len : ∀ (ws : List (List UInt8)), (∀ x ∈ ws, x.length ≤ 8) → (joinL ws).length ≤ 9 * ws.length
  | [], _ => by simp [joinL]
  | a :: r, h => by
    have h1 := joinL_len r (fun x hx => h x (List.mem_cons_of_mem _ hx))
    have h2 := h a List.mem_cons_self
    simp only [joinL, List.length_append, List.length_cons]
    omega
theorem nameB_len {x : List UInt8} (h : nameB x = true) : x.length ≤ 8 := by
  unfold nameB at h
  rw [Bool.and_eq_true] at h
  have := inB_iffL.1 h.2
  omega
theorem joinP_len (ws : List (List UInt8)) : (joinP ws).length ≤ 54 := by
  unfold joinP
  split
  · next h =>
    unfold namesB at h
    rw [Bool.and_eq_true, decide_eq_true_eq, List.all_eq_true] at h
    split
    · simp
    · have := joinL_len ws (fun x hx => nameB_len (h.2 x hx))
      omega
  · simp
theorem paths_short (t : List Nd) : ∀ (d : Nat) (n : Int) (ps : List (List UInt8)), ∀ x ∈ pathsF t d n ps, x.length ≤ 54
  | 0, n, ps, x, hx => by
    simp only [pathsF, List.mem_singleton] at hx
    rw [hx]; exact joinP_len ps
  | d + 1, n, ps, x, hx => by
    simp only [pathsF, List.mem_cons, List.mem_flatMap] at hx
    rcases hx with rfl | ⟨k, _, hx⟩
    · exact joinP_len ps
    · exact paths_short t d _ _ x hx
end Go.Proofs.YtkennmpbmbacpaaGreatDoor

namespace Go.Proofs.YtkennmpbmbacpaaGreatDoor
open Go.RowKit

set_option maxRecDepth 100000 in
set_option maxHeartbeats 8000000 in
theorem findS_of (v : Value) (t : List Nd) (a b c d : Int) (S : ByteArray) (w : World) (h : TreeR w v t) (ht : t.length ≤ 1000) (hkz : (kidsOf t).length ≤ 1000000) (hs : S.size ≤ 1048576) :
    Calls Tryz.prog 44 #[v, .agg #[.int .i64 a, .int .i64 b, .int .i64 c, .int .i64 d], .string S] w fun e w' => e = .returned (.tuple #[.int .i64 (findF t a b c d S.data.toList).1, .int .i64 (findF t a b c d S.data.toList).2]) ∧ Below w.heap.size w w' := by
  have h1 := fun w => pathPartsS_of S w hs
  generalize S.data.toList = s at h1 ⊢
  have hT := fun w h => treeS_of v t w h ht hkz
  have H := Lib.hid h
  have H1 := Lib.hid h1
  obtain ⟨A, cap, rfl⟩ := h.shape
  have HT := Lib.hid hT
  have hcap := h.caps
  clear h h1 hT
  rcases and3 (okP s) (treeB t) (credB a b c d) with g1 | ⟨g1, g2⟩ | ⟨g1, g2, g3⟩ | ⟨g1, g2, g3⟩
  · have hr : findF t a b c d s = (-1, 1) := by unfold findF; rw [g1]; rfl
    rw [hr]
    clear hr
    go_enter Tryz.func44, Tryz.ntmps44
    go_wp2_with fail
    refine (H1.out _).mono ?_
    rintro e w1 ⟨v1, rfl, o1, b1⟩
    rw [g1]
    have B1 := Lib.hid (Below.step b1 (by simp) (show Below w.heap.size w _ from (by (repeat (first | exact Below.refl _ _ | exact Hbl.out | refine Below.ext ?_ (by first | omega | (simp; omega) | simp) | refine Below.setCell ?_ (by first | omega | (simp; omega) | simp) _ | refine Below.alloc ?_ (by first | omega | (simp; omega) | simp) _ | refine Below.drew ?_ | refine below_drewN ?_ _ | refine Below.step (by assumption) (by first | omega | (simp; omega) | simp) ?_)))))
    clear b1 o1
    go_wp2
    go_ret2
    exact ⟨rfl, B1.out⟩
  · have hr : findF t a b c d s = (-1, 1) := by unfold findF; rw [g1, g2]; rfl
    rw [hr]
    clear hr
    rw [g2] at HT
    go_enter Tryz.func44, Tryz.ntmps44
    go_wp2_with fail
    refine (H1.out _).mono ?_
    rintro e w1 ⟨v1, rfl, o1, b1⟩
    rw [g1]
    have B1 := Lib.hid (Below.step b1 (by simp) (show Below w.heap.size w _ from (by (repeat (first | exact Below.refl _ _ | exact Hbl.out | refine Below.ext ?_ (by first | omega | (simp; omega) | simp) | refine Below.setCell ?_ (by first | omega | (simp; omega) | simp) _ | refine Below.alloc ?_ (by first | omega | (simp; omega) | simp) _ | refine Below.drew ?_ | refine below_drewN ?_ _ | refine Below.step (by assumption) (by first | omega | (simp; omega) | simp) ?_)))))
    clear b1 o1
    go_wp2_with fail
    refine (HT.out _ (H.out.below B1.out)).mono ?_
    rintro e w2 ⟨rfl, b2⟩
    go_wp2
    go_ret2
    exact ⟨rfl, Below.step b2 B1.out.size B1.out⟩
  · have hr : findF t a b c d s = (-1, 1) := by unfold findF; rw [g1, g2, g3]; rfl
    rw [hr]
    clear hr
    rw [g2] at HT
    go_enter Tryz.func44, Tryz.ntmps44
    go_wp2_with fail
    refine (H1.out _).mono ?_
    rintro e w1 ⟨v1, rfl, o1, b1⟩
    rw [g1]
    have p0 : w1.cell? ⟨w.heap.size, 0, none⟩ = some (.int .i64 a) := (b1.cell (p := ⟨w.heap.size, 0, none⟩) (by simp)).trans (by go_simp)
    have p1 : w1.cell? ⟨w.heap.size, 1, none⟩ = some (.int .i64 b) := (b1.cell (p := ⟨w.heap.size, 1, none⟩) (by simp)).trans (by go_simp)
    have p2 : w1.cell? ⟨w.heap.size, 2, none⟩ = some (.int .i64 c) := (b1.cell (p := ⟨w.heap.size, 2, none⟩) (by simp)).trans (by go_simp)
    have p3 : w1.cell? ⟨w.heap.size, 3, none⟩ = some (.int .i64 d) := (b1.cell (p := ⟨w.heap.size, 3, none⟩) (by simp)).trans (by go_simp)
    have hz1 : w.heap.size < w1.heap.size := by have := b1.size; simp at this; omega
    have B1 := Lib.hid (Below.step b1 (by simp) (show Below w.heap.size w _ from (by (repeat (first | exact Below.refl _ _ | exact Hbl.out | refine Below.ext ?_ (by first | omega | (simp; omega) | simp) | refine Below.setCell ?_ (by first | omega | (simp; omega) | simp) _ | refine Below.alloc ?_ (by first | omega | (simp; omega) | simp) _ | refine Below.drew ?_ | refine below_drewN ?_ _ | refine Below.step (by assumption) (by first | omega | (simp; omega) | simp) ?_)))))
    clear b1 o1
    go_wp2_with fail
    refine (HT.out _ (H.out.below B1.out)).mono ?_
    rintro e w2 ⟨rfl, b2⟩
    obtain ⟨d2, os2, rfl⟩ := ext_of_below b2
    clear b2
    go_wp2_with (go_at_call 79; refine (credS_any _ _ _ _ _).mono ?_; rintro e w' ⟨rfl, hb⟩; obtain ⟨d1, os1, rfl⟩ := ext_of_below hb; clear hb; rw [g3])
    go_ret2
    exact ⟨rfl, Below.step (show Below w1.heap.size w1 _ from (by (repeat (first | exact Below.refl _ _ | exact Hbl.out | refine Below.ext ?_ (by first | omega | (simp; omega) | simp) | refine Below.setCell ?_ (by first | omega | (simp; omega) | simp) _ | refine Below.alloc ?_ (by first | omega | (simp; omega) | simp) _ | refine Below.drew ?_ | refine below_drewN ?_ _ | refine Below.step (by assumption) (by first | omega | (simp; omega) | simp) ?_)))) B1.out.size B1.out⟩
  · obtain ⟨R, hR⟩ : ∃ R, R = findL t (runF a b c d) 0 (partsP s) := ⟨_, rfl⟩
    have hr : findF t a b c d s = R := by unfold findF; rw [g1, g2, g3, hR]; rfl
    rw [hr]
    obtain ⟨ps, hps⟩ : ∃ ps, ps = partsP s := ⟨_, rfl⟩
    have h6 := partsP_len s
    rw [← hps] at hR h6
    have HR := Lib.hid hR
    have Hps := Lib.hid hps
    have Hkr := Lib.hid (fun (k : Nat) (hk : k < t.length) s => kid_range g2 hk s)
    have hlt0 : 0 < t.length := by have := inB_iffL.1 (tree_all g2).1; omega
    have Hsn := Lib.hid (fun (k : Nat) (hk : k < t.length) => head_ks (tree_node g2 hk))
    rw [g2] at HT
    clear hr hR hps
    go_enter Tryz.func44, Tryz.ntmps44
    go_wp2_with fail
    refine (H1.out _).mono ?_
    rintro e w1 ⟨v1, rfl, o1, b1⟩
    rw [g1]
    rw [← Hps.out] at o1
    have p0 : w1.cell? ⟨w.heap.size, 0, none⟩ = some (.int .i64 a) := (b1.cell (p := ⟨w.heap.size, 0, none⟩) (by simp)).trans (by go_simp)
    have p1 : w1.cell? ⟨w.heap.size, 1, none⟩ = some (.int .i64 b) := (b1.cell (p := ⟨w.heap.size, 1, none⟩) (by simp)).trans (by go_simp)
    have p2 : w1.cell? ⟨w.heap.size, 2, none⟩ = some (.int .i64 c) := (b1.cell (p := ⟨w.heap.size, 2, none⟩) (by simp)).trans (by go_simp)
    have p3 : w1.cell? ⟨w.heap.size, 3, none⟩ = some (.int .i64 d) := (b1.cell (p := ⟨w.heap.size, 3, none⟩) (by simp)).trans (by go_simp)
    have hz1 : w.heap.size < w1.heap.size := by have := b1.size; simp at this; omega
    have B1 := Lib.hid (Below.step b1 (by simp) (show Below w.heap.size w _ from (by (repeat (first | exact Below.refl _ _ | exact Hbl.out | refine Below.ext ?_ (by first | omega | (simp; omega) | simp) | refine Below.setCell ?_ (by first | omega | (simp; omega) | simp) _ | refine Below.alloc ?_ (by first | omega | (simp; omega) | simp) _ | refine Below.drew ?_ | refine below_drewN ?_ _ | refine Below.step (by assumption) (by first | omega | (simp; omega) | simp) ?_)))))
    have S1 := Lib.hid (ownS_sl o1)
    obtain ⟨A1, c1, rfl⟩ := own_valm o1
    clear b1 o1
    go_wp2_with fail
    refine (HT.out _ (H.out.below B1.out)).mono ?_
    rintro e w2 ⟨rfl, b2⟩
    obtain ⟨d2, os2, rfl⟩ := ext_of_below b2
    clear b2
    go_wp2_with (go_at_call 79; refine (credS_any _ _ _ _ _).mono ?_; rintro e w' ⟨rfl, hb⟩; obtain ⟨d1, os1, rfl⟩ := ext_of_below hb; clear hb; rw [g3])
    obtain ⟨bt, ot, nA0, nC0, kA0, kC0, rfl, hbt, _, _⟩ := H.out.at_ (kth_at hlt0)
    go_loopw [10, 11] (fun at_ i wr => ∃ (k m : Nat), k ≤ ps.length ∧ at_ = .int .i64 m ∧ i = .int .i64 k ∧ m < t.length ∧ findL t (runF a b c d) (m : Int) (ps.drop k) = R ∧ Below w1.heap.size w1 wr) (fun _ i _ => ps.length - (intOf i).toNat)
    case atStart => exact ⟨0, 0, Nat.zero_le _, rfl, rfl, hlt0, HR.out.symm, (by (repeat (first | exact Below.refl _ _ | exact Hbl.out | refine Below.ext ?_ (by first | omega | (simp; omega) | simp) | refine Below.setCell ?_ (by first | omega | (simp; omega) | simp) _ | refine Below.alloc ?_ (by first | omega | (simp; omega) | simp) _ | refine Below.drew ?_ | refine below_drewN ?_ _ | refine Below.step (by assumption) (by first | omega | (simp; omega) | simp) ?_)))⟩
    case round =>
      obtain ⟨k, m, hk, rfl, rfl, hm, hfl, hB⟩ := hrel
      have HB := Lib.hid hB
      have hzr := hB.size
      have q0 := (hB.cell (p := ⟨w.heap.size, 0, none⟩) hz1).trans p0
      have q1 := (hB.cell (p := ⟨w.heap.size, 1, none⟩) hz1).trans p1
      have q2 := (hB.cell (p := ⟨w.heap.size, 2, none⟩) hz1).trans p2
      have q3 := (hB.cell (p := ⟨w.heap.size, 3, none⟩) hz1).trans p3
      have hzw : w.heap.size < wr.heap.size := by omega
      by_cases hlt : k < ps.length
      · rw [drop_getD hlt] at hfl
        obtain ⟨bp, op, rfl, hbp, cw⟩ := slS_at (S1.out.below hB) hlt
        have hTr := H.out.below (Below.step hB (by omega) B1.out)
        obtain ⟨bt', ot', nA, nC, kA, kC, ee, hbt', hS, y0, y1, y2, y3, y4, y5, y6⟩ := hTr.at_ (kth_at hm)
        cases ee
        have HS := Lib.hid hS
        have hns := Hsn.out m hm
        have Hns := Lib.hid hns
        have hm' : (m : Int) < (t.length : Int) := by omega
        have hk' : (k : Int) < (ps.length : Int) := by omega
        obtain ⟨p, hp⟩ : ∃ p, p = ps.getD k [] := ⟨_, rfl⟩
        rw [← hp] at cw hfl
        have hkr := Hkr.out m hm p
        simp only [findL, Int.toNat_natCast] at hfl
        clear hB hTr hS hns hp
        cases hfo : (kth t m).fo
        · rw [hfo] at y0 hfl
          rw [if_pos rfl] at hfl
          have Hfl := Lib.hid hfl
          clear hfl
          go_wp2
          go_ret2
          exact ⟨by rw [← Hfl.out]; rfl, Below.step HB.out (by omega) B1.out⟩
        · rw [hfo] at y0 hfl
          rw [if_neg (by simp)] at hfl
          cases hmay : runF a b c d (kth t m)
          · rw [hmay, if_pos rfl] at hfl
            have Hfl := Lib.hid hfl
            have hmay' : mayF a b c d (kth t m).ow (kth t m).gr (kth t m).mo 1 = false := hmay
            have Hmay := Lib.hid (fun w nA nL nC kA kL kC => l7May_any a b c d 1 (kth t m) nA nL nC kA kL kC w)
            rw [hmay', hfo] at Hmay
            clear hfl hmay hmay'
            go_wp2_with fail
            go_region_held3 (fun w' => w'.cell? ⟨w.heap.size, 0, none⟩ = some (.int .i64 a) ∧ w'.cell? ⟨w.heap.size, 1, none⟩ = some (.int .i64 b) ∧ w'.cell? ⟨w.heap.size, 2, none⟩ = some (.int .i64 c) ∧ w'.cell? ⟨w.heap.size, 3, none⟩ = some (.int .i64 d) ∧ w'.cell? ⟨bt, ot + m * 7, none⟩ = some (.bool true) ∧ w'.cell? ⟨bt, ot + m * 7 + 1, none⟩ = some (.int .i64 (kth t m).ow) ∧ w'.cell? ⟨bt, ot + m * 7 + 2, none⟩ = some (.int .i64 (kth t m).gr) ∧ w'.cell? ⟨bt, ot + m * 7 + 3, none⟩ = some (.int .i64 (kth t m).mo) ∧ w'.cell? ⟨bt, ot + m * 7 + 4, none⟩ = some (.string (kth t m).tx) ∧ w'.cell? ⟨bt, ot + m * 7 + 5, none⟩ = some (.slice nA (kth t m).ns.length nC) ∧ w'.cell? ⟨bt, ot + m * 7 + 6, none⟩ = some (.slice kA (kth t m).ks.length kC)) (first | assumption | (go_simp; done) | fail) (first | (go_at_call 92; refine (Hmay.out _ _ _ _ _ _ _).mono ?_; rintro e w' ⟨rfl, hb⟩; obtain ⟨d4, os4, rfl⟩ := ext_of_below hb; clear hb))
            all_goals
              go_wp2
              go_ret2
              exact ⟨by rw [← Hfl.out]; rfl, Below.step (show Below w1.heap.size w1 _ from Below.step (show Below wr.heap.size wr _ from (by (repeat (first | exact Below.refl _ _ | exact Hbl.out | refine Below.ext ?_ (by first | omega | (simp; omega) | simp) | refine Below.setCell ?_ (by first | omega | (simp; omega) | simp) _ | refine Below.alloc ?_ (by first | omega | (simp; omega) | simp) _ | refine Below.drew ?_ | refine below_drewN ?_ _ | refine Below.step (by assumption) (by first | omega | (simp; omega) | simp) ?_)))) hzr HB.out) (by omega) B1.out⟩
          · rw [hmay, if_neg (by simp)] at hfl
            have hmay' : mayF a b c d (kth t m).ow (kth t m).gr (kth t m).mo 1 = true := hmay
            have Hmay := Lib.hid (fun w nA nL nC kA kL kC => l7May_any a b c d 1 (kth t m) nA nL nC kA kL kC w)
            have Hkid := Lib.hid (fun w h => kidS_of nA nC kA kC (kth t m) p w h Hns.out)
            rw [hmay', hfo] at Hmay
            rw [hfo] at Hkid
            clear hmay hmay'
            generalize kidF (kth t m) p = z at hfl hkr Hkid
            by_cases hz : z < 0
            · rw [if_pos hz] at hfl
              have Hfl := Lib.hid hfl
              clear hfl hkr
              go_wp2_with fail
              go_region_held3 (fun w' => w'.cell? ⟨w.heap.size, 0, none⟩ = some (.int .i64 a) ∧ w'.cell? ⟨w.heap.size, 1, none⟩ = some (.int .i64 b) ∧ w'.cell? ⟨w.heap.size, 2, none⟩ = some (.int .i64 c) ∧ w'.cell? ⟨w.heap.size, 3, none⟩ = some (.int .i64 d) ∧ w'.cell? ⟨bt, ot + m * 7, none⟩ = some (.bool true) ∧ w'.cell? ⟨bt, ot + m * 7 + 1, none⟩ = some (.int .i64 (kth t m).ow) ∧ w'.cell? ⟨bt, ot + m * 7 + 2, none⟩ = some (.int .i64 (kth t m).gr) ∧ w'.cell? ⟨bt, ot + m * 7 + 3, none⟩ = some (.int .i64 (kth t m).mo) ∧ w'.cell? ⟨bt, ot + m * 7 + 4, none⟩ = some (.string (kth t m).tx) ∧ w'.cell? ⟨bt, ot + m * 7 + 5, none⟩ = some (.slice nA (kth t m).ns.length nC) ∧ w'.cell? ⟨bt, ot + m * 7 + 6, none⟩ = some (.slice kA (kth t m).ks.length kC)) (first | assumption | (go_simp; done) | fail) (first | (go_at_call 92; refine (Hmay.out _ _ _ _ _ _ _).mono ?_; rintro e w' ⟨rfl, hb⟩; obtain ⟨d4, os4, rfl⟩ := ext_of_below hb; clear hb))
              all_goals
                go_wp2_with fail
                go_region_held3 (fun w' => w'.cell? ⟨bp, op + k, none⟩ = some (.string (mk p)) ∧ w'.cell? ⟨bt, ot + m * 7, none⟩ = some (.bool true) ∧ w'.cell? ⟨bt, ot + m * 7 + 1, none⟩ = some (.int .i64 (kth t m).ow) ∧ w'.cell? ⟨bt, ot + m * 7 + 2, none⟩ = some (.int .i64 (kth t m).gr) ∧ w'.cell? ⟨bt, ot + m * 7 + 3, none⟩ = some (.int .i64 (kth t m).mo) ∧ w'.cell? ⟨bt, ot + m * 7 + 4, none⟩ = some (.string (kth t m).tx) ∧ w'.cell? ⟨bt, ot + m * 7 + 5, none⟩ = some (.slice nA (kth t m).ns.length nC) ∧ w'.cell? ⟨bt, ot + m * 7 + 6, none⟩ = some (.slice kA (kth t m).ks.length kC)) (first | assumption | (go_simp; done) | fail) (first | (go_at_call 87; refine (Hkid.out _ (HS.out.below (by (repeat (first | exact Below.refl _ _ | exact Hbl.out | refine Below.ext ?_ (by first | omega | (simp; omega) | simp) | refine Below.setCell ?_ (by first | omega | (simp; omega) | simp) _ | refine Below.alloc ?_ (by first | omega | (simp; omega) | simp) _ | refine Below.drew ?_ | refine below_drewN ?_ _ | refine Below.step (by assumption) (by first | omega | (simp; omega) | simp) ?_))))).mono ?_; rintro e w' ⟨rfl, hb⟩; obtain ⟨d5, os5, rfl⟩ := ext_of_below hb; clear hb))
                all_goals
                  go_wp2
                  go_ret2
                  exact ⟨by rw [← Hfl.out]; rfl, Below.step (show Below w1.heap.size w1 _ from Below.step (show Below wr.heap.size wr _ from (by (repeat (first | exact Below.refl _ _ | exact Hbl.out | refine Below.ext ?_ (by first | omega | (simp; omega) | simp) | refine Below.setCell ?_ (by first | omega | (simp; omega) | simp) _ | refine Below.alloc ?_ (by first | omega | (simp; omega) | simp) _ | refine Below.drew ?_ | refine below_drewN ?_ _ | refine Below.step (by assumption) (by first | omega | (simp; omega) | simp) ?_)))) hzr HB.out) (by omega) B1.out⟩
            · rw [if_neg hz] at hfl
              have hz2 : z < (t.length : Int) := by omega
              obtain ⟨m', rfl⟩ : ∃ m' : Nat, z = (m' : Int) := ⟨z.toNat, by omega⟩
              have Hfl := Lib.hid hfl
              clear hfl hkr
              go_wp2_with fail
              go_region_held3 (fun w' => w'.cell? ⟨w.heap.size, 0, none⟩ = some (.int .i64 a) ∧ w'.cell? ⟨w.heap.size, 1, none⟩ = some (.int .i64 b) ∧ w'.cell? ⟨w.heap.size, 2, none⟩ = some (.int .i64 c) ∧ w'.cell? ⟨w.heap.size, 3, none⟩ = some (.int .i64 d) ∧ w'.cell? ⟨bt, ot + m * 7, none⟩ = some (.bool true) ∧ w'.cell? ⟨bt, ot + m * 7 + 1, none⟩ = some (.int .i64 (kth t m).ow) ∧ w'.cell? ⟨bt, ot + m * 7 + 2, none⟩ = some (.int .i64 (kth t m).gr) ∧ w'.cell? ⟨bt, ot + m * 7 + 3, none⟩ = some (.int .i64 (kth t m).mo) ∧ w'.cell? ⟨bt, ot + m * 7 + 4, none⟩ = some (.string (kth t m).tx) ∧ w'.cell? ⟨bt, ot + m * 7 + 5, none⟩ = some (.slice nA (kth t m).ns.length nC) ∧ w'.cell? ⟨bt, ot + m * 7 + 6, none⟩ = some (.slice kA (kth t m).ks.length kC)) (first | assumption | (go_simp; done) | fail) (first | (go_at_call 92; refine (Hmay.out _ _ _ _ _ _ _).mono ?_; rintro e w' ⟨rfl, hb⟩; obtain ⟨d4, os4, rfl⟩ := ext_of_below hb; clear hb))
              all_goals
                go_wp2_with fail
                go_region_held3 (fun w' => w'.cell? ⟨bp, op + k, none⟩ = some (.string (mk p)) ∧ w'.cell? ⟨bt, ot + m * 7, none⟩ = some (.bool true) ∧ w'.cell? ⟨bt, ot + m * 7 + 1, none⟩ = some (.int .i64 (kth t m).ow) ∧ w'.cell? ⟨bt, ot + m * 7 + 2, none⟩ = some (.int .i64 (kth t m).gr) ∧ w'.cell? ⟨bt, ot + m * 7 + 3, none⟩ = some (.int .i64 (kth t m).mo) ∧ w'.cell? ⟨bt, ot + m * 7 + 4, none⟩ = some (.string (kth t m).tx) ∧ w'.cell? ⟨bt, ot + m * 7 + 5, none⟩ = some (.slice nA (kth t m).ns.length nC) ∧ w'.cell? ⟨bt, ot + m * 7 + 6, none⟩ = some (.slice kA (kth t m).ks.length kC)) (first | assumption | (go_simp; done) | fail) (first | (go_at_call 87; refine (Hkid.out _ (HS.out.below (by (repeat (first | exact Below.refl _ _ | exact Hbl.out | refine Below.ext ?_ (by first | omega | (simp; omega) | simp) | refine Below.setCell ?_ (by first | omega | (simp; omega) | simp) _ | refine Below.alloc ?_ (by first | omega | (simp; omega) | simp) _ | refine Below.drew ?_ | refine below_drewN ?_ _ | refine Below.step (by assumption) (by first | omega | (simp; omega) | simp) ?_))))).mono ?_; rintro e w' ⟨rfl, hb⟩; obtain ⟨d5, os5, rfl⟩ := ext_of_below hb; clear hb))
                all_goals
                  go_wp2
                  go_roundw
                  case rel => exact ⟨k + 1, m', hlt, by go_num, by go_num, by omega, Hfl.out, Below.step (show Below wr.heap.size wr _ from (by (repeat (first | exact Below.refl _ _ | exact Hbl.out | refine Below.ext ?_ (by first | omega | (simp; omega) | simp) | refine Below.setCell ?_ (by first | omega | (simp; omega) | simp) _ | refine Below.alloc ?_ (by first | omega | (simp; omega) | simp) _ | refine Below.drew ?_ | refine below_drewN ?_ _ | refine Below.step (by assumption) (by first | omega | (simp; omega) | simp) ?_)))) hzr HB.out⟩
                  case measure => simp [intOf]; omega
      · have hk' : k = ps.length := by omega
        subst hk'
        rw [List.drop_length] at hfl
        have Hfl := Lib.hid hfl
        clear hfl hB
        go_wp2
        go_ret2
        exact ⟨by rw [← Hfl.out]; rfl, Below.step HB.out (by omega) B1.out⟩
end Go.Proofs.YtkennmpbmbacpaaGreatDoor

namespace Go.Proofs.YtkennmpbmbacpaaGreatDoor
open Go.RowKit

theorem aboveF_len (s : List UInt8) : (aboveF s).length ≤ 54 := by
  by_cases h : okP s = false ∨ partsP s = []
  · rw [(above_no h).1]; simp
  · have h1 : okP s = true := by cases hh : okP s; exact absurd (.inl hh) h; rfl
    rw [(above_yes h1 (fun e => h (.inr e))).1]; exact joinP_len _
theorem findS_mk (v : Value) (t : List Nd) (a b c d : Int) (s : List UInt8) (w : World) (h : TreeR w v t) (ht : t.length ≤ 1000) (hkz : (kidsOf t).length ≤ 1000000) (hs : s.length ≤ 1048576) :
    Calls Tryz.prog 44 #[v, .agg #[.int .i64 a, .int .i64 b, .int .i64 c, .int .i64 d], .string (mk s)] w fun e w' => e = .returned (.tuple #[.int .i64 (findF t a b c d s).1, .int .i64 (findF t a b c d s).2]) ∧ Below w.heap.size w w' := by
  have := findS_of v t a b c d (mk s) w h ht hkz (by rw [mk_size]; exact hs)
  rwa [mk_data] at this
set_option maxRecDepth 100000 in
set_option maxHeartbeats 8000000 in
theorem placeS_of (v : Value) (t : List Nd) (a b c d : Int) (S : ByteArray) (w : World) (h : TreeR w v t) (ht : t.length ≤ 1000) (hkz : (kidsOf t).length ≤ 1000000) (hs : S.size ≤ 1048576) :
    Calls Tryz.prog 69 #[v, .agg #[.int .i64 a, .int .i64 b, .int .i64 c, .int .i64 d], .string S] w fun e w' => e = .returned (.tuple #[.int .i64 (placeF t a b c d S.data.toList).1, .int .i64 (placeF t a b c d S.data.toList).2]) ∧ Below w.heap.size w w' := by
  have h1 := fun w => aboveS_of S w hs
  generalize S.data.toList = s at h1 ⊢
  have hF := fun w h => findS_mk v t a b c d (aboveF s) w h ht hkz (by have := aboveF_len s; omega)
  have hrg := @findF_range t a b c d (aboveF s)
  obtain ⟨R, hR⟩ : ∃ R, R = placeF t a b c d s := ⟨_, rfl⟩
  rw [← hR]
  unfold placeF at hR
  generalize findF t a b c d (aboveF s) = F at hF hrg hR
  obtain ⟨n, f⟩ := F
  simp only at hF hrg hR
  unfold AbvGot at h1
  generalize aboveOk s = ok at h1 hR
  generalize aboveF s = sa at h1 hF hrg hR
  generalize lastF s = sl at h1 hR
  have HR := Lib.hid hR
  clear hR
  have H := Lib.hid h
  have H1 := Lib.hid h1
  have HF := Lib.hid hF
  obtain ⟨A, cap, rfl⟩ := h.shape
  have hcap := h.caps
  clear h h1 hF
  go_enter Tryz.func69, Tryz.ntmps69
  go_wp2_with fail
  refine (H1.out _).mono ?_
  rintro e w1 ⟨rfl, b1⟩
  obtain ⟨d1, os1, rfl⟩ := ext_of_below b1
  clear b1
  go_wp2_with fail
  refine (HF.out _ (H.out.below (by (repeat (first | exact Below.refl _ _ | exact Hbl.out | refine Below.ext ?_ (by first | omega | (simp; omega) | simp) | refine Below.setCell ?_ (by first | omega | (simp; omega) | simp) _ | refine Below.alloc ?_ (by first | omega | (simp; omega) | simp) _ | refine Below.drew ?_ | refine below_drewN ?_ _ | refine Below.step (by assumption) (by first | omega | (simp; omega) | simp) ?_))))).mono ?_
  rintro e w2 ⟨rfl, b2⟩
  have q0 : w2.cell? ⟨w.heap.size, 0, none⟩ = some (.int .i64 a) := (b2.cell (p := ⟨w.heap.size, 0, none⟩) (by simp; omega)).trans (by go_simp)
  have q1 : w2.cell? ⟨w.heap.size, 1, none⟩ = some (.int .i64 b) := (b2.cell (p := ⟨w.heap.size, 1, none⟩) (by simp; omega)).trans (by go_simp)
  have q2 : w2.cell? ⟨w.heap.size, 2, none⟩ = some (.int .i64 c) := (b2.cell (p := ⟨w.heap.size, 2, none⟩) (by simp; omega)).trans (by go_simp)
  have q3 : w2.cell? ⟨w.heap.size, 3, none⟩ = some (.int .i64 d) := (b2.cell (p := ⟨w.heap.size, 3, none⟩) (by simp; omega)).trans (by go_simp)
  have hzw : w.heap.size < w2.heap.size := by have := b2.size; simp at this; omega
  have B2 := Lib.hid (Below.step b2 (by simp; omega) (show Below w.heap.size w _ from (by (repeat (first | exact Below.refl _ _ | exact Hbl.out | refine Below.ext ?_ (by first | omega | (simp; omega) | simp) | refine Below.setCell ?_ (by first | omega | (simp; omega) | simp) _ | refine Below.alloc ?_ (by first | omega | (simp; omega) | simp) _ | refine Below.drew ?_ | refine below_drewN ?_ _ | refine Below.step (by assumption) (by first | omega | (simp; omega) | simp) ?_)))))
  clear b2
  cases ok
  · have Hr : Hid (R = (-1, 1)) := by rw [HR.out]; exact rfl
    clear HR
    go_wp2
    go_ret2
    exact ⟨by rw [Hr.out]; rfl, B2.out⟩
  · by_cases hf : f = 0
    · subst hf
      obtain ⟨g1, _, _, g4, g5⟩ := hrg rfl
      obtain ⟨m, rfl⟩ : ∃ m : Nat, n = (m : Int) := ⟨n.toNat, by omega⟩
      have hm : m < t.length := by omega
      have Hns := Lib.hid (head_ks (tree_node g1 hm))
      have hTr := H.out.below B2.out
      obtain ⟨bt, ot, nA, nC, kA, kC, rfl, hbt, hS, y0, y1, y2, y3, y4, y5, y6⟩ := hTr.at_ (kth_at hm)
      have HS := Lib.hid hS
      have hR := HR.out
      simp only [Int.toNat_natCast] at hR
      rw [if_neg (by simp), if_neg (by simp)] at hR
      clear hTr hS hrg g1 HR
      cases hfo : (kth t m).fo
      · rw [hfo] at y0 hR
        rw [if_pos rfl] at hR
        have Hr := Lib.hid hR
        clear hR
        go_wp2
        go_ret2
        exact ⟨by rw [Hr.out]; rfl, B2.out⟩
      · rw [hfo] at y0 hR
        rw [if_neg (by simp)] at hR
        have Hmay := Lib.hid (fun w nA nL nC kA kL kC => l7May_any a b c d 3 (kth t m) nA nL nC kA kL kC w)
        have Hkid := Lib.hid (fun w h => kidS_of nA nC kA kC (kth t m) sl w h Hns.out)
        rw [hfo] at Hkid Hmay
        generalize mayF a b c d (kth t m).ow (kth t m).gr (kth t m).mo 3 = may at Hmay hR
        obtain ⟨z, hz0⟩ : ∃ z, z = kidF (kth t m) sl := ⟨_, rfl⟩
        simp only [← hz0] at Hkid hR
        clear hz0
        cases may
        · rw [if_pos rfl] at hR
          have Hr := Lib.hid hR
          clear hR
          go_wp2_with fail
          go_region_held3 (fun w' => w'.cell? ⟨w.heap.size, 0, none⟩ = some (.int .i64 a) ∧ w'.cell? ⟨w.heap.size, 1, none⟩ = some (.int .i64 b) ∧ w'.cell? ⟨w.heap.size, 2, none⟩ = some (.int .i64 c) ∧ w'.cell? ⟨w.heap.size, 3, none⟩ = some (.int .i64 d) ∧ w'.cell? ⟨bt, ot + m * 7, none⟩ = some (.bool true) ∧ w'.cell? ⟨bt, ot + m * 7 + 1, none⟩ = some (.int .i64 (kth t m).ow) ∧ w'.cell? ⟨bt, ot + m * 7 + 2, none⟩ = some (.int .i64 (kth t m).gr) ∧ w'.cell? ⟨bt, ot + m * 7 + 3, none⟩ = some (.int .i64 (kth t m).mo) ∧ w'.cell? ⟨bt, ot + m * 7 + 4, none⟩ = some (.string (kth t m).tx) ∧ w'.cell? ⟨bt, ot + m * 7 + 5, none⟩ = some (.slice nA (kth t m).ns.length nC) ∧ w'.cell? ⟨bt, ot + m * 7 + 6, none⟩ = some (.slice kA (kth t m).ks.length kC)) (first | assumption | (go_simp; done) | fail) (first | (go_at_call 92; refine (Hmay.out _ _ _ _ _ _ _).mono ?_; rintro e w' ⟨rfl, hb⟩; obtain ⟨d4, os4, rfl⟩ := ext_of_below hb; clear hb))
          all_goals
            go_wp2
            go_ret2
            exact ⟨by rw [Hr.out]; rfl, Below.step (show Below w2.heap.size w2 _ from (by (repeat (first | exact Below.refl _ _ | exact Hbl.out | refine Below.ext ?_ (by first | omega | (simp; omega) | simp) | refine Below.setCell ?_ (by first | omega | (simp; omega) | simp) _ | refine Below.alloc ?_ (by first | omega | (simp; omega) | simp) _ | refine Below.drew ?_ | refine below_drewN ?_ _ | refine Below.step (by assumption) (by first | omega | (simp; omega) | simp) ?_)))) B2.out.size B2.out⟩
        · rw [if_neg (by simp)] at hR
          by_cases hz : 0 ≤ z
          · rw [if_pos hz] at hR
            have Hr := Lib.hid hR
            clear hR
            go_wp2_with fail
            go_region_held3 (fun w' => w'.cell? ⟨w.heap.size, 0, none⟩ = some (.int .i64 a) ∧ w'.cell? ⟨w.heap.size, 1, none⟩ = some (.int .i64 b) ∧ w'.cell? ⟨w.heap.size, 2, none⟩ = some (.int .i64 c) ∧ w'.cell? ⟨w.heap.size, 3, none⟩ = some (.int .i64 d) ∧ w'.cell? ⟨bt, ot + m * 7, none⟩ = some (.bool true) ∧ w'.cell? ⟨bt, ot + m * 7 + 1, none⟩ = some (.int .i64 (kth t m).ow) ∧ w'.cell? ⟨bt, ot + m * 7 + 2, none⟩ = some (.int .i64 (kth t m).gr) ∧ w'.cell? ⟨bt, ot + m * 7 + 3, none⟩ = some (.int .i64 (kth t m).mo) ∧ w'.cell? ⟨bt, ot + m * 7 + 4, none⟩ = some (.string (kth t m).tx) ∧ w'.cell? ⟨bt, ot + m * 7 + 5, none⟩ = some (.slice nA (kth t m).ns.length nC) ∧ w'.cell? ⟨bt, ot + m * 7 + 6, none⟩ = some (.slice kA (kth t m).ks.length kC)) (first | assumption | (go_simp; done) | fail) (first | (go_at_call 92; refine (Hmay.out _ _ _ _ _ _ _).mono ?_; rintro e w' ⟨rfl, hb⟩; obtain ⟨d4, os4, rfl⟩ := ext_of_below hb; clear hb))
            all_goals
              go_wp2_with fail
              refine (Hkid.out _ (HS.out.below (by (repeat (first | exact Below.refl _ _ | exact Hbl.out | refine Below.ext ?_ (by first | omega | (simp; omega) | simp) | refine Below.setCell ?_ (by first | omega | (simp; omega) | simp) _ | refine Below.alloc ?_ (by first | omega | (simp; omega) | simp) _ | refine Below.drew ?_ | refine below_drewN ?_ _ | refine Below.step (by assumption) (by first | omega | (simp; omega) | simp) ?_))))).mono ?_
              rintro e w' ⟨rfl, hb⟩
              obtain ⟨d5, os5, rfl⟩ := ext_of_below hb
              clear hb
              go_wp2
              go_ret2
              exact ⟨by rw [Hr.out]; rfl, Below.step (show Below w2.heap.size w2 _ from (by (repeat (first | exact Below.refl _ _ | exact Hbl.out | refine Below.ext ?_ (by first | omega | (simp; omega) | simp) | refine Below.setCell ?_ (by first | omega | (simp; omega) | simp) _ | refine Below.alloc ?_ (by first | omega | (simp; omega) | simp) _ | refine Below.drew ?_ | refine below_drewN ?_ _ | refine Below.step (by assumption) (by first | omega | (simp; omega) | simp) ?_)))) B2.out.size B2.out⟩
          · rw [if_neg hz] at hR
            have Hr := Lib.hid hR
            clear hR
            go_wp2_with fail
            go_region_held3 (fun w' => w'.cell? ⟨w.heap.size, 0, none⟩ = some (.int .i64 a) ∧ w'.cell? ⟨w.heap.size, 1, none⟩ = some (.int .i64 b) ∧ w'.cell? ⟨w.heap.size, 2, none⟩ = some (.int .i64 c) ∧ w'.cell? ⟨w.heap.size, 3, none⟩ = some (.int .i64 d) ∧ w'.cell? ⟨bt, ot + m * 7, none⟩ = some (.bool true) ∧ w'.cell? ⟨bt, ot + m * 7 + 1, none⟩ = some (.int .i64 (kth t m).ow) ∧ w'.cell? ⟨bt, ot + m * 7 + 2, none⟩ = some (.int .i64 (kth t m).gr) ∧ w'.cell? ⟨bt, ot + m * 7 + 3, none⟩ = some (.int .i64 (kth t m).mo) ∧ w'.cell? ⟨bt, ot + m * 7 + 4, none⟩ = some (.string (kth t m).tx) ∧ w'.cell? ⟨bt, ot + m * 7 + 5, none⟩ = some (.slice nA (kth t m).ns.length nC) ∧ w'.cell? ⟨bt, ot + m * 7 + 6, none⟩ = some (.slice kA (kth t m).ks.length kC)) (first | assumption | (go_simp; done) | fail) (first | (go_at_call 92; refine (Hmay.out _ _ _ _ _ _ _).mono ?_; rintro e w' ⟨rfl, hb⟩; obtain ⟨d4, os4, rfl⟩ := ext_of_below hb; clear hb))
            all_goals
              go_wp2_with fail
              refine (Hkid.out _ (HS.out.below (by (repeat (first | exact Below.refl _ _ | exact Hbl.out | refine Below.ext ?_ (by first | omega | (simp; omega) | simp) | refine Below.setCell ?_ (by first | omega | (simp; omega) | simp) _ | refine Below.alloc ?_ (by first | omega | (simp; omega) | simp) _ | refine Below.drew ?_ | refine below_drewN ?_ _ | refine Below.step (by assumption) (by first | omega | (simp; omega) | simp) ?_))))).mono ?_
              rintro e w' ⟨rfl, hb⟩
              obtain ⟨d5, os5, rfl⟩ := ext_of_below hb
              clear hb
              go_wp2
              go_ret2
              exact ⟨by rw [Hr.out]; rfl, Below.step (show Below w2.heap.size w2 _ from (by (repeat (first | exact Below.refl _ _ | exact Hbl.out | refine Below.ext ?_ (by first | omega | (simp; omega) | simp) | refine Below.setCell ?_ (by first | omega | (simp; omega) | simp) _ | refine Below.alloc ?_ (by first | omega | (simp; omega) | simp) _ | refine Below.drew ?_ | refine below_drewN ?_ _ | refine Below.step (by assumption) (by first | omega | (simp; omega) | simp) ?_)))) B2.out.size B2.out⟩
    · have Hr : Hid (R = (-1, f)) := by rw [HR.out, if_neg (by simp), if_pos hf]; exact rfl
      clear HR
      go_wp2
      go_ret2
      exact ⟨by rw [Hr.out]; rfl, B2.out⟩
theorem placeS_mk (v : Value) (t : List Nd) (a b c d : Int) (s : List UInt8) (w : World) (h : TreeR w v t) (ht : t.length ≤ 1000) (hkz : (kidsOf t).length ≤ 1000000) (hs : s.length ≤ 1048576) :
    Calls Tryz.prog 69 #[v, .agg #[.int .i64 a, .int .i64 b, .int .i64 c, .int .i64 d], .string (mk s)] w fun e w' => e = .returned (.tuple #[.int .i64 (placeF t a b c d s).1, .int .i64 (placeF t a b c d s).2]) ∧ Below w.heap.size w w' := by
  have := placeS_of v t a b c d (mk s) w h ht hkz (by rw [mk_size]; exact hs)
  rwa [mk_data] at this
end Go.Proofs.YtkennmpbmbacpaaGreatDoor
