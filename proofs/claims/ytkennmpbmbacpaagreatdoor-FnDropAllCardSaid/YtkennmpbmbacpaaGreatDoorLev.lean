/- Levels of directories: no path has more than six names. -/
import Derived.Test.YtkennmpbmbacpaaGreatDoorMakeL
import Derived.Test.YtkennmpbmbacpaaGreatDoorDropL
set_option linter.unusedSimpArgs false
set_option linter.unusedVariables false
set_option linter.unusedSectionVars false
namespace Go.Proofs.YtkennmpbmbacpaaGreatDoor
open Go.RowKit

def LevF (t : List Nd) (lev : Nat → Nat) : Prop := lev 0 = 0 ∧ ∀ i j, i < t.length → (kth t i).fo = true → j < (kth t i).ks.length → lev i + 1 ≤ 6 ∧ ((kth t (nthK (kth t i) j).toNat).fo = true → lev (nthK (kth t i) j).toNat = lev i + 1)
def Lev (t : List Nd) : Prop := ∃ lev, LevF t lev
section
variable {t : List Nd} {lev : Nat → Nat} {may : Nd → Bool} {a b c d : Int} {s : List UInt8}
theorem lev_find (hv : treeB t = true) (hL : LevF t lev) : ∀ (ps : List (List UInt8)) (n : Int), 0 ≤ n → n < (t.length : Int) → (findL t may n ps).2 = 0 → (kth t (findL t may n ps).1.toNat).fo = true → lev (findL t may n ps).1.toNat = lev n.toNat + ps.length
  | [], n, _, _, _, _ => rfl
  | p :: r, n, h0, h1, he, hf => by
    obtain ⟨a1, _, a3, a4⟩ := findL_step he
    rw [a4] at he hf ⊢
    have hn : n.toNat < t.length := by omega
    obtain ⟨k1, k2, _⟩ := kidF_down hv hn a3
    have hz : (kth t (kidF (kth t n.toNat) p).toNat).fo = true := by
      cases r with
      | nil => exact hf
      | cons q r' => exact (findL_step he).1
    have ih := lev_find hv hL r _ (by omega) k2 he hf
    rcases kidF_nth (s := p) (head_ks (tree_node hv hn)) with e | ⟨j, hj, e, _⟩
    · omega
    · have hz2 := hz
      rw [e] at hz2
      have h2 := (hL.2 n.toNat j hn a1 hj).2 hz2
      rw [ih, e, h2, List.length_cons]; omega
/-- The number of names that lead to a directory. -/
theorem lev_path (hL : LevF t lev) (h : (findF t a b c d s).2 = 0) (hf : (kth t (findF t a b c d s).1.toNat).fo = true) : lev (findF t a b c d s).1.toNat = (partsP s).length := by
  obtain ⟨hv, hc, hs, _, _⟩ := findF_range h
  have hl := inB_iffL.1 (tree_all hv).1
  rw [find_yes hv hc hs] at h hf ⊢
  rw [lev_find hv hL _ 0 (by omega) (by omega) h hf]
  show lev 0 + _ = _
  rw [hL.1]; omega
/-- A directory that holds something lies within five names. -/
theorem lev_short (hl : Lev t) (h : (findF t a b c d s).2 = 0) (hn : (kth t (findF t a b c d s).1.toNat).ns ≠ []) : (partsP s).length < 6 := by
  obtain ⟨lev, hL⟩ := hl
  obtain ⟨hv, hc, hs, h0, h1⟩ := findF_range h
  have hk : (findF t a b c d s).1.toNat < t.length := by omega
  have hnd := tree_node hv hk
  have hf : (kth t (findF t a b c d s).1.toNat).fo = true := by
    cases e : (kth t (findF t a b c d s).1.toNat).fo with
    | true => rfl
    | false => exact absurd (file_names hnd e) hn
  have h2 := lev_path hL h hf
  have h3 : 0 < (kth t (findF t a b c d s).1.toNat).ks.length := by rw [← head_ks hnd]; exact List.length_pos_iff.2 hn
  have := (hL.2 _ 0 hk hf h3).1
  omega
theorem put_lev {n : Nat} {z : Int} {ex : List Nd} (hv : treeB t = true) (hL : LevF t lev) (hn : n < t.length) (h6 : lev n + 1 ≤ 6) (hex : ∀ x ∈ ex, x.ks = []) (hz : (∃ k : Nat, z = (k : Int) ∧ k < t.length ∧ (kth t k).fo = false) ∨ z = (t.length : Int)) :
    LevF (t.set n (putF (kth t n) s z) ++ ex) (fun i => if i = t.length then lev n + 1 else lev i) := by
  have hx : ∀ i, i < t.length → kth (t.set n (putF (kth t n) s z) ++ ex) i = if i = n then putF (kth t n) s z else kth t i := fun i hi => kth_set hn hi
  have hfo : ∀ i, i < t.length → (kth (t.set n (putF (kth t n) s z) ++ ex) i).fo = (kth t i).fo := fun i hi => by
    rw [hx i hi]; split
    · next e => subst e; rfl
    · rfl
  refine ⟨by show (if 0 = t.length then lev n + 1 else lev 0) = 0; rw [if_neg (by omega)]; exact hL.1, fun i j hi hf hj => ?_⟩
  by_cases hil : i < t.length
  · have hlev : (if i = t.length then lev n + 1 else lev i) = lev i := if_neg (by omega)
    rw [hfo i hil] at hf
    have hls := head_ks (tree_node hv hil)
    have old : ∀ j', j' < (kth t i).ks.length → nthK (kth (t.set n (putF (kth t n) s z) ++ ex) i) j = nthK (kth t i) j' → (lev i + 1 ≤ 6 ∧ ((kth (t.set n (putF (kth t n) s z) ++ ex) (nthK (kth (t.set n (putF (kth t n) s z) ++ ex) i) j).toNat).fo = true → (if (nthK (kth (t.set n (putF (kth t n) s z) ++ ex) i) j).toNat = t.length then lev n + 1 else lev (nthK (kth (t.set n (putF (kth t n) s z) ++ ex) i) j).toNat) = lev i + 1)) := fun j' hj' e => by
      have hr := (node_kids (tree_node hv hil)).2 j' hj'
      have h1 := hL.2 i j' hil hf hj'
      rw [e, hfo _ (by omega), if_neg (by omega)]
      exact h1
    show (if i = t.length then lev n + 1 else lev i) + 1 ≤ 6 ∧ (_ → (if (nthK _ j).toNat = t.length then lev n + 1 else lev (nthK _ j).toNat) = (if i = t.length then lev n + 1 else lev i) + 1)
    rw [hlev]
    by_cases hin : i = n
    · subst hin
      have e0 : kth (t.set i (putF (kth t i) s z) ++ ex) i = putF (kth t i) s z := by rw [hx i hil, if_pos rfl]
      have hp : putAt (kth t i) s ≤ (kth t i).ks.length := by have := putAt_le (kth t i) s; omega
      have hj' := hj
      rw [e0, putF_lenK hls] at hj'
      rcases Nat.lt_trichotomy j (putAt (kth t i) s) with h | h | h
      · exact old j (by omega) (by rw [e0, putF_k1 hls h])
      · refine ⟨h6, fun hz2 => ?_⟩
        have e1 : nthK (kth (t.set i (putF (kth t i) s z) ++ ex) i) j = z := by rw [e0, h, putF_k2 hls]
        rw [e1] at hz2 ⊢
        rcases hz with ⟨k, rfl, hk, hkf⟩ | rfl
        · rw [Int.toNat_natCast, hfo k hk, hkf] at hz2; cases hz2
        · rw [Int.toNat_natCast, if_pos rfl]
      · exact old (j - 1) (by omega) (by rw [e0, putF_k3 hls h])
    · have e0 : kth (t.set n (putF (kth t n) s z) ++ ex) i = kth t i := by rw [hx i hil, if_neg hin]
      exact old j (by rw [e0] at hj; exact hj) (by rw [e0])
  · exfalso
    have hm : kth (t.set n (putF (kth t n) s z) ++ ex) i ∈ ex := by
      have hi' : i - t.length < ex.length := by rw [List.length_append, List.length_set] at hi; omega
      have : kth (t.set n (putF (kth t n) s z) ++ ex) i = ex[i - t.length] := by
        unfold kth
        rw [List.getD_eq_getElem?_getD, List.getElem?_append_right (by rw [List.length_set]; omega), List.length_set, List.getElem?_eq_getElem hi']; rfl
      rw [this]; exact List.getElem_mem hi'
    rw [hex _ hm] at hj
    simp at hj
/-- The directory of a place for a new name lies within five names. -/
theorem lev_place (hL : LevF t lev) (h : (placeF t a b c d s).2 = 0) : lev (placeF t a b c d s).1.toNat + 1 ≤ 6 := by
  obtain ⟨h1, h2, _⟩ := place_find h
  obtain ⟨_, _, h3, _, _, h4, _⟩ := placeF_yes h
  rw [h2] at h4 ⊢
  rw [lev_path hL h1 h4]
  obtain ⟨s1, _, s3, _⟩ := above_split h3
  have := (namesB_iff.1 (ok_names s1).1).1
  rw [s3, List.length_append, List.length_singleton] at this
  exact this
theorem make_lev {fo : Bool} {mode : Int} (hl : Lev t) (h : (makeF t a b c d s fo mode).2 = 0) : Lev (makeF t a b c d s fo mode).1 := by
  obtain ⟨lev, hL⟩ := hl
  obtain ⟨n, hn, _, _, e1, e2, e3, _, _⟩ := make_law h
  have h6 := lev_place hL e2
  rw [e1, Int.toNat_natCast] at h6
  rw [e3]
  exact ⟨_, put_lev (placeF_yes e2).1 hL hn h6 (fun x hx => by rw [List.mem_singleton.1 hx]; rfl) (.inr rfl)⟩
theorem link_lev {p q : List UInt8} (hl : Lev t) (h : (linkF t a b c d p q).2 = 0) : Lev (linkF t a b c d p q).1 := by
  obtain ⟨lev, hL⟩ := hl
  obtain ⟨n, m, hn, hm, e0, e1, e2, e3, _, _, _, _⟩ := link_law h
  have h6 := lev_place hL e2
  rw [e1, Int.toNat_natCast] at h6
  have hfl : (kth t n).fo = false := by
    unfold linkF at h
    rw [e0] at h
    cases e : (kth t n).fo with
    | false => rfl
    | true =>
      rw [if_neg (by simp), if_pos (by rw [Int.toNat_natCast, e])] at h
      cases h
  rw [e3]
  have := put_lev (s := lastF q) (ex := []) (placeF_yes e2).1 hL hm h6 (fun x hx => by cases hx) (.inl ⟨n, rfl, hn, hfl⟩)
  rw [List.append_nil] at this
  exact ⟨_, this⟩
/-- Less names, or heads that are other ones, keep the levels. -/
theorem lev_less {T : List Nd} (hL : LevF t lev) (hfo : ∀ i, (kth T i).fo = true → (kth t i).fo = true) (hlen : T.length ≤ t.length) (hk : ∀ i j, i < T.length → j < (kth T i).ks.length → ∃ j', j' < (kth t i).ks.length ∧ nthK (kth T i) j = nthK (kth t i) j') : LevF T lev :=
  ⟨hL.1, fun i j hi hf hj => by
    obtain ⟨j', h1, h2⟩ := hk i j hi hj
    have h3 := hL.2 i j' (by omega) (hfo i hf) h1
    rw [h2]
    exact ⟨h3.1, fun h => h3.2 (hfo _ h)⟩⟩
theorem kth_set' {n k : Nat} {y : Nd} : kth (t.set n y) k = if k = n ∧ n < t.length then y else kth t k := by
  unfold kth
  rw [List.getD_eq_getElem?_getD, List.getD_eq_getElem?_getD]
  by_cases h : k = n
  · subst h
    by_cases h2 : k < t.length
    · rw [List.getElem?_set_self h2, if_pos ⟨rfl, h2⟩]; rfl
    · rw [List.getElem?_eq_none (by rw [List.length_set]; omega), List.getElem?_eq_none (by omega), if_neg (fun e => h2 e.2)]
  · rw [List.getElem?_set_ne (fun e => h e.symm), if_neg (fun e => h e.1)]
/-- A node's head is another one. -/
theorem head_lev {k : Nat} {y : Nd} (hl : Lev t) (h1 : y.fo = true → (kth t k).fo = true) (h2 : y.ks = (kth t k).ks) : Lev (t.set k y) := by
  obtain ⟨lev, hL⟩ := hl
  refine ⟨lev, lev_less hL (fun i hi => ?_) (by rw [List.length_set]; exact Nat.le_refl _) (fun i j _ hj => ⟨j, ?_, ?_⟩)⟩
  · rw [kth_set'] at hi
    split at hi
    · next e => rw [e.1]; exact h1 hi
    · exact hi
  · rw [kth_set'] at hj
    split at hj
    · next e => rw [e.1, ← h2]; exact hj
    · exact hj
  · rw [kth_set']
    unfold nthK
    split
    · next e => rw [e.1, h2]
    · rfl
/-- A file without names is put behind the last node. -/
theorem push_lev {x : Nd} (hv : treeB t = true) (hl : Lev t) (h1 : x.ks = []) : Lev (t ++ [x]) := by
  obtain ⟨lev, hL⟩ := hl
  have hx : ∀ i, i < t.length → kth (t ++ [x]) i = kth t i := fun i hi => by
    unfold kth
    rw [List.getD_eq_getElem?_getD, List.getD_eq_getElem?_getD, List.getElem?_append_left hi]
  refine ⟨lev, hL.1, fun i j hi hf hj => ?_⟩
  by_cases hil : i < t.length
  · rw [hx i hil] at hf hj ⊢
    have hr := (node_kids (tree_node hv hil)).2 j hj
    rw [hx _ (by omega)]
    exact hL.2 i j hil hf hj
  · have he : kth (t ++ [x]) i = x := by
      have : i = t.length := by simp at hi; omega
      subst this
      unfold kth
      rw [List.getD_eq_getElem?_getD, List.getElem?_append_right (Nat.le_refl _), Nat.sub_self]; rfl
    rw [he, h1] at hj
    simp at hj
theorem new_lev {mode : Int} : Lev [newNd true 0 0 mode] := ⟨fun _ => 0, rfl, fun i j hi _ hj => by
  have : i = 0 := by simp at hi; omega
  subst this
  have e : (kth [newNd true 0 0 mode] 0).ks = [] := rfl
  rw [e] at hj
  simp at hj⟩
theorem nil_lev : Lev [] := ⟨fun _ => 0, rfl, fun i j hi _ _ => by simp at hi⟩
theorem take_lev {m : Nat} (hv : treeB t = true) (hL : LevF t lev) (hm : m < t.length) (hs : s ∈ (kth t m).ns) : LevF (takeT t m s) lev := by
  refine lev_less hL (fun i hi => ?_) (by rw [take_len]; exact Nat.le_refl _) (fun i j hi hj => take_kid hv hm hs (by rw [take_len] at hi; exact hi) hj)
  unfold takeT at hi
  rw [kth_set'] at hi
  split at hi
  · next e => rw [e.1]; exact hi
  · exact hi
theorem clean_lev {k : Nat} (hL : LevF t lev) (hk : k < t.length) (h0 : 0 < k) (hn : ∀ i j, i < t.length → j < (kth t i).ks.length → 0 ≤ nthK (kth t i) j ∧ nthK (kth t i) j < (t.length : Int)) (hz : lnk t k = 0) : LevF (cleanT t k) (fun i => lev (upI k i)) := by
  refine ⟨by show lev (if 0 < k then 0 else 0 + 1) = 0; rw [if_pos h0]; exact hL.1, fun i j hi hf hj => ?_⟩
  rw [clean_len hk] at hi
  have hu : upI k i < t.length := by unfold upI; split <;> omega
  rw [clean_kth hk hi] at hf hj ⊢
  have hj' : j < (kth t (upI k i)).ks.length := by simpa [renN] using hj
  have hf' : (kth t (upI k i)).fo = true := hf
  have h1 := hL.2 (upI k i) j hu hf' hj'
  obtain ⟨r0, r1⟩ := hn (upI k i) j hu hj'
  have hne : nthK (kth t (upI k i)) j ≠ (k : Int) := by
    intro e
    have h3 : (k : Int) ∈ kidsOf t := by rw [← e]; exact kid_in hu hj'
    have := List.count_pos_iff.2 h3
    unfold lnk at hz; omega
  rw [ren_nthK _ _ hj']
  have hup := ren_up r0 hne
  have hlt : (ren k (nthK (kth t (upI k i)) j)).toNat < t.length - 1 := by unfold ren; split <;> omega
  refine ⟨h1.1, fun h => ?_⟩
  rw [clean_kth hk hlt, hup] at h
  show lev (upI k (ren k (nthK (kth t (upI k i)) j)).toNat) = _
  rw [hup]
  exact h1.2 h
theorem drop_lev (hl : Lev t) (h : dropOf t a b c d s false = 0) : Lev (dropF t a b c d s).1 := by
  obtain ⟨lev, hL⟩ := hl
  obtain ⟨m, k, e, hm, hv, hc, ha, hf, hfo, hr, hk, hk1, hkl, hmem, hns, hks, hfs, hd⟩ := drop_parts h
  rw [hd]
  have hT := take_lev hv hL hm hmem
  show Lev (dropT t m (lastF s) k)
  unfold dropT
  split
  · exact ⟨_, hT⟩
  · next h0 =>
    have h00 : lnk (takeT t m (lastF s)) k = 0 := by unfold lnk at h0 ⊢; omega
    refine ⟨_, clean_lev hT (by rw [take_len]; exact hkl) (by omega) (fun i j hi hj => ?_) h00⟩
    rw [take_len] at hi
    have := (node_kids (take_nodes hv hm hmem hi)).2 j hj
    rw [take_len]
    omega
end
end Go.Proofs.YtkennmpbmbacpaaGreatDoor
