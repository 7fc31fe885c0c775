/- Renumbered kids, node by node: the plain side of the loops in dropName and l9Clean. -/
import Derived.Test.YtkennmpbmbacpaaGreatDoorDropL
import Derived.Test.YtkennmpbmbacpaaGreatDoorDelC
import Derived.Test.YtkennmpbmbacpaaGreatDoorMH
set_option linter.unusedSimpArgs false
set_option linter.unusedVariables false
set_option linter.unusedSectionVars false
namespace Go.Proofs.YtkennmpbmbacpaaGreatDoor
open Go.RowKit

/-- The first q kids renumbered. -/
def partN (p q : Nat) (x : Nd) : Nd := { x with ks := (x.ks.take q).map (ren p) ++ x.ks.drop q }
theorem partN_zero (p : Nat) (x : Nd) : partN p 0 x = x := by simp [partN]
theorem partN_all (p : Nat) (x : Nd) : partN p x.ks.length x = renN p x := by simp [partN, renN]
theorem partN_len (p q : Nat) (x : Nd) : (partN p q x).ks.length = x.ks.length := by
  simp only [partN, List.length_append, List.length_map, List.length_take, List.length_drop]; omega
theorem partN_at {p q : Nat} {x : Nd} (h : q < x.ks.length) : nthK (partN p q x) q = nthK x q := by
  unfold nthK partN
  rw [List.getD_eq_getElem?_getD, List.getD_eq_getElem?_getD, List.getElem?_append_right (by simp; omega), List.length_map, List.length_take, Nat.min_eq_left (by omega), Nat.sub_self, List.getElem?_drop, Nat.add_zero]
theorem partN_next {p q : Nat} {x : Nd} (h : q < x.ks.length) : { partN p q x with ks := (partN p q x).ks.set q (ren p (nthK x q)) } = partN p (q + 1) x := by
  have e : (partN p q x).ks.set q (ren p (nthK x q)) = (partN p (q + 1) x).ks := by
    show ((x.ks.take q).map (ren p) ++ x.ks.drop q).set q (ren p (nthK x q)) = (x.ks.take (q + 1)).map (ren p) ++ x.ks.drop (q + 1)
    have h1 : ((x.ks.take q).map (ren p)).length = q := by simp; omega
    rw [List.set_append_right _ _ (by omega), h1, Nat.sub_self, List.drop_eq_getElem_cons h, List.set_cons_zero, List.take_add_one, List.getElem?_eq_getElem h, List.map_append, List.append_assoc]
    have e2 : nthK x q = x.ks[q] := by
      have := nthK_at h
      rw [List.getElem?_eq_getElem h] at this
      injection this with this
      exact this.symm
    rw [e2]; rfl
  show ({ x with ks := (partN p q x).ks.set q (ren p (nthK x q)) } : Nd) = _
  rw [e]; rfl
theorem partN_same {p q : Nat} {x : Nd} (h : q < x.ks.length) (hr : ren p (nthK x q) = nthK x q) : partN p q x = partN p (q + 1) x := by
  rw [← partN_next h, hr]
  have e : (partN p q x).ks.set q (nthK x q) = (partN p q x).ks := by
    apply List.ext_getElem?
    intro j
    rw [List.getElem?_set]
    split
    · next e =>
      subst e
      have hl : q < (partN p q x).ks.length := by rw [partN_len]; exact h
      rw [if_pos hl, ← partN_at h]
      exact (nthK_at hl).symm
    · rfl
  rw [e]
/-- The first j nodes of E are renumbered, of node j the first q kids. -/
structure RenTo (E : List Nd) (p j q : Nat) (T : List Nd) : Prop where
  len : T.length = E.length
  lo : ∀ i, i < j → i < E.length → kth T i = renN p (kth E i)
  mid : j < E.length → kth T j = partN p q (kth E j)
  hi : ∀ i, j < i → i < E.length → kth T i = kth E i
section
variable {E T : List Nd} {p j q : Nat}
theorem RenTo.start (E : List Nd) (p : Nat) : RenTo E p 0 0 E := ⟨rfl, fun i h _ => absurd h (Nat.not_lt_zero i), fun _ => (partN_zero p _).symm, fun _ _ _ => rfl⟩
theorem RenTo.store (h : RenTo E p j q T) (hj : j < E.length) (hq : q < (kth E j).ks.length) : RenTo E p j (q + 1) (T.set j { kth T j with ks := (kth T j).ks.set q (ren p (nthK (kth E j) q)) }) := by
  have hjT : j < T.length := by rw [h.len]; exact hj
  have hk : ∀ i, i < E.length → kth (T.set j { kth T j with ks := (kth T j).ks.set q (ren p (nthK (kth E j) q)) }) i = if i = j then { kth T j with ks := (kth T j).ks.set q (ren p (nthK (kth E j) q)) } else kth T i := fun i hi => by
    have := kth_set (ex := []) (y := { kth T j with ks := (kth T j).ks.set q (ren p (nthK (kth E j) q)) }) hjT (show i < T.length by rw [h.len]; exact hi)
    rwa [List.append_nil] at this
  refine ⟨by rw [List.length_set]; exact h.len, fun i h1 h2 => by rw [hk i h2, if_neg (by omega)]; exact h.lo i h1 h2, fun _ => ?_, fun i h1 h2 => by rw [hk i h2, if_neg (by omega)]; exact h.hi i h1 h2⟩
  rw [hk j hj, if_pos rfl, h.mid hj]
  exact partN_next hq
theorem RenTo.skip (h : RenTo E p j q T) (hj : j < E.length) (hq : q < (kth E j).ks.length) (hr : ren p (nthK (kth E j) q) = nthK (kth E j) q) : RenTo E p j (q + 1) T :=
  ⟨h.len, h.lo, fun _ => by rw [h.mid hj]; exact partN_same hq hr, h.hi⟩
theorem RenTo.next (h : RenTo E p j q T) (hj : j < E.length) (hq : q = (kth E j).ks.length) : RenTo E p (j + 1) 0 T := by
  refine ⟨h.len, fun i h1 h2 => ?_, fun h1 => by rw [partN_zero]; exact h.hi _ (Nat.lt_succ_self j) h1, fun i h1 h2 => h.hi i (by omega) h2⟩
  by_cases hi : i = j
  · subst hi
    rw [h.mid h2, hq, partN_all]
  · exact h.lo i (by omega) h2
theorem RenTo.end_ (h : RenTo E p j q T) (hj : E.length ≤ j) : T = E.map (renN p) := by
  apply List.ext_getElem?
  intro i
  by_cases hi : i < E.length
  · rw [kth_at (by rw [h.len]; exact hi), h.lo i (by omega) hi, List.getElem?_map, kth_at hi]; rfl
  · rw [List.getElem?_eq_none (by rw [h.len]; omega), List.getElem?_eq_none (by rw [List.length_map]; omega)]
end
/-- A kid of node j is another number. -/
theorem TreeC.kidset {B : Nat} {w : World} {g n cap j q : Nat} {z : Int} {cs : List Cn} {t : List Nd} {c : Cn} (h : TreeC B w (.slice (some ⟨g, 0, none⟩) n cap) cs t) (hj : j < t.length) (hc : cs[j]? = some c) (hq : q < (kth t j).ks.length) :
    ∃ gk, c.kA = some ⟨gk, 0, none⟩ ∧ B ≤ gk ∧ gk < w.heap.size ∧ w.cell? ⟨gk, q, none⟩ = some (.int .i64 (nthK (kth t j) q)) ∧ w.frozen? ⟨gk, q, none⟩ = false ∧ c.kL = (kth t j).ks.length ∧ (Value.slice c.kA c.kL c.kC).ownBlock = some gk ∧ TreeC B (w.setCell ⟨gk, q, none⟩ (.int .i64 z)) (.slice (some ⟨g, 0, none⟩) n cap) cs (t.set j { kth t j with ks := (kth t j).ks.set q z }) := by
  have hn := h.nds j c _ hc (kth_at hj)
  have hlt : j < cs.length := by rw [h.len]; exact hj
  have hkL : c.kL = (kth t j).ks.length := by obtain ⟨_, _, e⟩ := ownG_shape hn.ks; injection e
  obtain ⟨gk, e, k1, k2, _, hst⟩ := ownG_store hn.ks (nthK_at hq) (j := 0) (y := z) (u := .int .i64 z) (show 0 < EI.z by decide) rfl
  have hq1 : q * EI.z + 0 = q := by show q * 1 + 0 = q; omega
  rw [hq1] at hst
  obtain ⟨b2, o2, e2, _, q2⟩ := (ownG_sl hn.ks).at_ (nthK_at hq)
  rw [e] at e2
  cases e2
  have c2 : w.cell? ⟨gk, q, none⟩ = some (.int .i64 (nthK (kth t j) q)) := by have := q2 0 _ rfl; simpa [EI] using this
  have hob : (Value.slice c.kA c.kL c.kC).ownBlock = some gk := by rw [e]; rfl
  have hgr : w.grownBy (w.setCell ⟨gk, q, none⟩ (.int .i64 z)) (some gk) := Lib.grownBy_setB (World.grownBy.refl _ _) _ _
  have hfr := hn.ks
  rw [e, hkL] at hfr
  refine ⟨gk, e, k1, k2, c2, hfr.frozenAt q, hkL, hob, by rw [List.length_set]; exact h.len, ownG_kept h.row hgr (by rw [← hob]; exact ownG_type h.row hn.ks (by decide)), fun i d y hd hy => ?_, h.sep⟩
  by_cases hi : j = i
  · subst hi
    rw [hc] at hd
    injection hd with hd
    subst hd
    rw [List.getElem?_set_self hj] at hy
    injection hy with hy
    subst hy
    exact ⟨hn.fo, hn.ow, hn.gr, hn.mo, hn.tx, ownG_kept hn.ns hgr (by rw [← hob]; exact ownG_type hn.ns hn.ks (by decide)), hst, hn.sz, hn.nz⟩
  · rw [List.getElem?_set_ne hi] at hy
    have hd0 := h.nds i d y hd hy
    have hs := h.sep i j d c hd hc (fun e => hi e.symm)
    exact hd0.kept hgr (by rw [← hob]; exact ownG_type hd0.ns hn.ks (by decide)) (by rw [← hob]; exact hs.2)
/-- Where a name has been taken away: the numbers of names. -/
theorem take_links {t : List Nd} {m : Nat} {s : List UInt8} (hv : treeB t = true) (hm : m < t.length) (hs : s ∈ (kth t m).ns) : (linksF (takeT t m s)).length = t.length ∧ ∀ n, n < t.length → (linksF (takeT t m s))[n]? = some (lnk (takeT t m s) n) := by
  have hok : linksOk (takeT t m s) = true := by
    rw [linksOk_iff]
    refine ⟨by rw [take_len]; have := inB_iffL.1 (tree_all hv).1; omega, fun z hz => ?_⟩
    obtain ⟨k, j, hk, hj, e⟩ := kids_in hz
    rw [take_len] at hk
    have := (node_kids (take_nodes hv hm hs hk)).2 j hj
    rw [take_len, ← e]; omega
  rw [links_yes hok, take_len]
  refine ⟨cntL_len _ _, fun n hn => ?_⟩
  rw [cntL_get hn]; rfl
end Go.Proofs.YtkennmpbmbacpaaGreatDoor
