/- slices.Delete of one node of a tree of the call's own. -/
import Derived.Test.YtkennmpbmbacpaaGreatDoorAddU
import Derived.Test.YtkennmpbmbacpaaGreatDoorTreeR
import Derived.Test.YtkennmpbmbacpaaGreatDoorIns
import Derived.Test.YtkennmpbmbacpaaGreatDoorHeldZ
import Derived.Deep.RegionLaw
set_option linter.unusedSimpArgs false
set_option linter.unusedVariables false
set_option linter.unusedSectionVars false
namespace Go.Proofs.YtkennmpbmbacpaaGreatDoor
open Go.RowKit

theorem zeroC_one {z : Array Value} (n : Nat) (h1 : ∀ u ∈ z, u.oneCell' = true) : ∀ u ∈ (Builtin.zeroCells z n).toList, u.oneCell' = true := by
  intro u hu
  by_cases hz : 0 < z.size
  · simp only [Builtin.zeroCells, Array.toList_map, List.mem_map] at hu
    obtain ⟨i, _, rfl⟩ := hu
    have hi : i % z.size < z.size := Nat.mod_lt _ hz
    rw [getElem!_pos z _ hi]
    exact h1 _ (Array.getElem_mem hi)
  · have h0 : z.size = 0 := by omega
    simp [Builtin.zeroCells, h0] at hu
theorem zeroC_len {z : Array Value} (n : Nat) : (Builtin.zeroCells z n).toList.length = n * z.size := by simp [Builtin.zeroCells]
/-- clear of n elements of several cells. -/
theorem run_clearC {P : Program} (w : World) (t e ty : TypeId) (z : Value) (ht : P.underlying t = some (.slice e)) (hv : ∀ w, (zeroValue e).run P w = .ok z w) (h1 : ∀ u ∈ z.cells, u.oneCell' = true) (b o n c : Nat) (hn : 0 < n)
    (hc : ∀ j, j < n * z.cells.size → (w.cell? ⟨b, o + j, none⟩).isSome = true) (hf : ∀ j, j < n * z.cells.size → w.frozen? ⟨b, o + j, none⟩ = false) :
    (Builtin.clear_ #[t] ty #[.slice (some ⟨b, o, none⟩) n c]).run P w = .ok (.tuple #[]) (w.setCells b o (Builtin.zeroCells z.cells n).toList) := by
  have hst := run_storeCells_cells (P := P) b o (Builtin.zeroCells z.cells n).toList 0 w (by rw [zeroC_len]; simpa using hc) (by rw [zeroC_len]; simpa using hf) (zeroC_one n h1)
  simp only [Nat.add_zero] at hst
  obtain ⟨m, rfl⟩ : ∃ m, n = m + 1 := ⟨n - 1, by omega⟩
  simp [Builtin.clear_, run_underlying ht, hv, hst]
section
variable {α : Type} {E : Lay α}
theorem ownG_of_cells {T : TypeId} {B g cap n : Nat} {w : World} {cur : Array Value} {L : List α} (hB : B ≤ g) (h : w.heap[g]? = some (.cells cur T (0, 0))) (hn : n = L.length) (hL : L.length ≤ cap) (hc : cap ≤ maxLen) (hs : cur.size = cap * E.z)
    (hat : ∀ j u, (L.flatMap E.put)[j]? = some u → w.cell? ⟨g, j, none⟩ = some u) : OwnG E T B w (.slice (some ⟨g, 0, none⟩) n cap) L := by
  subst hn
  have hl : (L.flatMap E.put).length = L.length * E.z := flat_len L
  refine ⟨hl, .inr ⟨g, cap, cur, rfl, hB, h, hL, hc, hs, ?_⟩⟩
  apply List.ext_getElem?
  intro j
  rw [List.getElem?_take]
  by_cases hj : j < L.length * E.z
  · rw [if_pos hj]
    have e : (L.flatMap E.put)[j]? = some ((L.flatMap E.put)[j]'(by omega)) := List.getElem?_eq_getElem _
    have h2 := hat j _ e
    rw [e]
    simpa [World.cell?, h] using h2
  · rw [if_neg hj, List.getElem?_eq_none (by omega)]
/-- Element i is overwritten by those behind it, and the last place is written. -/
theorem ownG_erase {T : TypeId} {B g cap n i : Nat} {w : World} {l : List α} {zs : List Value} (h : OwnG E T B w (.slice (some ⟨g, 0, none⟩) n cap) l) (hi : i < l.length) :
    OwnG E T B ((w.setCells g (i * E.z) ((l.drop (i + 1)).flatMap E.put)).setCells g ((l.length - 1) * E.z) zs) (.slice (some ⟨g, 0, none⟩) (l.length - 1) cap) (l.eraseIdx i) := by
  obtain ⟨A0, c0, e0⟩ := ownG_shape h
  injection e0 with _ e0 _
  subst e0
  rcases h.2 with ⟨e, _⟩ | ⟨g', c, cur, e, hB, hg, h1, h2, h3, h4⟩
  · cases e
  injection e with e1 _ e3
  injection e1 with e1
  injection e1 with e1 _ _
  subst e1 e3
  have h1 : l.length ≤ cap := h1
  have h3 : cur.size = cap * E.z := h3
  have hlen : (l.eraseIdx i).length = l.length - 1 := by rw [List.length_eraseIdx, if_pos hi]
  have hcell : ∀ j u, (l.flatMap E.put)[j]? = some u → w.cell? ⟨g, j, none⟩ = some u := by
    intro j u hu
    have hj : j < (l.flatMap E.put).length := (List.getElem?_eq_some_iff.1 hu).1
    rw [flat_len] at hj
    rw [h.cellAt j hj]; exact hu
  have hnl : ((l.drop (i + 1)).flatMap E.put).length = (l.length - (i + 1)) * E.z := by rw [flat_len, List.length_drop]
  have hz1 : (l.length - 1) * E.z = i * E.z + (l.length - (i + 1)) * E.z := by rw [← Nat.add_mul]; congr 1; omega
  obtain ⟨cur1, hg1, hs1⟩ := setCells_block ((l.drop (i + 1)).flatMap E.put) (i * E.z) w cur hg
  obtain ⟨cur2, hg2, hs2⟩ := setCells_block zs ((l.length - 1) * E.z) _ cur1 hg1
  have hin : ∀ k, k < ((l.drop (i + 1)).flatMap E.put).length → (w.cell? ⟨g, i * E.z + k, none⟩).isSome = true := by
    intro k hk
    rw [hnl] at hk
    have hle : l.length * E.z ≤ cap * E.z := Nat.mul_le_mul_right _ h1
    have hl1 : (l.length - 1) * E.z ≤ l.length * E.z := Nat.mul_le_mul_right _ (by omega)
    rw [cell_of_row w g _ cur T (0, 0) hg, Array.getElem?_eq_getElem (by omega)]; rfl
  refine ownG_of_cells hB hg2 hlen.symm (by omega) h2 (by rw [hs2, hs1, h3]) (fun j u hu => ?_)
  have hj : j < (l.length - 1) * E.z := by
    have := (List.getElem?_eq_some_iff.1 hu).1
    rw [flat_len, hlen] at this
    exact this
  rw [World.cell?_setCells_out g _ _ _ _ (fun _ _ => .inl (by show j < _; exact hj))]
  rw [List.eraseIdx_eq_take_drop_succ, List.flatMap_append] at hu
  have htl : ((l.take i).flatMap E.put).length = i * E.z := by rw [flat_len, List.length_take, Nat.min_eq_left (by omega)]
  by_cases hji : j < i * E.z
  · rw [World.cell?_setCells_out g _ _ _ _ (fun _ _ => .inl (by show j < _; exact hji))]
    rw [List.getElem?_append_left (by omega)] at hu
    refine hcell j u ?_
    have e : l = l.take i ++ l.drop i := (List.take_append_drop i l).symm
    rw [e, List.flatMap_append, List.getElem?_append_left (by omega)]
    exact hu
  · rw [List.getElem?_append_right (by omega), htl] at hu
    have hlt := (List.getElem?_eq_some_iff.1 hu).1
    have e : j = i * E.z + (j - i * E.z) := by omega
    rw [e, World.cell?_setCells_in g _ _ _ hin _ hlt]
    exact (List.getElem?_eq_some_iff.1 hu).2 ▸ rfl
end
theorem TreeC.erase {B : Nat} {w w' : World} {g n cap i : Nat} {cs : List Cn} {t : List Nd} (h : TreeC B w (.slice (some ⟨g, 0, none⟩) n cap) cs t) (ho : OwnG EC 44 B w' (.slice (some ⟨g, 0, none⟩) (n - 1) cap) (cs.eraseIdx i)) (hg : w.grownBy w' (some g)) :
    TreeC B w' (.slice (some ⟨g, 0, none⟩) (n - 1) cap) (cs.eraseIdx i) (t.eraseIdx i) := by
  refine ⟨by rw [List.length_eraseIdx, List.length_eraseIdx, h.len], ho, fun j c x hc hx => ?_, fun j k c d hc hd hjk => ?_⟩
  · rw [List.getElem?_eraseIdx] at hc hx
    by_cases hj : j < i
    · rw [if_pos hj] at hc hx
      exact (h.nds j c x hc hx).keptR h.row hg
    · rw [if_neg hj] at hc hx
      exact (h.nds (j + 1) c x hc hx).keptR h.row hg
  · rw [List.getElem?_eraseIdx] at hc hd
    by_cases hj : j < i
    · rw [if_pos hj] at hc
      by_cases hk : k < i
      · rw [if_pos hk] at hd
        exact h.sep j k c d hc hd hjk
      · rw [if_neg hk] at hd
        exact h.sep j (k + 1) c d hc hd (by omega)
    · rw [if_neg hj] at hc
      by_cases hk : k < i
      · rw [if_pos hk] at hd
        exact h.sep (j + 1) k c d hc hd (by omega)
      · rw [if_neg hk] at hd
        exact h.sep (j + 1) (k + 1) c d hc hd (by omega)
set_option maxRecDepth 100000 in
set_option maxHeartbeats 1000000 in
theorem delC_of (g n cap i B : Nat) (cs : List Cn) (t : List Nd) (w : World) (h : TreeC B w (.slice (some ⟨g, 0, none⟩) n cap) cs t) (hi : i < t.length) (hn : t.length ≤ 1000) (hgw : g < w.heap.size) (hB : B ≤ g) :
    Calls Tryz.prog 89 #[.slice (some ⟨g, 0, none⟩) n cap, .int .i64 i, .int .i64 ((i : Int) + 1)] w fun e w' => e = .returned (.slice (some ⟨g, 0, none⟩) (n - 1) cap) ∧ TreeC B w' (.slice (some ⟨g, 0, none⟩) (n - 1) cap) (cs.eraseIdx i) (t.eraseIdx i) ∧ Below B w w' := by
  have hlc := h.len
  have hrow := h.row
  have hsh : n = cs.length := by obtain ⟨_, _, e⟩ := ownG_shape hrow; injection e
  subst hsh
  have hic : i < cs.length := by omega
  have hnc : cs.length ≤ 1000 := by omega
  obtain ⟨i0, z0, bytes, hi0, hz0, hz1, hz2, hz3, hz4⟩ := fitEC.hi
  obtain ⟨news, hnews⟩ : ∃ news, news = (cs.drop (i + 1)).flatMap EC.put := ⟨_, rfl⟩
  have hnl : news.length = (cs.length - (i + 1)) * 7 := by rw [hnews, flat_len, List.length_drop]; rfl
  have hsl := ownG_sl hrow
  obtain ⟨hc1, hc2⟩ := hsl.caps
  obtain ⟨cur, hcur, hsz⟩ : ∃ (cur : Array Value), w.heap[g]? = some (.cells cur 44 (0, 0)) ∧ cur.size = cap * 7 := by
    rcases hrow.2 with ⟨e, _⟩ | ⟨g', c, cur, e, _, hg, _, _, h3, _⟩
    · cases e
    · injection e with e1 _ e3
      injection e1 with e1
      injection e1 with e1 _ _
      subst e1 e3
      exact ⟨cur, hg, h3⟩
  have hcellw : ∀ j, j < cap * 7 → (w.cell? ⟨g, j, none⟩).isSome = true ∧ w.frozen? ⟨g, j, none⟩ = false := fun j hj =>
    ⟨by rw [cell_of_row w g j cur _ (0, 0) hcur, Array.getElem?_eq_getElem (by omega)]; rfl, World.ownsRow.frozenAt hrow j⟩
  obtain ⟨M, hM⟩ : ∃ M, cs.length = i + M + 1 := ⟨cs.length - (i + 1), by omega⟩
  have hnl' : news.length = M * 7 := by rw [hnl, hM]; congr 1; omega
  have hsrc : ∀ j u, news[j]? = some u → w.cell? ⟨g, (i + 1) * 7 + j, none⟩ = some u := by
    intro j u hu
    rw [hnews] at hu
    obtain ⟨a, b, x, rfl, hb, hx, hu⟩ := flat_inv hu
    obtain ⟨b', o', e, _, hat⟩ := hsl.at_ (k := i + 1 + a) (x := x) (by rwa [List.getElem?_drop] at hx)
    cases e
    have := hat b u hu
    rw [Nat.zero_add, Nat.add_mul, Nat.add_assoc] at this
    exact this
  obtain ⟨A, hA, hsrcA⟩ : ∃ A : Addr, (if cap = i + 1 then (some ⟨g, 0, none⟩ : Option Addr) else some ⟨g, (i + 1) * 7, none⟩) = some A ∧ Hid (∀ j u, news[j]? = some u → w.drew.cell? (A.add j) = some u) := by
    by_cases hc : cap = i + 1
    · refine ⟨⟨g, 0, none⟩, by rw [if_pos hc], fun j u hu => ?_⟩
      have h0 : news.length = 0 := by rw [hnl']; omega
      rw [List.length_eq_zero_iff.1 h0] at hu
      simp at hu
    · refine ⟨⟨g, (i + 1) * 7, none⟩, by rw [if_neg hc], fun j u hu => ?_⟩
      rw [Addr.add_lit]
      exact hsrc j u hu
  have hone : ∀ u ∈ news, u.oneCell' = true := by rw [hnews]; exact flat_one _
  obtain ⟨W1, hW1⟩ : ∃ W1, W1 = w.drew.setCells g (0 + i * 7) news := ⟨_, rfl⟩
  have hcl : ∀ ty, (Builtin.clear_ #[23] ty #[.slice (some ⟨g, (i + M) * 7, none⟩) 1 (cap - (i + M))]).run Tryz.prog W1 = .ok (.tuple #[]) (W1.setCells g ((i + M) * 7) (Builtin.zeroCells #[.bool false, .int .i64 0, .int .i64 0, .int .i64 0, .string "".toUTF8, .slice none 0 0, .slice none 0 0] 1).toList) := fun ty =>
    run_clearC W1 _ 44 ty (.agg #[.bool false, .int .i64 0, .int .i64 0, .int .i64 0, .string "".toUTF8, .slice none 0 0, .slice none 0 0]) fitEC.ht (fun _ => rfl) (by
      intro u hu
      have hu' : u ∈ (#[Value.bool false, .int .i64 0, .int .i64 0, .int .i64 0, .string "".toUTF8, .slice none 0 0, .slice none 0 0] : Array Value) := hu
      simp at hu'
      rcases hu' with rfl | rfl | rfl | rfl | rfl | rfl | rfl <;> rfl) g ((i + M) * 7) 1 _ (by omega)
      (fun j hj => by
        have hj' : j < 7 := hj
        rw [hW1]
        exact World.isSome_setCells g _ _ _ _ (hcellw _ (by omega)).1)
      (fun j hj => by
        have hj' : j < 7 := hj
        rw [hW1, World.frozen?_setCells]
        exact (hcellw _ (by omega)).2)
  have hgr : w.grownBy (W1.setCells g ((i + M) * 7) (Builtin.zeroCells #[.bool false, .int .i64 0, .int .i64 0, .int .i64 0, .string "".toUTF8, .slice none 0 0, .slice none 0 0] 1).toList) (some g) := by
    rw [hW1]
    exact setCells_grown _ _ _ _ (setCells_grown _ _ _ _ (grown_drew (World.grownBy.refl _ _)))
  have hY : TreeC B (W1.setCells g ((i + M) * 7) (Builtin.zeroCells #[.bool false, .int .i64 0, .int .i64 0, .int .i64 0, .string "".toUTF8, .slice none 0 0, .slice none 0 0] 1).toList) (.slice (some ⟨g, 0, none⟩) (i + M) cap) (cs.eraseIdx i) (t.eraseIdx i) := by
    have e1 : i + M = cs.length - 1 := by omega
    rw [e1]
    refine h.erase ?_ (by rw [← e1]; exact hgr)
    have := ownG_erase (zs := (Builtin.zeroCells #[.bool false, .int .i64 0, .int .i64 0, .int .i64 0, .string "".toUTF8, .slice none 0 0, .slice none 0 0] 1).toList) (ownG_below hrow (Below.drew (Below.refl _ _))) hic
    rw [hW1, hnews, Nat.zero_add]
    exact this
  have Y1 := Lib.hid hY
  have Y2 := Lib.hid (Below.of_grown hgr (Nat.le_trans hB (Nat.le_of_lt hgw)) (fun j hj => by injection hj with hj; omega))
  have HX := Lib.hid hW1
  have s1 := Lib.hid hnl'
  have s2 := Lib.hid hone
  have s3 := Lib.hid (fun k (hk : k < news.length) => show (w.drew.cell? ⟨g, 0 + i * 7 + k, none⟩).isSome = true ∧ w.drew.frozen? ⟨g, 0 + i * 7 + k, none⟩ = false from hcellw _ (by omega))
  have h0i : (0 : Int) ≤ (i : Int) + 1 := by omega
  have Hnews := Lib.hid hnews
  have HM := Lib.hid hM
  have HC := Lib.hid h
  have hiM : (i : Int) ≤ (cap : Int) := by omega
  have hi2 : ((i : Int) + 1) ≤ ((cs.length : Nat) : Int) := by omega
  have zi : IntKind.i64.wrap ((i : Int) + 1) = (i : Int) + 1 := IntWalk.i64_in _ (by omega)
  clear hW1 hnl hnl' hgr hY hone hsrc hnews hcellw hsl hrow h hlc hcur hsz
  rw [hM] at hc1 hi2 hnc hic ⊢
  clear hM hi2
  have hi2 : ((i : Int) + 1 ≤ (i : Int) + (M : Int) + 1) = True := by simp; omega
  go_enter Tryz.func89, Tryz.ntmps89
  go_wp2_with fail
  go_region_law (refine step_append_room rfl (.tmp 22) (.tmp 25) 23 rfl 44 i0 7 fitEC.ht hi0 hz1 g 0 i cap (by simp [Act.eval, Act.put]) A M (cap - (i + 1)) news (by simp [Act.eval, Act.put]) s1.out hsrcA.out s2.out (by omega) s3.out ?_; rw [← HX.out])
  go_wp2
  go_ret
  exact ⟨rfl, Y1.out, Y2.out⟩
end Go.Proofs.YtkennmpbmbacpaaGreatDoor
