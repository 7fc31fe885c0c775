/- slices.Insert and slices.Delete on rows of the call's own (a node's names and kids). -/
import Derived.Test.YtkennmpbmbacpaaGreatDoorKidI
import Derived.Test.YtkennmpbmbacpaaGreatDoorMG
import Derived.Lib.OwnBridge
set_option linter.unusedSimpArgs false
set_option linter.unusedVariables false
set_option linter.unusedSectionVars false
namespace Go.Proofs.YtkennmpbmbacpaaGreatDoor
open Go.RowKit

theorem setCells_block {g : Nat} {T : TypeId} {fr : Nat × Nat} : ∀ (vs : List Value) (o : Nat) (w : World) (cur : Array Value), w.heap[g]? = some (.cells cur T fr) → ∃ cur', (w.setCells g o vs).heap[g]? = some (.cells cur' T fr) ∧ cur'.size = cur.size
  | [], _, _, cur, h => ⟨cur, h, rfl⟩
  | v :: r, o, w, cur, h => by
    have h1 : (w.setCell ⟨g, o, none⟩ v).heap[g]? = some (.cells (cur.setIfInBounds o v) T fr) := by
      simp [World.setCell, Array.getElem?_modify, h]
    obtain ⟨c, h2, h3⟩ := setCells_block r (o + 1) _ _ h1
    exact ⟨c, h2, by rw [h3]; simp⟩
theorem setCells_grown {g : Nat} : ∀ (vs : List Value) (o : Nat) (w w0 : World), w0.grownBy w (some g) → w0.grownBy (w.setCells g o vs) (some g)
  | [], _, _, _, h => h
  | v :: r, o, w, w0, h => setCells_grown r (o + 1) _ w0 (Lib.grownBy_setB h o v)
theorem grown_drew {w w' : World} {row : Option Nat} (h : w.grownBy w' row) : w.grownBy w'.drew row := ⟨h.os, h.tape, h.output, h.size, h.block⟩
/-- What lies in new blocks alone is grown whatever the row. -/
theorem grown_new {w w' : World} {g : Nat} (h : w.grownBy w' (some g)) (hg : w.heap.size ≤ g) (row : Option Nat) : w.grownBy w' row :=
  ⟨h.os, h.tape, h.output, h.size, fun k hk _ => h.block k hk (fun e => by injection e with e; omega)⟩
theorem own1_of {α : Type} {E : Lay α} (hz : E.z = 1) {T : TypeId} {B g cap n : Nat} {w : World} {cur : Array Value} {L : List α} (hB : B ≤ g) (h : w.heap[g]? = some (.cells cur T (0, 0))) (hn : n = L.length) (hL : L.length ≤ cap) (hc : cap ≤ maxLen) (hs : cur.size = cap)
    (hat : ∀ j u, (L.flatMap E.put)[j]? = some u → w.cell? ⟨g, j, none⟩ = some u) : OwnG E T B w (.slice (some ⟨g, 0, none⟩) n cap) L := by
  subst hn
  have hl : (L.flatMap E.put).length = L.length := by rw [flat_len, hz, Nat.mul_one]
  refine ⟨by rw [flat_len], .inr ⟨g, cap, cur, rfl, hB, h, hL, hc, by rw [hs, hz, Nat.mul_one], ?_⟩⟩
  apply List.ext_getElem?
  intro j
  rw [List.getElem?_take, hz, Nat.mul_one]
  by_cases hj : j < L.length
  · rw [if_pos hj]
    have e : (L.flatMap E.put)[j]? = some ((L.flatMap E.put)[j]'(by omega)) := List.getElem?_eq_getElem _
    have h2 := hat j _ e
    rw [e]
    simpa [World.cell?, h] using h2
  · rw [if_neg hj, List.getElem?_eq_none (by omega)]
theorem cell_new {w : World} {c : Array Value} {T : TypeId} (j : Nat) : (w.alloc (.cells c T)).cell? ⟨w.heap.size, j, none⟩ = c[j]? := by
  have h : (w.alloc (.cells c T)).heap[w.heap.size]? = some (.cells c T (0, 0)) := heap_alloc_new w _
  unfold World.cell?
  simp only [h]
  rfl
theorem zero_size {v : Value} (h : v.cells.size = 1) (n : Nat) : (Builtin.zeroCells v.cells n).size = n := by
  simp [Builtin.zeroCells, h]
theorem insN_flat (l : List (List UInt8)) : l.flatMap EL.put = l.map (fun s => Value.string (mk s)) := by
  induction l with
  | nil => rfl
  | cons a r ih => rw [List.flatMap_cons, ih]; rfl
set_option maxHeartbeats 4000000 in
theorem insN_of (nA : Option Addr) (nC : Nat) (l : List (List UInt8)) (i : Nat) (s : List UInt8) (vb : Nat) (T : TypeId) (w : World) (B : Nat) (hO : OwnG EL 9 B w (.slice nA l.length nC) l) (hi : i ≤ l.length) (hl : l.length ≤ 1000000) (hv : w.heap[vb]? = some (.cells #[Value.string (mk s)] T (0, 0))) (hne : (Value.slice nA l.length nC).ownBlock ≠ some vb) (hB : B ≤ w.heap.size) :
    Calls Tryz.prog 103 #[.slice nA l.length nC, .int .i64 i, .slice (some ⟨vb, 0, none⟩) 1 1] w fun e w' => ∃ A' c', e = .returned (.slice A' (l.length + 1) c') ∧ AppG EL 9 w B (.slice nA l.length nC) (l.take i ++ s :: l.drop i) (.slice A' (l.length + 1) c') w' := by
  have hvc : ∀ j v, [Value.string (mk s)][j]? = some v → w.cell? ⟨vb, 0 + j, none⟩ = some v := by
    intro j v hj
    rcases j with _ | j
    · simp at hj; subst hj; simp [World.cell?, hv]
    · simp at hj
  have hv1 : ∀ v ∈ [Value.string (mk s)], v.oneCell' = true := by intro v hv; simp at hv; subst hv; rfl
  have hL : (l.take i ++ s :: l.drop i).length = l.length + 1 := by simp; omega
  have hmx : (9223372036854775807 : Nat) = maxLen := rfl
  obtain ⟨cs, hcs⟩ : ∃ cs, cs = l.flatMap EL.put := ⟨_, rfl⟩
  have hcl : cs.length = l.length := by rw [hcs, flat_len]; exact Nat.mul_one _
  have hc1 : ∀ v ∈ cs, v.oneCell' = true := by rw [hcs]; exact flat_one l
  have hfl : (l.take i ++ s :: l.drop i).flatMap EL.put = cs.take i ++ Value.string (mk s) :: cs.drop i := by
    rw [hcs, insN_flat, insN_flat]; simp [List.map_take, List.map_drop]
  -- a new block
  have hnew : ∀ (w1 w' : World) (c0 : Array Value) (cap : Nat), w.heap.size = w1.heap.size → w.grownBy w' (some w.heap.size) → (∃ cur, w'.heap[w.heap.size]? = some (.cells cur 9 (0, 0)) ∧ cur.size = cap) → l.length + 1 ≤ cap → cap ≤ maxLen → (∀ j u, (cs.take i ++ Value.string (mk s) :: cs.drop i)[j]? = some u → w'.cell? ⟨w.heap.size, j, none⟩ = some u) →
      AppG EL 9 w B (.slice nA l.length nC) (l.take i ++ s :: l.drop i) (.slice (some ⟨w.heap.size, 0, none⟩) (l.length + 1) cap) w' := by
    intro w1 w' c0 cap _ hg ⟨cur, h1, h2⟩ h3 h4 h5
    exact ⟨own1_of rfl hB h1 hL.symm (by omega) h4 h2 (by rw [hfl]; exact h5), grown_new hg (Nat.le_refl _) _, .inr rfl⟩
  rcases hO.2 with ⟨e0, hn0⟩ | ⟨g, cap, cur, e0, hBg, hg, hlc, hcm, hsz, htk⟩
  · injection e0 with e1 _ e3
    subst e1 e3
    have hl0 : l = [] := List.length_eq_zero_iff.1 hn0
    subst hl0
    obtain rfl : i = 0 := by simpa using hi
    have hcs0 : cs = [] := by simpa using hcl
    have h := Tryz.slices_Insert_string_end_grow none 0 0 vb 0 1 1 [] [Value.string (mk s)] w (by omega) (by omega) (by omega) (by omega) rfl rfl (fun _ => rfl) (fun a ha => by cases ha) hvc hv1
    refine h.mono ?_
    rintro e w' ⟨rfl, rfl⟩
    refine ⟨_, _, rfl, hnew w _ #[] _ rfl ?_ ⟨_, heap_alloc_new w.drew _, ?_⟩ (grownCap_ge w _ _ _) (grownCap_le_maxLen w _ _ _ (by decide)) ?_⟩
    · exact grown_drew (World.grownBy_alloc w _ _)
    · have := grownCap_ge w 1 0 9
      simp [zero_size (v := (Value.string ⟨#[]⟩)) rfl]; omega
    · rw [hcs0]
      intro j u hj
      rcases j with _ | j
      · simp at hj; subst hj
        refine (cell_new (w := w.drew) 0).trans ?_
        rw [Array.getElem?_append_left (by simp)]
        rfl
      · simp at hj
  · injection e0 with e1 e2 e3
    subst e1 e3
    have hgw : g < w.heap.size := (Array.getElem?_eq_some_iff.1 hg).1
    have hvg : vb ≠ g := fun e => hne (by rw [e]; rfl)
    have hsz1 : cur.size = nC := by rw [hsz]; exact Nat.mul_one _
    have hcell : ∀ j, w.cell? ⟨g, 0 + j, none⟩ = cur[j]? := fun j => by rw [Nat.zero_add]; simp [World.cell?, hg]
    have hcc : ∀ j v, cs[j]? = some v → w.cell? ⟨g, 0 + j, none⟩ = some v := by
      intro j v hj
      rw [Nat.zero_add, hO.cellAt j (by have := (List.getElem?_eq_some_iff.1 hj).1; show j < l.length * 1; omega), ← hcs]
      exact hj
    have hsome : ∀ j, j < nC → (w.cell? ⟨g, 0 + j, none⟩).isSome = true := fun j hj => by rw [hcell, Array.getElem?_eq_getElem (by omega)]; rfl
    have hfz : ∀ j, w.frozen? ⟨g, j, none⟩ = false := fun j => by simp [World.frozen?, hg]
    have hin : ∀ (w' : World) (cur' : Array Value), w.grownBy w' (some g) → w'.heap[g]? = some (.cells cur' 9 (0, 0)) → cur'.size = nC → l.length + 1 ≤ nC → (∀ j u, (cs.take i ++ Value.string (mk s) :: cs.drop i)[j]? = some u → w'.cell? ⟨g, j, none⟩ = some u) →
        AppG EL 9 w B (.slice (some ⟨g, 0, none⟩) l.length nC) (l.take i ++ s :: l.drop i) (.slice (some ⟨g, 0, none⟩) (l.length + 1) nC) w' := by
      intro w' cur' hgr h1 h2 h3 h4
      exact ⟨own1_of rfl hBg h1 hL.symm (by omega) hcm h2 (by rw [hfl]; exact h4), hgr, .inl rfl⟩
    by_cases hend : i = l.length
    · subst hend
      have hcell2 : ∀ (w' : World), (∀ j v, j < l.length → cs[j]? = some v → w'.cell? ⟨g, j, none⟩ = some v) → w'.cell? ⟨g, l.length, none⟩ = some (Value.string (mk s)) → ∀ j u, (cs.take l.length ++ Value.string (mk s) :: cs.drop l.length)[j]? = some u → w'.cell? ⟨g, j, none⟩ = some u := by
        intro w' h1 h2 j u hj
        rw [List.take_of_length_le (by omega), List.drop_of_length_le (by omega)] at hj
        by_cases hjl : j < l.length
        · rw [List.getElem?_append_left (by omega)] at hj
          exact h1 j u hjl hj
        · have hj2 := (List.getElem?_eq_some_iff.1 hj).1
          simp at hj2
          obtain rfl : j = l.length := by omega
          rw [List.getElem?_append_right (by omega), hcl, Nat.sub_self] at hj
          simp at hj; subst hj; exact h2
      by_cases hroom : l.length + 1 ≤ nC
      · have h := Tryz.slices_Insert_string_end_room g 0 l.length nC vb 0 1 1 [Value.string (mk s)] w (by omega) hroom (by rw [hmx]; exact hcm) rfl (fun j hj => by have := hsome (l.length + j) (by omega); rwa [← Nat.add_assoc] at this) (fun j _ => hfz _) hvc hv1
        refine h.mono ?_
        rintro e w' ⟨rfl, rfl⟩
        obtain ⟨c2, k1, k2⟩ := setCells_block [Value.string (mk s)] (0 + l.length) w cur hg
        refine ⟨_, _, rfl, hin _ c2 (setCells_grown _ _ _ _ (World.grownBy.refl _ _)) k1 (by omega) hroom (hcell2 _ (fun j v hj hv => ?_) ?_)⟩
        · rw [World.cell?_setCells_out g _ _ _ _ (fun _ _ => .inl (by show j < 0 + l.length; omega))]
          have := hcc j v hv
          rwa [Nat.zero_add] at this
        · have := World.cell?_setCells_in g [Value.string (mk s)] (0 + l.length) w (fun j hj => by have := hsome (l.length + j) (by simp at hj; omega); rwa [← Nat.add_assoc] at this) 0 (by simp)
          simpa using this
      · have h := Tryz.slices_Insert_string_end_grow (some ⟨g, 0, none⟩) l.length nC vb 0 1 1 cs [Value.string (mk s)] w (by omega) hlc (by omega) (by omega) hcl rfl (fun e => by cases e) (fun a ha j v hj => by cases ha; rw [Addr.add_lit]; exact hcc j v hj) hvc hv1
        refine h.mono ?_
        rintro e w' ⟨rfl, rfl⟩
        refine ⟨_, _, rfl, hnew w _ #[] _ rfl ?_ ⟨_, heap_alloc_new w.drew _, ?_⟩ (grownCap_ge w _ _ _) (grownCap_le_maxLen w _ _ _ (by unfold maxLen; omega)) ?_⟩
        · exact grown_drew (World.grownBy_alloc w _ _)
        · have := grownCap_ge w (l.length + 1) nC 9
          simp [zero_size (v := (Value.string ⟨#[]⟩)) rfl]; omega
        · intro j u hj
          rw [List.take_of_length_le (by omega), List.drop_of_length_le (by omega)] at hj
          have hj2 := (List.getElem?_eq_some_iff.1 hj).1
          have e : (w.drew.alloc (.cells ((cs ++ [Value.string (mk s)]).toArray ++ Builtin.zeroCells (Value.string ⟨#[]⟩).cells (grownCap w (l.length + 1) nC 9 - (l.length + 1))) 9)).cell? ⟨w.heap.size, j, none⟩ = ((cs ++ [Value.string (mk s)]).toArray ++ Builtin.zeroCells (Value.string ⟨#[]⟩).cells (grownCap w (l.length + 1) nC 9 - (l.length + 1)))[j]? := by
            exact cell_new (w := w.drew) j
          rw [e, Array.getElem?_append_left (by simpa using hj2)]
          simpa using hj
    · have hilt : i < l.length := by omega
      have hdl : (cs.drop i).length = l.length - i := by rw [List.length_drop, hcl]
      by_cases hroom : l.length + 1 ≤ nC
      · have h := Tryz.slices_Insert_string_shift g 0 l.length nC i vb 0 1 1 cs [Value.string (mk s)] w hilt (by omega) hroom (by rw [hmx]; exact hcm) hvg hcl rfl hcc (fun j hj => hsome j (by omega)) (fun j _ => hfz _) hvc hc1 hv1 T 9 1 nC (by simp [World.shape?, hv]) (by simp [World.shape?, hg, hsz1]) (by omega) (by simp [World.frozen?, hv]) (by simp [World.frozen?, hv])
        refine h.mono ?_
        rintro e w' ⟨rfl, rfl⟩
        obtain ⟨c2, k1, k2⟩ := setCells_block (cs.drop i) (0 + (i + 1)) w.drew cur hg
        obtain ⟨c3, m1, m2⟩ := setCells_block [Value.string (mk s)] (0 + i) (w.drew.setCells g (0 + (i + 1)) (cs.drop i)) c2 k1
        refine ⟨_, _, rfl, hin _ c3 (setCells_grown _ _ _ _ (setCells_grown _ _ _ _ (grown_drew (World.grownBy.refl _ _)))) m1 (by omega) hroom ?_⟩
        have hs1 : ∀ j, j < (cs.drop i).length → (w.drew.cell? ⟨g, 0 + (i + 1) + j, none⟩).isSome = true := fun j hj => by
          have := hsome (i + 1 + j) (by omega)
          rwa [← Nat.add_assoc] at this
        have hs2 : ∀ j, j < [Value.string (mk s)].length → ((w.drew.setCells g (0 + (i + 1)) (cs.drop i)).cell? ⟨g, 0 + i + j, none⟩).isSome = true := fun j hj => by
          simp at hj; subst hj
          rw [World.cell?_setCells_out g _ _ _ _ (fun _ _ => .inl (by show 0 + i + 0 < 0 + (i + 1); omega))]
          have := hsome i (by omega)
          exact this
        intro j u hj
        rcases Nat.lt_trichotomy j i with hji | hji | hji
        · rw [List.getElem?_append_left (by rw [List.length_take]; omega), List.getElem?_take, if_pos hji] at hj
          rw [World.cell?_setCells_out g _ _ _ _ (fun _ _ => .inl (by show j < 0 + i; omega)), World.cell?_setCells_out g _ _ _ _ (fun _ _ => .inl (by show j < 0 + (i + 1); omega))]
          have := hcc j u hj
          rwa [Nat.zero_add] at this
        · subst hji
          rw [List.getElem?_append_right (by rw [List.length_take]; omega), List.length_take, show j - min j cs.length = 0 by omega] at hj
          simp at hj; subst hj
          have := World.cell?_setCells_in g [Value.string (mk s)] (0 + j) _ hs2 0 (by simp)
          simpa using this
        · rw [List.getElem?_append_right (by rw [List.length_take]; omega), List.length_take, show j - min i cs.length = (j - i - 1) + 1 by omega, List.getElem?_cons_succ] at hj
          have hj2 := (List.getElem?_eq_some_iff.1 hj).1
          rw [World.cell?_setCells_out g _ _ _ _ (fun _ _ => .inr (by show 0 + i + 1 ≤ j; omega))]
          have := World.cell?_setCells_in g (cs.drop i) (0 + (i + 1)) w.drew hs1 (j - i - 1) hj2
          rw [show 0 + (i + 1) + (j - i - 1) = j by omega] at this
          rw [this]
          rw [List.getElem?_eq_getElem hj2] at hj
          exact hj
      · have h := Tryz.slices_Insert_string_grow g 0 l.length nC i vb 0 1 1 cs [Value.string (mk s)] w hilt (by omega) hlc (by omega) (by omega) hcl rfl hcc hvc hc1 hv1
        refine h.mono ?_
        rintro e w' ⟨rfl, rfl⟩
        have hcap := grownCap_ge w (l.length + 1) nC 9
        obtain ⟨O, hO1⟩ : ∃ O : Array Value, O = (cs.take i).toArray ++ Builtin.zeroCells (Value.string ⟨#[]⟩).cells (l.length + 1 - i) ++ Builtin.zeroCells (Value.string ⟨#[]⟩).cells (grownCap w (l.length + 1) nC 9 - (l.length + 1)) := ⟨_, rfl⟩
        have hOs : O.size = grownCap w (l.length + 1) nC 9 := by
          rw [hO1]
          simp [zero_size (v := (Value.string ⟨#[]⟩)) rfl]; omega
        have hO0 : ∀ j v, j < i → cs[j]? = some v → O[j]? = some v := by
          intro j v hj hv
          rw [hO1, Array.append_assoc, Array.getElem?_append_left (by simp; omega)]
          simp [hj, hv]
        rw [← hO1]
        have b0 : (w.alloc (.cells O 9)).drew.heap[w.heap.size]? = some (.cells O 9 (0, 0)) := heap_alloc_new w _
        have a0 : ∀ j, (w.alloc (.cells O 9)).drew.cell? ⟨w.heap.size, j, none⟩ = O[j]? := fun j => cell_new (w := w) j
        obtain ⟨c2, k1, k2⟩ := setCells_block [Value.string (mk s)] i _ O b0
        obtain ⟨c3, m1, m2⟩ := setCells_block (cs.drop i) (i + 1) (((w.alloc (.cells O 9)).drew.setCells w.heap.size i [Value.string (mk s)]).drew) c2 k1
        refine ⟨_, _, rfl, hnew w _ #[] _ rfl (setCells_grown _ _ _ _ (grown_drew (setCells_grown _ _ _ _ (grown_drew (World.grownBy_alloc w _ _))))) ⟨c3, m1, by omega⟩ hcap (grownCap_le_maxLen w _ _ _ (by unfold maxLen; omega)) ?_⟩
        have hs0 : ∀ j, j < [Value.string (mk s)].length → ((w.alloc (.cells O 9)).drew.cell? ⟨w.heap.size, i + j, none⟩).isSome = true := fun j hj => by
          simp at hj; subst hj
          rw [a0, Array.getElem?_eq_getElem (by omega)]; rfl
        have hs1 : ∀ j, j < (cs.drop i).length → ((((w.alloc (.cells O 9)).drew.setCells w.heap.size i [Value.string (mk s)]).drew).cell? ⟨w.heap.size, i + 1 + j, none⟩).isSome = true := fun j hj => by
          show (((w.alloc (.cells O 9)).drew.setCells w.heap.size i [Value.string (mk s)]).cell? ⟨w.heap.size, i + 1 + j, none⟩).isSome = true
          rw [World.cell?_setCells_out _ _ _ _ _ (fun _ _ => .inr (by show i + 1 ≤ i + 1 + j; omega)), a0, Array.getElem?_eq_getElem (by omega)]; rfl
        intro j u hj
        rcases Nat.lt_trichotomy j i with hji | hji | hji
        · rw [List.getElem?_append_left (by rw [List.length_take]; omega), List.getElem?_take, if_pos hji] at hj
          rw [World.cell?_setCells_out _ _ _ _ _ (fun _ _ => .inl (by show j < i + 1; omega))]
          show ((w.alloc (.cells O 9)).drew.setCells w.heap.size i [Value.string (mk s)]).cell? _ = _
          rw [World.cell?_setCells_out _ _ _ _ _ (fun _ _ => .inl (by show j < i; omega)), a0]
          exact hO0 j u hji hj
        · subst hji
          rw [List.getElem?_append_right (by rw [List.length_take]; omega), List.length_take, show j - min j cs.length = 0 by omega] at hj
          simp at hj; subst hj
          rw [World.cell?_setCells_out _ _ _ _ _ (fun _ _ => .inl (by show j < j + 1; omega))]
          have := World.cell?_setCells_in w.heap.size [Value.string (mk s)] j _ hs0 0 (by simp)
          simpa using this
        · rw [List.getElem?_append_right (by rw [List.length_take]; omega), List.length_take, show j - min i cs.length = (j - i - 1) + 1 by omega, List.getElem?_cons_succ] at hj
          have hj2 := (List.getElem?_eq_some_iff.1 hj).1
          have := World.cell?_setCells_in w.heap.size (cs.drop i) (i + 1) _ hs1 (j - i - 1) hj2
          rw [show i + 1 + (j - i - 1) = j by omega] at this
          rw [this]
          rw [List.getElem?_eq_getElem hj2] at hj
          exact hj
theorem insK_flat (l : List (Int)) : l.flatMap EI.put = l.map (fun s => Value.int .i64 s) := by
  induction l with
  | nil => rfl
  | cons a r ih => rw [List.flatMap_cons, ih]; rfl
set_option maxHeartbeats 4000000 in
theorem insK_of (nA : Option Addr) (nC : Nat) (l : List (Int)) (i : Nat) (s : Int) (vb : Nat) (T : TypeId) (w : World) (B : Nat) (hO : OwnG EI 3 B w (.slice nA l.length nC) l) (hi : i ≤ l.length) (hl : l.length ≤ 1000000) (hv : w.heap[vb]? = some (.cells #[Value.int .i64 s] T (0, 0))) (hne : (Value.slice nA l.length nC).ownBlock ≠ some vb) (hB : B ≤ w.heap.size) :
    Calls Tryz.prog 104 #[.slice nA l.length nC, .int .i64 i, .slice (some ⟨vb, 0, none⟩) 1 1] w fun e w' => ∃ A' c', e = .returned (.slice A' (l.length + 1) c') ∧ AppG EI 3 w B (.slice nA l.length nC) (l.take i ++ s :: l.drop i) (.slice A' (l.length + 1) c') w' := by
  have hvc : ∀ j v, [Value.int .i64 s][j]? = some v → w.cell? ⟨vb, 0 + j, none⟩ = some v := by
    intro j v hj
    rcases j with _ | j
    · simp at hj; subst hj; simp [World.cell?, hv]
    · simp at hj
  have hv1 : ∀ v ∈ [Value.int .i64 s], v.oneCell' = true := by intro v hv; simp at hv; subst hv; rfl
  have hL : (l.take i ++ s :: l.drop i).length = l.length + 1 := by simp; omega
  have hmx : (9223372036854775807 : Nat) = maxLen := rfl
  obtain ⟨cs, hcs⟩ : ∃ cs, cs = l.flatMap EI.put := ⟨_, rfl⟩
  have hcl : cs.length = l.length := by rw [hcs, flat_len]; exact Nat.mul_one _
  have hc1 : ∀ v ∈ cs, v.oneCell' = true := by rw [hcs]; exact flat_one l
  have hfl : (l.take i ++ s :: l.drop i).flatMap EI.put = cs.take i ++ Value.int .i64 s :: cs.drop i := by
    rw [hcs, insK_flat, insK_flat]; simp [List.map_take, List.map_drop]
  -- a new block
  have hnew : ∀ (w1 w' : World) (c0 : Array Value) (cap : Nat), w.heap.size = w1.heap.size → w.grownBy w' (some w.heap.size) → (∃ cur, w'.heap[w.heap.size]? = some (.cells cur 3 (0, 0)) ∧ cur.size = cap) → l.length + 1 ≤ cap → cap ≤ maxLen → (∀ j u, (cs.take i ++ Value.int .i64 s :: cs.drop i)[j]? = some u → w'.cell? ⟨w.heap.size, j, none⟩ = some u) →
      AppG EI 3 w B (.slice nA l.length nC) (l.take i ++ s :: l.drop i) (.slice (some ⟨w.heap.size, 0, none⟩) (l.length + 1) cap) w' := by
    intro w1 w' c0 cap _ hg ⟨cur, h1, h2⟩ h3 h4 h5
    exact ⟨own1_of rfl hB h1 hL.symm (by omega) h4 h2 (by rw [hfl]; exact h5), grown_new hg (Nat.le_refl _) _, .inr rfl⟩
  rcases hO.2 with ⟨e0, hn0⟩ | ⟨g, cap, cur, e0, hBg, hg, hlc, hcm, hsz, htk⟩
  · injection e0 with e1 _ e3
    subst e1 e3
    have hl0 : l = [] := List.length_eq_zero_iff.1 hn0
    subst hl0
    obtain rfl : i = 0 := by simpa using hi
    have hcs0 : cs = [] := by simpa using hcl
    have h := Tryz.slices_Insert_int_end_grow none 0 0 vb 0 1 1 [] [Value.int .i64 s] w (by omega) (by omega) (by omega) (by omega) rfl rfl (fun _ => rfl) (fun a ha => by cases ha) hvc hv1
    refine h.mono ?_
    rintro e w' ⟨rfl, rfl⟩
    refine ⟨_, _, rfl, hnew w _ #[] _ rfl ?_ ⟨_, heap_alloc_new w.drew _, ?_⟩ (grownCap_ge w _ _ _) (grownCap_le_maxLen w _ _ _ (by decide)) ?_⟩
    · exact grown_drew (World.grownBy_alloc w _ _)
    · have := grownCap_ge w 1 0 3
      simp [zero_size (v := (Value.int .i64 0)) rfl]; omega
    · rw [hcs0]
      intro j u hj
      rcases j with _ | j
      · simp at hj; subst hj
        refine (cell_new (w := w.drew) 0).trans ?_
        rw [Array.getElem?_append_left (by simp)]
        rfl
      · simp at hj
  · injection e0 with e1 e2 e3
    subst e1 e3
    have hgw : g < w.heap.size := (Array.getElem?_eq_some_iff.1 hg).1
    have hvg : vb ≠ g := fun e => hne (by rw [e]; rfl)
    have hsz1 : cur.size = nC := by rw [hsz]; exact Nat.mul_one _
    have hcell : ∀ j, w.cell? ⟨g, 0 + j, none⟩ = cur[j]? := fun j => by rw [Nat.zero_add]; simp [World.cell?, hg]
    have hcc : ∀ j v, cs[j]? = some v → w.cell? ⟨g, 0 + j, none⟩ = some v := by
      intro j v hj
      rw [Nat.zero_add, hO.cellAt j (by have := (List.getElem?_eq_some_iff.1 hj).1; show j < l.length * 1; omega), ← hcs]
      exact hj
    have hsome : ∀ j, j < nC → (w.cell? ⟨g, 0 + j, none⟩).isSome = true := fun j hj => by rw [hcell, Array.getElem?_eq_getElem (by omega)]; rfl
    have hfz : ∀ j, w.frozen? ⟨g, j, none⟩ = false := fun j => by simp [World.frozen?, hg]
    have hin : ∀ (w' : World) (cur' : Array Value), w.grownBy w' (some g) → w'.heap[g]? = some (.cells cur' 3 (0, 0)) → cur'.size = nC → l.length + 1 ≤ nC → (∀ j u, (cs.take i ++ Value.int .i64 s :: cs.drop i)[j]? = some u → w'.cell? ⟨g, j, none⟩ = some u) →
        AppG EI 3 w B (.slice (some ⟨g, 0, none⟩) l.length nC) (l.take i ++ s :: l.drop i) (.slice (some ⟨g, 0, none⟩) (l.length + 1) nC) w' := by
      intro w' cur' hgr h1 h2 h3 h4
      exact ⟨own1_of rfl hBg h1 hL.symm (by omega) hcm h2 (by rw [hfl]; exact h4), hgr, .inl rfl⟩
    by_cases hend : i = l.length
    · subst hend
      have hcell2 : ∀ (w' : World), (∀ j v, j < l.length → cs[j]? = some v → w'.cell? ⟨g, j, none⟩ = some v) → w'.cell? ⟨g, l.length, none⟩ = some (Value.int .i64 s) → ∀ j u, (cs.take l.length ++ Value.int .i64 s :: cs.drop l.length)[j]? = some u → w'.cell? ⟨g, j, none⟩ = some u := by
        intro w' h1 h2 j u hj
        rw [List.take_of_length_le (by omega), List.drop_of_length_le (by omega)] at hj
        by_cases hjl : j < l.length
        · rw [List.getElem?_append_left (by omega)] at hj
          exact h1 j u hjl hj
        · have hj2 := (List.getElem?_eq_some_iff.1 hj).1
          simp at hj2
          obtain rfl : j = l.length := by omega
          rw [List.getElem?_append_right (by omega), hcl, Nat.sub_self] at hj
          simp at hj; subst hj; exact h2
      by_cases hroom : l.length + 1 ≤ nC
      · have h := Tryz.slices_Insert_int_end_room g 0 l.length nC vb 0 1 1 [Value.int .i64 s] w (by omega) hroom (by rw [hmx]; exact hcm) rfl (fun j hj => by have := hsome (l.length + j) (by omega); rwa [← Nat.add_assoc] at this) (fun j _ => hfz _) hvc hv1
        refine h.mono ?_
        rintro e w' ⟨rfl, rfl⟩
        obtain ⟨c2, k1, k2⟩ := setCells_block [Value.int .i64 s] (0 + l.length) w cur hg
        refine ⟨_, _, rfl, hin _ c2 (setCells_grown _ _ _ _ (World.grownBy.refl _ _)) k1 (by omega) hroom (hcell2 _ (fun j v hj hv => ?_) ?_)⟩
        · rw [World.cell?_setCells_out g _ _ _ _ (fun _ _ => .inl (by show j < 0 + l.length; omega))]
          have := hcc j v hv
          rwa [Nat.zero_add] at this
        · have := World.cell?_setCells_in g [Value.int .i64 s] (0 + l.length) w (fun j hj => by have := hsome (l.length + j) (by simp at hj; omega); rwa [← Nat.add_assoc] at this) 0 (by simp)
          simpa using this
      · have h := Tryz.slices_Insert_int_end_grow (some ⟨g, 0, none⟩) l.length nC vb 0 1 1 cs [Value.int .i64 s] w (by omega) hlc (by omega) (by omega) hcl rfl (fun e => by cases e) (fun a ha j v hj => by cases ha; rw [Addr.add_lit]; exact hcc j v hj) hvc hv1
        refine h.mono ?_
        rintro e w' ⟨rfl, rfl⟩
        refine ⟨_, _, rfl, hnew w _ #[] _ rfl ?_ ⟨_, heap_alloc_new w.drew _, ?_⟩ (grownCap_ge w _ _ _) (grownCap_le_maxLen w _ _ _ (by unfold maxLen; omega)) ?_⟩
        · exact grown_drew (World.grownBy_alloc w _ _)
        · have := grownCap_ge w (l.length + 1) nC 3
          simp [zero_size (v := (Value.int .i64 0)) rfl]; omega
        · intro j u hj
          rw [List.take_of_length_le (by omega), List.drop_of_length_le (by omega)] at hj
          have hj2 := (List.getElem?_eq_some_iff.1 hj).1
          have e : (w.drew.alloc (.cells ((cs ++ [Value.int .i64 s]).toArray ++ Builtin.zeroCells (Value.int .i64 0).cells (grownCap w (l.length + 1) nC 3 - (l.length + 1))) 3)).cell? ⟨w.heap.size, j, none⟩ = ((cs ++ [Value.int .i64 s]).toArray ++ Builtin.zeroCells (Value.int .i64 0).cells (grownCap w (l.length + 1) nC 3 - (l.length + 1)))[j]? := by
            exact cell_new (w := w.drew) j
          rw [e, Array.getElem?_append_left (by simpa using hj2)]
          simpa using hj
    · have hilt : i < l.length := by omega
      have hdl : (cs.drop i).length = l.length - i := by rw [List.length_drop, hcl]
      by_cases hroom : l.length + 1 ≤ nC
      · have h := Tryz.slices_Insert_int_shift g 0 l.length nC i vb 0 1 1 cs [Value.int .i64 s] w hilt (by omega) hroom (by rw [hmx]; exact hcm) hvg hcl rfl hcc (fun j hj => hsome j (by omega)) (fun j _ => hfz _) hvc hc1 hv1 T 3 1 nC (by simp [World.shape?, hv]) (by simp [World.shape?, hg, hsz1]) (by omega) (by simp [World.frozen?, hv]) (by simp [World.frozen?, hv])
        refine h.mono ?_
        rintro e w' ⟨rfl, rfl⟩
        obtain ⟨c2, k1, k2⟩ := setCells_block (cs.drop i) (0 + (i + 1)) w.drew cur hg
        obtain ⟨c3, m1, m2⟩ := setCells_block [Value.int .i64 s] (0 + i) (w.drew.setCells g (0 + (i + 1)) (cs.drop i)) c2 k1
        refine ⟨_, _, rfl, hin _ c3 (setCells_grown _ _ _ _ (setCells_grown _ _ _ _ (grown_drew (World.grownBy.refl _ _)))) m1 (by omega) hroom ?_⟩
        have hs1 : ∀ j, j < (cs.drop i).length → (w.drew.cell? ⟨g, 0 + (i + 1) + j, none⟩).isSome = true := fun j hj => by
          have := hsome (i + 1 + j) (by omega)
          rwa [← Nat.add_assoc] at this
        have hs2 : ∀ j, j < [Value.int .i64 s].length → ((w.drew.setCells g (0 + (i + 1)) (cs.drop i)).cell? ⟨g, 0 + i + j, none⟩).isSome = true := fun j hj => by
          simp at hj; subst hj
          rw [World.cell?_setCells_out g _ _ _ _ (fun _ _ => .inl (by show 0 + i + 0 < 0 + (i + 1); omega))]
          have := hsome i (by omega)
          exact this
        intro j u hj
        rcases Nat.lt_trichotomy j i with hji | hji | hji
        · rw [List.getElem?_append_left (by rw [List.length_take]; omega), List.getElem?_take, if_pos hji] at hj
          rw [World.cell?_setCells_out g _ _ _ _ (fun _ _ => .inl (by show j < 0 + i; omega)), World.cell?_setCells_out g _ _ _ _ (fun _ _ => .inl (by show j < 0 + (i + 1); omega))]
          have := hcc j u hj
          rwa [Nat.zero_add] at this
        · subst hji
          rw [List.getElem?_append_right (by rw [List.length_take]; omega), List.length_take, show j - min j cs.length = 0 by omega] at hj
          simp at hj; subst hj
          have := World.cell?_setCells_in g [Value.int .i64 s] (0 + j) _ hs2 0 (by simp)
          simpa using this
        · rw [List.getElem?_append_right (by rw [List.length_take]; omega), List.length_take, show j - min i cs.length = (j - i - 1) + 1 by omega, List.getElem?_cons_succ] at hj
          have hj2 := (List.getElem?_eq_some_iff.1 hj).1
          rw [World.cell?_setCells_out g _ _ _ _ (fun _ _ => .inr (by show 0 + i + 1 ≤ j; omega))]
          have := World.cell?_setCells_in g (cs.drop i) (0 + (i + 1)) w.drew hs1 (j - i - 1) hj2
          rw [show 0 + (i + 1) + (j - i - 1) = j by omega] at this
          rw [this]
          rw [List.getElem?_eq_getElem hj2] at hj
          exact hj
      · have h := Tryz.slices_Insert_int_grow g 0 l.length nC i vb 0 1 1 cs [Value.int .i64 s] w hilt (by omega) hlc (by omega) (by omega) hcl rfl hcc hvc hc1 hv1
        refine h.mono ?_
        rintro e w' ⟨rfl, rfl⟩
        have hcap := grownCap_ge w (l.length + 1) nC 3
        obtain ⟨O, hO1⟩ : ∃ O : Array Value, O = (cs.take i).toArray ++ Builtin.zeroCells (Value.int .i64 0).cells (l.length + 1 - i) ++ Builtin.zeroCells (Value.int .i64 0).cells (grownCap w (l.length + 1) nC 3 - (l.length + 1)) := ⟨_, rfl⟩
        have hOs : O.size = grownCap w (l.length + 1) nC 3 := by
          rw [hO1]
          simp [zero_size (v := (Value.int .i64 0)) rfl]; omega
        have hO0 : ∀ j v, j < i → cs[j]? = some v → O[j]? = some v := by
          intro j v hj hv
          rw [hO1, Array.append_assoc, Array.getElem?_append_left (by simp; omega)]
          simp [hj, hv]
        rw [← hO1]
        have b0 : (w.alloc (.cells O 3)).drew.heap[w.heap.size]? = some (.cells O 3 (0, 0)) := heap_alloc_new w _
        have a0 : ∀ j, (w.alloc (.cells O 3)).drew.cell? ⟨w.heap.size, j, none⟩ = O[j]? := fun j => cell_new (w := w) j
        obtain ⟨c2, k1, k2⟩ := setCells_block [Value.int .i64 s] i _ O b0
        obtain ⟨c3, m1, m2⟩ := setCells_block (cs.drop i) (i + 1) (((w.alloc (.cells O 3)).drew.setCells w.heap.size i [Value.int .i64 s]).drew) c2 k1
        refine ⟨_, _, rfl, hnew w _ #[] _ rfl (setCells_grown _ _ _ _ (grown_drew (setCells_grown _ _ _ _ (grown_drew (World.grownBy_alloc w _ _))))) ⟨c3, m1, by omega⟩ hcap (grownCap_le_maxLen w _ _ _ (by unfold maxLen; omega)) ?_⟩
        have hs0 : ∀ j, j < [Value.int .i64 s].length → ((w.alloc (.cells O 3)).drew.cell? ⟨w.heap.size, i + j, none⟩).isSome = true := fun j hj => by
          simp at hj; subst hj
          rw [a0, Array.getElem?_eq_getElem (by omega)]; rfl
        have hs1 : ∀ j, j < (cs.drop i).length → ((((w.alloc (.cells O 3)).drew.setCells w.heap.size i [Value.int .i64 s]).drew).cell? ⟨w.heap.size, i + 1 + j, none⟩).isSome = true := fun j hj => by
          show (((w.alloc (.cells O 3)).drew.setCells w.heap.size i [Value.int .i64 s]).cell? ⟨w.heap.size, i + 1 + j, none⟩).isSome = true
          rw [World.cell?_setCells_out _ _ _ _ _ (fun _ _ => .inr (by show i + 1 ≤ i + 1 + j; omega)), a0, Array.getElem?_eq_getElem (by omega)]; rfl
        intro j u hj
        rcases Nat.lt_trichotomy j i with hji | hji | hji
        · rw [List.getElem?_append_left (by rw [List.length_take]; omega), List.getElem?_take, if_pos hji] at hj
          rw [World.cell?_setCells_out _ _ _ _ _ (fun _ _ => .inl (by show j < i + 1; omega))]
          show ((w.alloc (.cells O 3)).drew.setCells w.heap.size i [Value.int .i64 s]).cell? _ = _
          rw [World.cell?_setCells_out _ _ _ _ _ (fun _ _ => .inl (by show j < i; omega)), a0]
          exact hO0 j u hji hj
        · subst hji
          rw [List.getElem?_append_right (by rw [List.length_take]; omega), List.length_take, show j - min j cs.length = 0 by omega] at hj
          simp at hj; subst hj
          rw [World.cell?_setCells_out _ _ _ _ _ (fun _ _ => .inl (by show j < j + 1; omega))]
          have := World.cell?_setCells_in w.heap.size [Value.int .i64 s] j _ hs0 0 (by simp)
          simpa using this
        · rw [List.getElem?_append_right (by rw [List.length_take]; omega), List.length_take, show j - min i cs.length = (j - i - 1) + 1 by omega, List.getElem?_cons_succ] at hj
          have hj2 := (List.getElem?_eq_some_iff.1 hj).1
          have := World.cell?_setCells_in w.heap.size (cs.drop i) (i + 1) _ hs1 (j - i - 1) hj2
          rw [show i + 1 + (j - i - 1) = j by omega] at this
          rw [this]
          rw [List.getElem?_eq_getElem hj2] at hj
          exact hj
theorem delN_of (nA : Option Addr) (nC : Nat) (l : List (List UInt8)) (i : Nat) (w : World) (B : Nat) (hO : OwnG EL 9 B w (.slice nA l.length nC) l) (hi : i < l.length) (hB : B ≤ w.heap.size) :
    Calls Tryz.prog 85 #[.slice nA l.length nC, .int .i64 i, .int .i64 (i + 1 : Nat)] w fun e w' => e = .returned (.slice nA (l.length - 1) nC) ∧ AppG EL 9 w B (.slice nA l.length nC) (l.eraseIdx i) (.slice nA (l.length - 1) nC) w' := by
  have hf : ∀ l : List (List UInt8), l.flatMap EL.put = l.map encStr := by
    intro l
    induction l with
    | nil => rfl
    | cons a r ih => rw [List.flatMap_cons, ih]; rfl
  have hO' : w.ownsRow B 9 1 (.slice nA l.length nC) l.length (l.map encStr) := by
    have := hO
    unfold OwnG at this
    rw [hf] at this
    exact this
  obtain ⟨g, cap, e, hBg, hgw, hlc, hcm, _, hH⟩ := Lib.holds_of_ownsRow hO' (fun e => by injection e with _ e2 _; omega)
  injection e with e1 _ e3
  subst e1 e3
  refine (Tryz.slices_Delete_string g 0 nC i (i + 1) l w hH hlc hcm (by omega) (by omega)).mono ?_
  rintro e w' ⟨rfl, q, rfl⟩
  have hy : (l.take i ++ l.drop (i + 1) ++ List.replicate (i + 1 - i) default).length = l.length := by simp; omega
  have ho := Lib.ownsRow_putRow (q := q) (k := l.length - 1) hO' hy (by omega)
  have hL : (l.take i ++ l.drop (i + 1) ++ List.replicate (i + 1 - i) default).take (l.length - 1) = l.eraseIdx i := by
    rw [List.eraseIdx_eq_take_drop_succ, List.take_append_of_le_length (by simp; omega), List.take_of_length_le (by simp; omega)]
  rw [hL] at ho
  have hlen : (l.eraseIdx i).length = l.length - 1 := by rw [List.length_eraseIdx, if_pos hi]
  refine ⟨by rw [show i + 1 - i = 1 by omega], ?_, ?_, .inl rfl⟩
  · unfold OwnG
    rw [hf, hlen]
    exact ho
  · refine ⟨rfl, rfl, rfl, ?_, fun k hk hne => ?_⟩
    · simp [Go.Sort.putRow, Go.Sort.mapBlock, Go.Sort.ahead]
    · have : g ≠ k := fun e => hne (by rw [e]; rfl)
      simp [Go.Sort.putRow, Go.Sort.mapBlock, Go.Sort.ahead, Array.getElem?_modify, this]
theorem delK_of (nA : Option Addr) (nC : Nat) (l : List (Int)) (i : Nat) (w : World) (B : Nat) (hO : OwnG EI 3 B w (.slice nA l.length nC) l) (hi : i < l.length) (hB : B ≤ w.heap.size) :
    Calls Tryz.prog 86 #[.slice nA l.length nC, .int .i64 i, .int .i64 (i + 1 : Nat)] w fun e w' => e = .returned (.slice nA (l.length - 1) nC) ∧ AppG EI 3 w B (.slice nA l.length nC) (l.eraseIdx i) (.slice nA (l.length - 1) nC) w' := by
  have hf : ∀ l : List (Int), l.flatMap EI.put = l.map (Value.int .i64) := by
    intro l
    induction l with
    | nil => rfl
    | cons a r ih => rw [List.flatMap_cons, ih]; rfl
  have hO' : w.ownsRow B 3 1 (.slice nA l.length nC) l.length (l.map (Value.int .i64)) := by
    have := hO
    unfold OwnG at this
    rw [hf] at this
    exact this
  obtain ⟨g, cap, e, hBg, hgw, hlc, hcm, _, hH⟩ := Lib.holds_of_ownsRow hO' (fun e => by injection e with _ e2 _; omega)
  injection e with e1 _ e3
  subst e1 e3
  refine (Tryz.slices_Delete_int g 0 nC i (i + 1) l w hH hlc hcm (by omega) (by omega)).mono ?_
  rintro e w' ⟨rfl, q, rfl⟩
  have hy : (l.take i ++ l.drop (i + 1) ++ List.replicate (i + 1 - i) default).length = l.length := by simp; omega
  have ho := Lib.ownsRow_putRow (q := q) (k := l.length - 1) hO' hy (by omega)
  have hL : (l.take i ++ l.drop (i + 1) ++ List.replicate (i + 1 - i) default).take (l.length - 1) = l.eraseIdx i := by
    rw [List.eraseIdx_eq_take_drop_succ, List.take_append_of_le_length (by simp; omega), List.take_of_length_le (by simp; omega)]
  rw [hL] at ho
  have hlen : (l.eraseIdx i).length = l.length - 1 := by rw [List.length_eraseIdx, if_pos hi]
  refine ⟨by rw [show i + 1 - i = 1 by omega], ?_, ?_, .inl rfl⟩
  · unfold OwnG
    rw [hf, hlen]
    exact ho
  · refine ⟨rfl, rfl, rfl, ?_, fun k hk hne => ?_⟩
    · simp [Go.Sort.putRow, Go.Sort.mapBlock, Go.Sort.ahead]
    · have : g ≠ k := fun e => hne (by rw [e]; rfl)
      simp [Go.Sort.putRow, Go.Sort.mapBlock, Go.Sort.ahead, Array.getElem?_modify, this]
end Go.Proofs.YtkennmpbmbacpaaGreatDoor
