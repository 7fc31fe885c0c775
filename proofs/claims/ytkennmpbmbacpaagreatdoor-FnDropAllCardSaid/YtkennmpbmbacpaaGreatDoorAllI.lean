/- The package's DropAll. -/
import Derived.Test.YtkennmpbmbacpaaGreatDoorBackI
import Derived.Test.YtkennmpbmbacpaaGreatDoorDropI
import Derived.Test.YtkennmpbmbacpaaGreatDoorAllP
import Derived.Test.YtkennmpbmbacpaaGreatDoorFindI
set_option linter.unusedSimpArgs false
set_option linter.unusedVariables false
set_option linter.unusedSectionVars false
namespace Go.Proofs.YtkennmpbmbacpaaGreatDoor
open Go.RowKit Go.Shelf

attribute [local go_sem] Oper.semAt_some
section
variable {α : Type} {E : Lay α} {w w' : World} {row : Option Nat}
theorem slG_turn {v : Value} {l : List α} (h : SlG E w v l) (hg : w.grownBy w' row) (hr : ∀ r, row = some r → ∃ o : Obj, w.heap[r]? = some o ∧ o.isCells = false) : SlG E w' v l := by
  obtain ⟨A, cap, h1, h2, h3, h4⟩ := h
  exact ⟨A, cap, h1, h2, h3, h4.imp id fun ⟨b, off, e, hb, hat⟩ => ⟨b, off, e, Nat.lt_of_lt_of_le hb hg.size, fun i x hx j u hu => cell_kept (hat i x hx j u hu) hg hr⟩⟩
theorem treeR_turn {v : Value} {t : List Nd} (h : TreeR w v t) (hg : w.grownBy w' row) (hr : ∀ r, row = some r → ∃ o : Obj, w.heap[r]? = some o ∧ o.isCells = false) : TreeR w' v t := by
  obtain ⟨cs, h1, h2, h3⟩ := h
  exact ⟨cs, h1, slG_turn h2 hg hr, fun i c x hc hx => by
    have r := h3 i c x hc hx
    exact ⟨r.fo, r.ow, r.gr, r.mo, r.tx, slG_turn r.ns hg hr, slG_turn r.ks hg hr, r.sz, r.nz⟩⟩
theorem ownG_turn {T : TypeId} {B D : Nat} {v : Value} {l : List α} (h : OwnG E T B w v l) (hD : D < B) (hg : w.grownBy w' (some D)) : OwnG E T B w' v l := ownG_kept h hg (by
  unfold Sep
  cases e : v.ownBlock with
  | none => exact .inl rfl
  | some j => exact .inr (fun e' => by cases e'; have := (ownG_block h _ e).1; omega))
theorem treeO_turn {B D : Nat} {v : Value} {t : List Nd} (h : TreeO B w v t) (hD : D < B) (hg : w.grownBy w' (some D)) : TreeO B w' v t := by
  obtain ⟨cs, h1, h2, h3, h4⟩ := h
  exact ⟨cs, h1, ownG_turn h2 hD hg, fun i c x hc hx => by
    have hn := h3 i c x hc hx
    exact ⟨hn.fo, hn.ow, hn.gr, hn.mo, hn.tx, ownG_turn hn.ns hD hg, ownG_turn hn.ks hD hg, hn.sz, hn.nz⟩, h4⟩
theorem treeO_none (B : Nat) (w : World) : TreeO B w (.slice none 0 0) [] := ⟨[], treeC_empty (ownG_none _ _)⟩
theorem TreeO.set {B g i : Nat} {v u : Value} {t : List Nd} (h : TreeO B w v t) (hg : g < B) : TreeO B (w.setCell ⟨g, i, none⟩ u) v t := ⟨_, h.choose_spec.rset hg⟩
theorem keeps_below (h : Below w.heap.size w w') : KeepsOthers w w' := ⟨h.size, fun k o hk _ => (h.block k (Array.getElem?_eq_some_iff.1 hk).1).trans hk⟩
theorem lt_of_cell {p : Addr} {u : Value} (h : w.cell? p = some u) : p.block < w.heap.size := by
  rcases Nat.lt_or_ge p.block w.heap.size with h' | h'
  · exact h'
  · simp [World.cell?, Array.getElem?_eq_none h'] at h
theorem mk_app (a b : List UInt8) : mk a ++ mk b = mk (a ++ b) := (mk_list _).trans (congrArg mk (by rw [ByteArray.data_append, Array.toList_append, mk_data, mk_data]))
theorem backL_take {l : List (List UInt8)} {k : Nat} (h : k ≤ l.length) : backL l k = (backL l l.length).take k := by simp [backL, ← List.map_take, List.take_range, Nat.min_eq_left h]
theorem namesF_snoc (G : List Nd → List UInt8 → List Nd × Int) (s x : List UInt8) : ∀ (l : List (List UInt8)) (t : List Nd), (namesF G s t l).2 = 0 → namesF G s t (l ++ [x]) = if ¬ (G (namesF G s t l).1 (belowP s x)).2 = 0 then ([], (G (namesF G s t l).1 (belowP s x)).2) else ((G (namesF G s t l).1 (belowP s x)).1, 0)
  | [], _, _ => rfl
  | y :: r, t, h => by
    by_cases hy : (G t (belowP s y)).2 = 0
    · have e : ∀ q, namesF G s t (y :: q) = namesF G s (G t (belowP s y)).1 q := fun q => if_neg (by simp [hy])
      rw [e] at h
      rw [List.cons_append, e, e]
      exact namesF_snoc G s x r _ h
    · exact absurd (show (namesF G s t (y :: r)).2 = 0 from h) (by rw [show namesF G s t (y :: r) = ([], (G t (belowP s y)).2) from if_pos hy]; exact hy)
theorem namesF_bad (G : List Nd → List UInt8 → List Nd × Int) (s : List UInt8) (q : List (List UInt8)) : ∀ (l : List (List UInt8)) (t : List Nd), ¬ (namesF G s t l).2 = 0 → namesF G s t (l ++ q) = ([], (namesF G s t l).2)
  | [], _, h => absurd rfl h
  | y :: r, t, h => by
    by_cases hy : (G t (belowP s y)).2 = 0
    · have e : ∀ q, namesF G s t (y :: q) = namesF G s (G t (belowP s y)).1 q := fun q => if_neg (by simp [hy])
      rw [e] at h
      rw [List.cons_append, e, e]
      exact namesF_bad G s q r _ h
    · have e : ∀ q, namesF G s t (y :: q) = ([], (G t (belowP s y)).2) := fun q => if_pos hy
      rw [List.cons_append, e, e]
end
/-- What DropAll gives, by what its callees within give. -/
def allR (G : List Nd → List UInt8 → List Nd × Int) (a b c d : Int) (t : List Nd) (s : List UInt8) : List Nd × Int :=
  if (findF t a b c d s).2 = 0 then (if ¬ (namesF G s t (nodeNs a b c d t s).reverse).2 = 0 then ([], (namesF G s t (nodeNs a b c d t s).reverse).2) else dropF (namesF G s t (nodeNs a b c d t s).reverse).1 a b c d s) else dropF t a b c d s
/-- A tree that may come of t: less nodes, with levels. -/
structure LessT (t T : List Nd) : Prop where
  len : T.length ≤ t.length
  kids : (kidsOf T).length ≤ (kidsOf t).length
  lev : treeB T = true → Lev T
/-- DropAll's own boxes: the credential, the path, the two results. -/
structure BxA (W : World) (g4 g5 g6 g7 : Nat) (a b c d : Int) (s : List UInt8) : Prop where
  z : g4 < g5 ∧ g5 < g6 ∧ g6 < g7 ∧ g7 < W.heap.size
  c0 : W.cell? ⟨g4, 0, none⟩ = some (.int .i64 a)
  c1 : W.cell? ⟨g4, 1, none⟩ = some (.int .i64 b)
  c2 : W.cell? ⟨g4, 2, none⟩ = some (.int .i64 c)
  c3 : W.cell? ⟨g4, 3, none⟩ = some (.int .i64 d)
  c5 : W.cell? ⟨g5, 0, none⟩ = some (.string (mk s))
  c6 : W.cell? ⟨g6, 0, none⟩ = some (.slice none 0 0)
  f6 : W.frozen? ⟨g6, 0, none⟩ = false
  c7 : W.cell? ⟨g7, 0, none⟩ = some (.int .i64 0)
  f7 : W.frozen? ⟨g7, 0, none⟩ = false
section
variable {W W' : World} {g4 g5 g6 g7 : Nat} {a b c d : Int} {s : List UInt8} {row : Option Nat}
theorem BxA.below (h : BxA W g4 g5 g6 g7 a b c d s) (hb : Below W.heap.size W W') : BxA W' g4 g5 g6 g7 a b c d s := by
  obtain ⟨z1, z2, z3, z4⟩ := h.z
  have hc : ∀ g i, g < W.heap.size → W'.cell? ⟨g, i, none⟩ = W.cell? ⟨g, i, none⟩ := fun g i hg => hb.cell (p := ⟨g, i, none⟩) hg
  have hf : ∀ g i, g < W.heap.size → W'.frozen? ⟨g, i, none⟩ = W.frozen? ⟨g, i, none⟩ := fun g i hg => hb.frozen (p := ⟨g, i, none⟩) hg
  exact ⟨⟨z1, z2, z3, Nat.lt_of_lt_of_le z4 hb.size⟩, (hc _ _ (by omega)).trans h.c0, (hc _ _ (by omega)).trans h.c1, (hc _ _ (by omega)).trans h.c2, (hc _ _ (by omega)).trans h.c3, (hc _ _ (by omega)).trans h.c5, (hc _ _ (by omega)).trans h.c6, (hf _ _ (by omega)).trans h.f6, (hc _ _ (by omega)).trans h.c7, (hf _ _ (by omega)).trans h.f7⟩
theorem BxA.other {g i : Nat} {u : Value} (h : BxA W g4 g5 g6 g7 a b c d s) (hg : g7 < g) : BxA (W.setCell ⟨g, i, none⟩ u) g4 g5 g6 g7 a b c d s := by
  obtain ⟨z1, z2, z3, z4⟩ := h.z
  have hc : ∀ x j, x ≠ g → (W.setCell ⟨g, i, none⟩ u).cell? ⟨x, j, none⟩ = W.cell? ⟨x, j, none⟩ := fun x j hx => World.cell?_setCell_other _ _ _ _ (fun e => hx (by cases e; rfl))
  exact ⟨⟨z1, z2, z3, by simpa using z4⟩, (hc _ _ (by omega)).trans h.c0, (hc _ _ (by omega)).trans h.c1, (hc _ _ (by omega)).trans h.c2, (hc _ _ (by omega)).trans h.c3, (hc _ _ (by omega)).trans h.c5, (hc _ _ (by omega)).trans h.c6, (by rw [World.frozen?_setCell]; exact h.f6), (hc _ _ (by omega)).trans h.c7, (by rw [World.frozen?_setCell]; exact h.f7)⟩
theorem BxA.turn (h : BxA W g4 g5 g6 g7 a b c d s) (hg : W.grownBy W' row) (hr : ∀ r, row = some r → ∃ o : Obj, W.heap[r]? = some o ∧ o.isCells = false) : BxA W' g4 g5 g6 g7 a b c d s :=
  ⟨⟨h.z.1, h.z.2.1, h.z.2.2.1, Nat.lt_of_lt_of_le h.z.2.2.2 hg.size⟩, cell_kept h.c0 hg hr, cell_kept h.c1 hg hr, cell_kept h.c2 hg hr, cell_kept h.c3 hg hr, cell_kept h.c5 hg hr, cell_kept h.c6 hg hr, (frozen_kept h.c6 hg hr).trans h.f6, cell_kept h.c7 hg hr, (frozen_kept h.c7 hg hr).trans h.f7⟩
end
set_option maxRecDepth 100000 in
set_option maxHeartbeats 2000000 in
theorem allI_step (G : List Nd → List UInt8 → List Nd × Int) (v : Value) (t : List Nd) (a b c d : Int) (s : List UInt8) (w : World) (hM : MaxL w) (h : TreeR w v t) (ht : t.length ≤ 1000) (hkz : (kidsOf t).length ≤ 1000000) (hs : s.length ≤ 1048576) (hl : treeB t = true → Lev t)
    (hG : (findF t a b c d s).2 = 0 → ∀ x, x ∈ nodeNs a b c d t s → ∀ T v' w', MaxL w' → TreeR w' v' T → LessT t T → Calls Tryz.prog 27 #[v', .agg #[.int .i64 a, .int .i64 b, .int .i64 c, .int .i64 d], .string (mk (belowP s x))] w' fun e w'' => ∃ v'', e = .returned (.tuple #[v'', .int .i64 (G T (belowP s x)).2]) ∧ TreeO w'.heap.size w'' v'' (G T (belowP s x)).1 ∧ Below w'.heap.size w' w'' ∧ ((G T (belowP s x)).2 = 0 → LessT t (G T (belowP s x)).1)) :
    Calls Tryz.prog 27 #[v, .agg #[.int .i64 a, .int .i64 b, .int .i64 c, .int .i64 d], .string (mk s)] w fun e w' => ∃ v', e = .returned (.tuple #[v', .int .i64 (allR G a b c d t s).2]) ∧ TreeO w.heap.size w' v' (allR G a b c d t s).1 ∧ Below w.heap.size w w' := by
  have hF := fun w hm h => findI_of v t a b c d (mk s) w hm h ht hkz (by rw [mk_size]; exact hs)
  rw [mk_data] at hF
  have hN := fun T v' w' hm h (hT : LessT t T) => dropNI_of v' T a b c d (mk s) w' hm h (Nat.le_trans hT.len ht) (Nat.le_trans hT.kids hkz) (by rw [mk_size]; exact hs)
  rw [mk_data] at hN
  obtain ⟨R, hR⟩ : ∃ R, R = allR G a b c d t s := ⟨_, rfl⟩
  rw [← hR]
  unfold allR at hR
  have hfr := @findF_range t a b c d s
  have hlt : LessT t t := ⟨Nat.le_refl _, Nat.le_refl _, hl⟩
  have HF := Lib.hid hF
  have HN := Lib.hid hN
  have H := Lib.hid h
  have HM := Lib.hid hM
  have HLT := Lib.hid hlt
  obtain ⟨A, cap, rfl⟩ := h.shape
  clear hF hN h hM hlt hl
  refine (callsIn_wide (n := 6)).1 ?_
  refine callsIn_of_wp_marks Tryz.func27 rfl trivial ?_ rfl
  simp only [Tryz.ntmps27, List.size_toArray, List.length_cons, List.length_nil, Nat.reduceAdd, Nat.reduceSub, Array.replicate_succ, Array.replicate_zero, List.push_toArray, List.append_toArray, List.nil_append, List.cons_append]
  gi_wp2_with fail
  obtain ⟨g7, hg7⟩ : ∃ g, g = w.heap.size + 1 + 1 + 1 := ⟨_, rfl⟩
  simp only [← hg7]
  obtain ⟨g6, hg6⟩ : ∃ g, g = w.heap.size + 1 + 1 := ⟨_, rfl⟩
  simp only [← hg6]
  obtain ⟨g5, hg5⟩ : ∃ g, g = w.heap.size + 1 := ⟨_, rfl⟩
  simp only [← hg5]
  obtain ⟨Wb, hWb⟩ : ∃ Wb, Wb = (((w.alloc (.cells #[.int .i64 a, .int .i64 b, .int .i64 c, .int .i64 d] 25)).alloc (.cells #[.string (mk s)] 9)).alloc (.cells #[.slice none 0 0] 23)).alloc (.cells #[.int .i64 0] 3) := ⟨_, rfl⟩
  rw [← hWb]
  have hX : BxA Wb w.heap.size g5 g6 g7 a b c d s := by
    rw [hWb]
    refine ⟨⟨by omega, by omega, by omega, by simp; omega⟩, by go_simp, by go_simp, by go_simp, by go_simp, ?_, ?_, ?_, ?_, ?_⟩ <;> (first | rw [hg7] | rw [hg6] | rw [hg5]) <;> go_simp
  have hBb : Below w.heap.size w Wb := by rw [hWb]; exact (by (repeat (first | exact Below.refl _ _ | exact Hbl.out | refine Below.ext ?_ (by first | omega | (simp; omega) | simp) | refine Below.setCell ?_ (by first | omega | (simp; omega) | simp) _ | refine Below.alloc ?_ (by first | omega | (simp; omega) | simp) _ | refine Below.drew ?_ | refine below_drewN ?_ _ | refine Below.step (by assumption) (by first | omega | (simp; omega) | simp) ?_)))
  have hg4 : w.heap.size < g5 := by omega
  have HX := Lib.hid hX
  have HBb := Lib.hid hBb
  clear hWb hX hBb hg5 hg6 hg7
  refine ⟨trivial, ?_⟩
  refine (callsIn_wide.2 (HF.out _ (HM.out.below HBb.out) (H.out.below HBb.out))).mono ?_
  rintro e w1 ⟨rfl, b1⟩
  have X1 := Lib.hid (HX.out.below b1)
  have B1 := Lib.hid (Below.step b1 HBb.out.size HBb.out)
  clear b1 HX HBb HF
  by_cases hf : (findF t a b c d s).2 = 0
  · rw [if_pos hf] at hR
    obtain ⟨htv, -, hok, g0, g1⟩ := hfr hf
    obtain ⟨m, hm0⟩ : ∃ m : Nat, (findF t a b c d s).1 = (m : Int) := ⟨(findF t a b c d s).1.toNat, by omega⟩
    have hm : m < t.length := by omega
    have hm' : (m : Int) < (t.length : Int) := by omega
    have hNs : nodeNs a b c d t s = (kth t m).ns := by unfold nodeNs; rw [hm0, Int.toNat_natCast]
    have hns16 : (kth t m).ns.length ≤ 1000000 := (few_of htv hkz m hm).1
    rw [hNs] at hG hR
    have HG := Lib.hid (hG hf)
    have HR := Lib.hid hR
    rw [hm0, hf]
    obtain ⟨bt, ot, nA, nC, kA, kC, rfl, hbt, hS, -, -, -, -, -, yn, -⟩ := (H.out.below B1.out).at_ (kth_at hm)
    have HS := Lib.hid hS.ns
    clear hfr hG hR hNs hm0 hf g0 g1 hS
    gi_wp2_with fail
    refine ⟨trivial, ?_⟩
    refine (back_in Fence.wide _ trivial rfl _ _ _ _).mono ?_
    rintro e w2 ⟨rfl, hw2⟩
    gi_wp2_with fail
    rename_i Kc hKc
    rw [← hw2]
    obtain ⟨q, hq⟩ : ∃ q, q = w1.heap.size := ⟨_, rfl⟩
    obtain ⟨l, hl⟩ : ∃ l, l = (kth t m).ns := ⟨_, rfl⟩
    rw [← hq]
    rw [← hl] at HG HR HS yn hns16 ⊢
    have hz2 : w2.heap.size = q + 1 + 1 := by rw [hw2, hq]; simp
    have b2 : Below w1.heap.size w1 w2 := by rw [hw2]; exact (by (repeat (first | exact Below.refl _ _ | exact Hbl.out | refine Below.ext ?_ (by first | omega | (simp; omega) | simp) | refine Below.setCell ?_ (by first | omega | (simp; omega) | simp) _ | refine Below.alloc ?_ (by first | omega | (simp; omega) | simp) _ | refine Below.drew ?_ | refine below_drewN ?_ _ | refine Below.step (by assumption) (by first | omega | (simp; omega) | simp) ?_)))
    have ho : w2.cell? ⟨q, 0, none⟩ = some (.slice (some ⟨bt, ot, none⟩) t.length cap) := by rw [hw2, hq]; go_simp
    have hof : w2.frozen? ⟨q, 0, none⟩ = false := by rw [hw2, hq]; go_simp
    have hbk : w2.cell? ⟨q + 1, 0, none⟩ = some (.slice nA l.length nC) := by rw [hw2, hq]; go_simp
    have X2 := X1.out.below b2
    have B2 := Below.step b2 B1.out.size B1.out
    have hq4 : g7 < q := by rw [hq]; exact X1.out.z.2.2.2
    have hwq : w.heap.size ≤ q := by rw [hq]; exact B1.out.size
    have hT2 := H.out.below B2
    have hP0 : LessT t t := HLT.out
    have Hq := Lib.hid hq
    have hnm : ∀ y ∈ l, nameB y = true := fun y hy => names_ok (tree_node htv hm) y (by rw [← hl]; exact hy)
    clear hw2 yn htv hok X1 hq hl
    refine wpIn_rangeFunc_ownF rfl (by omega) (gf := 105) (lb := #[.pointer (some ⟨q + 1, 0, none⟩)]) rfl trivial (enters_of Tryz.func105 (by kernel_rfl) rfl)
      (back_stops Fence.wide _ trivial rfl (by omega) (q + 1) q nC nA l hns16 w1 w2 b2 Hq.out (by omega) hbk HS.out) KpB.trans (KpB.turn (N := w2.heap.size) (by omega) (by omega)) (Below.refl _ _) (fun _ => rfl)
      (fun pre W => (∃ vT, W.cell? ⟨q, 0, none⟩ = some vT ∧ W.frozen? ⟨q, 0, none⟩ = false ∧ TreeR W vT (namesF G s t (pre.map fun x => x.1.2)).1) ∧ ((namesF G s t (pre.map fun x => x.1.2)).2 = 0 ∧ LessT t (namesF G s t (pre.map fun x => x.1.2)).1) ∧ BxA W w.heap.size g5 g6 g7 a b c d s ∧ Below w.heap.size w W ∧ q + 1 < W.heap.size)
      (fun c' pre W => c' = .ret ∧ ¬ (namesF G s t (pre.map fun x => x.1.2)).2 = 0 ∧ W.cell? ⟨g6, 0, none⟩ = some (.slice none 0 0) ∧ W.cell? ⟨g7, 0, none⟩ = some (.int .i64 (namesF G s t (pre.map fun x => x.1.2)).2) ∧ Below w.heap.size w W)
      (fun pre W W' row hs hg hr => ?own1) (fun c' pre W W' row hs hg hr => ?own2)
      ⟨⟨_, ho, hof, hT2⟩, ⟨rfl, hP0⟩, X2, B2, by omega⟩
      (fun x => { tmps := #[.slice (some ⟨bt, ot, none⟩) t.length cap, .agg #[.int .i64 a, .int .i64 b, .int .i64 c, .int .i64 d], .string (mk s), undef, .pointer (some ⟨w.heap.size, 0, none⟩), .pointer (some ⟨g5, 0, none⟩), .pointer (some ⟨g6, 0, none⟩), .pointer (some ⟨g7, 0, none⟩), .int .i64 (m : Int), .int .i64 0,
        .pointer (some ⟨q, 0, none⟩), undef, .string (mk x.1.2), undef, undef, undef, .tuple #[.int .i64 (m : Int), .int .i64 0], .slice (some ⟨bt, ot, none⟩) t.length cap, .agg #[.int .i64 a, .int .i64 b, .int .i64 c, .int .i64 d], .string (mk s), .tuple #[.int .i64 (m : Int), .int .i64 0], .int .i64 (m : Int), .int .i64 0,
        .slice (some ⟨bt, ot, none⟩) t.length cap, .int .i64 0, .bool true, .slice (some ⟨bt, ot, none⟩) t.length cap, .int .i64 (m : Int), .pointer (some ⟨bt, ot + m * 7, none⟩), .pointer (some ⟨bt, ot + m * 7 + 5, none⟩), .slice nA l.length nC, .func (.func 105) #[] #[.pointer (some ⟨q + 1, 0, none⟩)],
        .int .i64 (x.1.1 : Int), .string (mk x.1.2), undef, undef, undef, undef, undef, undef, undef, undef, undef, undef, undef, undef, undef, undef, undef, undef, undef, undef, undef, undef, undef, undef, undef, undef, undef, undef], defers := [] }) ?assign ?body ?done ?stop
    case own1 =>
      obtain ⟨⟨vT, h1, h2, h3⟩, h4, h5, h6, h7⟩ := hs
      have hr' := fun r e => (hr r e).2
      exact ⟨⟨vT, cell_kept h1 hg hr', (frozen_kept h1 hg hr').trans h2, treeR_turn h3 hg hr'⟩, h4, h5.turn hg hr', ownFrom_below (Nat.le_refl _) (by omega) pre W W' row h6 hg hr, Nat.lt_of_lt_of_le h7 hg.size⟩
    case own2 =>
      obtain ⟨h1, h2, h3, h4, h6⟩ := hs
      have hr' := fun r e => (hr r e).2
      exact ⟨h1, h2, cell_kept h3 hg hr', cell_kept h4 hg hr', ownFrom_below (Nat.le_refl _) (by omega) pre W W' row h6 hg hr⟩
    case assign =>
      intro l' x W K hK
      gi_wp2
      exact hK
    case body =>
      rintro l' pre x W ⟨⟨vT, h1, h2, h3⟩, ⟨h4, h5⟩, h6, h7, hqB⟩ hlt
      have hxm : x.1.2 ∈ l := x.2.resolve_right (fun e => Nat.not_lt_zero _ (Nat.lt_of_lt_of_eq hlt (show l.length = 0 by rw [e]; rfl)))
      have hd : 1 ≤ 6 - 1 - 1 := by omega
      have hsn := namesF_snoc G s x.1.2 _ _ h4
      obtain ⟨y, hy⟩ : ∃ y, y = x.1.2 := ⟨_, rfl⟩
      obtain ⟨ns, hns⟩ : ∃ ns, ns = pre.map (fun x => x.1.2) := ⟨_, rfl⟩
      have hmp : (pre ++ [x]).map (fun x => x.1.2) = ns ++ [y] := by simp [hns, hy]
      have hqW : q < W.heap.size := lt_of_cell h1
      have hG1 := HG.out _ hxm _ _ _ (HM.out.below h7) h3 h5
      generalize hQ : ownPostK _ _ _ (pre ++ [x]) W = Q
      have HQ := Lib.hid hQ
      have Hmp := Lib.hid hmp
      rw [← hns] at h3 h4 h5 hsn hG1
      rw [← hy] at hxm hsn hG1 ⊢
      generalize x.1.1 = xi
      clear hQ hmp hns hy
      have hyl : y.length ≤ 40 := by have := nameB_size (hnm _ hxm); omega
      have hz1 : ¬ 9223372036854775807 < (mk s).size + 1 := by rw [mk_size]; omega
      have hz2' : ¬ 9223372036854775807 < (mk s).size + 1 + (mk y).size := by rw [mk_size, mk_size]; omega
      have hz3 : ¬ 9223372036854775807 < (mk s).size + (mk y).size := by rw [mk_size, mk_size]; omega
      obtain ⟨T, hTe⟩ : ∃ T, T = (namesF G s t ns).1 := ⟨_, rfl⟩
      rw [← hTe] at hsn hG1 h3 h5
      obtain ⟨g, hge⟩ : ∃ g, g = G T (belowP s y) := ⟨_, rfl⟩
      rw [← hge] at hsn hG1
      obtain ⟨-, q0, q1, q2, q3, q5, -, -, -, -⟩ := id h6
      have H6 := Lib.hid h6
      have H7 := Lib.hid h7
      have Hsn := Lib.hid hsn
      have H1 := Lib.hid h1
      have H2 := Lib.hid h2
      obtain ⟨AT, cT, rfl⟩ := h3.shape
      clear hTe hge h4 h5 h6 h7 hsn h3
      by_cases hs47 : s = [47]
      · have he : ((mk s).toList == [47]) = true := by rw [mk_toList, hs47]; rfl
        have hcat : mk s ++ mk y = mk (belowP s y) := by rw [mk_app, belowP, if_pos hs47, hs47]; rfl
        rw [← hcat] at hG1
        have HG1 := Lib.hid hG1
        clear hG1 hcat hs47
        gi_wp2_with fail
        refine ⟨trivial, ?_⟩
        refine (CallsIn.inRound l' (callsIn_wide.2 HG1.out)).mono ?_
        rintro e W3 ⟨v3, rfl, hT3, b3, hL3⟩
        obtain ⟨A3, c3, rfl⟩ := hT3.shape
        obtain ⟨z3, -, -, -, -, -, y6, y6f, y7, y7f⟩ := H6.out.below b3
        have yo := (b3.cell (p := ⟨q, 0, none⟩) hqW).trans H1.out
        have yof := (b3.frozen (p := ⟨q, 0, none⟩) hqW).trans H2.out
        have HT3 := Lib.hid hT3
        have H63 := Lib.hid (H6.out.below b3)
        have HB3 := Lib.hid b3
        have HL3 := Lib.hid hL3
        clear hT3 b3 hL3 HG1
        by_cases hg2 : g.2 = 0
        · have hL := HL3.out hg2
          have hsn := Hsn.out
          rw [if_neg (by simp [hg2])] at hsn
          have Hs2 := Lib.hid hsn
          rw [hg2]
          clear hsn hg2
          gi_wp2
          rw [← HQ.out]
          show KeepsOthers _ _ ∧ _ ∧ _
          refine ⟨(keeps_below HB3.out).trans (KeepsOthers.setCell _ _ _), ⟨(HB3.out.mono (Nat.le_of_lt hqW)).setCell (p := ⟨q, 0, none⟩) (Nat.le_refl _) _, (Below.heap_setCell _ _ _ _ (by simp)).trans (HB3.out.block _ hqB)⟩, ?_⟩
          dsimp only
          rw [Hmp.out, Hs2.out]
          exact ⟨⟨_, World.cell?_setCell_same' _ _ _ (by rw [yo]; rfl), by rw [World.frozen?_setCell]; exact yof, (HT3.out.set hqW).r⟩, ⟨rfl, hL⟩, H63.out.other hq4, (Below.step HB3.out H7.out.size H7.out).setCell (p := ⟨q, 0, none⟩) hwq _, by simp; have := HB3.out.size; omega⟩
        · have hgf : (g.2 == 0) = false := by simpa using hg2
          gi_wp2
          rw [← HQ.out]
          show KeepsOthers _ _ ∧ _
          have hsn := Hsn.out
          rw [if_pos hg2] at hsn
          refine ⟨(keeps_below HB3.out).trans ((KeepsOthers.setCell _ _ _).trans (KeepsOthers.setCell _ _ _)), ?_⟩
          dsimp only
          rw [Hmp.out, hsn]
          refine ⟨rfl, hg2, ?_, ?_, ((Below.step HB3.out H7.out.size H7.out).setCell (p := ⟨g6, 0, none⟩) (by simp; omega) _).setCell (p := ⟨g7, 0, none⟩) (by simp; omega) _⟩ <;> go_simp
      · have he : ((mk s).toList == [47]) = false := by rw [mk_toList]; simpa using hs47
        have hcat : mk s ++ ⟨#[47]⟩ ++ mk y = mk (belowP s y) := by rw [show (⟨#[47]⟩ : ByteArray) = mk [47] from rfl, mk_app, mk_app, belowP, if_neg hs47, List.append_assoc]; rfl
        rw [← hcat] at hG1
        have HG1 := Lib.hid hG1
        clear hG1 hcat hs47
        gi_wp2_with fail
        refine ⟨trivial, ?_⟩
        refine (CallsIn.inRound l' (callsIn_wide.2 HG1.out)).mono ?_
        rintro e W3 ⟨v3, rfl, hT3, b3, hL3⟩
        obtain ⟨A3, c3, rfl⟩ := hT3.shape
        obtain ⟨z3, -, -, -, -, -, y6, y6f, y7, y7f⟩ := H6.out.below b3
        have yo := (b3.cell (p := ⟨q, 0, none⟩) hqW).trans H1.out
        have yof := (b3.frozen (p := ⟨q, 0, none⟩) hqW).trans H2.out
        have HT3 := Lib.hid hT3
        have H63 := Lib.hid (H6.out.below b3)
        have HB3 := Lib.hid b3
        have HL3 := Lib.hid hL3
        clear hT3 b3 hL3 HG1
        by_cases hg2 : g.2 = 0
        · have hL := HL3.out hg2
          have hsn := Hsn.out
          rw [if_neg (by simp [hg2])] at hsn
          have Hs2 := Lib.hid hsn
          rw [hg2]
          clear hsn hg2
          gi_wp2
          rw [← HQ.out]
          show KeepsOthers _ _ ∧ _ ∧ _
          refine ⟨(keeps_below HB3.out).trans (KeepsOthers.setCell _ _ _), ⟨(HB3.out.mono (Nat.le_of_lt hqW)).setCell (p := ⟨q, 0, none⟩) (Nat.le_refl _) _, (Below.heap_setCell _ _ _ _ (by simp)).trans (HB3.out.block _ hqB)⟩, ?_⟩
          dsimp only
          rw [Hmp.out, Hs2.out]
          exact ⟨⟨_, World.cell?_setCell_same' _ _ _ (by rw [yo]; rfl), by rw [World.frozen?_setCell]; exact yof, (HT3.out.set hqW).r⟩, ⟨rfl, hL⟩, H63.out.other hq4, (Below.step HB3.out H7.out.size H7.out).setCell (p := ⟨q, 0, none⟩) hwq _, by simp; have := HB3.out.size; omega⟩
        · have hgf : (g.2 == 0) = false := by simpa using hg2
          gi_wp2
          rw [← HQ.out]
          show KeepsOthers _ _ ∧ _
          have hsn := Hsn.out
          rw [if_pos hg2] at hsn
          refine ⟨(keeps_below HB3.out).trans ((KeepsOthers.setCell _ _ _).trans (KeepsOthers.setCell _ _ _)), ?_⟩
          dsimp only
          rw [Hmp.out, hsn]
          refine ⟨rfl, hg2, ?_, ?_, ((Below.step HB3.out H7.out.size H7.out).setCell (p := ⟨g6, 0, none⟩) (by simp; omega) _).setCell (p := ⟨g7, 0, none⟩) (by simp; omega) _⟩ <;> go_simp
    case done =>
      rintro D ys W hD hys ⟨⟨vT, h1, h2, h3⟩, ⟨h4, h5⟩, h6, h7, -⟩ hK
      show Kc _ _
      refine hKc _ _ ?_
      have hnl : ys.map (fun x => x.1.2) = l.reverse := by rw [hys]; exact backL_snd l
      rw [hnl] at h3 h4 h5
      have hR := HR.out
      rw [if_neg (by simp [h4])] at hR
      generalize (namesF G s t l.reverse).1 = T at h3 h5 hR
      have hqW : q < W.heap.size := lt_of_cell h1
      have hDW : D < W.heap.size := (Array.getElem?_eq_some_iff.1 hK).1
      have Hr := Lib.hid hR
      have HX := Lib.hid h6
      have HT := Lib.hid h3
      have H7 := Lib.hid h7
      obtain ⟨-, q0, q1, q2, q3, q5, -, -, -, -⟩ := id h6
      obtain ⟨AT, cT, rfl⟩ := h3.shape
      have hN := HN.out T _ W (HM.out.below h7) h3 h5
      have HN1 := Lib.hid hN
      clear hR h3 h4 h5 h6 h7 hN HN hKc
      gi_wp2_with fail
      refine ⟨trivial, ?_⟩
      refine (callsIn_wide.2 HN1.out).mono ?_
      rintro e w5 ⟨v5, rfl, hT5, b5⟩
      obtain ⟨A5, c5, rfl⟩ := hT5.shape
      obtain ⟨z5, -, -, -, -, -, y6, y6f, y7, y7f⟩ := HX.out.below b5
      have HT5 := Lib.hid hT5
      have B5 := Lib.hid (Below.step b5 H7.out.size H7.out)
      have HK5 := Lib.hid ((b5.block D hDW).trans hK)
      have HW5 := Lib.hid b5.size
      clear b5 hT5 hK
      gi_wp2
      have HKs := ((KeepsOthers.setCell w5 ⟨g6, 0, none⟩ (.slice A5 (dropF T a b c d s).1.length c5)).trans (KeepsOthers.setCell _ ⟨g7, 0, none⟩ (.int .i64 (dropF T a b c d s).2))).same D _ HK5.out rfl
      have hc7 : ((w5.setCell ⟨g6, 0, none⟩ (.slice A5 (dropF T a b c d s).1.length c5)).setCell ⟨g7, 0, none⟩ (.int .i64 (dropF T a b c d s).2)).cell? ⟨g7, 0, none⟩ = some (.int .i64 (dropF T a b c d s).2) := by go_simp
      have hc6 : ((w5.setCell ⟨g6, 0, none⟩ (.slice A5 (dropF T a b c d s).1.length c5)).setCell ⟨g7, 0, none⟩ (.int .i64 (dropF T a b c d s).2)).cell? ⟨g6, 0, none⟩ = some (.slice A5 (dropF T a b c d s).1.length c5) := by go_simp
      have HT6 := (HT5.out.set (g := g6) (i := 0) (u := .slice A5 (dropF T a b c d s).1.length c5) (by omega)).set (g := g7) (i := 0) (u := .int .i64 (dropF T a b c d s).2) (by omega)
      have B6 := (B5.out.setCell (p := ⟨g6, 0, none⟩) (by simp; omega) (.slice A5 (dropF T a b c d s).1.length c5)).setCell (p := ⟨g7, 0, none⟩) (by simp; omega) (.int .i64 (dropF T a b c d s).2)
      generalize ((w5.setCell ⟨g6, 0, none⟩ (.slice A5 (dropF T a b c d s).1.length c5)).setCell ⟨g7, 0, none⟩ (.int .i64 (dropF T a b c d s).2)) = w6 at HKs hc6 hc7 HT6 B6 ⊢
      have hc8 := cell_kept hc6 (grownBy_putObj' w6 D (.deferred none)) (fun r e => by cases e; exact ⟨_, HKs, rfl⟩)
      have hc9 := cell_kept hc7 (grownBy_putObj' w6 D (.deferred none)) (fun r e => by cases e; exact ⟨_, HKs, rfl⟩)
      refine ⟨by simp, .inl ⟨_, _, rfl, run_takeDeferred HKs, ?_⟩⟩
      refine ⟨.tuple #[.slice A5 (dropF T a b c d s).1.length c5, .int .i64 (dropF T a b c d s).2], ?_, .slice A5 (dropF T a b c d s).1.length c5, ?_, ?_, ?_⟩
      · simp [results, Tryz.f27, go_sem, hc8, hc9]
      · rw [Hr.out]
      · rw [Hr.out]
        exact (treeO_turn HT6 hDW (grownBy_putObj' _ D _)).mono H7.out.size
      · exact B6.trans (belowK_b (w := w) (Nat.le_refl _) _ D _ _ (by omega) HKs rfl rfl)
    case stop =>
      rintro D c' pre W hD ⟨k, hk, hpk⟩ ⟨rfl, h2, h3, h4, h6⟩ hK
      have hpre : namesF G s t l.reverse = ([], (namesF G s t (pre.map fun x => x.1.2)).2) := by
        rw [← backL_snd, ← List.take_append_drop k (backL l l.length), ← backL_take hk, List.map_append, ← hpk]
        exact namesF_bad G s _ _ _ h2
      gi_wp2
      have hR := HR.out
      rw [hpre, if_pos h2] at hR
      refine ⟨by simp, .inl ⟨_, _, rfl, run_takeDeferred hK, ?_⟩⟩
      have hc6 := cell_kept h3 (grownBy_putObj' W D (.deferred none)) (fun r e => by cases e; exact ⟨_, hK, rfl⟩)
      have hc7 := cell_kept h4 (grownBy_putObj' W D (.deferred none)) (fun r e => by cases e; exact ⟨_, hK, rfl⟩)
      refine ⟨.tuple #[.slice none 0 0, .int .i64 R.2], ?_, _, rfl, ?_, h6.trans (belowK_b (w := w) (Nat.le_refl _) W D _ _ (by omega) hK rfl rfl)⟩
      · rw [hR]; simp [results, Tryz.f27, go_sem, hc6, hc7]
      · rw [hR]; exact treeO_none _ _
  · rw [if_neg hf] at hR
    have Hr := Lib.hid hR
    have Xa := X1.out.below (W' := w1.alloc (.cells #[.slice A t.length cap] 23)) (Below.alloc (Below.refl _ _) (Nat.le_refl _) _)
    have Ba := Lib.hid (Below.alloc B1.out B1.out.size (.cells #[.slice A t.length cap] 23))
    obtain ⟨z, y0, y1, y2, y3, y5, -, -, -, -⟩ := id X1.out
    have HXa := Lib.hid Xa
    clear hG hfr Xa
    gi_wp2_with fail
    refine ⟨trivial, ?_⟩
    refine (callsIn_wide.2 (HN.out t _ _ (HM.out.below Ba.out) (H.out.below Ba.out) HLT.out)).mono ?_
    rintro e w5 ⟨v5, rfl, hT5, b5⟩
    obtain ⟨A5, c5, rfl⟩ := hT5.shape
    obtain ⟨z5, -, -, -, -, -, y6, y6f, y7, y7f⟩ := HXa.out.below b5
    have HT5 := Lib.hid hT5
    have B5 := Lib.hid (Below.step b5 Ba.out.size Ba.out)
    clear y0 y1 y2 y3 y5 b5 hT5 HXa Ba
    gi_wp2
    have hc7 : ((w5.setCell ⟨g6, 0, none⟩ (.slice A5 (dropF t a b c d s).1.length c5)).setCell ⟨g7, 0, none⟩ (.int .i64 (dropF t a b c d s).2)).cell? ⟨g7, 0, none⟩ = some (.int .i64 (dropF t a b c d s).2) := by go_simp
    have hc6 : ((w5.setCell ⟨g6, 0, none⟩ (.slice A5 (dropF t a b c d s).1.length c5)).setCell ⟨g7, 0, none⟩ (.int .i64 (dropF t a b c d s).2)).cell? ⟨g6, 0, none⟩ = some (.slice A5 (dropF t a b c d s).1.length c5) := by go_simp
    refine ⟨.tuple #[.slice A5 (dropF t a b c d s).1.length c5, .int .i64 (dropF t a b c d s).2], ?_, .slice A5 (dropF t a b c d s).1.length c5, ?_, ?_, ?_⟩
    · simp [results, Tryz.f27, go_sem, hc6, hc7]
    · rw [Hr.out]
    · rw [Hr.out]
      exact ((HT5.out.set (by simp; omega)).set (by simp; omega)).mono (by simp; omega)
    · exact (B5.out.setCell (p := ⟨g6, 0, none⟩) (by simp; omega) _).setCell (p := ⟨g7, 0, none⟩) (by simp; omega) _
section
variable {a b c d : Int}
theorem all_lev : ∀ (n f : Nat) (t : List Nd) (s : List UInt8), (kidsOf t).length ≤ n → (treeB t = true → Lev t) → (okP s = true → 6 ≤ f + (partsP s).length) → (allF a b c d f t s).2 = 0 → Lev (allF a b c d f t s).1 := by
  intro n
  induction n with
  | zero =>
    intro f t s hk hl h6
    have hno : ∀ p, ¬ dropOf t a b c d p false = 0 := fun p e => by
      obtain ⟨_, _, _, _, _, _, _, _, h⟩ := drop_law e
      omega
    rw [all_step f t s hl h6]
    by_cases he : deepF a b c d t 7 s = s
    · rw [if_pos he, drop_no (hno s)]
      exact fun h => absurd h (hno s)
    · rw [if_neg he, drop_no (hno _), if_pos (hno _)]
      exact fun h => absurd h (hno _)
  | succ n ih =>
    intro f t s hk hl h6
    rw [all_step f t s hl h6]
    have hL : ∀ p, dropOf t a b c d p false = 0 → Lev (dropF t a b c d p).1 := fun p hdo => drop_lev (hl (findF_range (s := p) (t := t) (by obtain ⟨_, _, h, _⟩ := drop_law hdo; rw [h])).1) hdo
    by_cases he : deepF a b c d t 7 s = s
    · rw [if_pos he]
      by_cases hdo : dropOf t a b c d s false = 0
      · exact fun _ => hL s hdo
      · rw [drop_no hdo]
        exact fun h => absurd h hdo
    · rw [if_neg he]
      by_cases hdo : dropOf t a b c d (deepF a b c d t 7 s) false = 0
      · obtain ⟨k, _, _, e1, e2, e3, e4, _, e5⟩ := drop_law hdo
        rw [if_neg (fun e => e e1)]
        exact ih f (dropF t a b c d (deepF a b c d t 7 s)).1 s (by omega) (fun _ => hL _ hdo) h6
      · rw [drop_no hdo, if_pos hdo]
        exact fun h => absurd h hdo
end
theorem allI_of (a b c d : Int) : ∀ (f : Nat) (v : Value) (t : List Nd) (s : List UInt8) (w : World), MaxL w → TreeR w v t → t.length ≤ 1000 → (kidsOf t).length ≤ 1000000 → s.length ≤ 1048576 → (treeB t = true → Lev t) → (okP s = true → 6 ≤ f + (partsP s).length) →
    Calls Tryz.prog 27 #[v, .agg #[.int .i64 a, .int .i64 b, .int .i64 c, .int .i64 d], .string (mk s)] w fun e w' => ∃ v', e = .returned (.tuple #[v', .int .i64 (allF a b c d f t s).2]) ∧ TreeO w.heap.size w' v' (allF a b c d f t s).1 ∧ Below w.heap.size w w'
  | 0, v, t, s, w, hM, h, ht, hk, hs, hl, h6 => by
    have hno : (findF t a b c d s).2 = 0 → nodeNs a b c d t s = [] := fun hf => by
      by_cases hn : nodeNs a b c d t s = []
      · exact hn
      · obtain ⟨h1, _, _, _, _, h2⟩ := last_ok (hl (findF_range hf).1) ⟨hf, hn⟩ (getLastD_mem hn)
        have := h6 h1
        omega
    have hh := allI_step (fun _ _ => ([], 0)) v t a b c d s w hM h ht hk hs hl (fun hf x hx => by rw [hno hf] at hx; cases hx)
    have e : allR (fun _ _ => ([], 0)) a b c d t s = allF a b c d 0 t s := by
      unfold allR
      by_cases hf : (findF t a b c d s).2 = 0
      · rw [if_pos hf, hno hf]
        rfl
      · rw [if_neg hf]
        rfl
    rw [e] at hh
    exact hh
  | f + 1, v, t, s, w, hM, h, ht, hk, hs, hl, h6 => by
    refine allI_step (allF a b c d f) v t a b c d s w hM h ht hk hs hl (fun hf x hx T v' w' hM' hT hL => ?_)
    obtain ⟨h1, h2, h3, h4, _, _⟩ := last_ok (hl (findF_range hf).1) ⟨hf, fun e => by rw [e] at hx; cases hx⟩ hx
    have h6' : okP (belowP s x) = true → 6 ≤ f + (partsP (belowP s x)).length := fun _ => by
      have := h6 h1
      rw [h4, List.length_append, List.length_singleton]; omega
    have hbl : (belowP s x).length ≤ 1048576 := by have := ok_size h3; omega
    refine (allI_of a b c d f v' T (belowP s x) w' hM' hT (Nat.le_trans hL.len ht) (Nat.le_trans hL.kids hk) hbl hL.lev h6').mono ?_
    rintro e w'' ⟨v'', he, hO, hB⟩
    refine ⟨v'', he, hO, hB, fun h0 => ?_⟩
    rcases all_law _ f T (belowP s x) (Nat.le_refl _) hL.lev h6' with ⟨hx, _⟩ | ⟨_, _, _, h9, h10⟩
    · exact absurd h0 hx
    · exact ⟨Nat.le_trans h9 hL.len, Nat.le_trans h10 hL.kids, fun _ => all_lev _ f T (belowP s x) (Nat.le_refl _) hL.lev h6' h0⟩
end Go.Proofs.YtkennmpbmbacpaaGreatDoor
