/- Texts in one: The reference's 'l6Copy' and 'NewTree'. The reference's 'l8Put'. Trees of the call's own: a node's cells; a node written anew; trees of one node. The reference's 'LinkName', 'MakeNode' and 'NewTree'. The reference's 'l6Paths' and 'PathsOf'. -/
import Derived.Test.YtkennmpbmbacpaaGreatDoorME
import Derived.Deep.RegionHeld3
import Derived.Deep.Cut
set_option linter.unusedSimpArgs false
set_option linter.unusedVariables false
set_option linter.unusedSectionVars false
namespace Go.Proofs.YtkennmpbmbacpaaGreatDoor
open Go.RowKit

theorem fitEL : Fit Tryz.prog EL 42 9 :=
  ⟨Tryz.underlying42, by
    have h : (Tryz.prog.info? 9).map (fun i => (i.zero, i.size, i.bytes)) = some (some (.string ByteArray.empty), 1, 16) := by kernel_rfl
    obtain ⟨i, h1, h2, h3, h4⟩ := info_partsI h
    exact ⟨i, _, _, h1, h2, h3, h4, rfl, by decide⟩⟩
theorem fitEI : Fit Tryz.prog EI 35 3 :=
  ⟨Tryz.underlying35, by
    obtain ⟨i, h1, h2, h3, h4⟩ := info_partsI infoInt
    exact ⟨i, _, _, h1, h2, h3, h4, rfl, by decide⟩⟩
theorem fitEC : Fit Tryz.prog EC 23 44 :=
  ⟨Tryz.underlying23, by
    have h : (Tryz.prog.info? 44).map (fun i => (i.zero, i.size, i.bytes)) = some (some (.agg #[.bool false, .int .i64 0, .int .i64 0, .int .i64 0, .string ByteArray.empty, .slice none 0 0, .slice none 0 0]), 7, 96) := by kernel_rfl
    obtain ⟨i, h1, h2, h3, h4⟩ := info_partsI h
    exact ⟨i, _, _, h1, h2, h3, h4, rfl, by decide⟩⟩
theorem ownG_set {α : Type} {E : Lay α} {T : TypeId} {B g i : Nat} {w : World} {v u : Value} {l : List α} (h : OwnG E T B w v l) (hne : ∀ j, v.ownBlock = some j → j ≠ g) : OwnG E T B (w.setCell ⟨g, i, none⟩ u) v l :=
  ownG_kept (row := some g) h (Lib.grownBy_setB (World.grownBy.refl _ _) i u) (by
    cases e : v.ownBlock with
    | none => exact .inl rfl
    | some j => exact .inr (by intro e2; injection e2 with e2; exact hne j e e2))
/-- The box of a node: its head is x's, its slices are u and v. -/
structure BoxN (w : World) (g : Nat) (x : Nd) (u v : Value) : Prop where
  c0 : w.cell? ⟨g, 0, none⟩ = some (.bool x.fo)
  c1 : w.cell? ⟨g, 1, none⟩ = some (.int .i64 x.ow)
  c2 : w.cell? ⟨g, 2, none⟩ = some (.int .i64 x.gr)
  c3 : w.cell? ⟨g, 3, none⟩ = some (.int .i64 x.mo)
  c4 : w.cell? ⟨g, 4, none⟩ = some (.string x.tx)
  c5 : w.cell? ⟨g, 5, none⟩ = some u
  c6 : w.cell? ⟨g, 6, none⟩ = some v
  f : ∀ i, w.frozen? ⟨g, i, none⟩ = false
  lt : g < w.heap.size
section
variable {w w' : World} {g B : Nat} {x : Nd} {u v z : Value}
theorem BoxN.made {T : TypeId} : BoxN (w.alloc (.cells #[.bool x.fo, .int .i64 x.ow, .int .i64 x.gr, .int .i64 x.mo, .string x.tx, u, v] T)) w.heap.size x u v :=
  ⟨by go_simp, by go_simp, by go_simp, by go_simp, by go_simp, by go_simp, by go_simp, fun i => by go_simp, by simp⟩
theorem BoxN.made' {T : TypeId} (hg : g = w.heap.size) : BoxN (w.alloc (.cells #[.bool x.fo, .int .i64 x.ow, .int .i64 x.gr, .int .i64 x.mo, .string x.tx, u, v] T)) g x u v := by subst hg; exact BoxN.made
theorem BoxN.below (h : BoxN w g x u v) (hb : Below B w w') (hg : g < B) : BoxN w' g x u v :=
  ⟨(hb.cell (p := ⟨g, _, none⟩) hg).trans h.c0, (hb.cell (p := ⟨g, _, none⟩) hg).trans h.c1, (hb.cell (p := ⟨g, _, none⟩) hg).trans h.c2, (hb.cell (p := ⟨g, _, none⟩) hg).trans h.c3, (hb.cell (p := ⟨g, _, none⟩) hg).trans h.c4, (hb.cell (p := ⟨g, _, none⟩) hg).trans h.c5, (hb.cell (p := ⟨g, _, none⟩) hg).trans h.c6, fun i => (hb.frozen (p := ⟨g, i, none⟩) hg).trans (h.f i), Nat.lt_of_lt_of_le h.lt hb.size⟩
theorem BoxN.alloc {o : Obj} (h : BoxN w g x u v) : BoxN (w.alloc o) g x u v := h.below (Below.alloc (Below.refl _ _) (Nat.le_refl _) _) h.lt
theorem BoxN.other {g' i : Nat} (h : BoxN w g x u v) (hne : g ≠ g') : BoxN (w.setCell ⟨g', i, none⟩ z) g x u v := by
  have hc : ∀ j, (w.setCell ⟨g', i, none⟩ z).cell? ⟨g, j, none⟩ = w.cell? ⟨g, j, none⟩ := fun j => World.cell?_setCell_other _ _ _ _ (fun e => hne (by cases e; rfl))
  obtain ⟨h0, h1, h2, h3, h4, h5, h6, h7, h8⟩ := h
  exact ⟨(hc _).trans h0, (hc _).trans h1, (hc _).trans h2, (hc _).trans h3, (hc _).trans h4, (hc _).trans h5, (hc _).trans h6, fun i => by rw [World.frozen?_setCell]; exact h7 i, by simpa using h8⟩
theorem BoxN.set5 (h : BoxN w g x u v) : BoxN (w.setCell ⟨g, 5, none⟩ z) g x z v := by
  obtain ⟨h0, h1, h2, h3, h4, h5, h6, h7, h8⟩ := h
  exact ⟨by go_simp, by go_simp, by go_simp, by go_simp, by go_simp, by go_simp, by go_simp, fun i => by rw [World.frozen?_setCell]; exact h7 i, by simpa using h8⟩
theorem BoxN.set6 (h : BoxN w g x u v) : BoxN (w.setCell ⟨g, 6, none⟩ z) g x u z := by
  obtain ⟨h0, h1, h2, h3, h4, h5, h6, h7, h8⟩ := h
  exact ⟨by go_simp, by go_simp, by go_simp, by go_simp, by go_simp, by go_simp, by go_simp, fun i => by rw [World.frozen?_setCell]; exact h7 i, by simpa using h8⟩
end
/-- A box written anew. -/
theorem BoxN.full {w : World} {g : Nat} {x y : Nd} {u v u' v' : Value} (h : BoxN w g y u v) : BoxN (((((((w.setCell ⟨g, 0, none⟩ (.bool x.fo)).setCell ⟨g, 1, none⟩ (.int .i64 x.ow)).setCell ⟨g, 2, none⟩ (.int .i64 x.gr)).setCell ⟨g, 3, none⟩ (.int .i64 x.mo)).setCell ⟨g, 4, none⟩ (.string x.tx)).setCell ⟨g, 5, none⟩ u').setCell ⟨g, 6, none⟩ v') g x u' v' := by
  obtain ⟨h0, h1, h2, h3, h4, h5, h6, h7, h8⟩ := h
  exact ⟨by go_simp, by go_simp, by go_simp, by go_simp, by go_simp, by go_simp, by go_simp, fun i => by simp only [World.frozen?_setCell]; exact h7 i, by simpa using h8⟩
theorem ownG_full {α : Type} {E : Lay α} {T : TypeId} {B g : Nat} {w : World} {v u' v' : Value} {x : Nd} {l : List α} (h : OwnG E T B w v l) (hne : ∀ j, v.ownBlock = some j → j ≠ g) : OwnG E T B (((((((w.setCell ⟨g, 0, none⟩ (.bool x.fo)).setCell ⟨g, 1, none⟩ (.int .i64 x.ow)).setCell ⟨g, 2, none⟩ (.int .i64 x.gr)).setCell ⟨g, 3, none⟩ (.int .i64 x.mo)).setCell ⟨g, 4, none⟩ (.string x.tx)).setCell ⟨g, 5, none⟩ u').setCell ⟨g, 6, none⟩ v') v l :=
  ownG_set (ownG_set (ownG_set (ownG_set (ownG_set (ownG_set (ownG_set h hne) hne) hne) hne) hne) hne) hne
theorem below_set {B g i : Nat} {a w : World} {u : Value} (h : Below B a w) (hg : B ≤ g) : Below B a (w.setCell ⟨g, i, none⟩ u) := Below.setCell h hg _
theorem below_full {B g : Nat} {a w : World} {u' v' : Value} {x : Nd} (h : Below B a w) (hg : B ≤ g) : Below B a (((((((w.setCell ⟨g, 0, none⟩ (.bool x.fo)).setCell ⟨g, 1, none⟩ (.int .i64 x.ow)).setCell ⟨g, 2, none⟩ (.int .i64 x.gr)).setCell ⟨g, 3, none⟩ (.int .i64 x.mo)).setCell ⟨g, 4, none⟩ (.string x.tx)).setCell ⟨g, 5, none⟩ u').setCell ⟨g, 6, none⟩ v') :=
  below_set (below_set (below_set (below_set (below_set (below_set (below_set h hg) hg) hg) hg) hg) hg) hg
theorem appG_some {α : Type} {E : Lay α} {T : TypeId} {B n c : Nat} {a : Addr} {w w' : World} {v' : Value} {l : List α} (h : AppG E T w B (.slice (some a) n c) l v' w') : ∃ A c', v' = .slice A l.length c' ∧ Hid (∃ g, A = some ⟨g, 0, none⟩) := by
  obtain ⟨h1, _, h3⟩ := h
  rcases h1.2 with ⟨rfl, _⟩ | ⟨g, c', cur, rfl, _⟩
  · rcases h3 with h | h <;> cases h
  · exact ⟨_, c', rfl, ⟨g, rfl⟩⟩
/-- All nodes' slices lie somewhere. -/
def SomeC (cs : List Cn) : Prop := ∀ c ∈ cs, (∃ g, c.nA = some ⟨g, 0, none⟩) ∧ ∃ g, c.kA = some ⟨g, 0, none⟩
/-- The names and kids of all nodes are not many. -/
def Few (t : List Nd) : Prop := ∀ k, k < t.length → (kth t k).ns.length ≤ 1000000 ∧ (kth t k).ks.length ≤ 1000000
theorem few_of {t : List Nd} (h : treeB t = true) (hk : (kidsOf t).length ≤ 1000000) : Few t := by
  intro k hlt
  have h1 := head_ks (tree_node h hlt)
  have h2 : (kth t k).ks.length ≤ (kidsOf t).length := by
    have e1 := kids_drop_take hlt
    omega
  omega
set_option maxRecDepth 100000 in
set_option maxHeartbeats 8000000 in
theorem copyS_of (v : Value) (t : List Nd) (w : World) (h : TreeR w v t) (ht : t.length ≤ 1000) (hf : Few t) :
    Calls Tryz.prog 45 #[v] w fun e w' => ∃ v' cs, e = .returned v' ∧ TreeC w.heap.size w' v' cs t ∧ SomeC cs ∧ Below w.heap.size w w' := by
  have H := Lib.hid h
  have Hf := Lib.hid hf
  obtain ⟨A, cap, rfl⟩ := h.shape
  have hcap := h.caps
  clear h hf
  go_enter Tryz.func45, Tryz.ntmps45
  go_wp2
  go_loopw [3, 4] (fun o i wr => ∃ (k : Nat) (cs : List Cn), k ≤ t.length ∧ i = .int .i64 k ∧ TreeC w.heap.size wr o cs (t.take k) ∧ SomeC cs ∧ Below w.heap.size w wr) (fun _ i _ => t.length - (intOf i).toNat)
  case atStart => exact ⟨0, [], Nat.zero_le _, rfl, treeC_empty (ownG_empty _ rfl (Nat.le_refl _)), (fun c hc => by cases hc), (by (repeat (first | exact Below.refl _ _ | exact Hbl.out | refine Below.ext ?_ (by first | omega | (simp; omega) | simp) | refine Below.setCell ?_ (by first | omega | (simp; omega) | simp) _ | refine Below.alloc ?_ (by first | omega | (simp; omega) | simp) _ | refine Below.drew ?_ | refine below_drewN ?_ _ | refine Below.step (by assumption) (by first | omega | (simp; omega) | simp) ?_)))⟩
  case round =>
    obtain ⟨k, cs, hk, rfl, hC, hSm, hB⟩ := hrel
    have HSm := Lib.hid hSm
    clear hSm
    have HB := Lib.hid hB
    have HC := Lib.hid hC
    have hzr := hB.size
    have hlen := hC.len
    rw [List.length_take, Nat.min_eq_left hk] at hlen
    obtain ⟨Ao, co, rfl⟩ := ownG_shape hC.row
    by_cases hlt : k < t.length
    · obtain ⟨b, off, nA, nC, kA, kC, rfl, hb, hS, y0, y1, y2, y3, y4, y5, y6⟩ := (H.out.below hB).at_ (kth_at hlt)
      have HS := Lib.hid hS
      obtain ⟨f1, f2⟩ := Hf.out k hlt
      have hlt' : (k : Int) < (t.length : Int) := by omega
      have htk : t.take (k + 1) = t.take k ++ [kth t k] := by rw [List.take_add_one, kth_at hlt]; rfl
      have Htk := Lib.hid htk
      generalize kth t k = x at HS y0 y1 y2 y3 y4 y5 y6 f1 f2 Htk
      clear hB hC hS htk
      go_wp2_with (at_builtin; refine wpList_appG fitEL _ rfl (.tmp 17) (.tmp 19) rfl (wr.heap.size + 1) (.slice (some ⟨_, 0, none⟩) 0 0) [] rfl ?cO _ x.ns rfl ?cS ?cL ?cB ?_)
      case cO => exact ownG_empty _ (by simp) (by simp)
      case cS => exact HS.out.ns.below (by (repeat (first | exact Below.refl _ _ | exact Hbl.out | refine Below.ext ?_ (by first | omega | (simp; omega) | simp) | refine Below.setCell ?_ (by first | omega | (simp; omega) | simp) _ | refine Below.alloc ?_ (by first | omega | (simp; omega) | simp) _ | refine Below.drew ?_ | refine below_drewN ?_ _ | refine Below.step (by assumption) (by first | omega | (simp; omega) | simp) ?_)))
      case cL => simp; omega
      case cB => simp
      intro v4 w4 ⟨o4, g4, a4⟩ hb4
      have hz4 := hb4.size
      have hX4 : BoxN w4 wr.heap.size x (.slice nA x.ns.length nC) (.slice kA x.ks.length kC) := ((BoxN.made (w := wr) (x := x) (u := .slice nA x.ns.length nC) (v := .slice kA x.ks.length kC) (T := 44)).below (Below.alloc (Below.refl _ _) (Nat.le_refl _) _) (by simp)).below hb4 (by omega)
      obtain ⟨x0, x1, x2, x3, x4, x5, x6, xf, _⟩ := id hX4
      have xf5 := xf 5
      have xf6 := xf 6
      have hbw4 : Below wr.heap.size wr w4 := Below.trans (show Below wr.heap.size wr _ from Below.alloc (Below.alloc (Below.refl _ _) (Nat.le_refl _) _) (by simp) _) (Below.mono hb4 (by omega))
      have hzw4 : wr.heap.size + 2 ≤ w4.heap.size := by simp at hz4; omega
      obtain ⟨A4, c4, rfl, hA4⟩ := appG_some ⟨o4, g4, a4⟩
      have O4 := Lib.hid o4
      have HB4 := Lib.hid hbw4
      have X4 := Lib.hid hX4
      clear hX4 xf hb4 hz4 o4 g4 a4 hbw4
      go_wp2_with (at_builtin; refine wpList_appG fitEI _ rfl (.tmp 22) (.tmp 24) rfl w4.heap.size (.slice (some ⟨_, 0, none⟩) 0 0) [] rfl ?cO _ x.ks rfl ?cS ?cL ?cB ?_)
      case cO => exact ownG_empty _ (by simp) (by simp)
      case cS => exact HS.out.ks.below (Below.alloc (Below.setCell HB4.out (by simp) _) (by simp; omega) _)
      case cL => simp; omega
      case cB => simp
      intro v6 w6 ⟨o6, g6, a6⟩ hb6
      have hz6 := hb6.size
      have hX6 : BoxN w6 wr.heap.size x (.slice A4 x.ns.length c4) (.slice kA x.ks.length kC) := (X4.out.set5.alloc).below hb6 X4.out.lt
      have hlow : Below w4.heap.size (w4.setCell ⟨wr.heap.size, 5, none⟩ (.slice A4 x.ns.length c4)) w6 := Below.trans (Below.alloc (Below.refl _ _) (by simp) _) hb6
      have h46 : OwnG EL 9 (wr.heap.size + 1) w6 (.slice A4 x.ns.length c4) x.ns := ownG_below (w := w4.setCell ⟨wr.heap.size, 5, none⟩ (.slice A4 x.ns.length c4)) (ownG_set O4.out (fun j hj => by have := (ownG_block O4.out j hj).1; omega)) (by simpa using hlow)
      have hbw6 : Below wr.heap.size wr w6 := Below.trans HB4.out (Below.trans (show Below wr.heap.size w4 (w4.setCell ⟨wr.heap.size, 5, none⟩ (.slice A4 x.ns.length c4)) from Below.setCell (Below.refl _ _) (by simp) _) (Below.mono hlow (by omega)))
      have hzw6 : w4.heap.size ≤ w6.heap.size := by simp at hz6; omega
      obtain ⟨A6, c6, rfl, hA6⟩ := appG_some ⟨o6, g6, a6⟩
      clear x0 x1 x2 x3 x4 x5 x6 xf5 xf6 hb6 hz6 g6 a6 hlow
      obtain ⟨x0, x1, x2, x3, x4, x5, x6, xf, _⟩ := id hX6
      have xf6 := xf 6
      have hX7 : BoxN (w6.setCell ⟨wr.heap.size, 6, none⟩ (.slice A6 x.ks.length c6)) wr.heap.size x (.slice A4 x.ns.length c4) (.slice A6 x.ks.length c6) := hX6.set6
      have hz7 : (w6.setCell ⟨wr.heap.size, 6, none⟩ (.slice A6 x.ks.length c6)).heap.size = w6.heap.size := by simp
      have hbw7 : Below wr.heap.size wr (w6.setCell ⟨wr.heap.size, 6, none⟩ (.slice A6 x.ks.length c6)) := Below.setCell hbw6 (by simp) _
      have h47 : OwnG EL 9 (wr.heap.size + 1) (w6.setCell ⟨wr.heap.size, 6, none⟩ (.slice A6 x.ks.length c6)) (.slice A4 x.ns.length c4) x.ns := ownG_set h46 (fun j hj => by have := (ownG_block h46 j hj).1; omega)
      have h67 : OwnG EI 3 w4.heap.size (w6.setCell ⟨wr.heap.size, 6, none⟩ (.slice A6 x.ks.length c6)) (.slice A6 x.ks.length c6) x.ks := ownG_set o6 (fun j hj => by have := (ownG_block o6 j hj).1; omega)
      obtain ⟨c, hc⟩ : ∃ c : Cn, c = ⟨x.fo, x.ow, x.gr, x.mo, x.tx, A4, x.ns.length, c4, A6, x.ks.length, c6⟩ := ⟨_, rfl⟩
      have hput : EC.put c = [.bool x.fo, .int .i64 x.ow, .int .i64 x.gr, .int .i64 x.mo, .string x.tx, .slice A4 x.ns.length c4, .slice A6 x.ks.length c6] := by rw [hc]; rfl
      have hnd : NdO w.heap.size (w6.setCell ⟨wr.heap.size, 6, none⟩ (.slice A6 x.ks.length c6)) c x := by
        rw [hc]; exact ⟨rfl, rfl, rfl, rfl, rfl, ownG_mono h47 (by omega), ownG_mono h67 (by omega), HS.out.sz, HS.out.nz⟩
      have hsep : ∀ (j : Nat) d, cs[j]? = some d → Sep (nB c) (nB d) ∧ Sep (kB c) (kB d) := by
        intro j d hd
        have hj : j < cs.length := (List.getElem?_eq_some_iff.1 hd).1
        have hjt : j < (t.take k).length := by rw [← HC.out.len]; exact hj
        have hy : (t.take k)[j]? = some (t.take k)[j] := List.getElem?_eq_getElem hjt
        have hn := HC.out.nds j d _ hd hy
        rw [hc]
        exact ⟨(ownG_apart hn.ns h47 (by omega)).symm, (ownG_apart hn.ks h67 (by omega)).symm⟩
      have hSm2 : SomeC (cs ++ [c]) := fun d hd => by
        rcases List.mem_append.1 hd with h | h
        · exact HSm.out d h
        · rw [List.mem_singleton.1 h, hc]; exact ⟨hA4, hA6⟩
      have HSm2 := Lib.hid hSm2
      have hC7 := HC.out.below hbw7
      have HC7 := Lib.hid hC7
      have Hput := Lib.hid hput
      have Hnd := Lib.hid hnd
      have Hsep := Lib.hid hsep
      have HB7 := Lib.hid hbw7
      have X7 := Lib.hid hX7
      clear hSm2 hc hput hnd hsep hC7 h47 h67 h46 o6 hX6 hX7 hbw6 hbw7 xf
      go_wp2_with (at_builtin; refine wpList_appG fitEC _ rfl (.tmp 27) (.tmp 29) rfl w.heap.size (.slice Ao k co) cs rfl ?cO _ [c] rfl ?cS ?cL ?cB ?_)
      case cO =>
        have := (HC7.out.row)
        rw [hlen] at this
        exact ownG_alloc this _
      case cS => exact slG_one (by simp) (by
        intro j u hu
        rw [Hput.out] at hu
        rcases j with _ | _ | _ | _ | _ | _ | _ | j <;> simp at hu <;> subst hu <;> go_simp)
      case cL => simp; omega
      case cB => simp; omega
      intro v9 w9 ha9 hb9
      have hCW := HC7.out.below (Below.alloc (Below.refl _ _) (Nat.le_refl _) (.cells #[.bool x.fo, .int .i64 x.ow, .int .i64 x.gr, .int .i64 x.mo, .string x.tx, .slice A4 x.ns.length c4, .slice A6 x.ks.length c6] 44))
      rw [hlen] at hCW
      have hC9 := hCW.push (Hnd.out.below (Below.alloc (Below.refl _ _) (Nat.le_refl _) _)) Hsep.out ha9
      rw [← Htk.out] at hC9
      have HC9 := Lib.hid hC9
      have HB9 := Lib.hid (Below.trans (Below.trans HB.out (Below.mono (Below.alloc HB7.out (by simp; omega) _) hzr)) hb9)
      clear hCW hC9 ha9 hb9
      go_wp2
      go_roundw
      case rel => exact ⟨k + 1, _, hlt, by go_num, HC9.out, HSm2.out, HB9.out⟩
      case measure => simp [intOf]; omega
    · have hkl : k = t.length := by omega
      clear hB hC
      go_wp2
      go_ret
      have hC := HC.out
      rw [List.take_of_length_le (by omega)] at hC
      exact ⟨_, cs, rfl, hC, HSm.out, HB.out⟩
end Go.Proofs.YtkennmpbmbacpaaGreatDoor

namespace Go.Proofs.YtkennmpbmbacpaaGreatDoor
open Go.RowKit

set_option maxRecDepth 100000 in
set_option maxHeartbeats 8000000 in
theorem putS_of (nA : Option Addr) (nC : Nat) (kA : Option Addr) (kC : Nat) (x : Nd) (s : List UInt8) (z : Int) (w : World) (h : NdS w nA nC kA kC x) (hl : x.ns.length = x.ks.length) (hb : x.ns.length ≤ 1000000) (hs : s.length ≤ 1048576) (hA : ∃ b off, nA = some ⟨b, off, none⟩) (hA' : ∃ b off, kA = some ⟨b, off, none⟩) :
    Calls Tryz.prog 71 #[.agg #[.bool x.fo, .int .i64 x.ow, .int .i64 x.gr, .int .i64 x.mo, .string x.tx, .slice nA x.ns.length nC, .slice kA x.ks.length kC], .string (mk s), .int .i64 z] w fun e w' =>
      ∃ A1 c1 A2 c2, e = .returned (.agg #[.bool x.fo, .int .i64 x.ow, .int .i64 x.gr, .int .i64 x.mo, .string x.tx, .slice A1 (putF x s z).ns.length c1, .slice A2 (putF x s z).ks.length c2]) ∧
        OwnG EL 9 w.heap.size w' (.slice A1 (putF x s z).ns.length c1) (putF x s z).ns ∧ OwnG EI 3 w.heap.size w' (.slice A2 (putF x s z).ks.length c2) (putF x s z).ks ∧ Below w.heap.size w w' := by
  have H := Lib.hid h
  have Hl := Lib.hid hl
  have hc1 := h.ns.caps
  have hc2 := h.ks.caps
  have hle := putAt_le x s
  have hlt0 : ∀ k, k < putAt x s → ltL (nthN x k) s = true := fun k hk => putAt_lt hk
  have hge0 : putAt x s < x.ns.length → ltL (nthN x (putAt x s)) s = false := putAt_ge
  have Hlt := Lib.hid hlt0
  have Hge := Lib.hid hge0
  clear h hl hlt0 hge0
  go_enter Tryz.func71, Tryz.ntmps71
  go_wp2
  go_loopw [7] (fun i wr => ∃ k : Nat, k ≤ putAt x s ∧ i = .int .i64 k ∧ wr = (w.alloc (.cells #[.bool x.fo, .int .i64 x.ow, .int .i64 x.gr, .int .i64 x.mo, .string x.tx, .slice nA x.ns.length nC, .slice kA x.ks.length kC] 44)).alloc (.cells #[.bool false, .int .i64 0, .int .i64 0, .int .i64 0, .string ByteArray.empty, .slice none 0 0, .slice none 0 0] 44)) (fun i _ => putAt x s - (intOf i).toNat)
  case atStart => exact ⟨0, Nat.zero_le _, rfl, rfl⟩
  case round =>
    obtain ⟨k, hk, rfl, rfl⟩ := hrel
    by_cases hlt : k < putAt x s
    · have hkn : k < x.ns.length := by omega
      have hkn' : (k : Int) < (x.ns.length : Int) := by omega
      have hcmp : Op.bytesLess (mk (nthN x k)).toList (mk s).toList = true := by rw [mk_toList, mk_toList]; exact Hlt.out k hlt
      obtain ⟨b, off, rfl, hbb, q⟩ := H.out.ns.at_ (nthN_at hkn)
      have c1 : w.cell? ⟨b, off + k, none⟩ = some (.string (mk (nthN x k))) := by have := q 0 _ rfl; simpa [EL] using this
      clear q
      go_wp2
      go_roundw
      case rel => exact ⟨k + 1, hlt, by go_num, by first | trivial | rfl⟩
      case measure => simp [intOf]; omega
    · obtain rfl : k = putAt x s := by omega
      by_cases hk2 : putAt x s < x.ns.length
      · have hkn' : ((putAt x s : Nat) : Int) < (x.ns.length : Int) := by omega
        have hcmp : Op.bytesLess (mk (nthN x (putAt x s))).toList (mk s).toList = false := by rw [mk_toList, mk_toList]; exact Hge.out hk2
        obtain ⟨b, off, rfl, hbb, q⟩ := H.out.ns.at_ (nthN_at hk2)
        have c1 : w.cell? ⟨b, off + putAt x s, none⟩ = some (.string (mk (nthN x (putAt x s)))) := by have := q 0 _ rfl; simpa [EL] using this
        obtain ⟨bk, ok, rfl, _, _⟩ := H.out.ks.at_ (nthK_at (x := x) (j := putAt x s) (by have := Hl.out; omega))
        have hkcap : ¬ kC = putAt x s := by have := Hl.out; omega
        have hkcap' : ¬ putAt x s = kC := by have := Hl.out; omega
        clear q
        go_upto_region 5 with fail
        obtain ⟨W, hW⟩ : ∃ W, W = ((w.alloc (.cells #[.bool x.fo, .int .i64 x.ow, .int .i64 x.gr, .int .i64 x.mo, .string x.tx, .slice (some ⟨b, off, none⟩) x.ns.length nC, .slice (some ⟨bk, ok, none⟩) x.ks.length kC] 44)).alloc (.cells #[.bool false, .int .i64 0, .int .i64 0, .int .i64 0, .string ByteArray.empty, .slice none 0 0, .slice none 0 0] 44)).alloc (.cells #[.bool x.fo, .int .i64 x.ow, .int .i64 x.gr, .int .i64 x.mo, .string x.tx, .slice (some ⟨b, off, none⟩) x.ns.length nC, .slice (some ⟨bk, ok, none⟩) x.ks.length kC] 44) := ⟨_, rfl⟩
        have N : BoxN W w.heap.size x (.slice (some ⟨b, off, none⟩) x.ns.length nC) (.slice (some ⟨bk, ok, none⟩) x.ks.length kC) := by rw [hW]; exact BoxN.alloc (BoxN.alloc (BoxN.made' rfl))
        have Z : BoxN W (w.heap.size + 1) (newNd false 0 0 0) (.slice none 0 0) (.slice none 0 0) := by rw [hW]; refine BoxN.alloc (BoxN.made' (x := newNd false 0 0 0) ?_); simp
        have O : BoxN W (w.heap.size + 1 + 1) x (.slice (some ⟨b, off, none⟩) x.ns.length nC) (.slice (some ⟨bk, ok, none⟩) x.ks.length kC) := by rw [hW]; refine BoxN.made' ?_; simp
        have BW : Below w.heap.size w W := by rw [hW]; exact (by (repeat (first | exact Below.refl _ _ | exact Hbl.out | refine Below.ext ?_ (by first | omega | (simp; omega) | simp) | refine Below.setCell ?_ (by first | omega | (simp; omega) | simp) _ | refine Below.alloc ?_ (by first | omega | (simp; omega) | simp) _ | refine Below.drew ?_ | refine below_drewN ?_ _ | refine Below.step (by assumption) (by first | omega | (simp; omega) | simp) ?_)))
        rw [← hW]
        clear hW
        obtain ⟨g3, hg3⟩ : ∃ g, g = w.heap.size + 1 + 1 := ⟨_, rfl⟩
        rw [← hg3] at O
        simp only [← hg3]
        obtain ⟨g2, hg2⟩ : ∃ g, g = w.heap.size + 1 := ⟨_, rfl⟩
        rw [← hg2] at Z
        simp only [← hg2]
        have h12 : w.heap.size < g2 := by omega
        have h23 : g2 < g3 := by omega
        have hg3W : g3 < W.heap.size := O.lt
        have hg2W : g2 < W.heap.size := Z.lt
        have hg1W : w.heap.size < W.heap.size := N.lt
        have nn : W.cell? ⟨w.heap.size, 5, none⟩ = some (.slice (some ⟨b, off, none⟩) x.ns.length nC) := N.c5
        have pp : W.cell? ⟨g3, 5, none⟩ = some (.slice (some ⟨b, off, none⟩) x.ns.length nC) := O.c5
        have qq : W.frozen? ⟨g3, 5, none⟩ = false := O.f 5
        have uu1 := (H.out.ns.below BW).take (k := putAt x s) (by omega)
        have T1 := Lib.hid uu1
        have Hnew : Hid (x.ns.take (putAt x s) ++ s :: x.ns.drop (putAt x s) = (putF x s z).ns) := rfl
        have Hnewk : Hid (x.ks.take (putAt x s) ++ z :: x.ks.drop (putAt x s) = (putF x s z).ks) := rfl
        have hln : (putAt x s : Int) ≤ (x.ns.length : Int) := by omega
        have hln2 : (putAt x s : Int) ≤ (nC : Int) := by omega
        have hkln : (putAt x s : Int) ≤ (x.ks.length : Int) := by have := Hl.out; omega
        have hkln2 : (putAt x s : Int) ≤ (kC : Int) := by have := Hl.out; omega
        have hksb : x.ks.length ≤ 1000000 := by have := Hl.out; omega
        have hkle : putAt x s ≤ x.ks.length := by have := Hl.out; omega
        have NN := Lib.hid N
        have OO := Lib.hid O
        have ZZ := Lib.hid Z
        have BB := Lib.hid BW
        clear hg2 hg3 N O Z uu1
        have hcap : ¬ nC = putAt x s := by omega
        have hcap' : ¬ putAt x s = nC := by omega
        clear BW
        go_cut [8] from 26 (fun p w5 => p = .pointer (some ⟨g3, 0, none⟩) ∧ ∃ A5 c5, OwnG EL 9 W.heap.size w5 (.slice A5 (putF x s z).ns.length c5) (putF x s z).ns ∧ BoxN w5 w.heap.size x (.slice (some ⟨b, off, none⟩) x.ns.length nC) (.slice (some ⟨bk, ok, none⟩) x.ks.length kC) ∧ BoxN w5 g2 (newNd false 0 0 0) (.slice none 0 0) (.slice none 0 0) ∧ BoxN w5 g3 x (.slice A5 (putF x s z).ns.length c5) (.slice (some ⟨bk, ok, none⟩) x.ks.length kC) ∧ Below w.heap.size w w5 ∧ W.heap.size ≤ w5.heap.size)
        case first =>
          have uu2 : SlG EL W (.slice (some ⟨b, off + putAt x s, none⟩) (x.ns.length - putAt x s) (nC - putAt x s)) (x.ns.drop (putAt x s)) := by have := (H.out.ns.below BB.out).drop (k := putAt x s) (by omega); rw [show EL.z = 1 from rfl, Nat.mul_one] at this; exact this
          have T2 := Lib.hid uu2
          clear uu2
          go_region_held3 (fun w' => w'.cell? ⟨w.heap.size, 5, none⟩ = some (.slice (some ⟨b, off, none⟩) x.ns.length nC)) (first | assumption | (go_simp; done) | fail) (first | (refine step_appG fitEL _ rfl (.tmp 34) (.tmp 38) rfl W.heap.size _ (x.ns.take (putAt x s) ++ [s]) rfl ?_ _ (x.ns.drop (putAt x s)) rfl ?_ ?_ ?_ ?_; (focus (first | exact o2 | exact ownG_alloc o2 _)); (focus (first | exact T2.out.below (by first | exact t2 | exact Below.alloc t2 t2.size _) | exact (T2a.out _ _ _ (by have := Hpe.out; omega) (by unfold maxLen; omega)).below (by first | exact t2 | exact Below.alloc t2 t2.size _))); (focus (simp; omega)); (focus (first | omega | (simp; done) | (simp; omega))); rintro v3 w3 ⟨o3, gr3, a3⟩ hb3; rw [List.append_assoc, List.singleton_append, Hnew.out] at o3; obtain ⟨A3, c3, rfl⟩ := ownG_shape o3; have t3 : Below W.heap.size W w3 := Below.trans (by first | exact t2 | exact Below.alloc t2 t2.size _) hb3; have n3 : w3.cell? ⟨w.heap.size, 5, none⟩ = some (.slice (some ⟨b, off, none⟩) x.ns.length nC) := (t3.cell (p := ⟨w.heap.size, 5, none⟩) hg1W).trans nn; have p3 : w3.cell? ⟨g3, 5, none⟩ = some (.slice (some ⟨b, off, none⟩) x.ns.length nC) := (t3.cell (p := ⟨g3, 5, none⟩) hg3W).trans pp; have q3 : w3.frozen? ⟨g3, 5, none⟩ = false := (t3.frozen (p := ⟨g3, 5, none⟩) hg3W).trans qq; have zz3 := t3.size; have hz3 := hb3.size; (try simp at hz3)) | (refine step_appG fitEL _ rfl (.tmp 31) (.tmp 33) rfl W.heap.size _ (x.ns.take (putAt x s)) rfl ?_ _ [s] rfl ?_ ?_ ?_ ?_; (focus (first | exact o1 | exact ownG_alloc o1 _)); (focus (refine slG_one ?_ ?_; (focus (first | omega | (simp; done) | (simp; omega))); (focus (intro j u hu; rcases j with _ | j <;> simp [EL] at hu; subst hu; first | (go_simp; done) | (refine gr1.cell ?_ ?_; (focus (go_simp)); (focus (simp [Value.ownBlock]; try omega))))))); (focus (simp; omega)); (focus (first | omega | (simp; done) | (simp; omega))); rintro v2 w2 ⟨o2, gr2, a2⟩ hb2; have t2 : Below W.heap.size W w2 := Below.trans (by first | exact t1 | exact Below.alloc t1 t1.size _) hb2; have n2 : w2.cell? ⟨w.heap.size, 5, none⟩ = some (.slice (some ⟨b, off, none⟩) x.ns.length nC) := (t2.cell (p := ⟨w.heap.size, 5, none⟩) hg1W).trans nn; have p2 : w2.cell? ⟨g3, 5, none⟩ = some (.slice (some ⟨b, off, none⟩) x.ns.length nC) := (t2.cell (p := ⟨g3, 5, none⟩) hg3W).trans pp; have q2 : w2.frozen? ⟨g3, 5, none⟩ = false := (t2.frozen (p := ⟨g3, 5, none⟩) hg3W).trans qq; have zz2 := t2.size; have hz2 := hb2.size; (try simp at hz2)) | (refine step_appG fitEL _ rfl (.tmp 26) (.tmp 30) rfl W.heap.size (.slice (some ⟨_, 0, none⟩) 0 0) [] rfl ?_ _ (x.ns.take (putAt x s)) rfl ?_ ?_ ?_ ?_; (focus (first | (refine ownG_empty _ ?_ ?_ <;> (simp; try omega); done) | (refine ownG_alloc (ownG_empty _ ?_ ?_) _ <;> (simp; try omega); done))); (focus (first | (refine T1.out.below ?_; (repeat (first | exact Below.refl _ _ | exact Hbl.out | refine Below.ext ?_ (by first | omega | (simp; omega) | simp) | refine Below.setCell ?_ (by first | omega | (simp; omega) | simp) _ | refine Below.alloc ?_ (by first | omega | (simp; omega) | simp) _ | refine Below.drew ?_ | refine below_drewN ?_ _ | refine Below.step (by assumption) (by first | omega | (simp; omega) | simp) ?_)); done) | (refine (T1a.out _ _ _ (by first | rfl | exact Hp0.out) (by unfold maxLen; omega)).below ?_; (repeat (first | exact Below.refl _ _ | exact Hbl.out | refine Below.ext ?_ (by first | omega | (simp; omega) | simp) | refine Below.setCell ?_ (by first | omega | (simp; omega) | simp) _ | refine Below.alloc ?_ (by first | omega | (simp; omega) | simp) _ | refine Below.drew ?_ | refine below_drewN ?_ _ | refine Below.step (by assumption) (by first | omega | (simp; omega) | simp) ?_))))); (focus (simp; omega)); (focus (first | omega | (simp; done) | (simp; omega))); rintro v1 w1 ⟨o1, gr1, a1⟩ hb1; (try rw [List.nil_append] at o1); have t1 : Below W.heap.size W w1 := Below.trans (show Below W.heap.size W _ from (by (repeat (first | exact Below.refl _ _ | exact Hbl.out | refine Below.ext ?_ (by first | omega | (simp; omega) | simp) | refine Below.setCell ?_ (by first | omega | (simp; omega) | simp) _ | refine Below.alloc ?_ (by first | omega | (simp; omega) | simp) _ | refine Below.drew ?_ | refine below_drewN ?_ _ | refine Below.step (by assumption) (by first | omega | (simp; omega) | simp) ?_)))) hb1; have n1 : w1.cell? ⟨w.heap.size, 5, none⟩ = some (.slice (some ⟨b, off, none⟩) x.ns.length nC) := (t1.cell (p := ⟨w.heap.size, 5, none⟩) hg1W).trans nn; have p1 : w1.cell? ⟨g3, 5, none⟩ = some (.slice (some ⟨b, off, none⟩) x.ns.length nC) := (t1.cell (p := ⟨g3, 5, none⟩) hg3W).trans pp; have q1 : w1.frozen? ⟨g3, 5, none⟩ = false := (t1.frozen (p := ⟨g3, 5, none⟩) hg3W).trans qq; have zz1 := t1.size; have hz1 := hb1.size; (try simp at hz1)))
          all_goals
            go_wp2_with fail
            go_meet
            exact ⟨rfl, A3, c3, ownG_set o3 (fun j hj => by have := (ownG_block o3 j hj).1; omega), (NN.out.below t3 hg1W).other (by omega), (ZZ.out.below t3 hg2W).other (by omega), (OO.out.below t3 hg3W).set5, Below.setCell (Below.trans BB.out (Below.mono t3 (by omega))) (by first | omega | (simp; omega)) _, by simp; omega⟩
        case rest =>
          obtain ⟨rfl, A5, c5, o5, N5, Z5, O5, B5, h25⟩ := hcut
          clear NN OO ZZ BB T1 nn pp qq
          obtain ⟨B0, hB0⟩ : ∃ B, B = W.heap.size := ⟨_, rfl⟩
          rw [← hB0] at o5
          have hg1B : w.heap.size < B0 := by omega
          have hg3B : g3 < B0 := by omega
          generalize wc = w5 at o5 N5 Z5 O5 B5 h25 ⊢
          have hg3W : g3 < w5.heap.size := O5.lt
          have hg2W : g2 < w5.heap.size := Z5.lt
          have hg1W : w.heap.size < w5.heap.size := N5.lt
          clear hB0 h25
          have uu1 := (H.out.ks.below B5).take (k := putAt x s) (by omega)
          have U1 := Lib.hid uu1
          have uu2 : SlG EI w5 (.slice (some ⟨bk, ok + putAt x s, none⟩) (x.ks.length - putAt x s) (kC - putAt x s)) (x.ks.drop (putAt x s)) := by have := (H.out.ks.below B5).drop (k := putAt x s) (by omega); rw [show EI.z = 1 from rfl, Nat.mul_one] at this; exact this
          have U2 := Lib.hid uu2
          have nn : w5.cell? ⟨w.heap.size, 6, none⟩ = some (.slice (some ⟨bk, ok, none⟩) x.ks.length kC) := N5.c6
          have pp : w5.cell? ⟨g3, 6, none⟩ = some (.slice (some ⟨bk, ok, none⟩) x.ks.length kC) := O5.c6
          have qq : w5.frozen? ⟨g3, 6, none⟩ = false := O5.f 6
          have NN := Lib.hid N5
          have OO := Lib.hid O5
          have ZZ := Lib.hid Z5
          have BB := Lib.hid B5
          have OW := Lib.hid o5
          clear N5 O5 Z5 B5 o5 uu1 uu2
          go_upto_region 6 with fail
          go_region_held3 (fun w' => w'.cell? ⟨w.heap.size, 6, none⟩ = some (.slice (some ⟨bk, ok, none⟩) x.ks.length kC)) (first | assumption | (go_simp; done) | fail) (first | (refine step_appG fitEI _ rfl (.tmp 49) (.tmp 53) rfl w5.heap.size _ (x.ks.take (putAt x s) ++ [z]) rfl ?_ _ (x.ks.drop (putAt x s)) rfl ?_ ?_ ?_ ?_; (focus (first | exact o2 | exact ownG_alloc o2 _)); (focus (first | exact U2.out.below (by first | exact t2 | exact Below.alloc t2 t2.size _) | exact (U2a.out _ _ _ (by have := Hpe.out; have := Hl.out; omega) (by unfold maxLen; omega)).below (by first | exact t2 | exact Below.alloc t2 t2.size _))); (focus (simp; omega)); (focus (first | omega | (simp; done) | (simp; omega))); rintro v3 w3 ⟨o3, gr3, a3⟩ hb3; rw [List.append_assoc, List.singleton_append, Hnewk.out] at o3; obtain ⟨A3, c3, rfl⟩ := ownG_shape o3; have t3 : Below w5.heap.size w5 w3 := Below.trans (by first | exact t2 | exact Below.alloc t2 t2.size _) hb3; have n3 : w3.cell? ⟨w.heap.size, 6, none⟩ = some (.slice (some ⟨bk, ok, none⟩) x.ks.length kC) := (t3.cell (p := ⟨w.heap.size, 6, none⟩) hg1W).trans nn; have p3 : w3.cell? ⟨g3, 6, none⟩ = some (.slice (some ⟨bk, ok, none⟩) x.ks.length kC) := (t3.cell (p := ⟨g3, 6, none⟩) hg3W).trans pp; have q3 : w3.frozen? ⟨g3, 6, none⟩ = false := (t3.frozen (p := ⟨g3, 6, none⟩) hg3W).trans qq; have zz3 := t3.size; have hz3 := hb3.size; (try simp at hz3)) | (refine step_appG fitEI _ rfl (.tmp 46) (.tmp 48) rfl w5.heap.size _ (x.ks.take (putAt x s)) rfl ?_ _ [z] rfl ?_ ?_ ?_ ?_; (focus (first | exact o1 | exact ownG_alloc o1 _)); (focus (refine slG_one ?_ ?_; (focus (first | omega | (simp; done) | (simp; omega))); (focus (intro j u hu; rcases j with _ | j <;> simp [EI] at hu; subst hu; first | (go_simp; done) | (refine gr1.cell ?_ ?_; (focus (go_simp)); (focus (simp [Value.ownBlock]; try omega))))))); (focus (simp; omega)); (focus (first | omega | (simp; done) | (simp; omega))); rintro v2 w2 ⟨o2, gr2, a2⟩ hb2; have t2 : Below w5.heap.size w5 w2 := Below.trans (by first | exact t1 | exact Below.alloc t1 t1.size _) hb2; have n2 : w2.cell? ⟨w.heap.size, 6, none⟩ = some (.slice (some ⟨bk, ok, none⟩) x.ks.length kC) := (t2.cell (p := ⟨w.heap.size, 6, none⟩) hg1W).trans nn; have p2 : w2.cell? ⟨g3, 6, none⟩ = some (.slice (some ⟨bk, ok, none⟩) x.ks.length kC) := (t2.cell (p := ⟨g3, 6, none⟩) hg3W).trans pp; have q2 : w2.frozen? ⟨g3, 6, none⟩ = false := (t2.frozen (p := ⟨g3, 6, none⟩) hg3W).trans qq; have zz2 := t2.size; have hz2 := hb2.size; (try simp at hz2)) | (refine step_appG fitEI _ rfl (.tmp 41) (.tmp 45) rfl w5.heap.size (.slice (some ⟨_, 0, none⟩) 0 0) [] rfl ?_ _ (x.ks.take (putAt x s)) rfl ?_ ?_ ?_ ?_; (focus (first | (refine ownG_empty _ ?_ ?_ <;> (simp; try omega); done) | (refine ownG_alloc (ownG_empty _ ?_ ?_) _ <;> (simp; try omega); done))); (focus (first | (refine U1.out.below ?_; (repeat (first | exact Below.refl _ _ | exact Hbl.out | refine Below.ext ?_ (by first | omega | (simp; omega) | simp) | refine Below.setCell ?_ (by first | omega | (simp; omega) | simp) _ | refine Below.alloc ?_ (by first | omega | (simp; omega) | simp) _ | refine Below.drew ?_ | refine below_drewN ?_ _ | refine Below.step (by assumption) (by first | omega | (simp; omega) | simp) ?_)); done) | (refine (T1a.out _ _ _ (by first | rfl | exact Hp0.out) (by unfold maxLen; omega)).below ?_; (repeat (first | exact Below.refl _ _ | exact Hbl.out | refine Below.ext ?_ (by first | omega | (simp; omega) | simp) | refine Below.setCell ?_ (by first | omega | (simp; omega) | simp) _ | refine Below.alloc ?_ (by first | omega | (simp; omega) | simp) _ | refine Below.drew ?_ | refine below_drewN ?_ _ | refine Below.step (by assumption) (by first | omega | (simp; omega) | simp) ?_))))); (focus (simp; omega)); (focus (first | omega | (simp; done) | (simp; omega))); rintro v1 w1 ⟨o1, gr1, a1⟩ hb1; (try rw [List.nil_append] at o1); have t1 : Below w5.heap.size w5 w1 := Below.trans (show Below w5.heap.size w5 _ from (by (repeat (first | exact Below.refl _ _ | exact Hbl.out | refine Below.ext ?_ (by first | omega | (simp; omega) | simp) | refine Below.setCell ?_ (by first | omega | (simp; omega) | simp) _ | refine Below.alloc ?_ (by first | omega | (simp; omega) | simp) _ | refine Below.drew ?_ | refine below_drewN ?_ _ | refine Below.step (by assumption) (by first | omega | (simp; omega) | simp) ?_)))) hb1; have n1 : w1.cell? ⟨w.heap.size, 6, none⟩ = some (.slice (some ⟨bk, ok, none⟩) x.ks.length kC) := (t1.cell (p := ⟨w.heap.size, 6, none⟩) hg1W).trans nn; have p1 : w1.cell? ⟨g3, 6, none⟩ = some (.slice (some ⟨bk, ok, none⟩) x.ks.length kC) := (t1.cell (p := ⟨g3, 6, none⟩) hg3W).trans pp; have q1 : w1.frozen? ⟨g3, 6, none⟩ = false := (t1.frozen (p := ⟨g3, 6, none⟩) hg3W).trans qq; have zz1 := t1.size; have hz1 := hb1.size; (try simp at hz1)))
          all_goals
            have O3 : BoxN (w3.setCell ⟨g3, 6, none⟩ (.slice A3 (putF x s z).ks.length c3)) g3 x (.slice A5 (putF x s z).ns.length c5) (.slice A3 (putF x s z).ks.length c3) := (OO.out.below t3 hg3W).set6
            have Z3 : BoxN (w3.setCell ⟨g3, 6, none⟩ (.slice A3 (putF x s z).ks.length c3)) g2 (newNd false 0 0 0) (.slice none 0 0) (.slice none 0 0) := (ZZ.out.below t3 hg2W).other (by omega)
            have E3 : OwnG EL 9 B0 (w3.setCell ⟨g3, 6, none⟩ (.slice A3 (putF x s z).ks.length c3)) (.slice A5 (putF x s z).ns.length c5) (putF x s z).ns := ownG_set (ownG_below OW.out t3) (fun j hj => by have := (ownG_block OW.out j hj).1; omega)
            have F3 : OwnG EI 3 w5.heap.size (w3.setCell ⟨g3, 6, none⟩ (.slice A3 (putF x s z).ks.length c3)) (.slice A3 (putF x s z).ks.length c3) (putF x s z).ks := ownG_set o3 (fun j hj => by have := (ownG_block o3 j hj).1; omega)
            have T3 : Below w.heap.size w (w3.setCell ⟨g3, 6, none⟩ (.slice A3 (putF x s z).ks.length c3)) := Below.setCell (Below.trans BB.out (Below.mono t3 (by omega))) (by first | omega | (simp; omega)) _
            generalize w3.setCell ⟨g3, 6, none⟩ (.slice A3 (putF x s z).ks.length c3) = w7 at O3 Z3 E3 F3 T3 ⊢
            have ZB := Lib.hid Z3
            obtain ⟨y0, y1, y2, y3, y4, y5, y6, yf, _⟩ := O3
            obtain ⟨x0, x1, x2, x3, x4, x5, x6, xf, _⟩ := Z3
            have f0 := xf 0
            have f1 := xf 1
            have f2 := xf 2
            have f3 := xf 3
            have f4 := xf 4
            have f5 := xf 5
            have f6 := xf 6
            have Oe := Lib.hid E3
            have O3' := Lib.hid F3
            have T3' := Lib.hid T3
            clear E3 F3 T3 o3 o2 o1 gr1 gr2 gr3 a1 a2 a3 hb1 hb2 hb3 n1 n2 n3 p1 p2 p3 q1 q2 q3 t1 t2 t3 xf yf nn pp qq zz1 zz2 zz3 hz1 hz2 hz3
            go_wp2
            have R8 := BoxN.full (x := x) (u' := .slice A5 (putF x s z).ns.length c5) (v' := .slice A3 (putF x s z).ks.length c3) ZB.out
            have E8 := ownG_full (g := g2) (x := x) (u' := .slice A5 (putF x s z).ns.length c5) (v' := .slice A3 (putF x s z).ks.length c3) Oe.out (fun j hj => by have := (ownG_block Oe.out j hj).1; omega)
            have F8 := ownG_full (g := g2) (x := x) (u' := .slice A5 (putF x s z).ns.length c5) (v' := .slice A3 (putF x s z).ks.length c3) O3'.out (fun j hj => by have := (ownG_block O3'.out j hj).1; omega)
            have T8 := below_full (g := g2) (x := x) (u' := .slice A5 (putF x s z).ns.length c5) (v' := .slice A3 (putF x s z).ks.length c3) T3'.out (by omega)
            generalize ((((((w7.setCell ⟨g2, 0, none⟩ (.bool x.fo)).setCell ⟨g2, 1, none⟩ (.int .i64 x.ow)).setCell ⟨g2, 2, none⟩ (.int .i64 x.gr)).setCell ⟨g2, 3, none⟩ (.int .i64 x.mo)).setCell ⟨g2, 4, none⟩ (.string x.tx)).setCell ⟨g2, 5, none⟩ (.slice A5 (putF x s z).ns.length c5)).setCell ⟨g2, 6, none⟩ (.slice A3 (putF x s z).ks.length c3) = w8 at R8 E8 F8 T8 ⊢
            obtain ⟨y0, y1, y2, y3, y4, y5, y6, yf, _⟩ := R8
            refine bodyPost_ret (v := .agg #[.bool x.fo, .int .i64 x.ow, .int .i64 x.gr, .int .i64 x.mo, .string x.tx, .slice A5 (putF x s z).ns.length c5, .slice A3 (putF x s z).ks.length c3]) ?_ rfl ⟨A5, c5, A3, c3, rfl, ownG_mono E8 (by omega), ownG_mono F8 (by omega), T8⟩
            simp only [results, Tryz.results71]
            go_simp
      · have hkn' : ¬ ((putAt x s : Nat) : Int) < (x.ns.length : Int) := by omega
        have hpe : putAt x s = x.ns.length := by omega
        have Hpe := Lib.hid hpe
        clear hpe
        go_upto_region 5 with fail
        obtain ⟨W, hW⟩ : ∃ W, W = ((w.alloc (.cells #[.bool x.fo, .int .i64 x.ow, .int .i64 x.gr, .int .i64 x.mo, .string x.tx, .slice nA x.ns.length nC, .slice kA x.ks.length kC] 44)).alloc (.cells #[.bool false, .int .i64 0, .int .i64 0, .int .i64 0, .string ByteArray.empty, .slice none 0 0, .slice none 0 0] 44)).alloc (.cells #[.bool x.fo, .int .i64 x.ow, .int .i64 x.gr, .int .i64 x.mo, .string x.tx, .slice nA x.ns.length nC, .slice kA x.ks.length kC] 44) := ⟨_, rfl⟩
        have N : BoxN W w.heap.size x (.slice nA x.ns.length nC) (.slice kA x.ks.length kC) := by rw [hW]; exact BoxN.alloc (BoxN.alloc (BoxN.made' rfl))
        have Z : BoxN W (w.heap.size + 1) (newNd false 0 0 0) (.slice none 0 0) (.slice none 0 0) := by rw [hW]; refine BoxN.alloc (BoxN.made' (x := newNd false 0 0 0) ?_); simp
        have O : BoxN W (w.heap.size + 1 + 1) x (.slice nA x.ns.length nC) (.slice kA x.ks.length kC) := by rw [hW]; refine BoxN.made' ?_; simp
        have BW : Below w.heap.size w W := by rw [hW]; exact (by (repeat (first | exact Below.refl _ _ | exact Hbl.out | refine Below.ext ?_ (by first | omega | (simp; omega) | simp) | refine Below.setCell ?_ (by first | omega | (simp; omega) | simp) _ | refine Below.alloc ?_ (by first | omega | (simp; omega) | simp) _ | refine Below.drew ?_ | refine below_drewN ?_ _ | refine Below.step (by assumption) (by first | omega | (simp; omega) | simp) ?_)))
        rw [← hW]
        clear hW
        obtain ⟨g3, hg3⟩ : ∃ g, g = w.heap.size + 1 + 1 := ⟨_, rfl⟩
        rw [← hg3] at O
        simp only [← hg3]
        obtain ⟨g2, hg2⟩ : ∃ g, g = w.heap.size + 1 := ⟨_, rfl⟩
        rw [← hg2] at Z
        simp only [← hg2]
        have h12 : w.heap.size < g2 := by omega
        have h23 : g2 < g3 := by omega
        have hg3W : g3 < W.heap.size := O.lt
        have hg2W : g2 < W.heap.size := Z.lt
        have hg1W : w.heap.size < W.heap.size := N.lt
        have nn : W.cell? ⟨w.heap.size, 5, none⟩ = some (.slice nA x.ns.length nC) := N.c5
        have pp : W.cell? ⟨g3, 5, none⟩ = some (.slice nA x.ns.length nC) := O.c5
        have qq : W.frozen? ⟨g3, 5, none⟩ = false := O.f 5
        have uu1 := (H.out.ns.below BW).take (k := putAt x s) (by omega)
        have T1 := Lib.hid uu1
        have Hnew : Hid (x.ns.take (putAt x s) ++ s :: x.ns.drop (putAt x s) = (putF x s z).ns) := rfl
        have Hnewk : Hid (x.ks.take (putAt x s) ++ z :: x.ks.drop (putAt x s) = (putF x s z).ks) := rfl
        have hln : (putAt x s : Int) ≤ (x.ns.length : Int) := by omega
        have hln2 : (putAt x s : Int) ≤ (nC : Int) := by omega
        have hkln : (putAt x s : Int) ≤ (x.ks.length : Int) := by have := Hl.out; omega
        have hkln2 : (putAt x s : Int) ≤ (kC : Int) := by have := Hl.out; omega
        have hksb : x.ks.length ≤ 1000000 := by have := Hl.out; omega
        have hkle : putAt x s ≤ x.ks.length := by have := Hl.out; omega
        have NN := Lib.hid N
        have OO := Lib.hid O
        have ZZ := Lib.hid Z
        have BB := Lib.hid BW
        clear hg2 hg3 N O Z uu1
        clear BW
        go_cut [8] from 26 (fun p w5 => p = .pointer (some ⟨g3, 0, none⟩) ∧ ∃ A5 c5, OwnG EL 9 W.heap.size w5 (.slice A5 (putF x s z).ns.length c5) (putF x s z).ns ∧ BoxN w5 w.heap.size x (.slice nA x.ns.length nC) (.slice kA x.ks.length kC) ∧ BoxN w5 g2 (newNd false 0 0 0) (.slice none 0 0) (.slice none 0 0) ∧ BoxN w5 g3 x (.slice A5 (putF x s z).ns.length c5) (.slice kA x.ks.length kC) ∧ Below w.heap.size w w5 ∧ W.heap.size ≤ w5.heap.size)
        case first =>
          obtain ⟨b, off, rfl⟩ := hA
          · by_cases hcap : nC = putAt x s
            · subst hcap
              have uu2 : ∀ X n' c', n' = 0 → c' ≤ maxLen → SlG EL W (.slice X n' c') (x.ns.drop (putAt x s)) := by
                intro X n' c' h0 h1
                subst h0
                rw [show x.ns.drop (putAt x s) = [] from List.drop_eq_nil_of_le (by rw [Hpe.out]; exact Nat.le_refl _)]
                exact SlG.zero h1
              have T2a := Lib.hid uu2
              clear uu2
              go_region_held3 (fun w' => w'.cell? ⟨w.heap.size, 5, none⟩ = some (.slice (some ⟨b, off, none⟩) x.ns.length (putAt x s))) (first | assumption | (go_simp; done) | fail) (first | (refine step_appG fitEL _ rfl (.tmp 34) (.tmp 38) rfl W.heap.size _ (x.ns.take (putAt x s) ++ [s]) rfl ?_ _ (x.ns.drop (putAt x s)) rfl ?_ ?_ ?_ ?_; (focus (first | exact o2 | exact ownG_alloc o2 _)); (focus (first | exact T2.out.below (by first | exact t2 | exact Below.alloc t2 t2.size _) | exact (T2a.out _ _ _ (by have := Hpe.out; omega) (by unfold maxLen; omega)).below (by first | exact t2 | exact Below.alloc t2 t2.size _))); (focus (simp; omega)); (focus (first | omega | (simp; done) | (simp; omega))); rintro v3 w3 ⟨o3, gr3, a3⟩ hb3; rw [List.append_assoc, List.singleton_append, Hnew.out] at o3; obtain ⟨A3, c3, rfl⟩ := ownG_shape o3; have t3 : Below W.heap.size W w3 := Below.trans (by first | exact t2 | exact Below.alloc t2 t2.size _) hb3; have n3 : w3.cell? ⟨w.heap.size, 5, none⟩ = some (.slice (some ⟨b, off, none⟩) x.ns.length (putAt x s)) := (t3.cell (p := ⟨w.heap.size, 5, none⟩) hg1W).trans nn; have p3 : w3.cell? ⟨g3, 5, none⟩ = some (.slice (some ⟨b, off, none⟩) x.ns.length (putAt x s)) := (t3.cell (p := ⟨g3, 5, none⟩) hg3W).trans pp; have q3 : w3.frozen? ⟨g3, 5, none⟩ = false := (t3.frozen (p := ⟨g3, 5, none⟩) hg3W).trans qq; have zz3 := t3.size; have hz3 := hb3.size; (try simp at hz3)) | (refine step_appG fitEL _ rfl (.tmp 31) (.tmp 33) rfl W.heap.size _ (x.ns.take (putAt x s)) rfl ?_ _ [s] rfl ?_ ?_ ?_ ?_; (focus (first | exact o1 | exact ownG_alloc o1 _)); (focus (refine slG_one ?_ ?_; (focus (first | omega | (simp; done) | (simp; omega))); (focus (intro j u hu; rcases j with _ | j <;> simp [EL] at hu; subst hu; first | (go_simp; done) | (refine gr1.cell ?_ ?_; (focus (go_simp)); (focus (simp [Value.ownBlock]; try omega))))))); (focus (simp; omega)); (focus (first | omega | (simp; done) | (simp; omega))); rintro v2 w2 ⟨o2, gr2, a2⟩ hb2; have t2 : Below W.heap.size W w2 := Below.trans (by first | exact t1 | exact Below.alloc t1 t1.size _) hb2; have n2 : w2.cell? ⟨w.heap.size, 5, none⟩ = some (.slice (some ⟨b, off, none⟩) x.ns.length (putAt x s)) := (t2.cell (p := ⟨w.heap.size, 5, none⟩) hg1W).trans nn; have p2 : w2.cell? ⟨g3, 5, none⟩ = some (.slice (some ⟨b, off, none⟩) x.ns.length (putAt x s)) := (t2.cell (p := ⟨g3, 5, none⟩) hg3W).trans pp; have q2 : w2.frozen? ⟨g3, 5, none⟩ = false := (t2.frozen (p := ⟨g3, 5, none⟩) hg3W).trans qq; have zz2 := t2.size; have hz2 := hb2.size; (try simp at hz2)) | (refine step_appG fitEL _ rfl (.tmp 26) (.tmp 30) rfl W.heap.size (.slice (some ⟨_, 0, none⟩) 0 0) [] rfl ?_ _ (x.ns.take (putAt x s)) rfl ?_ ?_ ?_ ?_; (focus (first | (refine ownG_empty _ ?_ ?_ <;> (simp; try omega); done) | (refine ownG_alloc (ownG_empty _ ?_ ?_) _ <;> (simp; try omega); done))); (focus (first | (refine T1.out.below ?_; (repeat (first | exact Below.refl _ _ | exact Hbl.out | refine Below.ext ?_ (by first | omega | (simp; omega) | simp) | refine Below.setCell ?_ (by first | omega | (simp; omega) | simp) _ | refine Below.alloc ?_ (by first | omega | (simp; omega) | simp) _ | refine Below.drew ?_ | refine below_drewN ?_ _ | refine Below.step (by assumption) (by first | omega | (simp; omega) | simp) ?_)); done) | (refine (T1a.out _ _ _ (by first | rfl | exact Hp0.out) (by unfold maxLen; omega)).below ?_; (repeat (first | exact Below.refl _ _ | exact Hbl.out | refine Below.ext ?_ (by first | omega | (simp; omega) | simp) | refine Below.setCell ?_ (by first | omega | (simp; omega) | simp) _ | refine Below.alloc ?_ (by first | omega | (simp; omega) | simp) _ | refine Below.drew ?_ | refine below_drewN ?_ _ | refine Below.step (by assumption) (by first | omega | (simp; omega) | simp) ?_))))); (focus (simp; omega)); (focus (first | omega | (simp; done) | (simp; omega))); rintro v1 w1 ⟨o1, gr1, a1⟩ hb1; (try rw [List.nil_append] at o1); have t1 : Below W.heap.size W w1 := Below.trans (show Below W.heap.size W _ from (by (repeat (first | exact Below.refl _ _ | exact Hbl.out | refine Below.ext ?_ (by first | omega | (simp; omega) | simp) | refine Below.setCell ?_ (by first | omega | (simp; omega) | simp) _ | refine Below.alloc ?_ (by first | omega | (simp; omega) | simp) _ | refine Below.drew ?_ | refine below_drewN ?_ _ | refine Below.step (by assumption) (by first | omega | (simp; omega) | simp) ?_)))) hb1; have n1 : w1.cell? ⟨w.heap.size, 5, none⟩ = some (.slice (some ⟨b, off, none⟩) x.ns.length (putAt x s)) := (t1.cell (p := ⟨w.heap.size, 5, none⟩) hg1W).trans nn; have p1 : w1.cell? ⟨g3, 5, none⟩ = some (.slice (some ⟨b, off, none⟩) x.ns.length (putAt x s)) := (t1.cell (p := ⟨g3, 5, none⟩) hg3W).trans pp; have q1 : w1.frozen? ⟨g3, 5, none⟩ = false := (t1.frozen (p := ⟨g3, 5, none⟩) hg3W).trans qq; have zz1 := t1.size; have hz1 := hb1.size; (try simp at hz1)))
              all_goals
                go_wp2_with fail
                go_meet
                exact ⟨rfl, A3, c3, ownG_set o3 (fun j hj => by have := (ownG_block o3 j hj).1; omega), (NN.out.below t3 hg1W).other (by omega), (ZZ.out.below t3 hg2W).other (by omega), (OO.out.below t3 hg3W).set5, Below.setCell (Below.trans BB.out (Below.mono t3 (by omega))) (by first | omega | (simp; omega)) _, by simp; omega⟩
            · have hcap' : ¬ putAt x s = nC := by omega
              have uu2 : SlG EL W (.slice (some ⟨b, off + putAt x s, none⟩) (x.ns.length - putAt x s) (nC - putAt x s)) (x.ns.drop (putAt x s)) := by have := (H.out.ns.below BB.out).drop (k := putAt x s) (by omega); rw [show EL.z = 1 from rfl, Nat.mul_one] at this; exact this
              have T2 := Lib.hid uu2
              clear uu2
              go_region_held3 (fun w' => w'.cell? ⟨w.heap.size, 5, none⟩ = some (.slice (some ⟨b, off, none⟩) x.ns.length nC)) (first | assumption | (go_simp; done) | fail) (first | (refine step_appG fitEL _ rfl (.tmp 34) (.tmp 38) rfl W.heap.size _ (x.ns.take (putAt x s) ++ [s]) rfl ?_ _ (x.ns.drop (putAt x s)) rfl ?_ ?_ ?_ ?_; (focus (first | exact o2 | exact ownG_alloc o2 _)); (focus (first | exact T2.out.below (by first | exact t2 | exact Below.alloc t2 t2.size _) | exact (T2a.out _ _ _ (by have := Hpe.out; omega) (by unfold maxLen; omega)).below (by first | exact t2 | exact Below.alloc t2 t2.size _))); (focus (simp; omega)); (focus (first | omega | (simp; done) | (simp; omega))); rintro v3 w3 ⟨o3, gr3, a3⟩ hb3; rw [List.append_assoc, List.singleton_append, Hnew.out] at o3; obtain ⟨A3, c3, rfl⟩ := ownG_shape o3; have t3 : Below W.heap.size W w3 := Below.trans (by first | exact t2 | exact Below.alloc t2 t2.size _) hb3; have n3 : w3.cell? ⟨w.heap.size, 5, none⟩ = some (.slice (some ⟨b, off, none⟩) x.ns.length nC) := (t3.cell (p := ⟨w.heap.size, 5, none⟩) hg1W).trans nn; have p3 : w3.cell? ⟨g3, 5, none⟩ = some (.slice (some ⟨b, off, none⟩) x.ns.length nC) := (t3.cell (p := ⟨g3, 5, none⟩) hg3W).trans pp; have q3 : w3.frozen? ⟨g3, 5, none⟩ = false := (t3.frozen (p := ⟨g3, 5, none⟩) hg3W).trans qq; have zz3 := t3.size; have hz3 := hb3.size; (try simp at hz3)) | (refine step_appG fitEL _ rfl (.tmp 31) (.tmp 33) rfl W.heap.size _ (x.ns.take (putAt x s)) rfl ?_ _ [s] rfl ?_ ?_ ?_ ?_; (focus (first | exact o1 | exact ownG_alloc o1 _)); (focus (refine slG_one ?_ ?_; (focus (first | omega | (simp; done) | (simp; omega))); (focus (intro j u hu; rcases j with _ | j <;> simp [EL] at hu; subst hu; first | (go_simp; done) | (refine gr1.cell ?_ ?_; (focus (go_simp)); (focus (simp [Value.ownBlock]; try omega))))))); (focus (simp; omega)); (focus (first | omega | (simp; done) | (simp; omega))); rintro v2 w2 ⟨o2, gr2, a2⟩ hb2; have t2 : Below W.heap.size W w2 := Below.trans (by first | exact t1 | exact Below.alloc t1 t1.size _) hb2; have n2 : w2.cell? ⟨w.heap.size, 5, none⟩ = some (.slice (some ⟨b, off, none⟩) x.ns.length nC) := (t2.cell (p := ⟨w.heap.size, 5, none⟩) hg1W).trans nn; have p2 : w2.cell? ⟨g3, 5, none⟩ = some (.slice (some ⟨b, off, none⟩) x.ns.length nC) := (t2.cell (p := ⟨g3, 5, none⟩) hg3W).trans pp; have q2 : w2.frozen? ⟨g3, 5, none⟩ = false := (t2.frozen (p := ⟨g3, 5, none⟩) hg3W).trans qq; have zz2 := t2.size; have hz2 := hb2.size; (try simp at hz2)) | (refine step_appG fitEL _ rfl (.tmp 26) (.tmp 30) rfl W.heap.size (.slice (some ⟨_, 0, none⟩) 0 0) [] rfl ?_ _ (x.ns.take (putAt x s)) rfl ?_ ?_ ?_ ?_; (focus (first | (refine ownG_empty _ ?_ ?_ <;> (simp; try omega); done) | (refine ownG_alloc (ownG_empty _ ?_ ?_) _ <;> (simp; try omega); done))); (focus (first | (refine T1.out.below ?_; (repeat (first | exact Below.refl _ _ | exact Hbl.out | refine Below.ext ?_ (by first | omega | (simp; omega) | simp) | refine Below.setCell ?_ (by first | omega | (simp; omega) | simp) _ | refine Below.alloc ?_ (by first | omega | (simp; omega) | simp) _ | refine Below.drew ?_ | refine below_drewN ?_ _ | refine Below.step (by assumption) (by first | omega | (simp; omega) | simp) ?_)); done) | (refine (T1a.out _ _ _ (by first | rfl | exact Hp0.out) (by unfold maxLen; omega)).below ?_; (repeat (first | exact Below.refl _ _ | exact Hbl.out | refine Below.ext ?_ (by first | omega | (simp; omega) | simp) | refine Below.setCell ?_ (by first | omega | (simp; omega) | simp) _ | refine Below.alloc ?_ (by first | omega | (simp; omega) | simp) _ | refine Below.drew ?_ | refine below_drewN ?_ _ | refine Below.step (by assumption) (by first | omega | (simp; omega) | simp) ?_))))); (focus (simp; omega)); (focus (first | omega | (simp; done) | (simp; omega))); rintro v1 w1 ⟨o1, gr1, a1⟩ hb1; (try rw [List.nil_append] at o1); have t1 : Below W.heap.size W w1 := Below.trans (show Below W.heap.size W _ from (by (repeat (first | exact Below.refl _ _ | exact Hbl.out | refine Below.ext ?_ (by first | omega | (simp; omega) | simp) | refine Below.setCell ?_ (by first | omega | (simp; omega) | simp) _ | refine Below.alloc ?_ (by first | omega | (simp; omega) | simp) _ | refine Below.drew ?_ | refine below_drewN ?_ _ | refine Below.step (by assumption) (by first | omega | (simp; omega) | simp) ?_)))) hb1; have n1 : w1.cell? ⟨w.heap.size, 5, none⟩ = some (.slice (some ⟨b, off, none⟩) x.ns.length nC) := (t1.cell (p := ⟨w.heap.size, 5, none⟩) hg1W).trans nn; have p1 : w1.cell? ⟨g3, 5, none⟩ = some (.slice (some ⟨b, off, none⟩) x.ns.length nC) := (t1.cell (p := ⟨g3, 5, none⟩) hg3W).trans pp; have q1 : w1.frozen? ⟨g3, 5, none⟩ = false := (t1.frozen (p := ⟨g3, 5, none⟩) hg3W).trans qq; have zz1 := t1.size; have hz1 := hb1.size; (try simp at hz1)))
              all_goals
                go_wp2_with fail
                go_meet
                exact ⟨rfl, A3, c3, ownG_set o3 (fun j hj => by have := (ownG_block o3 j hj).1; omega), (NN.out.below t3 hg1W).other (by omega), (ZZ.out.below t3 hg2W).other (by omega), (OO.out.below t3 hg3W).set5, Below.setCell (Below.trans BB.out (Below.mono t3 (by omega))) (by first | omega | (simp; omega)) _, by simp; omega⟩
        case rest =>
          obtain ⟨bk, ok, rfl⟩ := hA'
          obtain ⟨rfl, A5, c5, o5, N5, Z5, O5, B5, h25⟩ := hcut
          clear NN OO ZZ BB T1 nn pp qq
          obtain ⟨B0, hB0⟩ : ∃ B, B = W.heap.size := ⟨_, rfl⟩
          rw [← hB0] at o5
          have hg1B : w.heap.size < B0 := by omega
          have hg3B : g3 < B0 := by omega
          generalize wc = w5 at o5 N5 Z5 O5 B5 h25 ⊢
          have hg3W : g3 < w5.heap.size := O5.lt
          have hg2W : g2 < w5.heap.size := Z5.lt
          have hg1W : w.heap.size < w5.heap.size := N5.lt
          clear hB0 h25
          by_cases hkcap : kC = putAt x s
          · subst hkcap
            have uu1 := (H.out.ks.below B5).take (k := putAt x s) (by omega)
            have U1 := Lib.hid uu1
            have uu2 : ∀ X n' c', n' = 0 → c' ≤ maxLen → SlG EI w5 (.slice X n' c') (x.ks.drop (putAt x s)) := by
              intro X n' c' h0 h1
              subst h0
              rw [show x.ks.drop (putAt x s) = [] from List.drop_eq_nil_of_le (by have := Hpe.out; have := Hl.out; omega)]
              exact SlG.zero h1
            have U2a := Lib.hid uu2
            have nn : w5.cell? ⟨w.heap.size, 6, none⟩ = some (.slice (some ⟨bk, ok, none⟩) x.ks.length (putAt x s)) := N5.c6
            have pp : w5.cell? ⟨g3, 6, none⟩ = some (.slice (some ⟨bk, ok, none⟩) x.ks.length (putAt x s)) := O5.c6
            have qq : w5.frozen? ⟨g3, 6, none⟩ = false := O5.f 6
            have NN := Lib.hid N5
            have OO := Lib.hid O5
            have ZZ := Lib.hid Z5
            have BB := Lib.hid B5
            have OW := Lib.hid o5
            clear N5 O5 Z5 B5 o5 uu1 uu2
            go_upto_region 6 with fail
            go_region_held3 (fun w' => w'.cell? ⟨w.heap.size, 6, none⟩ = some (.slice (some ⟨bk, ok, none⟩) x.ks.length (putAt x s))) (first | assumption | (go_simp; done) | fail) (first | (refine step_appG fitEI _ rfl (.tmp 49) (.tmp 53) rfl w5.heap.size _ (x.ks.take (putAt x s) ++ [z]) rfl ?_ _ (x.ks.drop (putAt x s)) rfl ?_ ?_ ?_ ?_; (focus (first | exact o2 | exact ownG_alloc o2 _)); (focus (first | exact U2.out.below (by first | exact t2 | exact Below.alloc t2 t2.size _) | exact (U2a.out _ _ _ (by have := Hpe.out; have := Hl.out; omega) (by unfold maxLen; omega)).below (by first | exact t2 | exact Below.alloc t2 t2.size _))); (focus (simp; omega)); (focus (first | omega | (simp; done) | (simp; omega))); rintro v3 w3 ⟨o3, gr3, a3⟩ hb3; rw [List.append_assoc, List.singleton_append, Hnewk.out] at o3; obtain ⟨A3, c3, rfl⟩ := ownG_shape o3; have t3 : Below w5.heap.size w5 w3 := Below.trans (by first | exact t2 | exact Below.alloc t2 t2.size _) hb3; have n3 : w3.cell? ⟨w.heap.size, 6, none⟩ = some (.slice (some ⟨bk, ok, none⟩) x.ks.length (putAt x s)) := (t3.cell (p := ⟨w.heap.size, 6, none⟩) hg1W).trans nn; have p3 : w3.cell? ⟨g3, 6, none⟩ = some (.slice (some ⟨bk, ok, none⟩) x.ks.length (putAt x s)) := (t3.cell (p := ⟨g3, 6, none⟩) hg3W).trans pp; have q3 : w3.frozen? ⟨g3, 6, none⟩ = false := (t3.frozen (p := ⟨g3, 6, none⟩) hg3W).trans qq; have zz3 := t3.size; have hz3 := hb3.size; (try simp at hz3)) | (refine step_appG fitEI _ rfl (.tmp 46) (.tmp 48) rfl w5.heap.size _ (x.ks.take (putAt x s)) rfl ?_ _ [z] rfl ?_ ?_ ?_ ?_; (focus (first | exact o1 | exact ownG_alloc o1 _)); (focus (refine slG_one ?_ ?_; (focus (first | omega | (simp; done) | (simp; omega))); (focus (intro j u hu; rcases j with _ | j <;> simp [EI] at hu; subst hu; first | (go_simp; done) | (refine gr1.cell ?_ ?_; (focus (go_simp)); (focus (simp [Value.ownBlock]; try omega))))))); (focus (simp; omega)); (focus (first | omega | (simp; done) | (simp; omega))); rintro v2 w2 ⟨o2, gr2, a2⟩ hb2; have t2 : Below w5.heap.size w5 w2 := Below.trans (by first | exact t1 | exact Below.alloc t1 t1.size _) hb2; have n2 : w2.cell? ⟨w.heap.size, 6, none⟩ = some (.slice (some ⟨bk, ok, none⟩) x.ks.length (putAt x s)) := (t2.cell (p := ⟨w.heap.size, 6, none⟩) hg1W).trans nn; have p2 : w2.cell? ⟨g3, 6, none⟩ = some (.slice (some ⟨bk, ok, none⟩) x.ks.length (putAt x s)) := (t2.cell (p := ⟨g3, 6, none⟩) hg3W).trans pp; have q2 : w2.frozen? ⟨g3, 6, none⟩ = false := (t2.frozen (p := ⟨g3, 6, none⟩) hg3W).trans qq; have zz2 := t2.size; have hz2 := hb2.size; (try simp at hz2)) | (refine step_appG fitEI _ rfl (.tmp 41) (.tmp 45) rfl w5.heap.size (.slice (some ⟨_, 0, none⟩) 0 0) [] rfl ?_ _ (x.ks.take (putAt x s)) rfl ?_ ?_ ?_ ?_; (focus (first | (refine ownG_empty _ ?_ ?_ <;> (simp; try omega); done) | (refine ownG_alloc (ownG_empty _ ?_ ?_) _ <;> (simp; try omega); done))); (focus (first | (refine U1.out.below ?_; (repeat (first | exact Below.refl _ _ | exact Hbl.out | refine Below.ext ?_ (by first | omega | (simp; omega) | simp) | refine Below.setCell ?_ (by first | omega | (simp; omega) | simp) _ | refine Below.alloc ?_ (by first | omega | (simp; omega) | simp) _ | refine Below.drew ?_ | refine below_drewN ?_ _ | refine Below.step (by assumption) (by first | omega | (simp; omega) | simp) ?_)); done) | (refine (T1a.out _ _ _ (by first | rfl | exact Hp0.out) (by unfold maxLen; omega)).below ?_; (repeat (first | exact Below.refl _ _ | exact Hbl.out | refine Below.ext ?_ (by first | omega | (simp; omega) | simp) | refine Below.setCell ?_ (by first | omega | (simp; omega) | simp) _ | refine Below.alloc ?_ (by first | omega | (simp; omega) | simp) _ | refine Below.drew ?_ | refine below_drewN ?_ _ | refine Below.step (by assumption) (by first | omega | (simp; omega) | simp) ?_))))); (focus (simp; omega)); (focus (first | omega | (simp; done) | (simp; omega))); rintro v1 w1 ⟨o1, gr1, a1⟩ hb1; (try rw [List.nil_append] at o1); have t1 : Below w5.heap.size w5 w1 := Below.trans (show Below w5.heap.size w5 _ from (by (repeat (first | exact Below.refl _ _ | exact Hbl.out | refine Below.ext ?_ (by first | omega | (simp; omega) | simp) | refine Below.setCell ?_ (by first | omega | (simp; omega) | simp) _ | refine Below.alloc ?_ (by first | omega | (simp; omega) | simp) _ | refine Below.drew ?_ | refine below_drewN ?_ _ | refine Below.step (by assumption) (by first | omega | (simp; omega) | simp) ?_)))) hb1; have n1 : w1.cell? ⟨w.heap.size, 6, none⟩ = some (.slice (some ⟨bk, ok, none⟩) x.ks.length (putAt x s)) := (t1.cell (p := ⟨w.heap.size, 6, none⟩) hg1W).trans nn; have p1 : w1.cell? ⟨g3, 6, none⟩ = some (.slice (some ⟨bk, ok, none⟩) x.ks.length (putAt x s)) := (t1.cell (p := ⟨g3, 6, none⟩) hg3W).trans pp; have q1 : w1.frozen? ⟨g3, 6, none⟩ = false := (t1.frozen (p := ⟨g3, 6, none⟩) hg3W).trans qq; have zz1 := t1.size; have hz1 := hb1.size; (try simp at hz1)))
            all_goals
              have O3 : BoxN (w3.setCell ⟨g3, 6, none⟩ (.slice A3 (putF x s z).ks.length c3)) g3 x (.slice A5 (putF x s z).ns.length c5) (.slice A3 (putF x s z).ks.length c3) := (OO.out.below t3 hg3W).set6
              have Z3 : BoxN (w3.setCell ⟨g3, 6, none⟩ (.slice A3 (putF x s z).ks.length c3)) g2 (newNd false 0 0 0) (.slice none 0 0) (.slice none 0 0) := (ZZ.out.below t3 hg2W).other (by omega)
              have E3 : OwnG EL 9 B0 (w3.setCell ⟨g3, 6, none⟩ (.slice A3 (putF x s z).ks.length c3)) (.slice A5 (putF x s z).ns.length c5) (putF x s z).ns := ownG_set (ownG_below OW.out t3) (fun j hj => by have := (ownG_block OW.out j hj).1; omega)
              have F3 : OwnG EI 3 w5.heap.size (w3.setCell ⟨g3, 6, none⟩ (.slice A3 (putF x s z).ks.length c3)) (.slice A3 (putF x s z).ks.length c3) (putF x s z).ks := ownG_set o3 (fun j hj => by have := (ownG_block o3 j hj).1; omega)
              have T3 : Below w.heap.size w (w3.setCell ⟨g3, 6, none⟩ (.slice A3 (putF x s z).ks.length c3)) := Below.setCell (Below.trans BB.out (Below.mono t3 (by omega))) (by first | omega | (simp; omega)) _
              generalize w3.setCell ⟨g3, 6, none⟩ (.slice A3 (putF x s z).ks.length c3) = w7 at O3 Z3 E3 F3 T3 ⊢
              have ZB := Lib.hid Z3
              obtain ⟨y0, y1, y2, y3, y4, y5, y6, yf, _⟩ := O3
              obtain ⟨x0, x1, x2, x3, x4, x5, x6, xf, _⟩ := Z3
              have f0 := xf 0
              have f1 := xf 1
              have f2 := xf 2
              have f3 := xf 3
              have f4 := xf 4
              have f5 := xf 5
              have f6 := xf 6
              have Oe := Lib.hid E3
              have O3' := Lib.hid F3
              have T3' := Lib.hid T3
              clear E3 F3 T3 o3 o2 o1 gr1 gr2 gr3 a1 a2 a3 hb1 hb2 hb3 n1 n2 n3 p1 p2 p3 q1 q2 q3 t1 t2 t3 xf yf nn pp qq zz1 zz2 zz3 hz1 hz2 hz3
              go_wp2
              have R8 := BoxN.full (x := x) (u' := .slice A5 (putF x s z).ns.length c5) (v' := .slice A3 (putF x s z).ks.length c3) ZB.out
              have E8 := ownG_full (g := g2) (x := x) (u' := .slice A5 (putF x s z).ns.length c5) (v' := .slice A3 (putF x s z).ks.length c3) Oe.out (fun j hj => by have := (ownG_block Oe.out j hj).1; omega)
              have F8 := ownG_full (g := g2) (x := x) (u' := .slice A5 (putF x s z).ns.length c5) (v' := .slice A3 (putF x s z).ks.length c3) O3'.out (fun j hj => by have := (ownG_block O3'.out j hj).1; omega)
              have T8 := below_full (g := g2) (x := x) (u' := .slice A5 (putF x s z).ns.length c5) (v' := .slice A3 (putF x s z).ks.length c3) T3'.out (by omega)
              generalize ((((((w7.setCell ⟨g2, 0, none⟩ (.bool x.fo)).setCell ⟨g2, 1, none⟩ (.int .i64 x.ow)).setCell ⟨g2, 2, none⟩ (.int .i64 x.gr)).setCell ⟨g2, 3, none⟩ (.int .i64 x.mo)).setCell ⟨g2, 4, none⟩ (.string x.tx)).setCell ⟨g2, 5, none⟩ (.slice A5 (putF x s z).ns.length c5)).setCell ⟨g2, 6, none⟩ (.slice A3 (putF x s z).ks.length c3) = w8 at R8 E8 F8 T8 ⊢
              obtain ⟨y0, y1, y2, y3, y4, y5, y6, yf, _⟩ := R8
              refine bodyPost_ret (v := .agg #[.bool x.fo, .int .i64 x.ow, .int .i64 x.gr, .int .i64 x.mo, .string x.tx, .slice A5 (putF x s z).ns.length c5, .slice A3 (putF x s z).ks.length c3]) ?_ rfl ⟨A5, c5, A3, c3, rfl, ownG_mono E8 (by omega), ownG_mono F8 (by omega), T8⟩
              simp only [results, Tryz.results71]
              go_simp
          · have hkcap' : ¬ putAt x s = kC := by omega
            have uu1 := (H.out.ks.below B5).take (k := putAt x s) (by omega)
            have U1 := Lib.hid uu1
            have uu2 : SlG EI w5 (.slice (some ⟨bk, ok + putAt x s, none⟩) (x.ks.length - putAt x s) (kC - putAt x s)) (x.ks.drop (putAt x s)) := by have := (H.out.ks.below B5).drop (k := putAt x s) (by omega); rw [show EI.z = 1 from rfl, Nat.mul_one] at this; exact this
            have U2 := Lib.hid uu2
            have nn : w5.cell? ⟨w.heap.size, 6, none⟩ = some (.slice (some ⟨bk, ok, none⟩) x.ks.length kC) := N5.c6
            have pp : w5.cell? ⟨g3, 6, none⟩ = some (.slice (some ⟨bk, ok, none⟩) x.ks.length kC) := O5.c6
            have qq : w5.frozen? ⟨g3, 6, none⟩ = false := O5.f 6
            have NN := Lib.hid N5
            have OO := Lib.hid O5
            have ZZ := Lib.hid Z5
            have BB := Lib.hid B5
            have OW := Lib.hid o5
            clear N5 O5 Z5 B5 o5 uu1 uu2
            go_upto_region 6 with fail
            go_region_held3 (fun w' => w'.cell? ⟨w.heap.size, 6, none⟩ = some (.slice (some ⟨bk, ok, none⟩) x.ks.length kC)) (first | assumption | (go_simp; done) | fail) (first | (refine step_appG fitEI _ rfl (.tmp 49) (.tmp 53) rfl w5.heap.size _ (x.ks.take (putAt x s) ++ [z]) rfl ?_ _ (x.ks.drop (putAt x s)) rfl ?_ ?_ ?_ ?_; (focus (first | exact o2 | exact ownG_alloc o2 _)); (focus (first | exact U2.out.below (by first | exact t2 | exact Below.alloc t2 t2.size _) | exact (U2a.out _ _ _ (by have := Hpe.out; have := Hl.out; omega) (by unfold maxLen; omega)).below (by first | exact t2 | exact Below.alloc t2 t2.size _))); (focus (simp; omega)); (focus (first | omega | (simp; done) | (simp; omega))); rintro v3 w3 ⟨o3, gr3, a3⟩ hb3; rw [List.append_assoc, List.singleton_append, Hnewk.out] at o3; obtain ⟨A3, c3, rfl⟩ := ownG_shape o3; have t3 : Below w5.heap.size w5 w3 := Below.trans (by first | exact t2 | exact Below.alloc t2 t2.size _) hb3; have n3 : w3.cell? ⟨w.heap.size, 6, none⟩ = some (.slice (some ⟨bk, ok, none⟩) x.ks.length kC) := (t3.cell (p := ⟨w.heap.size, 6, none⟩) hg1W).trans nn; have p3 : w3.cell? ⟨g3, 6, none⟩ = some (.slice (some ⟨bk, ok, none⟩) x.ks.length kC) := (t3.cell (p := ⟨g3, 6, none⟩) hg3W).trans pp; have q3 : w3.frozen? ⟨g3, 6, none⟩ = false := (t3.frozen (p := ⟨g3, 6, none⟩) hg3W).trans qq; have zz3 := t3.size; have hz3 := hb3.size; (try simp at hz3)) | (refine step_appG fitEI _ rfl (.tmp 46) (.tmp 48) rfl w5.heap.size _ (x.ks.take (putAt x s)) rfl ?_ _ [z] rfl ?_ ?_ ?_ ?_; (focus (first | exact o1 | exact ownG_alloc o1 _)); (focus (refine slG_one ?_ ?_; (focus (first | omega | (simp; done) | (simp; omega))); (focus (intro j u hu; rcases j with _ | j <;> simp [EI] at hu; subst hu; first | (go_simp; done) | (refine gr1.cell ?_ ?_; (focus (go_simp)); (focus (simp [Value.ownBlock]; try omega))))))); (focus (simp; omega)); (focus (first | omega | (simp; done) | (simp; omega))); rintro v2 w2 ⟨o2, gr2, a2⟩ hb2; have t2 : Below w5.heap.size w5 w2 := Below.trans (by first | exact t1 | exact Below.alloc t1 t1.size _) hb2; have n2 : w2.cell? ⟨w.heap.size, 6, none⟩ = some (.slice (some ⟨bk, ok, none⟩) x.ks.length kC) := (t2.cell (p := ⟨w.heap.size, 6, none⟩) hg1W).trans nn; have p2 : w2.cell? ⟨g3, 6, none⟩ = some (.slice (some ⟨bk, ok, none⟩) x.ks.length kC) := (t2.cell (p := ⟨g3, 6, none⟩) hg3W).trans pp; have q2 : w2.frozen? ⟨g3, 6, none⟩ = false := (t2.frozen (p := ⟨g3, 6, none⟩) hg3W).trans qq; have zz2 := t2.size; have hz2 := hb2.size; (try simp at hz2)) | (refine step_appG fitEI _ rfl (.tmp 41) (.tmp 45) rfl w5.heap.size (.slice (some ⟨_, 0, none⟩) 0 0) [] rfl ?_ _ (x.ks.take (putAt x s)) rfl ?_ ?_ ?_ ?_; (focus (first | (refine ownG_empty _ ?_ ?_ <;> (simp; try omega); done) | (refine ownG_alloc (ownG_empty _ ?_ ?_) _ <;> (simp; try omega); done))); (focus (first | (refine U1.out.below ?_; (repeat (first | exact Below.refl _ _ | exact Hbl.out | refine Below.ext ?_ (by first | omega | (simp; omega) | simp) | refine Below.setCell ?_ (by first | omega | (simp; omega) | simp) _ | refine Below.alloc ?_ (by first | omega | (simp; omega) | simp) _ | refine Below.drew ?_ | refine below_drewN ?_ _ | refine Below.step (by assumption) (by first | omega | (simp; omega) | simp) ?_)); done) | (refine (T1a.out _ _ _ (by first | rfl | exact Hp0.out) (by unfold maxLen; omega)).below ?_; (repeat (first | exact Below.refl _ _ | exact Hbl.out | refine Below.ext ?_ (by first | omega | (simp; omega) | simp) | refine Below.setCell ?_ (by first | omega | (simp; omega) | simp) _ | refine Below.alloc ?_ (by first | omega | (simp; omega) | simp) _ | refine Below.drew ?_ | refine below_drewN ?_ _ | refine Below.step (by assumption) (by first | omega | (simp; omega) | simp) ?_))))); (focus (simp; omega)); (focus (first | omega | (simp; done) | (simp; omega))); rintro v1 w1 ⟨o1, gr1, a1⟩ hb1; (try rw [List.nil_append] at o1); have t1 : Below w5.heap.size w5 w1 := Below.trans (show Below w5.heap.size w5 _ from (by (repeat (first | exact Below.refl _ _ | exact Hbl.out | refine Below.ext ?_ (by first | omega | (simp; omega) | simp) | refine Below.setCell ?_ (by first | omega | (simp; omega) | simp) _ | refine Below.alloc ?_ (by first | omega | (simp; omega) | simp) _ | refine Below.drew ?_ | refine below_drewN ?_ _ | refine Below.step (by assumption) (by first | omega | (simp; omega) | simp) ?_)))) hb1; have n1 : w1.cell? ⟨w.heap.size, 6, none⟩ = some (.slice (some ⟨bk, ok, none⟩) x.ks.length kC) := (t1.cell (p := ⟨w.heap.size, 6, none⟩) hg1W).trans nn; have p1 : w1.cell? ⟨g3, 6, none⟩ = some (.slice (some ⟨bk, ok, none⟩) x.ks.length kC) := (t1.cell (p := ⟨g3, 6, none⟩) hg3W).trans pp; have q1 : w1.frozen? ⟨g3, 6, none⟩ = false := (t1.frozen (p := ⟨g3, 6, none⟩) hg3W).trans qq; have zz1 := t1.size; have hz1 := hb1.size; (try simp at hz1)))
            all_goals
              have O3 : BoxN (w3.setCell ⟨g3, 6, none⟩ (.slice A3 (putF x s z).ks.length c3)) g3 x (.slice A5 (putF x s z).ns.length c5) (.slice A3 (putF x s z).ks.length c3) := (OO.out.below t3 hg3W).set6
              have Z3 : BoxN (w3.setCell ⟨g3, 6, none⟩ (.slice A3 (putF x s z).ks.length c3)) g2 (newNd false 0 0 0) (.slice none 0 0) (.slice none 0 0) := (ZZ.out.below t3 hg2W).other (by omega)
              have E3 : OwnG EL 9 B0 (w3.setCell ⟨g3, 6, none⟩ (.slice A3 (putF x s z).ks.length c3)) (.slice A5 (putF x s z).ns.length c5) (putF x s z).ns := ownG_set (ownG_below OW.out t3) (fun j hj => by have := (ownG_block OW.out j hj).1; omega)
              have F3 : OwnG EI 3 w5.heap.size (w3.setCell ⟨g3, 6, none⟩ (.slice A3 (putF x s z).ks.length c3)) (.slice A3 (putF x s z).ks.length c3) (putF x s z).ks := ownG_set o3 (fun j hj => by have := (ownG_block o3 j hj).1; omega)
              have T3 : Below w.heap.size w (w3.setCell ⟨g3, 6, none⟩ (.slice A3 (putF x s z).ks.length c3)) := Below.setCell (Below.trans BB.out (Below.mono t3 (by omega))) (by first | omega | (simp; omega)) _
              generalize w3.setCell ⟨g3, 6, none⟩ (.slice A3 (putF x s z).ks.length c3) = w7 at O3 Z3 E3 F3 T3 ⊢
              have ZB := Lib.hid Z3
              obtain ⟨y0, y1, y2, y3, y4, y5, y6, yf, _⟩ := O3
              obtain ⟨x0, x1, x2, x3, x4, x5, x6, xf, _⟩ := Z3
              have f0 := xf 0
              have f1 := xf 1
              have f2 := xf 2
              have f3 := xf 3
              have f4 := xf 4
              have f5 := xf 5
              have f6 := xf 6
              have Oe := Lib.hid E3
              have O3' := Lib.hid F3
              have T3' := Lib.hid T3
              clear E3 F3 T3 o3 o2 o1 gr1 gr2 gr3 a1 a2 a3 hb1 hb2 hb3 n1 n2 n3 p1 p2 p3 q1 q2 q3 t1 t2 t3 xf yf nn pp qq zz1 zz2 zz3 hz1 hz2 hz3
              go_wp2
              have R8 := BoxN.full (x := x) (u' := .slice A5 (putF x s z).ns.length c5) (v' := .slice A3 (putF x s z).ks.length c3) ZB.out
              have E8 := ownG_full (g := g2) (x := x) (u' := .slice A5 (putF x s z).ns.length c5) (v' := .slice A3 (putF x s z).ks.length c3) Oe.out (fun j hj => by have := (ownG_block Oe.out j hj).1; omega)
              have F8 := ownG_full (g := g2) (x := x) (u' := .slice A5 (putF x s z).ns.length c5) (v' := .slice A3 (putF x s z).ks.length c3) O3'.out (fun j hj => by have := (ownG_block O3'.out j hj).1; omega)
              have T8 := below_full (g := g2) (x := x) (u' := .slice A5 (putF x s z).ns.length c5) (v' := .slice A3 (putF x s z).ks.length c3) T3'.out (by omega)
              generalize ((((((w7.setCell ⟨g2, 0, none⟩ (.bool x.fo)).setCell ⟨g2, 1, none⟩ (.int .i64 x.ow)).setCell ⟨g2, 2, none⟩ (.int .i64 x.gr)).setCell ⟨g2, 3, none⟩ (.int .i64 x.mo)).setCell ⟨g2, 4, none⟩ (.string x.tx)).setCell ⟨g2, 5, none⟩ (.slice A5 (putF x s z).ns.length c5)).setCell ⟨g2, 6, none⟩ (.slice A3 (putF x s z).ks.length c3) = w8 at R8 E8 F8 T8 ⊢
              obtain ⟨y0, y1, y2, y3, y4, y5, y6, yf, _⟩ := R8
              refine bodyPost_ret (v := .agg #[.bool x.fo, .int .i64 x.ow, .int .i64 x.gr, .int .i64 x.mo, .string x.tx, .slice A5 (putF x s z).ns.length c5, .slice A3 (putF x s z).ks.length c3]) ?_ rfl ⟨A5, c5, A3, c3, rfl, ownG_mono E8 (by omega), ownG_mono F8 (by omega), T8⟩
              simp only [results, Tryz.results71]
              go_simp
end Go.Proofs.YtkennmpbmbacpaaGreatDoor

namespace Go.Proofs.YtkennmpbmbacpaaGreatDoor
open Go.RowKit

section
variable {B : Nat} {w w' : World} {v : Value} {cs : List Cn} {t : List Nd}
theorem TreeC.at_ {A : Option Addr} {n cap k : Nat} (h : TreeC B w (.slice A n cap) cs t) (hk : k < t.length) : ∃ g c, A = some ⟨g, 0, none⟩ ∧ B ≤ g ∧ g < w.heap.size ∧ cs[k]? = some c ∧ NdO B w c (kth t k) ∧ NdS w c.nA c.nC c.kA c.kC (kth t k) ∧
    w.cell? ⟨g, k * 7, none⟩ = some (.bool (kth t k).fo) ∧ w.cell? ⟨g, k * 7 + 1, none⟩ = some (.int .i64 (kth t k).ow) ∧ w.cell? ⟨g, k * 7 + 2, none⟩ = some (.int .i64 (kth t k).gr) ∧ w.cell? ⟨g, k * 7 + 3, none⟩ = some (.int .i64 (kth t k).mo) ∧
    w.cell? ⟨g, k * 7 + 4, none⟩ = some (.string (kth t k).tx) ∧ w.cell? ⟨g, k * 7 + 5, none⟩ = some (.slice c.nA (kth t k).ns.length c.nC) ∧ w.cell? ⟨g, k * 7 + 6, none⟩ = some (.slice c.kA (kth t k).ks.length c.kC) ∧ (∀ j, w.frozen? ⟨g, j, none⟩ = false) := by
  have hlt : k < cs.length := by rw [h.len]; exact hk
  have hc : cs[k]? = some cs[k] := List.getElem?_eq_getElem hlt
  have hn := h.nds k _ _ hc (kth_at hk)
  obtain ⟨b, off, e, hb, hat⟩ := (ownG_sl h.row).at_ hc
  have hA : ∃ g, A = some ⟨g, 0, none⟩ ∧ B ≤ g := by
    rcases h.row.2 with ⟨e2, h0⟩ | ⟨g, c, cur, e2, hB, _⟩
    · injection e2 with e3 _ _; rw [e3] at e; cases e
    · injection e2 with e3 _ _; exact ⟨g, e3, hB⟩
  obtain ⟨g, hA1, hA2⟩ := hA
  rw [hA1] at e
  cases e
  subst hA1
  obtain ⟨_, _, e1⟩ := ownG_shape hn.ns
  obtain ⟨_, _, e2⟩ := ownG_shape hn.ks
  injection e1 with _ e1 _
  injection e2 with _ e2 _
  have r := hn.r
  refine ⟨b, cs[k], rfl, hA2, hb, hc, hn, ⟨by rw [← e1]; exact r.ns, by rw [← e2]; exact r.ks, r.sz, r.nz⟩, ?_, ?_, ?_, ?_, ?_, ?_, ?_, fun j => ?_⟩
  · have := hat 0 _ rfl; rw [Nat.zero_add] at this; rw [← hn.fo]; exact this
  · have := hat 1 _ rfl; rw [Nat.zero_add] at this; rw [← hn.ow]; exact this
  · have := hat 2 _ rfl; rw [Nat.zero_add] at this; rw [← hn.gr]; exact this
  · have := hat 3 _ rfl; rw [Nat.zero_add] at this; rw [← hn.mo]; exact this
  · have := hat 4 _ rfl; rw [Nat.zero_add] at this; rw [← hn.tx]; exact this
  · have := hat 5 _ rfl; rw [Nat.zero_add] at this; rw [← e1]; exact this
  · have := hat 6 _ rfl; rw [Nat.zero_add] at this; rw [← e2]; exact this
  · obtain ⟨_, _, e⟩ := ownG_shape h.row
    injection e with _ e _
    have hr := h.row
    rw [e] at hr
    exact hr.frozenAt j
/-- The world in which node k of the row in block g is written anew. -/
theorem TreeC.write {g n cap k : Nat} {c : Cn} {y : Nd} (h : TreeC B w (.slice (some ⟨g, 0, none⟩) n cap) cs t) (hk : k < t.length) (hc : NdO B w c y) (hs : ∀ (j : Nat) d, j ≠ k → cs[j]? = some d → Sep (nB c) (nB d) ∧ Sep (kB c) (kB d)) :
    TreeC B (((((((w.setCell ⟨g, k * 7, none⟩ (.bool c.fo)).setCell ⟨g, k * 7 + 1, none⟩ (.int .i64 c.ow)).setCell ⟨g, k * 7 + 2, none⟩ (.int .i64 c.gr)).setCell ⟨g, k * 7 + 3, none⟩ (.int .i64 c.mo)).setCell ⟨g, k * 7 + 4, none⟩ (.string c.tx)).setCell ⟨g, k * 7 + 5, none⟩ (.slice c.nA c.nL c.nC)).setCell ⟨g, k * 7 + 6, none⟩ (.slice c.kA c.kL c.kC)) (.slice (some ⟨g, 0, none⟩) n cap) (cs.set k c) (t.set k y) := by
  have hlt : k < cs.length := by rw [h.len]; exact hk
  have hc0 : cs[k]? = some cs[k] := List.getElem?_eq_getElem hlt
  generalize hd : cs[k] = d at hc0
  have st : ∀ {w : World} {l : List Cn} {x y : Cn} {j : Nat} {u : Value}, OwnG EC 44 B w (.slice (some ⟨g, 0, none⟩) n cap) l → l[k]? = some x → j < EC.z → EC.put y = (EC.put x).set j u → OwnG EC 44 B (w.setCell ⟨g, k * 7 + j, none⟩ u) (.slice (some ⟨g, 0, none⟩) n cap) (l.set k y) ∧ (l.set k y)[k]? = some y := by
    intro w l x y j u h1 h2 h3 h4
    obtain ⟨g', e, _, _, _, h5⟩ := ownG_store h1 h2 h3 h4
    cases e
    exact ⟨h5, List.getElem?_set_self (List.getElem?_eq_some_iff.1 h2).1⟩
  have s0 := st (y := { d with fo := c.fo }) (j := 0) (u := .bool c.fo) h.row hc0 (by decide) rfl
  have s1 := st (y := { d with fo := c.fo, ow := c.ow }) (j := 1) (u := .int .i64 c.ow) s0.1 s0.2 (by decide) rfl
  have s2 := st (y := { d with fo := c.fo, ow := c.ow, gr := c.gr }) (j := 2) (u := .int .i64 c.gr) s1.1 s1.2 (by decide) rfl
  have s3 := st (y := { d with fo := c.fo, ow := c.ow, gr := c.gr, mo := c.mo }) (j := 3) (u := .int .i64 c.mo) s2.1 s2.2 (by decide) rfl
  have s4 := st (y := { d with fo := c.fo, ow := c.ow, gr := c.gr, mo := c.mo, tx := c.tx }) (j := 4) (u := .string c.tx) s3.1 s3.2 (by decide) rfl
  have s5 := st (y := { d with fo := c.fo, ow := c.ow, gr := c.gr, mo := c.mo, tx := c.tx, nA := c.nA, nL := c.nL, nC := c.nC }) (j := 5) (u := .slice c.nA c.nL c.nC) s4.1 s4.2 (by decide) rfl
  have s6 := st (y := c) (j := 6) (u := .slice c.kA c.kL c.kC) s5.1 s5.2 (by decide) rfl
  have r := s6.1
  simp only [List.set_set] at r
  exact h.swap hlt r (Lib.grownBy_setB (Lib.grownBy_setB (Lib.grownBy_setB (Lib.grownBy_setB (Lib.grownBy_setB (Lib.grownBy_setB (Lib.grownBy_setB (World.grownBy.refl _ _) _ _) _ _) _ _) _ _) _ _) _ _) _ _) hc hs
end
end Go.Proofs.YtkennmpbmbacpaaGreatDoor

namespace Go.Proofs.YtkennmpbmbacpaaGreatDoor
open Go.RowKit

theorem lastF_len {s : List UInt8} (h : s.length ≤ 1048576) : (lastF s).length ≤ 1048576 := by
  by_cases hc : okP s = false ∨ partsP s = []
  · rw [(above_no hc).2.1]; simp
  · have h1 : okP s = true := by cases hh : okP s; exact absurd (.inl hh) hc; rfl
    have hne : partsP s ≠ [] := fun e => hc (.inr e)
    rw [(above_yes h1 hne).2.1]
    have hl : 0 < (partsP s).length := List.length_pos_iff.2 hne
    have := partsP_sizes s ((partsP s).getD ((partsP s).length - 1) []) (by
      rw [List.getD_eq_getElem?_getD, List.getElem?_eq_getElem (by omega)]
      exact List.getElem_mem _)
    omega
theorem treeO_empty {B : Nat} {w : World} (hB : B ≤ w.heap.size) : TreeO B (w.alloc (.cells #[] 44)) (.slice (some ⟨w.heap.size, 0, none⟩) 0 0) [] := ⟨[], treeC_empty (ownG_empty _ rfl hB)⟩
/-- A node of a copy is written anew. -/
theorem put_write {B : Nat} {w w3 : World} {g n cap m : Nat} {cs : List Cn} {t : List Nd} {y : Nd} {A1 A2 : Option Addr} {c1 c2 : Nat} (h : TreeC B w (.slice (some ⟨g, 0, none⟩) n cap) cs t) (hm : m < t.length)
    (o1 : OwnG EL 9 w.heap.size w3 (.slice A1 y.ns.length c1) y.ns) (o2 : OwnG EI 3 w.heap.size w3 (.slice A2 y.ks.length c2) y.ks) (hsz : y.tx.size ≤ maxLen) (hnz : ∀ s ∈ y.ns, s.length ≤ 1048576) (hb : Below w.heap.size w w3) (hB : B ≤ w.heap.size) :
    ∃ cs', TreeC B (((((((w3.setCell ⟨g, m * 7, none⟩ (.bool y.fo)).setCell ⟨g, m * 7 + 1, none⟩ (.int .i64 y.ow)).setCell ⟨g, m * 7 + 2, none⟩ (.int .i64 y.gr)).setCell ⟨g, m * 7 + 3, none⟩ (.int .i64 y.mo)).setCell ⟨g, m * 7 + 4, none⟩ (.string y.tx)).setCell ⟨g, m * 7 + 5, none⟩ (.slice A1 y.ns.length c1)).setCell ⟨g, m * 7 + 6, none⟩ (.slice A2 y.ks.length c2)) (.slice (some ⟨g, 0, none⟩) n cap) cs' (t.set m y) := by
  obtain ⟨c', hc'⟩ : ∃ c' : Cn, c' = ⟨y.fo, y.ow, y.gr, y.mo, y.tx, A1, y.ns.length, c1, A2, y.ks.length, c2⟩ := ⟨_, rfl⟩
  have hnd : NdO B w3 c' y := by rw [hc']; exact ⟨rfl, rfl, rfl, rfl, rfl, ownG_mono o1 hB, ownG_mono o2 hB, hsz, hnz⟩
  have hsep : ∀ (j : Nat) d, j ≠ m → cs[j]? = some d → Sep (nB c') (nB d) ∧ Sep (kB c') (kB d) := by
    intro j d _ hd
    have hj : j < t.length := by rw [← h.len]; exact (List.getElem?_eq_some_iff.1 hd).1
    have hn := h.nds j d _ hd (kth_at hj)
    rw [hc']
    exact ⟨(ownG_apart hn.ns o1 (Nat.le_refl _)).symm, (ownG_apart hn.ks o2 (Nat.le_refl _)).symm⟩
  have r := (h.below hb).write hm hnd hsep
  rw [hc'] at r
  exact ⟨_, r⟩
theorem putF_fine {x : Nd} {s : List UInt8} {z : Int} (hs : s.length ≤ 1048576) (h2 : ∀ y ∈ x.ns, y.length ≤ 1048576) : ∀ y ∈ (putF x s z).ns, y.length ≤ 1048576 := fun y hy => by
  simp only [putF, List.mem_append, List.mem_cons] at hy
  rcases hy with hy | rfl | hy
  · exact h2 y (List.mem_of_mem_take hy)
  · exact hs
  · exact h2 y (List.mem_of_mem_drop hy)
set_option maxRecDepth 100000 in
set_option maxHeartbeats 8000000 in
theorem linkS_of (v : Value) (t : List Nd) (a b c d : Int) (p q : List UInt8) (w : World) (h : TreeR w v t) (ht : t.length ≤ 1000) (hkz : (kidsOf t).length ≤ 1000000) (hp : p.length ≤ 1048576) (hq : q.length ≤ 1048576) :
    Calls Tryz.prog 24 #[v, .agg #[.int .i64 a, .int .i64 b, .int .i64 c, .int .i64 d], .string (mk p), .string (mk q)] w fun e w' => ∃ v', e = .returned (.tuple #[v', .int .i64 (linkF t a b c d p q).2]) ∧ TreeO w.heap.size w' v' (linkF t a b c d p q).1 ∧ Below w.heap.size w w' := by
  have hF := fun w h => findS_mk v t a b c d p w h ht hkz hp
  have hP := fun w h => placeS_mk v t a b c d q w h ht hkz hq
  have hA := fun w => aboveS_of (mk q) w (by rw [mk_size]; exact hq)
  rw [mk_data] at hA
  unfold AbvGot at hA
  have hC := fun w h hf => copyS_of v t w h ht hf
  have hrf := @findF_range t a b c d p
  have hrp := @placeF_yes t a b c d q
  obtain ⟨R, hR⟩ : ∃ R, R = linkF t a b c d p q := ⟨_, rfl⟩
  rw [← hR]
  unfold linkF at hR
  generalize findF t a b c d p = F at hF hrf hR
  generalize placeF t a b c d q = P at hP hrp hR
  obtain ⟨f1, f2⟩ := F
  obtain ⟨p1, p2⟩ := P
  simp only at hF hP hrf hrp hR
  have H := Lib.hid h
  have HF := Lib.hid hF
  have HP := Lib.hid hP
  have HA := Lib.hid hA
  have HC := Lib.hid hC
  obtain ⟨A, cap, rfl⟩ := h.shape
  have hcap := h.caps
  clear h hF hP hA hC
  go_enter Tryz.func24, Tryz.ntmps24
  go_wp2_with fail
  refine (HF.out _ (H.out.below (by (repeat (first | exact Below.refl _ _ | exact Hbl.out | refine Below.ext ?_ (by first | omega | (simp; omega) | simp) | refine Below.setCell ?_ (by first | omega | (simp; omega) | simp) _ | refine Below.alloc ?_ (by first | omega | (simp; omega) | simp) _ | refine Below.drew ?_ | refine below_drewN ?_ _ | refine Below.step (by assumption) (by first | omega | (simp; omega) | simp) ?_))))).mono ?_
  rintro e w1 ⟨rfl, b1⟩
  have q0 : w1.cell? ⟨w.heap.size, 0, none⟩ = some (.int .i64 a) := (b1.cell (p := ⟨w.heap.size, 0, none⟩) (by simp)).trans (by go_simp)
  have q1 : w1.cell? ⟨w.heap.size, 1, none⟩ = some (.int .i64 b) := (b1.cell (p := ⟨w.heap.size, 1, none⟩) (by simp)).trans (by go_simp)
  have q2 : w1.cell? ⟨w.heap.size, 2, none⟩ = some (.int .i64 c) := (b1.cell (p := ⟨w.heap.size, 2, none⟩) (by simp)).trans (by go_simp)
  have q3 : w1.cell? ⟨w.heap.size, 3, none⟩ = some (.int .i64 d) := (b1.cell (p := ⟨w.heap.size, 3, none⟩) (by simp)).trans (by go_simp)
  have hzw : w.heap.size < w1.heap.size := by have := b1.size; simp at this; omega
  have B1 := Lib.hid (Below.step b1 (by simp) (show Below w.heap.size w _ from (by (repeat (first | exact Below.refl _ _ | exact Hbl.out | refine Below.ext ?_ (by first | omega | (simp; omega) | simp) | refine Below.setCell ?_ (by first | omega | (simp; omega) | simp) _ | refine Below.alloc ?_ (by first | omega | (simp; omega) | simp) _ | refine Below.drew ?_ | refine below_drewN ?_ _ | refine Below.step (by assumption) (by first | omega | (simp; omega) | simp) ?_)))))
  clear b1
  by_cases hf : f2 = 0
  · subst hf
    rw [if_neg (by simp)] at hR
    obtain ⟨g1, _, _, g4, g5⟩ := hrf rfl
    obtain ⟨k, rfl⟩ : ∃ k : Nat, f1 = (k : Int) := ⟨f1.toNat, by omega⟩
    have hk : k < t.length := by omega
    obtain ⟨bt, ot, nA, nC, kA, kC, rfl, hbt, hS, y0, _⟩ := (H.out.below B1.out).at_ (kth_at hk)
    rw [Int.toNat_natCast] at hR
    cases hfo : (kth t k).fo
    · rw [hfo] at y0 hR
      rw [if_neg (by simp)] at hR
      go_wp2_with fail
      refine (HP.out _ (H.out.below B1.out)).mono ?_
      rintro e w2 ⟨rfl, b2⟩
      have B2 := Lib.hid (Below.step b2 B1.out.size B1.out)
      clear b2
      by_cases hpl : p2 = 0
      · subst hpl
        rw [if_neg (by simp)] at hR
        obtain ⟨_, _, _, r4, r5, r6, r7⟩ := hrp rfl
        obtain ⟨m, rfl⟩ : ∃ m : Nat, p1 = (m : Int) := ⟨p1.toNat, by omega⟩
        have hm : m < t.length := by omega
        rw [Int.toNat_natCast] at hR
        have hfew := few_of g1 hkz
        have Hls := Lib.hid (head_ks (tree_node g1 hm))
        have hfm := (hfew m hm).1
        have Hr := Lib.hid hR
        have hlq := lastF_len hq
        clear hR hrp hrf r4 r5 r6 r7 g4 g5
        go_wp2_with fail
        refine (HA.out _).mono ?_
        rintro e w3 ⟨rfl, b3⟩
        have B3 := Lib.hid (Below.step b3 B2.out.size B2.out)
        clear b3
        go_wp2_with fail
        refine (HC.out _ (H.out.below B3.out) hfew).mono ?_
        rintro e w4 ⟨v4, cs, rfl, hT, hSm, b4⟩
        have B4 := Lib.hid (Below.step b4 B3.out.size B3.out)
        obtain ⟨A4, k4, rfl⟩ := (show TreeO _ w4 v4 t from ⟨cs, hT⟩).shape
        obtain ⟨g, c0, rfl, hgB, hgw, hcm, _, hNS, z0, z1, z2, z3, z4, z5, z6, zf⟩ := hT.at_ hm
        obtain ⟨⟨gn, hnA⟩, ⟨gk, hkA⟩⟩ := hSm c0 (List.mem_of_getElem? hcm)
        have HT := Lib.hid hT
        have hN := Lib.hid (fun w h => putS_of c0.nA c0.nC c0.kA c0.kC (kth t m) (lastF q) (k : Int) w h Hls.out hfm hlq ⟨_, _, hnA⟩ ⟨_, _, hkA⟩)
        have HNS := Lib.hid hNS
        have hz34 := b4.size
        clear b4 hT hSm hcm hnA hkA hNS hfew
        go_wp2_with fail
        refine (hN.out _ HNS.out).mono ?_
        rintro e w5 ⟨A1, c1, A2, c2, rfl, o1, o2, b5⟩
        obtain ⟨cs', hT6⟩ := put_write HT.out hm o1 o2 HNS.out.sz (putF_fine hlq HNS.out.nz) b5 (by omega)
        have HT6 := Lib.hid hT6
        have B5 := Lib.hid (Below.step b5 B4.out.size B4.out)
        have e0 := (b5.cell (p := ⟨g, m * 7, none⟩) hgw).trans z0
        have e1 := (b5.cell (p := ⟨g, m * 7 + 1, none⟩) hgw).trans z1
        have e2 := (b5.cell (p := ⟨g, m * 7 + 2, none⟩) hgw).trans z2
        have e3 := (b5.cell (p := ⟨g, m * 7 + 3, none⟩) hgw).trans z3
        have e4 := (b5.cell (p := ⟨g, m * 7 + 4, none⟩) hgw).trans z4
        have e5 := (b5.cell (p := ⟨g, m * 7 + 5, none⟩) hgw).trans z5
        have e6 := (b5.cell (p := ⟨g, m * 7 + 6, none⟩) hgw).trans z6
        have ff := fun j => (b5.frozen (p := ⟨g, j, none⟩) hgw).trans (zf j)
        have f0 := ff (m * 7)
        have f1 := ff (m * 7 + 1)
        have f2 := ff (m * 7 + 2)
        have f3 := ff (m * 7 + 3)
        have f4 := ff (m * 7 + 4)
        have f5 := ff (m * 7 + 5)
        have f6 := ff (m * 7 + 6)
        have hgle : w.heap.size ≤ g := by have := B3.out.size; omega
        clear o1 o2 b5 hT6 ff z0 z1 z2 z3 z4 z5 z6 zf
        go_wp2
        go_ret2
        refine ⟨_, by rw [Hr.out]; rfl, by rw [Hr.out]; exact ⟨_, HT6.out.mono B3.out.size⟩, ?_⟩
        exact below_set (below_set (below_set (below_set (below_set (below_set (below_set B5.out hgle) hgle) hgle) hgle) hgle) hgle) hgle
      · have Hr := Lib.hid (show R = ([], p2) by rw [hR, if_pos hpl])
        clear hR
        go_wp2
        go_ret2
        exact ⟨_, by rw [Hr.out]; rfl, by rw [Hr.out]; exact (treeO_empty (Nat.le_refl _)).mono B2.out.size, Below.alloc B2.out B2.out.size _⟩
    · rw [hfo] at y0 hR
      have Hr := Lib.hid (show R = ([], 4) by rw [hR, if_pos rfl])
      clear hR
      go_wp2
      go_ret2
      exact ⟨_, by rw [Hr.out]; rfl, by rw [Hr.out]; exact (treeO_empty (Nat.le_refl _)).mono B1.out.size, Below.alloc B1.out B1.out.size _⟩
  · have Hr := Lib.hid (show R = ([], f2) by rw [hR, if_pos hf])
    clear hR
    go_wp2
    go_ret2
    exact ⟨_, by rw [Hr.out]; rfl, by rw [Hr.out]; exact (treeO_empty (Nat.le_refl _)).mono B1.out.size, Below.alloc B1.out B1.out.size _⟩
theorem cell_full {b o g i0 i1 i2 i3 i4 i5 i6 : Nat} {u0 u1 u2 u3 u4 u5 u6 : Value} {w : World} (h : b ≠ g) : (((((((w.setCell ⟨g, i0, none⟩ u0).setCell ⟨g, i1, none⟩ u1).setCell ⟨g, i2, none⟩ u2).setCell ⟨g, i3, none⟩ u3).setCell ⟨g, i4, none⟩ u4).setCell ⟨g, i5, none⟩ u5).setCell ⟨g, i6, none⟩ u6).cell? ⟨b, o, none⟩ = w.cell? ⟨b, o, none⟩ := by
  have e : ∀ (w : World) i u, (w.setCell ⟨g, i, none⟩ u).cell? ⟨b, o, none⟩ = w.cell? ⟨b, o, none⟩ := fun w i u => World.cell?_setCell_other _ _ _ _ (fun e => h (by cases e; rfl))
  simp only [e]
set_option maxRecDepth 100000 in
set_option maxHeartbeats 8000000 in
theorem makeS_of (v : Value) (t : List Nd) (a b c d : Int) (q : List UInt8) (fo : Bool) (mode : Int) (w : World) (h : TreeR w v t) (ht : t.length ≤ 1000) (hkz : (kidsOf t).length ≤ 1000000) (hq : q.length ≤ 1048576) :
    Calls Tryz.prog 21 #[v, .agg #[.int .i64 a, .int .i64 b, .int .i64 c, .int .i64 d], .string (mk q), .bool fo, .int .i64 mode] w fun e w' => ∃ v', e = .returned (.tuple #[v', .int .i64 (makeF t a b c d q fo mode).2]) ∧ TreeO w.heap.size w' v' (makeF t a b c d q fo mode).1 ∧ Below w.heap.size w w' := by
  have hP := fun w h => placeS_mk v t a b c d q w h ht hkz hq
  have hA := fun w => aboveS_of (mk q) w (by rw [mk_size]; exact hq)
  rw [mk_data] at hA
  unfold AbvGot at hA
  have hC := fun w h hf => copyS_of v t w h ht hf
  have hrp := @placeF_yes t a b c d q
  obtain ⟨R, hR⟩ : ∃ R, R = makeF t a b c d q fo mode := ⟨_, rfl⟩
  rw [← hR]
  unfold makeF at hR
  generalize placeF t a b c d q = P at hP hrp hR
  obtain ⟨p1, p2⟩ := P
  simp only at hP hrp hR
  have H := Lib.hid h
  have HP := Lib.hid hP
  have HA := Lib.hid hA
  have HC := Lib.hid hC
  obtain ⟨A, cap, rfl⟩ := h.shape
  have hcap := h.caps
  clear h hP hA hC
  go_enter Tryz.func21, Tryz.ntmps21
  go_wp2_with fail
  refine (HP.out _ (H.out.below (by (repeat (first | exact Below.refl _ _ | exact Hbl.out | refine Below.ext ?_ (by first | omega | (simp; omega) | simp) | refine Below.setCell ?_ (by first | omega | (simp; omega) | simp) _ | refine Below.alloc ?_ (by first | omega | (simp; omega) | simp) _ | refine Below.drew ?_ | refine below_drewN ?_ _ | refine Below.step (by assumption) (by first | omega | (simp; omega) | simp) ?_))))).mono ?_
  rintro e w1 ⟨rfl, b1⟩
  have q1 : w1.cell? ⟨w.heap.size, 1, none⟩ = some (.int .i64 b) := (b1.cell (p := ⟨w.heap.size, 1, none⟩) (by simp)).trans (by go_simp)
  have hzw : w.heap.size < w1.heap.size := by have := b1.size; simp at this; omega
  have B1 := Lib.hid (Below.step b1 (by simp) (show Below w.heap.size w _ from (by (repeat (first | exact Below.refl _ _ | exact Hbl.out | refine Below.ext ?_ (by first | omega | (simp; omega) | simp) | refine Below.setCell ?_ (by first | omega | (simp; omega) | simp) _ | refine Below.alloc ?_ (by first | omega | (simp; omega) | simp) _ | refine Below.drew ?_ | refine below_drewN ?_ _ | refine Below.step (by assumption) (by first | omega | (simp; omega) | simp) ?_)))))
  clear b1
  go_wp2_with fail
  refine (HA.out _).mono ?_
  rintro e w3 ⟨rfl, b3⟩
  have q1' : w3.cell? ⟨w.heap.size, 1, none⟩ = some (.int .i64 b) := (b3.cell (p := ⟨w.heap.size, 1, none⟩) hzw).trans q1
  have hz13 := b3.size
  have B3 := Lib.hid (Below.step b3 B1.out.size B1.out)
  clear b3 q1
  cases g1 : inB mode 0 1023
  · have Hr := Lib.hid (show R = ([], 1) by rw [hR, if_pos g1])
    clear hR
    go_wp2_with (go_at_call 70; refine (l1In_any _ _ _ _).mono ?_; rintro e w' ⟨rfl, rfl⟩)
    go_ret2
    exact ⟨_, by rw [Hr.out]; rfl, by rw [Hr.out]; exact (treeO_empty (Nat.le_refl _)).mono B3.out.size, Below.alloc B3.out B3.out.size _⟩
  · rw [if_neg (by rw [g1]; simp)] at hR
    by_cases hpl : p2 = 0
    · subst hpl
      rw [if_neg (by simp)] at hR
      obtain ⟨r1, _, _, r4, r5, r6, r7⟩ := hrp rfl
      obtain ⟨m, rfl⟩ : ∃ m : Nat, p1 = (m : Int) := ⟨p1.toNat, by omega⟩
      have hm : m < t.length := by omega
      rw [Int.toNat_natCast] at hR
      by_cases h16 : t.length = 16
      · have Hr := Lib.hid (show R = ([], 6) by rw [hR, if_pos h16])
        have h16' : (t.length : Int) = 16 := by omega
        have H16 := Lib.hid h16
        clear hR h16 hrp r4 r5 r6 r7
        go_wp2_with (go_at_call 70; refine (l1In_any _ _ _ _).mono ?_; rintro e w' ⟨rfl, rfl⟩)
        go_ret2
        exact ⟨_, by rw [Hr.out]; rfl, by rw [Hr.out]; exact (treeO_empty (Nat.le_refl _)).mono B3.out.size, Below.alloc B3.out B3.out.size _⟩
      · rw [if_neg h16] at hR
        have h16' : ¬ (t.length : Int) = 16 := by omega
        have hfew := few_of r1 hkz
        have Hls := Lib.hid (head_ks (tree_node r1 hm))
        have hfm := (hfew m hm).1
        have Hr := Lib.hid hR
        have hlq := lastF_len hq
        clear hR hrp r4 r5 r6 r7
        go_wp2_with (go_at_call 70; refine (l1In_any _ _ _ _).mono ?_; rintro e w' ⟨rfl, rfl⟩)
        refine (HC.out _ (H.out.below B3.out) hfew).mono ?_
        rintro e w4 ⟨v4, cs, rfl, hT, hSm, b4⟩
        have B4 := Lib.hid (Below.step b4 B3.out.size B3.out)
        have q14 : w4.cell? ⟨w.heap.size, 1, none⟩ = some (.int .i64 b) := (b4.cell (p := ⟨w.heap.size, 1, none⟩) (show w.heap.size < w3.heap.size by omega)).trans q1'
        obtain ⟨A4, k4, rfl⟩ := (show TreeO _ w4 v4 t from ⟨cs, hT⟩).shape
        obtain ⟨g, c0, rfl, hgB, hgw, hcm, _, hNS, z0, z1, z2, z3, z4, z5, z6, zf⟩ := hT.at_ hm
        obtain ⟨⟨gn, hnA⟩, ⟨gk, hkA⟩⟩ := hSm c0 (List.mem_of_getElem? hcm)
        have HT := Lib.hid hT
        have hN := Lib.hid (fun w h => putS_of c0.nA c0.nC c0.kA c0.kC (kth t m) (lastF q) (t.length : Int) w h Hls.out hfm hlq ⟨_, _, hnA⟩ ⟨_, _, hkA⟩)
        have HNS := Lib.hid hNS
        have hz34 := b4.size
        clear b4 hT hSm hcm hnA hkA hNS hfew q1'
        go_wp2_with fail
        refine (hN.out _ HNS.out).mono ?_
        rintro e w5 ⟨A1, c1, A2, c2, rfl, o1, o2, b5⟩
        obtain ⟨cs', hT6⟩ := put_write HT.out hm o1 o2 HNS.out.sz (putF_fine hlq HNS.out.nz) b5 (by omega)
        have HT6 := Lib.hid hT6
        have B5 := Lib.hid (Below.step b5 B4.out.size B4.out)
        have q15 : w5.cell? ⟨w.heap.size, 1, none⟩ = some (.int .i64 b) := (b5.cell (p := ⟨w.heap.size, 1, none⟩) (show w.heap.size < w4.heap.size by omega)).trans q14
        have e0 := (b5.cell (p := ⟨g, m * 7, none⟩) hgw).trans z0
        have e1 := (b5.cell (p := ⟨g, m * 7 + 1, none⟩) hgw).trans z1
        have e2 := (b5.cell (p := ⟨g, m * 7 + 2, none⟩) hgw).trans z2
        have e3 := (b5.cell (p := ⟨g, m * 7 + 3, none⟩) hgw).trans z3
        have e4 := (b5.cell (p := ⟨g, m * 7 + 4, none⟩) hgw).trans z4
        have e5 := (b5.cell (p := ⟨g, m * 7 + 5, none⟩) hgw).trans z5
        have e6 := (b5.cell (p := ⟨g, m * 7 + 6, none⟩) hgw).trans z6
        have ff := fun j => (b5.frozen (p := ⟨g, j, none⟩) hgw).trans (zf j)
        have f0 := ff (m * 7)
        have f1 := ff (m * 7 + 1)
        have f2 := ff (m * 7 + 2)
        have f3 := ff (m * 7 + 3)
        have f4 := ff (m * 7 + 4)
        have f5 := ff (m * 7 + 5)
        have f6 := ff (m * 7 + 6)
        have hgle : w.heap.size ≤ g := by have := B3.out.size; omega
        have hgne : w.heap.size ≠ g := by omega
        have hz45 := b5.size
        clear o1 o2 b5 hT6 ff z0 z1 z2 z3 z4 z5 z6 zf q14
        go_wp2_with fail
        obtain ⟨W, hW⟩ : ∃ W, W = ((((((w5.setCell ⟨g, m * 7, none⟩ (.bool (kth t m).fo)).setCell ⟨g, m * 7 + 1, none⟩ (.int .i64 (kth t m).ow)).setCell ⟨g, m * 7 + 2, none⟩ (.int .i64 (kth t m).gr)).setCell ⟨g, m * 7 + 3, none⟩ (.int .i64 (kth t m).mo)).setCell ⟨g, m * 7 + 4, none⟩ (.string (kth t m).tx)).setCell ⟨g, m * 7 + 5, none⟩ (.slice A1 (putF (kth t m) (lastF q) (t.length : Int)).ns.length c1)).setCell ⟨g, m * 7 + 6, none⟩ (.slice A2 (putF (kth t m) (lastF q) (t.length : Int)).ks.length c2) := ⟨_, rfl⟩
        have hT7 : TreeC w3.heap.size W (.slice (some ⟨g, 0, none⟩) t.length k4) cs' (t.set m (putF (kth t m) (lastF q) (t.length : Int))) := by rw [hW]; exact HT6.out
        have u1 : W.cell? ⟨w.heap.size, 1, none⟩ = some (.int .i64 b) := by rw [hW]; exact (cell_full hgne).trans q15
        have B7 : Below w.heap.size w W := by rw [hW]; exact below_set (below_set (below_set (below_set (below_set (below_set (below_set B5.out hgle) hgle) hgle) hgle) hgle) hgle) hgle
        have hWs : W.heap.size = w5.heap.size := by rw [hW]; simp
        rw [← hW]
        clear hW e0 e1 e2 e3 e4 e5 e6 f0 f1 f2 f3 f4 f5 f6 HT6 B5 q15
        have hwW : w.heap.size < W.heap.size := by omega
        obtain ⟨bt, ot, nA, nC, kA, kC, rfl, hbt, _, _, _, y2', _⟩ := H.out.at_ (kth_at hm)
        have y2 := (B7.cell (p := ⟨bt, ot + m * 7 + 2, none⟩) hbt).trans y2'
        have hbtW : bt < W.heap.size := by omega
        have hwn3 : w.heap.size < w3.heap.size := by omega
        have hm' : (m : Int) < (t.length : Int) := by omega
        have hB3W : w3.heap.size ≤ W.heap.size := by omega
        have T7 := Lib.hid hT7
        have hrow : OwnG EC 44 w3.heap.size W (.slice (some ⟨g, 0, none⟩) t.length k4) cs' := hT7.row
        have Hrow := Lib.hid hrow
        have hcl : cs'.length = t.length := by have := hT7.len; rw [List.length_set] at this; exact this
        have Hcl := Lib.hid hcl
        have BB := Lib.hid B7
        clear hT7 hrow hcl B7
        go_region_held3 (fun w' => w'.cell? ⟨w.heap.size, 1, none⟩ = some (.int .i64 b) ∧ w'.cell? ⟨bt, ot + m * 7 + 2, none⟩ = some (.int .i64 (kth t m).gr)) (first | assumption | (go_simp; done) | fail) (first | (refine step_appG fitEC _ rfl (.tmp 59) (.tmp 70) rfl w3.heap.size _ cs' rfl ?_ _ [⟨fo, b, (kth t m).gr, mode, ByteArray.empty, none, 0, 0, none, 0, 0⟩] rfl ?_ ?_ ?_ ?_; (focus (exact ownG_below Hrow.out (by (repeat (first | exact Below.refl _ _ | exact Hbl.out | refine Below.ext ?_ (by first | omega | (simp; omega) | simp) | refine Below.setCell ?_ (by first | omega | (simp; omega) | simp) _ | refine Below.alloc ?_ (by first | omega | (simp; omega) | simp) _ | refine Below.drew ?_ | refine below_drewN ?_ _ | refine Below.step (by assumption) (by first | omega | (simp; omega) | simp) ?_))))); (focus (refine slG_one ?_ ?_; (focus (first | omega | (simp; done) | (simp; omega))); (focus (intro j u hu; rcases j with _ | _ | _ | _ | _ | _ | _ | j <;> simp [EC, Cn.cells] at hu <;> subst hu <;> first | (go_simp; done) | (go_simp; rfl))))); (focus (rw [Hcl.out]; simp; omega)); (focus (first | omega | (simp; done) | (simp; omega))); rintro v7 w7 ha7 hb7; have hP := fun x h hc hs => TreeC.push (x := x) (t := t.set m (putF (kth t m) (lastF q) (t.length : Int))) h hc hs ha7; have k1 : w7.cell? ⟨w.heap.size, 1, none⟩ = some (.int .i64 b) := (hb7.cell (p := ⟨w.heap.size, 1, none⟩) hwn3).trans (by go_simp); have k2 : w7.cell? ⟨bt, ot + m * 7 + 2, none⟩ = some (.int .i64 (kth t m).gr) := (hb7.cell (p := ⟨bt, ot + m * 7 + 2, none⟩) (Nat.lt_trans hbt hwn3)).trans (by go_simp)))
        all_goals
          have hO : TreeO w3.heap.size w7 v7 (t.set m (putF (kth t m) (lastF q) (t.length : Int)) ++ [newNd fo b (kth t m).gr mode]) := ⟨_, hP (newNd fo b (kth t m).gr mode) (T7.out.below (by (repeat (first | exact Below.refl _ _ | exact Hbl.out | refine Below.ext ?_ (by first | omega | (simp; omega) | simp) | refine Below.setCell ?_ (by first | omega | (simp; omega) | simp) _ | refine Below.alloc ?_ (by first | omega | (simp; omega) | simp) _ | refine Below.drew ?_ | refine below_drewN ?_ _ | refine Below.step (by assumption) (by first | omega | (simp; omega) | simp) ?_)))) ⟨rfl, rfl, rfl, rfl, rfl, ownG_none _ _, ownG_none _ _, by show ByteArray.empty.size ≤ maxLen; decide, fun y hy => by cases hy⟩ (fun j d _ => ⟨.inl rfl, .inl rfl⟩)⟩
          have HO := Lib.hid hO
          have hb8 : Below w.heap.size w w7 := Below.trans BB.out (Below.trans (show Below w.heap.size W _ from (by (repeat (first | exact Below.refl _ _ | exact Hbl.out | refine Below.ext ?_ (by first | omega | (simp; omega) | simp) | refine Below.setCell ?_ (by first | omega | (simp; omega) | simp) _ | refine Below.alloc ?_ (by first | omega | (simp; omega) | simp) _ | refine Below.drew ?_ | refine below_drewN ?_ _ | refine Below.step (by assumption) (by first | omega | (simp; omega) | simp) ?_)))) (Below.mono hb7 (by omega)))
          have HB8 := Lib.hid hb8
          clear hO hb8 hP ha7 hb7 k1 k2
          go_wp2
          go_ret2
          exact ⟨_, by rw [Hr.out]; rfl, by rw [Hr.out]; exact HO.out.mono B3.out.size, HB8.out⟩
    · have Hr := Lib.hid (show R = ([], p2) by rw [hR, if_pos hpl])
      clear hR
      go_wp2_with (go_at_call 70; refine (l1In_any _ _ _ _).mono ?_; rintro e w' ⟨rfl, rfl⟩)
      go_ret2
      exact ⟨_, by rw [Hr.out]; rfl, by rw [Hr.out]; exact (treeO_empty (Nat.le_refl _)).mono B3.out.size, Below.alloc B3.out B3.out.size _⟩
set_option maxHeartbeats 1000000 in
theorem newS_of (mode : Int) (w : World) (hm : inB mode 0 1023 = true) : Calls Tryz.prog 99 #[.int .i64 mode] w fun e w' => ∃ v', e = .returned v' ∧ TreeO w.heap.size w' v' [newNd true 0 0 mode] ∧ Below w.heap.size w w' := by
  go_enter Tryz.func99, Tryz.ntmps99
  go_wp2_with (go_at_call 70; refine (l1In_any _ _ _ _).mono ?_; rintro e w' ⟨rfl, rfl⟩)
  go_ret
  refine ⟨_, rfl, ⟨[⟨true, 0, 0, mode, ByteArray.empty, none, 0, 0, none, 0, 0⟩], rfl, ?_, fun i c x hc hx => ?_, fun i j c d hc hd hij => ?_⟩, (by (repeat (first | exact Below.refl _ _ | exact Hbl.out | refine Below.ext ?_ (by first | omega | (simp; omega) | simp) | refine Below.setCell ?_ (by first | omega | (simp; omega) | simp) _ | refine Below.alloc ?_ (by first | omega | (simp; omega) | simp) _ | refine Below.drew ?_ | refine below_drewN ?_ _ | refine Below.step (by assumption) (by first | omega | (simp; omega) | simp) ?_)))⟩
  · exact ⟨rfl, .inr ⟨w.heap.size, 1, _, rfl, Nat.le_refl _, heap_alloc_new w _, Nat.le_refl _, by decide, rfl, rfl⟩⟩
  · rcases i with _ | i
    · simp at hc hx
      subst hc hx
      exact ⟨rfl, rfl, rfl, rfl, rfl, ownG_none _ _, ownG_none _ _, by show ByteArray.empty.size ≤ maxLen; decide, fun y hy => by cases hy⟩
    · simp at hc
  · rcases i with _ | i
    · rcases j with _ | j
      · omega
      · simp at hd
    · simp at hc
end Go.Proofs.YtkennmpbmbacpaaGreatDoor

namespace Go.Proofs.YtkennmpbmbacpaaGreatDoor
open Go.RowKit

theorem sls_of {w : World} {v : Value} {ls : List (List UInt8)} (h : SlG EL w v ls) : SlS w v (ls.map mk) := by
  obtain ⟨A, cap, e, h1, h2, h3⟩ := h
  refine ⟨A, cap, by rw [List.length_map]; exact e, by rw [List.length_map]; exact h1, h2, ?_⟩
  rcases h3 with h3 | ⟨b, off, e, hb, hat⟩
  · exact .inl (by rw [h3]; rfl)
  · refine .inr ⟨b, off, e, hb, fun i hi => ?_⟩
    rw [List.length_map] at hi
    have := hat i ls[i] (List.getElem?_eq_getElem hi) 0 (.string (mk ls[i])) rfl
    simp only [EL, Nat.mul_one, Nat.add_zero] at this
    rw [this]
    congr 2
    unfold st
    rw [List.getD_eq_getElem?_getD, List.getElem?_map, List.getElem?_eq_getElem hi]; rfl
theorem ownG_lit1 {w : World} {s : List UInt8} : OwnG EL 9 w.heap.size (w.alloc (.cells #[.string (mk s)] 9)) (.slice (some ⟨w.heap.size, 0, none⟩) 1 1) [s] :=
  ⟨rfl, .inr ⟨w.heap.size, 1, _, rfl, Nat.le_refl _, heap_alloc_new w _, Nat.le_refl _, by decide, rfl, rfl⟩⟩
set_option maxRecDepth 100000 in
set_option maxHeartbeats 16000000 in
theorem l6PathsS_of (t : List Nd) (hT : treeB t = true) : ∀ (d m : Nat) (ps : List (List UInt8)) (vt u : Value) (w : World), TreeR w vt t → m < t.length → ps.length + d = 6 → (∀ x ∈ ps, x.length ≤ 1048576) → SlG EL w u ps → (pathsF t d (m : Int) ps).length ≤ 1000000 →
    Calls Tryz.prog 120 #[vt, .int .i64 (m : Int), u] w fun e w' => ∃ v', e = .returned v' ∧ OwnG EL 9 w.heap.size w' v' (pathsF t d (m : Int) ps) ∧ Below w.heap.size w w' := by
  intro d
  induction d with
  | zero =>
    intro m ps vt u w h hm hd hsz hu hL
    have hj := fun w h => joinS_of u ps w h (by omega) hsz
    obtain ⟨A, cap, rfl⟩ := h.shape
    obtain ⟨Au, cu, rfl⟩ := hu.shape
    obtain ⟨bt, ot, nA, nC, kA, kC, rfl, hbt, hS, _, _, _, _, _, s5, s6⟩ := h.at_ (kth_at hm)
    have hm' : (m : Int) < (t.length : Int) := by omega
    have hd6 : (ps.length : Int) = 6 := by omega
    have hns := hS.ns.caps
    have HJ := Lib.hid hj
    have HU := Lib.hid hu
    clear hj hu h hS hL
    go_enter Tryz.func120, Tryz.ntmps120
    go_wp2_with fail
    refine (HJ.out _ (sls_of HU.out)).mono ?_
    rintro e w' ⟨rfl, rfl⟩
    by_cases h0 : (0 : Int) < ((kth t m).ns.length : Int)
    all_goals
      go_wp2
      go_loopw [7, 8] (fun o i wr => o = .slice (some ⟨w.heap.size, 0, none⟩) 1 1 ∧ i = .int .i64 0 ∧ wr = w.alloc (.cells #[.string (mk (joinP ps))] 9)) (fun _ _ _ => 0)
      case atStart => exact ⟨rfl, rfl, rfl⟩
      case round =>
        obtain ⟨rfl, rfl, rfl⟩ := hrel
        go_wp2
        go_ret
        exact ⟨_, rfl, ownG_lit1, (by (repeat (first | exact Below.refl _ _ | exact Hbl.out | refine Below.ext ?_ (by first | omega | (simp; omega) | simp) | refine Below.setCell ?_ (by first | omega | (simp; omega) | simp) _ | refine Below.alloc ?_ (by first | omega | (simp; omega) | simp) _ | refine Below.drew ?_ | refine below_drewN ?_ _ | refine Below.step (by assumption) (by first | omega | (simp; omega) | simp) ?_)))⟩
  | succ d IH =>
    intro m ps vt u w h hm hd hsz hu hL
    have hj := fun w h => joinS_of u ps w h (by omega) hsz
    obtain ⟨A, cap, rfl⟩ := h.shape
    obtain ⟨Au, cu, rfl⟩ := hu.shape
    obtain ⟨bt, ot, nA, nC, kA, kC, rfl, hbt, hS, _, _, _, _, _, s5, s6⟩ := h.at_ (kth_at hm)
    have hks := head_ks (tree_node hT hm)
    have Hks := Lib.hid hks
    have hkd := Lib.hid (fun j hj => kid_down hT hm (j := j) hj)
    have hnm := Lib.hid hS.nz
    simp only [pathsF, Int.toNat_natCast] at hL ⊢
    have hm' : (m : Int) < (t.length : Int) := by omega
    have hd6 : (ps.length : Int) < 6 := by omega
    have hps5 : ps.length ≤ 5 := by omega
    have hns := hS.ns.caps
    have HJ := Lib.hid hj
    have HU := Lib.hid hu
    have HTr := Lib.hid h
    have HSz := Lib.hid hsz
    have HS := Lib.hid hS
    have Hd := Lib.hid hd
    clear hj hu h hks hsz hS hd
    generalize kth t m = x at s5 s6 Hks hkd hnm hL hns HS ⊢
    go_enter Tryz.func120, Tryz.ntmps120
    go_wp2_with fail
    refine (HJ.out _ (sls_of HU.out)).mono ?_
    rintro e w' ⟨rfl, rfl⟩
    have HL := Lib.hid hL
    clear hL
    go_wp2
    go_loopw [7, 8] (fun o i wr => ∃ k : Nat, k ≤ x.ns.length ∧ i = .int .i64 k ∧ OwnG EL 9 w.heap.size wr o (joinP ps :: (List.range k).flatMap fun k => pathsF t d (nthK x k) (ps ++ [nthN x k])) ∧ Below w.heap.size w wr) (fun _ i _ => x.ns.length - (intOf i).toNat)
    case atStart => exact ⟨0, Nat.zero_le _, rfl, ownG_lit1, (by (repeat (first | exact Below.refl _ _ | exact Hbl.out | refine Below.ext ?_ (by first | omega | (simp; omega) | simp) | refine Below.setCell ?_ (by first | omega | (simp; omega) | simp) _ | refine Below.alloc ?_ (by first | omega | (simp; omega) | simp) _ | refine Below.drew ?_ | refine below_drewN ?_ _ | refine Below.step (by assumption) (by first | omega | (simp; omega) | simp) ?_)))⟩
    case round =>
      obtain ⟨k, hk, rfl, ho, hB⟩ := hrel
      have HB := Lib.hid hB
      have s5' := (hB.cell (p := ⟨bt, ot + m * 7 + 5, none⟩) hbt).trans s5
      have s6' := (hB.cell (p := ⟨bt, ot + m * 7 + 6, none⟩) hbt).trans s6
      have hzr := hB.size
      by_cases hlt : k < x.ns.length
      · have hlk : k < x.ks.length := by have := Hks.out; omega
        obtain ⟨bn, on, rfl, hbn0, c1⟩ := HS.out.ns.at_ (nthN_at hlt)
        obtain ⟨bk, ok, rfl, hbk0, c2⟩ := HS.out.ks.at_ (nthK_at hlk)
        have d1 : w.cell? ⟨bn, on + k, none⟩ = some (.string (mk (nthN x k))) := by have := c1 0 _ rfl; simpa [EL] using this
        have d2 : w.cell? ⟨bk, ok + k, none⟩ = some (.int .i64 (nthK x k)) := by have := c2 0 _ rfl; simpa [EI] using this
        obtain ⟨z1, z2, _⟩ := hkd.out k hlk
        obtain ⟨m', hm2⟩ : ∃ m' : Nat, nthK x k = (m' : Int) := ⟨(nthK x k).toNat, by omega⟩
        have hmt : m' < t.length := by omega
        have hlen : ((joinP ps :: (List.range k).flatMap fun k => pathsF t d (nthK x k) (ps ++ [nthN x k])).length + (pathsF t d (nthK x k) (ps ++ [nthN x k])).length) ≤ 1000000 := by
          have h1 := flat_part (f := fun k => pathsF t d (nthK x k) (ps ++ [nthN x k])) hlt
          have h2 := HL.out
          simp only [List.length_cons] at h2 ⊢
          omega
        have hsucc : (joinP ps :: (List.range (k + 1)).flatMap fun k => pathsF t d (nthK x k) (ps ++ [nthN x k])) = (joinP ps :: (List.range k).flatMap fun k => pathsF t d (nthK x k) (ps ++ [nthN x k])) ++ pathsF t d (nthK x k) (ps ++ [nthN x k]) := by rw [flat_succ]; rfl
        have hnml : (nthN x k).length ≤ 1048576 := hnm.out _ (List.mem_of_getElem? (nthN_at hlt))
        rw [hm2] at d2 hlen hsucc
        have hps2 : ∀ y ∈ ps ++ [nthN x k], y.length ≤ 1048576 := fun y hy => by
          rcases List.mem_append.1 hy with h | h
          · exact HSz.out y h
          · rw [List.mem_singleton.1 h]; exact hnml
        have HI := Lib.hid (fun w u h1 h2 => IH m' (ps ++ [nthN x k]) _ u w (h1 : TreeR w (.slice (some ⟨bt, ot, none⟩) t.length cap) t) hmt (by rw [List.length_append, List.length_singleton]; have := Hd.out; omega) hps2 h2 (by omega))
        have HSu := Lib.hid hsucc
        obtain ⟨M, hM⟩ : ∃ M, M = pathsF t d (m' : Int) (ps ++ [nthN x k]) := ⟨_, rfl⟩
        obtain ⟨L, hLe⟩ : ∃ L, L = joinP ps :: (List.range k).flatMap fun k => pathsF t d (nthK x k) (ps ++ [nthN x k]) := ⟨_, rfl⟩
        rw [← hM] at hlen HSu HI
        rw [← hLe] at hlen HSu ho
        obtain ⟨nm, hnmE⟩ : ∃ nm, nm = nthN x k := ⟨_, rfl⟩
        rw [← hnmE] at d1 HI
        have hLM : L.length + M.length ≤ 1048600 := by omega
        obtain ⟨Ao, co, rfl⟩ := ownG_shape ho
        have hob := fun j hj => ownG_block ho j hj
        have Ho := Lib.hid ho
        have Hob := Lib.hid hob
        have sk := (hB.cell (p := ⟨bk, ok + k, none⟩) hbk0).trans d2
        have sn := (hB.cell (p := ⟨bn, on + k, none⟩) hbn0).trans d1
        have hbk : bk < wr.heap.size := by omega
        have hbn : bn < wr.heap.size := by omega
        have hbt' : bt < wr.heap.size := by omega
        have hnebt : ∀ j, (Value.slice Ao L.length co).ownBlock = some j → bt = j → False := fun j hj e => by have := (Hob.out j hj).1; omega
        have hnebk : ∀ j, (Value.slice Ao L.length co).ownBlock = some j → bk = j → False := fun j hj e => by have := (Hob.out j hj).1; omega
        have hnebn : ∀ j, (Value.slice Ao L.length co).ownBlock = some j → bn = j → False := fun j hj e => by have := (Hob.out j hj).1; omega
        have Hnt := Lib.hid hnebt
        have Hnk := Lib.hid hnebk
        have Hnn := Lib.hid hnebn
        have HP := Lib.hid (HU.out.below hB)
        have HT2 := Lib.hid (HTr.out.below hB)
        have hkk : (k : Int) < (x.ns.length : Int) := by omega
        have hkk2 : (k : Int) < (x.ks.length : Int) := by omega
        clear hLe hM hnmE hob ho hB c1 c2 d1 d2 s5 s6 z1 z2 hsucc hlen hps2 hnebt hnebk hnebn hm2 hnml
        go_wp2_with fail
        go_region_held3 (fun w' => w'.cell? ⟨bt, ot + m * 7 + 5, none⟩ = some (.slice (some ⟨bn, on, none⟩) x.ns.length nC) ∧ w'.cell? ⟨bt, ot + m * 7 + 6, none⟩ = some (.slice (some ⟨bk, ok, none⟩) x.ks.length kC) ∧ w'.cell? ⟨bk, ok + k, none⟩ = some (.int .i64 (m' : Int)) ∧ w'.cell? ⟨bn, on + k, none⟩ = some (.string (mk nm))) (first | assumption | (go_simp; done) | fail) (first | (refine step_appG fitEL _ rfl (.tmp 27) (.tmp 50) rfl w.heap.size _ L rfl ?_ _ M rfl ?_ ?_ ?_ ?_; (focus (exact ownG_below Ho.out t3)); (focus (exact ownG_sl o3)); (focus (exact hLM)); (focus (first | omega | (simp; done) | (simp; omega))); rintro v4 w4 ⟨o4, gr4, a4⟩ hb4; have s5_4 : w4.cell? ⟨bt, ot + m * 7 + 5, none⟩ = some (.slice (some ⟨bn, on, none⟩) x.ns.length nC) := (gr4.cell_far ⟨bt, ot + m * 7 + 5, none⟩ (Nat.lt_of_lt_of_le hbt' zz3) (fun e => Hnt.out _ e.symm rfl)).trans s5_3; have s6_4 : w4.cell? ⟨bt, ot + m * 7 + 6, none⟩ = some (.slice (some ⟨bk, ok, none⟩) x.ks.length kC) := (gr4.cell_far ⟨bt, ot + m * 7 + 6, none⟩ (Nat.lt_of_lt_of_le hbt' zz3) (fun e => Hnt.out _ e.symm rfl)).trans s6_3; have sk_4 : w4.cell? ⟨bk, ok + k, none⟩ = some (.int .i64 (m' : Int)) := (gr4.cell_far ⟨bk, ok + k, none⟩ (Nat.lt_of_lt_of_le hbk zz3) (fun e => Hnk.out _ e.symm rfl)).trans sk_3; have sn_4 : w4.cell? ⟨bn, on + k, none⟩ = some (.string (mk nm)) := (gr4.cell_far ⟨bn, on + k, none⟩ (Nat.lt_of_lt_of_le hbn zz3) (fun e => Hnn.out _ e.symm rfl)).trans sn_3) | (go_at_call 120; refine (HI.out _ _ ?_ ?_).mono ?_; (focus (exact HT2.out.below t2)); (focus (exact ownG_sl o2)); rintro e w3 ⟨v3, rfl, o3, hb3⟩; have t3 : Below wr.heap.size wr w3 := Below.trans t2 (Below.mono hb3 zz2); have s5_3 : w3.cell? ⟨bt, ot + m * 7 + 5, none⟩ = some (.slice (some ⟨bn, on, none⟩) x.ns.length nC) := (t3.cell (p := ⟨bt, ot + m * 7 + 5, none⟩) hbt').trans s5'; have s6_3 : w3.cell? ⟨bt, ot + m * 7 + 6, none⟩ = some (.slice (some ⟨bk, ok, none⟩) x.ks.length kC) := (t3.cell (p := ⟨bt, ot + m * 7 + 6, none⟩) hbt').trans s6'; have sk_3 : w3.cell? ⟨bk, ok + k, none⟩ = some (.int .i64 (m' : Int)) := (t3.cell (p := ⟨bk, ok + k, none⟩) hbk).trans sk; have sn_3 : w3.cell? ⟨bn, on + k, none⟩ = some (.string (mk nm)) := (t3.cell (p := ⟨bn, on + k, none⟩) hbn).trans sn; have zz3 := t3.size; have hz3 := hb3.size; (try simp at hz3)) | (refine step_appG fitEL _ rfl (.tmp 39) (.tmp 48) rfl wr.heap.size _ ps rfl ?_ _ [nm] rfl ?_ ?_ ?_ ?_; (focus (first | exact o1 | exact ownG_alloc o1 _)); (focus (refine slG_one ?_ ?_; (focus (first | omega | (simp; done) | (simp; omega))); (focus (intro j u hu; rcases j with _ | j <;> simp [EL] at hu; subst hu; first | (go_simp; done) | (refine gr1.cell ?_ ?_; (focus (go_simp)); (focus (simp [Value.ownBlock]; try omega))))))); (focus (simp; omega)); (focus (first | omega | (simp; done) | (simp; omega))); rintro v2 w2 ⟨o2, gr2, a2⟩ hb2; have t2 : Below wr.heap.size wr w2 := Below.trans (by first | exact t1 | exact Below.alloc t1 t1.size _) hb2; have s5_2 : w2.cell? ⟨bt, ot + m * 7 + 5, none⟩ = some (.slice (some ⟨bn, on, none⟩) x.ns.length nC) := (t2.cell (p := ⟨bt, ot + m * 7 + 5, none⟩) hbt').trans s5'; have s6_2 : w2.cell? ⟨bt, ot + m * 7 + 6, none⟩ = some (.slice (some ⟨bk, ok, none⟩) x.ks.length kC) := (t2.cell (p := ⟨bt, ot + m * 7 + 6, none⟩) hbt').trans s6'; have sk_2 : w2.cell? ⟨bk, ok + k, none⟩ = some (.int .i64 (m' : Int)) := (t2.cell (p := ⟨bk, ok + k, none⟩) hbk).trans sk; have sn_2 : w2.cell? ⟨bn, on + k, none⟩ = some (.string (mk nm)) := (t2.cell (p := ⟨bn, on + k, none⟩) hbn).trans sn; have zz2 := t2.size; have hz2 := hb2.size; (try simp at hz2)) | (refine step_appG fitEL _ rfl (.tmp 37) (.tmp 38) rfl wr.heap.size (.slice (some ⟨_, 0, none⟩) 0 0) [] rfl ?_ _ ps rfl ?_ ?_ ?_ ?_; (focus (first | (refine ownG_empty _ ?_ ?_ <;> (simp; try omega); done) | (refine ownG_alloc (ownG_empty _ ?_ ?_) _ <;> (simp; try omega); done))); (focus (refine HP.out.below ?_; (repeat (first | exact Below.refl _ _ | exact Hbl.out | refine Below.ext ?_ (by first | omega | (simp; omega) | simp) | refine Below.setCell ?_ (by first | omega | (simp; omega) | simp) _ | refine Below.alloc ?_ (by first | omega | (simp; omega) | simp) _ | refine Below.drew ?_ | refine below_drewN ?_ _ | refine Below.step (by assumption) (by first | omega | (simp; omega) | simp) ?_)))); (focus (simp; omega)); (focus (first | omega | (simp; done) | (simp; omega))); rintro v1 w1 ⟨o1, gr1, a1⟩ hb1; (try rw [List.nil_append] at o1); have t1 : Below wr.heap.size wr w1 := Below.trans (show Below wr.heap.size wr _ from (by (repeat (first | exact Below.refl _ _ | exact Hbl.out | refine Below.ext ?_ (by first | omega | (simp; omega) | simp) | refine Below.setCell ?_ (by first | omega | (simp; omega) | simp) _ | refine Below.alloc ?_ (by first | omega | (simp; omega) | simp) _ | refine Below.drew ?_ | refine below_drewN ?_ _ | refine Below.step (by assumption) (by first | omega | (simp; omega) | simp) ?_)))) hb1; have s5_1 : w1.cell? ⟨bt, ot + m * 7 + 5, none⟩ = some (.slice (some ⟨bn, on, none⟩) x.ns.length nC) := (t1.cell (p := ⟨bt, ot + m * 7 + 5, none⟩) hbt').trans s5'; have s6_1 : w1.cell? ⟨bt, ot + m * 7 + 6, none⟩ = some (.slice (some ⟨bk, ok, none⟩) x.ks.length kC) := (t1.cell (p := ⟨bt, ot + m * 7 + 6, none⟩) hbt').trans s6'; have sk_1 : w1.cell? ⟨bk, ok + k, none⟩ = some (.int .i64 (m' : Int)) := (t1.cell (p := ⟨bk, ok + k, none⟩) hbk).trans sk; have sn_1 : w1.cell? ⟨bn, on + k, none⟩ = some (.string (mk nm)) := (t1.cell (p := ⟨bn, on + k, none⟩) hbn).trans sn; have zz1 := t1.size; have hz1 := hb1.size; (try simp at hz1)))
        all_goals
          have hO4 := o4
          rw [← HSu.out] at hO4
          have HO4 := Lib.hid hO4
          have HB4 := Lib.hid (Below.trans (Below.trans HB.out (Below.mono t3 hzr)) hb4)
          clear hO4 o4 o3 o2 o1 gr1 gr2 gr4 a1 a2 a4
          go_wp2_with fail
          go_roundw
          case rel => exact ⟨k + 1, hlt, by go_num, HO4.out, HB4.out⟩
          case measure => simp [intOf]; omega
      · obtain rfl : k = x.ns.length := by omega
        have Ho := Lib.hid ho
        clear ho hB
        go_wp2
        go_ret
        exact ⟨_, rfl, Ho.out, HB.out⟩
end Go.Proofs.YtkennmpbmbacpaaGreatDoor
