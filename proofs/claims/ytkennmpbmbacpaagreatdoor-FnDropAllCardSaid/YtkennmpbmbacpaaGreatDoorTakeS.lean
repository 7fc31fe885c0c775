/- The reference's l9Take: a name is taken away from a directory. -/
import Derived.Test.YtkennmpbmbacpaaGreatDoorMF
import Derived.Test.YtkennmpbmbacpaaGreatDoorDropP
import Derived.Test.YtkennmpbmbacpaaGreatDoorHeldZ
set_option linter.unusedSimpArgs false
set_option linter.unusedVariables false
set_option linter.unusedSectionVars false
namespace Go.Proofs.YtkennmpbmbacpaaGreatDoor
open Go.RowKit

/-- The first k without number p. -/
def LN {α : Type} (l : List α) (p k : Nat) : List α := if k ≤ p then l.take k else (l.take k).eraseIdx p
section
variable {α : Type} {l : List α} {p k : Nat}
theorem LN_skip (h : p < l.length) : LN l p (p + 1) = LN l p p := by
  unfold LN
  rw [if_neg (by omega), if_pos (Nat.le_refl _), List.take_add_one, List.getElem?_eq_getElem h, Option.toList_some, List.eraseIdx_append_of_length_le (by rw [List.length_take]; omega), List.length_take, Nat.min_eq_left (by omega), Nat.sub_self, List.eraseIdx_cons_zero, List.append_nil]
theorem LN_next {y : α} (h : k ≠ p) (hk : l[k]? = some y) : LN l p (k + 1) = LN l p k ++ [y] := by
  have hkl := (List.getElem?_eq_some_iff.1 hk).1
  unfold LN
  rw [List.take_add_one, hk, Option.toList_some]
  by_cases c : k < p
  · rw [if_pos (by omega), if_pos (by omega)]
  · rw [if_neg (by omega), if_neg (by omega), List.eraseIdx_append_of_lt_length (by rw [List.length_take]; omega)]
theorem LN_end (h : p < l.length) : LN l p l.length = l.eraseIdx p := by
  unfold LN
  rw [if_neg (by omega), List.take_length]
theorem LN_le (l : List α) (p k : Nat) : (LN l p k).length ≤ l.length := by
  unfold LN
  split
  · rw [List.length_take]; omega
  · have h := List.length_eraseIdx_le (l.take k) p
    rw [List.length_take] at h; omega
end
def SomeV (v : Value) : Prop := ∃ g n c, v = .slice (some ⟨g, 0, none⟩) n c
set_option maxRecDepth 100000 in
set_option maxHeartbeats 2000000 in
theorem takeS_of (nA : Option Addr) (nC : Nat) (kA : Option Addr) (kC : Nat) (x : Nd) (s : List UInt8) (w : World) (h : NdS w nA nC kA kC x) (hl : x.ns.length = x.ks.length) (hb : x.ns.length ≤ 1000000) (hA : Asc x) (hs : s ∈ x.ns) :
    Calls Tryz.prog 46 #[.agg #[.bool x.fo, .int .i64 x.ow, .int .i64 x.gr, .int .i64 x.mo, .string x.tx, .slice nA x.ns.length nC, .slice kA x.ks.length kC], .string (mk s)] w fun e w' =>
      ∃ A1 c1 A2 c2, (∃ g, A1 = some ⟨g, 0, none⟩) ∧ (∃ g, A2 = some ⟨g, 0, none⟩) ∧ e = .returned (.agg #[.bool x.fo, .int .i64 x.ow, .int .i64 x.gr, .int .i64 x.mo, .string x.tx, .slice A1 (delAt x (putAt x s)).ns.length c1, .slice A2 (delAt x (putAt x s)).ks.length c2]) ∧
        OwnG EL 9 w.heap.size w' (.slice A1 (delAt x (putAt x s)).ns.length c1) (delAt x (putAt x s)).ns ∧ OwnG EI 3 w.heap.size w' (.slice A2 (delAt x (putAt x s)).ks.length c2) (delAt x (putAt x s)).ks ∧ Below w.heap.size w w' := by
  have H := Lib.hid h
  have hc1 := h.ns.caps
  have hc2 := h.ks.caps
  obtain ⟨hp1, hp2⟩ := put_there hA hs
  have hother : ∀ k, k < x.ns.length → k ≠ putAt x s → nthN x k ≠ s := fun k hk hne e => by
    rcases Nat.lt_or_gt_of_ne hne with c | c
    · have := putAt_lt c
      rw [e, ltL_irr] at this; cases this
    · have := asc_lt hA c hk
      rw [hp2, e, ltL_irr] at this; cases this
  obtain ⟨p, hpp⟩ : ∃ p, p = putAt x s := ⟨_, rfl⟩
  rw [← hpp] at hp1 hp2 hother ⊢
  have hpk : p < x.ks.length := by omega
  have hkb : x.ks.length ≤ 1000000 := by omega
  have Hl := Lib.hid hl
  have Hp2 := Lib.hid hp2
  have Hother := Lib.hid hother
  clear h hl hA hs hpp hp2 hother
  go_enter Tryz.func46, Tryz.ntmps46
  go_wp2
  obtain ⟨g2, hg2⟩ : ∃ g, g = w.heap.size + 1 + 1 := ⟨_, rfl⟩
  simp only [← hg2]
  obtain ⟨g1, hg1⟩ : ∃ g, g = w.heap.size + 1 := ⟨_, rfl⟩
  simp only [← hg1]
  obtain ⟨B, hB⟩ : ∃ B, B = g2 + 1 := ⟨_, rfl⟩
  have h01 : w.heap.size < g1 := by omega
  have h12 : g1 < g2 := by omega
  have h2B : g2 < B := by omega
  have hwB : B = w.heap.size + 3 := by omega
  have Hg1 := Lib.hid hg1
  have Hg2 := Lib.hid hg2
  have HwB := Lib.hid hwB
  clear hg1 hg2 hwB hB
  go_loopw [6] (fun i wr => ∃ (k : Nat) (v5 v6 : Value), SomeV v5 ∧ SomeV v6 ∧ k ≤ x.ns.length ∧ i = .int .i64 k ∧ B ≤ wr.heap.size ∧ BoxN wr w.heap.size x (.slice nA x.ns.length nC) (.slice kA x.ks.length kC) ∧ BoxN wr (g1) (newNd false 0 0 0) (.slice none 0 0) (.slice none 0 0) ∧ BoxN wr (g2) x v5 v6 ∧
    OwnG EL 9 B wr v5 (LN x.ns p k) ∧ OwnG EI 3 B wr v6 (LN x.ks p k) ∧ Below w.heap.size w wr) (fun i _ => x.ns.length - (intOf i).toNat)
  case atStart =>
    refine ⟨0, _, _, ⟨_, _, _, rfl⟩, ⟨_, _, _, rfl⟩, Nat.zero_le _, rfl, (by have := HwB.out; simp; omega), BoxN.alloc (BoxN.alloc (BoxN.alloc (BoxN.alloc (BoxN.made' rfl)))), BoxN.alloc (BoxN.alloc (BoxN.alloc (BoxN.made' (x := newNd false 0 0 0) (by rw [Hg1.out]; simp)))), BoxN.alloc (BoxN.alloc (BoxN.made' (by rw [Hg2.out]; simp))), ?_, ?_, (by (repeat (first | exact Below.refl _ _ | exact Hbl.out | refine Below.ext ?_ (by first | omega | (simp; omega) | simp) | refine Below.setCell ?_ (by first | omega | (simp; omega) | simp) _ | refine Below.alloc ?_ (by first | omega | (simp; omega) | simp) _ | refine Below.drew ?_ | refine below_drewN ?_ _ | refine Below.step (by assumption) (by first | omega | (simp; omega) | simp) ?_)))⟩
    · rw [show LN x.ns p 0 = [] by simp [LN]]
      exact ownG_alloc (ownG_empty _ (by have := Hg2.out; simp; omega) (by have := HwB.out; simp; omega)) _
    · rw [show LN x.ks p 0 = [] by simp [LN]]
      exact ownG_empty _ (by have := Hg2.out; simp; omega) (by have := HwB.out; simp; omega)
  case round =>
    obtain ⟨k, v5, v6, sv5, sv6, hk, rfl, hBw, N, Z, O, o5, o6, b5⟩ := hrel
    by_cases hlt : k < x.ns.length
    · have hlt' : (k : Int) < (x.ns.length : Int) := by omega
      have hltk : k < x.ks.length := by have := Hl.out; omega
      have hltk' : (k : Int) < (x.ks.length : Int) := by omega
      obtain ⟨bn, on, rfl, hbn, qn⟩ := H.out.ns.at_ (nthN_at hlt)
      obtain ⟨bk, ok, rfl, hbk, qk⟩ := H.out.ks.at_ (nthK_at hltk)
      have e1 : wr.cell? ⟨bn, on + k, none⟩ = some (.string (mk (nthN x k))) := by have := qn 0 _ rfl; rw [show EL.z = 1 from rfl, Nat.mul_one, Nat.add_zero] at this; exact (b5.cell (p := ⟨bn, on + k, none⟩) hbn).trans this
      have e2 : wr.cell? ⟨bk, ok + k, none⟩ = some (.int .i64 (nthK x k)) := by have := qk 0 _ rfl; rw [show EI.z = 1 from rfl, Nat.mul_one, Nat.add_zero] at this; exact (b5.cell (p := ⟨bk, ok + k, none⟩) hbk).trans this
      have n5 := N.c5
      have n6 := N.c6
      have p5 := O.c5
      have p6 := O.c6
      have hN := Lib.hid N
      have hZ := Lib.hid Z
      have hO := Lib.hid O
      have HO5 := Lib.hid o5
      have HO6 := Lib.hid o6
      have HB5 := Lib.hid b5
      have hbn' : bn < wr.heap.size := Nat.lt_of_lt_of_le hbn b5.size
      have hbk' : bk < wr.heap.size := Nat.lt_of_lt_of_le hbk b5.size
      have hbnB : bn < B := by have := HwB.out; omega
      have hbkB : bk < B := by have := HwB.out; omega
      have hg0 : w.heap.size < wr.heap.size := N.lt
      have hBn : w.heap.size < B := by omega
      have hg2 : g2 < wr.heap.size := O.lt
      have zk : IntKind.i64.wrap ((k : Int) + 1) = (k : Int) + 1 := IntWalk.i64_in _ (by omega)
      clear qn qk N Z O o5 o6 b5
      by_cases hkp : k = p
      · subst hkp
        have hcmp : ((mk (nthN x k)).toList == (mk s).toList) = true := by rw [Hp2.out]; simp
        have hcmp2 : (mk (nthN x k)).toList = (mk s).toList := by rw [Hp2.out]
        go_wp2
        go_roundw
        case rel => exact ⟨k + 1, v5, v6, sv5, sv6, hlt, by go_num, hBw, hN.out, hZ.out, hO.out, by rw [LN_skip hlt]; exact HO5.out, by rw [LN_skip hltk]; exact HO6.out, HB5.out⟩
        case measure => simp [intOf]; omega
      · have hne := Hother.out k hlt hkp
        have hcmp : ((mk (nthN x k)).toList == (mk s).toList) = false := by rw [mk_toList, mk_toList]; exact beq_eq_false_iff_ne.2 hne
        have hcmp2 : ¬ (mk (nthN x k)).toList = (mk s).toList := by rw [mk_toList, mk_toList]; exact hne
        have HkL := Lib.hid (LN_next (p := p) hkp (nthN_at hlt))
        have HkK := Lib.hid (LN_next (p := p) hkp (nthK_at hltk))
        have hll := LN_le x.ns p k
        have hlk := LN_le x.ks p k
        have Hkp := Lib.hid hkp
        clear hne hkp
        go_wp2_with fail
        refine wp_region_Z (fun w' => w'.cell? ⟨w.heap.size, 5, none⟩ = some (.slice (some ⟨bn, on, none⟩) x.ns.length nC) ∧ w'.cell? ⟨g2, 5, none⟩ = some v5 ∧ w'.cell? ⟨bn, on + k, none⟩ = some (.string (mk (nthN x k)))) 10 (by kernel_rfl) ?_ (fun hHeld => ?_)
        · (try dsimp only)
          first | exact ⟨by assumption, by assumption, by assumption⟩ | (go_simp; done) | (refine ⟨?_, ?_, ?_⟩ <;> (first | assumption | (go_simp; done)))
        refine zkP (i := 0) (v := ?_) rfl (by kernel_rfl) (by kernel_rfl) (fun _ _ _ h => h) rfl ?_ (by assumption) ?_; rotate_left; (focus (intro w; go_simp; try with_reducible rfl))
        try simp only [Act.put, List.getElem_toArray, List.getElem_cons_succ, List.getElem_cons_zero, List.setIfInBounds_toArray, List.set_cons_zero, List.set_cons_succ]
        refine zkL (i := 1) (v := ?_) rfl (by kernel_rfl) (by kernel_rfl) (fun _ _ _ h => h) (by kernel_rfl) ?_ (by assumption) ?_; rotate_left; (focus (intro w hSw; (try dsimp only at hSw); go_simp; try with_reducible rfl))
        try simp only [Act.put, List.getElem_toArray, List.getElem_cons_succ, List.getElem_cons_zero, List.setIfInBounds_toArray, List.set_cons_zero, List.set_cons_succ]
        refine zkP (i := 2) (v := ?_) rfl (by kernel_rfl) (by kernel_rfl) (fun _ _ _ h => h) rfl ?_ (by assumption) ?_; rotate_left; (focus (intro w; go_simp; try with_reducible rfl))
        try simp only [Act.put, List.getElem_toArray, List.getElem_cons_succ, List.getElem_cons_zero, List.setIfInBounds_toArray, List.set_cons_zero, List.set_cons_succ]
        refine zkL (i := 3) (v := ?_) rfl (by kernel_rfl) (by kernel_rfl) (fun _ _ _ h => h) (by kernel_rfl) ?_ (by assumption) ?_; rotate_left; (focus (intro w hSw; (try dsimp only at hSw); go_simp; try with_reducible rfl))
        try simp only [Act.put, List.getElem_toArray, List.getElem_cons_succ, List.getElem_cons_zero, List.setIfInBounds_toArray, List.set_cons_zero, List.set_cons_succ]
        refine zkP (i := 4) (v := ?_) rfl (by kernel_rfl) (by kernel_rfl) (fun _ _ _ h => h) rfl ?_ (by assumption) ?_; rotate_left; (focus (intro w; go_simp; try with_reducible rfl))
        try simp only [Act.put, List.getElem_toArray, List.getElem_cons_succ, List.getElem_cons_zero, List.setIfInBounds_toArray, List.set_cons_zero, List.set_cons_succ]
        refine zkP (i := 5) (v := ?_) rfl (by kernel_rfl) (by kernel_rfl) (fun _ _ _ h => h) rfl ?_ (by assumption) ?_; rotate_left; (focus (intro w; go_simp; try with_reducible rfl))
        try simp only [Act.put, List.getElem_toArray, List.getElem_cons_succ, List.getElem_cons_zero, List.setIfInBounds_toArray, List.set_cons_zero, List.set_cons_succ]
        refine zkL (i := 6) (v := ?_) rfl (by kernel_rfl) (by kernel_rfl) (fun _ _ _ h => h) (by kernel_rfl) ?_ (by assumption) ?_; rotate_left; (focus (intro w hSw; (try dsimp only at hSw); go_simp; try with_reducible rfl))
        try simp only [Act.put, List.getElem_toArray, List.getElem_cons_succ, List.getElem_cons_zero, List.setIfInBounds_toArray, List.set_cons_zero, List.set_cons_succ]
        refine wpAnyZ_ready (rs := [7]) (by kernel_rfl) (by simp) ?_
        refine AllReadyZ.keep rfl (fun K hK => ?_) (AllReadyZ.nil)
        go_simp
        refine hK.out _ _ ?_ (fun hHeld => ?_)
        · (try dsimp only)
          first | exact ⟨by assumption, by assumption, by assumption⟩ | (go_simp; done) | (refine ⟨?_, ?_, ?_⟩ <;> (first | assumption | (go_simp; done)))
        clear hK K
        try simp only [Act.put, List.getElem_toArray, List.getElem_cons_succ, List.getElem_cons_zero, List.setIfInBounds_toArray, List.set_cons_zero, List.set_cons_succ]
        refine wpAnyZ_ready (rs := [8]) (by kernel_rfl) (by simp) ?_
        refine AllReadyZ.keep rfl (fun K hK => ?_) (AllReadyZ.nil)
        refine step_appG fitEL _ rfl (.tmp 27) (.tmp 33) rfl B v5 (LN x.ns p k) rfl ?_ _ [nthN x k] rfl ?_ ?_ ?_ ?_
        · exact ownG_alloc HO5.out _
        · refine slG_one (by simp) ?_
          intro j u hu
          rcases j with _ | j <;> simp [EL] at hu
          subst hu
          go_simp
        · simp; omega
        · first | omega | (simp; omega)
        rintro v9 w9 ha9 hb9
        obtain ⟨ga, na, ca, esv⟩ := sv5
        obtain ⟨A9, c9, e9, hA9⟩ := appG_some (by rw [esv] at ha9; exact ha9)
        rw [List.length_append, show [nthN x k].length = 1 from rfl] at e9
        subst e9
        have k1 : w9.cell? ⟨w.heap.size, 5, none⟩ = some (.slice (some ⟨bn, on, none⟩) x.ns.length nC) := (hb9.cell (p := ⟨w.heap.size, 5, none⟩) (show w.heap.size < B by omega)).trans (by go_simp)
        have k2 : w9.cell? ⟨g2, 5, none⟩ = some v5 := (hb9.cell (p := ⟨g2, 5, none⟩) (show g2 < B by omega)).trans (by go_simp)
        have k3 : w9.cell? ⟨bn, on + k, none⟩ = some (.string (mk (nthN x k))) := (hb9.cell (p := ⟨bn, on + k, none⟩) (by first | exact hbnB | exact hbkB)).trans (by go_simp)
        have k4 : w9.frozen? ⟨g2, 5, none⟩ = false := (hb9.frozen (p := ⟨g2, 5, none⟩) (show g2 < B by omega)).trans (by have := hO.out.f 5; go_simp)
        have hz9 := hb9.size
        refine hK.out _ _ ?_ (fun hHeld => ?_)
        · (try dsimp only)
          first | exact ⟨by assumption, by assumption, by assumption⟩ | (go_simp; done) | (refine ⟨?_, ?_, ?_⟩ <;> (first | assumption | (go_simp; done)))
        clear hK K
        try simp only [Act.put, List.getElem_toArray, List.getElem_cons_succ, List.getElem_cons_zero, List.setIfInBounds_toArray, List.set_cons_zero, List.set_cons_succ]
        refine zkP (i := 9) (v := ?_) rfl (by kernel_rfl) (by kernel_rfl) (fun _ _ _ h => h) rfl ?_ (by assumption) ?_; rotate_left; (focus (intro w; go_simp; try with_reducible rfl))
        try simp only [Act.put, List.getElem_toArray, List.getElem_cons_succ, List.getElem_cons_zero, List.setIfInBounds_toArray, List.set_cons_zero, List.set_cons_succ]
        refine wpAnyZ_ready (rs := [10]) (by kernel_rfl) (by simp) ?_
        refine AllReadyZ.last rfl (by kernel_rfl) (fun K hK => ?_) (AllReadyZ.nil)
        go_simp
        refine hK.out _ _ ?_
        clear hK K
        try simp only [Act.put, List.getElem_toArray, List.getElem_cons_succ, List.getElem_cons_zero, List.setIfInBounds_toArray, List.set_cons_zero, List.set_cons_succ]
        refine wpAnyZ_done (by kernel_rfl) ?_ _
        have bA : Below B wr (wr.alloc (.cells #[.string (mk (nthN x k))] 9)) := (Below.alloc (Below.refl _ _) (Nat.le_refl _) _ : Below wr.heap.size wr _).mono hBw
        have b49 := Below.trans (Below.drew bA) hb9
        have O9 := (hO.out.below b49 (by omega)).set5 (z := (.slice A9 ((LN x.ns p k).length + 1) c9))
        have N9 := (hN.out.below b49 (by omega)).other (g' := g2) (i := 5) (z := (.slice A9 ((LN x.ns p k).length + 1) c9)) (by omega)
        have Z9 := (hZ.out.below b49 (by omega)).other (g' := g2) (i := 5) (z := (.slice A9 ((LN x.ns p k).length + 1) c9)) (by omega)
        have q5 := ownG_set (g := g2) (i := 5) (u := (.slice A9 ((LN x.ns p k).length + 1) c9)) ha9.1 (fun j hj => by have := (ownG_block ha9.1 j hj).1; omega)
        have q6' := ownG_kept (ownG_below (ownG_alloc HO6.out (.cells #[.string (mk (nthN x k))] 9)) (Below.drew (Below.refl _ _))) ha9.2.1 (ownG_type (ownG_below (ownG_alloc HO6.out (.cells #[.string (mk (nthN x k))] 9)) (Below.drew (Below.refl _ _))) (ownG_below (ownG_alloc HO5.out (.cells #[.string (mk (nthN x k))] 9)) (Below.drew (Below.refl _ _))) (by decide))
        have q6 := ownG_set (g := g2) (i := 5) (u := (.slice A9 ((LN x.ns p k).length + 1) c9)) q6' (fun j hj => by have := (ownG_block q6' j hj).1; omega)
        have hw9 : Below w.heap.size w (w9.setCell ⟨g2, 5, none⟩ (.slice A9 ((LN x.ns p k).length + 1) c9)) := Below.setCell (Below.trans HB5.out (Below.mono b49 (by omega))) (Nat.le_of_lt (Nat.lt_trans h01 h12)) _
        have e29 : (w9.setCell ⟨g2, 5, none⟩ (.slice A9 ((LN x.ns p k).length + 1) c9)).cell? ⟨bk, ok + k, none⟩ = some (.int .i64 (nthK x k)) := (World.cell?_setCell_other _ _ _ _ (fun e => by injection e with e1; omega)).trans ((b49.cell (p := ⟨bk, ok + k, none⟩) hbkB).trans e2)
        have hz9' : (w9.setCell ⟨g2, 5, none⟩ (.slice A9 ((LN x.ns p k).length + 1) c9)).heap.size = w9.heap.size := by simp
        replace q5 : OwnG EL 9 B (w9.setCell ⟨g2, 5, none⟩ (.slice A9 ((LN x.ns p k).length + 1) c9)) (.slice A9 ((LN x.ns p k).length + 1) c9) (LN x.ns p (k + 1)) := by rw [HkL.out]; exact q5
        clear k1 k2 k3 k4 ha9 hb9 bA b49 q6' e1 e2 n5 n6 p5 p6 hN hZ hO HO5 HO6 HB5
        have hBw9 : B ≤ (w9.setCell ⟨g2, 5, none⟩ (.slice A9 ((LN x.ns p k).length + 1) c9)).heap.size := by have : B ≤ w9.heap.size := Nat.le_trans (Nat.le_trans hBw (by simp)) hz9; omega
        clear hz9 hz9' hbn' hbk' hg0 hg2 hBw
        generalize w9.setCell ⟨g2, 5, none⟩ (.slice A9 ((LN x.ns p k).length + 1) c9) = wr at O9 N9 Z9 q5 q6 hw9 e29 hBw9 ⊢
        have n6 := N9.c6
        have p6 := O9.c6
        have hN := Lib.hid N9
        have hZ := Lib.hid Z9
        have hO := Lib.hid O9
        have HO5 := Lib.hid q5
        have HO6 := Lib.hid q6
        have HB5 := Lib.hid hw9
        have hbk' : bk < wr.heap.size := Nat.lt_of_lt_of_le hbk hw9.size
        have hg0 : w.heap.size < wr.heap.size := N9.lt
        have hg2 : g2 < wr.heap.size := O9.lt
        clear O9 N9 Z9 q5 q6 hw9
        go_upto_region 9 with fail
        refine wp_region_Z (fun w' => w'.cell? ⟨w.heap.size, 6, none⟩ = some (.slice (some ⟨bk, ok, none⟩) x.ks.length kC) ∧ w'.cell? ⟨g2, 6, none⟩ = some v6 ∧ w'.cell? ⟨bk, ok + k, none⟩ = some (.int .i64 (nthK x k))) 10 (by kernel_rfl) ?_ (fun hHeld => ?_)
        · (try dsimp only)
          first | exact ⟨by assumption, by assumption, by assumption⟩ | (go_simp; done) | (refine ⟨?_, ?_, ?_⟩ <;> (first | assumption | (go_simp; done)))
        refine zkP (i := 0) (v := ?_) rfl (by kernel_rfl) (by kernel_rfl) (fun _ _ _ h => h) rfl ?_ (by assumption) ?_; rotate_left; (focus (intro w; go_simp; try with_reducible rfl))
        try simp only [Act.put, List.getElem_toArray, List.getElem_cons_succ, List.getElem_cons_zero, List.setIfInBounds_toArray, List.set_cons_zero, List.set_cons_succ]
        refine zkL (i := 1) (v := ?_) rfl (by kernel_rfl) (by kernel_rfl) (fun _ _ _ h => h) (by kernel_rfl) ?_ (by assumption) ?_; rotate_left; (focus (intro w hSw; (try dsimp only at hSw); go_simp; try with_reducible rfl))
        try simp only [Act.put, List.getElem_toArray, List.getElem_cons_succ, List.getElem_cons_zero, List.setIfInBounds_toArray, List.set_cons_zero, List.set_cons_succ]
        refine zkP (i := 2) (v := ?_) rfl (by kernel_rfl) (by kernel_rfl) (fun _ _ _ h => h) rfl ?_ (by assumption) ?_; rotate_left; (focus (intro w; go_simp; try with_reducible rfl))
        try simp only [Act.put, List.getElem_toArray, List.getElem_cons_succ, List.getElem_cons_zero, List.setIfInBounds_toArray, List.set_cons_zero, List.set_cons_succ]
        refine zkL (i := 3) (v := ?_) rfl (by kernel_rfl) (by kernel_rfl) (fun _ _ _ h => h) (by kernel_rfl) ?_ (by assumption) ?_; rotate_left; (focus (intro w hSw; (try dsimp only at hSw); go_simp; try with_reducible rfl))
        try simp only [Act.put, List.getElem_toArray, List.getElem_cons_succ, List.getElem_cons_zero, List.setIfInBounds_toArray, List.set_cons_zero, List.set_cons_succ]
        refine zkP (i := 4) (v := ?_) rfl (by kernel_rfl) (by kernel_rfl) (fun _ _ _ h => h) rfl ?_ (by assumption) ?_; rotate_left; (focus (intro w; go_simp; try with_reducible rfl))
        try simp only [Act.put, List.getElem_toArray, List.getElem_cons_succ, List.getElem_cons_zero, List.setIfInBounds_toArray, List.set_cons_zero, List.set_cons_succ]
        refine zkP (i := 5) (v := ?_) rfl (by kernel_rfl) (by kernel_rfl) (fun _ _ _ h => h) rfl ?_ (by assumption) ?_; rotate_left; (focus (intro w; go_simp; try with_reducible rfl))
        try simp only [Act.put, List.getElem_toArray, List.getElem_cons_succ, List.getElem_cons_zero, List.setIfInBounds_toArray, List.set_cons_zero, List.set_cons_succ]
        refine zkL (i := 6) (v := ?_) rfl (by kernel_rfl) (by kernel_rfl) (fun _ _ _ h => h) (by kernel_rfl) ?_ (by assumption) ?_; rotate_left; (focus (intro w hSw; (try dsimp only at hSw); go_simp; try with_reducible rfl))
        try simp only [Act.put, List.getElem_toArray, List.getElem_cons_succ, List.getElem_cons_zero, List.setIfInBounds_toArray, List.set_cons_zero, List.set_cons_succ]
        refine wpAnyZ_ready (rs := [7]) (by kernel_rfl) (by simp) ?_
        refine AllReadyZ.keep rfl (fun K hK => ?_) (AllReadyZ.nil)
        go_simp
        refine hK.out _ _ ?_ (fun hHeld => ?_)
        · (try dsimp only)
          first | exact ⟨by assumption, by assumption, by assumption⟩ | (go_simp; done) | (refine ⟨?_, ?_, ?_⟩ <;> (first | assumption | (go_simp; done)))
        clear hK K
        try simp only [Act.put, List.getElem_toArray, List.getElem_cons_succ, List.getElem_cons_zero, List.setIfInBounds_toArray, List.set_cons_zero, List.set_cons_succ]
        refine wpAnyZ_ready (rs := [8]) (by kernel_rfl) (by simp) ?_
        refine AllReadyZ.keep rfl (fun K hK => ?_) (AllReadyZ.nil)
        refine step_appG fitEI _ rfl (.tmp 37) (.tmp 43) rfl B v6 (LN x.ks p k) rfl ?_ _ [nthK x k] rfl ?_ ?_ ?_ ?_
        · exact ownG_alloc HO6.out _
        · refine slG_one (by simp) ?_
          intro j u hu
          rcases j with _ | j <;> simp [EI] at hu
          subst hu
          go_simp
        · simp; omega
        · first | omega | (simp; omega)
        rintro v9 w9 ha9 hb9
        obtain ⟨gb, nb, cb, esw⟩ := sv6
        obtain ⟨A9, c9, e9, hA0⟩ := appG_some (by rw [esw] at ha9; exact ha9)
        rw [List.length_append, show [nthK x k].length = 1 from rfl] at e9
        subst e9
        have k1 : w9.cell? ⟨w.heap.size, 6, none⟩ = some (.slice (some ⟨bk, ok, none⟩) x.ks.length kC) := (hb9.cell (p := ⟨w.heap.size, 6, none⟩) (show w.heap.size < B by omega)).trans (by go_simp)
        have k2 : w9.cell? ⟨g2, 6, none⟩ = some v6 := (hb9.cell (p := ⟨g2, 6, none⟩) (show g2 < B by omega)).trans (by go_simp)
        have k3 : w9.cell? ⟨bk, ok + k, none⟩ = some (.int .i64 (nthK x k)) := (hb9.cell (p := ⟨bk, ok + k, none⟩) (by first | exact hbnB | exact hbkB)).trans (by go_simp)
        have k4 : w9.frozen? ⟨g2, 6, none⟩ = false := (hb9.frozen (p := ⟨g2, 6, none⟩) (show g2 < B by omega)).trans (by have := hO.out.f 6; go_simp)
        have hz9 := hb9.size
        refine hK.out _ _ ?_ (fun hHeld => ?_)
        · (try dsimp only)
          first | exact ⟨by assumption, by assumption, by assumption⟩ | (go_simp; done) | (refine ⟨?_, ?_, ?_⟩ <;> (first | assumption | (go_simp; done)))
        clear hK K
        try simp only [Act.put, List.getElem_toArray, List.getElem_cons_succ, List.getElem_cons_zero, List.setIfInBounds_toArray, List.set_cons_zero, List.set_cons_succ]
        refine zkP (i := 9) (v := ?_) rfl (by kernel_rfl) (by kernel_rfl) (fun _ _ _ h => h) rfl ?_ (by assumption) ?_; rotate_left; (focus (intro w; go_simp; try with_reducible rfl))
        try simp only [Act.put, List.getElem_toArray, List.getElem_cons_succ, List.getElem_cons_zero, List.setIfInBounds_toArray, List.set_cons_zero, List.set_cons_succ]
        refine wpAnyZ_ready (rs := [10]) (by kernel_rfl) (by simp) ?_
        refine AllReadyZ.last rfl (by kernel_rfl) (fun K hK => ?_) (AllReadyZ.nil)
        go_simp
        refine hK.out _ _ ?_
        clear hK K
        try simp only [Act.put, List.getElem_toArray, List.getElem_cons_succ, List.getElem_cons_zero, List.setIfInBounds_toArray, List.set_cons_zero, List.set_cons_succ]
        refine wpAnyZ_done (by kernel_rfl) ?_ _
        have bA : Below B wr (wr.alloc (.cells #[.int .i64 (nthK x k)] 3)) := (Below.alloc (Below.refl _ _) (Nat.le_refl _) _ : Below wr.heap.size wr _).mono hBw9
        have b49 := Below.trans (Below.drew bA) hb9
        have O9 := (hO.out.below b49 (by omega)).set6 (z := (.slice A9 ((LN x.ks p k).length + 1) c9))
        have N9 := (hN.out.below b49 (by omega)).other (g' := g2) (i := 6) (z := (.slice A9 ((LN x.ks p k).length + 1) c9)) (by omega)
        have Z9 := (hZ.out.below b49 (by omega)).other (g' := g2) (i := 6) (z := (.slice A9 ((LN x.ks p k).length + 1) c9)) (by omega)
        have q6 := ownG_set (g := g2) (i := 6) (u := (.slice A9 ((LN x.ks p k).length + 1) c9)) ha9.1 (fun j hj => by have := (ownG_block ha9.1 j hj).1; omega)
        have q5' := ownG_kept (ownG_below (ownG_alloc HO5.out (.cells #[.int .i64 (nthK x k)] 3)) (Below.drew (Below.refl _ _))) ha9.2.1 (ownG_type (ownG_below (ownG_alloc HO5.out (.cells #[.int .i64 (nthK x k)] 3)) (Below.drew (Below.refl _ _))) (ownG_below (ownG_alloc HO6.out (.cells #[.int .i64 (nthK x k)] 3)) (Below.drew (Below.refl _ _))) (by decide))
        have q5 := ownG_set (g := g2) (i := 6) (u := (.slice A9 ((LN x.ks p k).length + 1) c9)) q5' (fun j hj => by have := (ownG_block q5' j hj).1; omega)
        have hw9 : Below w.heap.size w (w9.setCell ⟨g2, 6, none⟩ (.slice A9 ((LN x.ks p k).length + 1) c9)) := Below.setCell (Below.trans HB5.out (Below.mono b49 (by omega))) (Nat.le_of_lt (Nat.lt_trans h01 h12)) _
        have hz9' : (w9.setCell ⟨g2, 6, none⟩ (.slice A9 ((LN x.ks p k).length + 1) c9)).heap.size = w9.heap.size := by simp
        replace q6 : OwnG EI 3 B (w9.setCell ⟨g2, 6, none⟩ (.slice A9 ((LN x.ks p k).length + 1) c9)) (.slice A9 ((LN x.ks p k).length + 1) c9) (LN x.ks p (k + 1)) := by rw [HkK.out]; exact q6
        have hBw0 : B ≤ (w9.setCell ⟨g2, 6, none⟩ (.slice A9 ((LN x.ks p k).length + 1) c9)).heap.size := by have : B ≤ w9.heap.size := Nat.le_trans (Nat.le_trans hBw9 (by simp)) hz9; omega
        clear k1 k2 k3 k4 ha9 hb9 bA b49 q5' e29 n6 p6 hN hZ hO HO5 HO6 HB5 hz9 hz9' hbk' hg0 hg2 hBw9
        generalize w9.setCell ⟨g2, 6, none⟩ (.slice A9 ((LN x.ks p k).length + 1) c9) = wr at O9 N9 Z9 q5 q6 hw9 hBw0 ⊢
        have hN := Lib.hid N9
        have hZ := Lib.hid Z9
        have hO := Lib.hid O9
        have HO5 := Lib.hid q5
        have HO6 := Lib.hid q6
        have HB5 := Lib.hid hw9
        clear O9 N9 Z9 q5 q6 hw9
        go_wp2
        go_roundw
        case rel => exact ⟨k + 1, _, _, (by obtain ⟨q, e⟩ := hA9.out; exact ⟨q, _, _, by rw [e]⟩), (by obtain ⟨q, e⟩ := hA0.out; exact ⟨q, _, _, by rw [e]⟩), hlt, by go_num, hBw0, hN.out, hZ.out, hO.out, HO5.out, HO6.out, HB5.out⟩
        case measure => simp [intOf]; omega
    · obtain rfl : k = x.ns.length := by omega
      have hkk : x.ns.length = x.ks.length := Hl.out
      rw [LN_end hp1] at o5
      rw [hkk, LN_end hpk] at o6
      obtain ⟨ga, na, ca, rfl⟩ := sv5
      obtain ⟨gb, nb, cb, rfl⟩ := sv6
      obtain ⟨A5, c5, e5⟩ := ownG_shape o5
      obtain ⟨A6, c6, e6⟩ := ownG_shape o6
      injection e5 with e51 e52 e53
      injection e6 with e61 e62 e63
      subst e51 e52 e53 e61 e62 e63
      have ZB := Lib.hid Z
      have Oe := Lib.hid o5
      have O3' := Lib.hid o6
      have T3' := Lib.hid b5
      obtain ⟨y0, y1, y2, y3, y4, y5, y6, yf, _⟩ := O
      obtain ⟨n0, n1, n2, n3, n4, n5, n6, nf, _⟩ := N
      obtain ⟨x0, x1, x2, x3, x4, x5, x6, xf, _⟩ := Z
      have f0 := xf 0
      have f1 := xf 1
      have f2 := xf 2
      have f3 := xf 3
      have f4 := xf 4
      have f5 := xf 5
      have f6 := xf 6
      clear xf yf nf hkk o5 o6 b5
      go_wp2
      have R8 := BoxN.full (x := x) (u' := .slice (some ⟨ga, 0, none⟩) (x.ns.eraseIdx p).length ca) (v' := .slice (some ⟨gb, 0, none⟩) (x.ks.eraseIdx p).length cb) ZB.out
      have E8 := ownG_full (g := g1) (x := x) (u' := .slice (some ⟨ga, 0, none⟩) (x.ns.eraseIdx p).length ca) (v' := .slice (some ⟨gb, 0, none⟩) (x.ks.eraseIdx p).length cb) Oe.out (fun j hj => by have := (ownG_block Oe.out j hj).1; omega)
      have F8 := ownG_full (g := g1) (x := x) (u' := .slice (some ⟨ga, 0, none⟩) (x.ns.eraseIdx p).length ca) (v' := .slice (some ⟨gb, 0, none⟩) (x.ks.eraseIdx p).length cb) O3'.out (fun j hj => by have := (ownG_block O3'.out j hj).1; omega)
      have T8 := below_full (g := g1) (x := x) (u' := .slice (some ⟨ga, 0, none⟩) (x.ns.eraseIdx p).length ca) (v' := .slice (some ⟨gb, 0, none⟩) (x.ks.eraseIdx p).length cb) T3'.out (by omega)
      generalize ((((((wr.setCell ⟨g1, 0, none⟩ (.bool x.fo)).setCell ⟨g1, 1, none⟩ (.int .i64 x.ow)).setCell ⟨g1, 2, none⟩ (.int .i64 x.gr)).setCell ⟨g1, 3, none⟩ (.int .i64 x.mo)).setCell ⟨g1, 4, none⟩ (.string x.tx)).setCell ⟨g1, 5, none⟩ (.slice (some ⟨ga, 0, none⟩) (x.ns.eraseIdx p).length ca)).setCell ⟨g1, 6, none⟩ (.slice (some ⟨gb, 0, none⟩) (x.ks.eraseIdx p).length cb) = w8 at R8 E8 F8 T8 ⊢
      obtain ⟨r0, r1, r2, r3, r4, r5, r6, rf, _⟩ := R8
      refine bodyPost_ret (v := .agg #[.bool x.fo, .int .i64 x.ow, .int .i64 x.gr, .int .i64 x.mo, .string x.tx, .slice (some ⟨ga, 0, none⟩) (x.ns.eraseIdx p).length ca, .slice (some ⟨gb, 0, none⟩) (x.ks.eraseIdx p).length cb]) ?_ rfl ⟨_, ca, _, cb, ⟨ga, rfl⟩, ⟨gb, rfl⟩, rfl, ownG_mono E8 (by omega), ownG_mono F8 (by omega), T8⟩
      simp only [results, Tryz.results46]
      go_simp
end Go.Proofs.YtkennmpbmbacpaaGreatDoor
