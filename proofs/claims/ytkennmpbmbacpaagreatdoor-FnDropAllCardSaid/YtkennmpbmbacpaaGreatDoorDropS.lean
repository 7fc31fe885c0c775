/- The reference's DropName. -/
import Derived.Test.YtkennmpbmbacpaaGreatDoorCleanS
import Derived.Test.YtkennmpbmbacpaaGreatDoorDropL
import Derived.Test.YtkennmpbmbacpaaGreatDoorMF
import Derived.Test.YtkennmpbmbacpaaGreatDoorMayDropS
set_option linter.unusedSimpArgs false
set_option linter.unusedVariables false
set_option linter.unusedSectionVars false
namespace Go.Proofs.YtkennmpbmbacpaaGreatDoor
open Go.RowKit

theorem ren_all {n : Nat} {l : List Int} (h : ∀ z ∈ l, z ≤ (n : Int)) : l.map (ren n) = l := by
  induction l with
  | nil => rfl
  | cons a r ih =>
    rw [List.map_cons, ih (fun z hz => h z (List.mem_cons_of_mem _ hz))]
    have := h a (List.mem_cons_self ..)
    unfold ren
    rw [if_neg (by omega)]
theorem clean_none {t : List Nd} (h : ∀ i j, i < t.length → j < (kth t i).ks.length → nthK (kth t i) j ≤ (t.length : Int)) : cleanT t t.length = t := by
  unfold cleanT
  rw [List.eraseIdx_of_length_le (Nat.le_refl _)]
  apply List.ext_getElem?
  intro i
  rw [List.getElem?_map]
  by_cases hi : i < t.length
  · rw [kth_at hi]
    show some (renN t.length (kth t i)) = _
    unfold renN
    rw [ren_all (fun z hz => by
      obtain ⟨j, hj, e⟩ := List.mem_iff_getElem.1 hz
      have e2 : nthK (kth t i) j = z := by
        have := nthK_at hj
        rw [List.getElem?_eq_getElem hj] at this
        injection this with this
        rw [← this, e]
      rw [← e2]; exact h i j hi hj)]
  · rw [List.getElem?_eq_none (by omega)]; rfl
/-- What l9Clean makes of a tree that a name was taken away from. -/
theorem drop_clean {t : List Nd} {m k : Nat} {s : List UInt8} (hv : treeB t = true) (hm : m < t.length) (hs : s ∈ (kth t m).ns) (hk : kidF (kth t m) s = (k : Int)) (hk1 : 1 ≤ k) (hkl : k < t.length) :
    ∃ p, cleanT (takeT t m s) p = dropT t m s k ∧ ∀ i, i < t.length → ((i = 0 ∨ 0 < lnk (takeT t m s) i) ↔ i ≠ p) := by
  have hnm : ∀ i, i < t.length → i = 0 ∨ 1 ≤ lnk t i := fun i hi => (named_iff.1 ((tree_all hv).2.2.2 i hi)).imp id (fun h => h.1)
  have htl := fun i => take_lnk hv hm hs i
  have hoth : ∀ i, i < t.length → i ≠ k → i = 0 ∨ 0 < lnk (takeT t m s) i := fun i hi hne => by
    have h1 := htl i
    rw [if_neg (by rw [hk]; omega)] at h1
    rcases hnm i hi with h | h
    · exact .inl h
    · exact .inr (by omega)
  by_cases h0 : 0 < lnk (takeT t m s) k
  · refine ⟨(takeT t m s).length, ?_, fun i hi => ⟨fun _ => by rw [take_len]; omega, fun _ => ?_⟩⟩
    · rw [clean_none (fun i j hi hj => by
        rw [take_len] at hi
        have := (node_kids (take_nodes hv hm hs hi)).2 j hj
        rw [take_len]; omega)]
      exact (if_pos h0).symm
    · by_cases hik : i = k
      · subst hik; exact .inr h0
      · exact hoth i hi hik
  · refine ⟨k, (if_neg h0).symm, fun i hi => ⟨fun h e => ?_, fun h => hoth i hi h⟩⟩
    subst e
    rcases h with h | h
    · omega
    · exact h0 h
set_option maxRecDepth 100000 in
set_option maxHeartbeats 2000000 in
theorem dropNS_of (v : Value) (t : List Nd) (a b c d : Int) (p : List UInt8) (w : World) (h : TreeR w v t) (ht : t.length ≤ 1000) (hkz : (kidsOf t).length ≤ 1000000) (hp : p.length ≤ 1048576) :
    Calls Tryz.prog 12 #[v, .agg #[.int .i64 a, .int .i64 b, .int .i64 c, .int .i64 d], .string (mk p)] w fun e w' => ∃ v', e = .returned (.tuple #[v', .int .i64 (dropF t a b c d p).2]) ∧ TreeO w.heap.size w' v' (dropF t a b c d p).1 ∧ Below w.heap.size w w' := by
  have hD := fun w h => dropS_of v t a b c d (mk p) w h ht hkz (by rw [mk_size]; exact hp)
  rw [mk_data] at hD
  have hF := fun w h => findS_mk v t a b c d (aboveF p) w h ht hkz (by have := aboveF_len p; omega)
  have hA1 := fun w => aboveS_of (mk p) w (by rw [mk_size]; exact hp)
  rw [mk_data] at hA1
  unfold AbvGot at hA1
  have hC := fun w h hf => copyS_of v t w h ht hf
  have hdp := @drop_parts t a b c d p
  have hno := @drop_no t a b c d p
  obtain ⟨R, hR⟩ : ∃ R, R = dropF t a b c d p := ⟨_, rfl⟩
  rw [← hR] at hdp hno ⊢
  generalize dropOf t a b c d p false = D at hD hdp hno
  generalize findF t a b c d (aboveF p) = F at hF hdp
  have H := Lib.hid h
  have HD := Lib.hid hD
  have HA1 := Lib.hid hA1
  have HC := Lib.hid hC
  obtain ⟨A, cap, rfl⟩ := h.shape
  have hcap := h.caps
  clear h hD hA1 hC hR
  go_enter Tryz.func12, Tryz.ntmps12
  go_wp2_with fail
  refine (HD.out _ (H.out.below (by (repeat (first | exact Below.refl _ _ | exact Hbl.out | refine Below.ext ?_ (by first | omega | (simp; omega) | simp) | refine Below.setCell ?_ (by first | omega | (simp; omega) | simp) _ | refine Below.alloc ?_ (by first | omega | (simp; omega) | simp) _ | refine Below.drew ?_ | refine below_drewN ?_ _ | refine Below.step (by assumption) (by first | omega | (simp; omega) | simp) ?_))))).mono ?_
  rintro e w1 ⟨rfl, b1⟩
  have q0 : w1.cell? ⟨w.heap.size, 0, none⟩ = some (.int .i64 a) := (b1.cell (p := ⟨w.heap.size, 0, none⟩) (by first | (simp; done) | (simp; omega) | omega)).trans (by first | assumption | go_simp)
  have q1 : w1.cell? ⟨w.heap.size, 1, none⟩ = some (.int .i64 b) := (b1.cell (p := ⟨w.heap.size, 1, none⟩) (by first | (simp; done) | (simp; omega) | omega)).trans (by first | assumption | go_simp)
  have q2 : w1.cell? ⟨w.heap.size, 2, none⟩ = some (.int .i64 c) := (b1.cell (p := ⟨w.heap.size, 2, none⟩) (by first | (simp; done) | (simp; omega) | omega)).trans (by first | assumption | go_simp)
  have q3 : w1.cell? ⟨w.heap.size, 3, none⟩ = some (.int .i64 d) := (b1.cell (p := ⟨w.heap.size, 3, none⟩) (by first | (simp; done) | (simp; omega) | omega)).trans (by first | assumption | go_simp)
  have hzw : w.heap.size < w1.heap.size := by have := b1.size; simp at this; omega
  have B1 := Lib.hid (Below.step b1 (by simp) (show Below w.heap.size w _ from (by (repeat (first | exact Below.refl _ _ | exact Hbl.out | refine Below.ext ?_ (by first | omega | (simp; omega) | simp) | refine Below.setCell ?_ (by first | omega | (simp; omega) | simp) _ | refine Below.alloc ?_ (by first | omega | (simp; omega) | simp) _ | refine Below.drew ?_ | refine below_drewN ?_ _ | refine Below.step (by assumption) (by first | omega | (simp; omega) | simp) ?_)))))
  clear b1 HD
  by_cases hd0 : D = 0
  · subst hd0
    obtain ⟨m, k, -, hm, hv, -, hao, hfe, -, -, hk, hk1, hkl, hsm, -, -, -, hr⟩ := hdp rfl
    subst hfe
    have hm' : (m : Int) < (t.length : Int) := by omega
    have hls := head_ks (tree_node hv hm)
    have hasc := asc_of (tree_node hv hm)
    have hfew := (few_of hv hkz m hm).1
    have hlk := take_links hv hm hsm
    obtain ⟨hl1, hl2⟩ := inB_iffL.1 (tree_all hv).1
    obtain ⟨x, hx1, hx2⟩ := drop_clean hv hm hsm hk hk1 hkl
    rw [← hx1] at hr
    have hkn : (kidsOf (takeT t m (lastF p))).length ≤ 1000000 := by
      have h1 := kidsLen_set (delAt (kth t m) (putAt (kth t m) (lastF p))) hm
      have h2 := (put_there hasc hsm).1
      rw [del_lenK (by omega)] at h1
      unfold takeT
      omega
    have hRg : ∀ i j, i < t.length → j < (kth (takeT t m (lastF p)) i).ks.length → 0 ≤ nthK (kth (takeT t m (lastF p)) i) j ∧ nthK (kth (takeT t m (lastF p)) i) j < (t.length : Int) := fun i j hi hj => by
      have := (node_kids (take_nodes hv hm hsm hi)).2 j hj
      omega
    have hlp := lastF_len hp
    generalize lastF p = sp at HA1 hsm hr hlk hx2 hkn hRg hlp
    rw [hao] at HA1
    have HF := Lib.hid hF
    have Hr := Lib.hid hr
    have Hlk := Lib.hid hlk
    have Hx2 := Lib.hid hx2
    have HRg := Lib.hid hRg
    have Hls := Lib.hid hls
    have Has := Lib.hid hasc
    have Hsm := Lib.hid hsm
    have Few1 := Lib.hid (few_of hv hkz)
    clear hF hdp hno hv hao hk hk1 hkl hsm hr hls hasc hlk hx1 hx2 hRg
    go_wp2_with fail
    refine (HA1.out _).mono ?_
    rintro e w3 ⟨rfl, b3⟩
    have r0 : w3.cell? ⟨w.heap.size, 0, none⟩ = some (.int .i64 a) := (b3.cell (p := ⟨w.heap.size, 0, none⟩) hzw).trans q0
    have r1 : w3.cell? ⟨w.heap.size, 1, none⟩ = some (.int .i64 b) := (b3.cell (p := ⟨w.heap.size, 1, none⟩) hzw).trans q1
    have r2 : w3.cell? ⟨w.heap.size, 2, none⟩ = some (.int .i64 c) := (b3.cell (p := ⟨w.heap.size, 2, none⟩) hzw).trans q2
    have r3 : w3.cell? ⟨w.heap.size, 3, none⟩ = some (.int .i64 d) := (b3.cell (p := ⟨w.heap.size, 3, none⟩) hzw).trans q3
    have B3 := Lib.hid (Below.step b3 B1.out.size B1.out)
    clear b3 q0 q1 q2 q3
    go_wp2_with fail
    refine (HF.out _ (H.out.below B3.out)).mono ?_
    rintro e w6 ⟨rfl, b6⟩
    have B6 := Lib.hid (Below.step b6 B3.out.size B3.out)
    clear b6 r0 r1 r2 r3
    go_wp2_with fail
    refine (HC.out _ (H.out.below B6.out) Few1.out).mono ?_
    rintro e w7 ⟨v7, cs, rfl, hT, hSm, b7⟩
    have B7 := Lib.hid (Below.step b7 B6.out.size B6.out)
    obtain ⟨A7, k7, rfl⟩ := (show TreeO _ w7 v7 t from ⟨cs, hT⟩).shape
    obtain ⟨g, c0, rfl, hgB, hgw, hcm, hnd, hNS, z0, z1, z2, z3, z4, z5, z6, zf⟩ := hT.at_ hm
    have HT := Lib.hid hT
    have HNS := Lib.hid hNS
    have hN := Lib.hid (fun w h => takeS_of c0.nA c0.nC c0.kA c0.kC (kth t m) sp w h Hls.out hfew Has.out Hsm.out)
    have hz67 := b7.size
    clear b7 hT hSm hcm hnd hNS
    go_wp2_with fail
    refine (hN.out _ HNS.out).mono ?_
    rintro e w8 ⟨A1, c1, A2, c2, hs1, hs2, rfl, o1, o2, b8⟩
    obtain ⟨cs', hT9⟩ := put_write (y := delAt (kth t m) (putAt (kth t m) sp)) HT.out hm o1 o2 HNS.out.sz (fun y hy => HNS.out.nz y (List.mem_of_mem_eraseIdx hy)) b8 hz67
    have B8 := Lib.hid (Below.step b8 B7.out.size B7.out)
    have hz78 := b8.size
    have e0 := (b8.cell (p := ⟨g, m * 7, none⟩) hgw).trans z0
    have e1 := (b8.cell (p := ⟨g, m * 7 + 1, none⟩) hgw).trans z1
    have e2 := (b8.cell (p := ⟨g, m * 7 + 2, none⟩) hgw).trans z2
    have e3 := (b8.cell (p := ⟨g, m * 7 + 3, none⟩) hgw).trans z3
    have e4 := (b8.cell (p := ⟨g, m * 7 + 4, none⟩) hgw).trans z4
    have e5 := (b8.cell (p := ⟨g, m * 7 + 5, none⟩) hgw).trans z5
    have e6 := (b8.cell (p := ⟨g, m * 7 + 6, none⟩) hgw).trans z6
    have ff := fun j => (b8.frozen (p := ⟨g, j, none⟩) hgw).trans (zf j)
    have f0 := ff (m * 7)
    have f1 := ff (m * 7 + 1)
    have f2 := ff (m * 7 + 2)
    have f3 := ff (m * 7 + 3)
    have f4 := ff (m * 7 + 4)
    have f5 := ff (m * 7 + 5)
    have f6 := ff (m * 7 + 6)
    have hgle : w.heap.size ≤ g := Nat.le_trans B6.out.size hgB
    clear o1 o2 b8 ff z0 z1 z2 z3 z4 z5 z6 zf
    go_upto_region 8 with fail
    obtain ⟨W9, hW9⟩ : ∃ W9, W9 = ((((((w8.setCell ⟨g, m * 7, none⟩ (.bool (kth t m).fo)).setCell ⟨g, m * 7 + 1, none⟩ (.int .i64 (kth t m).ow)).setCell ⟨g, m * 7 + 2, none⟩ (.int .i64 (kth t m).gr)).setCell ⟨g, m * 7 + 3, none⟩ (.int .i64 (kth t m).mo)).setCell ⟨g, m * 7 + 4, none⟩ (.string (kth t m).tx)).setCell ⟨g, m * 7 + 5, none⟩ (.slice A1 (delAt (kth t m) (putAt (kth t m) sp)).ns.length c1)).setCell ⟨g, m * 7 + 6, none⟩ (.slice A2 (delAt (kth t m) (putAt (kth t m) sp)).ks.length c2) := ⟨_, rfl⟩
    have hT9' : TreeC w6.heap.size W9 (.slice (some ⟨g, 0, none⟩) t.length k7) cs' (takeT t m sp) := by rw [hW9]; exact hT9
    have B9 : Below w.heap.size w W9 := by rw [hW9]; exact below_set (below_set (below_set (below_set (below_set (below_set (below_set B8.out hgle) hgle) hgle) hgle) hgle) hgle) hgle
    have hz9 : w6.heap.size ≤ W9.heap.size := by
      have h1 : W9.heap.size = w8.heap.size := by rw [hW9]; simp
      rw [h1]; exact Nat.le_trans hz67 hz78
    rw [← hW9]
    have HCL := Lib.hid (cleanS_of g t.length k7 x w6.heap.size cs' (takeT t m sp) W9 hT9' take_len (by omega) Hlk.out Hx2.out HRg.out hkn hz9)
    have HB9 := Lib.hid B9
    have hz6 := B6.out.size
    clear hW9 hT9 hT9' B9 e0 e1 e2 e3 e4 e5 e6 f0 f1 f2 f3 f4 f5 f6 hz78 HT HNS hN
    go_wp2_with fail
    refine HCL.out.mono ?_
    rintro e w10 ⟨v10, rfl, hT10, b10⟩
    have HT10 := Lib.hid (hT10.mono hz6)
    have B10 := Lib.hid (Below.trans HB9.out (b10.mono hz6))
    clear hT10 b10
    go_wp2
    go_ret2
    exact ⟨_, by rw [Hr.out]; rfl, by rw [Hr.out]; exact HT10.out, B10.out⟩
  · have d1 : (D != 0) = true := by simpa using hd0
    have Hr := Lib.hid (hno hd0)
    clear hdp hno hF
    go_wp2
    go_ret2
    exact ⟨_, by rw [Hr.out]; rfl, by rw [Hr.out]; exact (treeO_empty (Nat.le_refl _)).mono B1.out.size, Below.alloc B1.out B1.out.size _⟩
end Go.Proofs.YtkennmpbmbacpaaGreatDoor
