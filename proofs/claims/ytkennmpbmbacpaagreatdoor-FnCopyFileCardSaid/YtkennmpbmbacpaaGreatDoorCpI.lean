/- CopyFile, of the package and of the reference. -/
import Derived.Test.YtkennmpbmbacpaaGreatDoorMakeI
import Derived.Test.YtkennmpbmbacpaaGreatDoorWriteI
import Derived.Test.YtkennmpbmbacpaaGreatDoorCpP
import Derived.Test.YtkennmpbmbacpaaGreatDoorMF
import Derived.Test.YtkennmpbmbacpaaGreatDoorWriteS
import Derived.Test.YtkennmpbmbacpaaGreatDoorFile3
import Derived.Test.YtkennmpbmbacpaaGreatDoorHeldZ
set_option linter.unusedSimpArgs false
set_option linter.unusedVariables false
set_option linter.unusedSectionVars false
namespace Go.Proofs.YtkennmpbmbacpaaGreatDoor
open Go.RowKit

theorem andnot_mode {m : Int} (h : inB m 0 1023 = true) : bits .andNot .i64 m 512 = m % 512 := by
  obtain ⟨h0, h1⟩ := inB_iffL.1 h
  obtain ⟨k, rfl⟩ : ∃ k : Nat, m = (k : Int) := ⟨m.toNat, by omega⟩
  have hk : k < 1024 := by omega
  have hd : ∀ k, k < 1024 → k &&& 1535 = k % 512 := by decide +kernel
  have e : (BitVec.ofInt 64 (k : Int) &&& ~~~ BitVec.ofInt 64 512) = BitVec.ofInt 64 ((k % 512 : Nat) : Int) := by
    have h2 : ~~~ BitVec.ofInt 64 512 = BitVec.ofNat 64 18446744073709551103 := by decide
    apply BitVec.eq_of_toNat_eq
    rw [h2, BitVec.toNat_and, ofInt_i64 k (by omega), ofInt_i64 (k % 512) (by omega), BitVec.toNat_ofNat]
    have h3 : ∀ k, k < 1024 → k &&& (18446744073709551103 % 2 ^ 64) = k % 512 := by decide +kernel
    exact h3 k hk
  show IntKind.i64.wrap ((BitVec.ofInt 64 (k : Int) &&& ~~~ BitVec.ofInt 64 512).toNat : Int) = _
  rw [e, ofInt_i64 (k % 512) (by omega), IntKind.wrap_i64]
  omega
theorem rem_mode {m : Int} (h : inB m 0 1023 = true) : m.tmod 512 = m % 512 := by
  obtain ⟨h0, h1⟩ := inB_iffL.1 h
  exact Int.tmod_eq_emod_of_nonneg h0
theorem tx_small2' {t : List Nd} {k : Nat} (h : treeB t = true) (hk : k < t.length) : (kth t k).tx.size ≤ 40 := by
  have hv := (nodeB_iff.1 (tree_node h hk)).1
  unfold headB at hv
  simp only [Bool.and_eq_true, decide_eq_true_eq] at hv
  exact hv.2.2.2.2.2.2
set_option maxRecDepth 100000 in
set_option maxHeartbeats 2000000 in
theorem cpI_of (v : Value) (t : List Nd) (a b c d : Int) (S1 S2 : ByteArray) (w : World) (hM : MaxL w) (h : TreeR w v t) (ht : t.length ≤ 1000) (hkz : (kidsOf t).length ≤ 1000000) (hs1 : S1.size ≤ 1048576) (hs2 : S2.size ≤ 1048576) :
    Calls Tryz.prog 33 #[v, .agg #[.int .i64 a, .int .i64 b, .int .i64 c, .int .i64 d], .string S1, .string S2] w fun e w' => ∃ v', e = .returned (.tuple #[v', .int .i64 (copyF t a b c d S1.data.toList S2.data.toList).2]) ∧ TreeO w.heap.size w' v' (copyF t a b c d S1.data.toList S2.data.toList).1 ∧ Below w.heap.size w w' := by
  have hA := fun w hm h => fileI_of v t a b c d S1 4 (by decide) w hm h ht hkz hs1
  have hF := fun w hm h => findI_of v t a b c d S2 w hm h ht hkz hs2
  have hW := fun X w hm h => writeI_of v t a b c d S2 X w hm h ht hkz hs2
  have hK := fun mode w hm h => makeI_of v t a b c d S2 false mode w hm h ht hkz hs2
  have hML := fun mode => @make_tree2 t a b c d S2.data.toList false mode
  have hfy := @file_yes t a b c d 4 S1.data.toList
  have hrf := @findF_range t a b c d S1.data.toList
  obtain ⟨R, hR⟩ : ∃ R, R = copyF t a b c d S1.data.toList S2.data.toList := ⟨_, rfl⟩
  rw [← hR]
  unfold copyF at hR
  generalize findF t a b c d S2.data.toList = G at hF hR
  generalize findF t a b c d S1.data.toList = G1 at hfy hrf
  generalize fileF t a b c d S1.data.toList 4 = F at hA hfy hR
  generalize S2.data.toList = sq at hW hK hML hR
  obtain ⟨f1, f2⟩ := F
  obtain ⟨g1, g2⟩ := G
  obtain ⟨q1, q2⟩ := G1
  simp only at hA hF hfy hrf hR
  have H := Lib.hid h
  have HM := Lib.hid hM
  have HA := Lib.hid hA
  have HF := Lib.hid hF
  have HW := Lib.hid hW
  have HK := Lib.hid hK
  have HML := Lib.hid hML
  obtain ⟨A, cap, rfl⟩ := h.shape
  have hcap := h.caps
  clear h hA hF hW hK hM hML
  go_enter Tryz.func33, Tryz.ntmps33
  go_wp2_with fail
  refine (HA.out _ (HM.out.below (by (repeat (first | exact Below.refl _ _ | exact Hbl.out | refine Below.ext ?_ (by first | omega | (simp; omega) | simp) | refine Below.setCell ?_ (by first | omega | (simp; omega) | simp) _ | refine Below.alloc ?_ (by first | omega | (simp; omega) | simp) _ | refine Below.drew ?_ | refine below_drewN ?_ _ | refine Below.step (by assumption) (by first | omega | (simp; omega) | simp) ?_)))) (H.out.below (by (repeat (first | exact Below.refl _ _ | exact Hbl.out | refine Below.ext ?_ (by first | omega | (simp; omega) | simp) | refine Below.setCell ?_ (by first | omega | (simp; omega) | simp) _ | refine Below.alloc ?_ (by first | omega | (simp; omega) | simp) _ | refine Below.drew ?_ | refine below_drewN ?_ _ | refine Below.step (by assumption) (by first | omega | (simp; omega) | simp) ?_))))).mono ?_
  rintro e w1 ⟨rfl, b1⟩
  have q0 : w1.cell? ⟨w.heap.size, 0, none⟩ = some (.int .i64 a) := (b1.cell (p := ⟨w.heap.size, 0, none⟩) (by first | (simp; done) | (simp; omega) | omega)).trans (by first | assumption | go_simp)
  have q1 : w1.cell? ⟨w.heap.size, 1, none⟩ = some (.int .i64 b) := (b1.cell (p := ⟨w.heap.size, 1, none⟩) (by first | (simp; done) | (simp; omega) | omega)).trans (by first | assumption | go_simp)
  have q2 : w1.cell? ⟨w.heap.size, 2, none⟩ = some (.int .i64 c) := (b1.cell (p := ⟨w.heap.size, 2, none⟩) (by first | (simp; done) | (simp; omega) | omega)).trans (by first | assumption | go_simp)
  have q3 : w1.cell? ⟨w.heap.size, 3, none⟩ = some (.int .i64 d) := (b1.cell (p := ⟨w.heap.size, 3, none⟩) (by first | (simp; done) | (simp; omega) | omega)).trans (by first | assumption | go_simp)
  have hzw : w.heap.size < w1.heap.size := by have := b1.size; simp at this; omega
  have B1 := Lib.hid (Below.step b1 (by simp) (show Below w.heap.size w _ from (by (repeat (first | exact Below.refl _ _ | exact Hbl.out | refine Below.ext ?_ (by first | omega | (simp; omega) | simp) | refine Below.setCell ?_ (by first | omega | (simp; omega) | simp) _ | refine Below.alloc ?_ (by first | omega | (simp; omega) | simp) _ | refine Below.drew ?_ | refine below_drewN ?_ _ | refine Below.step (by assumption) (by first | omega | (simp; omega) | simp) ?_)))))
  clear b1
  by_cases hf : f2 = 0
  · subst hf
    rw [if_neg (by simp)] at hR
    obtain ⟨e1, e2, e3, -⟩ := hfy rfl
    subst e1 e2
    obtain ⟨x1, -, -, x4, x5⟩ := hrf rfl
    obtain ⟨n, rfl⟩ : ∃ n : Nat, f1 = (n : Int) := ⟨f1.toNat, by omega⟩
    have hn : n < t.length := by omega
    have hn' : (n : Int) < (t.length : Int) := by omega
    rw [Int.toNat_natCast] at hR
    have hmo := (headN_in (tree_node x1 hn)).2.2
    have htx := tx_small2' x1 hn
    have Hand := Lib.hid (andnot_mode hmo)
    clear hrf hfy e3 x1 x4 x5 hmo
    go_wp2_with fail
    refine (HF.out _ (HM.out.below B1.out) (H.out.below B1.out)).mono ?_
    rintro e w2 ⟨rfl, b2⟩
    have r0 : w2.cell? ⟨w.heap.size, 0, none⟩ = some (.int .i64 a) := (b2.cell (p := ⟨w.heap.size, 0, none⟩) hzw).trans q0
    have r1 : w2.cell? ⟨w.heap.size, 1, none⟩ = some (.int .i64 b) := (b2.cell (p := ⟨w.heap.size, 1, none⟩) hzw).trans q1
    have r2 : w2.cell? ⟨w.heap.size, 2, none⟩ = some (.int .i64 c) := (b2.cell (p := ⟨w.heap.size, 2, none⟩) hzw).trans q2
    have r3 : w2.cell? ⟨w.heap.size, 3, none⟩ = some (.int .i64 d) := (b2.cell (p := ⟨w.heap.size, 3, none⟩) hzw).trans q3
    have B2 := Lib.hid (Below.step b2 B1.out.size B1.out)
    obtain ⟨bt, ot, nA, nC, kA, kC, rfl, hbt, -, -, -, -, y3, y4, -⟩ := (H.out.below B2.out).at_ (kth_at hn)
    clear b2 q0 q1 q2 q3 HA HF
    by_cases hg : g2 = 2
    · subst hg
      rw [if_neg (by simp)] at hR
      have hK := fun w hm h => HK.out ((kth t n).mo % 512) w hm h
      have hML := HML.out ((kth t n).mo % 512)
      generalize makeF t a b c d sq false ((kth t n).mo % 512) = N at hK hML hR
      obtain ⟨t2, g3⟩ := N
      simp only at hK hML hR
      have HK2 := Lib.hid hK
      have HML2 := Lib.hid hML
      clear hK HK HW hML HML
      go_wp2_with fail
      refine wp_region_Z (fun w' => w'.cell? ⟨w.heap.size, 0, none⟩ = some (.int .i64 a) ∧ w'.cell? ⟨w.heap.size, 1, none⟩ = some (.int .i64 b) ∧ w'.cell? ⟨w.heap.size, 2, none⟩ = some (.int .i64 c) ∧ w'.cell? ⟨w.heap.size, 3, none⟩ = some (.int .i64 d) ∧ w'.cell? ⟨bt, ot + n * 7 + 3, none⟩ = some (.int .i64 (kth t n).mo)) 9 (by kernel_rfl) ?_ (fun hHeld => ?_)
      · (try dsimp only)
        refine ⟨?_, ?_, ?_, ?_, ?_⟩ <;> (first | assumption | (go_simp; done))
      refine zkP (i := 0) (v := ?_) rfl (by kernel_rfl) (by kernel_rfl) (fun _ _ _ h => h) rfl ?_ (by assumption) ?_; rotate_left; (focus (intro w; go_simp; try with_reducible rfl))
      try simp only [Act.put, List.getElem_toArray, List.getElem_cons_succ, List.getElem_cons_zero, List.setIfInBounds_toArray, List.set_cons_zero, List.set_cons_succ]
      refine zkL (i := 1) (v := ?_) rfl (by kernel_rfl) (by kernel_rfl) (fun _ _ _ h => h) (by kernel_rfl) ?_ (by assumption) ?_; rotate_left; (focus (intro w hSw; (try dsimp only at hSw); go_simp; try with_reducible rfl))
      try simp only [Act.put, List.getElem_toArray, List.getElem_cons_succ, List.getElem_cons_zero, List.setIfInBounds_toArray, List.set_cons_zero, List.set_cons_succ]
      refine zkP (i := 2) (v := ?_) rfl (by kernel_rfl) (by kernel_rfl) (fun _ _ _ h => h) rfl ?_ (by assumption) ?_; rotate_left; (focus (intro w; go_simp; try with_reducible rfl))
      try simp only [Act.put, List.getElem_toArray, List.getElem_cons_succ, List.getElem_cons_zero, List.setIfInBounds_toArray, List.set_cons_zero, List.set_cons_succ]
      refine zkP (i := 3) (v := ?_) rfl (by kernel_rfl) (by kernel_rfl) (fun _ _ _ h => h) rfl ?_ (by assumption) ?_; rotate_left; (focus (intro w; go_simp; try with_reducible rfl))
      try simp only [Act.put, List.getElem_toArray, List.getElem_cons_succ, List.getElem_cons_zero, List.setIfInBounds_toArray, List.set_cons_zero, List.set_cons_succ]
      refine zkP (i := 4) (v := ?_) rfl (by kernel_rfl) (by kernel_rfl) (fun _ _ _ h => h) rfl ?_ (by assumption) ?_; rotate_left; (focus (intro w; go_simp; try with_reducible rfl))
      try simp only [Act.put, List.getElem_toArray, List.getElem_cons_succ, List.getElem_cons_zero, List.setIfInBounds_toArray, List.set_cons_zero, List.set_cons_succ]
      refine zkP (i := 5) (v := ?_) rfl (by kernel_rfl) (by kernel_rfl) (fun _ _ _ h => h) rfl ?_ (by assumption) ?_; rotate_left; (focus (intro w; go_simp; try with_reducible rfl))
      try simp only [Act.put, List.getElem_toArray, List.getElem_cons_succ, List.getElem_cons_zero, List.setIfInBounds_toArray, List.set_cons_zero, List.set_cons_succ]
      refine zkP (i := 6) (v := ?_) rfl (by kernel_rfl) (by kernel_rfl) (fun _ _ _ h => h) rfl ?_ (by assumption) ?_; rotate_left; (focus (intro w; go_simp; try with_reducible rfl))
      try simp only [Act.put, List.getElem_toArray, List.getElem_cons_succ, List.getElem_cons_zero, List.setIfInBounds_toArray, List.set_cons_zero, List.set_cons_succ]
      refine wpAnyZ_ready (rs := [7]) (by kernel_rfl) (by simp) ?_
      refine AllReadyZ.keep rfl (fun K hK => ?_) (AllReadyZ.nil)
      go_simp
      refine hK.out _ _ ?_ (fun hHeld => ?_)
      · (try dsimp only)
        refine ⟨?_, ?_, ?_, ?_, ?_⟩ <;> (first | assumption | (go_simp; done))
      clear hK K
      try simp only [Act.put, List.getElem_toArray, List.getElem_cons_succ, List.getElem_cons_zero, List.setIfInBounds_toArray, List.set_cons_zero, List.set_cons_succ]
      refine zkP (i := 8) (v := ?_) rfl (by kernel_rfl) (by kernel_rfl) (fun _ _ _ h => h) rfl ?_ (by assumption) ?_; rotate_left; (focus (intro w; go_simp; try with_reducible rfl))
      try simp only [Act.put, List.getElem_toArray, List.getElem_cons_succ, List.getElem_cons_zero, List.setIfInBounds_toArray, List.set_cons_zero, List.set_cons_succ]
      refine wpAnyZ_ready (rs := [9]) (by kernel_rfl) (by simp) ?_
      refine AllReadyZ.last rfl (by kernel_rfl) (fun K hK => ?_) (AllReadyZ.nil)
      go_simp
      rw [Hand.out]
      go_at_call 20
      refine (HK2.out _ (HM.out.below (Below.drew B2.out)) (H.out.below (Below.drew B2.out))).mono ?_
      rintro e w3 ⟨v3, rfl, hT3, b3⟩
      have hb3 : Below w2.heap.size w2 w3 := Below.step b3 (by first | exact Nat.le_refl _ | (simp; done)) (Below.drew (Below.refl _ _))
      have y43 : w3.cell? ⟨bt, ot + n * 7 + 4, none⟩ = some (.string (kth t n).tx) := (hb3.cell (p := ⟨bt, ot + n * 7 + 4, none⟩) hbt).trans y4
      have B3 := Lib.hid (Below.step hb3 B2.out.size B2.out)
      have HT3 := Lib.hid (show TreeO w.heap.size w3 v3 t2 from hT3.mono (by exact B2.out.size))
      clear b3 hT3 hb3 r0 r1 r2 r3 y3 y4
      refine hK.out _ _ ?_
      clear hK K
      try simp only [Act.put, List.getElem_toArray, List.getElem_cons_succ, List.getElem_cons_zero, List.setIfInBounds_toArray, List.set_cons_zero, List.set_cons_succ]
      refine zkR (i := 10) (v := ?_) rfl (by kernel_rfl) (by kernel_rfl) (fun _ _ _ h => h) (by kernel_rfl) ?_ ?_; rotate_left; (focus (intro w; go_simp; try with_reducible rfl))
      try simp only [Act.put, List.getElem_toArray, List.getElem_cons_succ, List.getElem_cons_zero, List.setIfInBounds_toArray, List.set_cons_zero, List.set_cons_succ]
      refine zkR (i := 11) (v := ?_) rfl (by kernel_rfl) (by kernel_rfl) (fun _ _ _ h => h) (by kernel_rfl) ?_ ?_; rotate_left; (focus (intro w; go_simp; try with_reducible rfl))
      try simp only [Act.put, List.getElem_toArray, List.getElem_cons_succ, List.getElem_cons_zero, List.setIfInBounds_toArray, List.set_cons_zero, List.set_cons_succ]
      refine zkR (i := 12) (v := ?_) rfl (by kernel_rfl) (by kernel_rfl) (fun _ _ _ h => h) (by kernel_rfl) ?_ ?_; rotate_left; (focus (intro w; go_simp; try with_reducible rfl))
      try simp only [Act.put, List.getElem_toArray, List.getElem_cons_succ, List.getElem_cons_zero, List.setIfInBounds_toArray, List.set_cons_zero, List.set_cons_succ]
      refine zkR (i := 13) (v := ?_) rfl (by kernel_rfl) (by kernel_rfl) (fun _ _ _ h => h) (by kernel_rfl) ?_ ?_; rotate_left; (focus (intro w; go_simp; try with_reducible rfl))
      try simp only [Act.put, List.getElem_toArray, List.getElem_cons_succ, List.getElem_cons_zero, List.setIfInBounds_toArray, List.set_cons_zero, List.set_cons_succ]
      refine zkR (i := 14) (v := ?_) rfl (by kernel_rfl) (by kernel_rfl) (fun _ _ _ h => h) (by kernel_rfl) ?_ ?_; rotate_left; (focus (intro w; go_simp; try with_reducible rfl))
      try simp only [Act.put, List.getElem_toArray, List.getElem_cons_succ, List.getElem_cons_zero, List.setIfInBounds_toArray, List.set_cons_zero, List.set_cons_succ]
      refine wpAnyZ_done (by kernel_rfl) ?_ _
      by_cases hg3 : g3 = 0
      · subst hg3
        rw [if_neg (by simp)] at hR
        obtain ⟨k1, k2, k3, -⟩ := HML2.out rfl
        have hk : t.length < t2.length := by omega
        have hk' : (t.length : Int) < (t2.length : Int) := by omega
        obtain ⟨cs3, hC3⟩ := HT3.out
        obtain ⟨A3, c3, rfl⟩ := TreeO.shape ⟨cs3, hC3⟩
        obtain ⟨g, c0, rfl, hgB, hgw, -, -, -, -, -, -, -, z4, -, -, zf⟩ := hC3.at_ hk
        have fz := zf (t.length * 7 + 4)
        obtain ⟨cs4, hT4⟩ := hC3.text (X := (kth t n).tx) hk htx
        have HT4 := Lib.hid hT4
        have B4 := Lib.hid (show Below w.heap.size w (w3.setCell ⟨g, t.length * 7 + 4, none⟩ (.string (kth t n).tx)) from Below.setCell B3.out hgB _)
        have Hr := Lib.hid hR
        clear hT4 hC3 zf hR HML2 k1 k2 k3
        go_wp2
        go_ret2
        exact ⟨_, by rw [Hr.out]; rfl, by rw [Hr.out]; exact ⟨_, HT4.out⟩, B4.out⟩
      · rw [if_pos hg3] at hR
        have d2 : (g3 != 0) = true := by simpa using hg3
        have Hr := Lib.hid hR
        clear hR HML2
        go_wp2
        go_ret2
        exact ⟨_, by rw [Hr.out]; rfl, by rw [Hr.out]; exact ⟨[], treeC_empty (ownG_none _ _)⟩, B3.out⟩
    · rw [if_pos hg] at hR
      have hW := fun w hm h => HW.out (kth t n).tx w hm h
      generalize writeF t a b c d sq (kth t n).tx = N at hW hR
      obtain ⟨t2, g3⟩ := N
      simp only at hW
      have HW2 := Lib.hid hW
      have Hr := Lib.hid hR
      have d1 : (g2 != 2) = true := by simpa using hg
      clear hW HW hR HK HML hg
      go_wp2_with fail
      refine wp_region_Z (fun w' => w'.cell? ⟨w.heap.size, 0, none⟩ = some (.int .i64 a) ∧ w'.cell? ⟨w.heap.size, 1, none⟩ = some (.int .i64 b) ∧ w'.cell? ⟨w.heap.size, 2, none⟩ = some (.int .i64 c) ∧ w'.cell? ⟨w.heap.size, 3, none⟩ = some (.int .i64 d) ∧ w'.cell? ⟨bt, ot + n * 7 + 4, none⟩ = some (.string (kth t n).tx)) 8 (by kernel_rfl) ?_ (fun hHeld => ?_)
      · (try dsimp only)
        refine ⟨?_, ?_, ?_, ?_, ?_⟩ <;> (first | assumption | (go_simp; done))
      refine zkP (i := 0) (v := ?_) rfl (by kernel_rfl) (by kernel_rfl) (fun _ _ _ h => h) rfl ?_ (by assumption) ?_; rotate_left; (focus (intro w; go_simp; try with_reducible rfl))
      try simp only [Act.put, List.getElem_toArray, List.getElem_cons_succ, List.getElem_cons_zero, List.setIfInBounds_toArray, List.set_cons_zero, List.set_cons_succ]
      refine zkL (i := 1) (v := ?_) rfl (by kernel_rfl) (by kernel_rfl) (fun _ _ _ h => h) (by kernel_rfl) ?_ (by assumption) ?_; rotate_left; (focus (intro w hSw; (try dsimp only at hSw); go_simp; try with_reducible rfl))
      try simp only [Act.put, List.getElem_toArray, List.getElem_cons_succ, List.getElem_cons_zero, List.setIfInBounds_toArray, List.set_cons_zero, List.set_cons_succ]
      refine zkP (i := 2) (v := ?_) rfl (by kernel_rfl) (by kernel_rfl) (fun _ _ _ h => h) rfl ?_ (by assumption) ?_; rotate_left; (focus (intro w; go_simp; try with_reducible rfl))
      try simp only [Act.put, List.getElem_toArray, List.getElem_cons_succ, List.getElem_cons_zero, List.setIfInBounds_toArray, List.set_cons_zero, List.set_cons_succ]
      refine zkP (i := 3) (v := ?_) rfl (by kernel_rfl) (by kernel_rfl) (fun _ _ _ h => h) rfl ?_ (by assumption) ?_; rotate_left; (focus (intro w; go_simp; try with_reducible rfl))
      try simp only [Act.put, List.getElem_toArray, List.getElem_cons_succ, List.getElem_cons_zero, List.setIfInBounds_toArray, List.set_cons_zero, List.set_cons_succ]
      refine zkP (i := 4) (v := ?_) rfl (by kernel_rfl) (by kernel_rfl) (fun _ _ _ h => h) rfl ?_ (by assumption) ?_; rotate_left; (focus (intro w; go_simp; try with_reducible rfl))
      try simp only [Act.put, List.getElem_toArray, List.getElem_cons_succ, List.getElem_cons_zero, List.setIfInBounds_toArray, List.set_cons_zero, List.set_cons_succ]
      refine zkP (i := 5) (v := ?_) rfl (by kernel_rfl) (by kernel_rfl) (fun _ _ _ h => h) rfl ?_ (by assumption) ?_; rotate_left; (focus (intro w; go_simp; try with_reducible rfl))
      try simp only [Act.put, List.getElem_toArray, List.getElem_cons_succ, List.getElem_cons_zero, List.setIfInBounds_toArray, List.set_cons_zero, List.set_cons_succ]
      refine zkP (i := 6) (v := ?_) rfl (by kernel_rfl) (by kernel_rfl) (fun _ _ _ h => h) rfl ?_ (by assumption) ?_; rotate_left; (focus (intro w; go_simp; try with_reducible rfl))
      try simp only [Act.put, List.getElem_toArray, List.getElem_cons_succ, List.getElem_cons_zero, List.setIfInBounds_toArray, List.set_cons_zero, List.set_cons_succ]
      refine zkL (i := 7) (v := ?_) rfl (by kernel_rfl) (by kernel_rfl) (fun _ _ _ h => h) (by kernel_rfl) ?_ (by assumption) ?_; rotate_left; (focus (intro w hSw; (try dsimp only at hSw); go_simp; try with_reducible rfl))
      try simp only [Act.put, List.getElem_toArray, List.getElem_cons_succ, List.getElem_cons_zero, List.setIfInBounds_toArray, List.set_cons_zero, List.set_cons_succ]
      refine wpAnyZ_ready (rs := [8]) (by kernel_rfl) (by simp) ?_
      refine AllReadyZ.last rfl (by kernel_rfl) (fun K hK => ?_) (AllReadyZ.nil)
      go_simp
      go_at_call 81
      refine (HW2.out _ (HM.out.below (Below.drew B2.out)) (H.out.below (Below.drew B2.out))).mono ?_
      rintro e w3 ⟨v3, cs3, rfl, hT3, b3⟩
      have hb3 : Below w2.heap.size w2 w3 := Below.step b3 (by first | exact Nat.le_refl _ | (simp; done)) (Below.drew (Below.refl _ _))
      have B3 := Lib.hid (Below.step hb3 B2.out.size B2.out)
      have HT3 := Lib.hid (show TreeO w.heap.size w3 v3 t2 from ⟨_, hT3.mono (by exact B2.out.size)⟩)
      clear b3 hT3 hb3
      refine hK.out _ _ ?_
      clear hK K
      try simp only [Act.put, List.getElem_toArray, List.getElem_cons_succ, List.getElem_cons_zero, List.setIfInBounds_toArray, List.set_cons_zero, List.set_cons_succ]
      refine zkR (i := 9) (v := ?_) rfl (by kernel_rfl) (by kernel_rfl) (fun _ _ _ h => h) (by kernel_rfl) ?_ ?_; rotate_left; (focus (intro w; go_simp; try with_reducible rfl))
      try simp only [Act.put, List.getElem_toArray, List.getElem_cons_succ, List.getElem_cons_zero, List.setIfInBounds_toArray, List.set_cons_zero, List.set_cons_succ]
      refine zkR (i := 10) (v := ?_) rfl (by kernel_rfl) (by kernel_rfl) (fun _ _ _ h => h) (by kernel_rfl) ?_ ?_; rotate_left; (focus (intro w; go_simp; try with_reducible rfl))
      try simp only [Act.put, List.getElem_toArray, List.getElem_cons_succ, List.getElem_cons_zero, List.setIfInBounds_toArray, List.set_cons_zero, List.set_cons_succ]
      refine zkR (i := 11) (v := ?_) rfl (by kernel_rfl) (by kernel_rfl) (fun _ _ _ h => h) (by kernel_rfl) ?_ ?_; rotate_left; (focus (intro w; go_simp; try with_reducible rfl))
      try simp only [Act.put, List.getElem_toArray, List.getElem_cons_succ, List.getElem_cons_zero, List.setIfInBounds_toArray, List.set_cons_zero, List.set_cons_succ]
      refine zkR (i := 12) (v := ?_) rfl (by kernel_rfl) (by kernel_rfl) (fun _ _ _ h => h) (by kernel_rfl) ?_ ?_; rotate_left; (focus (intro w; go_simp; try with_reducible rfl))
      try simp only [Act.put, List.getElem_toArray, List.getElem_cons_succ, List.getElem_cons_zero, List.setIfInBounds_toArray, List.set_cons_zero, List.set_cons_succ]
      refine wpAnyZ_done (by kernel_rfl) ?_ _
      go_wp2
      go_ret2
      exact ⟨_, by rw [Hr.out]; rfl, by rw [Hr.out]; exact HT3.out, B3.out⟩
  · rw [if_pos hf] at hR
    have d1 : (f2 != 0) = true := by simpa using hf
    have Hr := Lib.hid hR
    clear hR hrf hfy
    go_wp2
    go_ret2
    exact ⟨_, by rw [Hr.out]; rfl, by rw [Hr.out]; exact ⟨[], treeC_empty (ownG_none _ _)⟩, B1.out⟩
end Go.Proofs.YtkennmpbmbacpaaGreatDoor
