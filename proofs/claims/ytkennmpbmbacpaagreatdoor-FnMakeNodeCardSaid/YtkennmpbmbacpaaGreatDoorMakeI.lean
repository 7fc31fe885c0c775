/- The package's MakeNode. -/
import Derived.Test.YtkennmpbmbacpaaGreatDoorAddT
set_option linter.unusedSimpArgs false
set_option linter.unusedVariables false
set_option linter.unusedSectionVars false
namespace Go.Proofs.YtkennmpbmbacpaaGreatDoor
open Go.RowKit

set_option maxRecDepth 100000 in
set_option maxHeartbeats 4000000 in
theorem makeI_of (v : Value) (t : List Nd) (a b c d : Int) (S1 : ByteArray) (fo : Bool) (mode : Int) (w : World) (hM : MaxL w) (h : TreeR w v t) (ht : t.length ≤ 1000) (hkz : (kidsOf t).length ≤ 1000000) (hs1 : S1.size ≤ 1048576) :
    Calls Tryz.prog 20 #[v, .agg #[.int .i64 a, .int .i64 b, .int .i64 c, .int .i64 d], .string S1, .bool fo, .int .i64 mode] w fun e w' => ∃ v', e = .returned (.tuple #[v', .int .i64 (makeF t a b c d S1.data.toList fo mode).2]) ∧ TreeO w.heap.size w' v' (makeF t a b c d S1.data.toList fo mode).1 ∧ Below w.heap.size w w' := by
  have hP := fun w hm h => placeI_of v t a b c d S1 w hm h ht hkz hs1
  have hA := fun w hm => aboveI_of S1 w hm hs1
  unfold AbvGot at hA
  have hC := fun w h hf => copyI_of v t w h ht hf
  have hlq : (lastF S1.data.toList).length ≤ 1048576 := lastF_len (by have : S1.data.toList.length = S1.size := Array.length_toList; omega)
  have hrp := @placeF_yes t a b c d S1.data.toList
  obtain ⟨R, hR⟩ : ∃ R, R = makeF t a b c d S1.data.toList fo mode := ⟨_, rfl⟩
  rw [← hR]
  unfold makeF at hR
  generalize placeF t a b c d S1.data.toList = P at hP hrp hR
  obtain ⟨p1, p2⟩ := P
  simp only at hP hrp hR
  have H := Lib.hid h
  have HM := Lib.hid hM
  have HP := Lib.hid hP
  have HA := Lib.hid hA
  have HC := Lib.hid hC
  obtain ⟨A, cap, rfl⟩ := h.shape
  have hcap := h.caps
  clear h hP hA hC hM
  go_enter Tryz.func20, Tryz.ntmps20
  go_wp2_with fail
  refine (HP.out _ (HM.out.below (by (repeat (first | exact Below.refl _ _ | exact Hbl.out | refine Below.ext ?_ (by first | omega | (simp; omega) | simp) | refine Below.setCell ?_ (by first | omega | (simp; omega) | simp) _ | refine Below.alloc ?_ (by first | omega | (simp; omega) | simp) _ | refine Below.drew ?_ | refine below_drewN ?_ _ | refine Below.step (by assumption) (by first | omega | (simp; omega) | simp) ?_)))) (H.out.below (by (repeat (first | exact Below.refl _ _ | exact Hbl.out | refine Below.ext ?_ (by first | omega | (simp; omega) | simp) | refine Below.setCell ?_ (by first | omega | (simp; omega) | simp) _ | refine Below.alloc ?_ (by first | omega | (simp; omega) | simp) _ | refine Below.drew ?_ | refine below_drewN ?_ _ | refine Below.step (by assumption) (by first | omega | (simp; omega) | simp) ?_))))).mono ?_
  rintro e w1 ⟨rfl, b1⟩
  have q0 : w1.cell? ⟨w.heap.size, 0, none⟩ = some (.int .i64 a) := (b1.cell (p := ⟨w.heap.size, 0, none⟩) (by first | (simp; done) | (simp; omega) | omega)).trans (by first | assumption | go_simp)
  have q1 : w1.cell? ⟨w.heap.size, 1, none⟩ = some (.int .i64 b) := (b1.cell (p := ⟨w.heap.size, 1, none⟩) (by first | (simp; done) | (simp; omega) | omega)).trans (by first | assumption | go_simp)
  have q2 : w1.cell? ⟨w.heap.size, 2, none⟩ = some (.int .i64 c) := (b1.cell (p := ⟨w.heap.size, 2, none⟩) (by first | (simp; done) | (simp; omega) | omega)).trans (by first | assumption | go_simp)
  have q3 : w1.cell? ⟨w.heap.size, 3, none⟩ = some (.int .i64 d) := (b1.cell (p := ⟨w.heap.size, 3, none⟩) (by first | (simp; done) | (simp; omega) | omega)).trans (by first | assumption | go_simp)
  have hzw : w.heap.size < w1.heap.size := by have := b1.size; simp at this; omega
  have B1 := Lib.hid (Below.step b1 (by simp) (show Below w.heap.size w _ from (by (repeat (first | exact Below.refl _ _ | exact Hbl.out | refine Below.ext ?_ (by first | omega | (simp; omega) | simp) | refine Below.setCell ?_ (by first | omega | (simp; omega) | simp) _ | refine Below.alloc ?_ (by first | omega | (simp; omega) | simp) _ | refine Below.drew ?_ | refine below_drewN ?_ _ | refine Below.step (by assumption) (by first | omega | (simp; omega) | simp) ?_)))))
  clear b1
  cases g1 : inB mode 0 1023
  · have Hr := Lib.hid (show R = ([], 1) by rw [hR, if_pos g1])
    clear hR hrp
    go_wp2_with (go_at_call 66; refine (isModeI_any _ _).mono ?_; rintro e w' ⟨rfl, rfl⟩)
    go_ret2
    exact ⟨_, by rw [Hr.out]; rfl, by rw [Hr.out]; exact ⟨[], treeC_empty (ownG_none _ _)⟩, B1.out⟩
  · rw [if_neg (by rw [g1]; simp)] at hR
    by_cases hpl : p2 = 0
    · subst hpl
      rw [if_neg (by simp)] at hR
      obtain ⟨r1, _, _, r4, r5, r6, r7⟩ := hrp rfl
      obtain ⟨m, rfl⟩ : ∃ m : Nat, p1 = (m : Int) := ⟨p1.toNat, by omega⟩
      have hm : m < t.length := by omega
      have hm' : (m : Int) < (t.length : Int) := by omega
      rw [Int.toNat_natCast] at hR
      by_cases h16 : t.length = 16
      · have Hr := Lib.hid (show R = ([], 6) by rw [hR, if_pos h16])
        have h16' : (t.length : Int) = 16 := by omega
        clear hR h16 hrp r4 r5 r6 r7
        go_wp2_with (go_at_call 66; refine (isModeI_any _ _).mono ?_; rintro e w' ⟨rfl, rfl⟩)
        go_ret2
        exact ⟨_, by rw [Hr.out]; rfl, by rw [Hr.out]; exact ⟨[], treeC_empty (ownG_none _ _)⟩, B1.out⟩
      · rw [if_neg h16] at hR
        have h16' : ¬ (t.length : Int) = 16 := by omega
        have Few1 := Lib.hid (few_of r1 hkz)
        have Hls := Lib.hid (head_ks (tree_node r1 hm))
        have Has := Lib.hid (asc_of (tree_node r1 hm))
        have Hr := Lib.hid hR
        clear hR hrp r4 r5 r6 r7 r1
        go_wp2_with (go_at_call 66; refine (isModeI_any _ _).mono ?_; rintro e w' ⟨rfl, rfl⟩)
        refine (HA.out _ (HM.out.below B1.out)).mono ?_
        rintro e w3 ⟨rfl, b3⟩
        have B3 := Lib.hid (Below.step b3 B1.out.size B1.out)
        have z3 : w.heap.size < w3.heap.size := Nat.lt_of_lt_of_le hzw b3.size
        have q13 : w3.cell? ⟨w.heap.size, 1, none⟩ = some (.int .i64 b) := (b3.cell (p := ⟨w.heap.size, 1, none⟩) hzw).trans q1
        obtain ⟨bt, ot, nA, nC, kA, kC, rfl, hbt, _, _, _, y2, _⟩ := (H.out.below B3.out).at_ (kth_at hm)
        clear b3 q0 q1 q2 q3
        go_wp2_with fail
        refine wp_region_Z (fun w' => w'.cell? ⟨w.heap.size, 1, none⟩ = some (.int .i64 b) ∧ w'.cell? ⟨bt, ot + m * 7 + 2, none⟩ = some (.int .i64 (kth t m).gr)) 14 (by kernel_rfl) ?_ (fun hHeld => ?_)
        · (try dsimp only)
          first | exact ⟨by assumption, by assumption⟩ | (go_simp; done) | (constructor <;> (first | assumption | (go_simp; done)))
        refine zkP (i := 0) (v := ?_) rfl (by kernel_rfl) (by kernel_rfl) (fun _ _ _ h => h) rfl ?_ (by assumption) ?_; rotate_left; (focus (intro w; go_simp; try with_reducible rfl))
        try simp only [Act.put, List.getElem_toArray, List.getElem_cons_succ, List.getElem_cons_zero, List.setIfInBounds_toArray, List.set_cons_zero, List.set_cons_succ]
        refine zkP (i := 2) (v := ?_) rfl (by kernel_rfl) (by kernel_rfl) (fun _ _ _ h => h) rfl ?_ (by assumption) ?_; rotate_left; (focus (intro w; go_simp; try with_reducible rfl))
        try simp only [Act.put, List.getElem_toArray, List.getElem_cons_succ, List.getElem_cons_zero, List.setIfInBounds_toArray, List.set_cons_zero, List.set_cons_succ]
        refine zkP (i := 3) (v := ?_) rfl (by kernel_rfl) (by kernel_rfl) (fun _ _ _ h => h) rfl ?_ (by assumption) ?_; rotate_left; (focus (intro w; go_simp; try with_reducible rfl))
        try simp only [Act.put, List.getElem_toArray, List.getElem_cons_succ, List.getElem_cons_zero, List.setIfInBounds_toArray, List.set_cons_zero, List.set_cons_succ]
        refine zkL (i := 4) (v := ?_) rfl (by kernel_rfl) (by kernel_rfl) (fun _ _ _ h => h) (by kernel_rfl) ?_ (by assumption) ?_; rotate_left; (focus (intro w hSw; (try dsimp only at hSw); go_simp; try with_reducible rfl))
        try simp only [Act.put, List.getElem_toArray, List.getElem_cons_succ, List.getElem_cons_zero, List.setIfInBounds_toArray, List.set_cons_zero, List.set_cons_succ]
        refine zkP (i := 5) (v := ?_) rfl (by kernel_rfl) (by kernel_rfl) (fun _ _ _ h => h) rfl ?_ (by assumption) ?_; rotate_left; (focus (intro w; go_simp; try with_reducible rfl))
        try simp only [Act.put, List.getElem_toArray, List.getElem_cons_succ, List.getElem_cons_zero, List.setIfInBounds_toArray, List.set_cons_zero, List.set_cons_succ]
        refine zkP (i := 6) (v := ?_) rfl (by kernel_rfl) (by kernel_rfl) (fun _ _ _ h => h) rfl ?_ (by assumption) ?_; rotate_left; (focus (intro w; go_simp; try with_reducible rfl))
        try simp only [Act.put, List.getElem_toArray, List.getElem_cons_succ, List.getElem_cons_zero, List.setIfInBounds_toArray, List.set_cons_zero, List.set_cons_succ]
        refine zkP (i := 7) (v := ?_) rfl (by kernel_rfl) (by kernel_rfl) (fun _ _ _ h => h) rfl ?_ (by assumption) ?_; rotate_left; (focus (intro w; go_simp; try with_reducible rfl))
        try simp only [Act.put, List.getElem_toArray, List.getElem_cons_succ, List.getElem_cons_zero, List.setIfInBounds_toArray, List.set_cons_zero, List.set_cons_succ]
        refine zkP (i := 8) (v := ?_) rfl (by kernel_rfl) (by kernel_rfl) (fun _ _ _ h => h) rfl ?_ (by assumption) ?_; rotate_left; (focus (intro w; go_simp; try with_reducible rfl))
        try simp only [Act.put, List.getElem_toArray, List.getElem_cons_succ, List.getElem_cons_zero, List.setIfInBounds_toArray, List.set_cons_zero, List.set_cons_succ]
        refine zkL (i := 9) (v := ?_) rfl (by kernel_rfl) (by kernel_rfl) (fun _ _ _ h => h) (by kernel_rfl) ?_ (by assumption) ?_; rotate_left; (focus (intro w hSw; (try dsimp only at hSw); go_simp; try with_reducible rfl))
        try simp only [Act.put, List.getElem_toArray, List.getElem_cons_succ, List.getElem_cons_zero, List.setIfInBounds_toArray, List.set_cons_zero, List.set_cons_succ]
        refine zkP (i := 10) (v := ?_) rfl (by kernel_rfl) (by kernel_rfl) (fun _ _ _ h => h) rfl ?_ (by assumption) ?_; rotate_left; (focus (intro w; go_simp; try with_reducible rfl))
        try simp only [Act.put, List.getElem_toArray, List.getElem_cons_succ, List.getElem_cons_zero, List.setIfInBounds_toArray, List.set_cons_zero, List.set_cons_succ]
        refine zkP (i := 11) (v := ?_) rfl (by kernel_rfl) (by kernel_rfl) (fun _ _ _ h => h) rfl ?_ (by assumption) ?_; rotate_left; (focus (intro w; go_simp; try with_reducible rfl))
        try simp only [Act.put, List.getElem_toArray, List.getElem_cons_succ, List.getElem_cons_zero, List.setIfInBounds_toArray, List.set_cons_zero, List.set_cons_succ]
        refine wpAnyZ_ready (rs := [1, 12]) (by kernel_rfl) (by simp) ?_
        refine AllReadyZ.keep rfl (fun K hK => ?_) (AllReadyZ.keep rfl (fun K hK => ?_) (AllReadyZ.nil))
        ·
          go_simp
          go_at_call 41
          refine (HC.out _ (H.out.below (Below.trans B3.out (Below.mono (show Below w3.heap.size w3 _ from (by (repeat (first | exact Below.refl _ _ | exact Hbl.out | refine Below.ext ?_ (by first | omega | (simp; omega) | simp) | refine Below.setCell ?_ (by first | omega | (simp; omega) | simp) _ | refine Below.alloc ?_ (by first | omega | (simp; omega) | simp) _ | refine Below.drew ?_ | refine below_drewN ?_ _ | refine Below.step (by assumption) (by first | omega | (simp; omega) | simp) ?_)))) B3.out.size))) Few1.out).mono ?_
          rintro e w4 ⟨v4, cs, rfl, hT4, b4⟩
          have q14 : w4.cell? ⟨w.heap.size, 1, none⟩ = some (.int .i64 b) := (b4.cell (p := ⟨w.heap.size, 1, none⟩) (by first | omega | (simp; omega))).trans (by go_simp)
          have y24 : w4.cell? ⟨bt, ot + m * 7 + 2, none⟩ = some (.int .i64 (kth t m).gr) := (b4.cell (p := ⟨bt, ot + m * 7 + 2, none⟩) (by first | omega | (simp; omega))).trans (by go_simp)
          have L4 := b4
          have e34 : Below w3.heap.size w3 w4 := Below.step b4 (by first | omega | (simp; done) | (simp; omega)) (by (repeat (first | exact Below.refl _ _ | exact Hbl.out | refine Below.ext ?_ (by first | omega | (simp; omega) | simp) | refine Below.setCell ?_ (by first | omega | (simp; omega) | simp) _ | refine Below.alloc ?_ (by first | omega | (simp; omega) | simp) _ | refine Below.drew ?_ | refine below_drewN ?_ _ | refine Below.step (by assumption) (by first | omega | (simp; omega) | simp) ?_)))
          have z4 : w3.heap.size ≤ w4.heap.size := e34.size
          obtain ⟨A4, k4, rfl⟩ := (show TreeO _ w4 v4 t from ⟨cs, hT4⟩).shape
          have HT4 := Lib.hid (hT4.mono (show w3.heap.size ≤ _ from by first | omega | (simp; done) | (simp; omega)))
          have HE4 := Lib.hid e34
          clear hT4 b4 e34
          refine hK.out _ _ ?_ (fun hHeld => ?_)
          · (try dsimp only)
            first | exact ⟨by assumption, by assumption⟩ | (go_simp; done) | (constructor <;> (first | assumption | (go_simp; done)))
          clear hK K
          try simp only [Act.put, List.getElem_toArray, List.getElem_cons_succ, List.getElem_cons_zero, List.setIfInBounds_toArray, List.set_cons_zero, List.set_cons_succ]
          refine wpAnyZ_ready (rs := [12]) (by kernel_rfl) (by simp) ?_
          refine AllReadyZ.keep rfl (fun K hK => ?_) (AllReadyZ.nil)
          go_simp
          refine hK.out _ _ ?_ (fun hHeld => ?_)
          · (try dsimp only)
            first | exact ⟨by assumption, by assumption⟩ | (go_simp; done) | (constructor <;> (first | assumption | (go_simp; done)))
          clear hK K
          try simp only [Act.put, List.getElem_toArray, List.getElem_cons_succ, List.getElem_cons_zero, List.setIfInBounds_toArray, List.set_cons_zero, List.set_cons_succ]
          refine wpAnyZ_ready (rs := [13]) (by kernel_rfl) (by simp) ?_
          refine AllReadyZ.keep rfl (fun K hK => ?_) (AllReadyZ.nil)
          refine step_appG fitEC _ rfl (.tmp 44) (.tmp 55) rfl w3.heap.size (.slice A4 t.length k4) cs rfl ?_ _ [(⟨fo, b, (kth t m).gr, mode, ByteArray.empty, none, 0, 0, none, 0, 0⟩ : Cn)] rfl ?_ ?_ ?_ ?_
          · first | exact HT4.out.row | exact ownG_alloc HT4.out.row _
          · refine slG_one (by first | (simp; done) | (have := L4.size; simp at this; omega)) ?_
            intro j u hu
            rcases j with _ | _ | _ | _ | _ | _ | _ | j <;> simp [EC, Cn.cells] at hu <;> subst hu <;> first | (go_simp; done) | (go_simp; rfl) | exact (L4.cell (p := ⟨w3.heap.size, _, none⟩) (by simp)).trans (by first | (go_simp; done) | (go_simp; rfl))
          · have := HT4.out.len; simp; omega
          · first | omega | (simp; omega)
          rintro v5 w5 ha5 hb5
          have q15 : w5.cell? ⟨w.heap.size, 1, none⟩ = some (.int .i64 b) := (hb5.cell (p := ⟨w.heap.size, 1, none⟩) (by omega)).trans (by go_simp)
          have y25 : w5.cell? ⟨bt, ot + m * 7 + 2, none⟩ = some (.int .i64 (kth t m).gr) := (hb5.cell (p := ⟨bt, ot + m * 7 + 2, none⟩) (by omega)).trans (by go_simp)
          have hT5 := TreeC.push (x := newNd fo b (kth t m).gr mode) (c := ⟨fo, b, (kth t m).gr, mode, ByteArray.empty, none, 0, 0, none, 0, 0⟩) (by first | exact HT4.out | exact HT4.out.below (Below.alloc (Below.refl _ _) (Nat.le_refl _) _)) ⟨rfl, rfl, rfl, rfl, rfl, ownG_none _ _, ownG_none _ _, (by show ByteArray.empty.size ≤ maxLen; decide), fun s hs => by cases hs⟩ (fun _ _ _ => ⟨.inl rfl, .inl rfl⟩) ha5
          have e35 : Below w3.heap.size w3 w5 := Below.trans (by first | exact HE4.out | exact Below.alloc HE4.out z4 _) hb5
          have HT5 := Lib.hid hT5
          have HE5 := Lib.hid e35
          clear ha5 hb5 hT5 e35 L4 q14 y24
          refine hK.out _ _ ?_ (fun hHeld => ?_)
          · (try dsimp only)
            first | exact ⟨by assumption, by assumption⟩ | (go_simp; done) | (constructor <;> (first | assumption | (go_simp; done)))
          clear hK K
          try simp only [Act.put, List.getElem_toArray, List.getElem_cons_succ, List.getElem_cons_zero, List.setIfInBounds_toArray, List.set_cons_zero, List.set_cons_succ]
          refine wpAnyZ_ready (rs := [14]) (by kernel_rfl) (by simp) ?_
          refine AllReadyZ.last rfl (by kernel_rfl) (fun K hK => ?_) (AllReadyZ.nil)
          go_simp
          refine hK.out _ _ ?_
          clear hK K
          try simp only [Act.put, List.getElem_toArray, List.getElem_cons_succ, List.getElem_cons_zero, List.setIfInBounds_toArray, List.set_cons_zero, List.set_cons_succ]
          refine wpAnyZ_done (by kernel_rfl) ?_ _
          obtain ⟨A5, k5, rfl⟩ := (show TreeO _ w5 v5 _ from ⟨_, HT5.out⟩).shape
          have hm5 : m < (t ++ [newNd fo b (kth t m).gr mode]).length := by simp; omega
          have hk5 : kth (t ++ [newNd fo b (kth t m).gr mode]) m = kth t m := by
            unfold kth
            rw [List.getD_eq_getElem?_getD, List.getD_eq_getElem?_getD, List.getElem?_append_left hm]
          obtain ⟨g, c0, rfl, _⟩ := HT5.out.at_ hm5
          have hl5 : (t ++ [newNd fo b (kth t m).gr mode]).length = t.length + 1 := by simp
          have hm6 : (m : Int) < ((t ++ [newNd fo b (kth t m).gr mode]).length : Int) := by omega
          have HN := Lib.hid (addT_of (lastF S1.data.toList) (t.length : Int) HT5.out hm5 (by rw [hk5]; exact Has.out) (by rw [hk5]; exact Hls.out) (by rw [hk5]; exact (Few1.out m hm).1) HE5.out.size hlq)
          rw [hk5] at HN
          have e5 : (t ++ [newNd fo b (kth t m).gr mode]).set m (putF (kth t m) (lastF S1.data.toList) (t.length : Int)) = t.set m (putF (kth t m) (lastF S1.data.toList) (t.length : Int)) ++ [newNd fo b (kth t m).gr mode] := List.set_append_left _ _ hm
          rw [e5] at HN
          clear e5 hk5
          have Hl5 := Lib.hid hl5
          clear hl5
          go_wp2_with fail
          refine HN.out.mono ?_
          rintro e w6 ⟨rfl, ⟨cs', hT6⟩, b6⟩
          rw [Hl5.out] at hT6
          have HT6 := Lib.hid (hT6.mono B3.out.size)
          have B6 := Lib.hid (Below.trans B3.out (Below.mono (Below.trans HE5.out b6) B3.out.size))
          clear hT6 b6
          go_wp2
          go_ret2
          exact ⟨_, by rw [Hr.out]; rfl, by rw [Hr.out]; exact ⟨_, HT6.out⟩, B6.out⟩
        ·
          go_simp
          refine hK.out _ _ ?_ (fun hHeld => ?_)
          · (try dsimp only)
            first | exact ⟨by assumption, by assumption⟩ | (go_simp; done) | (constructor <;> (first | assumption | (go_simp; done)))
          clear hK K
          try simp only [Act.put, List.getElem_toArray, List.getElem_cons_succ, List.getElem_cons_zero, List.setIfInBounds_toArray, List.set_cons_zero, List.set_cons_succ]
          refine wpAnyZ_ready (rs := [1]) (by kernel_rfl) (by simp) ?_
          refine AllReadyZ.keep rfl (fun K hK => ?_) (AllReadyZ.nil)
          go_simp
          go_at_call 41
          refine (HC.out _ (H.out.below (Below.trans B3.out (Below.mono (show Below w3.heap.size w3 _ from (by (repeat (first | exact Below.refl _ _ | exact Hbl.out | refine Below.ext ?_ (by first | omega | (simp; omega) | simp) | refine Below.setCell ?_ (by first | omega | (simp; omega) | simp) _ | refine Below.alloc ?_ (by first | omega | (simp; omega) | simp) _ | refine Below.drew ?_ | refine below_drewN ?_ _ | refine Below.step (by assumption) (by first | omega | (simp; omega) | simp) ?_)))) B3.out.size))) Few1.out).mono ?_
          rintro e w4 ⟨v4, cs, rfl, hT4, b4⟩
          have q14 : w4.cell? ⟨w.heap.size, 1, none⟩ = some (.int .i64 b) := (b4.cell (p := ⟨w.heap.size, 1, none⟩) (by first | omega | (simp; omega))).trans (by go_simp)
          have y24 : w4.cell? ⟨bt, ot + m * 7 + 2, none⟩ = some (.int .i64 (kth t m).gr) := (b4.cell (p := ⟨bt, ot + m * 7 + 2, none⟩) (by first | omega | (simp; omega))).trans (by go_simp)
          have L4 := b4
          have e34 : Below w3.heap.size w3 w4 := Below.step b4 (by first | omega | (simp; done) | (simp; omega)) (by (repeat (first | exact Below.refl _ _ | exact Hbl.out | refine Below.ext ?_ (by first | omega | (simp; omega) | simp) | refine Below.setCell ?_ (by first | omega | (simp; omega) | simp) _ | refine Below.alloc ?_ (by first | omega | (simp; omega) | simp) _ | refine Below.drew ?_ | refine below_drewN ?_ _ | refine Below.step (by assumption) (by first | omega | (simp; omega) | simp) ?_)))
          have z4 : w3.heap.size ≤ w4.heap.size := e34.size
          obtain ⟨A4, k4, rfl⟩ := (show TreeO _ w4 v4 t from ⟨cs, hT4⟩).shape
          have HT4 := Lib.hid (hT4.mono (show w3.heap.size ≤ _ from by first | omega | (simp; done) | (simp; omega)))
          have HE4 := Lib.hid e34
          clear hT4 b4 e34
          refine hK.out _ _ ?_ (fun hHeld => ?_)
          · (try dsimp only)
            first | exact ⟨by assumption, by assumption⟩ | (go_simp; done) | (constructor <;> (first | assumption | (go_simp; done)))
          clear hK K
          try simp only [Act.put, List.getElem_toArray, List.getElem_cons_succ, List.getElem_cons_zero, List.setIfInBounds_toArray, List.set_cons_zero, List.set_cons_succ]
          refine wpAnyZ_ready (rs := [13]) (by kernel_rfl) (by simp) ?_
          refine AllReadyZ.keep rfl (fun K hK => ?_) (AllReadyZ.nil)
          refine step_appG fitEC _ rfl (.tmp 44) (.tmp 55) rfl w3.heap.size (.slice A4 t.length k4) cs rfl ?_ _ [(⟨fo, b, (kth t m).gr, mode, ByteArray.empty, none, 0, 0, none, 0, 0⟩ : Cn)] rfl ?_ ?_ ?_ ?_
          · first | exact HT4.out.row | exact ownG_alloc HT4.out.row _
          · refine slG_one (by first | (simp; done) | (have := L4.size; simp at this; omega)) ?_
            intro j u hu
            rcases j with _ | _ | _ | _ | _ | _ | _ | j <;> simp [EC, Cn.cells] at hu <;> subst hu <;> first | (go_simp; done) | (go_simp; rfl) | exact (L4.cell (p := ⟨w3.heap.size, _, none⟩) (by simp)).trans (by first | (go_simp; done) | (go_simp; rfl))
          · have := HT4.out.len; simp; omega
          · first | omega | (simp; omega)
          rintro v5 w5 ha5 hb5
          have q15 : w5.cell? ⟨w.heap.size, 1, none⟩ = some (.int .i64 b) := (hb5.cell (p := ⟨w.heap.size, 1, none⟩) (by omega)).trans (by go_simp)
          have y25 : w5.cell? ⟨bt, ot + m * 7 + 2, none⟩ = some (.int .i64 (kth t m).gr) := (hb5.cell (p := ⟨bt, ot + m * 7 + 2, none⟩) (by omega)).trans (by go_simp)
          have hT5 := TreeC.push (x := newNd fo b (kth t m).gr mode) (c := ⟨fo, b, (kth t m).gr, mode, ByteArray.empty, none, 0, 0, none, 0, 0⟩) (by first | exact HT4.out | exact HT4.out.below (Below.alloc (Below.refl _ _) (Nat.le_refl _) _)) ⟨rfl, rfl, rfl, rfl, rfl, ownG_none _ _, ownG_none _ _, (by show ByteArray.empty.size ≤ maxLen; decide), fun s hs => by cases hs⟩ (fun _ _ _ => ⟨.inl rfl, .inl rfl⟩) ha5
          have e35 : Below w3.heap.size w3 w5 := Below.trans (by first | exact HE4.out | exact Below.alloc HE4.out z4 _) hb5
          have HT5 := Lib.hid hT5
          have HE5 := Lib.hid e35
          clear ha5 hb5 hT5 e35 L4 q14 y24
          refine hK.out _ _ ?_ (fun hHeld => ?_)
          · (try dsimp only)
            first | exact ⟨by assumption, by assumption⟩ | (go_simp; done) | (constructor <;> (first | assumption | (go_simp; done)))
          clear hK K
          try simp only [Act.put, List.getElem_toArray, List.getElem_cons_succ, List.getElem_cons_zero, List.setIfInBounds_toArray, List.set_cons_zero, List.set_cons_succ]
          refine wpAnyZ_ready (rs := [14]) (by kernel_rfl) (by simp) ?_
          refine AllReadyZ.last rfl (by kernel_rfl) (fun K hK => ?_) (AllReadyZ.nil)
          go_simp
          refine hK.out _ _ ?_
          clear hK K
          try simp only [Act.put, List.getElem_toArray, List.getElem_cons_succ, List.getElem_cons_zero, List.setIfInBounds_toArray, List.set_cons_zero, List.set_cons_succ]
          refine wpAnyZ_done (by kernel_rfl) ?_ _
          obtain ⟨A5, k5, rfl⟩ := (show TreeO _ w5 v5 _ from ⟨_, HT5.out⟩).shape
          have hm5 : m < (t ++ [newNd fo b (kth t m).gr mode]).length := by simp; omega
          have hk5 : kth (t ++ [newNd fo b (kth t m).gr mode]) m = kth t m := by
            unfold kth
            rw [List.getD_eq_getElem?_getD, List.getD_eq_getElem?_getD, List.getElem?_append_left hm]
          obtain ⟨g, c0, rfl, _⟩ := HT5.out.at_ hm5
          have hl5 : (t ++ [newNd fo b (kth t m).gr mode]).length = t.length + 1 := by simp
          have hm6 : (m : Int) < ((t ++ [newNd fo b (kth t m).gr mode]).length : Int) := by omega
          have HN := Lib.hid (addT_of (lastF S1.data.toList) (t.length : Int) HT5.out hm5 (by rw [hk5]; exact Has.out) (by rw [hk5]; exact Hls.out) (by rw [hk5]; exact (Few1.out m hm).1) HE5.out.size hlq)
          rw [hk5] at HN
          have e5 : (t ++ [newNd fo b (kth t m).gr mode]).set m (putF (kth t m) (lastF S1.data.toList) (t.length : Int)) = t.set m (putF (kth t m) (lastF S1.data.toList) (t.length : Int)) ++ [newNd fo b (kth t m).gr mode] := List.set_append_left _ _ hm
          rw [e5] at HN
          clear e5 hk5
          have Hl5 := Lib.hid hl5
          clear hl5
          go_wp2_with fail
          refine HN.out.mono ?_
          rintro e w6 ⟨rfl, ⟨cs', hT6⟩, b6⟩
          rw [Hl5.out] at hT6
          have HT6 := Lib.hid (hT6.mono B3.out.size)
          have B6 := Lib.hid (Below.trans B3.out (Below.mono (Below.trans HE5.out b6) B3.out.size))
          clear hT6 b6
          go_wp2
          go_ret2
          exact ⟨_, by rw [Hr.out]; rfl, by rw [Hr.out]; exact ⟨_, HT6.out⟩, B6.out⟩
    · rw [if_pos hpl] at hR
      have d1 : (p2 != 0) = true := by simpa using hpl
      have Hr := Lib.hid hR
      clear hR hrp
      go_wp2_with (go_at_call 66; refine (isModeI_any _ _).mono ?_; rintro e w' ⟨rfl, rfl⟩)
      go_ret2
      exact ⟨_, by rw [Hr.out]; rfl, by rw [Hr.out]; exact ⟨[], treeC_empty (ownG_none _ _)⟩, B1.out⟩
end Go.Proofs.YtkennmpbmbacpaaGreatDoor
