/- The package's MoveName. -/
import Derived.Test.YtkennmpbmbacpaaGreatDoorDelT
import Derived.Test.YtkennmpbmbacpaaGreatDoorMoveP
import Derived.Test.YtkennmpbmbacpaaGreatDoorMayDrop
set_option linter.unusedSimpArgs false
set_option linter.unusedVariables false
set_option linter.unusedSectionVars false
namespace Go.Proofs.YtkennmpbmbacpaaGreatDoor
open Go.RowKit

set_option maxRecDepth 100000 in
set_option maxHeartbeats 600000 in
theorem moveI_of (v : Value) (t : List Nd) (a b c d : Int) (S1 S2 : ByteArray) (w : World) (hM : MaxL w) (h : TreeR w v t) (ht : t.length ≤ 1000) (hkz : (kidsOf t).length ≤ 1000000) (hs1 : S1.size ≤ 1048576) (hs2 : S2.size ≤ 1048576) :
    Calls Tryz.prog 36 #[v, .agg #[.int .i64 a, .int .i64 b, .int .i64 c, .int .i64 d], .string S1, .string S2] w fun e w' => ∃ v', e = .returned (.tuple #[v', .int .i64 (moveF t a b c d S1.data.toList S2.data.toList).2]) ∧ TreeO w.heap.size w' v' (moveF t a b c d S1.data.toList S2.data.toList).1 ∧ Below w.heap.size w w' := by
  have hD := fun w hm h => dropOfI_of v t a b c d S1 true w hm h ht hkz hs1
  have hU := fun w hm h => upI_of v t a b c d S1 w hm h ht hkz hs1
  have hP := fun w hm h => placeI_of v t a b c d S2 w hm h ht hkz hs2
  have hA := fun w hm => aboveI_of S2 w hm hs2
  unfold AbvGot at hA
  have hC := fun w h hf => copyI_of v t w h ht hf
  have hlq : (lastF S2.data.toList).length ≤ 1048576 := lastF_len (by have : S2.data.toList.length = S2.size := Array.length_toList; omega)
  have hdy := @dropOf_yes t a b c d S1.data.toList true
  have hur := @up_range t a b c d S1.data.toList
  have hrp := @placeF_yes t a b c d S2.data.toList
  have hqb : aboveOk S2.data.toList = true → nameB (lastF S2.data.toList) = true := fun h => (above_split h).2.2.2
  obtain ⟨R, hR⟩ : ∃ R, R = moveF t a b c d S1.data.toList S2.data.toList := ⟨_, rfl⟩
  rw [← hR]
  unfold moveF at hR
  generalize upF t a b c d S1.data.toList = U at hU hdy hur hR
  generalize dropOf t a b c d S1.data.toList true = D at hD hdy hR
  generalize placeF t a b c d S2.data.toList = P at hP hrp hR
  generalize lastF S1.data.toList = sp at hU hdy hR
  generalize lastF S2.data.toList = sq at hA hlq hrp hR
  obtain ⟨u1, u2⟩ := U
  obtain ⟨p1, p2⟩ := P
  simp only at hU hP hdy hur hrp hR
  have H := Lib.hid h
  have HM := Lib.hid hM
  have HD := Lib.hid hD
  have HP := Lib.hid hP
  have HA := Lib.hid hA
  have HC := Lib.hid hC
  obtain ⟨A, cap, rfl⟩ := h.shape
  have hcap := h.caps
  clear h hD hP hA hC hM
  go_enter Tryz.func36, Tryz.ntmps36
  go_wp2_with fail
  refine (HD.out _ (HM.out.below (by (repeat (first | exact Below.refl _ _ | exact Hbl.out | refine Below.ext ?_ (by first | omega | (simp; omega) | simp) | refine Below.setCell ?_ (by first | omega | (simp; omega) | simp) _ | refine Below.alloc ?_ (by first | omega | (simp; omega) | simp) _ | refine Below.drew ?_ | refine below_drewN ?_ _ | refine Below.step (by assumption) (by first | omega | (simp; omega) | simp) ?_)))) (H.out.below (by (repeat (first | exact Below.refl _ _ | exact Hbl.out | refine Below.ext ?_ (by first | omega | (simp; omega) | simp) | refine Below.setCell ?_ (by first | omega | (simp; omega) | simp) _ | refine Below.alloc ?_ (by first | omega | (simp; omega) | simp) _ | refine Below.drew ?_ | refine below_drewN ?_ _ | refine Below.step (by assumption) (by first | omega | (simp; omega) | simp) ?_))))).mono ?_
  rintro e w1 ⟨rfl, b1⟩
  have q0 : w1.cell? ⟨w.heap.size, 0, none⟩ = some (.int .i64 a) := (b1.cell (p := ⟨w.heap.size, 0, none⟩) (by first | (simp; done) | (simp; omega) | omega)).trans (by first | assumption | go_simp)
  have q1 : w1.cell? ⟨w.heap.size, 1, none⟩ = some (.int .i64 b) := (b1.cell (p := ⟨w.heap.size, 1, none⟩) (by first | (simp; done) | (simp; omega) | omega)).trans (by first | assumption | go_simp)
  have q2 : w1.cell? ⟨w.heap.size, 2, none⟩ = some (.int .i64 c) := (b1.cell (p := ⟨w.heap.size, 2, none⟩) (by first | (simp; done) | (simp; omega) | omega)).trans (by first | assumption | go_simp)
  have q3 : w1.cell? ⟨w.heap.size, 3, none⟩ = some (.int .i64 d) := (b1.cell (p := ⟨w.heap.size, 3, none⟩) (by first | (simp; done) | (simp; omega) | omega)).trans (by first | assumption | go_simp)
  have hzw : w.heap.size < w1.heap.size := by have := b1.size; simp at this; omega
  have B1 := Lib.hid (Below.step b1 (by simp) (show Below w.heap.size w _ from (by (repeat (first | exact Below.refl _ _ | exact Hbl.out | refine Below.ext ?_ (by first | omega | (simp; omega) | simp) | refine Below.setCell ?_ (by first | omega | (simp; omega) | simp) _ | refine Below.alloc ?_ (by first | omega | (simp; omega) | simp) _ | refine Below.drew ?_ | refine below_drewN ?_ _ | refine Below.step (by assumption) (by first | omega | (simp; omega) | simp) ?_)))))
  clear b1
  by_cases hd0 : D = 0
  · subst hd0
    rw [if_neg (by simp)] at hR
    obtain ⟨e1, e2, _⟩ := hdy rfl
    subst e1
    rw [if_pos rfl] at hU
    have HU := Lib.hid hU
    obtain ⟨m, rfl, hm, hv, -⟩ := hur rfl
    rw [Int.toNat_natCast] at e2 hR
    have hm' : (m : Int) < (t.length : Int) := by omega
    have hls := head_ks (tree_node hv hm)
    have hasc := asc_of (tree_node hv hm)
    have hfew := (few_of hv hkz m hm).1
    have hsm : sp ∈ (kth t m).ns := by
      rcases kidF_nth (s := sp) hls with e | ⟨_, _, _, e⟩
      · omega
      · exact e
    obtain ⟨_, k2, _⟩ := kidF_down hv hm e2
    have Hkid := Lib.hid (fun nA nC kA kC w h => kidI_of nA nC kA kC (kth t m) sp w h hls hasc hfew)
    obtain ⟨k, hk⟩ : ∃ k : Nat, kidF (kth t m) sp = (k : Int) := ⟨(kidF (kth t m) sp).toNat, by omega⟩
    rw [hk] at Hkid hR k2
    rw [Int.toNat_natCast] at hR
    have hkl : k < t.length := by omega
    have hkl' : (k : Int) < (t.length : Int) := by omega
    have Hv := Lib.hid hv
    have Hls := Lib.hid hls
    have Has := Lib.hid hasc
    have Hsm := Lib.hid hsm
    have Few1 := Lib.hid (few_of hv hkz)
    clear hU hur hdy hk e2 k2 hls hasc hsm hv
    go_wp2_with fail
    refine (HU.out _ (HM.out.below B1.out) (H.out.below B1.out)).mono ?_
    rintro e w2 ⟨rfl, b2⟩
    have r0 : w2.cell? ⟨w.heap.size, 0, none⟩ = some (.int .i64 a) := (b2.cell (p := ⟨w.heap.size, 0, none⟩) hzw).trans q0
    have r1 : w2.cell? ⟨w.heap.size, 1, none⟩ = some (.int .i64 b) := (b2.cell (p := ⟨w.heap.size, 1, none⟩) hzw).trans q1
    have r2 : w2.cell? ⟨w.heap.size, 2, none⟩ = some (.int .i64 c) := (b2.cell (p := ⟨w.heap.size, 2, none⟩) hzw).trans q2
    have r3 : w2.cell? ⟨w.heap.size, 3, none⟩ = some (.int .i64 d) := (b2.cell (p := ⟨w.heap.size, 3, none⟩) hzw).trans q3
    have hzw2 : w.heap.size < w2.heap.size := Nat.lt_of_lt_of_le hzw b2.size
    have B2 := Lib.hid (Below.step b2 B1.out.size B1.out)
    obtain ⟨bt, ot, nA, nC, kA, kC, rfl, hbt, hS, y0, y1, y2, y3, y4, y5, y6⟩ := (H.out.below B2.out).at_ (kth_at hm)
    have HS := Lib.hid hS
    clear b2 hS q0 q1 q2 q3 HU HD
    go_wp2_with fail
    refine (Hkid.out _ _ _ _ _ (HS.out.below (by (repeat (first | exact Below.refl _ _ | exact Hbl.out | refine Below.ext ?_ (by first | omega | (simp; omega) | simp) | refine Below.setCell ?_ (by first | omega | (simp; omega) | simp) _ | refine Below.alloc ?_ (by first | omega | (simp; omega) | simp) _ | refine Below.drew ?_ | refine below_drewN ?_ _ | refine Below.step (by assumption) (by first | omega | (simp; omega) | simp) ?_))))).mono ?_
    rintro e w3 ⟨rfl, b3⟩
    have q0 : w3.cell? ⟨w.heap.size, 0, none⟩ = some (.int .i64 a) := (b3.cell (p := ⟨w.heap.size, 0, none⟩) hzw2).trans r0
    have q1 : w3.cell? ⟨w.heap.size, 1, none⟩ = some (.int .i64 b) := (b3.cell (p := ⟨w.heap.size, 1, none⟩) hzw2).trans r1
    have q2 : w3.cell? ⟨w.heap.size, 2, none⟩ = some (.int .i64 c) := (b3.cell (p := ⟨w.heap.size, 2, none⟩) hzw2).trans r2
    have q3 : w3.cell? ⟨w.heap.size, 3, none⟩ = some (.int .i64 d) := (b3.cell (p := ⟨w.heap.size, 3, none⟩) hzw2).trans r3
    have B3 := Lib.hid (Below.step b3 B2.out.size B2.out)
    clear b3 r0 r1 r2 r3 y0 y1 y2 y3 y4 y5 y6 HS Hkid
    go_wp2_with fail
    refine (HP.out _ (HM.out.below B3.out) (H.out.below B3.out)).mono ?_
    rintro e w4 ⟨rfl, b4⟩
    have B4 := Lib.hid (Below.step b4 B3.out.size B3.out)
    clear b4 q0 q1 q2 q3
    by_cases hpl : p2 = 0
    · subst hpl
      rw [if_neg (by simp)] at hR
      obtain ⟨-, -, s3, s4, s5, s6, s7⟩ := hrp rfl
      obtain ⟨n, rfl⟩ : ∃ n : Nat, p1 = (n : Int) := ⟨p1.toNat, by omega⟩
      have hn : n < t.length := by omega
      have hn' : (n : Int) < (t.length : Int) := by omega
      rw [Int.toNat_natCast] at hR s6 s7
      obtain ⟨bt', ot', nA', nC', kA', kC', e, _, _, y0, _⟩ := (H.out.below B4.out).at_ (kth_at hkl)
      cases e
      clear hrp s3 s6 s7
      have hcs : ((kth t k).fo = true ∧ ¬ n = m) ∨ ((kth t k).fo = false) ∨ ((kth t k).fo = true ∧ n = m) := by
        cases (kth t k).fo
        · exact .inr (.inl rfl)
        · by_cases h : n = m
          · exact .inr (.inr ⟨rfl, h⟩)
          · exact .inl ⟨rfl, h⟩
      rcases hcs with ⟨hf, hne⟩ | hf | ⟨hf, hne⟩
      · rw [hf] at y0
        rw [if_pos ⟨hf, by omega⟩] at hR
        have hne' : ¬ (n : Int) = (m : Int) := by omega
        have Hr := Lib.hid hR
        clear hR
        go_wp2
        go_ret2
        exact ⟨_, by rw [Hr.out]; rfl, by rw [Hr.out]; exact ⟨[], treeC_empty (ownG_none _ _)⟩, B4.out⟩
      ·
        rw [hf] at y0
        rw [if_neg (by rw [hf]; simp)] at hR
        have Hr := Lib.hid hR
        clear hR
        go_wp2_with fail
        refine (HA.out _ (HM.out.below B4.out)).mono ?_
        rintro e w5 ⟨rfl, b5⟩
        have B5 := Lib.hid (Below.step b5 B4.out.size B4.out)
        clear b5 y0
        go_wp2_with fail
        refine (HC.out _ (H.out.below B5.out) Few1.out).mono ?_
        rintro e W ⟨v6, cs, rfl, hT, b6⟩
        have B6 := Lib.hid (Below.step b6 B5.out.size B5.out)
        have HT0 := Lib.hid hT
        obtain ⟨A6, k6', rfl⟩ := (show TreeO _ W v6 t from ⟨cs, hT⟩).shape
        obtain ⟨g, _, rfl, -⟩ := hT.at_ hm
        obtain ⟨B, hBB⟩ : ∃ B, B = w5.heap.size := ⟨_, rfl⟩
        have hB : B ≤ W.heap.size := by rw [hBB]; exact b6.size
        have hwB : w.heap.size ≤ B := by rw [hBB]; exact B5.out.size
        rw [← hBB] at hT
        have HT := Lib.hid hT
        clear hT b6 hBB HT0 B5
        obtain ⟨g', c0, e, hgB, hgW, hcm, hnd, hNS, _, _, _, _, _, z5, z6, zf⟩ := HT.out.at_ hm
        cases e
        have f5 := zf (m * 7 + 5)
        have f6 := zf (m * 7 + 6)
        have hn1 : c0.nL = (kth t m).ns.length := by obtain ⟨_, _, e⟩ := ownG_shape hnd.ns; injection e with _ e _
        have hk1 : c0.kL = (kth t m).ks.length := by obtain ⟨_, _, e⟩ := ownG_shape hnd.ks; injection e with _ e _
        have heN := Lib.hid (show nB c0 = (Value.slice c0.nA (kth t m).ns.length c0.nC).ownBlock by unfold nB; rw [hn1])
        have heK := Lib.hid (show kB c0 = (Value.slice c0.kA (kth t m).ks.length c0.kC).ownBlock by unfold kB; rw [hk1])
        have oN := hnd.ns
        have oK := hnd.ks
        rw [hn1] at oN
        rw [hk1] at oK
        have hgN := sep_ne (ownG_type oN HT.out.row (by decide)) (g := g) rfl
        have hgK := sep_ne (ownG_type oK HT.out.row (by decide)) (g := g) rfl
        have hnz := hnd.nz
        have HoN := Lib.hid oN
        have HoK := Lib.hid oK
        have HNS := Lib.hid hNS
        clear hn1 hk1 oN oK hnd zf hNS
        have HI := Lib.hid (idxI_of c0.nA c0.nC (kth t m) sp W HNS.out.ns Has.out Hsm.out hfew)
        obtain ⟨p, hpp⟩ : ∃ p, p = putAt (kth t m) sp := ⟨_, rfl⟩
        rw [← hpp] at HI
        have hp : p < (kth t m).ns.length := by rw [hpp]; exact (put_there Has.out Hsm.out).1
        have hpk : p < (kth t m).ks.length := by have := Hls.out; omega
        have Hpp := Lib.hid hpp
        have zp : IntKind.i64.wrap ((p : Int) + 1) = (p : Int) + 1 := IntWalk.i64_in _ (by omega)
        clear hpp
        go_wp2_with fail
        refine HI.out.mono ?_
        rintro e W' ⟨rfl, e⟩
        have e2 := e.symm
        clear e
        subst e2
        go_wp2_with fail
        refine wp_region_Z (fun w' => w'.cell? ⟨g, m * 7 + 5, none⟩ = some (.slice c0.nA (kth t m).ns.length c0.nC) ∧ w'.cell? ⟨g, m * 7 + 6, none⟩ = some (.slice c0.kA (kth t m).ks.length c0.kC)) 24 (by kernel_rfl) ?_ (fun hHeld => ?_)
        · (try dsimp only)
          first | exact ⟨by assumption, by assumption⟩ | (go_simp; done) | (constructor <;> (first | assumption | (go_simp; done)))
        refine zkP (i := 0) (v := ?_) rfl (by kernel_rfl) (by kernel_rfl) (fun _ _ _ h => h) rfl ?_ (by assumption) ?_; rotate_left; (focus (intro w; go_simp; try with_reducible rfl))
        try simp only [Act.put, List.getElem_toArray, List.getElem_cons_succ, List.getElem_cons_zero, List.setIfInBounds_toArray, List.set_cons_zero, List.set_cons_succ]
        refine zkP (i := 1) (v := ?_) rfl (by kernel_rfl) (by kernel_rfl) (fun _ _ _ h => h) rfl ?_ (by assumption) ?_; rotate_left; (focus (intro w; go_simp; try with_reducible rfl))
        try simp only [Act.put, List.getElem_toArray, List.getElem_cons_succ, List.getElem_cons_zero, List.setIfInBounds_toArray, List.set_cons_zero, List.set_cons_succ]
        refine zkP (i := 2) (v := ?_) rfl (by kernel_rfl) (by kernel_rfl) (fun _ _ _ h => h) rfl ?_ (by assumption) ?_; rotate_left; (focus (intro w; go_simp; try with_reducible rfl))
        try simp only [Act.put, List.getElem_toArray, List.getElem_cons_succ, List.getElem_cons_zero, List.setIfInBounds_toArray, List.set_cons_zero, List.set_cons_succ]
        refine zkP (i := 3) (v := ?_) rfl (by kernel_rfl) (by kernel_rfl) (fun _ _ _ h => h) rfl ?_ (by assumption) ?_; rotate_left; (focus (intro w; go_simp; try with_reducible rfl))
        try simp only [Act.put, List.getElem_toArray, List.getElem_cons_succ, List.getElem_cons_zero, List.setIfInBounds_toArray, List.set_cons_zero, List.set_cons_succ]
        refine zkP (i := 4) (v := ?_) rfl (by kernel_rfl) (by kernel_rfl) (fun _ _ _ h => h) rfl ?_ (by assumption) ?_; rotate_left; (focus (intro w; go_simp; try with_reducible rfl))
        try simp only [Act.put, List.getElem_toArray, List.getElem_cons_succ, List.getElem_cons_zero, List.setIfInBounds_toArray, List.set_cons_zero, List.set_cons_succ]
        refine zkP (i := 5) (v := ?_) rfl (by kernel_rfl) (by kernel_rfl) (fun _ _ _ h => h) rfl ?_ (by assumption) ?_; rotate_left; (focus (intro w; go_simp; try with_reducible rfl))
        try simp only [Act.put, List.getElem_toArray, List.getElem_cons_succ, List.getElem_cons_zero, List.setIfInBounds_toArray, List.set_cons_zero, List.set_cons_succ]
        refine zkP (i := 6) (v := ?_) rfl (by kernel_rfl) (by kernel_rfl) (fun _ _ _ h => h) rfl ?_ (by assumption) ?_; rotate_left; (focus (intro w; go_simp; try with_reducible rfl))
        try simp only [Act.put, List.getElem_toArray, List.getElem_cons_succ, List.getElem_cons_zero, List.setIfInBounds_toArray, List.set_cons_zero, List.set_cons_succ]
        refine zkP (i := 7) (v := ?_) rfl (by kernel_rfl) (by kernel_rfl) (fun _ _ _ h => h) rfl ?_ (by assumption) ?_; rotate_left; (focus (intro w; go_simp; try with_reducible rfl))
        try simp only [Act.put, List.getElem_toArray, List.getElem_cons_succ, List.getElem_cons_zero, List.setIfInBounds_toArray, List.set_cons_zero, List.set_cons_succ]
        refine zkL (i := 8) (v := ?_) rfl (by kernel_rfl) (by kernel_rfl) (fun _ _ _ h => h) (by kernel_rfl) ?_ (by assumption) ?_; rotate_left; (focus (intro w hSw; (try dsimp only at hSw); go_simp; try with_reducible rfl))
        try simp only [Act.put, List.getElem_toArray, List.getElem_cons_succ, List.getElem_cons_zero, List.setIfInBounds_toArray, List.set_cons_zero, List.set_cons_succ]
        refine zkP (i := 9) (v := ?_) rfl (by kernel_rfl) (by kernel_rfl) (fun _ _ _ h => h) rfl ?_ (by assumption) ?_; rotate_left; (focus (intro w; go_simp; try with_reducible rfl))
        try simp only [Act.put, List.getElem_toArray, List.getElem_cons_succ, List.getElem_cons_zero, List.setIfInBounds_toArray, List.set_cons_zero, List.set_cons_succ]
        refine zkP (i := 10) (v := ?_) rfl (by kernel_rfl) (by kernel_rfl) (fun _ _ _ h => h) rfl ?_ (by assumption) ?_; rotate_left; (focus (intro w; go_simp; try with_reducible rfl))
        try simp only [Act.put, List.getElem_toArray, List.getElem_cons_succ, List.getElem_cons_zero, List.setIfInBounds_toArray, List.set_cons_zero, List.set_cons_succ]
        refine zkP (i := 11) (v := ?_) rfl (by kernel_rfl) (by kernel_rfl) (fun _ _ _ h => h) rfl ?_ (by assumption) ?_; rotate_left; (focus (intro w; go_simp; try with_reducible rfl))
        try simp only [Act.put, List.getElem_toArray, List.getElem_cons_succ, List.getElem_cons_zero, List.setIfInBounds_toArray, List.set_cons_zero, List.set_cons_succ]
        refine zkP (i := 13) (v := ?_) rfl (by kernel_rfl) (by kernel_rfl) (fun _ _ _ h => h) rfl ?_ (by assumption) ?_; rotate_left; (focus (intro w; go_simp; try with_reducible rfl))
        try simp only [Act.put, List.getElem_toArray, List.getElem_cons_succ, List.getElem_cons_zero, List.setIfInBounds_toArray, List.set_cons_zero, List.set_cons_succ]
        refine zkP (i := 14) (v := ?_) rfl (by kernel_rfl) (by kernel_rfl) (fun _ _ _ h => h) rfl ?_ (by assumption) ?_; rotate_left; (focus (intro w; go_simp; try with_reducible rfl))
        try simp only [Act.put, List.getElem_toArray, List.getElem_cons_succ, List.getElem_cons_zero, List.setIfInBounds_toArray, List.set_cons_zero, List.set_cons_succ]
        refine zkP (i := 15) (v := ?_) rfl (by kernel_rfl) (by kernel_rfl) (fun _ _ _ h => h) rfl ?_ (by assumption) ?_; rotate_left; (focus (intro w; go_simp; try with_reducible rfl))
        try simp only [Act.put, List.getElem_toArray, List.getElem_cons_succ, List.getElem_cons_zero, List.setIfInBounds_toArray, List.set_cons_zero, List.set_cons_succ]
        refine zkP (i := 16) (v := ?_) rfl (by kernel_rfl) (by kernel_rfl) (fun _ _ _ h => h) rfl ?_ (by assumption) ?_; rotate_left; (focus (intro w; go_simp; try with_reducible rfl))
        try simp only [Act.put, List.getElem_toArray, List.getElem_cons_succ, List.getElem_cons_zero, List.setIfInBounds_toArray, List.set_cons_zero, List.set_cons_succ]
        refine zkL (i := 17) (v := ?_) rfl (by kernel_rfl) (by kernel_rfl) (fun _ _ _ h => h) (by kernel_rfl) ?_ (by assumption) ?_; rotate_left; (focus (intro w hSw; (try dsimp only at hSw); go_simp; try with_reducible rfl))
        try simp only [Act.put, List.getElem_toArray, List.getElem_cons_succ, List.getElem_cons_zero, List.setIfInBounds_toArray, List.set_cons_zero, List.set_cons_succ]
        refine zkP (i := 18) (v := ?_) rfl (by kernel_rfl) (by kernel_rfl) (fun _ _ _ h => h) rfl ?_ (by assumption) ?_; rotate_left; (focus (intro w; go_simp; try with_reducible rfl))
        try simp only [Act.put, List.getElem_toArray, List.getElem_cons_succ, List.getElem_cons_zero, List.setIfInBounds_toArray, List.set_cons_zero, List.set_cons_succ]
        refine zkP (i := 19) (v := ?_) rfl (by kernel_rfl) (by kernel_rfl) (fun _ _ _ h => h) rfl ?_ (by assumption) ?_; rotate_left; (focus (intro w; go_simp; try with_reducible rfl))
        try simp only [Act.put, List.getElem_toArray, List.getElem_cons_succ, List.getElem_cons_zero, List.setIfInBounds_toArray, List.set_cons_zero, List.set_cons_succ]
        refine zkP (i := 20) (v := ?_) rfl (by kernel_rfl) (by kernel_rfl) (fun _ _ _ h => h) rfl ?_ (by assumption) ?_; rotate_left; (focus (intro w; go_simp; try with_reducible rfl))
        try simp only [Act.put, List.getElem_toArray, List.getElem_cons_succ, List.getElem_cons_zero, List.setIfInBounds_toArray, List.set_cons_zero, List.set_cons_succ]
        refine wpAnyZ_ready (rs := [12]) (by kernel_rfl) (by simp) ?_
        refine AllReadyZ.keep rfl (fun K hK => ?_) (AllReadyZ.nil)
        go_simp
        go_at_call 85
        refine (delN_at c0.nA c0.nC (kth t m).ns p _ B (ownG_below HoN.out (by (repeat (first | exact Below.refl _ _ | exact Hbl.out | refine Below.ext ?_ (by first | omega | (simp; omega) | simp) | refine Below.setCell ?_ (by first | omega | (simp; omega) | simp) _ | refine Below.alloc ?_ (by first | omega | (simp; omega) | simp) _ | refine Below.drew ?_ | refine below_drewN ?_ _ | refine Below.step (by assumption) (by first | omega | (simp; omega) | simp) ?_)))) hp (by first | omega | (simp; omega))).mono ?_
        rintro e u1 ⟨rfl, a1⟩
        have G1 : W.grownBy u1 (Value.slice c0.nA (kth t m).ns.length c0.nC).ownBlock := Lib.grownBy_trans (Lib.grownBy_below (World.grownBy.refl W _) (by (repeat (first | exact Below.refl _ _ | exact Hbl.out | refine Below.ext ?_ (by first | omega | (simp; omega) | simp) | refine Below.setCell ?_ (by first | omega | (simp; omega) | simp) _ | refine Below.alloc ?_ (by first | omega | (simp; omega) | simp) _ | refine Below.drew ?_ | refine below_drewN ?_ _ | refine Below.step (by assumption) (by first | omega | (simp; omega) | simp) ?_)))) a1.2.1
        have k5 := G1.cell (a := ⟨g, m * 7 + 5, none⟩) z5 (fun e => hgN e.symm)
        have k6 := G1.cell (a := ⟨g, m * 7 + 6, none⟩) z6 (fun e => hgN e.symm)
        have q5 := (World.frozen?_of_block (a := ⟨g, m * 7 + 5, none⟩) (G1.block g hgW (fun e => hgN e.symm))).trans f5
        have q6 := (World.frozen?_of_block (a := ⟨g, m * 7 + 6, none⟩) (G1.block g hgW (fun e => hgN e.symm))).trans f6
        have m1 : OwnG EI 3 B u1 (.slice c0.kA (kth t m).ks.length c0.kC) (kth t m).ks := ownG_kept HoK.out G1 (ownG_type HoK.out HoN.out (by decide))
        have o1 := a1.1
        have hg1 : g < u1.heap.size := Nat.lt_of_lt_of_le hgW G1.size
        have hB1 : B ≤ u1.heap.size := Nat.le_trans hB G1.size
        have n1 : NewIn W (Value.slice c0.nA (kth t m).ns.length c0.nC).ownBlock (.slice c0.nA ((kth t m).ns.length - 1) c0.nC) := by
          rcases a1.2.2 with h | h
          · exact .inl h
          · exact .inr ⟨_, h, (by first | exact Nat.le_refl _ | (simp; done))⟩
        have G1' := Lib.hid G1
        have O1 := Lib.hid o1
        have M1 := Lib.hid m1
        have N1 := Lib.hid n1
        clear a1 G1 o1 m1 n1
        refine hK.out _ _ ?_ (fun hHeld => ?_)
        · (try dsimp only)
          first | exact ⟨by assumption, by assumption⟩ | (go_simp; done) | (constructor <;> (first | assumption | (go_simp; done)))
        clear hK K
        try simp only [Act.put, List.getElem_toArray, List.getElem_cons_succ, List.getElem_cons_zero, List.setIfInBounds_toArray, List.set_cons_zero, List.set_cons_succ]
        refine wpAnyZ_ready (rs := [21]) (by kernel_rfl) (by simp) ?_
        refine AllReadyZ.keep rfl (fun K hK => ?_) (AllReadyZ.nil)
        go_simp
        go_at_call 86
        refine (delK_at c0.kA c0.kC (kth t m).ks p _ B M1.out hpk hB1).mono ?_
        rintro e u2 ⟨rfl, a2⟩
        have G2 : u1.grownBy u2 (Value.slice c0.kA (kth t m).ks.length c0.kC).ownBlock := a2.2.1
        have y5 := G2.cell (a := ⟨g, m * 7 + 5, none⟩) k5 (fun e => hgK e.symm)
        have y6 := G2.cell (a := ⟨g, m * 7 + 6, none⟩) k6 (fun e => hgK e.symm)
        have r5 := (World.frozen?_of_block (a := ⟨g, m * 7 + 5, none⟩) (G2.block g hg1 (fun e => hgK e.symm))).trans q5
        have r6 := (World.frozen?_of_block (a := ⟨g, m * 7 + 6, none⟩) (G2.block g hg1 (fun e => hgK e.symm))).trans q6
        have o2 : OwnG EL 9 B u2 (.slice c0.nA ((kth t m).ns.length - 1) c0.nC) ((kth t m).ns.eraseIdx p) := ownG_kept O1.out G2 (ownG_type O1.out M1.out (by decide))
        have n2 : NewIn W (Value.slice c0.kA (kth t m).ks.length c0.kC).ownBlock (.slice c0.kA ((kth t m).ks.length - 1) c0.kC) := by
          rcases a2.2.2 with h | h
          · exact .inl h
          · exact .inr ⟨_, h, G1'.out.size⟩
        have O2 := Lib.hid o2
        have P2 := Lib.hid a2.1
        have G2' := Lib.hid G2
        have N2 := Lib.hid n2
        clear a2 o2 G2 n2 k5 k6 q5 q6
        refine hK.out _ _ ?_ (fun hHeld => ?_)
        · (try dsimp only)
          first | exact ⟨by assumption, by assumption⟩ | (go_simp; done) | (constructor <;> (first | assumption | (go_simp; done)))
        clear hK K
        try simp only [Act.put, List.getElem_toArray, List.getElem_cons_succ, List.getElem_cons_zero, List.setIfInBounds_toArray, List.set_cons_zero, List.set_cons_succ]
        refine zkP (i := 22) (v := ?_) rfl (by kernel_rfl) (by kernel_rfl) (fun _ _ _ h => h) rfl ?_ (by assumption) ?_; rotate_left; (focus (intro w; go_simp; try with_reducible rfl))
        try simp only [Act.put, List.getElem_toArray, List.getElem_cons_succ, List.getElem_cons_zero, List.setIfInBounds_toArray, List.set_cons_zero, List.set_cons_succ]
        refine zkP (i := 23) (v := ?_) rfl (by kernel_rfl) (by kernel_rfl) (fun _ _ _ h => h) rfl ?_ (by assumption) ?_; rotate_left; (focus (intro w; go_simp; try with_reducible rfl))
        try simp only [Act.put, List.getElem_toArray, List.getElem_cons_succ, List.getElem_cons_zero, List.setIfInBounds_toArray, List.set_cons_zero, List.set_cons_succ]
        refine wpAnyZ_ready (rs := [24]) (by kernel_rfl) (by simp) ?_
        refine AllReadyZ.last rfl (by kernel_rfl) (fun K hK => ?_) (AllReadyZ.nil)
        go_simp
        refine hK.out _ _ ?_
        clear hK K
        try simp only [Act.put, List.getElem_toArray, List.getElem_cons_succ, List.getElem_cons_zero, List.setIfInBounds_toArray, List.set_cons_zero, List.set_cons_succ]
        refine wpAnyZ_ready (rs := [25]) (by kernel_rfl) (by simp) ?_
        refine AllReadyZ.last rfl (by kernel_rfl) (fun K hK => ?_) (AllReadyZ.nil)
        go_simp
        refine hK.out _ _ ?_
        clear hK K
        try simp only [Act.put, List.getElem_toArray, List.getElem_cons_succ, List.getElem_cons_zero, List.setIfInBounds_toArray, List.set_cons_zero, List.set_cons_succ]
        refine wpAnyZ_ready (rs := [26]) (by kernel_rfl) (by simp) ?_
        refine AllReadyZ.last rfl (by kernel_rfl) (fun K hK => ?_) (AllReadyZ.nil)
        go_simp
        refine hK.out _ _ ?_
        clear hK K
        try simp only [Act.put, List.getElem_toArray, List.getElem_cons_succ, List.getElem_cons_zero, List.setIfInBounds_toArray, List.set_cons_zero, List.set_cons_succ]
        refine wpAnyZ_ready (rs := [27]) (by kernel_rfl) (by simp) ?_
        refine AllReadyZ.last rfl (by kernel_rfl) (fun K hK => ?_) (AllReadyZ.nil)
        go_simp
        refine hK.out _ _ ?_
        clear hK K
        try simp only [Act.put, List.getElem_toArray, List.getElem_cons_succ, List.getElem_cons_zero, List.setIfInBounds_toArray, List.set_cons_zero, List.set_cons_succ]
        refine wpAnyZ_done (by kernel_rfl) ?_ _
        obtain ⟨cs7, hT7⟩ := HT.out.rows hm hcm O2.out P2.out (by rw [heN.out]; exact G1'.out) (by rw [heK.out]; exact G2'.out) (by rw [heN.out]; exact N1.out) (by rw [heK.out]; exact N2.out) (fun z hz => hnz z (List.mem_of_mem_eraseIdx hz))
        have b7 : Below B W ((u2.setCell ⟨g, m * 7 + 5, none⟩ (.slice c0.nA ((kth t m).ns.length - 1) c0.nC)).setCell ⟨g, m * 7 + 6, none⟩ (.slice c0.kA ((kth t m).ks.length - 1) c0.kC)) := Below.setCell (Below.setCell (Below.trans (Below.of_grown G1'.out hB (fun j hj => (ownG_block HoN.out j hj).1)) (Below.of_grown G2'.out hB1 (fun j hj => (ownG_block M1.out j hj).1))) hgB _) hgB _
        generalize (u2.setCell ⟨g, m * 7 + 5, none⟩ (.slice c0.nA ((kth t m).ns.length - 1) c0.nC)).setCell ⟨g, m * 7 + 6, none⟩ (.slice c0.kA ((kth t m).ks.length - 1) c0.kC) = W7 at hT7 b7 ⊢
        replace hT7 : TreeC B W7 _ cs7 (t.set m (delAt (kth t m) p)) := hT7
        rw [Hpp.out] at hT7
        replace hT7 : TreeC B W7 _ cs7 (takeT t m sp) := hT7
        have HT7 := Lib.hid hT7
        have E7 := Lib.hid b7
        clear hT7 b7 y5 y6 r5 r6 G1' G2' O1 O2 M1 P2 N1 N2 hg1 hB1
        have hnT : n < (takeT t m sp).length := by rw [take_len]; exact hn
        have hnT' : (n : Int) < ((takeT t m sp).length : Int) := by rw [take_len]; exact hn'
        have hnd7 := take_nodes Hv.out hm Hsm.out hn
        have hfew7 : (kth (takeT t m sp) n).ns.length ≤ 1000000 := by
          rw [take_kth hm hn]
          split
          · have := hp; show ((kth t m).ns.eraseIdx _).length ≤ _; rw [List.length_eraseIdx]; split <;> omega
          · exact (Few1.out n hn).1
        have HN := Lib.hid (addT_of sq (k : Int) HT7.out hnT (asc_of hnd7) (head_ks hnd7) hfew7 (Nat.le_trans hB E7.out.size) hlq)
        have htl := Lib.hid (take_len (t := t) (m := m) (s := sp))
        have E7' := E7
        clear hnd7 z5 z6 f5 f6
        go_wp2_with fail
        refine HN.out.mono ?_
        rintro e W8 ⟨rfl, ⟨cs8, hT8⟩, b8⟩
        have HT8 := Lib.hid (hT8.mono hwB)
        have B8 := Lib.hid (Below.trans B6.out (Below.mono (Below.trans E7.out b8) hwB))
        clear hT8 b8
        go_wp2
        go_ret2
        exact ⟨_, by rw [Hr.out]; rfl, by rw [Hr.out]; exact ⟨_, HT8.out⟩, B8.out⟩
      ·
        have hnm := hne.symm
        subst hnm
        rw [hf] at y0
        rw [if_neg (by simp)] at hR
        have Hr := Lib.hid hR
        clear hR
        go_wp2_with fail
        refine (HA.out _ (HM.out.below B4.out)).mono ?_
        rintro e w5 ⟨rfl, b5⟩
        have B5 := Lib.hid (Below.step b5 B4.out.size B4.out)
        clear b5 y0
        go_wp2_with fail
        refine (HC.out _ (H.out.below B5.out) Few1.out).mono ?_
        rintro e W ⟨v6, cs, rfl, hT, b6⟩
        have B6 := Lib.hid (Below.step b6 B5.out.size B5.out)
        have HT0 := Lib.hid hT
        obtain ⟨A6, k6', rfl⟩ := (show TreeO _ W v6 t from ⟨cs, hT⟩).shape
        obtain ⟨g, _, rfl, -⟩ := hT.at_ hm
        obtain ⟨B, hBB⟩ : ∃ B, B = w5.heap.size := ⟨_, rfl⟩
        have hB : B ≤ W.heap.size := by rw [hBB]; exact b6.size
        have hwB : w.heap.size ≤ B := by rw [hBB]; exact B5.out.size
        rw [← hBB] at hT
        have HT := Lib.hid hT
        clear hT b6 hBB HT0 B5
        obtain ⟨g', c0, e, hgB, hgW, hcm, hnd, hNS, _, _, _, _, _, z5, z6, zf⟩ := HT.out.at_ hm
        cases e
        have f5 := zf (m * 7 + 5)
        have f6 := zf (m * 7 + 6)
        have hn1 : c0.nL = (kth t m).ns.length := by obtain ⟨_, _, e⟩ := ownG_shape hnd.ns; injection e with _ e _
        have hk1 : c0.kL = (kth t m).ks.length := by obtain ⟨_, _, e⟩ := ownG_shape hnd.ks; injection e with _ e _
        have heN := Lib.hid (show nB c0 = (Value.slice c0.nA (kth t m).ns.length c0.nC).ownBlock by unfold nB; rw [hn1])
        have heK := Lib.hid (show kB c0 = (Value.slice c0.kA (kth t m).ks.length c0.kC).ownBlock by unfold kB; rw [hk1])
        have oN := hnd.ns
        have oK := hnd.ks
        rw [hn1] at oN
        rw [hk1] at oK
        have hgN := sep_ne (ownG_type oN HT.out.row (by decide)) (g := g) rfl
        have hgK := sep_ne (ownG_type oK HT.out.row (by decide)) (g := g) rfl
        have hnz := hnd.nz
        have HoN := Lib.hid oN
        have HoK := Lib.hid oK
        have HNS := Lib.hid hNS
        clear hn1 hk1 oN oK hnd zf hNS
        have HI := Lib.hid (idxI_of c0.nA c0.nC (kth t m) sp W HNS.out.ns Has.out Hsm.out hfew)
        obtain ⟨p, hpp⟩ : ∃ p, p = putAt (kth t m) sp := ⟨_, rfl⟩
        rw [← hpp] at HI
        have hp : p < (kth t m).ns.length := by rw [hpp]; exact (put_there Has.out Hsm.out).1
        have hpk : p < (kth t m).ks.length := by have := Hls.out; omega
        have Hpp := Lib.hid hpp
        have zp : IntKind.i64.wrap ((p : Int) + 1) = (p : Int) + 1 := IntWalk.i64_in _ (by omega)
        clear hpp
        go_wp2_with fail
        refine HI.out.mono ?_
        rintro e W' ⟨rfl, e⟩
        have e2 := e.symm
        clear e
        subst e2
        go_wp2_with fail
        refine wp_region_Z (fun w' => w'.cell? ⟨g, m * 7 + 5, none⟩ = some (.slice c0.nA (kth t m).ns.length c0.nC) ∧ w'.cell? ⟨g, m * 7 + 6, none⟩ = some (.slice c0.kA (kth t m).ks.length c0.kC)) 24 (by kernel_rfl) ?_ (fun hHeld => ?_)
        · (try dsimp only)
          first | exact ⟨by assumption, by assumption⟩ | (go_simp; done) | (constructor <;> (first | assumption | (go_simp; done)))
        refine zkP (i := 0) (v := ?_) rfl (by kernel_rfl) (by kernel_rfl) (fun _ _ _ h => h) rfl ?_ (by assumption) ?_; rotate_left; (focus (intro w; go_simp; try with_reducible rfl))
        try simp only [Act.put, List.getElem_toArray, List.getElem_cons_succ, List.getElem_cons_zero, List.setIfInBounds_toArray, List.set_cons_zero, List.set_cons_succ]
        refine zkP (i := 1) (v := ?_) rfl (by kernel_rfl) (by kernel_rfl) (fun _ _ _ h => h) rfl ?_ (by assumption) ?_; rotate_left; (focus (intro w; go_simp; try with_reducible rfl))
        try simp only [Act.put, List.getElem_toArray, List.getElem_cons_succ, List.getElem_cons_zero, List.setIfInBounds_toArray, List.set_cons_zero, List.set_cons_succ]
        refine zkP (i := 2) (v := ?_) rfl (by kernel_rfl) (by kernel_rfl) (fun _ _ _ h => h) rfl ?_ (by assumption) ?_; rotate_left; (focus (intro w; go_simp; try with_reducible rfl))
        try simp only [Act.put, List.getElem_toArray, List.getElem_cons_succ, List.getElem_cons_zero, List.setIfInBounds_toArray, List.set_cons_zero, List.set_cons_succ]
        refine zkP (i := 3) (v := ?_) rfl (by kernel_rfl) (by kernel_rfl) (fun _ _ _ h => h) rfl ?_ (by assumption) ?_; rotate_left; (focus (intro w; go_simp; try with_reducible rfl))
        try simp only [Act.put, List.getElem_toArray, List.getElem_cons_succ, List.getElem_cons_zero, List.setIfInBounds_toArray, List.set_cons_zero, List.set_cons_succ]
        refine zkP (i := 4) (v := ?_) rfl (by kernel_rfl) (by kernel_rfl) (fun _ _ _ h => h) rfl ?_ (by assumption) ?_; rotate_left; (focus (intro w; go_simp; try with_reducible rfl))
        try simp only [Act.put, List.getElem_toArray, List.getElem_cons_succ, List.getElem_cons_zero, List.setIfInBounds_toArray, List.set_cons_zero, List.set_cons_succ]
        refine zkP (i := 5) (v := ?_) rfl (by kernel_rfl) (by kernel_rfl) (fun _ _ _ h => h) rfl ?_ (by assumption) ?_; rotate_left; (focus (intro w; go_simp; try with_reducible rfl))
        try simp only [Act.put, List.getElem_toArray, List.getElem_cons_succ, List.getElem_cons_zero, List.setIfInBounds_toArray, List.set_cons_zero, List.set_cons_succ]
        refine zkP (i := 6) (v := ?_) rfl (by kernel_rfl) (by kernel_rfl) (fun _ _ _ h => h) rfl ?_ (by assumption) ?_; rotate_left; (focus (intro w; go_simp; try with_reducible rfl))
        try simp only [Act.put, List.getElem_toArray, List.getElem_cons_succ, List.getElem_cons_zero, List.setIfInBounds_toArray, List.set_cons_zero, List.set_cons_succ]
        refine zkP (i := 7) (v := ?_) rfl (by kernel_rfl) (by kernel_rfl) (fun _ _ _ h => h) rfl ?_ (by assumption) ?_; rotate_left; (focus (intro w; go_simp; try with_reducible rfl))
        try simp only [Act.put, List.getElem_toArray, List.getElem_cons_succ, List.getElem_cons_zero, List.setIfInBounds_toArray, List.set_cons_zero, List.set_cons_succ]
        refine zkL (i := 8) (v := ?_) rfl (by kernel_rfl) (by kernel_rfl) (fun _ _ _ h => h) (by kernel_rfl) ?_ (by assumption) ?_; rotate_left; (focus (intro w hSw; (try dsimp only at hSw); go_simp; try with_reducible rfl))
        try simp only [Act.put, List.getElem_toArray, List.getElem_cons_succ, List.getElem_cons_zero, List.setIfInBounds_toArray, List.set_cons_zero, List.set_cons_succ]
        refine zkP (i := 9) (v := ?_) rfl (by kernel_rfl) (by kernel_rfl) (fun _ _ _ h => h) rfl ?_ (by assumption) ?_; rotate_left; (focus (intro w; go_simp; try with_reducible rfl))
        try simp only [Act.put, List.getElem_toArray, List.getElem_cons_succ, List.getElem_cons_zero, List.setIfInBounds_toArray, List.set_cons_zero, List.set_cons_succ]
        refine zkP (i := 10) (v := ?_) rfl (by kernel_rfl) (by kernel_rfl) (fun _ _ _ h => h) rfl ?_ (by assumption) ?_; rotate_left; (focus (intro w; go_simp; try with_reducible rfl))
        try simp only [Act.put, List.getElem_toArray, List.getElem_cons_succ, List.getElem_cons_zero, List.setIfInBounds_toArray, List.set_cons_zero, List.set_cons_succ]
        refine zkP (i := 11) (v := ?_) rfl (by kernel_rfl) (by kernel_rfl) (fun _ _ _ h => h) rfl ?_ (by assumption) ?_; rotate_left; (focus (intro w; go_simp; try with_reducible rfl))
        try simp only [Act.put, List.getElem_toArray, List.getElem_cons_succ, List.getElem_cons_zero, List.setIfInBounds_toArray, List.set_cons_zero, List.set_cons_succ]
        refine zkP (i := 13) (v := ?_) rfl (by kernel_rfl) (by kernel_rfl) (fun _ _ _ h => h) rfl ?_ (by assumption) ?_; rotate_left; (focus (intro w; go_simp; try with_reducible rfl))
        try simp only [Act.put, List.getElem_toArray, List.getElem_cons_succ, List.getElem_cons_zero, List.setIfInBounds_toArray, List.set_cons_zero, List.set_cons_succ]
        refine zkP (i := 14) (v := ?_) rfl (by kernel_rfl) (by kernel_rfl) (fun _ _ _ h => h) rfl ?_ (by assumption) ?_; rotate_left; (focus (intro w; go_simp; try with_reducible rfl))
        try simp only [Act.put, List.getElem_toArray, List.getElem_cons_succ, List.getElem_cons_zero, List.setIfInBounds_toArray, List.set_cons_zero, List.set_cons_succ]
        refine zkP (i := 15) (v := ?_) rfl (by kernel_rfl) (by kernel_rfl) (fun _ _ _ h => h) rfl ?_ (by assumption) ?_; rotate_left; (focus (intro w; go_simp; try with_reducible rfl))
        try simp only [Act.put, List.getElem_toArray, List.getElem_cons_succ, List.getElem_cons_zero, List.setIfInBounds_toArray, List.set_cons_zero, List.set_cons_succ]
        refine zkP (i := 16) (v := ?_) rfl (by kernel_rfl) (by kernel_rfl) (fun _ _ _ h => h) rfl ?_ (by assumption) ?_; rotate_left; (focus (intro w; go_simp; try with_reducible rfl))
        try simp only [Act.put, List.getElem_toArray, List.getElem_cons_succ, List.getElem_cons_zero, List.setIfInBounds_toArray, List.set_cons_zero, List.set_cons_succ]
        refine zkL (i := 17) (v := ?_) rfl (by kernel_rfl) (by kernel_rfl) (fun _ _ _ h => h) (by kernel_rfl) ?_ (by assumption) ?_; rotate_left; (focus (intro w hSw; (try dsimp only at hSw); go_simp; try with_reducible rfl))
        try simp only [Act.put, List.getElem_toArray, List.getElem_cons_succ, List.getElem_cons_zero, List.setIfInBounds_toArray, List.set_cons_zero, List.set_cons_succ]
        refine zkP (i := 18) (v := ?_) rfl (by kernel_rfl) (by kernel_rfl) (fun _ _ _ h => h) rfl ?_ (by assumption) ?_; rotate_left; (focus (intro w; go_simp; try with_reducible rfl))
        try simp only [Act.put, List.getElem_toArray, List.getElem_cons_succ, List.getElem_cons_zero, List.setIfInBounds_toArray, List.set_cons_zero, List.set_cons_succ]
        refine zkP (i := 19) (v := ?_) rfl (by kernel_rfl) (by kernel_rfl) (fun _ _ _ h => h) rfl ?_ (by assumption) ?_; rotate_left; (focus (intro w; go_simp; try with_reducible rfl))
        try simp only [Act.put, List.getElem_toArray, List.getElem_cons_succ, List.getElem_cons_zero, List.setIfInBounds_toArray, List.set_cons_zero, List.set_cons_succ]
        refine zkP (i := 20) (v := ?_) rfl (by kernel_rfl) (by kernel_rfl) (fun _ _ _ h => h) rfl ?_ (by assumption) ?_; rotate_left; (focus (intro w; go_simp; try with_reducible rfl))
        try simp only [Act.put, List.getElem_toArray, List.getElem_cons_succ, List.getElem_cons_zero, List.setIfInBounds_toArray, List.set_cons_zero, List.set_cons_succ]
        refine wpAnyZ_ready (rs := [12]) (by kernel_rfl) (by simp) ?_
        refine AllReadyZ.keep rfl (fun K hK => ?_) (AllReadyZ.nil)
        go_simp
        go_at_call 85
        refine (delN_at c0.nA c0.nC (kth t m).ns p _ B (ownG_below HoN.out (by (repeat (first | exact Below.refl _ _ | exact Hbl.out | refine Below.ext ?_ (by first | omega | (simp; omega) | simp) | refine Below.setCell ?_ (by first | omega | (simp; omega) | simp) _ | refine Below.alloc ?_ (by first | omega | (simp; omega) | simp) _ | refine Below.drew ?_ | refine below_drewN ?_ _ | refine Below.step (by assumption) (by first | omega | (simp; omega) | simp) ?_)))) hp (by first | omega | (simp; omega))).mono ?_
        rintro e u1 ⟨rfl, a1⟩
        have G1 : W.grownBy u1 (Value.slice c0.nA (kth t m).ns.length c0.nC).ownBlock := Lib.grownBy_trans (Lib.grownBy_below (World.grownBy.refl W _) (by (repeat (first | exact Below.refl _ _ | exact Hbl.out | refine Below.ext ?_ (by first | omega | (simp; omega) | simp) | refine Below.setCell ?_ (by first | omega | (simp; omega) | simp) _ | refine Below.alloc ?_ (by first | omega | (simp; omega) | simp) _ | refine Below.drew ?_ | refine below_drewN ?_ _ | refine Below.step (by assumption) (by first | omega | (simp; omega) | simp) ?_)))) a1.2.1
        have k5 := G1.cell (a := ⟨g, m * 7 + 5, none⟩) z5 (fun e => hgN e.symm)
        have k6 := G1.cell (a := ⟨g, m * 7 + 6, none⟩) z6 (fun e => hgN e.symm)
        have q5 := (World.frozen?_of_block (a := ⟨g, m * 7 + 5, none⟩) (G1.block g hgW (fun e => hgN e.symm))).trans f5
        have q6 := (World.frozen?_of_block (a := ⟨g, m * 7 + 6, none⟩) (G1.block g hgW (fun e => hgN e.symm))).trans f6
        have m1 : OwnG EI 3 B u1 (.slice c0.kA (kth t m).ks.length c0.kC) (kth t m).ks := ownG_kept HoK.out G1 (ownG_type HoK.out HoN.out (by decide))
        have o1 := a1.1
        have hg1 : g < u1.heap.size := Nat.lt_of_lt_of_le hgW G1.size
        have hB1 : B ≤ u1.heap.size := Nat.le_trans hB G1.size
        have n1 : NewIn W (Value.slice c0.nA (kth t m).ns.length c0.nC).ownBlock (.slice c0.nA ((kth t m).ns.length - 1) c0.nC) := by
          rcases a1.2.2 with h | h
          · exact .inl h
          · exact .inr ⟨_, h, (by first | exact Nat.le_refl _ | (simp; done))⟩
        have G1' := Lib.hid G1
        have O1 := Lib.hid o1
        have M1 := Lib.hid m1
        have N1 := Lib.hid n1
        clear a1 G1 o1 m1 n1
        refine hK.out _ _ ?_ (fun hHeld => ?_)
        · (try dsimp only)
          first | exact ⟨by assumption, by assumption⟩ | (go_simp; done) | (constructor <;> (first | assumption | (go_simp; done)))
        clear hK K
        try simp only [Act.put, List.getElem_toArray, List.getElem_cons_succ, List.getElem_cons_zero, List.setIfInBounds_toArray, List.set_cons_zero, List.set_cons_succ]
        refine wpAnyZ_ready (rs := [21]) (by kernel_rfl) (by simp) ?_
        refine AllReadyZ.keep rfl (fun K hK => ?_) (AllReadyZ.nil)
        go_simp
        go_at_call 86
        refine (delK_at c0.kA c0.kC (kth t m).ks p _ B M1.out hpk hB1).mono ?_
        rintro e u2 ⟨rfl, a2⟩
        have G2 : u1.grownBy u2 (Value.slice c0.kA (kth t m).ks.length c0.kC).ownBlock := a2.2.1
        have y5 := G2.cell (a := ⟨g, m * 7 + 5, none⟩) k5 (fun e => hgK e.symm)
        have y6 := G2.cell (a := ⟨g, m * 7 + 6, none⟩) k6 (fun e => hgK e.symm)
        have r5 := (World.frozen?_of_block (a := ⟨g, m * 7 + 5, none⟩) (G2.block g hg1 (fun e => hgK e.symm))).trans q5
        have r6 := (World.frozen?_of_block (a := ⟨g, m * 7 + 6, none⟩) (G2.block g hg1 (fun e => hgK e.symm))).trans q6
        have o2 : OwnG EL 9 B u2 (.slice c0.nA ((kth t m).ns.length - 1) c0.nC) ((kth t m).ns.eraseIdx p) := ownG_kept O1.out G2 (ownG_type O1.out M1.out (by decide))
        have n2 : NewIn W (Value.slice c0.kA (kth t m).ks.length c0.kC).ownBlock (.slice c0.kA ((kth t m).ks.length - 1) c0.kC) := by
          rcases a2.2.2 with h | h
          · exact .inl h
          · exact .inr ⟨_, h, G1'.out.size⟩
        have O2 := Lib.hid o2
        have P2 := Lib.hid a2.1
        have G2' := Lib.hid G2
        have N2 := Lib.hid n2
        clear a2 o2 G2 n2 k5 k6 q5 q6
        refine hK.out _ _ ?_ (fun hHeld => ?_)
        · (try dsimp only)
          first | exact ⟨by assumption, by assumption⟩ | (go_simp; done) | (constructor <;> (first | assumption | (go_simp; done)))
        clear hK K
        try simp only [Act.put, List.getElem_toArray, List.getElem_cons_succ, List.getElem_cons_zero, List.setIfInBounds_toArray, List.set_cons_zero, List.set_cons_succ]
        refine zkP (i := 22) (v := ?_) rfl (by kernel_rfl) (by kernel_rfl) (fun _ _ _ h => h) rfl ?_ (by assumption) ?_; rotate_left; (focus (intro w; go_simp; try with_reducible rfl))
        try simp only [Act.put, List.getElem_toArray, List.getElem_cons_succ, List.getElem_cons_zero, List.setIfInBounds_toArray, List.set_cons_zero, List.set_cons_succ]
        refine zkP (i := 23) (v := ?_) rfl (by kernel_rfl) (by kernel_rfl) (fun _ _ _ h => h) rfl ?_ (by assumption) ?_; rotate_left; (focus (intro w; go_simp; try with_reducible rfl))
        try simp only [Act.put, List.getElem_toArray, List.getElem_cons_succ, List.getElem_cons_zero, List.setIfInBounds_toArray, List.set_cons_zero, List.set_cons_succ]
        refine wpAnyZ_ready (rs := [24]) (by kernel_rfl) (by simp) ?_
        refine AllReadyZ.last rfl (by kernel_rfl) (fun K hK => ?_) (AllReadyZ.nil)
        go_simp
        refine hK.out _ _ ?_
        clear hK K
        try simp only [Act.put, List.getElem_toArray, List.getElem_cons_succ, List.getElem_cons_zero, List.setIfInBounds_toArray, List.set_cons_zero, List.set_cons_succ]
        refine wpAnyZ_ready (rs := [25]) (by kernel_rfl) (by simp) ?_
        refine AllReadyZ.last rfl (by kernel_rfl) (fun K hK => ?_) (AllReadyZ.nil)
        go_simp
        refine hK.out _ _ ?_
        clear hK K
        try simp only [Act.put, List.getElem_toArray, List.getElem_cons_succ, List.getElem_cons_zero, List.setIfInBounds_toArray, List.set_cons_zero, List.set_cons_succ]
        refine wpAnyZ_ready (rs := [26]) (by kernel_rfl) (by simp) ?_
        refine AllReadyZ.last rfl (by kernel_rfl) (fun K hK => ?_) (AllReadyZ.nil)
        go_simp
        refine hK.out _ _ ?_
        clear hK K
        try simp only [Act.put, List.getElem_toArray, List.getElem_cons_succ, List.getElem_cons_zero, List.setIfInBounds_toArray, List.set_cons_zero, List.set_cons_succ]
        refine wpAnyZ_ready (rs := [27]) (by kernel_rfl) (by simp) ?_
        refine AllReadyZ.last rfl (by kernel_rfl) (fun K hK => ?_) (AllReadyZ.nil)
        go_simp
        refine hK.out _ _ ?_
        clear hK K
        try simp only [Act.put, List.getElem_toArray, List.getElem_cons_succ, List.getElem_cons_zero, List.setIfInBounds_toArray, List.set_cons_zero, List.set_cons_succ]
        refine wpAnyZ_done (by kernel_rfl) ?_ _
        obtain ⟨cs7, hT7⟩ := HT.out.rows hm hcm O2.out P2.out (by rw [heN.out]; exact G1'.out) (by rw [heK.out]; exact G2'.out) (by rw [heN.out]; exact N1.out) (by rw [heK.out]; exact N2.out) (fun z hz => hnz z (List.mem_of_mem_eraseIdx hz))
        have b7 : Below B W ((u2.setCell ⟨g, m * 7 + 5, none⟩ (.slice c0.nA ((kth t m).ns.length - 1) c0.nC)).setCell ⟨g, m * 7 + 6, none⟩ (.slice c0.kA ((kth t m).ks.length - 1) c0.kC)) := Below.setCell (Below.setCell (Below.trans (Below.of_grown G1'.out hB (fun j hj => (ownG_block HoN.out j hj).1)) (Below.of_grown G2'.out hB1 (fun j hj => (ownG_block M1.out j hj).1))) hgB _) hgB _
        generalize (u2.setCell ⟨g, m * 7 + 5, none⟩ (.slice c0.nA ((kth t m).ns.length - 1) c0.nC)).setCell ⟨g, m * 7 + 6, none⟩ (.slice c0.kA ((kth t m).ks.length - 1) c0.kC) = W7 at hT7 b7 ⊢
        replace hT7 : TreeC B W7 _ cs7 (t.set m (delAt (kth t m) p)) := hT7
        rw [Hpp.out] at hT7
        replace hT7 : TreeC B W7 _ cs7 (takeT t m sp) := hT7
        have HT7 := Lib.hid hT7
        have E7 := Lib.hid b7
        clear hT7 b7 y5 y6 r5 r6 G1' G2' O1 O2 M1 P2 N1 N2 hg1 hB1
        have hnT : m < (takeT t m sp).length := by rw [take_len]; exact hm
        have hnT' : (m : Int) < ((takeT t m sp).length : Int) := by rw [take_len]; exact hm'
        have hnd7 := take_nodes Hv.out hm Hsm.out hm
        have hfew7 : (kth (takeT t m sp) m).ns.length ≤ 1000000 := by
          rw [take_kth hm hm]
          split
          · have := hp; show ((kth t m).ns.eraseIdx _).length ≤ _; rw [List.length_eraseIdx]; split <;> omega
          · exact (Few1.out m hm).1
        have HN := Lib.hid (addT_of sq (k : Int) HT7.out hnT (asc_of hnd7) (head_ks hnd7) hfew7 (Nat.le_trans hB E7.out.size) hlq)
        have htl := Lib.hid (take_len (t := t) (m := m) (s := sp))
        have E7' := E7
        clear hnd7 z5 z6 f5 f6
        go_wp2_with fail
        refine HN.out.mono ?_
        rintro e W8 ⟨rfl, ⟨cs8, hT8⟩, b8⟩
        have HT8 := Lib.hid (hT8.mono hwB)
        have B8 := Lib.hid (Below.trans B6.out (Below.mono (Below.trans E7.out b8) hwB))
        clear hT8 b8
        go_wp2
        go_ret2
        exact ⟨_, by rw [Hr.out]; rfl, by rw [Hr.out]; exact ⟨_, HT8.out⟩, B8.out⟩
    · rw [if_pos hpl] at hR
      have d1 : (p2 != 0) = true := by simpa using hpl
      have Hr := Lib.hid hR
      clear hR hrp
      go_wp2
      go_ret2
      exact ⟨_, by rw [Hr.out]; rfl, by rw [Hr.out]; exact ⟨[], treeC_empty (ownG_none _ _)⟩, B4.out⟩
  · rw [if_pos hd0] at hR
    have d1 : (D != 0) = true := by simpa using hd0
    have Hr := Lib.hid hR
    clear hR hrp hur hdy hU
    go_wp2
    go_ret2
    exact ⟨_, by rw [Hr.out]; rfl, by rw [Hr.out]; exact ⟨[], treeC_empty (ownG_none _ _)⟩, B1.out⟩
end Go.Proofs.YtkennmpbmbacpaaGreatDoor
