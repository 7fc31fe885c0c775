/- The reference's MoveName. -/
import Derived.Test.YtkennmpbmbacpaaGreatDoorTakeS
import Derived.Test.YtkennmpbmbacpaaGreatDoorMF
import Derived.Test.YtkennmpbmbacpaaGreatDoorMoveP
import Derived.Test.YtkennmpbmbacpaaGreatDoorMayDropS
import Derived.Test.YtkennmpbmbacpaaGreatDoorMD
set_option linter.unusedSimpArgs false
set_option linter.unusedVariables false
set_option linter.unusedSectionVars false
namespace Go.Proofs.YtkennmpbmbacpaaGreatDoor
open Go.RowKit

theorem up_four (t : List Nd) (a b c d : Int) (s : List UInt8) : (upF t a b c d s).2 ≤ 4 := by
  unfold upF
  split
  · decide
  · split
    · next h => exact (find_no h).2.2
    · split
      · exact (by decide : (4 : Int) ≤ 4)
      · split
        · exact (by decide : (3 : Int) ≤ 4)
        · exact (by decide : (0 : Int) ≤ 4)
theorem drop_full (t : List Nd) (a b c d : Int) (s : List UInt8) : (dropOf t a b c d s true = 0 ∧ (dropOf t a b c d s false = 0 ∨ dropOf t a b c d s false = 7)) ∨ (¬ dropOf t a b c d s true = 0 ∧ dropOf t a b c d s false = dropOf t a b c d s true ∧ ¬ dropOf t a b c d s false = 7) := by
  have h4 := up_four t a b c d s
  unfold dropOf
  by_cases h1 : ¬ (upF t a b c d s).2 = 0
  · rw [if_pos h1, if_pos h1]; exact .inr ⟨h1, rfl, by omega⟩
  · rw [if_neg h1, if_neg h1]
    by_cases h2 : kidF (kth t (upF t a b c d s).1.toNat) (lastF s) < 0
    · rw [if_pos h2, if_pos h2]; exact .inr ⟨by decide, rfl, by decide⟩
    · rw [if_neg h2, if_neg h2]
      by_cases h3 : stickyB b (kth t (upF t a b c d s).1.toNat) (kth t (kidF (kth t (upF t a b c d s).1.toNat) (lastF s)).toNat) = true
      · rw [if_pos h3, if_pos h3]; exact .inr ⟨by decide, rfl, by decide⟩
      · rw [if_neg h3, if_neg h3]
        left
        refine ⟨by simp, ?_⟩
        split
        · exact .inr rfl
        · exact .inl rfl
/-- A node of a copy is written anew; all slices lie somewhere still. -/
theorem put_writeS {B : Nat} {w w3 : World} {g n cap m : Nat} {cs : List Cn} {t : List Nd} {y : Nd} {A1 A2 : Option Addr} {c1 c2 : Nat} (h : TreeC B w (.slice (some ⟨g, 0, none⟩) n cap) cs t) (hm : m < t.length)
    (o1 : OwnG EL 9 w.heap.size w3 (.slice A1 y.ns.length c1) y.ns) (o2 : OwnG EI 3 w.heap.size w3 (.slice A2 y.ks.length c2) y.ks) (hsz : y.tx.size ≤ maxLen) (hnz : ∀ s ∈ y.ns, s.length ≤ 1048576) (hb : Below w.heap.size w w3) (hB : B ≤ w.heap.size)
    (hS : SomeC cs) (hA1 : ∃ g, A1 = some ⟨g, 0, none⟩) (hA2 : ∃ g, A2 = some ⟨g, 0, none⟩) :
    ∃ cs', TreeC B (((((((w3.setCell ⟨g, m * 7, none⟩ (.bool y.fo)).setCell ⟨g, m * 7 + 1, none⟩ (.int .i64 y.ow)).setCell ⟨g, m * 7 + 2, none⟩ (.int .i64 y.gr)).setCell ⟨g, m * 7 + 3, none⟩ (.int .i64 y.mo)).setCell ⟨g, m * 7 + 4, none⟩ (.string y.tx)).setCell ⟨g, m * 7 + 5, none⟩ (.slice A1 y.ns.length c1)).setCell ⟨g, m * 7 + 6, none⟩ (.slice A2 y.ks.length c2)) (.slice (some ⟨g, 0, none⟩) n cap) cs' (t.set m y) ∧ SomeC cs' := by
  obtain ⟨c', hc'⟩ : ∃ c' : Cn, c' = ⟨y.fo, y.ow, y.gr, y.mo, y.tx, A1, y.ns.length, c1, A2, y.ks.length, c2⟩ := ⟨_, rfl⟩
  have hnd : NdO B w3 c' y := by rw [hc']; exact ⟨rfl, rfl, rfl, rfl, rfl, ownG_mono o1 hB, ownG_mono o2 hB, hsz, hnz⟩
  have hsep : ∀ (j : Nat) d, j ≠ m → cs[j]? = some d → Sep (nB c') (nB d) ∧ Sep (kB c') (kB d) := by
    intro j d _ hd
    have hj : j < t.length := by rw [← h.len]; exact (List.getElem?_eq_some_iff.1 hd).1
    have hn := h.nds j d _ hd (kth_at hj)
    rw [hc']
    exact ⟨(ownG_apart hn.ns o1 (Nat.le_refl _)).symm, (ownG_apart hn.ks o2 (Nat.le_refl _)).symm⟩
  have r := (h.below hb).write hm hnd hsep
  have hS' : SomeC (cs.set m c') := fun c hc => by
    rcases List.mem_or_eq_of_mem_set hc with h | h
    · exact hS c h
    · rw [h, hc']; exact ⟨hA1, hA2⟩
  rw [hc'] at r hS'
  exact ⟨_, r, hS'⟩
set_option maxRecDepth 100000 in
set_option maxHeartbeats 2000000 in
theorem moveS_of (v : Value) (t : List Nd) (a b c d : Int) (p q : List UInt8) (w : World) (h : TreeR w v t) (ht : t.length ≤ 1000) (hkz : (kidsOf t).length ≤ 1000000) (hp : p.length ≤ 1048576) (hq : q.length ≤ 1048576) :
    Calls Tryz.prog 37 #[v, .agg #[.int .i64 a, .int .i64 b, .int .i64 c, .int .i64 d], .string (mk p), .string (mk q)] w fun e w' => ∃ v', e = .returned (.tuple #[v', .int .i64 (moveF t a b c d p q).2]) ∧ TreeO w.heap.size w' v' (moveF t a b c d p q).1 ∧ Below w.heap.size w w' := by
  have hD := fun w h => dropS_of v t a b c d (mk p) w h ht hkz (by rw [mk_size]; exact hp)
  rw [mk_data] at hD
  have hP := fun w h => placeS_mk v t a b c d q w h ht hkz hq
  have hF := fun w h => findS_mk v t a b c d (aboveF p) w h ht hkz (by have := aboveF_len p; omega)
  have hA1 := fun w => aboveS_of (mk p) w (by rw [mk_size]; exact hp)
  have hA2 := fun w => aboveS_of (mk q) w (by rw [mk_size]; exact hq)
  rw [mk_data] at hA1 hA2
  unfold AbvGot at hA1 hA2
  have hC := fun w h hf => copyS_of v t w h ht hf
  have hlp := lastF_len hp
  have hlq := lastF_len hq
  have hdf := drop_full t a b c d p
  have hdy := @dropOf_yes t a b c d p true
  have hur := @up_range t a b c d p
  have hrp := @placeF_yes t a b c d q
  have hqb : aboveOk q = true → nameB (lastF q) = true := fun h => (above_split h).2.2.2
  obtain ⟨R, hR⟩ : ∃ R, R = moveF t a b c d p q := ⟨_, rfl⟩
  rw [← hR]
  unfold moveF at hR
  generalize upF t a b c d p = U at hdy hur hR
  generalize dropOf t a b c d p true = D at hdf hdy hR
  generalize dropOf t a b c d p false = D2 at hD hdf
  generalize placeF t a b c d q = P at hP hrp hR
  generalize findF t a b c d (aboveF p) = F at hF hur
  generalize lastF p = sp at hA1 hlp hdy hR
  generalize lastF q = sq at hA2 hlq hrp hR hqb
  obtain ⟨u1, u2⟩ := U
  obtain ⟨p1, p2⟩ := P
  obtain ⟨F1, F2⟩ := F
  simp only at hP hF hdy hur hrp hR
  have H := Lib.hid h
  have HD := Lib.hid hD
  have HP := Lib.hid hP
  have HF := Lib.hid hF
  have HA1 := Lib.hid hA1
  have HA2 := Lib.hid hA2
  have HC := Lib.hid hC
  obtain ⟨A, cap, rfl⟩ := h.shape
  have hcap := h.caps
  clear h hD hP hA1 hA2 hC hF
  go_enter Tryz.func37, Tryz.ntmps37
  go_wp2_with fail
  refine (HD.out _ (H.out.below (by (repeat (first | exact Below.refl _ _ | exact Hbl.out | refine Below.ext ?_ (by first | omega | (simp; omega) | simp) | refine Below.setCell ?_ (by first | omega | (simp; omega) | simp) _ | refine Below.alloc ?_ (by first | omega | (simp; omega) | simp) _ | refine Below.drew ?_ | refine below_drewN ?_ _ | refine Below.step (by assumption) (by first | omega | (simp; omega) | simp) ?_))))).mono ?_
  rintro e w1 ⟨rfl, b1⟩
  have q0 : w1.cell? ⟨w.heap.size, 0, none⟩ = some (.int .i64 a) := (b1.cell (p := ⟨w.heap.size, 0, none⟩) (by first | (simp; done) | (simp; omega) | omega)).trans (by first | assumption | go_simp)
  have q1 : w1.cell? ⟨w.heap.size, 1, none⟩ = some (.int .i64 b) := (b1.cell (p := ⟨w.heap.size, 1, none⟩) (by first | (simp; done) | (simp; omega) | omega)).trans (by first | assumption | go_simp)
  have q2 : w1.cell? ⟨w.heap.size, 2, none⟩ = some (.int .i64 c) := (b1.cell (p := ⟨w.heap.size, 2, none⟩) (by first | (simp; done) | (simp; omega) | omega)).trans (by first | assumption | go_simp)
  have q3 : w1.cell? ⟨w.heap.size, 3, none⟩ = some (.int .i64 d) := (b1.cell (p := ⟨w.heap.size, 3, none⟩) (by first | (simp; done) | (simp; omega) | omega)).trans (by first | assumption | go_simp)
  have hzw : w.heap.size < w1.heap.size := by have := b1.size; simp at this; omega
  have B1 := Lib.hid (Below.step b1 (by simp) (show Below w.heap.size w _ from (by (repeat (first | exact Below.refl _ _ | exact Hbl.out | refine Below.ext ?_ (by first | omega | (simp; omega) | simp) | refine Below.setCell ?_ (by first | omega | (simp; omega) | simp) _ | refine Below.alloc ?_ (by first | omega | (simp; omega) | simp) _ | refine Below.drew ?_ | refine below_drewN ?_ _ | refine Below.step (by assumption) (by first | omega | (simp; omega) | simp) ?_)))))
  clear b1
  rcases hdf with ⟨hd0, hd2⟩ | ⟨hd0, hd2, hd7⟩
  · subst hd0
    rw [if_neg (by simp)] at hR
    obtain ⟨e1, e2, _⟩ := hdy rfl
    subst e1
    obtain ⟨m, rfl, hm, hv, -, -, hfm, -⟩ := hur rfl
    injection hfm with hf1 hf2
    subst hf1 hf2
    rw [Int.toNat_natCast] at e2 hR
    have hm' : (m : Int) < (t.length : Int) := by omega
    have hls := head_ks (tree_node hv hm)
    have hasc := asc_of (tree_node hv hm)
    have hfew := (few_of hv hkz m hm).1
    have hsm : sp ∈ (kth t m).ns := by
      rcases kidF_nth (s := sp) hls with e | ⟨_, _, _, e⟩
      · omega
      · exact e
    obtain ⟨_, k2, _⟩ := kidF_down hv hm e2
    have Hkid := Lib.hid (fun nA nC kA kC w h => kidS_of nA nC kA kC (kth t m) sp w h hls)
    obtain ⟨k, hk⟩ : ∃ k : Nat, kidF (kth t m) sp = (k : Int) := ⟨(kidF (kth t m) sp).toNat, by omega⟩
    rw [hk] at Hkid hR k2
    rw [Int.toNat_natCast] at hR
    have hkl : k < t.length := by omega
    have hkl' : (k : Int) < (t.length : Int) := by omega
    have Hv := Lib.hid hv
    have Hls := Lib.hid hls
    have Has := Lib.hid hasc
    have Hsm := Lib.hid hsm
    have Few1 := Lib.hid (few_of hv hkz)
    have HQb := Lib.hid hqb
    clear hur hdy hk e2 k2 hls hasc hsm hv HD hqb
    by_cases hpl : p2 = 0
    · subst hpl
      rw [if_neg (by simp)] at hR
      obtain ⟨-, -, s3, s4, s5, s6, s7⟩ := hrp rfl
      obtain ⟨n, rfl⟩ : ∃ n : Nat, p1 = (n : Int) := ⟨p1.toNat, by omega⟩
      have hn : n < t.length := by omega
      have hn' : (n : Int) < (t.length : Int) := by omega
      rw [Int.toNat_natCast] at hR
      clear hrp s3 s4 s5 s6 s7
      have hcs : ((kth t k).fo = true ∧ ¬ n = m) ∨ ((kth t k).fo = false) ∨ ((kth t k).fo = true ∧ n = m) := by
        cases (kth t k).fo
        · exact .inr (.inl rfl)
        · by_cases h : n = m
          · exact .inr (.inr ⟨rfl, h⟩)
          · exact .inl ⟨rfl, h⟩
      obtain ⟨go, hgo⟩ : ∃ go : Bool, go = ((kth t k).fo && !((m : Int) == (n : Int))) := ⟨_, rfl⟩
      have Hgo := Lib.hid hgo
      clear hgo
      rcases hd2 with rfl | rfl
      all_goals
        go_wp2_with fail
        refine (HP.out _ (H.out.below B1.out)).mono ?_
        rintro e w2 ⟨rfl, b2⟩
        have r0 : w2.cell? ⟨w.heap.size, 0, none⟩ = some (.int .i64 a) := (b2.cell (p := ⟨w.heap.size, 0, none⟩) hzw).trans q0
        have r1 : w2.cell? ⟨w.heap.size, 1, none⟩ = some (.int .i64 b) := (b2.cell (p := ⟨w.heap.size, 1, none⟩) hzw).trans q1
        have r2 : w2.cell? ⟨w.heap.size, 2, none⟩ = some (.int .i64 c) := (b2.cell (p := ⟨w.heap.size, 2, none⟩) hzw).trans q2
        have r3 : w2.cell? ⟨w.heap.size, 3, none⟩ = some (.int .i64 d) := (b2.cell (p := ⟨w.heap.size, 3, none⟩) hzw).trans q3
        have hzw2 : w.heap.size < w2.heap.size := Nat.lt_of_lt_of_le hzw b2.size
        have B2 := Lib.hid (Below.step b2 B1.out.size B1.out)
        clear b2 q0 q1 q2 q3
        go_wp2_with fail
        refine (HA1.out _).mono ?_
        rintro e w3 ⟨rfl, b3⟩
        have q0 : w3.cell? ⟨w.heap.size, 0, none⟩ = some (.int .i64 a) := (b3.cell (p := ⟨w.heap.size, 0, none⟩) hzw2).trans r0
        have q1 : w3.cell? ⟨w.heap.size, 1, none⟩ = some (.int .i64 b) := (b3.cell (p := ⟨w.heap.size, 1, none⟩) hzw2).trans r1
        have q2 : w3.cell? ⟨w.heap.size, 2, none⟩ = some (.int .i64 c) := (b3.cell (p := ⟨w.heap.size, 2, none⟩) hzw2).trans r2
        have q3 : w3.cell? ⟨w.heap.size, 3, none⟩ = some (.int .i64 d) := (b3.cell (p := ⟨w.heap.size, 3, none⟩) hzw2).trans r3
        have hzw3 : w.heap.size < w3.heap.size := Nat.lt_of_lt_of_le hzw2 b3.size
        have B3 := Lib.hid (Below.step b3 B2.out.size B2.out)
        clear b3 r0 r1 r2 r3
        go_wp2_with fail
        refine (HA2.out _).mono ?_
        rintro e w4 ⟨rfl, b4⟩
        have r0 : w4.cell? ⟨w.heap.size, 0, none⟩ = some (.int .i64 a) := (b4.cell (p := ⟨w.heap.size, 0, none⟩) hzw3).trans q0
        have r1 : w4.cell? ⟨w.heap.size, 1, none⟩ = some (.int .i64 b) := (b4.cell (p := ⟨w.heap.size, 1, none⟩) hzw3).trans q1
        have r2 : w4.cell? ⟨w.heap.size, 2, none⟩ = some (.int .i64 c) := (b4.cell (p := ⟨w.heap.size, 2, none⟩) hzw3).trans q2
        have r3 : w4.cell? ⟨w.heap.size, 3, none⟩ = some (.int .i64 d) := (b4.cell (p := ⟨w.heap.size, 3, none⟩) hzw3).trans q3
        have B4 := Lib.hid (Below.step b4 B3.out.size B3.out)
        clear b4 q0 q1 q2 q3
        go_wp2_with fail
        refine (HF.out _ (H.out.below B4.out)).mono ?_
        rintro e w5 ⟨rfl, b5⟩
        have B5 := Lib.hid (Below.step b5 B4.out.size B4.out)
        clear b5 r0 r1 r2 r3
        obtain ⟨bt, ot, nA, nC, kA, kC, rfl, hbt, hS, y0, y1, y2, y3, y4, y5, y6⟩ := (H.out.below B5.out).at_ (kth_at hm)
        have HS := Lib.hid hS
        clear hS
        go_wp2_with fail
        refine (Hkid.out _ _ _ _ _ HS.out).mono ?_
        rintro e w6 ⟨rfl, b6⟩
        have B6 := Lib.hid (Below.step b6 B5.out.size B5.out)
        obtain ⟨bt', ot', nA', nC', kA', kC', e, _, _, y0', -⟩ := (H.out.below B6.out).at_ (kth_at hkl)
        cases e
        clear b6 y0 y1 y2 y3 y4 y5 y6 HS
        rcases hcs with ⟨hf, hne⟩ | hf | ⟨hf, hne⟩
        · rw [hf] at y0'
          rw [if_pos ⟨hf, by omega⟩] at hR
          have hne' : ¬ (m : Int) = (n : Int) := by omega
          have Hr := Lib.hid hR
          clear hR
          go_wp2
          go_ret2
          exact ⟨_, by rw [Hr.out]; rfl, by rw [Hr.out]; exact (treeO_empty (Nat.le_refl _)).mono B6.out.size, Below.alloc B6.out B6.out.size _⟩
        all_goals
          rw [hf] at y0'
          rw [if_neg (by first | (rw [hf]; simp; done) | (rintro ⟨_, h⟩; exact h (by omega)))] at hR
          try have hg : ((m : Int) != (n : Int)) = false := by subst hne; simp
          try have hg2 : ((m : Int) == (n : Int)) = true := by subst hne; simp
          try clear hne
          have Hr := Lib.hid hR
          clear hR
          go_wp2_with fail
          refine (HC.out _ (H.out.below B6.out) Few1.out).mono ?_
          rintro e w7 ⟨v7, cs, rfl, hT, hSm, b7⟩
          have B7 := Lib.hid (Below.step b7 B6.out.size B6.out)
          obtain ⟨A7, k7, rfl⟩ := (show TreeO _ w7 v7 t from ⟨cs, hT⟩).shape
          obtain ⟨g, c0, rfl, hgB, hgw, hcm, hnd, hNS, z0, z1, z2, z3, z4, z5, z6, zf⟩ := hT.at_ hm
          have HT := Lib.hid hT
          have HSm := Lib.hid hSm
          have HNS := Lib.hid hNS
          have hN := Lib.hid (fun w h => takeS_of c0.nA c0.nC c0.kA c0.kC (kth t m) sp w h Hls.out hfew Has.out Hsm.out)
          have hz67 := b7.size
          clear b7 hT hSm hcm hnd hNS y0'
          go_wp2_with fail
          refine (hN.out _ HNS.out).mono ?_
          rintro e w8 ⟨A1, c1, A2, c2, hs1, hs2, rfl, o1, o2, b8⟩
          obtain ⟨cs', hT9, hSm9⟩ := put_writeS (y := delAt (kth t m) (putAt (kth t m) sp)) HT.out hm o1 o2 HNS.out.sz (fun y hy => HNS.out.nz y (List.mem_of_mem_eraseIdx hy)) b8 hz67 HSm.out hs1 hs2
          have B8 := Lib.hid (Below.step b8 B7.out.size B7.out)
          have hz78 := b8.size
          have e0 := (b8.cell (p := ⟨g, m * 7, none⟩) hgw).trans z0
          have e1 := (b8.cell (p := ⟨g, m * 7 + 1, none⟩) hgw).trans z1
          have e2 := (b8.cell (p := ⟨g, m * 7 + 2, none⟩) hgw).trans z2
          have e3 := (b8.cell (p := ⟨g, m * 7 + 3, none⟩) hgw).trans z3
          have e4 := (b8.cell (p := ⟨g, m * 7 + 4, none⟩) hgw).trans z4
          have e5 := (b8.cell (p := ⟨g, m * 7 + 5, none⟩) hgw).trans z5
          have e6 := (b8.cell (p := ⟨g, m * 7 + 6, none⟩) hgw).trans z6
          have ff := fun j => (b8.frozen (p := ⟨g, j, none⟩) hgw).trans (zf j)
          have f0 := ff (m * 7)
          have f1 := ff (m * 7 + 1)
          have f2 := ff (m * 7 + 2)
          have f3 := ff (m * 7 + 3)
          have f4 := ff (m * 7 + 4)
          have f5 := ff (m * 7 + 5)
          have f6 := ff (m * 7 + 6)
          have hgle : w.heap.size ≤ g := Nat.le_trans B6.out.size hgB
          clear o1 o2 b8 ff z0 z1 z2 z3 z4 z5 z6 zf
          go_upto_region 15 with fail
          obtain ⟨W9, hW9⟩ : ∃ W9, W9 = ((((((w8.setCell ⟨g, m * 7, none⟩ (.bool (kth t m).fo)).setCell ⟨g, m * 7 + 1, none⟩ (.int .i64 (kth t m).ow)).setCell ⟨g, m * 7 + 2, none⟩ (.int .i64 (kth t m).gr)).setCell ⟨g, m * 7 + 3, none⟩ (.int .i64 (kth t m).mo)).setCell ⟨g, m * 7 + 4, none⟩ (.string (kth t m).tx)).setCell ⟨g, m * 7 + 5, none⟩ (.slice A1 (delAt (kth t m) (putAt (kth t m) sp)).ns.length c1)).setCell ⟨g, m * 7 + 6, none⟩ (.slice A2 (delAt (kth t m) (putAt (kth t m) sp)).ks.length c2) := ⟨_, rfl⟩
          have hT9' : TreeC w6.heap.size W9 (.slice (some ⟨g, 0, none⟩) t.length k7) cs' (takeT t m sp) := by rw [hW9]; exact hT9
          have B9 : Below w.heap.size w W9 := by rw [hW9]; exact below_set (below_set (below_set (below_set (below_set (below_set (below_set B8.out hgle) hgle) hgle) hgle) hgle) hgle) hgle
          have hz9 : w6.heap.size ≤ W9.heap.size := by
            have h1 : W9.heap.size = w8.heap.size := by rw [hW9]; simp
            rw [h1]; exact Nat.le_trans hz67 hz78
          rw [← hW9]
          have HT9 := Lib.hid hT9'
          have HSm9 := Lib.hid hSm9
          have HB9 := Lib.hid B9
          clear hW9 hT9 hT9' hSm9 B9 e0 e1 e2 e3 e4 e5 e6 f0 f1 f2 f3 f4 f5 f6 hz78 HT HSm HNS hN
          have hnT : n < (takeT t m sp).length := by rw [take_len]; exact hn
          have hnd9 := take_nodes Hv.out hm Hsm.out hn
          have hfew9 : (kth (takeT t m sp) n).ns.length ≤ 1000000 := by
            rw [take_kth hm hn]
            split
            · show ((kth t m).ns.eraseIdx _).length ≤ _; rw [List.length_eraseIdx]; split <;> omega
            · exact (Few1.out n hn).1
          have HN9 := Lib.hid (fun nA nC kA kC w h => putS_of nA nC kA kC (kth (takeT t m sp) n) sq (k : Int) w h (head_ks hnd9) hfew9 hlq)
          obtain ⟨g', c9, e, hgB9, hgw9, hcm9, hnd, hNS, z0, z1, z2, z3, z4, z5, z6, zf⟩ := HT9.out.at_ hnT
          cases e
          obtain ⟨⟨gn, hnA⟩, ⟨gk, hkA⟩⟩ := HSm9.out c9 (List.mem_of_getElem? hcm9)
          have HNS := Lib.hid hNS
          have hN := Lib.hid (fun w h => HN9.out c9.nA c9.nC c9.kA c9.kC w h ⟨_, _, hnA⟩ ⟨_, _, hkA⟩)
          clear hnd9 hfew9 HN9 hcm9 hnd hNS hnA hkA
          go_wp2_with fail
          refine (hN.out _ HNS.out).mono ?_
          rintro e w10 ⟨A3, c3, A4, c4, rfl, o1, o2, b10⟩
          obtain ⟨cs10, hT11⟩ := put_write HT9.out hnT o1 o2 HNS.out.sz (putF_fine hlq HNS.out.nz) b10 hz9
          have HT11 := Lib.hid (hT11.mono B6.out.size)
          have B10 := Lib.hid (Below.step b10 HB9.out.size HB9.out)
          have e0 := (b10.cell (p := ⟨g, n * 7, none⟩) hgw9).trans z0
          have e1 := (b10.cell (p := ⟨g, n * 7 + 1, none⟩) hgw9).trans z1
          have e2 := (b10.cell (p := ⟨g, n * 7 + 2, none⟩) hgw9).trans z2
          have e3 := (b10.cell (p := ⟨g, n * 7 + 3, none⟩) hgw9).trans z3
          have e4 := (b10.cell (p := ⟨g, n * 7 + 4, none⟩) hgw9).trans z4
          have e5 := (b10.cell (p := ⟨g, n * 7 + 5, none⟩) hgw9).trans z5
          have e6 := (b10.cell (p := ⟨g, n * 7 + 6, none⟩) hgw9).trans z6
          have ff := fun j => (b10.frozen (p := ⟨g, j, none⟩) hgw9).trans (zf j)
          have f0 := ff (n * 7)
          have f1 := ff (n * 7 + 1)
          have f2 := ff (n * 7 + 2)
          have f3 := ff (n * 7 + 3)
          have f4 := ff (n * 7 + 4)
          have f5 := ff (n * 7 + 5)
          have f6 := ff (n * 7 + 6)
          clear o1 o2 b10 ff z0 z1 z2 z3 z4 z5 z6 zf hT11
          go_wp2
          go_ret2
          refine ⟨_, by rw [Hr.out]; rfl, by rw [Hr.out]; exact ⟨_, HT11.out⟩, ?_⟩
          exact below_set (below_set (below_set (below_set (below_set (below_set (below_set B10.out hgle) hgle) hgle) hgle) hgle) hgle) hgle
    · rw [if_pos hpl] at hR
      have d1 : (p2 != 0) = true := by simpa using hpl
      have Hr := Lib.hid hR
      clear hR hrp
      rcases hd2 with rfl | rfl
      all_goals
        go_wp2_with fail
        refine (HP.out _ (H.out.below B1.out)).mono ?_
        rintro e w2 ⟨rfl, b2⟩
        have B2 := Lib.hid (Below.step b2 B1.out.size B1.out)
        clear b2 q0 q1 q2 q3
        go_wp2
        go_ret2
        exact ⟨_, by rw [Hr.out]; rfl, by rw [Hr.out]; exact (treeO_empty (Nat.le_refl _)).mono B2.out.size, Below.alloc B2.out B2.out.size _⟩
  · rw [if_pos hd0] at hR
    subst hd2
    have d1 : (D2 != 0) = true := by simpa using hd0
    have d2 : (D2 != 7) = true := by simpa using hd7
    have Hr := Lib.hid hR
    clear hR hrp hur hdy
    go_wp2
    go_ret2
    exact ⟨_, by rw [Hr.out]; rfl, by rw [Hr.out]; exact (treeO_empty (Nat.le_refl _)).mono B1.out.size, Below.alloc B1.out B1.out.size _⟩
end Go.Proofs.YtkennmpbmbacpaaGreatDoor
