/- The package's MakeFolders. -/
import Derived.Test.YtkennmpbmbacpaaGreatDoorMakeI
import Derived.Test.YtkennmpbmbacpaaGreatDoorFoldP
import Derived.Test.YtkennmpbmbacpaaGreatDoorFindI
set_option linter.unusedSimpArgs false
set_option linter.unusedVariables false
set_option linter.unusedSectionVars false
namespace Go.Proofs.YtkennmpbmbacpaaGreatDoor
open Go.RowKit

theorem owns_drop {ps : List (List UInt8)} {k : Nat} (h : k < ps.length) : (ownsL ps).drop k = joinP (ps.take (k + 1)) :: (ownsL ps).drop (k + 1) := by
  rw [drop_getD (by rw [owns_len]; exact h), List.getD_eq_getElem?_getD, owns_at h]; rfl
set_option maxRecDepth 100000 in
set_option maxHeartbeats 1000000 in
theorem foldI_of (v : Value) (t : List Nd) (a b c d : Int) (S : ByteArray) (mode : Int) (w : World) (hM : MaxL w) (h : TreeR w v t) (ht : t.length ≤ 900) (hkz : (kidsOf t).length ≤ 900000) (hs : S.size ≤ 1048576) :
    Calls Tryz.prog 30 #[v, .agg #[.int .i64 a, .int .i64 b, .int .i64 c, .int .i64 d], .string S, .int .i64 mode] w fun e w' => ∃ v', e = .returned (.tuple #[v', .int .i64 (foldersF t a b c d S.data.toList mode).2]) ∧ TreeO w.heap.size w' v' (foldersF t a b c d S.data.toList mode).1 ∧ Below w.heap.size w w' := by
  have h1 := fun w hm => pathPartsI_of S w hm hs
  have hT := fun w h => treeI_of v t w h (by omega) (by omega)
  generalize S.data.toList = s at h1 ⊢
  obtain ⟨R, hR⟩ : ∃ R, R = foldersF t a b c d s mode := ⟨_, rfl⟩
  rw [← hR]
  unfold foldersF at hR
  have H := Lib.hid h
  have HM := Lib.hid hM
  have H1 := Lib.hid h1
  have HT := Lib.hid hT
  obtain ⟨A, cap, rfl⟩ := h.shape
  have hcap := h.caps
  clear h h1 hT hM
  by_cases hall : (okP s && (treeB t && (credB a b c d && inB mode 0 1023))) = true
  · rw [if_pos hall] at hR
    simp only [Bool.and_eq_true] at hall
    obtain ⟨g1, g2, g3, g4⟩ := hall
    have hC := fun w h => copyI_of (.slice A t.length cap) t w h (by omega) (few_of g2 (by omega))
    obtain ⟨ps, hps⟩ : ∃ ps, ps = partsP s := ⟨_, rfl⟩
    have h6 := partsP_len s
    have hsz := (namesB_iff.1 (ok_names g1).1).2
    rw [← hps] at hR h6 hsz
    have Hsz := Lib.hid (fun k x (hx : x ∈ ps.take k) => show x.length ≤ 1048576 from by have := nameB_len (hsz x (List.mem_of_mem_take hx)); omega)
    have HR := Lib.hid hR
    have Hps := Lib.hid hps
    have HC := Lib.hid hC
    rw [g2] at HT
    clear hR hps hC hsz
    go_enter Tryz.func30, Tryz.ntmps30
    go_wp2_with fail
    refine (H1.out _ (HM.out.below (by (repeat (first | exact Below.refl _ _ | exact Hbl.out | refine Below.ext ?_ (by first | omega | (simp; omega) | simp) | refine Below.setCell ?_ (by first | omega | (simp; omega) | simp) _ | refine Below.alloc ?_ (by first | omega | (simp; omega) | simp) _ | refine Below.drew ?_ | refine below_drewN ?_ _ | refine Below.step (by assumption) (by first | omega | (simp; omega) | simp) ?_))))).mono ?_
    rintro e w1 ⟨v1, rfl, o1, b1⟩
    rw [g1]
    rw [← Hps.out] at o1
    have q0 : w1.cell? ⟨w.heap.size, 0, none⟩ = some (.int .i64 a) := (b1.cell (p := ⟨w.heap.size, 0, none⟩) (by first | (simp; done) | (simp; omega) | omega)).trans (by first | assumption | go_simp)
    have q1 : w1.cell? ⟨w.heap.size, 1, none⟩ = some (.int .i64 b) := (b1.cell (p := ⟨w.heap.size, 1, none⟩) (by first | (simp; done) | (simp; omega) | omega)).trans (by first | assumption | go_simp)
    have q2 : w1.cell? ⟨w.heap.size, 2, none⟩ = some (.int .i64 c) := (b1.cell (p := ⟨w.heap.size, 2, none⟩) (by first | (simp; done) | (simp; omega) | omega)).trans (by first | assumption | go_simp)
    have q3 : w1.cell? ⟨w.heap.size, 3, none⟩ = some (.int .i64 d) := (b1.cell (p := ⟨w.heap.size, 3, none⟩) (by first | (simp; done) | (simp; omega) | omega)).trans (by first | assumption | go_simp)
    have hz1 : w.heap.size < w1.heap.size := by have := b1.size; simp at this; omega
    have B1 := Lib.hid (Below.step b1 (by simp) (show Below w.heap.size w _ from (by (repeat (first | exact Below.refl _ _ | exact Hbl.out | refine Below.ext ?_ (by first | omega | (simp; omega) | simp) | refine Below.setCell ?_ (by first | omega | (simp; omega) | simp) _ | refine Below.alloc ?_ (by first | omega | (simp; omega) | simp) _ | refine Below.drew ?_ | refine below_drewN ?_ _ | refine Below.step (by assumption) (by first | omega | (simp; omega) | simp) ?_)))))
    have S1 := Lib.hid (ownS_sl o1)
    obtain ⟨A1, c1, rfl⟩ := own_valm o1
    have hc1 := (slS_cap S1.out).2.1
    have hc2 := (slS_cap S1.out).2.2
    clear b1 o1
    go_wp2_with fail
    refine (HT.out _ (H.out.below B1.out)).mono ?_
    rintro e w2 ⟨rfl, b2⟩
    obtain ⟨d2, os2, rfl⟩ := ext_of_below b2
    clear b2
    go_wp2_with (first | (go_at_call 53; refine (credI_any _ _ _ _ _).mono ?_; rintro e w' ⟨rfl, hb⟩; obtain ⟨d1, os1, rfl⟩ := ext_of_below hb; clear hb; rw [g3]) | (go_at_call 66; refine (isModeI_any _ _).mono ?_; rintro e w' ⟨rfl, rfl⟩; rw [g4]))
    have B2 := Lib.hid (Below.step (show Below w1.heap.size w1 (ext w1 d1 (os2 ++ os1)) from (by (repeat (first | exact Below.refl _ _ | exact Hbl.out | refine Below.ext ?_ (by first | omega | (simp; omega) | simp) | refine Below.setCell ?_ (by first | omega | (simp; omega) | simp) _ | refine Below.alloc ?_ (by first | omega | (simp; omega) | simp) _ | refine Below.drew ?_ | refine below_drewN ?_ _ | refine Below.step (by assumption) (by first | omega | (simp; omega) | simp) ?_)))) B1.out.size B1.out)
    have Q := Lib.hid (show Below w1.heap.size w1 (ext w1 d1 (os2 ++ os1)) from (by (repeat (first | exact Below.refl _ _ | exact Hbl.out | refine Below.ext ?_ (by first | omega | (simp; omega) | simp) | refine Below.setCell ?_ (by first | omega | (simp; omega) | simp) _ | refine Below.alloc ?_ (by first | omega | (simp; omega) | simp) _ | refine Below.drew ?_ | refine below_drewN ?_ _ | refine Below.step (by assumption) (by first | omega | (simp; omega) | simp) ?_))))
    generalize ext w1 d1 (os2 ++ os1) = w2 at B2 Q ⊢
    refine (HC.out _ (H.out.below B2.out)).mono ?_
    rintro e w3 ⟨v3, cs3, rfl, hT3, b3⟩
    have B13 := Lib.hid (Below.step b3 Q.out.size Q.out)
    have hT3' := Lib.hid (show TreeO w.heap.size w3 v3 t from ⟨cs3, hT3.mono B2.out.size⟩)
    clear b3 hT3 B2 Q HC HT
    go_wp2
    go_loopw [12, 45] (fun o i wr => ∃ (k : Nat) (u : List Nd), k ≤ ps.length ∧ i = .int .i64 k ∧ TreeO w.heap.size wr o u ∧ u.length ≤ t.length + k ∧ (kidsOf u).length ≤ (kidsOf t).length + k ∧ mkdirs a b c d mode u ((ownsL ps).drop k) = R ∧ Below w1.heap.size w1 wr) (fun _ i _ => ps.length - (intOf i).toNat)
    case atStart => exact ⟨0, t, Nat.zero_le _, rfl, hT3'.out, Nat.le_refl _, Nat.le_refl _, HR.out.symm, B13.out⟩
    case round =>
      obtain ⟨k, u, hk, rfl, hT, hul, huk, hrec, hB⟩ := hrel
      have HB := Lib.hid hB
      have hzr := hB.size
      have q0' := (hB.cell (p := ⟨w.heap.size, 0, none⟩) hz1).trans q0
      have q1' := (hB.cell (p := ⟨w.heap.size, 1, none⟩) hz1).trans q1
      have q2' := (hB.cell (p := ⟨w.heap.size, 2, none⟩) hz1).trans q2
      have q3' := (hB.cell (p := ⟨w.heap.size, 3, none⟩) hz1).trans q3
      have hzw : w.heap.size < wr.heap.size := by omega
      have HBw := Lib.hid (Below.step hB B1.out.size B1.out)
      obtain ⟨Au, cu, rfl⟩ := TreeO.shape hT
      have HT := Lib.hid hT
      have hM := HM.out.below HBw.out
      by_cases hlt : k < ps.length
      · rw [owns_drop hlt, mkdirs_cons] at hrec
        have hpl := joinP_len (ps.take (k + 1))
        have Hj := Lib.hid (fun W (hW : Below w1.heap.size w1 W) => joinI_of (.slice A1 (k + 1) c1) (ps.take (k + 1)) W (by rw [List.map_take]; exact slS_take (S1.out.below hW) (by rw [List.length_map]; omega)) (Hsz.out (k + 1)))
        generalize joinP (ps.take (k + 1)) = p at hrec hpl Hj
        have hF := fun w hm h => findI_of (.slice Au u.length cu) u a b c d (mk p) w hm h (by omega) (by omega) (by rw [mk_size]; omega)
        have hK := fun w hm h => makeI_of (.slice Au u.length cu) u a b c d (mk p) true mode w hm h (by omega) (by omega) (by rw [mk_size]; omega)
        rw [mk_data] at hF hK
        have hml := @make_tree2 u a b c d p true mode
        have hrg := @findF_range u a b c d p
        generalize makeF u a b c d p true mode = N at hK hml hrec
        generalize findF u a b c d p = F at hF hrg hrec
        obtain ⟨u2, g2⟩ := N
        obtain ⟨f1, f2⟩ := F
        simp only at hF hK hml hrg hrec
        have HF := Lib.hid hF
        have HK := Lib.hid hK
        have HMr := Lib.hid hM
        have Hrec := Lib.hid hrec
        have Hml := Lib.hid hml
        have Hrg := Lib.hid hrg
        have hlt' : (k : Int) < (ps.length : Int) := by omega
        have zk : IntKind.i64.wrap ((k : Int) + 1) = (k : Int) + 1 := IntWalk.i64_in _ (by omega)
        have hkc : (k : Int) + 1 ≤ (c1 : Int) := by omega
        have hcu := (TreeO.r HT.out).caps
        clear hB hT hF hK hM hrec hml hrg hpl q0 q1 q2 q3
        go_wp2_with fail
        refine (Hj.out _ HB.out).mono ?_
        rintro e w4 ⟨rfl, b4⟩
        have r0 := (b4.cell (p := ⟨w.heap.size, 0, none⟩) hzw).trans q0'
        have r1 := (b4.cell (p := ⟨w.heap.size, 1, none⟩) hzw).trans q1'
        have r2 := (b4.cell (p := ⟨w.heap.size, 2, none⟩) hzw).trans q2'
        have r3 := (b4.cell (p := ⟨w.heap.size, 3, none⟩) hzw).trans q3'
        have hzw4 : w.heap.size < w4.heap.size := by have := b4.size; omega
        have B4 := Lib.hid (Below.step b4 hzr HB.out)
        have HM4 := Lib.hid (HMr.out.below b4)
        have HT4 := Lib.hid (TreeO.below HT.out b4)
        clear b4 q0' q1' q2' q3' Hj HB HBw HMr HT
        go_wp2_with fail
        refine (HF.out _ HM4.out (TreeO.r HT4.out)).mono ?_
        rintro e w5 ⟨rfl, b5⟩
        have s0 := (b5.cell (p := ⟨w.heap.size, 0, none⟩) hzw4).trans r0
        have s1 := (b5.cell (p := ⟨w.heap.size, 1, none⟩) hzw4).trans r1
        have s2 := (b5.cell (p := ⟨w.heap.size, 2, none⟩) hzw4).trans r2
        have s3 := (b5.cell (p := ⟨w.heap.size, 3, none⟩) hzw4).trans r3
        have hzw5 : w.heap.size < w5.heap.size := by have := b5.size; omega
        have B5 := Lib.hid (Below.step b5 B4.out.size B4.out)
        have HM5 := Lib.hid (HM4.out.below b5)
        have HT5 := Lib.hid (TreeO.below HT4.out b5)
        clear b5 r0 r1 r2 r3 HF B4 HM4 HT4
        by_cases hf2 : f2 = 2
        · subst hf2
          go_wp2_with fail
          refine (HK.out _ HM5.out (TreeO.r HT5.out)).mono ?_
          rintro e w6 ⟨v6, rfl, hT6, b6⟩
          have HT6 := Lib.hid (show TreeO w.heap.size w6 v6 u2 from hT6.mono (by omega))
          have B6 := Lib.hid (Below.step b6 B5.out.size B5.out)
          have B6w := Lib.hid (Below.step B6.out B1.out.size B1.out)
          obtain ⟨A6, c6, rfl⟩ := TreeO.shape hT6
          clear b6 hT6 s0 s1 s2 s3
          have hrec := Hrec.out
          rw [if_pos (by simp)] at hrec
          by_cases hg : g2 = 0
          · subst hg
            rw [if_neg (by simp)] at hrec
            obtain ⟨-, m2, m3, -⟩ := Hml.out rfl
            have Hr := Lib.hid hrec
            have M2 := Lib.hid m2
            have M3 := Lib.hid m3
            clear hrec m2 m3
            go_wp2
            refine ⟨⟨k + 1, u2, by omega, by simp, HT6.out, by have := M3.out; omega, by have := M2.out; omega, Hr.out, B6.out⟩, by simp [intOf]; omega⟩
          · rw [if_pos hg] at hrec
            have d1 : (g2 != 0) = true := by simpa using hg
            have Hr := Lib.hid hrec
            clear hrec Hml
            go_wp2
            go_ret2
            exact ⟨_, by rw [← Hr.out]; rfl, by rw [← Hr.out]; exact ⟨[], treeC_empty (ownG_none _ _)⟩, B6w.out⟩
        · have hrec := Hrec.out
          rw [if_neg hf2] at hrec
          have d1 : (f2 == 2) = false := by simpa using hf2
          have B5w := Lib.hid (Below.step B5.out B1.out.size B1.out)
          by_cases hf0 : f2 = 0
          · subst hf0
            rw [if_neg (by simp)] at hrec
            obtain ⟨x1, -, -, x4, x5⟩ := Hrg.out rfl
            obtain ⟨n, rfl⟩ : ∃ n : Nat, f1 = (n : Int) := ⟨f1.toNat, by omega⟩
            have hn : n < u.length := by omega
            have hn' : (n : Int) < (u.length : Int) := by omega
            rw [Int.toNat_natCast] at hrec
            obtain ⟨bt, ot, nA, nC, kA, kC, rfl, hbt, -, y0, -, -, -, -, -, -⟩ := (TreeO.r HT5.out).at_ (kth_at hn)
            cases hfo : (kth u n).fo
            · rw [hfo, if_pos rfl] at hrec
              rw [hfo] at y0
              have Hr := Lib.hid hrec
              clear hrec x1 x4 x5 hfo Hml Hrg
              go_wp2
              go_ret2
              exact ⟨_, by rw [← Hr.out]; rfl, by rw [← Hr.out]; exact ⟨[], treeC_empty (ownG_none _ _)⟩, B5w.out⟩
            · rw [hfo, if_neg (by simp)] at hrec
              rw [hfo] at y0
              have Hr := Lib.hid hrec
              clear hrec x1 x4 x5 hfo Hml Hrg
              go_wp2
              refine ⟨⟨k + 1, u, by omega, by simp, HT5.out, by omega, by omega, Hr.out, B5.out⟩, by simp [intOf]; omega⟩
          · rw [if_pos hf0] at hrec
            have d2 : (f2 != 0) = true := by simpa using hf0
            have Hr := Lib.hid hrec
            clear hrec Hml Hrg
            go_wp2
            go_ret2
            exact ⟨_, by rw [← Hr.out]; rfl, by rw [← Hr.out]; exact ⟨[], treeC_empty (ownG_none _ _)⟩, B5w.out⟩
      · have hke : k = ps.length := by omega
        subst hke
        rw [List.drop_eq_nil_of_le (by rw [owns_len]; exact Nat.le_refl _)] at hrec
        have Hr := Lib.hid hrec
        clear hB hT hM hrec
        go_wp2
        go_ret2
        exact ⟨_, by rw [← Hr.out]; rfl, by rw [← Hr.out]; exact HT.out, HBw.out⟩
  · rw [if_neg hall] at hR
    have Hr := Lib.hid hR
    clear hR
    rcases and4 (okP s) (treeB t) (credB a b c d) (inB mode 0 1023) with g1 | ⟨g1, g2⟩ | ⟨g1, g2, g3⟩ | ⟨g1, g2, g3, g4⟩ | ⟨g1, g2, g3, g4⟩
    · go_enter Tryz.func30, Tryz.ntmps30
      go_wp2_with fail
      refine (H1.out _ (HM.out.below (by (repeat (first | exact Below.refl _ _ | exact Hbl.out | refine Below.ext ?_ (by first | omega | (simp; omega) | simp) | refine Below.setCell ?_ (by first | omega | (simp; omega) | simp) _ | refine Below.alloc ?_ (by first | omega | (simp; omega) | simp) _ | refine Below.drew ?_ | refine below_drewN ?_ _ | refine Below.step (by assumption) (by first | omega | (simp; omega) | simp) ?_))))).mono ?_
      rintro e w1 ⟨v1, rfl, o1, b1⟩
      rw [g1]
      have B1 := Lib.hid (Below.step b1 (by simp) (show Below w.heap.size w _ from (by (repeat (first | exact Below.refl _ _ | exact Hbl.out | refine Below.ext ?_ (by first | omega | (simp; omega) | simp) | refine Below.setCell ?_ (by first | omega | (simp; omega) | simp) _ | refine Below.alloc ?_ (by first | omega | (simp; omega) | simp) _ | refine Below.drew ?_ | refine below_drewN ?_ _ | refine Below.step (by assumption) (by first | omega | (simp; omega) | simp) ?_)))))
      clear b1 o1
      go_wp2
      go_ret2
      exact ⟨_, by rw [Hr.out]; rfl, by rw [Hr.out]; exact ⟨[], treeC_empty (ownG_none _ _)⟩, B1.out⟩
    · rw [g2] at HT
      go_enter Tryz.func30, Tryz.ntmps30
      go_wp2_with fail
      refine (H1.out _ (HM.out.below (by (repeat (first | exact Below.refl _ _ | exact Hbl.out | refine Below.ext ?_ (by first | omega | (simp; omega) | simp) | refine Below.setCell ?_ (by first | omega | (simp; omega) | simp) _ | refine Below.alloc ?_ (by first | omega | (simp; omega) | simp) _ | refine Below.drew ?_ | refine below_drewN ?_ _ | refine Below.step (by assumption) (by first | omega | (simp; omega) | simp) ?_))))).mono ?_
      rintro e w1 ⟨v1, rfl, o1, b1⟩
      rw [g1]
      have B1 := Lib.hid (Below.step b1 (by simp) (show Below w.heap.size w _ from (by (repeat (first | exact Below.refl _ _ | exact Hbl.out | refine Below.ext ?_ (by first | omega | (simp; omega) | simp) | refine Below.setCell ?_ (by first | omega | (simp; omega) | simp) _ | refine Below.alloc ?_ (by first | omega | (simp; omega) | simp) _ | refine Below.drew ?_ | refine below_drewN ?_ _ | refine Below.step (by assumption) (by first | omega | (simp; omega) | simp) ?_)))))
      clear b1 o1
      go_wp2_with fail
      refine (HT.out _ (H.out.below B1.out)).mono ?_
      rintro e w2 ⟨rfl, b2⟩
      go_wp2
      go_ret2
      exact ⟨_, by rw [Hr.out]; rfl, by rw [Hr.out]; exact ⟨[], treeC_empty (ownG_none _ _)⟩, Below.step b2 B1.out.size B1.out⟩
    · rw [g2] at HT
      go_enter Tryz.func30, Tryz.ntmps30
      go_wp2_with fail
      refine (H1.out _ (HM.out.below (by (repeat (first | exact Below.refl _ _ | exact Hbl.out | refine Below.ext ?_ (by first | omega | (simp; omega) | simp) | refine Below.setCell ?_ (by first | omega | (simp; omega) | simp) _ | refine Below.alloc ?_ (by first | omega | (simp; omega) | simp) _ | refine Below.drew ?_ | refine below_drewN ?_ _ | refine Below.step (by assumption) (by first | omega | (simp; omega) | simp) ?_))))).mono ?_
      rintro e w1 ⟨v1, rfl, o1, b1⟩
      rw [g1]
      have q0 : w1.cell? ⟨w.heap.size, 0, none⟩ = some (.int .i64 a) := (b1.cell (p := ⟨w.heap.size, 0, none⟩) (by first | (simp; done) | (simp; omega) | omega)).trans (by first | assumption | go_simp)
      have q1 : w1.cell? ⟨w.heap.size, 1, none⟩ = some (.int .i64 b) := (b1.cell (p := ⟨w.heap.size, 1, none⟩) (by first | (simp; done) | (simp; omega) | omega)).trans (by first | assumption | go_simp)
      have q2 : w1.cell? ⟨w.heap.size, 2, none⟩ = some (.int .i64 c) := (b1.cell (p := ⟨w.heap.size, 2, none⟩) (by first | (simp; done) | (simp; omega) | omega)).trans (by first | assumption | go_simp)
      have q3 : w1.cell? ⟨w.heap.size, 3, none⟩ = some (.int .i64 d) := (b1.cell (p := ⟨w.heap.size, 3, none⟩) (by first | (simp; done) | (simp; omega) | omega)).trans (by first | assumption | go_simp)
      have hz1 : w.heap.size < w1.heap.size := by have := b1.size; simp at this; omega
      have B1 := Lib.hid (Below.step b1 (by simp) (show Below w.heap.size w _ from (by (repeat (first | exact Below.refl _ _ | exact Hbl.out | refine Below.ext ?_ (by first | omega | (simp; omega) | simp) | refine Below.setCell ?_ (by first | omega | (simp; omega) | simp) _ | refine Below.alloc ?_ (by first | omega | (simp; omega) | simp) _ | refine Below.drew ?_ | refine below_drewN ?_ _ | refine Below.step (by assumption) (by first | omega | (simp; omega) | simp) ?_)))))
      clear b1 o1
      go_wp2_with fail
      refine (HT.out _ (H.out.below B1.out)).mono ?_
      rintro e w2 ⟨rfl, b2⟩
      obtain ⟨d2, os2, rfl⟩ := ext_of_below b2
      clear b2
      go_wp2_with (go_at_call 53; refine (credI_any _ _ _ _ _).mono ?_; rintro e w' ⟨rfl, hb⟩; obtain ⟨d1, os1, rfl⟩ := ext_of_below hb; clear hb; rw [g3])
      go_ret2
      exact ⟨_, by rw [Hr.out]; rfl, by rw [Hr.out]; exact ⟨[], treeC_empty (ownG_none _ _)⟩, Below.step (show Below w1.heap.size w1 _ from (by (repeat (first | exact Below.refl _ _ | exact Hbl.out | refine Below.ext ?_ (by first | omega | (simp; omega) | simp) | refine Below.setCell ?_ (by first | omega | (simp; omega) | simp) _ | refine Below.alloc ?_ (by first | omega | (simp; omega) | simp) _ | refine Below.drew ?_ | refine below_drewN ?_ _ | refine Below.step (by assumption) (by first | omega | (simp; omega) | simp) ?_)))) B1.out.size B1.out⟩
    · rw [g2] at HT
      go_enter Tryz.func30, Tryz.ntmps30
      go_wp2_with fail
      refine (H1.out _ (HM.out.below (by (repeat (first | exact Below.refl _ _ | exact Hbl.out | refine Below.ext ?_ (by first | omega | (simp; omega) | simp) | refine Below.setCell ?_ (by first | omega | (simp; omega) | simp) _ | refine Below.alloc ?_ (by first | omega | (simp; omega) | simp) _ | refine Below.drew ?_ | refine below_drewN ?_ _ | refine Below.step (by assumption) (by first | omega | (simp; omega) | simp) ?_))))).mono ?_
      rintro e w1 ⟨v1, rfl, o1, b1⟩
      rw [g1]
      have q0 : w1.cell? ⟨w.heap.size, 0, none⟩ = some (.int .i64 a) := (b1.cell (p := ⟨w.heap.size, 0, none⟩) (by first | (simp; done) | (simp; omega) | omega)).trans (by first | assumption | go_simp)
      have q1 : w1.cell? ⟨w.heap.size, 1, none⟩ = some (.int .i64 b) := (b1.cell (p := ⟨w.heap.size, 1, none⟩) (by first | (simp; done) | (simp; omega) | omega)).trans (by first | assumption | go_simp)
      have q2 : w1.cell? ⟨w.heap.size, 2, none⟩ = some (.int .i64 c) := (b1.cell (p := ⟨w.heap.size, 2, none⟩) (by first | (simp; done) | (simp; omega) | omega)).trans (by first | assumption | go_simp)
      have q3 : w1.cell? ⟨w.heap.size, 3, none⟩ = some (.int .i64 d) := (b1.cell (p := ⟨w.heap.size, 3, none⟩) (by first | (simp; done) | (simp; omega) | omega)).trans (by first | assumption | go_simp)
      have hz1 : w.heap.size < w1.heap.size := by have := b1.size; simp at this; omega
      have B1 := Lib.hid (Below.step b1 (by simp) (show Below w.heap.size w _ from (by (repeat (first | exact Below.refl _ _ | exact Hbl.out | refine Below.ext ?_ (by first | omega | (simp; omega) | simp) | refine Below.setCell ?_ (by first | omega | (simp; omega) | simp) _ | refine Below.alloc ?_ (by first | omega | (simp; omega) | simp) _ | refine Below.drew ?_ | refine below_drewN ?_ _ | refine Below.step (by assumption) (by first | omega | (simp; omega) | simp) ?_)))))
      clear b1 o1
      go_wp2_with fail
      refine (HT.out _ (H.out.below B1.out)).mono ?_
      rintro e w2 ⟨rfl, b2⟩
      obtain ⟨d2, os2, rfl⟩ := ext_of_below b2
      clear b2
      go_wp2_with (first | (go_at_call 53; refine (credI_any _ _ _ _ _).mono ?_; rintro e w' ⟨rfl, hb⟩; obtain ⟨d1, os1, rfl⟩ := ext_of_below hb; clear hb; rw [g3]) | (go_at_call 66; refine (isModeI_any _ _).mono ?_; rintro e w' ⟨rfl, rfl⟩; rw [g4]))
      go_ret2
      exact ⟨_, by rw [Hr.out]; rfl, by rw [Hr.out]; exact ⟨[], treeC_empty (ownG_none _ _)⟩, Below.step (show Below w1.heap.size w1 _ from (by (repeat (first | exact Below.refl _ _ | exact Hbl.out | refine Below.ext ?_ (by first | omega | (simp; omega) | simp) | refine Below.setCell ?_ (by first | omega | (simp; omega) | simp) _ | refine Below.alloc ?_ (by first | omega | (simp; omega) | simp) _ | refine Below.drew ?_ | refine below_drewN ?_ _ | refine Below.step (by assumption) (by first | omega | (simp; omega) | simp) ?_)))) B1.out.size B1.out⟩
    · exact absurd (by rw [g1, g2, g3, g4]; rfl) hall
end Go.Proofs.YtkennmpbmbacpaaGreatDoor
