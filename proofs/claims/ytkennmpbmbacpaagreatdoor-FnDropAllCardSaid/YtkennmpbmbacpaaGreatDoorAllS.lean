/- The reference's DropAll. -/
import Derived.Test.YtkennmpbmbacpaaGreatDoorDropS
import Derived.Test.YtkennmpbmbacpaaGreatDoorAllP
import Derived.Test.YtkennmpbmbacpaaGreatDoorHeldZ
import Derived.Deep.LoopGhost
set_option linter.unusedSimpArgs false
set_option linter.unusedVariables false
set_option linter.unusedSectionVars false
namespace Go.Proofs.YtkennmpbmbacpaaGreatDoor
open Go.RowKit

theorem own_G {B : Nat} {w : World} {v : Value} {l : List (List UInt8)} (h : OwnS B w v (l.map mk)) : OwnG EL 9 B w v l := by
  have e : ∀ l : List (List UInt8), l.flatMap EL.put = (l.map mk).map Value.string := fun l => by
    induction l with
    | nil => rfl
    | cons a r ih => rw [List.flatMap_cons, List.map_cons, List.map_cons, ← ih]; rfl
  unfold OwnG
  unfold OwnS at h
  rw [e]
  rw [List.length_map] at h
  exact h
set_option maxRecDepth 100000 in
set_option maxHeartbeats 2000000 in
theorem allS_of (v : Value) (t : List Nd) (a b c d : Int) (p : List UInt8) (w : World) (h : TreeR w v t) (ht : t.length ≤ 1000) (hkz : (kidsOf t).length ≤ 1000000) (hf : Few t) (hl : treeB t = true → Lev t) (hp : p.length ≤ 1048576) :
    Calls Tryz.prog 28 #[v, .agg #[.int .i64 a, .int .i64 b, .int .i64 c, .int .i64 d], .string (mk p)] w fun e w' => ∃ v', e = .returned (.tuple #[v', .int .i64 (allF a b c d 6 t p).2]) ∧ TreeO w.heap.size w' v' (allF a b c d 6 t p).1 ∧ Below w.heap.size w w' := by
  have HC := Lib.hid (fun w h => copyS_of v t w h ht hf)
  have H := Lib.hid h
  have Hl := Lib.hid hl
  obtain ⟨R, hR⟩ : ∃ R, R = allF a b c d 6 t p := ⟨_, rfl⟩
  rw [← hR]
  have HR0 := Lib.hid hR
  obtain ⟨A, cap, rfl⟩ := h.shape
  clear h hf hl hR
  go_enter Tryz.func28, Tryz.ntmps28
  go_wp2_with fail
  refine (HC.out _ (H.out.below (by (repeat (first | exact Below.refl _ _ | exact Hbl.out | refine Below.ext ?_ (by first | omega | (simp; omega) | simp) | refine Below.setCell ?_ (by first | omega | (simp; omega) | simp) _ | refine Below.alloc ?_ (by first | omega | (simp; omega) | simp) _ | refine Below.drew ?_ | refine below_drewN ?_ _ | refine Below.step (by assumption) (by first | omega | (simp; omega) | simp) ?_))))).mono ?_
  rintro e w1 ⟨v1, cs1, rfl, hT1, -, b1⟩
  have q0 : w1.cell? ⟨w.heap.size, 0, none⟩ = some (.int .i64 a) := (b1.cell (p := ⟨w.heap.size, 0, none⟩) (by first | (simp; done) | (simp; omega) | omega)).trans (by first | assumption | go_simp)
  have q1 : w1.cell? ⟨w.heap.size, 1, none⟩ = some (.int .i64 b) := (b1.cell (p := ⟨w.heap.size, 1, none⟩) (by first | (simp; done) | (simp; omega) | omega)).trans (by first | assumption | go_simp)
  have q2 : w1.cell? ⟨w.heap.size, 2, none⟩ = some (.int .i64 c) := (b1.cell (p := ⟨w.heap.size, 2, none⟩) (by first | (simp; done) | (simp; omega) | omega)).trans (by first | assumption | go_simp)
  have q3 : w1.cell? ⟨w.heap.size, 3, none⟩ = some (.int .i64 d) := (b1.cell (p := ⟨w.heap.size, 3, none⟩) (by first | (simp; done) | (simp; omega) | omega)).trans (by first | assumption | go_simp)
  have hzw : w.heap.size < w1.heap.size := by have := b1.size; simp at this; omega
  have B1 := Lib.hid (Below.step b1 (by simp) (show Below w.heap.size w _ from (by (repeat (first | exact Below.refl _ _ | exact Hbl.out | refine Below.ext ?_ (by first | omega | (simp; omega) | simp) | refine Below.setCell ?_ (by first | omega | (simp; omega) | simp) _ | refine Below.alloc ?_ (by first | omega | (simp; omega) | simp) _ | refine Below.drew ?_ | refine below_drewN ?_ _ | refine Below.step (by assumption) (by first | omega | (simp; omega) | simp) ?_)))))
  have HT1 := Lib.hid (TreeO.r ⟨_, hT1⟩)
  clear b1 hT1 HC H
  go_wp2
  go_loopg [8] ((kidsOf t).length + 1) (fun gk o wr => ∃ T : List Nd, TreeR wr o T ∧ T.length ≤ 1000 ∧ (kidsOf T).length < gk ∧ gk ≤ 1000001 ∧ (treeB T = true → Lev T) ∧ R = allF a b c d 6 T p ∧ Below w1.heap.size w1 wr)
  case atStart => exact ⟨t, HT1.out, ht, Nat.lt_succ_self _, by omega, Hl.out, HR0.out, Below.refl _ _⟩
  case round =>
    obtain ⟨T, hT, hTl, hTk, hgk, hTv, hTR, hB⟩ := hrel
    have HT := Lib.hid hT
    have HTv := Lib.hid hTv
    have hst := all_step (a := a) (b := b) (c := c) (d := d) 6 T p hTv (fun _ => by omega)
    rw [← hTR] at hst
    obtain ⟨D, hD⟩ : ∃ D, D = deepF a b c d T 7 p := ⟨_, rfl⟩
    rw [← hD] at hst
    have Hst := Lib.hid hst
    have HD := Lib.hid hD
    have HB := Lib.hid hB
    obtain ⟨AT, cT, rfl⟩ := hT.shape
    have hcT := hT.caps
    have hF := fun s w h (hs : s.length ≤ 1048576) => findS_mk (.slice AT T.length cT) T a b c d s w h hTl (by omega) hs
    have HF := Lib.hid hF
    have HN := Lib.hid (fun s w h (hs : s.length ≤ 1048576) => dropNS_of (.slice AT T.length cT) T a b c d s w h hTl (by omega) hs)
    have hzr := hB.size
    obtain ⟨wo, rfl⟩ : ∃ wo, wo = wr := ⟨_, rfl⟩
    obtain ⟨go, hgo⟩ : ∃ go, go = gk := ⟨_, rfl⟩
    have Hgo := Lib.hid hgo
    clear hT hTv hTR hst hD hB hF HT1 HR0 hgo
    go_wp2
    go_loopg [9] 7 (fun g2 at_ wq => ∃ s : List UInt8, at_ = .string (mk s) ∧ D = deepF a b c d T g2 s ∧ (okP s = true → 7 ≤ g2 + (partsP s).length) ∧ s.length ≤ 1048576 ∧ Below wo.heap.size wo wq)
    case atStart => exact ⟨p, rfl, HD.out, fun _ => by omega, hp, Below.refl _ _⟩
    case round =>
      obtain ⟨s, rfl, hDs, h7, hsl, hB⟩ := hrel
      have HDs := Lib.hid hDs
      have H7 := Lib.hid h7
      have HB2 := Lib.hid hB
      have hz2 := hB.size
      have B12 := Lib.hid (Below.step hB HB.out.size HB.out)
      have b12 := B12.out
      have r0 : wr.cell? ⟨w.heap.size, 0, none⟩ = some (.int .i64 a) := (b12.cell (p := ⟨w.heap.size, 0, none⟩) (by first | (simp; done) | (simp; omega) | omega)).trans (by first | assumption | go_simp)
      have r1 : wr.cell? ⟨w.heap.size, 1, none⟩ = some (.int .i64 b) := (b12.cell (p := ⟨w.heap.size, 1, none⟩) (by first | (simp; done) | (simp; omega) | omega)).trans (by first | assumption | go_simp)
      have r2 : wr.cell? ⟨w.heap.size, 2, none⟩ = some (.int .i64 c) := (b12.cell (p := ⟨w.heap.size, 2, none⟩) (by first | (simp; done) | (simp; omega) | omega)).trans (by first | assumption | go_simp)
      have r3 : wr.cell? ⟨w.heap.size, 3, none⟩ = some (.int .i64 d) := (b12.cell (p := ⟨w.heap.size, 3, none⟩) (by first | (simp; done) | (simp; omega) | omega)).trans (by first | assumption | go_simp)
      clear b12
      have hFs := HF.out s
      have hfr := @findF_range T a b c d s
      have hdn := @deep_no T a b c d s
      have hdy := @deep_yes T a b c d s
      have hlo := fun hl x hx hh => @last_ok T a b c d s x hl hh hx
      unfold nodeNs at hdn hdy hlo
      generalize findF T a b c d s = F at hFs hfr hdn hdy hlo
      obtain ⟨f1, f2⟩ := F
      simp only at hFs hfr hdn hdy hlo
      have HFs := Lib.hid hFs
      clear hDs h7 hB hFs
      go_wp2_with fail
      refine (HFs.out _ (HT.out.below HB2.out) hsl).mono ?_
      rintro e w3 ⟨rfl, b3⟩
      have B3 := Lib.hid (Below.step b3 HB2.out.size HB2.out)
      have hz3 := b3.size
      have hzw3 : w.heap.size < w3.heap.size := by omega
      have B13 := Lib.hid (Below.step B3.out HB.out.size HB.out)
      have b13 := B13.out
      have u0 : w3.cell? ⟨w.heap.size, 0, none⟩ = some (.int .i64 a) := (b13.cell (p := ⟨w.heap.size, 0, none⟩) (by first | (simp; done) | (simp; omega) | omega)).trans (by first | assumption | go_simp)
      have u1 : w3.cell? ⟨w.heap.size, 1, none⟩ = some (.int .i64 b) := (b13.cell (p := ⟨w.heap.size, 1, none⟩) (by first | (simp; done) | (simp; omega) | omega)).trans (by first | assumption | go_simp)
      have u2 : w3.cell? ⟨w.heap.size, 2, none⟩ = some (.int .i64 c) := (b13.cell (p := ⟨w.heap.size, 2, none⟩) (by first | (simp; done) | (simp; omega) | omega)).trans (by first | assumption | go_simp)
      have u3 : w3.cell? ⟨w.heap.size, 3, none⟩ = some (.int .i64 d) := (b13.cell (p := ⟨w.heap.size, 3, none⟩) (by first | (simp; done) | (simp; omega) | omega)).trans (by first | assumption | go_simp)
      clear b13
      clear b3 r0 r1 r2 r3
      by_cases hf2 : f2 = 0
      · subst hf2
        obtain ⟨tv, -, hok, g0, g1⟩ := hfr rfl
        obtain ⟨m, rfl⟩ : ∃ m : Nat, f1 = (m : Int) := ⟨f1.toNat, by omega⟩
        have hm : m < T.length := by omega
        have hm' : (m : Int) < (T.length : Int) := by omega
        rw [Int.toNat_natCast] at hdn hdy hlo
        obtain ⟨bt, ot, nA, nC, kA, kC, rfl, hbt, hS, -, -, -, -, -, y5, -⟩ := (HT.out.below B3.out).at_ (kth_at hm)
        have HS := Lib.hid hS
        by_cases hn0 : (kth T m).ns = []
        · have hDe : D = s := by rw [HDs.out]; exact hdn (fun e => e.2 hn0)
          rw [hn0] at y5
          clear hdn hdy hlo hfr hS HS
          subst hDe
          have HNs := Lib.hid (HN.out D _ (HT.out.below B3.out) hsl)
          have Hdl := Lib.hid (@drop_law T a b c d D)
          have Hdo := Lib.hid (@drop_no T a b c d D)
          have Hlev := Lib.hid (fun hl hd => @drop_lev T a b c d D hl hd)
          have Hdp := Lib.hid (@drop_parts T a b c d D)
          generalize hX : dropF T a b c d D = X at HNs Hst
          rw [hX] at Hdl Hdo Hlev
          have HX := Lib.hid hX
          clear hX Hdp
          obtain ⟨X1, X2⟩ := X
          go_wp2_with fail
          refine HNs.out.mono ?_
          rintro e w5 ⟨v5, rfl, hT5, b5⟩
          have B5 := Lib.hid (Below.step b5 B3.out.size B3.out)
          have HT5 := Lib.hid hT5
          obtain ⟨A5, c5, rfl⟩ := hT5.shape
          have hz5 := b5.size
          have Bw5 := Lib.hid (Below.step (Below.step B5.out HB.out.size HB.out) B1.out.size B1.out)
          have hww3 : w.heap.size ≤ w3.heap.size := by omega
          clear b5 hT5 HNs
          by_cases hx2 : X2 = 0
          · subst hx2
            have hd0 : dropOf T a b c d D false = 0 := by
              by_cases e : dropOf T a b c d D false = 0
              · exact e
              · have := Hdo.out e
                injection this with _ e2
                exact absurd e2.symm e
            obtain ⟨k0, -, hk1, -, hv1, -, hk2, -, hk3⟩ := Hdl.out hd0
            have htv : treeB T = true := (findF_range (by rw [hk1])).1
            have hlv1 : Lev X1 := Hlev.out (HTv.out htv) hd0
            have hX1l : X1.length ≤ T.length := by rcases hk2 with ⟨h, _⟩ | ⟨h, _⟩ <;> (try simp only at h) <;> omega
            have HX1l := Lib.hid hX1l
            have Hk3 := Lib.hid hk3
            have HL1 := Lib.hid hlv1
            clear hk1 hv1 hk2 hk3 htv hlv1 hX1l hd0 Hdl Hdo Hlev
            by_cases hDp : D = p
            · have hRe : R = (X1, 0) := by rw [Hst.out, if_pos hDp, ← hDp]; exact HX.out
              subst hDp
              have HRe := Lib.hid hRe
              clear hRe Hst
              go_wp2
              go_ret2
              exact ⟨_, by rw [HRe.out]; rfl, by rw [HRe.out]; exact HT5.out.mono hww3, Bw5.out⟩
            · have hRe : R = allF a b c d 6 X1 p := by rw [Hst.out, if_neg hDp]; exact if_neg (fun e => e rfl)
              have hne : ((mk D).toList == (mk p).toList) = false := by rw [mk_toList, mk_toList]; exact beq_eq_false_iff_ne.2 hDp
              have hne2 : ¬ (mk D).toList = (mk p).toList := by rw [mk_toList, mk_toList]; exact hDp
              have HRe := Lib.hid hRe
              clear hRe hDp Hst
              go_wp2
              go_roundg (go - 1)
              case measure => have := Hgo.out; omega
              case rel => exact ⟨X1, HT5.out.r, by have := HX1l.out; omega, by have := Hk3.out; have := Hgo.out; omega, by have := Hgo.out; omega, fun _ => HL1.out, HRe.out, Below.step B5.out HB.out.size HB.out⟩
          · have hXe : X1 = [] := by
              by_cases e : dropOf T a b c d D false = 0
              · obtain ⟨_, _, _, h, _⟩ := Hdl.out e
                exact absurd h hx2
              · have := Hdo.out e
                injection this
            have hRe : R = ([], X2) := by
              by_cases hDp : D = p
              · rw [Hst.out, if_pos hDp, ← hDp, HX.out, hXe]
              · rw [Hst.out, if_neg hDp]; exact if_pos hx2
            have d5 : (X2 != 0) = true := by simpa using hx2
            have HRe := Lib.hid hRe
            clear hRe Hst Hdl Hdo Hlev
            go_wp2
            go_ret2
            exact ⟨_, by rw [HRe.out]; rfl, by rw [HRe.out]; exact (treeO_empty (Nat.le_refl _)).mono Bw5.out.size, Below.alloc Bw5.out Bw5.out.size _⟩
        · have hnl := List.length_pos_iff.2 hn0
          obtain ⟨L, hL⟩ : ∃ L, (kth T m).ns.length = L + 1 := ⟨(kth T m).ns.length - 1, by omega⟩
          obtain ⟨x, hx⟩ : ∃ x, x = (kth T m).ns.getLastD [] := ⟨_, rfl⟩
          obtain ⟨-, hnx, hok2, hpp, hjn, h6⟩ := hlo (HTv.out tv) x (by rw [hx]; exact getLastD_mem hn0) ⟨rfl, hn0⟩
          obtain ⟨gm, hgm⟩ : ∃ gm, gk = gm + 1 := ⟨gk - 1, by have := H7.out hok; omega⟩
          have hDn : D = deepF a b c d T gm (belowP s x) := by rw [HDs.out, hgm, hdy ⟨rfl, hn0⟩, ← hx]
          have h7n : okP (belowP s x) = true → 7 ≤ gm + (partsP (belowP s x)).length := fun _ => by have := H7.out hok; rw [hpp, List.length_append, List.length_singleton]; omega
          have hbl : (belowP s x).length ≤ 1048576 := by rw [← hjn]; have := joinP_len (partsP s ++ [x]); omega
          have hbne : belowP s x ≠ [] := okP_ne hok2
          have hxe : nthN (kth T m) L = x := by
            unfold nthN
            rw [hx, lastD_getD hn0, hL, Nat.add_sub_cancel]
          obtain ⟨bn, on, rfl, hbn, qn⟩ := HS.out.ns.at_ (nthN_at (show L < (kth T m).ns.length by omega))
          rw [hxe] at qn
          have y8 : w3.cell? ⟨bn, on + L, none⟩ = some (.string (mk x)) := by have := qn 0 _ rfl; rw [show EL.z = 1 from rfl, Nat.mul_one, Nat.add_zero] at this; exact this
          have hLb : L + 1 ≤ 9223372036854775807 := by have := HS.out.ns.caps; omega
          have HP := Lib.hid (pathPartsS_of (mk s) w3 (by rw [mk_size]; exact hsl))
          rw [mk_data] at HP
          unfold Parts at HP
          have HDn := Lib.hid hDn
          have H7n := Lib.hid h7n
          have Hjn := Lib.hid hjn
          have Hgm := Lib.hid hgm
          have hp6 : (partsP s).length ≤ 6 := by omega
          have hps := (namesB_iff.1 (ok_names hok).1).2
          have Hps := Lib.hid hps
          rw [hok] at HP
          rw [hL] at y5
          have hx8 : x.length ≤ 8 := nameB_len hnx
          generalize hPP : partsP s = PP at HP Hjn Hps hp6
          have hLL : ((L : Int) + 1 == 0) = false := by rw [beq_eq_false_iff_ne]; omega
          have zL2 : IntKind.i64.wrap (L : Int) = (L : Int) := IntWalk.i64_in _ (by omega)
          have hL0 : (L : Int) < (L : Int) + 1 := by omega
          have zL : IntKind.i64.wrap ((L : Int) + 1 - 1) = (L : Int) := by rw [IntWalk.i64_in _ (by omega)]; omega
          clear hdn hdy hlo hfr hS HS qn hDn h7n hjn hgm hps hPP hx hxe hok2 hpp hn0 hnl h6 hL HDs H7 hok hnx
          go_wp2_with fail
          refine HP.out.mono ?_
          rintro e w4 ⟨v4, rfl, o4, b4⟩
          have O4 := Lib.hid (own_G o4)
          obtain ⟨A4, c4, rfl⟩ := own_valm o4
          have hz4 := b4.size
          have e5 : w4.cell? ⟨bt, ot + m * 7 + 5, none⟩ = some (.slice (some ⟨bn, on, none⟩) (L + 1) nC) := (b4.cell (p := ⟨bt, ot + m * 7 + 5, none⟩) hbt).trans y5
          have e8 : w4.cell? ⟨bn, on + L, none⟩ = some (.string (mk x)) := (b4.cell (p := ⟨bn, on + L, none⟩) hbn).trans y8
          have B4 := Lib.hid (Below.step b4 B3.out.size B3.out)
          clear b4 o4 y5 y8 HP u0 u1 u2 u3
          go_upto_region 6 with fail
          refine wp_region_Z (fun w' => w'.cell? ⟨bt, ot + m * 7 + 5, none⟩ = some (.slice (some ⟨bn, on, none⟩) (L + 1) nC) ∧ w'.cell? ⟨bn, on + L, none⟩ = some (.string (mk x))) 18 (by kernel_rfl) ?_ (fun hHeld => ?_)
          · (try dsimp only)
            first | exact ⟨by assumption, by assumption⟩ | (go_simp; done) | (constructor <;> (first | assumption | (go_simp; done)))
          refine zkP (i := 0) (v := ?_) rfl (by kernel_rfl) (by kernel_rfl) (fun _ _ _ h => h) rfl ?_ (by assumption) ?_; rotate_left; (focus (intro w; go_simp; try with_reducible rfl))
          try simp only [Act.put, List.getElem_toArray, List.getElem_cons_succ, List.getElem_cons_zero, List.setIfInBounds_toArray, List.set_cons_zero, List.set_cons_succ]
          refine zkP (i := 1) (v := ?_) rfl (by kernel_rfl) (by kernel_rfl) (fun _ _ _ h => h) rfl ?_ (by assumption) ?_; rotate_left; (focus (intro w; go_simp; try with_reducible rfl))
          try simp only [Act.put, List.getElem_toArray, List.getElem_cons_succ, List.getElem_cons_zero, List.setIfInBounds_toArray, List.set_cons_zero, List.set_cons_succ]
          refine zkP (i := 2) (v := ?_) rfl (by kernel_rfl) (by kernel_rfl) (fun _ _ _ h => h) rfl ?_ (by assumption) ?_; rotate_left; (focus (intro w; go_simp; try with_reducible rfl))
          try simp only [Act.put, List.getElem_toArray, List.getElem_cons_succ, List.getElem_cons_zero, List.setIfInBounds_toArray, List.set_cons_zero, List.set_cons_succ]
          refine zkP (i := 3) (v := ?_) rfl (by kernel_rfl) (by kernel_rfl) (fun _ _ _ h => h) rfl ?_ (by assumption) ?_; rotate_left; (focus (intro w; go_simp; try with_reducible rfl))
          try simp only [Act.put, List.getElem_toArray, List.getElem_cons_succ, List.getElem_cons_zero, List.setIfInBounds_toArray, List.set_cons_zero, List.set_cons_succ]
          refine zkP (i := 4) (v := ?_) rfl (by kernel_rfl) (by kernel_rfl) (fun _ _ _ h => h) rfl ?_ (by assumption) ?_; rotate_left; (focus (intro w; go_simp; try with_reducible rfl))
          try simp only [Act.put, List.getElem_toArray, List.getElem_cons_succ, List.getElem_cons_zero, List.setIfInBounds_toArray, List.set_cons_zero, List.set_cons_succ]
          refine zkL (i := 5) (v := ?_) rfl (by kernel_rfl) (by kernel_rfl) (fun _ _ _ h => h) (by kernel_rfl) ?_ (by assumption) ?_; rotate_left; (focus (intro w hSw; (try dsimp only at hSw); go_simp; try with_reducible rfl))
          try simp only [Act.put, List.getElem_toArray, List.getElem_cons_succ, List.getElem_cons_zero, List.setIfInBounds_toArray, List.set_cons_zero, List.set_cons_succ]
          refine zkP (i := 6) (v := ?_) rfl (by kernel_rfl) (by kernel_rfl) (fun _ _ _ h => h) rfl ?_ (by assumption) ?_; rotate_left; (focus (intro w; go_simp; try with_reducible rfl))
          try simp only [Act.put, List.getElem_toArray, List.getElem_cons_succ, List.getElem_cons_zero, List.setIfInBounds_toArray, List.set_cons_zero, List.set_cons_succ]
          refine zkP (i := 7) (v := ?_) rfl (by kernel_rfl) (by kernel_rfl) (fun _ _ _ h => h) rfl ?_ (by assumption) ?_; rotate_left; (focus (intro w; go_simp; try with_reducible rfl))
          try simp only [Act.put, List.getElem_toArray, List.getElem_cons_succ, List.getElem_cons_zero, List.setIfInBounds_toArray, List.set_cons_zero, List.set_cons_succ]
          refine zkP (i := 8) (v := ?_) rfl (by kernel_rfl) (by kernel_rfl) (fun _ _ _ h => h) rfl ?_ (by assumption) ?_; rotate_left; (focus (intro w; go_simp; try with_reducible rfl))
          try simp only [Act.put, List.getElem_toArray, List.getElem_cons_succ, List.getElem_cons_zero, List.setIfInBounds_toArray, List.set_cons_zero, List.set_cons_succ]
          refine zkP (i := 9) (v := ?_) rfl (by kernel_rfl) (by kernel_rfl) (fun _ _ _ h => h) rfl ?_ (by assumption) ?_; rotate_left; (focus (intro w; go_simp; try with_reducible rfl))
          try simp only [Act.put, List.getElem_toArray, List.getElem_cons_succ, List.getElem_cons_zero, List.setIfInBounds_toArray, List.set_cons_zero, List.set_cons_succ]
          refine zkL (i := 10) (v := ?_) rfl (by kernel_rfl) (by kernel_rfl) (fun _ _ _ h => h) (by kernel_rfl) ?_ (by assumption) ?_; rotate_left; (focus (intro w hSw; (try dsimp only at hSw); go_simp; try with_reducible rfl))
          try simp only [Act.put, List.getElem_toArray, List.getElem_cons_succ, List.getElem_cons_zero, List.setIfInBounds_toArray, List.set_cons_zero, List.set_cons_succ]
          refine zkP (i := 11) (v := ?_) rfl (by kernel_rfl) (by kernel_rfl) (fun _ _ _ h => h) rfl ?_ (by assumption) ?_; rotate_left; (focus (intro w; go_simp; try with_reducible rfl))
          try simp only [Act.put, List.getElem_toArray, List.getElem_cons_succ, List.getElem_cons_zero, List.setIfInBounds_toArray, List.set_cons_zero, List.set_cons_succ]
          refine zkP (i := 12) (v := ?_) rfl (by kernel_rfl) (by kernel_rfl) (fun _ _ _ h => h) rfl ?_ (by assumption) ?_; rotate_left; (focus (intro w; go_simp; try with_reducible rfl))
          try simp only [Act.put, List.getElem_toArray, List.getElem_cons_succ, List.getElem_cons_zero, List.setIfInBounds_toArray, List.set_cons_zero, List.set_cons_succ]
          refine zkP (i := 13) (v := ?_) rfl (by kernel_rfl) (by kernel_rfl) (fun _ _ _ h => h) rfl ?_ (by assumption) ?_; rotate_left; (focus (intro w; go_simp; try with_reducible rfl))
          try simp only [Act.put, List.getElem_toArray, List.getElem_cons_succ, List.getElem_cons_zero, List.setIfInBounds_toArray, List.set_cons_zero, List.set_cons_succ]
          refine zkL (i := 14) (v := ?_) rfl (by kernel_rfl) (by kernel_rfl) (fun _ _ _ h => h) (by kernel_rfl) ?_ (by assumption) ?_; rotate_left; (focus (intro w hSw; (try dsimp only at hSw); go_simp; try with_reducible rfl))
          try simp only [Act.put, List.getElem_toArray, List.getElem_cons_succ, List.getElem_cons_zero, List.setIfInBounds_toArray, List.set_cons_zero, List.set_cons_succ]
          refine wpAnyZ_ready (rs := [15]) (by kernel_rfl) (by simp) ?_
          refine AllReadyZ.keep rfl (fun K hK => ?_) (AllReadyZ.nil)
          go_simp
          refine hK.out _ _ ?_ (fun hHeld => ?_)
          · (try dsimp only)
            first | exact ⟨by assumption, by assumption⟩ | (go_simp; done) | (constructor <;> (first | assumption | (go_simp; done)))
          clear hK K
          try simp only [Act.put, List.getElem_toArray, List.getElem_cons_succ, List.getElem_cons_zero, List.setIfInBounds_toArray, List.set_cons_zero, List.set_cons_succ]
          refine wpAnyZ_ready (rs := [16]) (by kernel_rfl) (by simp) ?_
          refine AllReadyZ.keep rfl (fun K hK => ?_) (AllReadyZ.nil)
          refine step_appG fitEL _ rfl (.tmp 43) (.tmp 58) rfl w3.heap.size (.slice A4 PP.length c4) PP rfl ?_ _ [x] rfl ?_ ?_ ?_ ?_
          · exact ownG_below O4.out (by (repeat (first | exact Below.refl _ _ | exact Hbl.out | refine Below.ext ?_ (by first | omega | (simp; omega) | simp) | refine Below.setCell ?_ (by first | omega | (simp; omega) | simp) _ | refine Below.alloc ?_ (by first | omega | (simp; omega) | simp) _ | refine Below.drew ?_ | refine below_drewN ?_ _ | refine Below.step (by assumption) (by first | omega | (simp; omega) | simp) ?_)))
          · refine slG_one (by simp) ?_
            intro j u hu
            rcases j with _ | j <;> simp [EL] at hu
            subst hu
            go_simp
          · simp; omega
          · first | omega | (simp; omega)
          rintro v9 w9 ha9 hb9
          have k5 : w9.cell? ⟨bt, ot + m * 7 + 5, none⟩ = some (.slice (some ⟨bn, on, none⟩) (L + 1) nC) := (hb9.cell (p := ⟨bt, ot + m * 7 + 5, none⟩) hbt).trans (by go_simp)
          have k8 : w9.cell? ⟨bn, on + L, none⟩ = some (.string (mk x)) := (hb9.cell (p := ⟨bn, on + L, none⟩) hbn).trans (by go_simp)
          have o9 := ha9.1
          have HJ := Lib.hid (joinS_of v9 (PP ++ [x]) w9 (sls_of (ownG_sl o9)) (by simp; omega) (fun y hy => by
            rcases List.mem_append.1 hy with h | h
            · have := nameB_len (Hps.out y h); omega
            · rw [List.mem_singleton.1 h]; omega))
          rw [Hjn.out] at HJ
          have B9 := Lib.hid (Below.trans (Below.step (show Below w4.heap.size w4 _ from (by (repeat (first | exact Below.refl _ _ | exact Hbl.out | refine Below.ext ?_ (by first | omega | (simp; omega) | simp) | refine Below.setCell ?_ (by first | omega | (simp; omega) | simp) _ | refine Below.alloc ?_ (by first | omega | (simp; omega) | simp) _ | refine Below.drew ?_ | refine below_drewN ?_ _ | refine Below.step (by assumption) (by first | omega | (simp; omega) | simp) ?_)))) B4.out.size B4.out) (hb9.mono (Nat.le_trans hz2 hz3)))
          clear ha9 o9 hb9
          refine hK.out _ _ ?_ (fun hHeld => ?_)
          · (try dsimp only)
            first | exact ⟨by assumption, by assumption⟩ | (go_simp; done) | (constructor <;> (first | assumption | (go_simp; done)))
          clear hK K
          try simp only [Act.put, List.getElem_toArray, List.getElem_cons_succ, List.getElem_cons_zero, List.setIfInBounds_toArray, List.set_cons_zero, List.set_cons_succ]
          refine wpAnyZ_ready (rs := [17]) (by kernel_rfl) (by simp) ?_
          refine AllReadyZ.keep rfl (fun K hK => ?_) (AllReadyZ.nil)
          go_simp
          go_at_call 75
          refine HJ.out.mono ?_
          rintro e w' ⟨rfl, rfl⟩
          refine hK.out _ _ ?_ (fun hHeld => ?_)
          · (try dsimp only)
            first | exact ⟨by assumption, by assumption⟩ | (go_simp; done) | (constructor <;> (first | assumption | (go_simp; done)))
          clear hK K
          try simp only [Act.put, List.getElem_toArray, List.getElem_cons_succ, List.getElem_cons_zero, List.setIfInBounds_toArray, List.set_cons_zero, List.set_cons_succ]
          refine wpAnyZ_ready (rs := [18]) (by kernel_rfl) (by simp) ?_
          refine AllReadyZ.last rfl (by kernel_rfl) (fun K hK => ?_) (AllReadyZ.nil)
          go_simp
          refine hK.out _ _ ?_
          clear hK K
          try simp only [Act.put, List.getElem_toArray, List.getElem_cons_succ, List.getElem_cons_zero, List.setIfInBounds_toArray, List.set_cons_zero, List.set_cons_succ]
          refine wpAnyZ_done (by kernel_rfl) ?_ _
          have hbe : ((mk (belowP s x)).toList == []) = false := by rw [mk_toList]; exact beq_eq_false_iff_ne.2 hbne
          have hbe2 : ¬ (mk (belowP s x)).toList = [] := by rw [mk_toList]; exact hbne
          go_wp2
          go_roundg gm
          case measure => have := Hgm.out; omega
          case rel => exact ⟨belowP s x, rfl, HDn.out, H7n.out, hbl, B9.out⟩
      · have hDe : D = s := by rw [HDs.out]; exact hdn (fun e => hf2 e.1)
        have d2 : (f2 != 0) = true := by simpa using hf2
        clear hdn hdy hlo hfr
        subst hDe
        have HNs := Lib.hid (HN.out D _ (HT.out.below B3.out) hsl)
        have Hdl := Lib.hid (@drop_law T a b c d D)
        have Hdo := Lib.hid (@drop_no T a b c d D)
        have Hlev := Lib.hid (fun hl hd => @drop_lev T a b c d D hl hd)
        have Hdp := Lib.hid (@drop_parts T a b c d D)
        generalize hX : dropF T a b c d D = X at HNs Hst
        rw [hX] at Hdl Hdo Hlev
        have HX := Lib.hid hX
        clear hX Hdp
        obtain ⟨X1, X2⟩ := X
        go_wp2_with fail
        refine HNs.out.mono ?_
        rintro e w5 ⟨v5, rfl, hT5, b5⟩
        have B5 := Lib.hid (Below.step b5 B3.out.size B3.out)
        have HT5 := Lib.hid hT5
        obtain ⟨A5, c5, rfl⟩ := hT5.shape
        have hz5 := b5.size
        have Bw5 := Lib.hid (Below.step (Below.step B5.out HB.out.size HB.out) B1.out.size B1.out)
        have hww3 : w.heap.size ≤ w3.heap.size := by omega
        clear b5 hT5 HNs
        by_cases hx2 : X2 = 0
        · subst hx2
          have hd0 : dropOf T a b c d D false = 0 := by
            by_cases e : dropOf T a b c d D false = 0
            · exact e
            · have := Hdo.out e
              injection this with _ e2
              exact absurd e2.symm e
          obtain ⟨k0, -, hk1, -, hv1, -, hk2, -, hk3⟩ := Hdl.out hd0
          have htv : treeB T = true := (findF_range (by rw [hk1])).1
          have hlv1 : Lev X1 := Hlev.out (HTv.out htv) hd0
          have hX1l : X1.length ≤ T.length := by rcases hk2 with ⟨h, _⟩ | ⟨h, _⟩ <;> (try simp only at h) <;> omega
          have HX1l := Lib.hid hX1l
          have Hk3 := Lib.hid hk3
          have HL1 := Lib.hid hlv1
          clear hk1 hv1 hk2 hk3 htv hlv1 hX1l hd0 Hdl Hdo Hlev
          by_cases hDp : D = p
          · have hRe : R = (X1, 0) := by rw [Hst.out, if_pos hDp, ← hDp]; exact HX.out
            subst hDp
            have HRe := Lib.hid hRe
            clear hRe Hst
            go_wp2
            go_ret2
            exact ⟨_, by rw [HRe.out]; rfl, by rw [HRe.out]; exact HT5.out.mono hww3, Bw5.out⟩
          · have hRe : R = allF a b c d 6 X1 p := by rw [Hst.out, if_neg hDp]; exact if_neg (fun e => e rfl)
            have hne : ((mk D).toList == (mk p).toList) = false := by rw [mk_toList, mk_toList]; exact beq_eq_false_iff_ne.2 hDp
            have hne2 : ¬ (mk D).toList = (mk p).toList := by rw [mk_toList, mk_toList]; exact hDp
            have HRe := Lib.hid hRe
            clear hRe hDp Hst
            go_wp2
            go_roundg (go - 1)
            case measure => have := Hgo.out; omega
            case rel => exact ⟨X1, HT5.out.r, by have := HX1l.out; omega, by have := Hk3.out; have := Hgo.out; omega, by have := Hgo.out; omega, fun _ => HL1.out, HRe.out, Below.step B5.out HB.out.size HB.out⟩
        · have hXe : X1 = [] := by
            by_cases e : dropOf T a b c d D false = 0
            · obtain ⟨_, _, _, h, _⟩ := Hdl.out e
              exact absurd h hx2
            · have := Hdo.out e
              injection this
          have hRe : R = ([], X2) := by
            by_cases hDp : D = p
            · rw [Hst.out, if_pos hDp, ← hDp, HX.out, hXe]
            · rw [Hst.out, if_neg hDp]; exact if_pos hx2
          have d5 : (X2 != 0) = true := by simpa using hx2
          have HRe := Lib.hid hRe
          clear hRe Hst Hdl Hdo Hlev
          go_wp2
          go_ret2
          exact ⟨_, by rw [HRe.out]; rfl, by rw [HRe.out]; exact (treeO_empty (Nat.le_refl _)).mono Bw5.out.size, Below.alloc Bw5.out Bw5.out.size _⟩
end Go.Proofs.YtkennmpbmbacpaaGreatDoor
