/- The package's 'copyTree'. -/
import Derived.Test.YtkennmpbmbacpaaGreatDoorCloneL
import Derived.Deep.RegionHeld3
import Derived.Deep.Cut
import Derived.Deep.CutRange
set_option linter.unusedSimpArgs false
set_option linter.unusedVariables false
set_option linter.unusedSectionVars false
namespace Go.Proofs.YtkennmpbmbacpaaGreatDoor
open Go.RowKit

theorem sz1 {w : World} {o : Obj} {n : Nat} (h : (w.alloc o).drew.heap.size ≤ n) : w.heap.size + 1 ≤ n := by
  rw [show (w.alloc o).drew.heap.size = w.heap.size + 1 from by simp] at h
  exact h
theorem BoxN.drew {w : World} {g : Nat} {x : Nd} {u v : Value} (h : BoxN w g x u v) : BoxN w.drew g x u v := ⟨h.c0, h.c1, h.c2, h.c3, h.c4, h.c5, h.c6, fun i => h.f i, h.lt⟩
set_option maxRecDepth 100000 in
set_option maxHeartbeats 8000000 in
theorem copyI_of (v : Value) (t : List Nd) (w : World) (h : TreeR w v t) (ht : t.length ≤ 1000) (hf : Few t) :
    Calls Tryz.prog 41 #[v] w fun e w' => ∃ v' cs, e = .returned v' ∧ TreeC w.heap.size w' v' cs t ∧ Below w.heap.size w w' := by
  have H := Lib.hid h
  have Hf := Lib.hid hf
  obtain ⟨A, cap, rfl⟩ := h.shape
  have hcap := h.caps
  clear h hf
  go_enter Tryz.func41, Tryz.ntmps41
  go_wp2
  go_loopw [3, 9] (fun o i wr => ∃ (k : Nat) (cs : List Cn), k ≤ t.length ∧ i = .int .i64 k ∧ TreeC w.heap.size wr o cs (t.take k) ∧ Below w.heap.size w wr) (fun _ i _ => t.length - (intOf i).toNat)
  case atStart => exact ⟨0, [], Nat.zero_le _, rfl, treeC_empty (ownG_empty _ rfl (Nat.le_refl _)), (by (repeat (first | exact Below.refl _ _ | exact Hbl.out | refine Below.ext ?_ (by first | omega | (simp; omega) | simp) | refine Below.setCell ?_ (by first | omega | (simp; omega) | simp) _ | refine Below.alloc ?_ (by first | omega | (simp; omega) | simp) _ | refine Below.drew ?_ | refine below_drewN ?_ _ | refine Below.step (by assumption) (by first | omega | (simp; omega) | simp) ?_)))⟩
  case round =>
    obtain ⟨k, cs, hk, rfl, hC, hB⟩ := hrel
    have HB := Lib.hid hB
    have HC := Lib.hid hC
    have hzr := hB.size
    have hlen := hC.len
    rw [List.length_take, Nat.min_eq_left hk] at hlen
    obtain ⟨Ao, co, rfl⟩ := ownG_shape hC.row
    by_cases hlt : k < t.length
    · obtain ⟨b, off, nA, nC, kA, kC, rfl, hb, hS, y0, y1, y2, y3, y4, y5, y6⟩ := (H.out.below hB).at_ (kth_at hlt)
      have HS := Lib.hid hS
      obtain ⟨f1, f2⟩ := Hf.out k hlt
      have hlt' : (k : Int) < (t.length : Int) := by omega
      have htk : t.take (k + 1) = t.take k ++ [kth t k] := by rw [List.take_add_one, kth_at hlt]; rfl
      have Htk := Lib.hid htk
      generalize kth t k = x at HS y0 y1 y2 y3 y4 y5 y6 f1 f2 Htk
      rw [hlen]
      have Hlen := Lib.hid hlen
      have hC' := hC
      rw [hlen] at hC'
      have HC' := Lib.hid hC'
      clear hB hC hS htk hC' hlen
      go_upto_region 5 with fail
      go_cut [5] from 13 to 20 (fun p wx => p = .pointer (some ⟨wr.heap.size, 0, none⟩) ∧ ∃ A4 c4 A6 c6, BoxN wx wr.heap.size x (.slice A4 x.ns.length c4) (.slice A6 x.ks.length c6) ∧ OwnG EL 9 (wr.heap.size + 1) wx (.slice A4 x.ns.length c4) x.ns ∧ OwnG EI 3 (wr.heap.size + 1) wx (.slice A6 x.ks.length c6) x.ks ∧ Below wr.heap.size wr wx)
      case first =>
        go_region_with (first | (go_at_call 90; refine (cloneL_of _ x.ns _ ?_ ?_).mono ?_; (focus (exact HS.out.ns.below (by (repeat (first | exact Below.refl _ _ | exact Hbl.out | refine Below.ext ?_ (by first | omega | (simp; omega) | simp) | refine Below.setCell ?_ (by first | omega | (simp; omega) | simp) _ | refine Below.alloc ?_ (by first | omega | (simp; omega) | simp) _ | refine Below.drew ?_ | refine below_drewN ?_ _ | refine Below.step (by assumption) (by first | omega | (simp; omega) | simp) ?_))))); (focus omega); rintro e1 w1 ⟨v1, rfl, o1, b1⟩; have X1 : BoxN w1 wr.heap.size x (.slice nA x.ns.length nC) (.slice kA x.ks.length kC) := BoxN.below (BoxN.drew (BoxN.made (T := 44))) b1 (by simp); have B1 : Below wr.heap.size wr w1 := Below.step b1 (by simp) (by (repeat (first | exact Below.refl _ _ | exact Hbl.out | refine Below.ext ?_ (by first | omega | (simp; omega) | simp) | refine Below.setCell ?_ (by first | omega | (simp; omega) | simp) _ | refine Below.alloc ?_ (by first | omega | (simp; omega) | simp) _ | refine Below.drew ?_ | refine below_drewN ?_ _ | refine Below.step (by assumption) (by first | omega | (simp; omega) | simp) ?_))); have z1 : wr.heap.size + 1 ≤ w1.heap.size := sz1 b1.size; obtain ⟨x0, x1, x2, x3, x4, x5, x6, xf, _⟩ := id X1; have xf5 := xf 5; have xf6 := xf 6; have HX1 := Lib.hid X1; clear X1 xf b1; obtain ⟨A4, c4, rfl⟩ := ownG_shape o1) | (go_at_call 91; refine (cloneK_of _ x.ks _ ?_ ?_).mono ?_; (focus (exact HS.out.ks.below B1)); (focus omega); rintro e2 w2 ⟨v2, rfl, o2, b2⟩; have X2 : BoxN w2 wr.heap.size x (.slice nA x.ns.length nC) (.slice kA x.ks.length kC) := HX1.out.below b2 (by omega); have z2 := b2.size; have q1 := ownG_below o1 b2; have B2 : Below wr.heap.size wr w2 := Below.step b2 (by omega) B1; clear x0 x1 x2 x3 x4 x5 x6 xf5 xf6; obtain ⟨x0, x1, x2, x3, x4, x5, x6, xf, _⟩ := id X2; have xf5 := xf 5; have xf6 := xf 6; have HX2 := Lib.hid X2; clear X2 xf b2; obtain ⟨A6, c6, rfl⟩ := ownG_shape o2))
        all_goals
          go_wp2_with fail
          go_meet
          have y1 := ownG_mono q1 (show wr.heap.size + 1 ≤ _ from by simp)
          have y2 := ownG_mono o2 (show wr.heap.size + 1 ≤ _ from z1)
          exact ⟨rfl, A4, c4, A6, c6, HX2.out.set5.set6, ownG_set (ownG_set y1 (fun j hj => by have := (ownG_block y1 j hj).1; omega)) (fun j hj => by have := (ownG_block y1 j hj).1; omega), ownG_set (ownG_set y2 (fun j hj => by have := (ownG_block y2 j hj).1; omega)) (fun j hj => by have := (ownG_block y2 j hj).1; omega), Below.setCell (Below.setCell B2 (Nat.le_refl _) _) (Nat.le_refl _) _⟩
      case rest =>
        obtain ⟨rfl, A4, c4, A6, c6, hX, h47, h67, hbw7⟩ := hcut
        obtain ⟨x0, x1, x2, x3, x4, x5, x6, xf, _⟩ := id hX
        have hzw := hX.lt
        obtain ⟨c, hc⟩ : ∃ c : Cn, c = ⟨x.fo, x.ow, x.gr, x.mo, x.tx, A4, x.ns.length, c4, A6, x.ks.length, c6⟩ := ⟨_, rfl⟩
        have hput : EC.put c = [.bool x.fo, .int .i64 x.ow, .int .i64 x.gr, .int .i64 x.mo, .string x.tx, .slice A4 x.ns.length c4, .slice A6 x.ks.length c6] := by rw [hc]; rfl
        have hnd : NdO w.heap.size wc c x := by
          rw [hc]; exact ⟨rfl, rfl, rfl, rfl, rfl, ownG_mono h47 (by omega), ownG_mono h67 (by omega), HS.out.sz, HS.out.nz⟩
        have hsep : ∀ (j : Nat) d, cs[j]? = some d → Sep (nB c) (nB d) ∧ Sep (kB c) (kB d) := by
          intro j d hd
          have hj : j < cs.length := (List.getElem?_eq_some_iff.1 hd).1
          have hjt : j < (t.take k).length := by rw [← HC.out.len]; exact hj
          have hy : (t.take k)[j]? = some (t.take k)[j] := List.getElem?_eq_getElem hjt
          have hn := HC.out.nds j d _ hd hy
          rw [hc]
          exact ⟨(ownG_apart hn.ns h47 (by omega)).symm, (ownG_apart hn.ks h67 (by omega)).symm⟩
        have hC7 := HC'.out.below hbw7
        have HC7 := Lib.hid hC7
        have Hput := Lib.hid hput
        have Hnd := Lib.hid hnd
        have Hsep := Lib.hid hsep
        have HB7 := Lib.hid hbw7
        clear hc hput hnd hsep hC7 h47 h67 hX hbw7 xf
        go_wp2_with (at_builtin; refine wpList_appG fitEC _ rfl (.tmp 21) (.tmp 23) rfl w.heap.size (.slice Ao k co) cs rfl ?cO _ [c] rfl ?cS ?cL ?cB ?_)
        case cO => exact ownG_alloc HC7.out.row _
        case cS => exact slG_one (by simp) (by
          intro j u hu
          rw [Hput.out] at hu
          rcases j with _ | _ | _ | _ | _ | _ | _ | j <;> simp at hu <;> subst hu <;> go_simp)
        case cL => have := Hlen.out; simp; omega
        case cB => have := Hlen.out; simp; omega
        intro v9 w9 ha9 hb9
        have hCW := HC7.out.below (Below.alloc (Below.refl _ _) (Nat.le_refl _) (.cells #[.bool x.fo, .int .i64 x.ow, .int .i64 x.gr, .int .i64 x.mo, .string x.tx, .slice A4 x.ns.length c4, .slice A6 x.ks.length c6] 44))
        have hC9 := hCW.push (Hnd.out.below (Below.alloc (Below.refl _ _) (Nat.le_refl _) _)) Hsep.out ha9
        rw [← Htk.out] at hC9
        have HC9 := Lib.hid hC9
        have HB9 := Lib.hid (Below.trans (Below.trans HB.out (Below.mono (Below.alloc HB7.out (by omega) _) hzr)) hb9)
        clear hCW hC9 ha9 hb9
        go_wp2
        go_roundw
        case rel => exact ⟨k + 1, _, hlt, by go_num, HC9.out, HB9.out⟩
        case measure => simp [intOf]; omega
    · have hkl : k = t.length := by omega
      clear hB hC
      go_wp2
      go_ret
      have hC := HC.out
      rw [List.take_of_length_le (by omega)] at hC
      exact ⟨_, cs, rfl, hC, HB.out⟩
end Go.Proofs.YtkennmpbmbacpaaGreatDoor
