/- Mounts: the program's 'MountsValid'. -/
import Derived.Test.YtaadobcfijegcaaDoorMnt
set_option linter.unusedSimpArgs false
set_option linter.unusedVariables false
set_option linter.unusedSectionVars false
namespace Go.Proofs.YtaadobcfijegcaaDoor
open Go.RowKit

set_option maxRecDepth 100000 in
set_option maxHeartbeats 2000000 in
theorem mountsI_of (v : Value) (l : List Mt) (w : World) (h : SlG EM w v l) (ht : MTxt l) (hm : MaxL w) : Calls Tryd.prog 38 #[v] w fun e w' => e = .returned (.bool (mountsB l)) ∧ Below w.heap.size w w' := by
  have H := Lib.hid h
  have Ht := Lib.hid ht
  obtain ⟨A, cap, rfl⟩ := h.shape
  have hcap := h.caps
  have hc1 := hcap.1
  have hc2 := hcap.2
  clear h hcap ht
  go_enter Tryd.func38, Tryd.ntmps38
  go_wp2
  go_loopw [7, 3, 4] (fun i _ _ wr => ∃ k : Nat, k ≤ l.length ∧ i = .int .i64 k ∧ (∀ j, j < k → mtOk l j = true) ∧ Below w.heap.size w wr) (fun i _ _ _ => l.length - (intOf i).toNat)
  case atStart => exact ⟨0, Nat.zero_le _, rfl, fun j hj => absurd hj (by omega), Below.refl _ _⟩
  case round =>
    obtain ⟨k, hk, rfl, hall, hbl⟩ := hrel
    have Hall := Lib.hid hall
    have Hbl := Lib.hid hbl
    have hwr : w.heap.size ≤ wr.heap.size := hbl.size
    clear hall hbl
    by_cases hlt : k < l.length
    · have htk := H.out.take (k := k) (by omega)
      obtain ⟨b, off, rfl, hb, d0, d1⟩ := mnt_cells H.out hlt
      have e0 := (Hbl.out.cell (p := ⟨b, off + k * 2, none⟩) hb).trans d0
      have e1 := (Hbl.out.cell (p := ⟨b, off + k * 2 + 1, none⟩) hb).trans d1
      obtain ⟨z1, z2⟩ := Ht.out k hlt
      have hok : mtOk l k = (okP (mt l k).1.data.toList && (okP (mt l k).2.data.toList && !(hasAt (l.take k) (mt l k).1))) := rfl
      have hgo : mtOk l k = true → ∀ j, j < k + 1 → mtOk l j = true := fun h j hj => by
        by_cases e : j = k
        · subst e; exact h
        · exact Hall.out j (by omega)
      have hno : mtOk l k = false → mountsB l = false := fun h => mountsB_bad hlt h
      have hq1 := fun w hm => isPath_of (mt l k).1 w hm z1
      have hq2 := fun w hm => isPath_of (mt l k).2 w hm z2
      have hq3 := fun W (hW : Below w.heap.size w W) g hg c0 c1 => containsAt (.slice (some ⟨b, off, none⟩) k cap) (l.take k) W g (mt l k).1 (mt l k).2 (htk.below hW) hg c0 c1
      generalize okP (mt l k).1.data.toList = p1 at hok hq1
      generalize okP (mt l k).2.data.toList = p2 at hok hq2
      generalize hasAt (l.take k) (mt l k).1 = p3 at hok hq3
      rw [hok] at hgo hno
      have Hq1 := Lib.hid hq1
      have Hq2 := Lib.hid hq2
      have Hq3 := Lib.hid hq3
      have Hgo := Lib.hid hgo
      have Hno := Lib.hid hno
      generalize (mt l k).1 = x1 at e0 Hq1 Hq3
      generalize (mt l k).2 = x2 at e1 Hq2 Hq3
      have hkc : (k : Int) ≤ (cap : Int) := by omega
      clear hq1 hq2 hq3 hgo hno hok htk d0 d1 z1 z2
      go_wp2_with fail
      refine (Hq1.out _ (hm.below (by (repeat (first | exact Below.refl _ _ | exact Hbl.out | refine Below.ext ?_ (by first | omega | (simp; omega) | simp) | refine Below.setCell ?_ (by first | omega | (simp; omega) | simp) _ | refine Below.alloc ?_ (by first | omega | (simp; omega) | simp) _ | refine Below.drew ?_ | refine below_drewN ?_ _ | refine Below.step (by assumption) (by first | omega | (simp; omega) | simp) ?_))))).mono ?_
      rintro e w2 ⟨rfl, hb2⟩
      obtain ⟨d2, os2, rfl⟩ := ext_of_below hb2; clear hb2
      cases p1
      · go_wp2
        go_ret
        exact ⟨by rw [Hno.out (by simp)]; rfl, (by (repeat (first | exact Below.refl _ _ | exact Hbl.out | refine Below.ext ?_ (by first | omega | (simp; omega) | simp) | refine Below.setCell ?_ (by first | omega | (simp; omega) | simp) _ | refine Below.alloc ?_ (by first | omega | (simp; omega) | simp) _ | refine Below.drew ?_ | refine below_drewN ?_ _ | refine Below.step (by assumption) (by first | omega | (simp; omega) | simp) ?_)))⟩
      · go_wp2_with fail
        refine (Hq2.out _ (hm.below (by (repeat (first | exact Below.refl _ _ | exact Hbl.out | refine Below.ext ?_ (by first | omega | (simp; omega) | simp) | refine Below.setCell ?_ (by first | omega | (simp; omega) | simp) _ | refine Below.alloc ?_ (by first | omega | (simp; omega) | simp) _ | refine Below.drew ?_ | refine below_drewN ?_ _ | refine Below.step (by assumption) (by first | omega | (simp; omega) | simp) ?_))))).mono ?_
        rintro e w3 ⟨rfl, hb3⟩
        obtain ⟨d3, os3, rfl⟩ := ext_of_below hb3; clear hb3
        cases p2
        · go_wp2
          go_ret
          exact ⟨by rw [Hno.out (by simp)]; rfl, (by (repeat (first | exact Below.refl _ _ | exact Hbl.out | refine Below.ext ?_ (by first | omega | (simp; omega) | simp) | refine Below.setCell ?_ (by first | omega | (simp; omega) | simp) _ | refine Below.alloc ?_ (by first | omega | (simp; omega) | simp) _ | refine Below.drew ?_ | refine below_drewN ?_ _ | refine Below.step (by assumption) (by first | omega | (simp; omega) | simp) ?_)))⟩
        · go_wp2_with fail
          refine (Hq3.out _ (by (repeat (first | exact Below.refl _ _ | exact Hbl.out | refine Below.ext ?_ (by first | omega | (simp; omega) | simp) | refine Below.setCell ?_ (by first | omega | (simp; omega) | simp) _ | refine Below.alloc ?_ (by first | omega | (simp; omega) | simp) _ | refine Below.drew ?_ | refine below_drewN ?_ _ | refine Below.step (by assumption) (by first | omega | (simp; omega) | simp) ?_))) _ ?_ ?_ ?_).mono ?_
          · first | omega | (simp; omega)
          · first | assumption | go_simp
          · first | assumption | go_simp
          rintro e w4 ⟨rfl, hb4⟩
          obtain ⟨d4, os4, rfl⟩ := ext_of_below hb4; clear hb4
          cases p3
          · go_wp2
            go_roundw
            case rel => exact ⟨k + 1, by omega, by go_num, Hgo.out (by simp), (by (repeat (first | exact Below.refl _ _ | exact Hbl.out | refine Below.ext ?_ (by first | omega | (simp; omega) | simp) | refine Below.setCell ?_ (by first | omega | (simp; omega) | simp) _ | refine Below.alloc ?_ (by first | omega | (simp; omega) | simp) _ | refine Below.drew ?_ | refine below_drewN ?_ _ | refine Below.step (by assumption) (by first | omega | (simp; omega) | simp) ?_)))⟩
            case measure => simp [intOf]; omega
          · go_wp2
            go_ret
            exact ⟨by rw [Hno.out (by simp)]; rfl, (by (repeat (first | exact Below.refl _ _ | exact Hbl.out | refine Below.ext ?_ (by first | omega | (simp; omega) | simp) | refine Below.setCell ?_ (by first | omega | (simp; omega) | simp) _ | refine Below.alloc ?_ (by first | omega | (simp; omega) | simp) _ | refine Below.drew ?_ | refine below_drewN ?_ _ | refine Below.step (by assumption) (by first | omega | (simp; omega) | simp) ?_)))⟩
    · obtain rfl : k = l.length := by omega
      have hg := mountsB_good (fun j hj => Hall.out j hj)
      have e6 : decide ((l.length : Int) ≤ 6) = decide (l.length ≤ 6) := decide_eq_decide.2 (by omega)
      rw [← e6] at hg
      have Hg := Lib.hid hg; clear hg e6
      go_wp2
      go_ret
      exact ⟨by rw [Hg.out]; rfl, Hbl.out⟩
end Go.Proofs.YtaadobcfijegcaaDoor
