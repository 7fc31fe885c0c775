/- Mounts: the reference's 'MountsValid'. -/
import Derived.Test.YtaadobcfijegcaaDoorMnt
set_option linter.unusedSimpArgs false
set_option linter.unusedVariables false
set_option linter.unusedSectionVars false
namespace Go.Proofs.YtaadobcfijegcaaDoor
open Go.RowKit

theorem take_mt {l : List Mt} {i k : Nat} (h : i < k) : mt (l.take k) i = mt l i := by
  unfold mt
  rw [List.getD_eq_getElem?_getD, List.getD_eq_getElem?_getD, List.getElem?_take_of_lt h]
set_option maxRecDepth 100000 in
set_option maxHeartbeats 2000000 in
theorem mountsS_of (v : Value) (l : List Mt) (w : World) (h : SlG EM w v l) (ht : MTxt l) : Calls Tryd.prog 59 #[v] w fun e w' => e = .returned (.bool (mountsB l)) ∧ Below w.heap.size w w' := by
  have H := Lib.hid h
  have Ht := Lib.hid ht
  obtain ⟨A, cap, rfl⟩ := h.shape
  have hcap := h.caps
  have hc1 := hcap.1
  have hc2 := hcap.2
  clear h hcap ht
  go_enter Tryd.func59, Tryd.ntmps59
  go_wp2
  go_loopw [3] (fun i wr => ∃ k : Nat, k ≤ l.length ∧ i = .int .i64 k ∧ (∀ j, j < k → mtOk l j = true) ∧ Below w.heap.size w wr) (fun i _ => l.length - (intOf i).toNat)
  case atStart => exact ⟨0, Nat.zero_le _, rfl, fun j hj => absurd hj (by omega), (by (repeat (first | exact Below.refl _ _ | exact Hbl.out | refine Below.ext ?_ (by first | omega | (simp; omega) | simp) | refine Below.setCell ?_ (by first | omega | (simp; omega) | simp) _ | refine Below.alloc ?_ (by first | omega | (simp; omega) | simp) _ | refine Below.drew ?_ | refine below_drewN ?_ _ | refine Below.step (by assumption) (by first | omega | (simp; omega) | simp) ?_)))⟩
  case round =>
    obtain ⟨k, hk, rfl, hall, hbl⟩ := hrel
    have Hall := Lib.hid hall
    have Hbl := Lib.hid hbl
    have hwr : w.heap.size ≤ wr.heap.size := hbl.size
    clear hall hbl
    by_cases hlt : k < l.length
    · obtain ⟨b, off, rfl, hb, d0, d1⟩ := mnt_cells H.out hlt
      have hoth : ∀ j, j < k → w.cell? ⟨b, off + j * 2, none⟩ = some (.string (mt l j).1) := fun j hj => by
        obtain ⟨b', off', e, _, h0, _⟩ := mnt_cells (k := j) H.out (by omega)
        cases e; exact h0
      have Hoth := Lib.hid hoth
      have e0 := (Hbl.out.cell (p := ⟨b, off + k * 2, none⟩) hb).trans d0
      have e1 := (Hbl.out.cell (p := ⟨b, off + k * 2 + 1, none⟩) hb).trans d1
      obtain ⟨z1, z2⟩ := Ht.out k hlt
      have hok : mtOk l k = (okP (mt l k).1.data.toList && (okP (mt l k).2.data.toList && !(hasAt (l.take k) (mt l k).1))) := rfl
      have hgo : mtOk l k = true → ∀ j, j < k + 1 → mtOk l j = true := fun h j hj => by
        by_cases e : j = k
        · subst e; exact h
        · exact Hall.out j (by omega)
      have hno : mtOk l k = false → mountsB l = false := fun h => mountsB_bad hlt h
      have hq1 := fun w => pathPartsS_of (mt l k).1 w z1
      have hq2 := fun w => pathPartsS_of (mt l k).2 w z2
      unfold Parts at hq1 hq2
      have hy : ∀ i, i < k → ((mt l i).1.toList == (mt l k).1.toList) = true → hasAt (l.take k) (mt l k).1 = true := fun i hi h => hasAt_yes (i := i) (by rw [List.length_take]; omega) (by rw [take_mt hi]; exact h)
      have hn : (∀ i, i < k → ((mt l i).1.toList == (mt l k).1.toList) = false) → hasAt (l.take k) (mt l k).1 = false := fun h => hasAt_no (fun i hi => by
        rw [List.length_take] at hi
        rw [take_mt (by omega)]; exact h i (by omega))
      generalize okP (mt l k).1.data.toList = p1 at hok hq1
      generalize okP (mt l k).2.data.toList = p2 at hok hq2
      generalize partsP (mt l k).1.data.toList = q1 at hq1
      generalize partsP (mt l k).2.data.toList = q2 at hq2
      generalize hasAt (l.take k) (mt l k).1 = p3 at hok hy hn
      rw [hok] at hgo hno
      have Hq1 := Lib.hid hq1
      have Hq2 := Lib.hid hq2
      have Hy := Lib.hid hy
      have Hn := Lib.hid hn
      have Hgo := Lib.hid hgo
      have Hno := Lib.hid hno
      generalize (mt l k).1 = x1 at e0 d0 Hq1 Hy Hn
      generalize (mt l k).2 = x2 at e1 Hq2
      clear hq1 hq2 hgo hno hok d1 z1 z2 hy hn hoth
      go_wp2_with fail
      refine (Hq1.out _).mono ?_
      rintro e w2 ⟨v1, rfl, o1, hb2⟩
      obtain ⟨A1, c1, rfl⟩ := own_valm o1
      obtain ⟨dd2, os2, rfl⟩ := ext_of_below hb2; clear hb2 o1
      go_wp2_with fail
      refine (Hq2.out _).mono ?_
      rintro e w3 ⟨v2, rfl, o2, hb3⟩
      obtain ⟨A2, c2, rfl⟩ := own_valm o2
      obtain ⟨dd3, os3, rfl⟩ := ext_of_below hb3; clear hb3 o2
      rcases and2 p1 p2 with p | ⟨p, p'⟩ | ⟨p, p'⟩
      · have hz := Hno.out (by rw [p]; rfl)
        have Hz := Lib.hid hz
        subst p
        clear hz
        go_wp2
        go_ret
        exact ⟨by rw [Hz.out]; rfl, (by (repeat (first | exact Below.refl _ _ | exact Hbl.out | refine Below.ext ?_ (by first | omega | (simp; omega) | simp) | refine Below.setCell ?_ (by first | omega | (simp; omega) | simp) _ | refine Below.alloc ?_ (by first | omega | (simp; omega) | simp) _ | refine Below.drew ?_ | refine below_drewN ?_ _ | refine Below.step (by assumption) (by first | omega | (simp; omega) | simp) ?_)))⟩
      · have hz := Hno.out (by rw [p, p']; rfl)
        have Hz := Lib.hid hz
        subst p p'
        clear hz
        go_wp2
        go_ret
        exact ⟨by rw [Hz.out]; rfl, (by (repeat (first | exact Below.refl _ _ | exact Hbl.out | refine Below.ext ?_ (by first | omega | (simp; omega) | simp) | refine Below.setCell ?_ (by first | omega | (simp; omega) | simp) _ | refine Below.alloc ?_ (by first | omega | (simp; omega) | simp) _ | refine Below.drew ?_ | refine below_drewN ?_ _ | refine Below.step (by assumption) (by first | omega | (simp; omega) | simp) ?_)))⟩
      · subst p p'
        go_wp2
        go_loopw [8] (fun i wr' => ∃ j : Nat, j ≤ k ∧ i = .int .i64 j ∧ (∀ m, m < j → ((mt l m).1.toList == x1.toList) = false) ∧ Below w.heap.size w wr') (fun i _ => k - (intOf i).toNat)
        case atStart => exact ⟨0, Nat.zero_le _, rfl, fun j hj => absurd hj (by omega), (by (repeat (first | exact Below.refl _ _ | exact Hbl.out | refine Below.ext ?_ (by first | omega | (simp; omega) | simp) | refine Below.setCell ?_ (by first | omega | (simp; omega) | simp) _ | refine Below.alloc ?_ (by first | omega | (simp; omega) | simp) _ | refine Below.drew ?_ | refine below_drewN ?_ _ | refine Below.step (by assumption) (by first | omega | (simp; omega) | simp) ?_)))⟩
        case round =>
          obtain ⟨j, hj, rfl, hall, hbl⟩ := hrel
          have Hall2 := Lib.hid hall
          have Hbl2 := Lib.hid hbl
          clear hall hbl
          by_cases hltj : j < k
          · have f0 := (Hbl2.out.cell (p := ⟨b, off + k * 2, none⟩) hb).trans d0
            have f1 := (Hbl2.out.cell (p := ⟨b, off + j * 2, none⟩) hb).trans (Hoth.out j hltj)
            have hjl : j < l.length := by omega
            cases hs : ((mt l j).1.toList == x1.toList)
            · have Hs := Lib.hid hs
              generalize (mt l j).1 = x3 at f1 hs
              go_wp2
              go_quiet (fail)
              go_wp2
              go_roundw
              case rel => exact ⟨j + 1, by omega, by go_num, fun m hm => by
                by_cases e : m = j
                · subst e; exact Hs.out
                · exact Hall2.out m (by omega), below_drewN Hbl2.out _⟩
              case measure => simp [intOf]; omega
            · have hz := Hno.out (by rw [Hy.out j hltj hs]; rfl)
              have Hz := Lib.hid hz
              generalize (mt l j).1 = x3 at f1 hs
              clear hz
              go_wp2
              go_quiet (fail)
              go_wp2
              go_ret
              exact ⟨by rw [Hz.out]; rfl, below_drewN Hbl2.out _⟩
          · obtain rfl : j = k := by omega
            have hg := Hgo.out (by rw [Hn.out (fun m hm => Hall2.out m hm)]; rfl)
            have Hg := Lib.hid hg
            clear hg
            go_wp2
            go_roundw
            case rel => exact ⟨j + 1, by omega, by go_num, Hg.out, Hbl2.out⟩
            case measure => simp [intOf]; omega
    · obtain rfl : k = l.length := by omega
      have hg := mountsB_good (fun j hj => Hall.out j hj)
      have e6 : decide ((l.length : Int) ≤ 6) = decide (l.length ≤ 6) := decide_eq_decide.2 (by omega)
      rw [← e6] at hg
      have Hg := Lib.hid hg; clear hg e6
      go_wp2
      go_ret
      exact ⟨by rw [Hg.out]; rfl, Hbl.out⟩
end Go.Proofs.YtaadobcfijegcaaDoor
