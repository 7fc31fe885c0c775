/- 'OverQuota' of the package and of the reference. -/
import Derived.Test.YthcmecgmidopoaaQuotS
set_option linter.unusedSimpArgs false
set_option linter.unusedVariables false
set_option linter.unusedSectionVars false
namespace Go.Proofs.Ythcmecgmidopoaa
open Go.RowKit

/-- The user of a quota has more than it may. -/
def overB (t : List Nd) (q : Q3) : Bool := decide (q.2.1 < (usageF t q.1).1) || decide (q.2.2 < (usageF t q.1).2)
def ovL (t : List Nd) (l : List Q3) (k : Nat) : List Int := ((l.take k).filter (overB t)).map (·.1)
def overF (t : List Nd) (l : List Q3) : List Int := if (treeB t && quotaB l) = true then ovL t l l.length else []
theorem over_no {t : List Nd} {l : List Q3} (h : (treeB t && quotaB l) = false) : overF t l = [] := by unfold overF; rw [h]; rfl
theorem over_yes {t : List Nd} {l : List Q3} (h : (treeB t && quotaB l) = true) : overF t l = ovL t l l.length := by unfold overF; rw [h]; rfl
theorem ovL_yes {t : List Nd} {l : List Q3} {k : Nat} (hk : k < l.length) (h : overB t (qt l k) = true) : ovL t l (k + 1) = ovL t l k ++ [(qt l k).1] := by
  unfold ovL
  rw [List.take_add_one, qt_at hk, List.filter_append, List.map_append]
  simp [h]
theorem ovL_no {t : List Nd} {l : List Q3} {k : Nat} (hk : k < l.length) (h : overB t (qt l k) = false) : ovL t l (k + 1) = ovL t l k := by
  unfold ovL
  rw [List.take_add_one, qt_at hk, List.filter_append, List.map_append]
  simp [h]
theorem ovL_len (t : List Nd) (l : List Q3) (k : Nat) : (ovL t l k).length ≤ k := by
  unfold ovL
  rw [List.length_map]
  exact Nat.le_trans (List.length_filter_le _ _) (by simp; omega)
theorem quota_len {l : List Q3} (h : quotaB l = true) : l.length ≤ 8 := by
  unfold quotaB at h
  rw [Bool.and_eq_true, decide_eq_true_eq] at h
  exact h.2
set_option maxRecDepth 100000 in
set_option maxHeartbeats 8000000 in
theorem overI_of (v u : Value) (t : List Nd) (l : List Q3) (w : World) (h : TreeR w v t) (hq : SlG EQ w u l) (ht : t.length ≤ 1000) (hkz : (kidsOf t).length ≤ 1000000) :
    Calls Try.prog 29 #[v, u] w fun e w' => ∃ v', e = .returned v' ∧ OwnG EI 3 w.heap.size w' v' (overF t l) ∧ Below w.heap.size w w' := by
  have H := Lib.hid h
  have HL := Lib.hid hq
  have hT := fun w h => treeI_of v t w h ht hkz
  have hU := fun x w h => usageI_of v t x w h ht hkz
  have hQ := fun w h => quotasI_of u l w h
  obtain ⟨A, cap, rfl⟩ := h.shape
  obtain ⟨A2, cap2, rfl⟩ := hq.shape
  have hcap := hq.caps
  have HT := Lib.hid hT
  have HU := Lib.hid hU
  have HQ := Lib.hid hQ
  clear h hT hq hU hQ
  have O0 := Lib.hid (ownG_empty (E := EI) (T := 3) (B := w.heap.size) w rfl (Nat.le_refl _))
  have B0 : Hid (Below w.heap.size w (w.alloc (.cells #[] 3))) := Lib.hid (Below.alloc (Below.refl _ _) (Nat.le_refl _) _)
  cases htb : treeB t
  · have hr := over_no (t := t) (l := l) (by rw [htb]; rfl)
    rw [htb] at HT
    rw [hr]
    clear htb hr
    go_enter Try.func29, Try.ntmps29
    go_wp2_with fail
    refine (HT.out _ (H.out.below (by (repeat (first | exact Below.refl _ _ | exact Hbl.out | refine Below.ext ?_ (by first | omega | (simp; omega) | simp) | refine Below.setCell ?_ (by first | omega | (simp; omega) | simp) _ | refine Below.alloc ?_ (by first | omega | (simp; omega) | simp) _ | refine Below.drew ?_ | refine below_drewN ?_ _ | refine Below.step (by assumption) (by first | omega | (simp; omega) | simp) ?_))))).mono ?_
    rintro e w1 ⟨rfl, b1⟩
    have O1 := Lib.hid (ownG_below O0.out b1)
    have B1 := Lib.hid (Below.step b1 (by simp) B0.out)
    clear b1
    go_wp2
    go_ret
    exact ⟨_, rfl, O1.out, B1.out⟩
  · cases hqb : quotaB l
    · have hr := over_no (t := t) (l := l) (by rw [htb, hqb]; rfl)
      rw [htb] at HT
      rw [hqb] at HQ
      rw [hr]
      clear htb hr hqb
      go_enter Try.func29, Try.ntmps29
      go_wp2_with fail
      refine (HT.out _ (H.out.below (by (repeat (first | exact Below.refl _ _ | exact Hbl.out | refine Below.ext ?_ (by first | omega | (simp; omega) | simp) | refine Below.setCell ?_ (by first | omega | (simp; omega) | simp) _ | refine Below.alloc ?_ (by first | omega | (simp; omega) | simp) _ | refine Below.drew ?_ | refine below_drewN ?_ _ | refine Below.step (by assumption) (by first | omega | (simp; omega) | simp) ?_))))).mono ?_
      rintro e w1 ⟨rfl, b1⟩
      have O1 := Lib.hid (ownG_below O0.out b1)
      have B1 := Lib.hid (Below.step b1 (by simp) B0.out)
      clear b1
      go_wp2_with fail
      refine (HQ.out _ (HL.out.below B1.out)).mono ?_
      rintro e w2 ⟨rfl, b2⟩
      have O2 := Lib.hid (ownG_below O1.out b2)
      have B2 := Lib.hid (Below.step b2 B1.out.size B1.out)
      clear b2
      go_wp2
      go_ret
      exact ⟨_, rfl, O2.out, B2.out⟩
    · have hr := over_yes (t := t) (l := l) (by rw [htb, hqb]; rfl)
      have h8 := quota_len hqb
      rw [htb] at HT
      rw [hqb] at HQ
      rw [hr]
      clear htb hr hqb
      go_enter Try.func29, Try.ntmps29
      go_wp2_with fail
      refine (HT.out _ (H.out.below (by (repeat (first | exact Below.refl _ _ | exact Hbl.out | refine Below.ext ?_ (by first | omega | (simp; omega) | simp) | refine Below.setCell ?_ (by first | omega | (simp; omega) | simp) _ | refine Below.alloc ?_ (by first | omega | (simp; omega) | simp) _ | refine Below.drew ?_ | refine below_drewN ?_ _ | refine Below.step (by assumption) (by first | omega | (simp; omega) | simp) ?_))))).mono ?_
      rintro e w1 ⟨rfl, b1⟩
      have O1 := Lib.hid (ownG_below O0.out b1)
      have B1 := Lib.hid (Below.step b1 (by simp) B0.out)
      clear b1
      go_wp2_with fail
      refine (HQ.out _ (HL.out.below B1.out)).mono ?_
      rintro e w2 ⟨rfl, b2⟩
      have O2 := Lib.hid (ownG_below O1.out b2)
      have B2 := Lib.hid (Below.step b2 B1.out.size B1.out)
      clear b2 O1 B1 O0 B0
      go_wp2
      go_loopw [5, 22] (fun o i wr => ∃ k : Nat, k ≤ l.length ∧ i = .int .i64 k ∧ OwnG EI 3 w.heap.size wr o (ovL t l k) ∧ Below w.heap.size w wr) (fun _ i _ => l.length - (intOf i).toNat)
      case atStart => exact ⟨0, Nat.zero_le _, rfl, O2.out, B2.out⟩
      case round =>
        obtain ⟨k, hk, rfl, hO, hB⟩ := hrel
        have HO := Lib.hid hO
        have HB := Lib.hid hB
        have hzr := hB.size
        obtain ⟨Ao, co, rfl⟩ := ownG_shape hO
        by_cases hlt : k < l.length
        · obtain ⟨b, off, rfl, hb, c0, c1, c2⟩ := (HL.out.below hB).q3 hlt
          have hlt' : (k : Int) < (l.length : Int) := by omega
          have hlo := ovL_len t l k
          have hx : ∀ x, overB t (qt l k) = x ↔ (decide ((qt l k).2.1 < (usageF t (qt l k).1).1) || decide ((qt l k).2.2 < (usageF t (qt l k).1).2)) = x := fun x => Iff.rfl
          have Hx := Lib.hid hx
          have hu := fun w h => HU.out (qt l k).1 w h
          have Hy := Lib.hid (fun h => ovL_yes (t := t) hlt h)
          have Hn := Lib.hid (fun h => ovL_no (t := t) hlt h)
          generalize overB t (qt l k) = ob at Hx Hy Hn
          generalize usageF t (qt l k).1 = us at hu Hx
          generalize qt l k = q at c0 c1 c2 hu Hx Hy
          obtain ⟨q1, q2, q3⟩ := q
          obtain ⟨n1, n2⟩ := us
          have HU1 := Lib.hid hu
          clear hO hB hx hu
          simp only at c0 c1 c2 HU1 Hx Hy
          have hz1 : w.heap.size ≤ wr.heap.size + 1 := by omega
          by_cases o1 : q2 < n1
          · have hob := (Hx.out true).2 (by rw [decide_eq_true o1]; rfl)
            have He := Lib.hid (Hy.out hob)
            have o1d : decide (q2 < n1) = true := decide_eq_true o1
            clear Hx Hy Hn hob
            go_wp2_with fail
            refine (HU1.out _ (H.out.below (Below.trans HB.out (by (repeat (first | exact Below.refl _ _ | exact Hbl.out | refine Below.ext ?_ (by first | omega | (simp; omega) | simp) | refine Below.setCell ?_ (by first | omega | (simp; omega) | simp) _ | refine Below.alloc ?_ (by first | omega | (simp; omega) | simp) _ | refine Below.drew ?_ | refine below_drewN ?_ _ | refine Below.step (by assumption) (by first | omega | (simp; omega) | simp) ?_)))))).mono ?_
            rintro e w5 ⟨rfl, b5⟩
            obtain ⟨d5, os5, rfl⟩ := ext_of_below b5
            clear b5
            go_wp2_with (at_builtin; refine wpList_appG fitEI _ rfl (.tmp 43) (.tmp 46) rfl w.heap.size _ (ovL t l k) rfl ?cO _ [q1] rfl ?cS ?cL ?cB ?_)
            case cO => exact ownG_alloc (ownG_ext (ownG_alloc HO.out _)) _
            case cS => exact slI_one (by simp)
            case cL => simp; omega
            case cB => simp; omega
            intro v4 w4 ⟨o4, _, _⟩ hb4
            rw [← He.out] at o4
            have O4 := Lib.hid o4
            have B4 := Lib.hid (Below.trans (Below.alloc (Below.ext (Below.alloc HB.out hzr _) (by simp; omega)) (by simp; omega) _) hb4)
            clear o4 hb4
            go_wp2
            go_roundw
            case rel => exact ⟨k + 1, hlt, by go_num, O4.out, B4.out⟩
            case measure => simp [intOf]; omega
          · have o1d : decide (q2 < n1) = false := decide_eq_false o1
            by_cases o2 : q3 < n2
            · have hob := (Hx.out true).2 (by rw [decide_eq_true o2]; simp)
              have He := Lib.hid (Hy.out hob)
              have o2d : decide (q3 < n2) = true := decide_eq_true o2
              clear Hx Hy Hn hob
              go_wp2_with fail
              refine (HU1.out _ (H.out.below (Below.trans HB.out (by (repeat (first | exact Below.refl _ _ | exact Hbl.out | refine Below.ext ?_ (by first | omega | (simp; omega) | simp) | refine Below.setCell ?_ (by first | omega | (simp; omega) | simp) _ | refine Below.alloc ?_ (by first | omega | (simp; omega) | simp) _ | refine Below.drew ?_ | refine below_drewN ?_ _ | refine Below.step (by assumption) (by first | omega | (simp; omega) | simp) ?_)))))).mono ?_
              rintro e w5 ⟨rfl, b5⟩
              obtain ⟨d5, os5, rfl⟩ := ext_of_below b5
              clear b5
              go_wp2_with (at_builtin; refine wpList_appG fitEI _ rfl (.tmp 43) (.tmp 46) rfl w.heap.size _ (ovL t l k) rfl ?cO _ [q1] rfl ?cS ?cL ?cB ?_)
              case cO => exact ownG_alloc (ownG_ext (ownG_alloc HO.out _)) _
              case cS => exact slI_one (by simp)
              case cL => simp; omega
              case cB => simp; omega
              intro v4 w4 ⟨o4, _, _⟩ hb4
              rw [← He.out] at o4
              have O4 := Lib.hid o4
              have B4 := Lib.hid (Below.trans (Below.alloc (Below.ext (Below.alloc HB.out hzr _) (by simp; omega)) (by simp; omega) _) hb4)
              clear o4 hb4
              go_wp2
              go_roundw
              case rel => exact ⟨k + 1, hlt, by go_num, O4.out, B4.out⟩
              case measure => simp [intOf]; omega
            · have hob := (Hx.out false).2 (by rw [decide_eq_false o1, decide_eq_false o2]; rfl)
              have He := Lib.hid (Hn.out hob)
              have o2d : decide (q3 < n2) = false := decide_eq_false o2
              clear Hx Hy Hn hob
              go_wp2_with fail
              refine (HU1.out _ (H.out.below (Below.trans HB.out (by (repeat (first | exact Below.refl _ _ | exact Hbl.out | refine Below.ext ?_ (by first | omega | (simp; omega) | simp) | refine Below.setCell ?_ (by first | omega | (simp; omega) | simp) _ | refine Below.alloc ?_ (by first | omega | (simp; omega) | simp) _ | refine Below.drew ?_ | refine below_drewN ?_ _ | refine Below.step (by assumption) (by first | omega | (simp; omega) | simp) ?_)))))).mono ?_
              rintro e w5 ⟨rfl, b5⟩
              obtain ⟨d5, os5, rfl⟩ := ext_of_below b5
              clear b5
              go_wp2
              go_roundw
              case rel => exact ⟨k + 1, hlt, by go_num, by rw [He.out]; exact ownG_ext (ownG_alloc HO.out _), Below.ext (Below.alloc HB.out hzr _) (by simp; omega)⟩
              case measure => simp [intOf]; omega
        · obtain rfl : k = l.length := by omega
          clear hO hB
          go_wp2
          go_ret
          exact ⟨_, rfl, HO.out, HB.out⟩
set_option maxRecDepth 100000 in
set_option maxHeartbeats 8000000 in
theorem overS_of (v u : Value) (t : List Nd) (l : List Q3) (w : World) (h : TreeR w v t) (hq : SlG EQ w u l) (ht : t.length ≤ 1000) (hkz : (kidsOf t).length ≤ 1000000) :
    Calls Try.prog 30 #[v, u] w fun e w' => ∃ v', e = .returned v' ∧ OwnG EI 3 w.heap.size w' v' (overF t l) ∧ Below w.heap.size w w' := by
  have H := Lib.hid h
  have HL := Lib.hid hq
  have hT := fun w h => treeS_of v t w h ht hkz
  have hU := fun x w h => usageS_of v t x w h ht hkz
  have hQ := fun w h => quotasS_of u l w h
  obtain ⟨A, cap, rfl⟩ := h.shape
  obtain ⟨A2, cap2, rfl⟩ := hq.shape
  have hcap := hq.caps
  have HT := Lib.hid hT
  have HU := Lib.hid hU
  have HQ := Lib.hid hQ
  clear h hT hq hU hQ
  have O0 := Lib.hid (ownG_empty (E := EI) (T := 3) (B := w.heap.size) w rfl (Nat.le_refl _))
  have B0 : Hid (Below w.heap.size w (w.alloc (.cells #[] 3))) := Lib.hid (Below.alloc (Below.refl _ _) (Nat.le_refl _) _)
  by_cases hn : l.length = 0
  · have hr : overF t l = [] := by
      unfold overF
      split
      · rw [hn]; unfold ovL; simp
      · rfl
    rw [hr, hn]
    clear hr hn hcap HQ
    go_enter Try.func30, Try.ntmps30
    go_wp2
    go_loopw [5, 6] (fun o i wr => i = .int .i64 0 ∧ o = .slice (some ⟨w.heap.size, 0, none⟩) 0 0 ∧ wr = w.alloc (.cells #[] 3)) (fun _ i _ => 0)
    case atStart => exact ⟨rfl, rfl, rfl⟩
    case round =>
      obtain ⟨rfl, rfl, rfl⟩ := hrel
      go_wp2
      go_ret
      exact ⟨_, rfl, O0.out, B0.out⟩
  · have hn' : (0 : Int) < (l.length : Int) := by omega
    cases htb : treeB t
    · have hr := over_no (t := t) (l := l) (by rw [htb]; rfl)
      rw [htb] at HT
      rw [hr]
      clear htb hr
      go_enter Try.func30, Try.ntmps30
      go_wp2
      go_loopw [5, 6] (fun o i wr => i = .int .i64 0 ∧ o = .slice (some ⟨w.heap.size, 0, none⟩) 0 0 ∧ wr = w.alloc (.cells #[] 3)) (fun _ i _ => 0)
      case atStart => exact ⟨rfl, rfl, rfl⟩
      case round =>
        obtain ⟨rfl, rfl, rfl⟩ := hrel
        go_wp2_with fail
        refine (HT.out _ (H.out.below (by (repeat (first | exact Below.refl _ _ | exact Hbl.out | refine Below.ext ?_ (by first | omega | (simp; omega) | simp) | refine Below.setCell ?_ (by first | omega | (simp; omega) | simp) _ | refine Below.alloc ?_ (by first | omega | (simp; omega) | simp) _ | refine Below.drew ?_ | refine below_drewN ?_ _ | refine Below.step (by assumption) (by first | omega | (simp; omega) | simp) ?_))))).mono ?_
        rintro e w1 ⟨rfl, b1⟩
        have O1 := Lib.hid (ownG_below O0.out b1)
        have B1 := Lib.hid (Below.step b1 (by simp) B0.out)
        clear b1
        go_wp2
        go_ret
        exact ⟨_, rfl, O1.out, B1.out⟩
    · cases hqb : quotaB l
      · have hr := over_no (t := t) (l := l) (by rw [htb, hqb]; rfl)
        rw [htb] at HT
        rw [hqb] at HQ
        rw [hr]
        clear htb hr hqb
        go_enter Try.func30, Try.ntmps30
        go_wp2
        go_loopw [5, 6] (fun o i wr => i = .int .i64 0 ∧ o = .slice (some ⟨w.heap.size, 0, none⟩) 0 0 ∧ wr = w.alloc (.cells #[] 3)) (fun _ i _ => 0)
        case atStart => exact ⟨rfl, rfl, rfl⟩
        case round =>
          obtain ⟨rfl, rfl, rfl⟩ := hrel
          go_wp2_with fail
          refine (HT.out _ (H.out.below (by (repeat (first | exact Below.refl _ _ | exact Hbl.out | refine Below.ext ?_ (by first | omega | (simp; omega) | simp) | refine Below.setCell ?_ (by first | omega | (simp; omega) | simp) _ | refine Below.alloc ?_ (by first | omega | (simp; omega) | simp) _ | refine Below.drew ?_ | refine below_drewN ?_ _ | refine Below.step (by assumption) (by first | omega | (simp; omega) | simp) ?_))))).mono ?_
          rintro e w1 ⟨rfl, b1⟩
          have O1 := Lib.hid (ownG_below O0.out b1)
          have B1 := Lib.hid (Below.step b1 (by simp) B0.out)
          clear b1
          go_wp2_with fail
          refine (HQ.out _ (HL.out.below B1.out)).mono ?_
          rintro e w2 ⟨rfl, b2⟩
          have O2 := Lib.hid (ownG_below O1.out b2)
          have B2 := Lib.hid (Below.step b2 B1.out.size B1.out)
          clear b2
          go_wp2
          go_ret
          exact ⟨_, rfl, O2.out, B2.out⟩
      · have hr := over_yes (t := t) (l := l) (by rw [htb, hqb]; rfl)
        have h8 := quota_len hqb
        rw [htb] at HT
        rw [hqb] at HQ
        rw [hr]
        clear htb hr hqb
        go_enter Try.func30, Try.ntmps30
        go_wp2
        go_loopw [5, 6] (fun o i wr => ∃ k : Nat, k ≤ l.length ∧ i = .int .i64 k ∧ OwnG EI 3 w.heap.size wr o (ovL t l k) ∧ Below w.heap.size w wr) (fun _ i _ => l.length - (intOf i).toNat)
        case atStart => exact ⟨0, Nat.zero_le _, rfl, O0.out, B0.out⟩
        case round =>
          obtain ⟨k, hk, rfl, hO, hB⟩ := hrel
          have HO := Lib.hid hO
          have HB := Lib.hid hB
          have hzr := hB.size
          obtain ⟨Ao, co, rfl⟩ := ownG_shape hO
          by_cases hlt : k < l.length
          · have hlt' : (k : Int) < (l.length : Int) := by omega
            clear hO hB
            go_wp2_with fail
            refine (HT.out _ (H.out.below HB.out)).mono ?_
            rintro e w1 ⟨rfl, b1⟩
            have O1 := Lib.hid (ownG_below HO.out b1)
            have B1 := Lib.hid (Below.step b1 hzr HB.out)
            clear b1
            go_wp2_with fail
            refine (HQ.out _ (HL.out.below B1.out)).mono ?_
            rintro e w2 ⟨rfl, b2⟩
            have O2 := Lib.hid (ownG_below O1.out b2)
            have B2 := Lib.hid (Below.step b2 B1.out.size B1.out)
            clear b2
            obtain ⟨b, off, rfl, hb, c0, c1, c2⟩ := (HL.out.below B2.out).q3 hlt
            have hlo := ovL_len t l k
            have hx : ∀ x, overB t (qt l k) = x ↔ (decide ((qt l k).2.1 < (usageF t (qt l k).1).1) || decide ((qt l k).2.2 < (usageF t (qt l k).1).2)) = x := fun x => Iff.rfl
            have Hx := Lib.hid hx
            have hu := fun w h => HU.out (qt l k).1 w h
            have Hy := Lib.hid (fun h => ovL_yes (t := t) hlt h)
            have Hn := Lib.hid (fun h => ovL_no (t := t) hlt h)
            have hq3 := fun (w : World) (h : Below w2.heap.size w2 w) => ((HL.out.below B2.out).below h).q3 hlt
            generalize overB t (qt l k) = ob at Hx Hy Hn
            generalize usageF t (qt l k).1 = us at hu Hx
            generalize qt l k = q at c0 c1 c2 hu Hx Hy hq3
            obtain ⟨q1, q2, q3⟩ := q
            obtain ⟨n1, n2⟩ := us
            have HU1 := Lib.hid hu
            have hz2 := B2.out.size
            clear hx hu
            simp only at c0 c1 c2 HU1 Hx Hy
            go_wp2_with fail
            refine (HU1.out _ (H.out.below B2.out)).mono ?_
            rintro e w5 ⟨rfl, b5⟩
            have O5 := Lib.hid (ownG_below O2.out b5)
            have B5 := Lib.hid (Below.step b5 hz2 B2.out)
            have e0 := (b5.cell (p := ⟨b, off + k * 3, none⟩) hb).trans c0
            have e1 := (b5.cell (p := ⟨b, off + k * 3 + 1, none⟩) hb).trans c1
            have e2 := (b5.cell (p := ⟨b, off + k * 3 + 2, none⟩) hb).trans c2
            have hz5 := B5.out.size
            clear b5 hq3
            by_cases o1 : q2 < n1
            · have hob := (Hx.out true).2 (by rw [decide_eq_true o1]; rfl)
              have He := Lib.hid (Hy.out hob)
              have o1d : decide (q2 < n1) = true := decide_eq_true o1
              clear Hx Hy Hn hob
              go_wp2_with (at_builtin; refine wpList_appG fitEI _ rfl (.tmp 50) (.tmp 56) rfl w.heap.size _ (ovL t l k) rfl ?cO _ [q1] rfl ?cS ?cL ?cB ?_)
              case cO => exact ownG_alloc O5.out _
              case cS => exact slI_one (by simp)
              case cL => simp; omega
              case cB => simp; omega
              intro v4 w4 ⟨o4, _, _⟩ hb4
              rw [← He.out] at o4
              have O4 := Lib.hid o4
              have B4 := Lib.hid (Below.trans (Below.alloc B5.out (by omega) _) hb4)
              clear o4 hb4
              go_wp2
              go_roundw
              case rel => exact ⟨k + 1, hlt, by go_num, O4.out, B4.out⟩
              case measure => simp [intOf]; omega
            · have o1d : decide (q2 < n1) = false := decide_eq_false o1
              by_cases o2 : q3 < n2
              · have hob := (Hx.out true).2 (by rw [decide_eq_true o2]; simp)
                have He := Lib.hid (Hy.out hob)
                have o2d : decide (q3 < n2) = true := decide_eq_true o2
                clear Hx Hy Hn hob
                go_wp2_with (at_builtin; refine wpList_appG fitEI _ rfl (.tmp 50) (.tmp 56) rfl w.heap.size _ (ovL t l k) rfl ?cO _ [q1] rfl ?cS ?cL ?cB ?_)
                case cO => exact ownG_alloc O5.out _
                case cS => exact slI_one (by simp)
                case cL => simp; omega
                case cB => simp; omega
                intro v4 w4 ⟨o4, _, _⟩ hb4
                rw [← He.out] at o4
                have O4 := Lib.hid o4
                have B4 := Lib.hid (Below.trans (Below.alloc B5.out (by omega) _) hb4)
                clear o4 hb4
                go_wp2
                go_roundw
                case rel => exact ⟨k + 1, hlt, by go_num, O4.out, B4.out⟩
                case measure => simp [intOf]; omega
              · have hob := (Hx.out false).2 (by rw [decide_eq_false o1, decide_eq_false o2]; rfl)
                have He := Lib.hid (Hn.out hob)
                have o2d : decide (q3 < n2) = false := decide_eq_false o2
                clear Hx Hy Hn hob
                go_wp2
                go_roundw
                case rel => exact ⟨k + 1, hlt, by go_num, by rw [He.out]; exact O5.out, B5.out⟩
                case measure => simp [intOf]; omega
          · obtain rfl : k = l.length := by omega
            clear hO hB
            go_wp2
            go_ret
            exact ⟨_, rfl, HO.out, HB.out⟩
end Go.Proofs.Ythcmecgmidopoaa
