/- 'OwnedNodes' of the package and of the reference. -/
import Derived.Test.YthcmecgmidopoaaMH
import Derived.Test.YthcmecgmidopoaaMF
set_option linter.unusedSimpArgs false
set_option linter.unusedVariables false
set_option linter.unusedSectionVars false
namespace Go.Proofs.Ythcmecgmidopoaa
open Go.RowKit

/-- The first k nodes' numbers that the user owns. -/
def ownL (t : List Nd) (u : Int) (k : Nat) : List Int := ((List.range k).filter (fun i => decide ((kth t i).ow = u))).map (fun (i : Nat) => (i : Int))
def ownedF (t : List Nd) (u : Int) : List Int := if treeB t = true then ownL t u t.length else []
theorem owned_no {t : List Nd} {u : Int} (h : treeB t = false) : ownedF t u = [] := by unfold ownedF; rw [h]; rfl
theorem owned_yes {t : List Nd} {u : Int} (h : treeB t = true) : ownedF t u = ownL t u t.length := by unfold ownedF; rw [h]; rfl
theorem ownL_yes {t : List Nd} {u : Int} {k : Nat} (h : (kth t k).ow = u) : ownL t u (k + 1) = ownL t u k ++ [(k : Int)] := by
  unfold ownL
  rw [List.range_succ, List.filter_append, List.map_append]
  simp [h]
theorem ownL_no {t : List Nd} {u : Int} {k : Nat} (h : ¬ (kth t k).ow = u) : ownL t u (k + 1) = ownL t u k := by
  unfold ownL
  rw [List.range_succ, List.filter_append, List.map_append]
  simp [h]
theorem ownL_len (t : List Nd) (u : Int) (k : Nat) : (ownL t u k).length ≤ k := by
  unfold ownL
  rw [List.length_map]
  exact Nat.le_trans (List.length_filter_le _ _) (by simp)
/-- A row of one number. -/
theorem slI_one {W : World} {x : Int} {g : Nat} (hg : g = W.heap.size) : SlG EI (W.alloc (.cells #[.int .i64 x] 3)) (.slice (some ⟨g, 0, none⟩) 1 1) [x] :=
  slG_one (by simp [hg]) (by subst hg; intro j u hu; rcases j with _ | j <;> simp [EI] at hu <;> subst hu <;> go_simp)
set_option maxRecDepth 100000 in
set_option maxHeartbeats 4000000 in
theorem ownedI_of (v : Value) (t : List Nd) (u : Int) (w : World) (h : TreeR w v t) (ht : t.length ≤ 1000) (hkz : (kidsOf t).length ≤ 1000000) :
    Calls Try.prog 20 #[v, .int .i64 u] w fun e w' => ∃ v', e = .returned v' ∧ OwnG EI 3 w.heap.size w' v' (ownedF t u) ∧ Below w.heap.size w w' := by
  have H := Lib.hid h
  have hT := fun w h => treeI_of v t w h ht hkz
  obtain ⟨A, cap, rfl⟩ := h.shape
  have hcap := h.caps
  have HT := Lib.hid hT
  clear h hT
  cases htb : treeB t
  · rw [htb] at HT
    rw [owned_no htb]
    clear htb
    go_enter Try.func20, Try.ntmps20
    go_wp2_with fail
    refine (HT.out _ (H.out.below (by (repeat (first | exact Below.refl _ _ | exact Hbl.out | refine Below.ext ?_ (by first | omega | (simp; omega) | simp) | refine Below.setCell ?_ (by first | omega | (simp; omega) | simp) _ | refine Below.alloc ?_ (by first | omega | (simp; omega) | simp) _ | refine Below.drew ?_ | refine below_drewN ?_ _ | refine Below.step (by assumption) (by first | omega | (simp; omega) | simp) ?_))))).mono ?_
    rintro e w1 ⟨rfl, b1⟩
    have O1 := Lib.hid (ownG_below (ownG_empty (E := EI) (T := 3) (B := w.heap.size) w rfl (Nat.le_refl _)) b1)
    have B1 := Lib.hid (Below.step b1 (by simp) (show Below w.heap.size w _ from (by (repeat (first | exact Below.refl _ _ | exact Hbl.out | refine Below.ext ?_ (by first | omega | (simp; omega) | simp) | refine Below.setCell ?_ (by first | omega | (simp; omega) | simp) _ | refine Below.alloc ?_ (by first | omega | (simp; omega) | simp) _ | refine Below.drew ?_ | refine below_drewN ?_ _ | refine Below.step (by assumption) (by first | omega | (simp; omega) | simp) ?_)))))
    clear b1
    go_wp2
    go_ret
    exact ⟨_, rfl, O1.out, B1.out⟩
  · rw [htb] at HT
    rw [owned_yes htb]
    clear htb
    go_enter Try.func20, Try.ntmps20
    go_wp2_with fail
    refine (HT.out _ (H.out.below (by (repeat (first | exact Below.refl _ _ | exact Hbl.out | refine Below.ext ?_ (by first | omega | (simp; omega) | simp) | refine Below.setCell ?_ (by first | omega | (simp; omega) | simp) _ | refine Below.alloc ?_ (by first | omega | (simp; omega) | simp) _ | refine Below.drew ?_ | refine below_drewN ?_ _ | refine Below.step (by assumption) (by first | omega | (simp; omega) | simp) ?_))))).mono ?_
    rintro e w1 ⟨rfl, b1⟩
    have O1 := Lib.hid (ownG_below (ownG_empty (E := EI) (T := 3) (B := w.heap.size) w rfl (Nat.le_refl _)) b1)
    have B1 := Lib.hid (Below.step b1 (by simp) (show Below w.heap.size w _ from (by (repeat (first | exact Below.refl _ _ | exact Hbl.out | refine Below.ext ?_ (by first | omega | (simp; omega) | simp) | refine Below.setCell ?_ (by first | omega | (simp; omega) | simp) _ | refine Below.alloc ?_ (by first | omega | (simp; omega) | simp) _ | refine Below.drew ?_ | refine below_drewN ?_ _ | refine Below.step (by assumption) (by first | omega | (simp; omega) | simp) ?_)))))
    clear b1
    go_wp2
    go_loopw [5, 15] (fun o i wr => ∃ k : Nat, k ≤ t.length ∧ i = .int .i64 k ∧ OwnG EI 3 w.heap.size wr o (ownL t u k) ∧ Below w.heap.size w wr) (fun _ i _ => t.length - (intOf i).toNat)
    case atStart => exact ⟨0, Nat.zero_le _, rfl, O1.out, B1.out⟩
    case round =>
      obtain ⟨k, hk, rfl, hO, hB⟩ := hrel
      have HO := Lib.hid hO
      have HB := Lib.hid hB
      have hzr := hB.size
      obtain ⟨Ao, co, rfl⟩ := ownG_shape hO
      by_cases hlt : k < t.length
      · obtain ⟨b, off, nA, nC, kA, kC, rfl, hb, _, y0, y1, y2, y3, y4, y5, y6⟩ := H.out.at2 hB (kth_at hlt)
        have hlt' : (k : Int) < (t.length : Int) := by omega
        have hlo := ownL_len t u k
        clear hO hB
        by_cases he : (kth t k).ow = u
        · have He := Lib.hid (ownL_yes he)
          rw [he] at y1
          clear he
          go_wp2_with (at_builtin; refine wpList_appG fitEI _ rfl (.tmp 24) (.tmp 26) rfl w.heap.size _ (ownL t u k) rfl ?cO _ [(k : Int)] rfl ?cS ?cL ?cB ?_)
          case cO => exact ownG_alloc (ownG_alloc HO.out _) _
          case cS => exact slI_one (by simp)
          case cL => simp; omega
          case cB => simp; omega
          intro v4 w4 ⟨o4, _, _⟩ hb4
          rw [← He.out] at o4
          have O4 := Lib.hid o4
          have B4 := Lib.hid (Below.trans (Below.alloc (Below.alloc HB.out hzr _) (by simp; omega) _) hb4)
          clear o4 hb4
          go_wp2
          go_roundw
          case rel => exact ⟨k + 1, hlt, by go_num, O4.out, B4.out⟩
          case measure => simp [intOf]; omega
        · have He := Lib.hid (ownL_no he)
          have heb : ((kth t k).ow == u) = false := beq_eq_false_iff_ne.2 he
          clear he
          go_wp2
          go_roundw
          case rel => exact ⟨k + 1, hlt, by go_num, by rw [He.out]; exact ownG_alloc HO.out _, Below.alloc HB.out hzr _⟩
          case measure => simp [intOf]; omega
      · obtain rfl : k = t.length := by omega
        clear hO hB
        go_wp2
        go_ret
        exact ⟨_, rfl, HO.out, HB.out⟩
set_option maxRecDepth 100000 in
set_option maxHeartbeats 4000000 in
theorem ownedS_of (v : Value) (t : List Nd) (u : Int) (w : World) (h : TreeR w v t) (ht : t.length ≤ 1000) (hkz : (kidsOf t).length ≤ 1000000) :
    Calls Try.prog 21 #[v, .int .i64 u] w fun e w' => ∃ v', e = .returned v' ∧ OwnG EI 3 w.heap.size w' v' (ownedF t u) ∧ Below w.heap.size w w' := by
  have H := Lib.hid h
  have hT := fun w h => treeS_of v t w h ht hkz
  obtain ⟨A, cap, rfl⟩ := h.shape
  have hcap := h.caps
  have HT := Lib.hid hT
  clear h hT
  by_cases hn : t.length = 0
  · have hn' : ¬ (0 : Int) < (t.length : Int) := by omega
    have hr : ownedF t u = [] := owned_no (by rw [← treeI_eq]; exact treeI_empty hn)
    rw [hr]
    rw [hn]
    rw [hn] at H
    clear hr hn
    go_enter Try.func21, Try.ntmps21
    go_wp2
    go_loopw [5, 6] (fun o i wr => i = .int .i64 0 ∧ o = .slice (some ⟨w.heap.size, 0, none⟩) 0 0 ∧ wr = w.alloc (.cells #[] 3)) (fun _ i _ => 0)
    case atStart => exact ⟨rfl, rfl, rfl⟩
    case round =>
      obtain ⟨rfl, rfl, rfl⟩ := hrel
      go_wp2
      go_ret
      exact ⟨_, rfl, ownG_empty _ rfl (Nat.le_refl _), (by (repeat (first | exact Below.refl _ _ | exact Hbl.out | refine Below.ext ?_ (by first | omega | (simp; omega) | simp) | refine Below.setCell ?_ (by first | omega | (simp; omega) | simp) _ | refine Below.alloc ?_ (by first | omega | (simp; omega) | simp) _ | refine Below.drew ?_ | refine below_drewN ?_ _ | refine Below.step (by assumption) (by first | omega | (simp; omega) | simp) ?_)))⟩
  · have hn' : (0 : Int) < (t.length : Int) := by omega
    cases htb : treeB t
    · rw [htb] at HT
      rw [owned_no htb]
      clear htb
      go_enter Try.func21, Try.ntmps21
      go_wp2
      go_loopw [5, 6] (fun o i wr => i = .int .i64 0 ∧ o = .slice (some ⟨w.heap.size, 0, none⟩) 0 0 ∧ wr = w.alloc (.cells #[] 3)) (fun _ i _ => 0)
      case atStart => exact ⟨rfl, rfl, rfl⟩
      case round =>
        obtain ⟨rfl, rfl, rfl⟩ := hrel
        go_wp2_with fail
        refine (HT.out _ (H.out.below (by (repeat (first | exact Below.refl _ _ | exact Hbl.out | refine Below.ext ?_ (by first | omega | (simp; omega) | simp) | refine Below.setCell ?_ (by first | omega | (simp; omega) | simp) _ | refine Below.alloc ?_ (by first | omega | (simp; omega) | simp) _ | refine Below.drew ?_ | refine below_drewN ?_ _ | refine Below.step (by assumption) (by first | omega | (simp; omega) | simp) ?_))))).mono ?_
        rintro e w1 ⟨rfl, b1⟩
        have O1 := Lib.hid (ownG_below (ownG_empty (E := EI) (T := 3) (B := w.heap.size) w rfl (Nat.le_refl _)) b1)
        have B1 := Lib.hid (Below.step b1 (by simp) (show Below w.heap.size w _ from (by (repeat (first | exact Below.refl _ _ | exact Hbl.out | refine Below.ext ?_ (by first | omega | (simp; omega) | simp) | refine Below.setCell ?_ (by first | omega | (simp; omega) | simp) _ | refine Below.alloc ?_ (by first | omega | (simp; omega) | simp) _ | refine Below.drew ?_ | refine below_drewN ?_ _ | refine Below.step (by assumption) (by first | omega | (simp; omega) | simp) ?_)))))
        clear b1
        go_wp2
        go_ret
        exact ⟨_, rfl, O1.out, B1.out⟩
    · rw [htb] at HT
      rw [owned_yes htb]
      clear htb
      go_enter Try.func21, Try.ntmps21
      go_wp2
      go_loopw [5, 6] (fun o i wr => ∃ k : Nat, k ≤ t.length ∧ i = .int .i64 k ∧ OwnG EI 3 w.heap.size wr o (ownL t u k) ∧ Below w.heap.size w wr) (fun _ i _ => t.length - (intOf i).toNat)
      case atStart => exact ⟨0, Nat.zero_le _, rfl, ownG_empty _ rfl (Nat.le_refl _), (by (repeat (first | exact Below.refl _ _ | exact Hbl.out | refine Below.ext ?_ (by first | omega | (simp; omega) | simp) | refine Below.setCell ?_ (by first | omega | (simp; omega) | simp) _ | refine Below.alloc ?_ (by first | omega | (simp; omega) | simp) _ | refine Below.drew ?_ | refine below_drewN ?_ _ | refine Below.step (by assumption) (by first | omega | (simp; omega) | simp) ?_)))⟩
      case round =>
        obtain ⟨k, hk, rfl, hO, hB⟩ := hrel
        have HO := Lib.hid hO
        have HB := Lib.hid hB
        have hzr := hB.size
        obtain ⟨Ao, co, rfl⟩ := ownG_shape hO
        by_cases hlt : k < t.length
        · have hlt' : (k : Int) < (t.length : Int) := by omega
          have hlo := ownL_len t u k
          clear hO hB
          go_wp2_with fail
          refine (HT.out _ (H.out.below HB.out)).mono ?_
          rintro e w1 ⟨rfl, b1⟩
          have O1 := Lib.hid (ownG_below HO.out b1)
          have hB1 := Below.step b1 hzr HB.out
          have B1 := Lib.hid hB1
          have hz1 := hB1.size
          obtain ⟨b, off, nA, nC, kA, kC, rfl, hb, _, y0, y1, y2, y3, y4, y5, y6⟩ := H.out.at2 hB1 (kth_at hlt)
          clear hB1 b1
          by_cases he : (kth t k).ow = u
          · have He := Lib.hid (ownL_yes he)
            rw [he] at y1
            clear he
            go_wp2_with (at_builtin; refine wpList_appG fitEI _ rfl (.tmp 25) (.tmp 27) rfl w.heap.size _ (ownL t u k) rfl ?cO _ [(k : Int)] rfl ?cS ?cL ?cB ?_)
            case cO => exact ownG_alloc O1.out _
            case cS => exact slI_one (by simp)
            case cL => simp; omega
            case cB => simp; omega
            intro v4 w4 ⟨o4, _, _⟩ hb4
            rw [← He.out] at o4
            have O4 := Lib.hid o4
            have B4 := Lib.hid (Below.trans (Below.alloc B1.out hz1 _) hb4)
            clear o4 hb4
            go_wp2
            go_roundw
            case rel => exact ⟨k + 1, hlt, by go_num, O4.out, B4.out⟩
            case measure => simp [intOf]; omega
          · have He := Lib.hid (ownL_no he)
            have heb : ((kth t k).ow == u) = false := beq_eq_false_iff_ne.2 he
            clear he
            go_wp2
            go_roundw
            case rel => exact ⟨k + 1, hlt, by go_num, by rw [He.out]; exact O1.out, B1.out⟩
            case measure => simp [intOf]; omega
        · obtain rfl : k = t.length := by omega
          clear hO hB
          go_wp2
          go_ret
          exact ⟨_, rfl, HO.out, HB.out⟩
end Go.Proofs.Ythcmecgmidopoaa
