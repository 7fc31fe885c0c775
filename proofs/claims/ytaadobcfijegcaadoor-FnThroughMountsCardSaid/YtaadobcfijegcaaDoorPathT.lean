/- Paths: the reference's 'PathParts'. -/
import Derived.Test.YtaadobcfijegcaaDoorPathS
set_option linter.unusedSimpArgs false
set_option linter.unusedVariables false
set_option linter.unusedSectionVars false
namespace Go.Proofs.YtaadobcfijegcaaDoor
open Go.RowKit

theorem spl_tail_slash (xs : List UInt8) : (spl (xs ++ [47])).tail = (spl xs).tail ++ [[]] := by
  obtain ⟨h, t, e⟩ := spl_ne xs
  rw [spl_snoc_slash, e]; rfl
theorem spl_tail_other {c : UInt8} (hc : c ≠ 47) (xs : List UInt8) (hne : (spl xs).tail ≠ []) : (spl (xs ++ [c])).tail = lastPut (spl xs).tail c := by
  obtain ⟨h, t, e⟩ := spl_ne xs
  rw [spl_snoc_other hc, e]
  rw [e] at hne
  cases t with
  | nil => exact absurd rfl hne
  | cons a r => rfl
theorem spl_tail_none {c : UInt8} (hc : c ≠ 47) (xs : List UInt8) (hne : (spl xs).tail = []) : (spl (xs ++ [c])).tail = [] := by
  obtain ⟨h, t, e⟩ := spl_ne xs
  rw [spl_snoc_other hc, e]
  rw [e] at hne
  cases t with
  | nil => rfl
  | cons a r => cases hne
theorem tail_sizes (l : List UInt8) : ∀ x ∈ (spl l).tail, x.length ≤ l.length := fun x hx => spl_word l x (List.mem_of_mem_tail hx)
/-- What the reference compares at the end. -/
theorem parts_end (l : List UInt8) (h1 : l ≠ []) (h2 : l ≠ [47]) : (joinP (spl l).tail = l ∧ okP l = true ∧ partsP l = (spl l).tail) ∨ (¬ joinP (spl l).tail = l ∧ okP l = false) := by
  cases l with
  | nil => exact absurd rfl h1
  | cons c r =>
    by_cases hc : c = 47
    · subst hc
      have hr : r ≠ [] := fun e => h2 (by rw [e])
      rw [spl_slash]
      show (joinP (spl r) = _ ∧ _ ∧ _ = spl r) ∨ _
      rw [joinP_spl]
      cases hn : namesB (spl r)
      · refine .inr ⟨?_, okP_bad hr hn⟩
        show ¬ joinP (spl r) = _
        rw [joinP_spl, hn]; simp
      · obtain ⟨k1, k2⟩ := partsP_yes hr hn
        exact .inl ⟨rfl, k1, k2⟩
    · refine .inr ⟨fun e => ?_, okP_other hc⟩
      rcases joinP_head (spl (c :: r)).tail with h | ⟨t, h⟩
      · rw [h] at e; cases e
      · rw [h] at e; exact hc (List.cons.inj e).1.symm
set_option maxRecDepth 100000 in
set_option maxHeartbeats 2000000 in
theorem pathPartsS_of (s : ByteArray) (w : World) (hs : s.size ≤ 1048576) : Calls Tryd.prog 46 #[.string s] w (Parts w s.data.toList) := by
  have hS : s.toList = s.data.toList := Lib.toList_data s
  by_cases h47 : s.toList = [47]
  · have e1 : okP s.data.toList = true ∧ partsP s.data.toList = [] := by rw [← hS, h47]; exact partsP_root
    have E1 := Lib.hid e1
    clear e1 hS
    go_enter Tryd.func46, Tryd.ntmps46
    go_wp2
    refine bodyPost_ret (v := .tuple #[.slice (some ⟨w.heap.size, 0, none⟩) 0 0, .bool true]) ?_ rfl ⟨_, by rw [E1.out.1], ?_, ?_⟩
    · simp [results, Tryd.results46, go_sem]
    · rw [E1.out.2]; exact own_empty (B := w.heap.size) w (Nat.le_refl _)
    · (repeat (first | exact Below.refl _ _ | exact Hbl.out | refine Below.ext ?_ (by first | omega | (simp; omega) | simp) | refine Below.setCell ?_ (by first | omega | (simp; omega) | simp) _ | refine Below.alloc ?_ (by first | omega | (simp; omega) | simp) _ | refine Below.drew ?_ | refine below_drewN ?_ _ | refine Below.step (by assumption) (by first | omega | (simp; omega) | simp) ?_))
  · have f47 : (s.toList == [47]) = false := beq_eq_false_iff_ne.2 h47
    have HS := Lib.hid hS; clear hS
    go_enter Tryd.func46, Tryd.ntmps46
    go_wp2
    go_loopw [4, 5] (fun o i wr => ∃ k : Nat, k ≤ s.size ∧ i = .int .i64 k ∧ OwnS w.heap.size wr o ((spl (s.data.toList.take k)).tail.map mk) ∧ Below w.heap.size w wr) (fun _ i _ => s.size - (intOf i).toNat)
    case atStart => exact ⟨0, Nat.zero_le _, rfl, own_empty (B := w.heap.size) w (Nat.le_refl _), (by (repeat (first | exact Below.refl _ _ | exact Hbl.out | refine Below.ext ?_ (by first | omega | (simp; omega) | simp) | refine Below.setCell ?_ (by first | omega | (simp; omega) | simp) _ | refine Below.alloc ?_ (by first | omega | (simp; omega) | simp) _ | refine Below.drew ?_ | refine below_drewN ?_ _ | refine Below.step (by assumption) (by first | omega | (simp; omega) | simp) ?_)))⟩
    case round =>
      obtain ⟨k, hk, rfl, hown, hbl⟩ := hrel
      by_cases hlt : k < s.size
      · have hlen := spl_len (s.data.toList.take k)
        rw [List.length_take] at hlen
        have htk : s.data.toList.take (k + 1) = s.data.toList.take k ++ [s[k]] := by
          rw [List.take_succ_eq_append_getElem (by rw [size_list]; exact hlt)]; rfl
        have htl : (spl (s.data.toList.take k)).tail.length + 1 = (spl (s.data.toList.take k)).length := by
          obtain ⟨h, t, e⟩ := spl_ne (s.data.toList.take k)
          rw [e]; rfl
        have hwd := tail_sizes (s.data.toList.take k)
        have Htk := Lib.hid htk; clear htk
        have hsl := spl_tail_slash (s.data.toList.take k)
        have hot := fun (hc : s[k] ≠ 47) => spl_tail_other hc (s.data.toList.take k)
        have hnn := fun (hc : s[k] ≠ 47) => spl_tail_none hc (s.data.toList.take k)
        generalize hls' : (spl (s.data.toList.take k)).tail = ls at hown htl hsl hot hnn hwd
        have hml : (ls.map mk).length = ls.length := List.length_map _
        have hsz : w.heap.size ≤ wr.heap.size := hbl.size
        have hl2 : ls.length ≤ 1048577 := by omega
        have Hbl := Lib.hid hbl
        have Hsl := Lib.hid hsl
        have Hot := Lib.hid hot
        have Hnn := Lib.hid hnn
        have Hwd := Lib.hid hwd
        clear hlen hbl hsl hot hnn hwd hls' htl
        have zk : IntKind.i64.wrap ((k : Int) + 1) = (k : Int) + 1 := IntWalk.i64_in _ (by omega)
        obtain ⟨A, c, rfl, hA⟩ : ∃ A c, u4 = .slice A ls.length c ∧ (ls ≠ [] → ∃ g, A = some ⟨g, 0, none⟩ ∧ w.heap.size ≤ g ∧ g < wr.heap.size) := by
          by_cases hl0 : 0 < ls.length
          · obtain ⟨g, c, e, hg1, hg2, _, _⟩ := ownS_at hown (by rw [hml]; exact hl0)
            exact ⟨_, c, by rw [e, hml], fun _ => ⟨g, rfl, hg1, hg2⟩⟩
          · have : ls = [] := List.length_eq_zero_iff.1 (by omega)
            subst this
            rcases hown.2 with ⟨e, _⟩ | ⟨g, c, cur, e, _⟩
            · exact ⟨none, 0, e, fun h => absurd rfl h⟩
            · exact ⟨_, c, e, fun h => absurd rfl h⟩
        have Hown := Lib.hid hown
        by_cases hc : s[k] = 47
        · have hc' : ((s[k].toNat : Int) == 47) = true := by rw [hc]; rfl
          have Hc := Lib.hid hc; clear hc hown
          have hgB : ∀ j, (Value.slice A ls.length c).ownBlock = some j → w.heap.size ≤ j := fun j hj => (Hown.out.lt j hj).1
          go_wp2_with (at_builtin; refine wpList_appS1 _ rfl (.tmp 20) (.tmp 21) rfl w.heap.size _ (ls.map mk) rfl ?cO ?cL ?cB _ rfl ⟨#[]⟩ ?c0 ?_)
          case cO => exact World.ownsRow.alloc Hown.out _
          case cL => rw [hml]; omega
          case cB => simp; omega
          case c0 => simp [go_sem]
          intro v' w' o' hg'
          have hb' : Below w.heap.size w w' := Below.grown (Below.alloc Hbl.out hsz _) hg' (by simp; omega) hgB
          go_wp2
          go_roundw
          case rel => exact ⟨k + 1, by omega, by go_num, by rw [Htk.out, Hc.out, Hsl.out, List.map_append]; exact o', hb'⟩
          case measure => simp [intOf]; omega
        · have hc' : ((s[k].toNat : Int) == 47) = false := by
            rw [beq_eq_false_iff_ne]; intro e
            exact hc (UInt8.toNat_inj.1 (by have : s[k].toNat = 47 := by omega
                                            rw [this]; rfl))
          by_cases hl0 : ls = []
          · have Hc := Lib.hid hc; clear hc hown
            have hlz : ls.length = 0 := by rw [hl0]; rfl
            have Hl0 := Lib.hid hl0; clear hl0
            rw [hlz]
            go_wp2
            go_roundw
            case rel => exact ⟨k + 1, by omega, by go_num, by
              rw [Htk.out, Hnn.out Hc.out Hl0.out]
              have := Hown.out
              rw [hlz, Hl0.out] at this; exact this, Hbl.out⟩
            case measure => simp [intOf]; omega
          · obtain ⟨g, rfl, hg1, hg2⟩ := hA hl0
            have hl1 : 0 < ls.length := List.length_pos_iff.2 hl0
            have hst : st (ls.map mk) (ls.length - 1) = mk (ls.getLastD []) := by
              unfold st
              rw [List.getD_eq_getElem?_getD, List.getElem?_map, List.getLastD_eq_getLast?, List.getLast?_eq_getElem?, List.getElem?_eq_getElem (by omega)]; rfl
            have c0 : wr.cell? ⟨g, ls.length - 1, none⟩ = some (.string (mk (ls.getLastD []))) := by
              rw [← hst]; exact ownS_cell (by rw [hml]; exact hown) (by rw [hml]; omega)
            have y0 : wr.frozen? ⟨g, ls.length - 1, none⟩ = false := ownS_frozen hml.symm hown
            have z1 : IntKind.i64.wrap ((ls.length : Int) - 1) = (ls.length : Int) - 1 := IntWalk.i64_in _ (by omega)
            have z2 : (0 : Int) ≤ (ls.length : Int) - 1 := by omega
            have z3 : (ls.length : Int) - 1 < (ls.length : Int) := by omega
            have z4 : ((ls.length : Int) - 1).toNat = ls.length - 1 := by omega
            have z5 : (0 : Int) ≤ (k : Int) := by omega
            have z6 : (k : Int) + 1 ≤ (s.size : Int) := by omega
            have z7 : (1 : Int) ≤ (ls.length : Int) := by omega
            have hx0 : (mk (ls.getLastD [])).size ≤ 1048576 := by
              have := Hwd.out _ (lastD_mem ls hl0)
              rw [List.length_take, size_list] at this
              rw [mk_size]; omega
            have hx1 : (s.extract k (k + 1)).size ≤ 1048576 := by rw [ByteArray.size_extract]; omega
            have Hc := Lib.hid hc
            have Hne := Lib.hid hl0
            clear hc hown hst hl0 hA
            generalize hx : mk (ls.getLastD []) = x0 at c0
            rw [hx] at hx0
            have hsum : x0.size + (s.extract k (k + 1)).size ≤ 9223372036854775807 := by omega
            have Hx := Lib.hid hx; clear hx hx0 hx1
            go_wp2
            go_region
            go_wp2
            go_roundw
            case rel => exact ⟨k + 1, by omega, by go_num, by
              rw [Htk.out, Hot.out Hc.out Hne.out]
              exact own_put ls.length rfl Hown.out Hne.out (by rw [← Hx.out]; exact put_sign s _ k hlt), (Hbl.out.setCell (by simpa using hg1) _).drew⟩
            case measure => simp [intOf]; omega
      · obtain rfl : k = s.size := by omega
        rw [List.take_of_length_le (by rw [size_list]; exact Nat.le_refl _)] at hown
        by_cases hem : s.toList = []
        · have hno : okP s.data.toList = false := by rw [← HS.out, hem]; rfl
          have hno2 := partsP_no hno
          have Hno := Lib.hid hno
          have Hno2 := Lib.hid hno2
          have Hbl := Lib.hid hbl
          have hsz := hbl.size
          clear hno hno2 hown hbl
          go_wp2
          refine bodyPost_ret (v := .tuple #[.slice (some ⟨wr.heap.size, 0, none⟩) 0 0, .bool false]) ?_ rfl ⟨_, by rw [Hno.out], ?_, ?_⟩
          · simp [results, Tryd.results46, go_sem]
          · rw [Hno2.out]; exact own_empty (B := w.heap.size) wr hsz
          · (repeat (first | exact Below.refl _ _ | exact Hbl.out | refine Below.ext ?_ (by first | omega | (simp; omega) | simp) | refine Below.setCell ?_ (by first | omega | (simp; omega) | simp) _ | refine Below.alloc ?_ (by first | omega | (simp; omega) | simp) _ | refine Below.drew ?_ | refine below_drewN ?_ _ | refine Below.step (by assumption) (by first | omega | (simp; omega) | simp) ?_))
        · have fem : s.toList.isEmpty = false := by rw [Bool.eq_false_iff]; intro h; exact hem (List.isEmpty_iff.1 h)
          have hend := parts_end s.data.toList (by rw [← HS.out]; exact hem) (by rw [← HS.out]; exact h47)
          have htl : (spl s.data.toList).tail.length ≤ 1048600 := by
            have h1 := spl_len s.data.toList
            rw [size_list] at h1
            obtain ⟨h, t, e⟩ := spl_ne s.data.toList
            rw [e] at h1 ⊢
            simp only [List.tail_cons, List.length_cons] at h1 ⊢
            omega
          have hj := joinS_of u4 (spl s.data.toList).tail wr (ownS_sl hown) htl (fun x hx => by have := tail_sizes _ x hx; rw [size_list] at this; omega)
          have hres : ((mk (joinP (spl s.data.toList).tail)).toList = s.toList ∧ okP s.data.toList = true ∧ partsP s.data.toList = (spl s.data.toList).tail) ∨ (¬ (mk (joinP (spl s.data.toList).tail)).toList = s.toList ∧ okP s.data.toList = false) := by
            rw [mk_toList, HS.out]; exact hend
          generalize mk (joinP (spl s.data.toList).tail) = y at hj hres
          have Hj := Lib.hid hj
          have Hown := Lib.hid hown
          have Hbl := Lib.hid hbl
          have hsz := hbl.size
          clear hj hown hbl hend htl
          rcases hres with ⟨e1, e2, e3⟩ | ⟨e1, e2⟩
          · have E2 := Lib.hid e2
            have E3 := Lib.hid e3
            clear e2 e3
            go_wp2_with fail
            refine Hj.out.mono ?_
            rintro e w' ⟨rfl, rfl⟩
            go_wp2
            refine bodyPost_ret (v := .tuple #[u4, .bool true]) ?_ rfl ⟨_, by rw [E2.out], ?_, Hbl.out⟩
            · simp [results, Tryd.results46, go_sem]
            · rw [E3.out]; exact Hown.out
          · have f1 : (y.toList == s.toList) = false := beq_eq_false_iff_ne.2 e1
            have hno2 := partsP_no e2
            have E2 := Lib.hid e2
            have Hno2 := Lib.hid hno2
            clear e2 hno2
            go_wp2_with fail
            refine Hj.out.mono ?_
            rintro e w' ⟨rfl, rfl⟩
            go_wp2
            refine bodyPost_ret (v := .tuple #[.slice (some ⟨wr.heap.size, 0, none⟩) 0 0, .bool false]) ?_ rfl ⟨_, by rw [E2.out], ?_, ?_⟩
            · simp [results, Tryd.results46, go_sem]
            · rw [Hno2.out]; exact own_empty (B := w.heap.size) wr hsz
            · (repeat (first | exact Below.refl _ _ | exact Hbl.out | refine Below.ext ?_ (by first | omega | (simp; omega) | simp) | refine Below.setCell ?_ (by first | omega | (simp; omega) | simp) _ | refine Below.alloc ?_ (by first | omega | (simp; omega) | simp) _ | refine Below.drew ?_ | refine below_drewN ?_ _ | refine Below.step (by assumption) (by first | omega | (simp; omega) | simp) ?_))
end Go.Proofs.YtaadobcfijegcaaDoor
