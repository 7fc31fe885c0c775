/- The drawn law on PathsOf: the walk. -/
import Derived.Test.YthfneaaenlgegaaDoorPathsI
import Derived.Test.YthfneaaenlgegaaDoorPathsP
import Derived.Test.YthfneaaenlgegaaDoorDrawC
import Derived.Test.YthfneaaenlgegaaDoorMH
import Derived.Deep.QuietTactic
set_option linter.unusedSimpArgs false
set_option linter.unusedVariables false
set_option linter.unusedSectionVars false
namespace Go.Proofs.YthfneaaenlgegaaDoor
open Go.RowKit

def openC (cs : List Cn) (k : Nat) : List Cn := (cs.take k).map (fun c => { c with mo := 511 }) ++ cs.drop k
theorem openC_zero (cs : List Cn) : openC cs 0 = cs := by simp [openC]
theorem openC_len (cs : List Cn) (k : Nat) : (openC cs k).length = cs.length := by
  unfold openC
  rw [List.length_append, List.length_map, ← List.length_append, List.take_append_drop]
theorem openC_at {cs : List Cn} {k i : Nat} (hi : i < cs.length) : (openC cs k)[i]? = some (if i < k then { cs[i] with mo := 511 } else cs[i]) := by
  unfold openC
  by_cases hk : i < k
  · rw [if_pos hk, List.getElem?_append_left (by rw [List.length_map, List.length_take]; omega), List.getElem?_map, List.getElem?_take_of_lt hk, List.getElem?_eq_getElem hi]; rfl
  · rw [if_neg hk, List.getElem?_append_right (by rw [List.length_map, List.length_take]; omega), List.length_map, List.length_take, List.getElem?_drop, Nat.min_def]
    have e : k + (i - if k ≤ cs.length then k else cs.length) = i := by split <;> omega
    rw [e, List.getElem?_eq_getElem hi]
theorem openC_succ {cs : List Cn} {k : Nat} (hk : k < cs.length) : (openC cs k).set k { cs[k] with mo := 511 } = openC cs (k + 1) := by
  apply List.ext_getElem?
  intro i
  by_cases hi : i < cs.length
  · rw [openC_at hi, List.getElem?_set]
    by_cases e : k = i
    · subst e
      rw [if_pos rfl, if_pos (by rw [openC_len]; exact hi), if_pos (Nat.lt_succ_self k)]
    · rw [if_neg e, openC_at hi]
      by_cases h3 : i < k
      · rw [if_pos h3, if_pos (by omega)]
      · rw [if_neg h3, if_neg (by omega)]
  · rw [List.getElem?_eq_none (by rw [List.length_set, openC_len]; omega), List.getElem?_eq_none (by rw [openC_len]; omega)]
theorem open_tree {w w5 : World} {v : Value} {cs : List Cn} {t : List Nd} (hl : cs.length = t.length) (hn : ∀ (i : Nat) c x, cs[i]? = some c → t[i]? = some x → NdR w5 c x) (hs : SlG EC w v (openC cs t.length)) (hb : Below w5.heap.size w5 w) : TreeR w v (opened t t.length) := by
  refine ⟨_, by rw [openC_len, opened_len, hl], hs, fun i c x hc hx => ?_⟩
  have hi : i < cs.length := by
    have := (List.getElem?_eq_some_iff.1 hc).1
    rwa [openC_len] at this
  rw [openC_at hi, if_pos (by omega)] at hc
  have h2 := kth_at (t := opened t t.length) (k := i) (by rw [opened_len]; omega)
  rw [h2, opened_kth (by omega), if_pos (by omega)] at hx
  injection hc with hc
  injection hx with hx
  subst hc hx
  have r := (hn i _ _ (List.getElem?_eq_getElem hi) (kth_at (by omega))).below hb
  exact ⟨r.fo, r.ow, r.gr, rfl, r.tx, r.ns, r.ks, r.sz, r.nz⟩
set_option maxRecDepth 100000 in
set_option maxHeartbeats 8000000 in
theorem walkFnPathsOf (a : Option Addr) (len cap : Nat) (zs : List Int) (w : World) (hsh : w.ShapedOpen Tryd.prog) (hrow : IsRow .u8 w a len cap zs) :
    Calls Tryd.prog 3 #[.slice a len cap] w fun e w' => e = .returned (.bool true) ∧ Below w.heap.size w w' := by
  obtain ⟨hl1, hl2⟩ := hrow.len_le
  unfold maxLen at hl2
  by_cases hbig : (1048576 : Int) < (len : Int)
  · go_enter Tryd.func3, Tryd.ntmps3
    go_wp2
    go_ret
    exact ⟨rfl, Below.refl _ _⟩
  · have hm0 := maxL_of hsh
    go_enter Tryd.func3, Tryd.ntmps3
    go_wp2_with fail
    refine (drawPO_any a len cap zs _ hrow).mono ?_
    rintro e w1 ⟨v, cs, t, rfl, hT, hn, hk, _, b1⟩
    have HM := Lib.hid (hm0.below b1)
    have hR : TreeR w1 v t := TreeO.r ⟨cs, hT⟩
    have H1 := Lib.hid (fun w h => pathsI_of v t w h (by omega) hk)
    have H2 := Lib.hid (fun w h => pathsS_of v t w h (by omega) hk)
    have H3 := Lib.hid (fun w h => treeI_of v t w h (by omega) (by omega))
    have HR := Lib.hid hR
    have B1 := Lib.hid b1
    have hcs := hT.len
    have Hsl := Lib.hid (ownG_sl hT.row)
    have Hnr := Lib.hid (fun i c x (hc : cs[i]? = some c) (hx : t[i]? = some x) => (hT.nds i c x hc hx).r)
    obtain ⟨A, c, rfl⟩ := hR.shape
    have hcap := hR.caps
    have Hcs := Lib.hid hcs
    clear hT hR b1 hm0 hcs
    go_wp2_with fail
    refine (H1.out _ HR.out).mono ?_
    rintro e w2 ⟨x, rfl, o2, b2⟩
    have B2 := Lib.hid b2
    have X2 := Lib.hid (ownG_sl o2)
    obtain ⟨A2, c2, rfl⟩ := ownG_shape o2
    have hxc := X2.out.caps
    clear o2 b2
    go_wp2_with fail
    refine (H2.out _ (HR.out.below B2.out)).mono ?_
    rintro e w3 ⟨y, rfl, o3, b3⟩
    have B3 := Lib.hid (Below.step b3 B2.out.size B2.out)
    have X3 := Lib.hid (X2.out.below b3)
    have Y3 := Lib.hid (ownG_sl o3)
    clear o3 b3
    have hsm := sameTexts_of _ _ _ _ w3 X3.out Y3.out
    rw [decide_eq_true rfl] at hsm
    have Hsm := Lib.hid hsm
    clear hsm
    go_wp2_with fail
    refine Hsm.out.mono ?_
    rintro e w4 ⟨rfl, nd, rfl⟩
    have X4 := Lib.hid (X3.out.below (w' := w3.drewN nd) (below_drewN (Below.refl _ _) _))
    have B4 := Lib.hid (Below.step (below_drewN (Below.refl w3.heap.size w3) nd) B3.out.size B3.out)
    clear Hsm B3 B2 X3 X2 Y3 H1 H2
    obtain ⟨W4, hW4⟩ : ∃ W4, W4 = w3.drewN nd := ⟨_, rfl⟩
    rw [← hW4] at X4 B4 ⊢
    clear hW4
    go_wp2_with fail
    refine (H3.out _ (HR.out.below B4.out)).mono ?_
    rintro e w5 ⟨rfl, b5⟩
    have X5 := Lib.hid (X4.out.below b5)
    have B5 := Lib.hid (Below.step b5 B4.out.size B4.out)
    have B5w := Lib.hid (Below.step B5.out B1.out.size B1.out)
    clear b5 B4 X4 H3
    cases ht : treeB t
    · have hP : pathsOfF t = [] := by unfold pathsOfF; rw [if_neg (by rw [ht]; simp)]
      have hl0 : (pathsOfF t).length = 0 := by rw [hP]; rfl
      rw [hl0]
      clear ht hP hl0 hxc
      go_wp2_with (go_at_call 16; refine (alive_any _).mono ?_; rintro e w' ⟨rfl, rfl⟩)
      go_ret
      exact ⟨rfl, B5w.out⟩
    · obtain ⟨Pr, hPr⟩ := paths_first ht
      obtain ⟨hnd, _⟩ := paths_law ht
      have hop := fun p hp => paths_open ht (p := p) hp
      have h54 := paths_54 t
      have hlP : (pathsOfF t).length ≤ 1000000 := by
        have hpos : 0 < t.length := by have := inB_iffL.1 (tree_all ht).1; omega
        unfold pathsOfF
        rw [if_pos ht]
        have h1 := paths_len ht 6 0 [] hpos
        have h2 : (2 : Nat) ^ (kidsOf (t.drop 0)).length ≤ 2 ^ 16 := Nat.pow_le_pow_right (by decide) (by rw [List.drop_zero]; exact hk)
        have h3 : (2 : Nat) ^ 16 = 65536 := by decide
        exact Nat.le_trans h1 (by omega)
      have hot := opened_len t t.length
      have hokz : (kidsOf (opened t t.length)).length ≤ 1000000 := by
        have : kidsOf (opened t t.length) = kidsOf t := by
          unfold opened
          rw [List.take_length, List.drop_length, List.append_nil]
          unfold kidsOf
          rw [List.flatMap_map]
        rw [this]; omega
      obtain ⟨P, hP⟩ : ∃ P, P = pathsOfF t := ⟨_, rfl⟩
      rw [← hP] at hPr hnd hop h54 hlP X5 hxc ⊢
      have hPl : P.length = Pr.length + 1 := by rw [hPr]; rfl
      have HPr := Lib.hid hPr
      have Hnd := Lib.hid hnd
      have Hop := Lib.hid hop
      have H54 := Lib.hid h54
      have HJ := Lib.hid (fun v w hm h (s : List UInt8) (hs : s.length ≤ 1048576) => findI_of v (opened t t.length) 0 0 0 0 (mk s) w hm h (by omega) hokz (by rw [mk_size]; exact hs))
      have HPl := Lib.hid hPl
      have HS5 := Lib.hid (Hsl.out.below B5.out)
      have Hn5 := Lib.hid (fun i c x hc hx => (Hnr.out i c x hc hx).below B5.out)
      clear hPr hnd hop h54 hP hPl hokz hot ht Hsl Hnr HR
      have hcl : cs.length ≤ 20 := by rw [Hcs.out]; exact hn
      go_wp2_with (at_builtin; refine wpList_appG fitEC _ rfl (.tmp 32) (.tmp 33) rfl w5.heap.size (.slice (some ⟨_, 0, none⟩) 0 0) [] rfl ?cO _ cs rfl ?cS ?cL ?cB ?_)
      case cO => exact ownG_empty _ rfl (Nat.le_refl _)
      case cS => exact HS5.out.below (Below.alloc (Below.refl _ _) (Nat.le_refl _) _)
      case cL => first | omega | (simp; omega)
      try (case cB => first | omega | (simp; done) | (simp; omega))
      intro v6 w6 ha6 hb6
      have hb56 := Below.step hb6 (Nat.le_refl _) (Below.alloc (Below.refl w5.heap.size w5) (Nat.le_refl _) (.cells #[] 32))
      obtain ⟨A6, c6, rfl, hA6⟩ := appG_some ha6
      obtain ⟨g, rfl⟩ := hA6.out
      have H6 := Lib.hid (show OwnG EC 32 w5.heap.size w6 (.slice (some ⟨g, 0, none⟩) cs.length c6) cs from ha6.1)
      have B6 := Lib.hid hb56
      obtain ⟨b2, o2, hA2, hb2, _⟩ := X5.out.at_ (nthL_at (l := P) (k := 0) (by rw [HPl.out]; omega))
      subst hA2
      have hlt2 : b2 < w5.heap.size := hb2
      clear ha6 hb6 hb56 hA6 hb2
      go_wp2
      go_loopw [6] (fun i wr => ∃ k : Nat, k ≤ cs.length ∧ i = .int .i64 k ∧ OwnG EC 32 w5.heap.size wr (.slice (some ⟨g, 0, none⟩) cs.length c6) (openC cs k) ∧ Below w5.heap.size w5 wr) (fun i _ => cs.length - (intOf i).toNat)
      case atStart => exact ⟨0, Nat.zero_le _, rfl, by rw [openC_zero]; exact H6.out, B6.out⟩
      case round =>
        obtain ⟨k, hk6, rfl, hown, hbr⟩ := hrel
        have zk : IntKind.i64.wrap ((k : Int) + 1) = (k : Int) + 1 := IntWalk.i64_in _ (by omega)
        by_cases hlt : k < cs.length
        · have hc0 : (openC cs k)[k]? = some cs[k] := by rw [openC_at hlt, if_neg (Nat.lt_irrefl k)]
          obtain ⟨gx, _, ex, hgl, hcell⟩ := (ownG_sl hown).at_ hc0
          cases ex
          have k0 : wr.cell? ⟨g, k * 7 + 3, none⟩ = some (.int .i64 cs[k].mo) := by have := hcell 3 _ rfl; simpa [EC] using this
          have f0 : wr.frozen? ⟨g, k * 7 + 3, none⟩ = false := by
            have h1 := hown
            unfold OwnG at h1
            rw [openC_len] at h1
            exact h1.frozenAt _
          obtain ⟨g2, eg2, hg3, _, _, hst⟩ := ownG_store (E := EC) (j := 3) (y := { cs[k] with mo := 511 }) (u := .int .i64 511) hown hc0 (show 3 < EC.z from by decide) rfl
          cases eg2
          have Hst := Lib.hid (show OwnG EC 32 w5.heap.size (wr.setCell ⟨g, k * 7 + 3, none⟩ (.int .i64 511)) (.slice (some ⟨g, 0, none⟩) cs.length c6) (openC cs (k + 1)) from by
            rw [← openC_succ hlt]; exact hst)
          have Hbn := Lib.hid (show Below w5.heap.size w5 (wr.setCell ⟨g, k * 7 + 3, none⟩ (.int .i64 511)) from Below.setCell hbr hg3 _)
          clear hst hcell hown hbr hc0
          go_wp2
          go_roundw
          case rel => exact ⟨k + 1, hlt, by go_num, Hst.out, Hbn.out⟩
          case measure => simp [intOf]; omega
        · have hk' : k = cs.length := by omega
          subst hk'
          have hcs := Hcs.out
          have HR7 := Lib.hid (open_tree hcs Hn5.out (by rw [← hcs]; exact ownG_sl hown) hbr)
          have HM7 := Lib.hid ((HM.out.below B5.out).below hbr)
          have X7 := Lib.hid (X5.out.below hbr)
          have B7 := Lib.hid (Below.step hbr B5w.out.size B5w.out)
          clear hown hbr H6 B6 Hn5 HS5 hcs HM X5 B5
          obtain ⟨W7, rfl⟩ : ∃ W7, W7 = wr := ⟨_, rfl⟩
          go_wp2
          go_loopw [7, 8, 9, 10] (fun i _ _ _ wr => ∃ k : Nat, k ≤ P.length ∧ i = .int .i64 k ∧ Below W7.heap.size W7 wr) (fun i _ _ _ _ => P.length - (intOf i).toNat)
          case atStart => exact ⟨0, Nat.zero_le _, rfl, Below.refl _ _⟩
          case round =>
            obtain ⟨k, hk7, rfl, hb7⟩ := hrel
            have zk : IntKind.i64.wrap ((k : Int) + 1) = (k : Int) + 1 := IntWalk.i64_in _ (by omega)
            by_cases hlt : k < P.length
            · have hmem : nthL P k ∈ P := List.mem_of_getElem? (nthL_at hlt)
              have hc := HJ.out _ wr (HM7.out.below hb7) (HR7.out.below hb7) (nthL P k) (Nat.le_trans (H54.out _ hmem) (by omega))
              rw [show (mk (nthL P k)).data.toList = nthL P k from rfl, Hop.out _ hmem] at hc
              obtain ⟨b1, o1, e1, hb1, h1⟩ := (X7.out.below hb7).at_ (nthL_at hlt)
              cases e1
              have c0 : wr.cell? ⟨b2, o2 + k, none⟩ = some (.string (mk (nthL P k))) := by have := h1 0 _ rfl; simpa [EL] using this
              have Hb7 := Lib.hid hb7
              have hle7 : W7.heap.size ≤ wr.heap.size := hb7.size
              generalize hn1 : (findF (opened t t.length) 0 0 0 0 (nthL P k)).1 = n1 at hc
              have HC := Lib.hid hc
              clear hc h1 hb1 hmem hb7 hn1
              go_wp2_with fail
              refine HC.out.mono ?_
              rintro e w8 ⟨rfl, b8⟩
              have X8 := Lib.hid ((X7.out.below Hb7.out).below b8)
              have B8 := Lib.hid (Below.step b8 hle7 Hb7.out)
              clear HC b8 c0
              go_wp2
              go_loopw [10] (fun i wr => ∃ j n : Nat, j ≤ k ∧ i = .int .i64 j ∧ wr = w8.drewN n) (fun i _ => k - (intOf i).toNat)
              case atStart => exact ⟨0, 0, Nat.zero_le _, rfl, rfl⟩
              case round =>
                obtain ⟨j, n, hj, rfl, rfl⟩ := hrel
                have zj : IntKind.i64.wrap ((j : Int) + 1) = (j : Int) + 1 := IntWalk.i64_in _ (by omega)
                by_cases hjk : j < k
                · have hjP : j < P.length := by omega
                  obtain ⟨b3, o3, e3, hb3, h3⟩ := X8.out.at_ (nthL_at hjP)
                  cases e3
                  obtain ⟨b4, o4, e4, hb4, h4⟩ := X8.out.at_ (nthL_at hlt)
                  cases e4
                  have c0 : w8.cell? ⟨b2, o2 + j, none⟩ = some (.string (mk (nthL P j))) := by have := h3 0 _ rfl; simpa [EL] using this
                  have d0 : w8.cell? ⟨b2, o2 + k, none⟩ = some (.string (mk (nthL P k))) := by have := h4 0 _ rfl; simpa [EL] using this
                  have hne : ¬ nthL P j = nthL P k := fun e => by
                    have e5 : P[j]? = P[k]? := by rw [nthL_at hjP, nthL_at hlt, e]
                    have := (List.getElem?_inj hjP Hnd.out).1 e5
                    omega
                  have e1 : ¬ (mk (nthL P j)).toList = (mk (nthL P k)).toList := by rw [mk_toList, mk_toList]; exact hne
                  have e2 : ((mk (nthL P j)).toList == (mk (nthL P k)).toList) = false := beq_eq_false_iff_ne.2 e1
                  generalize nthL P j = x at c0 e1 e2
                  generalize nthL P k = y at d0 e1 e2
                  clear hne h3 h4 hb3 hb4
                  go_wp2_with fail
                  go_quiet (fail)
                  go_wp2
                  go_roundw
                  case rel => exact ⟨j + 1, _, hjk, by go_num, (by first | rfl | simp [World.drewN])⟩
                  case measure => simp [intOf]; omega
                · have hj' : j = k := by omega
                  subst hj'
                  go_wp2
                  go_roundw
                  case rel => exact ⟨j + 1, hlt, by go_num, Below.step (below_drewN (Below.refl _ _) _) B8.out.size B8.out⟩
                  case measure => simp [intOf]; omega
            · have hk' : k = P.length := by omega
              subst hk'
              have hPp : 0 < P.length := by rw [HPl.out]; omega
              have h0 : nthL P 0 = [47] := by rw [HPr.out]; rfl
              obtain ⟨b3, o3, e3, hb3, h3⟩ := (X7.out.below hb7).at_ (nthL_at hPp)
              cases e3
              have c0 : wr.cell? ⟨b2, o2, none⟩ = some (.string (mk [47])) := by have := h3 0 _ rfl; rw [h0] at this; simpa [EL] using this
              have hge : (1 : Int) ≤ (P.length : Int) := by omega
              have hge0 : (0 : Int) < (P.length : Int) := by omega
              have HB := Lib.hid (Below.step hb7 B7.out.size B7.out)
              clear h3 hb3 h0 hb7
              go_wp2
              go_ret
              refine ⟨?_, HB.out⟩
              have he : ((mk [47]).toList == [47]) = true := by rw [mk_toList]; rfl
              show Ending.returned (.bool ((mk [47]).toList == [47])) = _
              rw [he]
end Go.Proofs.YthfneaaenlgegaaDoor
