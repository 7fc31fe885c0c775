/- The drawn law on TreeValid: the walk. -/
import Derived.Test.YthcmecgmidopoaaMG
import Derived.Test.YthcmecgmidopoaaMH
set_option linter.unusedSimpArgs false
set_option linter.unusedVariables false
set_option linter.unusedSectionVars false
namespace Go.Proofs.Ythcmecgmidopoaa
open Go.RowKit

def zeroN : Nd := ⟨false, 0, 0, 0, ByteArray.empty, [], []⟩
def zeroC : Cn := ⟨false, 0, 0, 0, ByteArray.empty, none, 0, 0, none, 0, 0⟩
theorem zero_r (w : World) : NdR w zeroC zeroN := ⟨rfl, rfl, rfl, rfl, rfl, SlG.nil w, SlG.nil w, by show (0 : Nat) ≤ maxLen; decide, fun s hs => by cases hs⟩
theorem tree_more {t : List Nd} (h : treeB t = true) : treeB (t ++ [zeroN]) = false := by
  rw [Bool.eq_false_iff]
  intro h2
  obtain ⟨_, _, _, h4⟩ := tree_all h2
  have h5 := h4 t.length (by simp)
  have hl := inB_iffL.1 (tree_all h).1
  unfold namedB at h5
  simp only [Bool.or_eq_true, decide_eq_true_eq, Bool.and_eq_true] at h5
  rcases h5 with h5 | ⟨h5, _⟩
  · omega
  · unfold lnk at h5
    have e : kidsOf (t ++ [zeroN]) = kidsOf t := by unfold kidsOf; rw [List.flatMap_append]; simp [zeroN]
    rw [e] at h5
    have : (kidsOf t).count ((t.length : Nat) : Int) = 0 := List.count_eq_zero.2 (fun hm => by
      obtain ⟨k, j, hk, hj, e⟩ := kids_in hm
      have := (node_kids (tree_node h hk)).2 j hj
      omega)
    omega
theorem tree_bare {t : List Nd} (h : 0 < t.length) : treeB (t.set 0 { kth t 0 with fo := false }) = false := by
  refine tree_top ?_
  unfold kth
  simp [h]
set_option maxRecDepth 100000 in
set_option maxHeartbeats 8000000 in
theorem walkFnTreeValid (a : Option Addr) (len cap : Nat) (zs : List Int) (w : World) (hrow : IsRow .u8 w a len cap zs) :
    Calls Try.prog 3 #[.slice a len cap] w fun e w' => e = .returned (.bool true) ∧ Below w.heap.size w w' := by
  obtain ⟨hl1, hl2⟩ := hrow.len_le
  unfold maxLen at hl2
  by_cases hbig : (1048576 : Int) < (len : Int)
  · go_enter Try.func3, Try.ntmps3
    go_wp2
    go_ret
    exact ⟨rfl, Below.refl _ _⟩
  · go_enter Try.func3, Try.ntmps3
    go_wp2_with fail
    refine (drawTV_any a len cap zs _ hrow).mono ?_
    rintro e w1 ⟨v, cs, t, rfl, hT, hn, hk, _, b1⟩
    have hR : TreeR w1 v t := TreeO.r ⟨cs, hT⟩
    have HT1 := Lib.hid (fun w h => treeI_of v t w h (by omega) (by omega))
    have HT2 := Lib.hid (fun w h => treeS_of v t w h (by omega) (by omega))
    have HR := Lib.hid hR
    have B1 := Lib.hid b1
    have Hsl := Lib.hid (ownG_sl hT.row)
    have Hcl := Lib.hid hT.len
    have Hnr := Lib.hid (fun i c x (hc : cs[i]? = some c) (hx : t[i]? = some x) => (hT.nds i c x hc hx).r)
    obtain ⟨A, c, rfl⟩ := hR.shape
    have hcap := hR.caps
    clear hT hR b1
    go_wp2_with fail
    refine (HT1.out _ HR.out).mono ?_
    rintro e w2 ⟨rfl, b2⟩
    have B2 := Lib.hid (Below.step b2 B1.out.size B1.out)
    have B12 := Lib.hid b2
    clear b2
    go_wp2_with fail
    refine (HT2.out _ (HR.out.below B12.out)).mono ?_
    rintro e w3 ⟨rfl, b3⟩
    have B3 := Lib.hid (Below.step b3 B2.out.size B2.out)
    have B13 := Lib.hid (Below.step b3 B12.out.size B12.out)
    clear b3 B2 B12
    cases ht : treeB t
    · clear ht
      go_wp2_with (go_at_call 14; refine (alive_any _).mono ?_; rintro e w' ⟨rfl, rfl⟩)
      go_ret
      exact ⟨rfl, B3.out⟩
    · have hpos : 0 < t.length := by have := inB_iffL.1 (tree_all ht).1; omega
      have Hm := Lib.hid (fun v w h => treeI_of v (t ++ [zeroN]) w h (by simp; omega) (by
        have e : kidsOf (t ++ [zeroN]) = kidsOf t := by unfold kidsOf; rw [List.flatMap_append]; simp [zeroN]
        rw [e]; omega))
      have hbl : (kidsOf (t.set 0 { kth t 0 with fo := false })).length = (kidsOf t).length := by
        have := kidsLen_set { kth t 0 with fo := false } hpos
        have e : ({ kth t 0 with fo := false } : Nd).ks = (kth t 0).ks := rfl
        rw [e] at this
        omega
      have Hb := Lib.hid (fun v w h => treeI_of v (t.set 0 { kth t 0 with fo := false }) w h (by simp; omega) (by omega))
      rw [tree_more ht] at Hm
      rw [tree_bare hpos] at Hb
      have hcs : cs.length = t.length := Hcl.out
      have HS3 := Lib.hid (Hsl.out.below B13.out)
      have Hn3 := Lib.hid (fun i c x hc hx => (Hnr.out i c x hc hx).below B13.out)
      have hz3 := B3.out.size
      have hcs' : cs.length ≤ 20 := by omega
      have HR3 := Lib.hid (HR.out.below B13.out)
      clear ht hbl Hsl Hnr HR HT1 HT2
      go_wp2_with (at_builtin; refine wpList_appG fitEC _ rfl (.tmp 20) (.tmp 21) rfl w3.heap.size (.slice (some ⟨_, 0, none⟩) 0 0) [] rfl ?cO _ cs rfl ?cS ?cL ?cB ?_)
      case cO => exact ownG_empty _ rfl (Nat.le_refl _)
      case cS => exact HS3.out.below (Below.alloc (Below.refl _ _) (Nat.le_refl _) _)
      case cL => first | omega | (simp; omega)
      try (case cB => first | omega | (simp; done) | (simp; omega))
      intro v4 w4 ha4 hb4
      have hb34 := Below.step hb4 (Nat.le_refl _) (Below.alloc (Below.refl w3.heap.size w3) (Nat.le_refl _) (.cells #[] 30))
      obtain ⟨A4, c4, rfl, hA4⟩ := appG_some ha4
      obtain ⟨g, rfl⟩ := hA4.out
      have hc0 : cs[0]? = some cs[0] := List.getElem?_eq_getElem (by omega)
      have hown : OwnG EC 30 w3.heap.size w4 (.slice (some ⟨g, 0, none⟩) cs.length c4) cs := ha4.1
      obtain ⟨gx, _, ex, hgl, hcell⟩ := (ownG_sl hown).at_ hc0
      cases ex
      have k0 : w4.cell? ⟨g, 0, none⟩ = some (.bool cs[0].fo) := by have := hcell 0 _ rfl; simpa using this
      have f0 : w4.frozen? ⟨g, 0, none⟩ = false := hown.frozenAt _
      have hst := ownG_store (E := EC) (j := 0) (y := { cs[0] with fo := false }) (u := .bool false) hown hc0 (show 0 < EC.z from by decide) rfl
      obtain ⟨g2, eg2, hg3, _, _, hst⟩ := hst
      cases eg2
      have hst' : OwnG EC 30 w3.heap.size (w4.setCell ⟨g, 0, none⟩ (.bool false)) (.slice (some ⟨g, 0, none⟩) cs.length c4) (cs.set 0 { cs[0] with fo := false }) := by
        have h1 := hst
        rw [show 0 * EC.z + 0 = 0 from by rfl] at h1
        exact h1
      have Hst := Lib.hid hst'
      have Hb5 := Lib.hid (show Below w3.heap.size w3 (w4.setCell ⟨g, 0, none⟩ (.bool false)) from Below.setCell hb34 hg3 _)
      have hg4 : w3.heap.size ≤ w4.heap.size := hb34.size
      have hcp : (0 : Int) < (cs.length : Int) := by omega
      clear hst hst' hcell ha4 hown hb34 hb4 hA4 hc0
      have hle := hg4
      go_wp2_with (at_builtin; refine wpList_appG fitEC _ rfl (.tmp 26) (.tmp 27) rfl w4.heap.size (.slice (some ⟨_, 0, none⟩) 0 0) [] rfl ?dO _ cs rfl ?dS ?dL ?dB ?_)
      case dO => exact ownG_empty _ (by simp) (by simp)
      case dS => exact HS3.out.below (Below.alloc Hb5.out (by simp; omega) _)
      case dL => first | omega | (simp; omega)
      try (case dB => first | omega | (simp; done) | (simp; omega))
      intro v6 w6 ha6 hb6
      have hB6 : Below w3.heap.size w3 w6 := Below.trans (Below.alloc Hb5.out (by simp; omega) _) (Below.mono hb6 (by omega))
      have hz6 := hb6.size
      have hO6 := Lib.hid (show OwnG EC 30 w3.heap.size w6 (.slice (some ⟨g, 0, none⟩) cs.length c4) (cs.set 0 { cs[0] with fo := false }) from ownG_kept (ownG_alloc Hst.out _) ha6.2.1 (.inr (by intro e; have e' : some g = some w4.heap.size := e; injection e' with e'; omega)))
      obtain ⟨A6, c6, rfl, hA6⟩ := appG_some ha6
      obtain ⟨g6, rfl⟩ := hA6.out
      have hg6 := (ownG_block ha6.1 g6 rfl)
      have H6 := Lib.hid ha6.1
      have B6 := Lib.hid hB6
      have hz64 : w4.heap.size ≤ w6.heap.size := by simp at hz6; omega
      clear ha6 hb6 hB6 hz6
      go_wp2_with (at_builtin; refine wpList_appG fitEC _ rfl (.tmp 28) (.tmp 30) rfl w4.heap.size (.slice (some ⟨g6, 0, none⟩) cs.length c6) cs rfl ?eO _ [zeroC] rfl ?eS ?eL ?eB ?_)
      case eO => rw [← hcs]; exact ownG_alloc H6.out _
      case eS => exact slG_one (by simp) (by
        intro j u hu
        rcases j with _ | _ | _ | _ | _ | _ | _ | j <;> simp [EC, Cn.cells, zeroC] at hu <;> subst hu <;> first | (go_simp; done) | (go_simp; rfl))
      case eL => first | omega | (simp; omega)
      try (case eB => first | omega | (simp; done) | (simp; omega))
      intro v7 w7 ha7 hb7
      have hB7 : Below w3.heap.size w3 w7 := Below.trans (Below.alloc B6.out (by omega) _) (Below.mono hb7 (by omega))
      have hO7 := Lib.hid (show OwnG EC 30 w3.heap.size w7 (.slice (some ⟨g, 0, none⟩) cs.length c4) (cs.set 0 { cs[0] with fo := false }) from
        ownG_kept (ownG_alloc hO6.out _) ha7.2.1 (.inr (by intro e; have e' : some g = some g6 := e; injection e' with e'; omega)))
      have hR7 : TreeR w7 v7 (t ++ [zeroN]) := by
        refine ⟨cs ++ [zeroC], by simp [hcs], ownG_sl ha7.1, fun i c x hc hx => ?_⟩
        by_cases hi : i < cs.length
        · rw [List.getElem?_append_left hi] at hc
          rw [List.getElem?_append_left (by omega)] at hx
          exact (Hn3.out i c x hc hx).below hB7
        · rw [List.getElem?_append_right (by omega)] at hc hx
          have h0 : i - cs.length = 0 := by
            have := (List.getElem?_eq_some_iff.1 hc).1
            simp at this; omega
          rw [← hcs] at hx
          rw [h0] at hc hx
          simp at hc hx
          subst hc hx
          exact zero_r _
      have hbare : ∀ w8, Below w7.heap.size w7 w8 → TreeR w8 (.slice (some ⟨g, 0, none⟩) t.length c4) (t.set 0 { kth t 0 with fo := false }) := by
        intro w8 h8
        rw [← hcs]
        have hB8 : Below w3.heap.size w3 w8 := Below.step h8 hB7.size hB7
        refine ⟨_, by simp [hcs], ownG_sl (ownG_below hO7.out h8), fun i c x hc hx => ?_⟩
        by_cases hi : i = 0
        · subst hi
          rw [List.getElem?_set_self (by omega)] at hc hx
          injection hc with hc
          injection hx with hx
          subst hc hx
          have r := (Hn3.out 0 _ _ (List.getElem?_eq_getElem (by omega)) (kth_at hpos)).below hB8
          exact ⟨rfl, r.ow, r.gr, r.mo, r.tx, r.ns, r.ks, r.sz, r.nz⟩
        · rw [List.getElem?_set_ne (fun e => hi e.symm)] at hc hx
          exact (Hn3.out i c x hc hx).below hB8
      have HR7 := Lib.hid hR7
      have Hbare := Lib.hid hbare
      have B7 := Lib.hid (Below.step hB7 hz3 B3.out)
      obtain ⟨A7, c7, e7⟩ := ownG_shape ha7.1
      rw [show (cs ++ [zeroC]).length = t.length + 1 by simp [hcs]] at e7
      subst e7
      clear hR7 hbare ha7 hb7 hB7
      go_wp2_with fail
      refine (Hm.out _ _ HR7.out).mono ?_
      rintro e w8 ⟨rfl, b8⟩
      have B8 := Lib.hid (Below.step b8 B7.out.size B7.out)
      have HR8 := Lib.hid (Hbare.out _ b8)
      clear b8
      go_wp2_with fail
      refine (Hb.out _ _ HR8.out).mono ?_
      rintro e w9 ⟨rfl, b9⟩
      have B9 := Lib.hid (Below.step b9 B8.out.size B8.out)
      clear b9
      go_wp2
      go_ret
      exact ⟨rfl, B9.out⟩
end Go.Proofs.Ythcmecgmidopoaa
