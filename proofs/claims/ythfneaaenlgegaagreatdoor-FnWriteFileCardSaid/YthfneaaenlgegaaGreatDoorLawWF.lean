/- The drawn law on WriteFile: the walk. -/
import Derived.Test.YthfneaaenlgegaaGreatDoorDrawWF
import Derived.Test.YthfneaaenlgegaaGreatDoorWriteI
import Derived.Test.YthfneaaenlgegaaGreatDoorWriteP
import Derived.Test.YthfneaaenlgegaaGreatDoorFile3
import Derived.Test.YthfneaaenlgegaaGreatDoorSameTr
import Derived.Test.YthfneaaenlgegaaGreatDoorMH
import Derived.Deep.Cut
import Derived.Deep.CutRange
set_option linter.unusedSimpArgs false
set_option linter.unusedVariables false
set_option linter.unusedSectionVars false
namespace Go.Proofs.YthfneaaenlgegaaGreatDoor
open Go.RowKit

/-- A row that is a tree's but for one node's cells, in a later world. -/
theorem set_tree {w w5 : World} {v : Value} {cs : List Cn} {t : List Nd} {m : Nat} {c2 : Cn} {y2 : Nd} (hl : cs.length = t.length) (hn : ∀ (i : Nat) c x, cs[i]? = some c → t[i]? = some x → NdR w5 c x) (hs : SlG EC w v (cs.set m c2)) (hb : Below w5.heap.size w5 w) (h2 : NdR w5 c2 y2) : TreeR w v (t.set m y2) := by
  refine ⟨_, by rw [List.length_set, List.length_set, hl], hs, fun i c x hc hx => ?_⟩
  by_cases hi : m = i
  · subst hi
    have h1 := (List.getElem?_eq_some_iff.1 hc).1
    rw [List.length_set] at h1
    rw [List.getElem?_set_self h1] at hc
    rw [List.getElem?_set_self (by omega)] at hx
    cases hc; cases hx
    exact h2.below hb
  · rw [List.getElem?_set_ne hi] at hc hx
    exact (hn i c x hc hx).below hb
theorem text_back {t : List Nd} {m : Nat} {X : ByteArray} (h : m < t.length) : (t.set m (txN (kth t m) X)).set m (txN (txN (kth t m) X) (kth t m).tx) = t := by
  rw [List.set_set]
  apply List.ext_getElem?
  intro i
  rw [List.getElem?_set]
  split
  · next e => subst e; first | (rw [if_pos h, kth_at h]; rfl) | (rw [kth_at h]; rfl)
  · rfl
set_option maxRecDepth 100000 in
set_option maxHeartbeats 8000000 in
theorem walkFnWriteFile (a : Option Addr) (len cap : Nat) (zs : List Int) (w : World) (hsh : w.ShapedOpen Tryz.prog) (hrow : IsRow .u8 w a len cap zs) :
    Calls Tryz.prog 6 #[.slice a len cap] w fun e w' => e = .returned (.bool true) ∧ Below w.heap.size w w' := by
  obtain ⟨hl1, hl2⟩ := hrow.len_le
  unfold maxLen at hl2
  by_cases hbig : (1048576 : Int) < (len : Int)
  · go_enter Tryz.func6, Tryz.ntmps6
    go_wp2
    go_ret
    exact ⟨rfl, Below.refl _ _⟩
  · have hm0 := maxL_of hsh
    go_enter Tryz.func6, Tryz.ntmps6
    go_wp2_with fail
    refine (drawWF_any a len cap zs _ hrow).mono ?_
    rintro e w1 ⟨v, t, a0, b0, c0, d0, S, X, rfl, hR0, hn, hk, hs, hX41, b1⟩
    have hR := hR0.r
    clear hR0
    have HM := Lib.hid (hm0.below b1)
    obtain ⟨A, cp, rfl⟩ := hR.shape
    have hcp := hR.caps
    have HR := Lib.hid hR
    have B1 := Lib.hid b1
    have hI := fun w hm h => writeI_of (.slice A t.length cp) t a0 b0 c0 d0 S X w hm h (by omega) (by omega) (by omega)
    have hS := fun w h => writeS_of (.slice A t.length cp) t a0 b0 c0 d0 S X w h (by omega) (by omega) (by omega)
    have hJ := fun w hm h => findI_of (.slice A t.length cp) t a0 b0 c0 d0 S w hm h (by omega) (by omega) (by omega)
    have hV := fun t' (h1 : t'.length ≤ 1000) (h2 : (kidsOf t').length ≤ 1000000) v w h => treeI_of v t' w h h1 h2
    have hRd := fun t' (h1 : t'.length ≤ 1000) (h2 : (kidsOf t').length ≤ 1000000) v w hm h => readI_of v t' 0 0 0 0 S w hm h h1 h2 (by omega)
    generalize S.data.toList = s at hI hS hJ hRd
    obtain ⟨htl, hcs⟩ := write_cases t a0 b0 c0 d0 s X
    have hrw := fun m : Nat => @read_written t a0 b0 c0 d0 s X m
    have hrg := @findF_range t a0 b0 c0 d0 s
    generalize writeF t a0 b0 c0 d0 s X = M at hI hS hcs htl
    generalize findF t a0 b0 c0 d0 s = G at hJ hcs hrg hrw
    obtain ⟨t', fm⟩ := M
    obtain ⟨n, f⟩ := G
    simp only at hI hS hJ hcs hrg htl hrw
    have HRd := Lib.hid hRd
    have Hrw := Lib.hid hrw
    have HI := Lib.hid hI
    have HS := Lib.hid hS
    have HJ := Lib.hid hJ
    have HV := Lib.hid hV
    have Hrg := Lib.hid hrg
    have Hcs := Lib.hid hcs
    have Htl := Lib.hid htl
    clear hR b1 hm0 hI hS hJ hs hV hrg hcs htl hRd hrw
    go_wp2_with fail
    refine (HI.out _ (HM.out.below (by (repeat (first | exact Below.refl _ _ | exact Hbl.out | refine Below.ext ?_ (by first | omega | (simp; omega) | simp) | refine Below.setCell ?_ (by first | omega | (simp; omega) | simp) _ | refine Below.alloc ?_ (by first | omega | (simp; omega) | simp) _ | refine Below.drew ?_ | refine below_drewN ?_ _ | refine Below.step (by assumption) (by first | omega | (simp; omega) | simp) ?_)))) (HR.out.below (by (repeat (first | exact Below.refl _ _ | exact Hbl.out | refine Below.ext ?_ (by first | omega | (simp; omega) | simp) | refine Below.setCell ?_ (by first | omega | (simp; omega) | simp) _ | refine Below.alloc ?_ (by first | omega | (simp; omega) | simp) _ | refine Below.drew ?_ | refine below_drewN ?_ _ | refine Below.step (by assumption) (by first | omega | (simp; omega) | simp) ?_))))).mono ?_
    rintro e w2 ⟨x, cs, rfl, hX, b2⟩
    have p0 : w2.cell? ⟨w1.heap.size, 0, none⟩ = some (.int .i64 a0) := (b2.cell (p := ⟨w1.heap.size, 0, none⟩) (by first | (simp; done) | (simp; omega) | omega)).trans (by first | assumption | go_simp)
    have p1 : w2.cell? ⟨w1.heap.size, 1, none⟩ = some (.int .i64 b0) := (b2.cell (p := ⟨w1.heap.size, 1, none⟩) (by first | (simp; done) | (simp; omega) | omega)).trans (by first | assumption | go_simp)
    have p2 : w2.cell? ⟨w1.heap.size, 2, none⟩ = some (.int .i64 c0) := (b2.cell (p := ⟨w1.heap.size, 2, none⟩) (by first | (simp; done) | (simp; omega) | omega)).trans (by first | assumption | go_simp)
    have p3 : w2.cell? ⟨w1.heap.size, 3, none⟩ = some (.int .i64 d0) := (b2.cell (p := ⟨w1.heap.size, 3, none⟩) (by first | (simp; done) | (simp; omega) | omega)).trans (by first | assumption | go_simp)
    have hz2 : w1.heap.size < w2.heap.size := by have := b2.size; simp at this; omega
    have B2 := Lib.hid (Below.step b2 (by simp) (show Below w1.heap.size w1 _ from (by (repeat (first | exact Below.refl _ _ | exact Hbl.out | refine Below.ext ?_ (by first | omega | (simp; omega) | simp) | refine Below.setCell ?_ (by first | omega | (simp; omega) | simp) _ | refine Below.alloc ?_ (by first | omega | (simp; omega) | simp) _ | refine Below.drew ?_ | refine below_drewN ?_ _ | refine Below.step (by assumption) (by first | omega | (simp; omega) | simp) ?_)))))
    have HX := Lib.hid hX
    obtain ⟨Ax, cx, rfl⟩ := TreeO.shape ⟨cs, hX⟩
    clear b2 hX
    go_wp2_with fail
    refine (HS.out _ (HR.out.below B2.out)).mono ?_
    rintro e w3 ⟨y, cs3, rfl, hY, b3⟩
    have q0 : w3.cell? ⟨w1.heap.size, 0, none⟩ = some (.int .i64 a0) := (b3.cell (p := ⟨w1.heap.size, 0, none⟩) (by first | (simp; done) | (simp; omega) | omega)).trans (by first | assumption | go_simp)
    have q1 : w3.cell? ⟨w1.heap.size, 1, none⟩ = some (.int .i64 b0) := (b3.cell (p := ⟨w1.heap.size, 1, none⟩) (by first | (simp; done) | (simp; omega) | omega)).trans (by first | assumption | go_simp)
    have q2 : w3.cell? ⟨w1.heap.size, 2, none⟩ = some (.int .i64 c0) := (b3.cell (p := ⟨w1.heap.size, 2, none⟩) (by first | (simp; done) | (simp; omega) | omega)).trans (by first | assumption | go_simp)
    have q3 : w3.cell? ⟨w1.heap.size, 3, none⟩ = some (.int .i64 d0) := (b3.cell (p := ⟨w1.heap.size, 3, none⟩) (by first | (simp; done) | (simp; omega) | omega)).trans (by first | assumption | go_simp)
    have hz3 : w1.heap.size < w3.heap.size := by have := b3.size; omega
    have B3 := Lib.hid (Below.step b3 B2.out.size B2.out)
    have HX3 := Lib.hid (HX.out.below b3)
    obtain ⟨Ay, cy, rfl⟩ := TreeO.shape ⟨cs3, hY⟩
    have hsm := sameTree_of _ _ t' w3 (TreeO.r ⟨_, HX3.out⟩) (TreeO.r ⟨_, hY⟩) (by have := Htl.out; omega)
    have Hsm := Lib.hid hsm
    clear b3 hY B2 HX HI HS p0 p1 p2 p3 hsm
    go_wp2_with fail
    refine Hsm.out.mono ?_
    rintro e w4 ⟨rfl, nd, hw4⟩
    have hd4 : Below w3.heap.size w3 w4 := by rw [hw4]; exact below_drewN (Below.refl _ _) _
    clear hw4
    have r0 : w4.cell? ⟨w1.heap.size, 0, none⟩ = some (.int .i64 a0) := (hd4.cell (p := ⟨w1.heap.size, 0, none⟩) (by first | (simp; done) | (simp; omega) | omega)).trans (by first | assumption | go_simp)
    have r1 : w4.cell? ⟨w1.heap.size, 1, none⟩ = some (.int .i64 b0) := (hd4.cell (p := ⟨w1.heap.size, 1, none⟩) (by first | (simp; done) | (simp; omega) | omega)).trans (by first | assumption | go_simp)
    have r2 : w4.cell? ⟨w1.heap.size, 2, none⟩ = some (.int .i64 c0) := (hd4.cell (p := ⟨w1.heap.size, 2, none⟩) (by first | (simp; done) | (simp; omega) | omega)).trans (by first | assumption | go_simp)
    have r3 : w4.cell? ⟨w1.heap.size, 3, none⟩ = some (.int .i64 d0) := (hd4.cell (p := ⟨w1.heap.size, 3, none⟩) (by first | (simp; done) | (simp; omega) | omega)).trans (by first | assumption | go_simp)
    have B4 := Lib.hid (Below.step hd4 B3.out.size B3.out)
    have B4w := Lib.hid (Below.step B4.out B1.out.size B1.out)
    have HX4 := Lib.hid (HX3.out.below hd4)
    have hz4 : w1.heap.size < w4.heap.size := by have := hd4.size; omega
    clear hd4 Hsm B3 HX3 q0 q1 q2 q3
    rcases Hcs.out with ⟨e1, e2⟩ | ⟨e1, e2, e3, e4, e5⟩
    · subst e2
      have d1 : (fm != 0) = true := by simpa using e1
      clear Hcs Htl Hrg HX4 HV HRd Hrw
      go_wp2_with (go_at_call 11; refine (alive_any _).mono ?_; rintro e w' ⟨rfl, rfl⟩)
      go_ret
      exact ⟨rfl, B4w.out⟩
    · subst e1 e2
      obtain ⟨g1, g2, _, g4, g5⟩ := Hrg.out rfl
      obtain ⟨m, rfl⟩ : ∃ m : Nat, n = (m : Int) := ⟨n.toNat, by omega⟩
      have hm : m < t.length := by omega
      have hm' : (m : Int) < (t.length : Int) := by omega
      rw [Int.toNat_natCast] at e4 e5
      clear Hcs Htl Hrg
      subst e5
      obtain ⟨htb, hkk⟩ := head_tree g1 hm (y := txN (kth t m) X) rfl rfl rfl (write_head (nodeB_iff.1 (tree_node g1 hm)).1 e4 e3)
      have hV := fun v w h => HV.out (t.set m (txN (kth t m) X)) (by rw [List.length_set]; omega) (by omega) v w h
      have hRd := fun v w hm h => HRd.out (t.set m (txN (kth t m) X)) (by rw [List.length_set]; omega) (by omega) v w hm h
      rw [Hrw.out m rfl rfl hm e4 htb] at hRd
      have HRd' := Lib.hid hRd
      rw [htb] at hV
      have HV' := Lib.hid hV
      have hback := text_back (X := X) hm
      have hkx : kth (t.set m (txN (kth t m) X)) m = txN (kth t m) X := by
        have := kth_set (ex := []) (y := txN (kth t m) X) hm hm
        rwa [List.append_nil, if_pos rfl] at this
      have hX4 := HX4.out
      rw [List.length_set] at hX4 ⊢
      have HX4' := Lib.hid hX4
      obtain ⟨t', ht'⟩ : ∃ t', t' = t.set m (txN (kth t m) X) := ⟨_, rfl⟩
      have hl' : t'.length = t.length := by rw [ht', List.length_set]
      rw [← ht'] at hback hkx HX4' HV' HRd'
      have Hback := Lib.hid hback
      have Hkx := Lib.hid hkx
      have Hl' := Lib.hid hl'
      clear hX4 HX4 hV HV hback hkx hl' ht' htb hkk g1 g2 g4 g5 e3 e4 hRd HRd Hrw
      go_wp2_with fail
      refine (HJ.out _ (HM.out.below B4.out) (HR.out.below B4.out)).mono ?_
      rintro e w5 ⟨rfl, b5⟩
      have p0 : w5.cell? ⟨w1.heap.size, 0, none⟩ = some (.int .i64 a0) := (b5.cell (p := ⟨w1.heap.size, 0, none⟩) (by first | (simp; done) | (simp; omega) | omega)).trans (by first | assumption | go_simp)
      have p1 : w5.cell? ⟨w1.heap.size, 1, none⟩ = some (.int .i64 b0) := (b5.cell (p := ⟨w1.heap.size, 1, none⟩) (by first | (simp; done) | (simp; omega) | omega)).trans (by first | assumption | go_simp)
      have p2 : w5.cell? ⟨w1.heap.size, 2, none⟩ = some (.int .i64 c0) := (b5.cell (p := ⟨w1.heap.size, 2, none⟩) (by first | (simp; done) | (simp; omega) | omega)).trans (by first | assumption | go_simp)
      have p3 : w5.cell? ⟨w1.heap.size, 3, none⟩ = some (.int .i64 d0) := (b5.cell (p := ⟨w1.heap.size, 3, none⟩) (by first | (simp; done) | (simp; omega) | omega)).trans (by first | assumption | go_simp)
      have hz5 : w1.heap.size < w5.heap.size := by have := b5.size; omega
      have B5 := Lib.hid (Below.step b5 B4.out.size B4.out)
      have B5w := Lib.hid (Below.step B5.out B1.out.size B1.out)
      have HX5 := Lib.hid (HX4'.out.below b5)
      have hlc := HX5.out.len
      rw [Hl'.out] at hlc
      have Hlc := Lib.hid hlc
      obtain ⟨bt, ot, nA, nC, kA, kC, rfl, hbt, hns, y0, y1, y2, y3, y4, _⟩ := (HR.out.below B5.out).at_ (kth_at hm)
      have hsz := hns.sz
      have hS5 := ownG_sl HX5.out.row
      have hn5 := fun i c x hc hx => (HX5.out.nds i c x hc hx).r
      have hmc : m < cs.length := by omega
      have hcm : cs[m]? = some (cs[m]'hmc) := List.getElem?_eq_getElem hmc
      obtain ⟨gx, cc, rfl, hgx, hgx', _, hnm, _, q0, q1, q2, q3, q4, _⟩ := HX5.out.at_ (k := m) (by rw [Hl'.out]; exact hm)
      rw [Hkx.out] at q4 hnm
      have x4 : w5.cell? ⟨gx, m * 7 + 4, none⟩ = some (.string X) := q4
      have HS5 := Lib.hid hS5
      have Hn5 := Lib.hid hn5
      have hge : ¬ t.length ≤ m := by omega
      have hm0 : decide ((m : Int) < 0) = false := decide_eq_false (by omega)
      have hcl : cs.length ≤ 20 := by omega
      have r2 := hn5 m _ _ hcm (kth_at (by rw [Hl'.out]; exact hm))
      rw [Hkx.out] at r2
      have Hr2 := Lib.hid r2
      clear b5 B4 HX4' q0 q1 q2 q3 q4 hnm hns hS5 hn5 r2 r0 r1 r3 B4w hlc
      have HRx := Lib.hid (TreeO.r ⟨_, HX5.out⟩)
      have HM5 := Lib.hid (HM.out.below B5.out)
      clear y0 y1 y2 y3 p0 p1 p2 p3
      go_wp2_with fail
      refine (HRd'.out _ _ HM5.out HRx.out).mono ?_
      rintro e w6 ⟨rfl, hbd⟩
      have HBd := Lib.hid hbd
      have HS6 := Lib.hid (HS5.out.below hbd)
      have y46 : w6.cell? ⟨bt, ot + m * 7 + 4, none⟩ = some (.string (kth t m).tx) := (hbd.cell (p := ⟨bt, ot + m * 7 + 4, none⟩) hbt).trans y4
      have hbt6 : bt < w6.heap.size := Nat.lt_of_lt_of_le hbt hbd.size
      clear hbd y4 x4
      go_wp2_with (at_builtin; refine wpList_appG fitEC _ rfl (.tmp 96) (.tmp 97) rfl w6.heap.size (.slice (some ⟨_, 0, none⟩) 0 0) [] rfl ?cO _ cs rfl ?cS ?cL ?cB ?_)
      case cO => exact ownG_empty _ rfl (Nat.le_refl _)
      case cS => exact HS6.out.below (Below.alloc (Below.refl _ _) (Nat.le_refl _) _)
      case cL => first | omega | (simp; omega)
      try (case cB => first | omega | (simp; done) | (simp; omega))
      intro v7 w7 ha7 hb7
      have hb67 := Below.step hb7 (Nat.le_refl _) (Below.alloc (Below.refl w6.heap.size w6) (Nat.le_refl _) (.cells #[] 37))
      obtain ⟨A7, c7, rfl, hA7⟩ := appG_some ha7
      obtain ⟨g, rfl⟩ := hA7.out
      have h7 : OwnG EC 37 w6.heap.size w7 (.slice (some ⟨g, 0, none⟩) cs.length c7) cs := ha7.1
      obtain ⟨gy, _, ex, hgl, hcell⟩ := (ownG_sl h7).at_ hcm
      cases ex
      have k0 : w7.cell? ⟨g, m * 7 + 4, none⟩ = some (.string (cs[m]'hmc).tx) := by have := hcell 4 _ rfl; simpa [EC] using this
      have f0 : w7.frozen? ⟨g, m * 7 + 4, none⟩ = false := by
        have h1 := h7
        unfold OwnG at h1
        exact h1.frozenAt _
      obtain ⟨g2, eg2, hg3, _, _, hst⟩ := ownG_store (E := EC) (j := 4) (y := { (cs[m]'hmc) with tx := (kth t m).tx }) (u := .string (kth t m).tx) h7 hcm (show 4 < EC.z from by decide) rfl
      cases eg2
      have hB8 : Below w6.heap.size w6 (w7.setCell ⟨g, m * 7 + 4, none⟩ (.string (kth t m).tx)) := Below.setCell hb67 hg3 _
      have y47 : w7.cell? ⟨bt, ot + m * 7 + 4, none⟩ = some (.string (kth t m).tx) := (hb67.cell (p := ⟨bt, ot + m * 7 + 4, none⟩) hbt6).trans y46
      have hB58 := Below.step hB8 HBd.out.size HBd.out
      have hbk := set_tree (m := m) (c2 := { (cs[m]'hmc) with tx := (kth t m).tx }) (y2 := txN (txN (kth t m) X) (kth t m).tx) HX5.out.len Hn5.out (ownG_sl hst) hB58 (by
        have r2 := Hr2.out
        exact ⟨r2.fo, r2.ow, r2.gr, r2.mo, rfl, r2.ns, r2.ks, hsz, r2.nz⟩)
      rw [Hback.out] at hbk
      have Hbk := Lib.hid hbk
      have HRx8 := Lib.hid (HRx.out.below hB58)
      have HR8 := Lib.hid ((HR.out.below B5.out).below hB58)
      have hz7 : g < w7.heap.size := hgl
      have B8w := Lib.hid (Below.step hB58 B5w.out.size B5w.out)
      clear ha7 hb7 hb67 hA7 h7 hcell hst hB8 hB58 hbk y46 hcm hgl
      go_wp2_with fail
      refine (HV'.out _ _ HRx8.out).mono ?_
      rintro e w9 ⟨rfl, b9⟩
      have Hsm2 := Lib.hid (sameTree_of _ _ t w9 (Hbk.out.below b9) (HR8.out.below b9) (by omega))
      have B9w := Lib.hid (Below.step b9 B8w.out.size B8w.out)
      clear b9
      go_wp2_with fail
      refine Hsm2.out.mono ?_
      rintro e w10 ⟨rfl, nd, rfl⟩
      go_wp2
      go_ret
      exact ⟨rfl, Below.step (below_drewN (Below.refl _ _) _) B9w.out.size B9w.out⟩
end Go.Proofs.YthfneaaenlgegaaGreatDoor
