/- Trees of the call's own: a node's names and kids are other rows now. -/
import Derived.Test.YtkennmpbmbacpaaGreatDoorMG
import Derived.Test.YtkennmpbmbacpaaGreatDoorSameTr
import Derived.Deep.QuietTactic
set_option linter.unusedSimpArgs false
set_option linter.unusedVariables false
set_option linter.unusedSectionVars false
namespace Go.Proofs.YtkennmpbmbacpaaGreatDoor
open Go.RowKit

/-- The slice v lies in the row that r names, or in a block that is new to w. -/
def NewIn (w : World) (r : Option Nat) (v : Value) : Prop := v.ownBlock = r ∨ ∃ j, v.ownBlock = some j ∧ w.heap.size ≤ j
theorem TreeC.rows {B : Nat} {w w1 w2 : World} {g n cap k N1 N2 c1 c2 : Nat} {A1 A2 : Option Addr} {cs : List Cn} {t : List Nd} {c : Cn} {N : List (List UInt8)} {K : List Int} (h : TreeC B w (.slice (some ⟨g, 0, none⟩) n cap) cs t) (hk : k < t.length) (hc : cs[k]? = some c)
    (o1 : OwnG EL 9 B w2 (.slice A1 N1 c1) N) (o2 : OwnG EI 3 B w2 (.slice A2 N2 c2) K) (g1 : w.grownBy w1 (nB c)) (g2 : w1.grownBy w2 (kB c)) (a1 : NewIn w (nB c) (.slice A1 N1 c1)) (a2 : NewIn w (kB c) (.slice A2 N2 c2)) (hN : ∀ z ∈ N, z.length ≤ 1048576) :
    ∃ cs', TreeC B ((w2.setCell ⟨g, k * 7 + 5, none⟩ (.slice A1 N1 c1)).setCell ⟨g, k * 7 + 6, none⟩ (.slice A2 N2 c2)) (.slice (some ⟨g, 0, none⟩) n cap) cs' (t.set k { kth t k with ns := N, ks := K }) := by
  have hn := h.nds k c _ hc (kth_at hk)
  have hlt : k < cs.length := by rw [h.len]; exact hk
  have hks1 : OwnG EI 3 B w1 (.slice c.kA c.kL c.kC) (kth t k).ks := ownG_kept hn.ks g1 (ownG_type hn.ks hn.ns (by decide))
  have hrow1 : OwnG EC 44 B w1 (.slice (some ⟨g, 0, none⟩) n cap) cs := ownG_kept h.row g1 (ownG_type h.row hn.ns (by decide))
  have hrow2 : OwnG EC 44 B w2 (.slice (some ⟨g, 0, none⟩) n cap) cs := ownG_kept hrow1 g2 (ownG_type hrow1 hks1 (by decide))
  have hgs := Lib.grownBy_setB (Lib.grownBy_setB (World.grownBy.refl w2 (some g)) (k * 7 + 5) (.slice A1 N1 c1)) (k * 7 + 6) (.slice A2 N2 c2)
  obtain ⟨g', e, _, _, _, h5⟩ := ownG_store hrow2 hc (j := 5) (y := { c with nA := A1, nL := N1, nC := c1 }) (u := .slice A1 N1 c1) (by decide) rfl
  cases e
  obtain ⟨g', e, _, _, _, h6⟩ := ownG_store h5 (List.getElem?_set_self hlt) (j := 6) (y := { c with nA := A1, nL := N1, nC := c1, kA := A2, kL := N2, kC := c2 }) (u := .slice A2 N2 c2) (by decide) rfl
  cases e
  rw [List.set_set] at h6
  have newN : ∀ (j : Nat) d, k ≠ j → cs[j]? = some d → Sep ((Value.slice A1 N1 c1).ownBlock) (nB d) := by
    intro j d hkj hd
    have hj : j < t.length := by rw [← h.len]; exact (List.getElem?_eq_some_iff.1 hd).1
    rcases a1 with h3 | ⟨b, h3, h4⟩
    · rw [h3]; exact (h.sep k j c d hc hd hkj).1
    · rw [h3]
      refine .inr fun e => ?_
      have := (ownG_block (h.nds j d _ hd (kth_at hj)).ns _ e.symm).2
      omega
  have newK : ∀ (j : Nat) d, k ≠ j → cs[j]? = some d → Sep ((Value.slice A2 N2 c2).ownBlock) (kB d) := by
    intro j d hkj hd
    have hj : j < t.length := by rw [← h.len]; exact (List.getElem?_eq_some_iff.1 hd).1
    rcases a2 with h3 | ⟨b, h3, h4⟩
    · rw [h3]; exact (h.sep k j c d hc hd hkj).2
    · rw [h3]
      refine .inr fun e => ?_
      have := (ownG_block (h.nds j d _ hd (kth_at hj)).ks _ e.symm).2
      omega
  refine ⟨_, by simp [h.len], h6, fun i d y hd hy => ?_, fun i j d e hd he hij => ?_⟩
  · by_cases hi : k = i
    · subst hi
      rw [List.getElem?_set_self hlt] at hd
      rw [List.getElem?_set_self hk] at hy
      injection hd with hd
      injection hy with hy
      subst hd hy
      exact ⟨hn.fo, hn.ow, hn.gr, hn.mo, hn.tx, ownG_kept o1 hgs (ownG_type o1 hrow2 (by decide)), ownG_kept o2 hgs (ownG_type o2 hrow2 (by decide)), hn.sz, hN⟩
    · rw [List.getElem?_set_ne hi] at hd hy
      have hd0 := h.nds i d y hd hy
      have hd1 := hd0.kept g1 (h.sep i k d c hd hc (fun e => hi e.symm)).1 (ownG_type hd0.ks hn.ns (by decide))
      exact (hd1.kept g2 (ownG_type hd1.ns hks1 (by decide)) (h.sep i k d c hd hc (fun e => hi e.symm)).2).keptR hrow2 hgs
  · by_cases hi : k = i
    · subst hi
      rw [List.getElem?_set_self hlt] at hd
      injection hd with hd
      subst hd
      rw [List.getElem?_set_ne hij] at he
      exact ⟨newN j e hij he, newK j e hij he⟩
    · rw [List.getElem?_set_ne hi] at hd
      by_cases hj : k = j
      · subst hj
        rw [List.getElem?_set_self hlt] at he
        injection he with he
        subst he
        exact ⟨(newN i d hi hd).symm, (newK i d hi hd).symm⟩
      · rw [List.getElem?_set_ne hj] at he
        exact h.sep i j d e hd he hij
set_option maxRecDepth 100000 in
set_option maxHeartbeats 20000000 in
/-- The laws' comparison of trees of one node, at two that differ in the names. -/
theorem sameTree_diff (u v : Value) (x : Nd) (N : List (List UInt8)) (K : List Int) (w : World) (hu : TreeR w u [x]) (hv : TreeR w v [{ x with ns := N, ks := K }]) (hne : ¬ x.ns = N) : Calls Tryz.prog 13 #[u, v] w (QuietB w false) := by
  obtain ⟨A, cap, rfl⟩ := hu.shape
  obtain ⟨B, cap', rfl⟩ := hv.shape
  have hcap := hu.caps
  have hcap' := hv.caps
  obtain ⟨bt, ot, nA, nC, kA, kC, rfl, hbt, hS, x0, x1, x2, x3, x4, x5, x6⟩ := hu.at_ (k := 0) (x := x) rfl
  obtain ⟨bu, ou, mA, mC, lA, lC, rfl, hbu, hS2, y0, y1, y2, y3, y4, y5, y6⟩ := hv.at_ (k := 0) (x := { x with ns := N, ks := K }) rfl
  have HT := Lib.hid (fun n => by
    have h := sameTexts_of (.slice nA x.ns.length nC) (.slice mA N.length mC) x.ns N (w.drewN n) (hS.ns.below (below_drewN (Below.refl _ _) _)) (hS2.ns.below (below_drewN (Below.refl _ _) _))
    rw [decide_eq_false hne] at h
    exact h)
  rw [Nat.zero_mul, Nat.add_zero] at x0 x1 x2 x3 x4 x5 x6 y0 y1 y2 y3 y4 y5 y6
  show Calls Tryz.prog 13 #[.slice (some ⟨bt, ot, none⟩) 1 cap, .slice (some ⟨bu, ou, none⟩) 1 cap'] w (QuietB w false)
  replace hcap : 1 ≤ cap ∧ cap ≤ 9223372036854775807 := hcap
  replace hcap' : 1 ≤ cap' ∧ cap' ≤ 9223372036854775807 := hcap'
  replace y0 : w.cell? ⟨bu, ou, none⟩ = some (.bool x.fo) := y0
  replace y1 : w.cell? ⟨bu, ou + 1, none⟩ = some (.int .i64 x.ow) := y1
  replace y2 : w.cell? ⟨bu, ou + 2, none⟩ = some (.int .i64 x.gr) := y2
  replace y3 : w.cell? ⟨bu, ou + 3, none⟩ = some (.int .i64 x.mo) := y3
  replace y4 : w.cell? ⟨bu, ou + 4, none⟩ = some (.string x.tx) := y4
  replace y5 : w.cell? ⟨bu, ou + 5, none⟩ = some (.slice mA N.length mC) := y5
  replace y6 : w.cell? ⟨bu, ou + 6, none⟩ = some (.slice lA K.length lC) := y6
  clear hS hS2 hu hv hne
  go_enter Tryz.func13, Tryz.ntmps13
  go_wp2
  go_loopw [5] (fun i wr => i = .int .i64 0 ∧ wr = w) (fun i _ => 0)
  case atStart => exact ⟨rfl, rfl⟩
  case round =>
    obtain ⟨rfl, rfl⟩ := hrel
    go_wp2_with fail
    refine wp_region_quiet_lit (by kernel_rfl) (lex_of (by kernel_rfl) (by kernel_rfl)) ?_
    dsimp only [List.append]
    repeat (go_big_quiet_step ((first | (go_at_call 48; exact quietB_free (HT.out _)))))
    refine wpQuiet_nil ?_
    intro _ hw'
    obtain ⟨nq, hw''⟩ := hw'
    subst hw''
    go_wp2
    go_ret
    exact ⟨rfl, _, rfl⟩
end Go.Proofs.YtkennmpbmbacpaaGreatDoor
