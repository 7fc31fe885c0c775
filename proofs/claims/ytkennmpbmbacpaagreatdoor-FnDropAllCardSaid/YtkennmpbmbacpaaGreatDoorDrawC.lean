/- What is drawn: credentials, paths in a tree, new paths. -/
import Derived.Test.YtkennmpbmbacpaaGreatDoorMG
import Derived.Test.YtkennmpbmbacpaaGreatDoorSel12
import Derived.Test.YtkennmpbmbacpaaGreatDoorME
import Derived.Deep.RegionHeld3
set_option linter.unusedSimpArgs false
set_option linter.unusedVariables false
set_option linter.unusedSectionVars false
namespace Go.Proofs.YtkennmpbmbacpaaGreatDoor
open Go.RowKit

/-- A credential. -/
def CredV (v : Value) : Prop := ∃ a b c d : Int, v = .agg #[.int .i64 a, .int .i64 b, .int .i64 c, .int .i64 d]
set_option maxRecDepth 100000 in
set_option maxHeartbeats 8000000 in
theorem l20Cred_any (R : Nat) (p n : Int) (w : World) (hr : Rd w R p) (hp : p ≤ 1000000) (hn : 1 ≤ n) (hn' : n ≤ 1000) : Calls Tryz.prog 60 #[.pointer (some ⟨R, 0, none⟩), .int .i64 n] w (Drew w R p 10 CredV) := by
  have hR := hr.lt
  have hp0 := hr.pos
  go_enter Tryz.func60, Tryz.ntmps60
  go_wp2_with fail
  refine (l20User_any R p _ ?_ (by omega)).mono ?_
  · (repeat (first | assumption | refine Rd.ext ?_ | refine Rd.drew ?_ | refine Rd.drewN ?_ | refine Rd.set (by assumption) ?_ | refine Rd.lit (by assumption) (by simp) ?_ | refine Rd.alloc ?_ _ | omega))
  rintro e w' ⟨u, d0, os0, rfl, u0, u1, rfl⟩
  (go_wp2_with fail); refine (pick_any _ ?_ _ _ ?_ ?_).mono ?_; rotate_left; (focus ((repeat (first | assumption | refine Rd.ext ?_ | refine Rd.drew ?_ | refine Rd.drewN ?_ | refine Rd.set (by assumption) ?_ | refine Rd.lit (by assumption) (by simp) ?_ | refine Rd.alloc ?_ _ | omega)))); (focus omega); rintro e w' ⟨g, dg, rfl, lg, hg, h2, rfl⟩; replace hg := hg (by omega); clear h2
  (go_wp2_with fail); refine (pick_any _ ?_ _ _ ?_ ?_).mono ?_; rotate_left; (focus ((repeat (first | assumption | refine Rd.ext ?_ | refine Rd.drew ?_ | refine Rd.drewN ?_ | refine Rd.set (by assumption) ?_ | refine Rd.lit (by assumption) (by simp) ?_ | refine Rd.alloc ?_ _ | omega)))); (focus omega); rintro e w' ⟨k, dk, rfl, lk, hk, h2, rfl⟩; replace hk := hk (by omega); clear h2
  (go_wp2_with fail); refine (pick_any _ ?_ _ _ ?_ ?_).mono ?_; rotate_left; (focus ((repeat (first | assumption | refine Rd.ext ?_ | refine Rd.drew ?_ | refine Rd.drewN ?_ | refine Rd.set (by assumption) ?_ | refine Rd.lit (by assumption) (by simp) ?_ | refine Rd.alloc ?_ _ | omega)))); (focus omega); rintro e w' ⟨m, dm, rfl, lm, hm, h2, rfl⟩; replace hm := hm (by omega); clear h2
  by_cases hm : m = 0
  · subst hm
    go_wp2_with fail
    refine (l20User_any R (p + 1 + 1 + 1 + 1) _ ?_ (by omega)).mono ?_
    · (repeat (first | assumption | refine Rd.ext ?_ | refine Rd.drew ?_ | refine Rd.drewN ?_ | refine Rd.set (by assumption) ?_ | refine Rd.lit (by assumption) (by simp) ?_ | refine Rd.alloc ?_ _ | omega))
    rintro e w' ⟨x, d1, os1, rfl, x0, x1, rfl⟩
    go_wp2_with fail
    refine (l20User_any R (p + 1 + 1 + 1 + 1 + 1) _ ?_ (by omega)).mono ?_
    · (repeat (first | assumption | refine Rd.ext ?_ | refine Rd.drew ?_ | refine Rd.drewN ?_ | refine Rd.set (by assumption) ?_ | refine Rd.lit (by assumption) (by simp) ?_ | refine Rd.alloc ?_ _ | omega))
    rintro e w' ⟨y, d2, os2, rfl, y0, y1, rfl⟩
    go_wp2_with (go_at_call 63; refine (odd_any _ ?_ _ _ ?_ ?_ ?_ ?_).mono ?_; rotate_left; (focus ((repeat (first | assumption | refine Rd.ext ?_ | refine Rd.drew ?_ | refine Rd.drewN ?_ | refine Rd.set (by assumption) ?_ | refine Rd.lit (by assumption) (by simp) ?_ | refine Rd.alloc ?_ _ | omega)))); (focus omega); (focus omega); (focus omega); rintro e w' ⟨b, d, rfl, rfl⟩)
    · refine (pick_any _ ?_ _ _ ?_ ?_).mono ?_; rotate_left; (focus ((repeat (first | assumption | refine Rd.ext ?_ | refine Rd.drew ?_ | refine Rd.drewN ?_ | refine Rd.set (by assumption) ?_ | refine Rd.lit (by assumption) (by simp) ?_ | refine Rd.alloc ?_ _ | omega)))); (focus omega); rintro e w' ⟨z, dz, rfl, lz, hz, h2, rfl⟩; replace hz := hz (by omega); clear h2
      have hz : z = 0 ∨ z = 1 ∨ z = 2 ∨ z = 3 := by omega
      rcases hz with rfl | rfl | rfl | rfl
      all_goals
        go_wp2
        simp [bodyPost, results, Tryz.results60, go_sem]
        exact Drew.mk (p + 1 + 1 + 1 + 1 + 1 + 1 + 1 + 1) (by (repeat (first | exact Below.refl _ _ | exact Hbl.out | refine Below.ext ?_ (by first | omega | (simp; omega) | simp) | refine Below.setCell ?_ (by first | omega | (simp; omega) | simp) _ | refine Below.alloc ?_ (by first | omega | (simp; omega) | simp) _ | refine Below.drew ?_ | refine below_drewN ?_ _ | refine Below.step (by assumption) (by first | omega | (simp; omega) | simp) ?_))) (by omega) (by omega) ⟨_, _, _, _, rfl⟩
    · go_wp2
      simp [bodyPost, results, Tryz.results60, go_sem]
      exact Drew.mk (p + 1 + 1 + 1 + 1 + 1 + 1 + 1) (by (repeat (first | exact Below.refl _ _ | exact Hbl.out | refine Below.ext ?_ (by first | omega | (simp; omega) | simp) | refine Below.setCell ?_ (by first | omega | (simp; omega) | simp) _ | refine Below.alloc ?_ (by first | omega | (simp; omega) | simp) _ | refine Below.drew ?_ | refine below_drewN ?_ _ | refine Below.step (by assumption) (by first | omega | (simp; omega) | simp) ?_))) (by omega) (by omega) ⟨_, _, _, _, rfl⟩
  · go_wp2_with (go_at_call 63; refine (odd_any _ ?_ _ _ ?_ ?_ ?_ ?_).mono ?_; rotate_left; (focus ((repeat (first | assumption | refine Rd.ext ?_ | refine Rd.drew ?_ | refine Rd.drewN ?_ | refine Rd.set (by assumption) ?_ | refine Rd.lit (by assumption) (by simp) ?_ | refine Rd.alloc ?_ _ | omega)))); (focus omega); (focus omega); (focus omega); rintro e w' ⟨b, d, rfl, rfl⟩)
    · refine (pick_any _ ?_ _ _ ?_ ?_).mono ?_; rotate_left; (focus ((repeat (first | assumption | refine Rd.ext ?_ | refine Rd.drew ?_ | refine Rd.drewN ?_ | refine Rd.set (by assumption) ?_ | refine Rd.lit (by assumption) (by simp) ?_ | refine Rd.alloc ?_ _ | omega)))); (focus omega); rintro e w' ⟨z, dz, rfl, lz, hz, h2, rfl⟩; replace hz := hz (by omega); clear h2
      have hz : z = 0 ∨ z = 1 ∨ z = 2 ∨ z = 3 := by omega
      rcases hz with rfl | rfl | rfl | rfl
      all_goals
        go_wp2
        simp [bodyPost, results, Tryz.results60, go_sem]
        exact Drew.mk (p + 1 + 1 + 1 + 1 + 1 + 1) (by (repeat (first | exact Below.refl _ _ | exact Hbl.out | refine Below.ext ?_ (by first | omega | (simp; omega) | simp) | refine Below.setCell ?_ (by first | omega | (simp; omega) | simp) _ | refine Below.alloc ?_ (by first | omega | (simp; omega) | simp) _ | refine Below.drew ?_ | refine below_drewN ?_ _ | refine Below.step (by assumption) (by first | omega | (simp; omega) | simp) ?_))) (by omega) (by omega) ⟨_, _, _, _, rfl⟩
    · go_wp2
      simp [bodyPost, results, Tryz.results60, go_sem]
      exact Drew.mk (p + 1 + 1 + 1 + 1 + 1) (by (repeat (first | exact Below.refl _ _ | exact Hbl.out | refine Below.ext ?_ (by first | omega | (simp; omega) | simp) | refine Below.setCell ?_ (by first | omega | (simp; omega) | simp) _ | refine Below.alloc ?_ (by first | omega | (simp; omega) | simp) _ | refine Below.drew ?_ | refine below_drewN ?_ _ | refine Below.step (by assumption) (by first | omega | (simp; omega) | simp) ?_))) (by omega) (by omega) ⟨_, _, _, _, rfl⟩
theorem setCell_self {w : World} {a : Addr} {v : Value} (h : w.cell? a = some v) : w.setCell a v = w := by
  obtain ⟨hp, tp, dn, o, out⟩ := w
  unfold World.cell? at h
  simp only [World.setCell]
  simp only at h
  split at h
  · next c e f hb =>
    split at h
    · cases h
    · next hs =>
      congr 1
      apply Array.ext_getElem?
      intro i
      rw [Array.getElem?_modify]
      split
      · next e => 
        subst e
        rw [hb]
        have : c.setIfInBounds a.off v = c := by
          apply Array.ext_getElem?
          intro j
          rw [Array.getElem?_setIfInBounds]
          split
          · next e =>
            subst e
            split
            · exact h.symm
            · next hx => rw [Array.getElem?_eq_none (by omega)]
          · rfl
        simp [hs, this]
      · rfl
  · cases h
theorem Rd.self {w : World} {R : Nat} {p : Int} (h : Rd w R p) : w = w.setCell ⟨R, 1, none⟩ (.int .i64 p) := by
  obtain ⟨A, len, cap, zs, _, _, h6, _⟩ := h
  exact (setCell_self h6).symm
theorem RB.self {w w' : World} {R : Nat} {p : Int} (hr : Rd w R p) (h : Below w.heap.size w w') : RB w R p w' := by
  unfold RB
  rw [← hr.self]
  exact h
theorem paths_54 (t : List Nd) : ∀ x ∈ pathsOfF t, x.length ≤ 54 := by
  unfold pathsOfF
  split
  · exact paths_short t 6 0 []
  · intro x hx; cases hx
set_option maxRecDepth 100000 in
set_option maxHeartbeats 4000000 in
theorem l20Where_any (R : Nat) (p : Int) (v : Value) (t : List Nd) (w : World) (hr : Rd w R p) (hp : p ≤ 1000000) (h : TreeR w v t) (ht : t.length ≤ 1000) (hk : (kidsOf t).length ≤ 16) : Calls Tryz.prog 72 #[.pointer (some ⟨R, 0, none⟩), v] w (Drew w R p 10 (StrN 54)) := by
  have hR := hr.lt
  have hp0 := hr.pos
  have hP := fun w h => pathsS_of v t w h ht hk
  have h54 := paths_54 t
  obtain ⟨A, cap, rfl⟩ := h.shape
  have H := Lib.hid h
  have HP := Lib.hid hP
  clear h hP
  generalize pathsOfF t = ps at HP h54
  go_enter Tryz.func72, Tryz.ntmps72
  go_wp2_with fail
  refine (HP.out _ H.out).mono ?_
  rintro e w1 ⟨vp, rfl, o1, b1⟩
  have hr1 := hr.below b1
  have hz1 := b1.size
  have HB := Lib.hid (RB.self hr b1)
  have Hblk := Lib.hid (ownG_block o1)
  have S1 := Lib.hid (ownG_sl o1)
  have hcp := (ownG_sl o1)
  obtain ⟨Ap, cp, rfl⟩ := ownG_shape o1
  have hcq := hcp.caps
  clear o1 b1 hcp
  cases ps with
  | nil =>
    go_wp2_with fail
    refine (l20Path_any R p 9 _ hr1 (by omega) (.inr (by decide))).mono ?_
    rintro e w2 ⟨_, q, d, os, rfl, q1, q2, ⟨x, rfl, hx⟩, rfl⟩
    go_wp2
    simp [bodyPost, results, Tryz.results72, go_sem]
    exact Drew.mk q (HB.out.pick hR) (by omega) (by omega) ⟨_, rfl, by omega⟩
  | cons y ys =>
    obtain ⟨l, hl⟩ : ∃ l, l = y :: ys := ⟨_, rfl⟩
    rw [← hl] at HP S1 h54 hcq ⊢
    have hlp : 0 < l.length := by rw [hl]; simp
    clear hl
    go_wp2_with fail
    refine (pick_any R p 4 _ hr1 (by omega)).mono ?_
    rintro e w' ⟨g, dg, rfl, g0, g1, _, rfl⟩
    replace g1 := g1 (by decide)
    by_cases hg : 0 < g
    · go_wp2_with fail
      refine (pick_any R (p + 1) _ _ ?_ (by omega)).mono ?_
      · (repeat (first | assumption | refine Rd.ext ?_ | refine Rd.drew ?_ | refine Rd.drewN ?_ | refine Rd.set (by assumption) ?_ | refine Rd.lit (by assumption) (by simp) ?_ | refine Rd.alloc ?_ _ | omega))
      rintro e w' ⟨k, dk, rfl, k0, k1, _, rfl⟩
      replace k1 := k1 (by omega)
      obtain ⟨j, rfl⟩ : ∃ j : Nat, k = (j : Int) := ⟨k.toNat, by omega⟩
      have hj : j < l.length := by omega
      obtain ⟨bb, off, rfl, hbb, hcell⟩ := S1.out.at_ (List.getElem?_eq_getElem hj)
      have hbR := (Hblk.out bb rfl).1
      have c0 : w1.cell? ⟨bb, off + j, none⟩ = some (.string (mk l[j])) := by have := hcell 0 _ rfl; simpa [EL] using this
      have hx : (mk l[j]).size ≤ 54 := by rw [mk_size]; exact h54 _ (List.getElem_mem hj)
      generalize mk l[j] = x at c0 hx
      go_wp2
      simp [bodyPost, results, Tryz.results72, go_sem]
      exact Drew.mk (p + 1 + 1) (HB.out.pick hR) (by omega) (by omega) ⟨_, rfl, hx⟩
    · go_wp2_with fail
      refine (l20Path_any R (p + 1) 9 _ ?_ (by omega) (.inr (by decide))).mono ?_
      · (repeat (first | assumption | refine Rd.ext ?_ | refine Rd.drew ?_ | refine Rd.drewN ?_ | refine Rd.set (by assumption) ?_ | refine Rd.lit (by assumption) (by simp) ?_ | refine Rd.alloc ?_ _ | omega))
      rintro e w2 ⟨_, q, d, os, rfl, q1, q2, ⟨x, rfl, hx⟩, rfl⟩
      go_wp2
      simp [bodyPost, results, Tryz.results72, go_sem]
      exact Drew.mk q (HB.out.pick hR) (by omega) (by omega) ⟨_, rfl, by omega⟩
set_option maxRecDepth 100000 in
set_option maxHeartbeats 4000000 in
theorem l20New_any (R : Nat) (p : Int) (v : Value) (t : List Nd) (w : World) (hr : Rd w R p) (hp : p ≤ 1000000) (h : TreeR w v t) (ht : t.length ≤ 1000) (hk : (kidsOf t).length ≤ 16) : Calls Tryz.prog 61 #[.pointer (some ⟨R, 0, none⟩), v] w (Drew w R p 20 (StrN 54)) := by
  have hR := hr.lt
  have hp0 := hr.pos
  have hW := fun w hr h => l20Where_any R p v t w hr hp h ht hk
  obtain ⟨A, cap, rfl⟩ := h.shape
  have H := Lib.hid h
  have HW := Lib.hid hW
  clear h hW
  go_enter Tryz.func61, Tryz.ntmps61
  go_wp2_with fail
  refine (HW.out _ hr H.out).mono ?_
  rintro e w1 ⟨_, q, d1, os1, rfl, q1, q2, ⟨x, rfl, hx⟩, rfl⟩
  go_wp2_with fail
  refine (pick_any R q 4 _ ?_ (by omega)).mono ?_
  · (repeat (first | assumption | refine Rd.ext ?_ | refine Rd.drew ?_ | refine Rd.drewN ?_ | refine Rd.set (by assumption) ?_ | refine Rd.lit (by assumption) (by simp) ?_ | refine Rd.alloc ?_ _ | omega))
  rintro e w' ⟨g, dg, rfl, g0, g1, _, rfl⟩
  replace g1 := g1 (by decide)
  have hsz := selS_size (v := g) (l := [⟨#[97]⟩, ⟨#[98]⟩, ⟨#[110, 101, 119]⟩, ⟨#[122]⟩]) (N := 3) (by decide)
  go_wp2_with fail
  generalize selS g [⟨#[97]⟩, ⟨#[98]⟩, ⟨#[110, 101, 119]⟩, ⟨#[122]⟩] = y at hsz ⊢
  refine (followS_of x y _ (by omega) (by omega)).mono ?_
  rintro e w2 ⟨rfl, b2⟩
  have hfz := follow_size x.data.toList y.data.toList
  generalize followF x.data.toList y.data.toList = s at hfz
  obtain ⟨d2, os2, rfl⟩ := ext_of_below b2
  clear b2
  by_cases hs : s = []
  · subst hs
    have e1 : (mk []).toList = [] := by rw [mk_toList]
    go_wp2_with fail
    refine (l20Path_any R (q + 1) 9 _ ?_ (by omega) (.inr (by decide))).mono ?_
    · (repeat (first | assumption | refine Rd.ext ?_ | refine Rd.drew ?_ | refine Rd.drewN ?_ | refine Rd.set (by assumption) ?_ | refine Rd.lit (by assumption) (by simp) ?_ | refine Rd.alloc ?_ _ | omega))
    rintro e w3 ⟨_, r, d, os, rfl, r1, r2, ⟨z, rfl, hz⟩, rfl⟩
    go_wp2
    simp [bodyPost, results, Tryz.results61, go_sem]
    exact Drew.mk r (by (repeat (first | exact Below.refl _ _ | exact Hbl.out | refine Below.ext ?_ (by first | omega | (simp; omega) | simp) | refine Below.setCell ?_ (by first | omega | (simp; omega) | simp) _ | refine Below.alloc ?_ (by first | omega | (simp; omega) | simp) _ | refine Below.drew ?_ | refine below_drewN ?_ _ | refine Below.step (by assumption) (by first | omega | (simp; omega) | simp) ?_))) (by omega) (by omega) ⟨_, rfl, by omega⟩
  · have e1 : ((mk s).toList == []) = false := by rw [mk_toList]; exact beq_eq_false_iff_ne.2 hs
    have e2 : ¬ (mk s).toList = [] := by rw [mk_toList]; exact hs
    have hz : (mk s).size ≤ 54 := by rw [mk_size]; exact hfz
    generalize mk s = z at e1 e2 hz
    go_wp2
    simp [bodyPost, results, Tryz.results61, go_sem]
    exact Drew.mk (q + 1) (by (repeat (first | exact Below.refl _ _ | exact Hbl.out | refine Below.ext ?_ (by first | omega | (simp; omega) | simp) | refine Below.setCell ?_ (by first | omega | (simp; omega) | simp) _ | refine Below.alloc ?_ (by first | omega | (simp; omega) | simp) _ | refine Below.drew ?_ | refine below_drewN ?_ _ | refine Below.step (by assumption) (by first | omega | (simp; omega) | simp) ?_))) (by omega) (by omega) ⟨_, rfl, hz⟩
end Go.Proofs.YtkennmpbmbacpaaGreatDoor
