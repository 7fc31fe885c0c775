/- MayDrop in the reference. -/
import Derived.Test.YtkennmpbmbacpaaGreatDoorMayDrop
import Derived.Deep.Cut
set_option linter.unusedSimpArgs false
set_option linter.unusedVariables false
set_option linter.unusedSectionVars false
namespace Go.Proofs.YtkennmpbmbacpaaGreatDoor
open Go.RowKit

set_option maxRecDepth 100000 in
set_option maxHeartbeats 8000000 in
theorem dropS_of (v : Value) (t : List Nd) (a b c d : Int) (S : ByteArray) (w : World) (h : TreeR w v t) (ht : t.length ≤ 1000) (hkz : (kidsOf t).length ≤ 1000000) (hs : S.size ≤ 1048576) :
    Calls Tryz.prog 42 #[v, .agg #[.int .i64 a, .int .i64 b, .int .i64 c, .int .i64 d], .string S] w fun e w' => e = .returned (.int .i64 (dropOf t a b c d S.data.toList false)) ∧ Below w.heap.size w w' := by
  have h1 := fun w => aboveS_of S w hs
  generalize S.data.toList = s at h1 ⊢
  have hF := fun w h => findS_mk v t a b c d (aboveF s) w h ht hkz (by have := aboveF_len s; omega)
  have hrg := @findF_range t a b c d (aboveF s)
  obtain ⟨R, hR⟩ : ∃ R, R = dropOf t a b c d s false := ⟨_, rfl⟩
  rw [← hR]
  unfold dropOf upF at hR
  generalize findF t a b c d (aboveF s) = F at hF hrg hR
  obtain ⟨n, f⟩ := F
  unfold AbvGot at h1
  generalize aboveOk s = ok at h1 hR
  generalize aboveF s = sa at h1 hF hrg hR
  generalize lastF s = sl at h1 hR
  have HR := Lib.hid hR
  clear hR
  have H := Lib.hid h
  have H1 := Lib.hid h1
  have HF := Lib.hid hF
  obtain ⟨A, cap, rfl⟩ := h.shape
  have hcap := h.caps
  clear h h1 hF
  go_enter Tryz.func42, Tryz.ntmps42
  go_wp2_with fail
  refine (H1.out _).mono ?_
  rintro e w1 ⟨rfl, b1⟩
  obtain ⟨d1, os1, rfl⟩ := ext_of_below b1
  clear b1
  go_wp2_with fail
  refine (HF.out _ (H.out.below (by (repeat (first | exact Below.refl _ _ | exact Hbl.out | refine Below.ext ?_ (by first | omega | (simp; omega) | simp) | refine Below.setCell ?_ (by first | omega | (simp; omega) | simp) _ | refine Below.alloc ?_ (by first | omega | (simp; omega) | simp) _ | refine Below.drew ?_ | refine below_drewN ?_ _ | refine Below.step (by assumption) (by first | omega | (simp; omega) | simp) ?_))))).mono ?_
  rintro e w2 ⟨rfl, b2⟩
  have q0 : w2.cell? ⟨w.heap.size, 0, none⟩ = some (.int .i64 a) := (b2.cell (p := ⟨w.heap.size, 0, none⟩) (by simp; omega)).trans (by go_simp)
  have q1 : w2.cell? ⟨w.heap.size, 1, none⟩ = some (.int .i64 b) := (b2.cell (p := ⟨w.heap.size, 1, none⟩) (by simp; omega)).trans (by go_simp)
  have q2 : w2.cell? ⟨w.heap.size, 2, none⟩ = some (.int .i64 c) := (b2.cell (p := ⟨w.heap.size, 2, none⟩) (by simp; omega)).trans (by go_simp)
  have q3 : w2.cell? ⟨w.heap.size, 3, none⟩ = some (.int .i64 d) := (b2.cell (p := ⟨w.heap.size, 3, none⟩) (by simp; omega)).trans (by go_simp)
  have hzw : w.heap.size < w2.heap.size := by have := b2.size; simp at this; omega
  have B2 := Lib.hid (Below.step b2 (by simp; omega) (show Below w.heap.size w _ from (by (repeat (first | exact Below.refl _ _ | exact Hbl.out | refine Below.ext ?_ (by first | omega | (simp; omega) | simp) | refine Below.setCell ?_ (by first | omega | (simp; omega) | simp) _ | refine Below.alloc ?_ (by first | omega | (simp; omega) | simp) _ | refine Below.drew ?_ | refine below_drewN ?_ _ | refine Below.step (by assumption) (by first | omega | (simp; omega) | simp) ?_)))))
  clear b2
  cases ok
  · have Hr : Hid (R = 1) := by rw [HR.out]; exact rfl
    clear HR
    go_wp2
    go_ret
    exact ⟨by rw [Hr.out]; rfl, B2.out⟩
  · by_cases hf : f = 0
    · subst hf
      obtain ⟨g1, g2, _, g4, g5⟩ := hrg rfl
      try simp only at g4 g5
      obtain ⟨m, rfl⟩ : ∃ m : Nat, n = (m : Int) := ⟨n.toNat, by omega⟩
      have hm : m < t.length := by omega
      have hm' : (m : Int) < (t.length : Int) := by omega
      have Hns := Lib.hid (head_ks (tree_node g1 hm))
      have hkr := kid_range g1 hm sl
      have hTr := H.out.below B2.out
      obtain ⟨bt, ot, nA, nC, kA, kC, rfl, hbt, hS, y0, y1, y2, y3, y4, y5, y6⟩ := hTr.at_ (kth_at hm)
      have HS := Lib.hid hS
      have Hmay := Lib.hid (fun w nA nL nC kA kL kC => l7May_any a b c d 3 (kth t m) nA nL nC kA kL kC w)
      have Hkid := Lib.hid (fun w h => kidS_of nA nC kA kC (kth t m) sl w h Hns.out)
      have hR := HR.out
      simp [-Prod.mk.injEq] at hR
      clear hTr hS hrg g1 HR
      cases hfo : (kth t m).fo
      · rw [hfo] at y0
        simp [hfo] at hR
        have Hr := Lib.hid hR
        clear hR
        go_wp2
        go_ret
        exact ⟨by rw [Hr.out]; rfl, B2.out⟩
      · rw [hfo] at y0 Hkid Hmay
        simp [hfo, -Prod.mk.injEq] at hR
        cases hmay : mayF a b c d (kth t m).ow (kth t m).gr (kth t m).mo 3
        · rw [hmay] at Hmay
          simp [hmay] at hR
          have Hr := Lib.hid hR
          clear hR
          go_wp2_with fail
          go_region_held3 (fun w' => w'.cell? ⟨w.heap.size, 0, none⟩ = some (.int .i64 a) ∧ w'.cell? ⟨w.heap.size, 1, none⟩ = some (.int .i64 b) ∧ w'.cell? ⟨w.heap.size, 2, none⟩ = some (.int .i64 c) ∧ w'.cell? ⟨w.heap.size, 3, none⟩ = some (.int .i64 d) ∧ w'.cell? ⟨bt, ot + m * 7, none⟩ = some (.bool true) ∧ w'.cell? ⟨bt, ot + m * 7 + 1, none⟩ = some (.int .i64 (kth t m).ow) ∧ w'.cell? ⟨bt, ot + m * 7 + 2, none⟩ = some (.int .i64 (kth t m).gr) ∧ w'.cell? ⟨bt, ot + m * 7 + 3, none⟩ = some (.int .i64 (kth t m).mo) ∧ w'.cell? ⟨bt, ot + m * 7 + 4, none⟩ = some (.string (kth t m).tx) ∧ w'.cell? ⟨bt, ot + m * 7 + 5, none⟩ = some (.slice nA (kth t m).ns.length nC) ∧ w'.cell? ⟨bt, ot + m * 7 + 6, none⟩ = some (.slice kA (kth t m).ks.length kC)) (first | assumption | (go_simp; done) | fail) (first | (go_at_call 92; refine (Hmay.out _ _ _ _ _ _ _).mono ?_; rintro e w' ⟨rfl, hb⟩; obtain ⟨d4, os4, rfl⟩ := ext_of_below hb; clear hb))
          all_goals
            go_wp2
            go_ret
            exact ⟨by rw [Hr.out]; rfl, Below.step (show Below w2.heap.size w2 _ from (by (repeat (first | exact Below.refl _ _ | exact Hbl.out | refine Below.ext ?_ (by first | omega | (simp; omega) | simp) | refine Below.setCell ?_ (by first | omega | (simp; omega) | simp) _ | refine Below.alloc ?_ (by first | omega | (simp; omega) | simp) _ | refine Below.drew ?_ | refine below_drewN ?_ _ | refine Below.step (by assumption) (by first | omega | (simp; omega) | simp) ?_)))) B2.out.size B2.out⟩
        · rw [hmay] at Hmay
          simp [hmay, -Prod.mk.injEq] at hR
          clear hmay
          generalize kidF (kth t m) sl = z at Hkid hkr hR
          by_cases hz : z < 0
          · simp [hz] at hR
            have Hr := Lib.hid hR
            clear hR hkr
            go_wp2_with fail
            go_region_held3 (fun w' => w'.cell? ⟨w.heap.size, 0, none⟩ = some (.int .i64 a) ∧ w'.cell? ⟨w.heap.size, 1, none⟩ = some (.int .i64 b) ∧ w'.cell? ⟨w.heap.size, 2, none⟩ = some (.int .i64 c) ∧ w'.cell? ⟨w.heap.size, 3, none⟩ = some (.int .i64 d) ∧ w'.cell? ⟨bt, ot + m * 7, none⟩ = some (.bool true) ∧ w'.cell? ⟨bt, ot + m * 7 + 1, none⟩ = some (.int .i64 (kth t m).ow) ∧ w'.cell? ⟨bt, ot + m * 7 + 2, none⟩ = some (.int .i64 (kth t m).gr) ∧ w'.cell? ⟨bt, ot + m * 7 + 3, none⟩ = some (.int .i64 (kth t m).mo) ∧ w'.cell? ⟨bt, ot + m * 7 + 4, none⟩ = some (.string (kth t m).tx) ∧ w'.cell? ⟨bt, ot + m * 7 + 5, none⟩ = some (.slice nA (kth t m).ns.length nC) ∧ w'.cell? ⟨bt, ot + m * 7 + 6, none⟩ = some (.slice kA (kth t m).ks.length kC)) (first | assumption | (go_simp; done) | fail) (first | (go_at_call 92; refine (Hmay.out _ _ _ _ _ _ _).mono ?_; rintro e w' ⟨rfl, hb⟩; obtain ⟨d4, os4, rfl⟩ := ext_of_below hb; clear hb))
            all_goals
              go_wp2_with fail
              refine (Hkid.out _ (HS.out.below (by (repeat (first | exact Below.refl _ _ | exact Hbl.out | refine Below.ext ?_ (by first | omega | (simp; omega) | simp) | refine Below.setCell ?_ (by first | omega | (simp; omega) | simp) _ | refine Below.alloc ?_ (by first | omega | (simp; omega) | simp) _ | refine Below.drew ?_ | refine below_drewN ?_ _ | refine Below.step (by assumption) (by first | omega | (simp; omega) | simp) ?_))))).mono ?_
              rintro e w' ⟨rfl, hb⟩
              obtain ⟨d5, os5, rfl⟩ := ext_of_below hb
              clear hb
              go_wp2
              go_ret
              exact ⟨by rw [Hr.out]; rfl, Below.step (show Below w2.heap.size w2 _ from (by (repeat (first | exact Below.refl _ _ | exact Hbl.out | refine Below.ext ?_ (by first | omega | (simp; omega) | simp) | refine Below.setCell ?_ (by first | omega | (simp; omega) | simp) _ | refine Below.alloc ?_ (by first | omega | (simp; omega) | simp) _ | refine Below.drew ?_ | refine below_drewN ?_ _ | refine Below.step (by assumption) (by first | omega | (simp; omega) | simp) ?_)))) B2.out.size B2.out⟩
          · have hz2 : z < (t.length : Int) := by omega
            obtain ⟨m2, rfl⟩ : ∃ m' : Nat, z = (m' : Int) := ⟨z.toNat, by omega⟩
            have hm2 : m2 < t.length := by omega
            simp [hz] at hR
            have HK := Lib.hid hR
            clear hR hkr
            have Hhm2 := Lib.hid hm2
            have Hz2 := Lib.hid hz2
            clear hm2 hz2
            go_wp2_with fail
            go_region_held3 (fun w' => w'.cell? ⟨w.heap.size, 0, none⟩ = some (.int .i64 a) ∧ w'.cell? ⟨w.heap.size, 1, none⟩ = some (.int .i64 b) ∧ w'.cell? ⟨w.heap.size, 2, none⟩ = some (.int .i64 c) ∧ w'.cell? ⟨w.heap.size, 3, none⟩ = some (.int .i64 d) ∧ w'.cell? ⟨bt, ot + m * 7, none⟩ = some (.bool true) ∧ w'.cell? ⟨bt, ot + m * 7 + 1, none⟩ = some (.int .i64 (kth t m).ow) ∧ w'.cell? ⟨bt, ot + m * 7 + 2, none⟩ = some (.int .i64 (kth t m).gr) ∧ w'.cell? ⟨bt, ot + m * 7 + 3, none⟩ = some (.int .i64 (kth t m).mo) ∧ w'.cell? ⟨bt, ot + m * 7 + 4, none⟩ = some (.string (kth t m).tx) ∧ w'.cell? ⟨bt, ot + m * 7 + 5, none⟩ = some (.slice nA (kth t m).ns.length nC) ∧ w'.cell? ⟨bt, ot + m * 7 + 6, none⟩ = some (.slice kA (kth t m).ks.length kC)) (first | assumption | (go_simp; done) | fail) (first | (go_at_call 92; refine (Hmay.out _ _ _ _ _ _ _).mono ?_; rintro e w' ⟨rfl, hb⟩; obtain ⟨d4, os4, rfl⟩ := ext_of_below hb; clear hb))
            all_goals
              go_wp2_with fail
              refine (Hkid.out _ (HS.out.below (by (repeat (first | exact Below.refl _ _ | exact Hbl.out | refine Below.ext ?_ (by first | omega | (simp; omega) | simp) | refine Below.setCell ?_ (by first | omega | (simp; omega) | simp) _ | refine Below.alloc ?_ (by first | omega | (simp; omega) | simp) _ | refine Below.drew ?_ | refine below_drewN ?_ _ | refine Below.step (by assumption) (by first | omega | (simp; omega) | simp) ?_))))).mono ?_
              rintro e w' ⟨rfl, hb⟩
              obtain ⟨d5, os5, rfl⟩ := ext_of_below hb
              clear hb
              obtain ⟨bt', ot', nA2, nC2, kA2, kC2, ee, _, hS2, _, x1, _, _, _, x5, _⟩ := (H.out.below B2.out).at_ (kth_at Hhm2.out)
              cases ee
              have hc2 := hS2.ns.caps
              have hz2 := Hz2.out
              clear hS2
              have hzl : (kth t m2).ns.length = 0 ∨ ¬ (kth t m2).ns.length = 0 := Classical.em _
              rcases sticky4 b (kth t m) (kth t m2) with ⟨s1, s5⟩ | ⟨s1, s2, s5⟩ | ⟨s1, s2, s3, s5⟩ | ⟨s1, s2, s3, s4, s5⟩ | ⟨s1, s2, s3, s4, s5⟩
              all_goals
                have hK := HK.out
                rw [s5] at hK
                rcases hzl with hl | hl
                all_goals
                  have hl1 : (0 : Int) < ((kth t m2).ns.length : Int) ↔ ¬ (kth t m2).ns.length = 0 := by omega
                  have hl2 : (kth t m2).ns = [] ↔ (kth t m2).ns.length = 0 := List.length_eq_zero_iff.symm
                  simp [hl, hl2] at hK hl1
                  go_wp2_with fail
                  go_quiet (fail)
                  go_wp2
                  all_goals
                    go_ret
                    exact ⟨by rw [hK]; rfl, Below.step (show Below w2.heap.size w2 _ from (by (repeat (first | exact Below.refl _ _ | exact Hbl.out | refine Below.ext ?_ (by first | omega | (simp; omega) | simp) | refine Below.setCell ?_ (by first | omega | (simp; omega) | simp) _ | refine Below.alloc ?_ (by first | omega | (simp; omega) | simp) _ | refine Below.drew ?_ | refine below_drewN ?_ _ | refine Below.step (by assumption) (by first | omega | (simp; omega) | simp) ?_)))) B2.out.size B2.out⟩
    · have Hr : Hid (R = f) := by
        have hR := HR.out
        rw [if_neg (show ¬ true = false by simp), if_pos hf] at hR
        exact hR.trans (if_pos hf)
      clear HR
      go_wp2
      go_ret
      exact ⟨by rw [Hr.out]; rfl, B2.out⟩
end Go.Proofs.YtkennmpbmbacpaaGreatDoor
