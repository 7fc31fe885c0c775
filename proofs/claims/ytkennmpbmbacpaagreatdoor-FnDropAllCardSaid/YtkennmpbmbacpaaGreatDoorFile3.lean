/- ReadFile and PlaceFor of the package; OpenFile in the package and in the reference. -/
import Derived.Test.YtkennmpbmbacpaaGreatDoorFile2
set_option linter.unusedSimpArgs false
set_option linter.unusedVariables false
set_option linter.unusedSectionVars false
namespace Go.Proofs.YtkennmpbmbacpaaGreatDoor
open Go.RowKit

set_option maxRecDepth 100000 in
set_option maxHeartbeats 8000000 in
/-- 'folderAbove'. -/
theorem upI_of (v : Value) (t : List Nd) (a b c d : Int) (S : ByteArray) (w : World) (hM : MaxL w) (h : TreeR w v t) (ht : t.length ≤ 1000) (hkz : (kidsOf t).length ≤ 1000000) (hs : S.size ≤ 1048576) :
    Calls Tryz.prog 39 #[v, .agg #[.int .i64 a, .int .i64 b, .int .i64 c, .int .i64 d], .string S] w fun e w' => e = .returned (.tuple #[.int .i64 (upF t a b c d S.data.toList).1, .string (mk (if (upF t a b c d S.data.toList).2 = 0 then lastF S.data.toList else [])), .int .i64 (upF t a b c d S.data.toList).2]) ∧ Below w.heap.size w w' := by
  have h1 := fun w hm => aboveI_of S w hm hs
  generalize S.data.toList = s at h1 ⊢
  have hF := fun w hm h => findI_of v t a b c d (mk (aboveF s)) w hm h ht hkz (by rw [mk_size]; have := aboveF_len s; omega)
  rw [mk_data] at hF
  have hrg := @findF_range t a b c d (aboveF s)
  obtain ⟨R, hR⟩ : ∃ R, R = upF t a b c d s := ⟨_, rfl⟩
  rw [← hR]
  unfold upF at hR
  generalize findF t a b c d (aboveF s) = F at hF hrg hR
  obtain ⟨n, f⟩ := F
  simp only at hF hrg hR
  unfold AbvGot at h1
  generalize aboveOk s = ok at h1 hR
  generalize aboveF s = sa at h1 hF hrg hR
  generalize lastF s = sl at h1 ⊢
  obtain ⟨X, hX⟩ : ∃ X, X = mk (if R.2 = 0 then sl else []) := ⟨_, rfl⟩
  rw [← hX]
  have HX := Lib.hid hX
  clear hX
  have HR := Lib.hid hR
  clear hR
  have H := Lib.hid h
  have HM := Lib.hid hM
  have H1 := Lib.hid h1
  have HF := Lib.hid hF
  obtain ⟨A, cap, rfl⟩ := h.shape
  have hcap := h.caps
  clear h h1 hF hM
  go_enter Tryz.func39, Tryz.ntmps39
  go_wp2_with fail
  refine (H1.out _ (HM.out.below (by (repeat (first | exact Below.refl _ _ | exact Hbl.out | refine Below.ext ?_ (by first | omega | (simp; omega) | simp) | refine Below.setCell ?_ (by first | omega | (simp; omega) | simp) _ | refine Below.alloc ?_ (by first | omega | (simp; omega) | simp) _ | refine Below.drew ?_ | refine below_drewN ?_ _ | refine Below.step (by assumption) (by first | omega | (simp; omega) | simp) ?_))))).mono ?_
  rintro e w1 ⟨rfl, b1⟩
  have p0 : w1.cell? ⟨w.heap.size, 0, none⟩ = some (.int .i64 a) := (b1.cell (p := ⟨w.heap.size, 0, none⟩) (by first | (simp; done) | (simp; omega) | omega)).trans (by first | assumption | go_simp)
  have p1 : w1.cell? ⟨w.heap.size, 1, none⟩ = some (.int .i64 b) := (b1.cell (p := ⟨w.heap.size, 1, none⟩) (by first | (simp; done) | (simp; omega) | omega)).trans (by first | assumption | go_simp)
  have p2 : w1.cell? ⟨w.heap.size, 2, none⟩ = some (.int .i64 c) := (b1.cell (p := ⟨w.heap.size, 2, none⟩) (by first | (simp; done) | (simp; omega) | omega)).trans (by first | assumption | go_simp)
  have p3 : w1.cell? ⟨w.heap.size, 3, none⟩ = some (.int .i64 d) := (b1.cell (p := ⟨w.heap.size, 3, none⟩) (by first | (simp; done) | (simp; omega) | omega)).trans (by first | assumption | go_simp)
  have hz1 : w.heap.size < w1.heap.size := by have := b1.size; simp at this; omega
  have B1 := Lib.hid (Below.step b1 (by simp) (show Below w.heap.size w _ from (by (repeat (first | exact Below.refl _ _ | exact Hbl.out | refine Below.ext ?_ (by first | omega | (simp; omega) | simp) | refine Below.setCell ?_ (by first | omega | (simp; omega) | simp) _ | refine Below.alloc ?_ (by first | omega | (simp; omega) | simp) _ | refine Below.drew ?_ | refine below_drewN ?_ _ | refine Below.step (by assumption) (by first | omega | (simp; omega) | simp) ?_)))))
  clear b1
  cases ok
  · have Hr : Hid (R = (-1, 1)) := by rw [HR.out]; exact rfl
    have Hx : Hid (X = mk []) := by rw [HX.out, Hr.out]; rfl
    clear HR
    go_wp2
    go_ret3
    exact ⟨by rw [Hx.out, Hr.out]; rfl, B1.out⟩
  · go_wp2_with fail
    refine (HF.out _ (HM.out.below B1.out) (H.out.below B1.out)).mono ?_
    rintro e w2 ⟨rfl, b2⟩
    have q0 : w2.cell? ⟨w.heap.size, 0, none⟩ = some (.int .i64 a) := (b2.cell (p := ⟨w.heap.size, 0, none⟩) (by first | (simp; done) | (simp; omega) | omega)).trans (by first | assumption | go_simp)
    have q1 : w2.cell? ⟨w.heap.size, 1, none⟩ = some (.int .i64 b) := (b2.cell (p := ⟨w.heap.size, 1, none⟩) (by first | (simp; done) | (simp; omega) | omega)).trans (by first | assumption | go_simp)
    have q2 : w2.cell? ⟨w.heap.size, 2, none⟩ = some (.int .i64 c) := (b2.cell (p := ⟨w.heap.size, 2, none⟩) (by first | (simp; done) | (simp; omega) | omega)).trans (by first | assumption | go_simp)
    have q3 : w2.cell? ⟨w.heap.size, 3, none⟩ = some (.int .i64 d) := (b2.cell (p := ⟨w.heap.size, 3, none⟩) (by first | (simp; done) | (simp; omega) | omega)).trans (by first | assumption | go_simp)
    have hzw : w.heap.size < w2.heap.size := by have := b2.size; omega
    have B2 := Lib.hid (Below.step b2 B1.out.size B1.out)
    clear b2
    by_cases hf : f = 0
    · subst hf
      obtain ⟨g1, g2, _, g4, g5⟩ := hrg rfl
      obtain ⟨m, rfl⟩ : ∃ m : Nat, n = (m : Int) := ⟨n.toNat, by omega⟩
      have hm : m < t.length := by omega
      have hm' : (m : Int) < (t.length : Int) := by omega
      obtain ⟨v1, v2, v3⟩ := head_in (tree_node g1 hm)
      have Hmay := Lib.hid (fun w nA nL nC kA kL kC => allowsI_any a b c d 3 (kth t m) nA nL nC kA kL kC w g2 v1 v2 v3 (by decide))
      obtain ⟨bt, ot, nA, nC, kA, kC, rfl, hbt, _, y0, y1, y2, y3, y4, y5, y6⟩ := (H.out.below B2.out).at_ (kth_at hm)
      have hR := HR.out
      rw [if_neg (by simp), if_neg (by simp), Int.toNat_natCast] at hR
      clear hrg g1 g2 HR v1 v2 v3
      cases hfo : (kth t m).fo
      · rw [hfo] at y0 hR
        rw [if_pos rfl] at hR
        have Hr := Lib.hid hR
        have Hx : Hid (X = mk []) := by rw [HX.out, Hr.out]; rfl
        clear hR
        go_wp2
        go_ret3
        exact ⟨by rw [Hx.out, Hr.out]; rfl, B2.out⟩
      · rw [hfo] at y0 hR Hmay
        rw [if_neg (by simp)] at hR
        generalize mayF a b c d (kth t m).ow (kth t m).gr (kth t m).mo 3 = may at Hmay hR
        obtain ⟨r, hr⟩ : ∃ r, r = (if may = true then sl else []) := ⟨_, rfl⟩
        have Hx : Hid (X = mk r) := by
          rw [HX.out, hR, hr]
          cases may
          · exact rfl
          · exact Lib.hid (by simp)
        cases may
        all_goals
          simp [-Prod.mk.injEq] at hR hr
          have Hr := Lib.hid hR
          clear hR
          subst hr
          go_wp2_with fail
          go_region_held3 (fun w' => w'.cell? ⟨w.heap.size, 0, none⟩ = some (.int .i64 a) ∧ w'.cell? ⟨w.heap.size, 1, none⟩ = some (.int .i64 b) ∧ w'.cell? ⟨w.heap.size, 2, none⟩ = some (.int .i64 c) ∧ w'.cell? ⟨w.heap.size, 3, none⟩ = some (.int .i64 d) ∧ w'.cell? ⟨bt, ot + m * 7, none⟩ = some (.bool true) ∧ w'.cell? ⟨bt, ot + m * 7 + 1, none⟩ = some (.int .i64 (kth t m).ow) ∧ w'.cell? ⟨bt, ot + m * 7 + 2, none⟩ = some (.int .i64 (kth t m).gr) ∧ w'.cell? ⟨bt, ot + m * 7 + 3, none⟩ = some (.int .i64 (kth t m).mo) ∧ w'.cell? ⟨bt, ot + m * 7 + 4, none⟩ = some (.string (kth t m).tx) ∧ w'.cell? ⟨bt, ot + m * 7 + 5, none⟩ = some (.slice nA (kth t m).ns.length nC) ∧ w'.cell? ⟨bt, ot + m * 7 + 6, none⟩ = some (.slice kA (kth t m).ks.length kC)) (first | assumption | (go_simp; done) | fail) (first | (go_at_call 55; refine (Hmay.out _ _ _ _ _ _ _).mono ?_; rintro e w' ⟨rfl, hb⟩; obtain ⟨d4, os4, rfl⟩ := ext_of_below hb; clear hb))
          all_goals
            go_wp2
            go_ret3
            exact ⟨by rw [Hx.out, Hr.out]; rfl, Below.step (show Below w2.heap.size w2 _ from (by (repeat (first | exact Below.refl _ _ | exact Hbl.out | refine Below.ext ?_ (by first | omega | (simp; omega) | simp) | refine Below.setCell ?_ (by first | omega | (simp; omega) | simp) _ | refine Below.alloc ?_ (by first | omega | (simp; omega) | simp) _ | refine Below.drew ?_ | refine below_drewN ?_ _ | refine Below.step (by assumption) (by first | omega | (simp; omega) | simp) ?_)))) B2.out.size B2.out⟩
    · have Hr : Hid (R = (-1, f)) := by rw [HR.out, if_neg (by simp), if_pos hf]; exact rfl
      have Hx : Hid (X = mk []) := by rw [HX.out, Hr.out, if_neg hf]; exact rfl
      clear HR
      go_wp2
      go_ret3
      exact ⟨by rw [Hx.out, Hr.out]; rfl, B2.out⟩
set_option maxRecDepth 100000 in
set_option maxHeartbeats 4000000 in
theorem placeI_of (v : Value) (t : List Nd) (a b c d : Int) (S : ByteArray) (w : World) (hM : MaxL w) (h : TreeR w v t) (ht : t.length ≤ 1000) (hkz : (kidsOf t).length ≤ 1000000) (hs : S.size ≤ 1048576) :
    Calls Tryz.prog 65 #[v, .agg #[.int .i64 a, .int .i64 b, .int .i64 c, .int .i64 d], .string S] w fun e w' => e = .returned (.tuple #[.int .i64 (placeF t a b c d S.data.toList).1, .int .i64 (placeF t a b c d S.data.toList).2]) ∧ Below w.heap.size w w' := by
  have h1 := fun w hm h => upI_of v t a b c d S w hm h ht hkz hs
  rw [place_up]
  generalize S.data.toList = s at h1 ⊢
  have hy := @up_yes t a b c d s
  have hrg := @findF_range t a b c d (aboveF s)
  generalize upF t a b c d s = F at h1 hy ⊢
  obtain ⟨n, f⟩ := F
  simp only at h1 hy ⊢
  generalize lastF s = sl at h1 ⊢
  have H := Lib.hid h
  have HM := Lib.hid hM
  have H1 := Lib.hid h1
  obtain ⟨A, cap, rfl⟩ := h.shape
  have hcap := h.caps
  clear h h1 hM
  by_cases hf : f = 0
  · subst hf
    rw [if_neg (show ¬ ¬ (0 : Int) = 0 by simp)]
    have h1 := H1.out
    clear H1
    rw [if_pos rfl] at h1
    have H1 := Lib.hid h1
    clear h1
    obtain ⟨_, e1, e2, _, _⟩ := hy rfl
    obtain ⟨g1, _, _, g4, g5⟩ := hrg e1
    rw [← e2] at g4 g5
    obtain ⟨m, rfl⟩ : ∃ m : Nat, n = (m : Int) := ⟨n.toNat, by omega⟩
    have hm : m < t.length := by omega
    have hm' : (m : Int) < (t.length : Int) := by omega
    rw [Int.toNat_natCast]
    have hns := head_ks (tree_node g1 hm)
    have hasc := asc_of (tree_node g1 hm)
    have hfew := (few_of g1 hkz m hm).1
    have Hkid := Lib.hid (fun nA nC kA kC w h => kidI_of nA nC kA kC (kth t m) sl w h hns hasc hfew)
    generalize kidF (kth t m) sl = z at Hkid ⊢
    clear hrg hy e1 e2 g1 hns hasc hfew
    by_cases hz : 0 ≤ z
    all_goals
      first | rw [if_pos hz] | rw [if_neg hz]
      go_enter Tryz.func65, Tryz.ntmps65
      go_wp2_with fail
      refine (H1.out _ (HM.out.below (by (repeat (first | exact Below.refl _ _ | exact Hbl.out | refine Below.ext ?_ (by first | omega | (simp; omega) | simp) | refine Below.setCell ?_ (by first | omega | (simp; omega) | simp) _ | refine Below.alloc ?_ (by first | omega | (simp; omega) | simp) _ | refine Below.drew ?_ | refine below_drewN ?_ _ | refine Below.step (by assumption) (by first | omega | (simp; omega) | simp) ?_)))) (H.out.below (by (repeat (first | exact Below.refl _ _ | exact Hbl.out | refine Below.ext ?_ (by first | omega | (simp; omega) | simp) | refine Below.setCell ?_ (by first | omega | (simp; omega) | simp) _ | refine Below.alloc ?_ (by first | omega | (simp; omega) | simp) _ | refine Below.drew ?_ | refine below_drewN ?_ _ | refine Below.step (by assumption) (by first | omega | (simp; omega) | simp) ?_))))).mono ?_
      rintro e w1 ⟨rfl, b1⟩
      have B1 := Lib.hid (Below.step b1 (by simp) (show Below w.heap.size w _ from (by (repeat (first | exact Below.refl _ _ | exact Hbl.out | refine Below.ext ?_ (by first | omega | (simp; omega) | simp) | refine Below.setCell ?_ (by first | omega | (simp; omega) | simp) _ | refine Below.alloc ?_ (by first | omega | (simp; omega) | simp) _ | refine Below.drew ?_ | refine below_drewN ?_ _ | refine Below.step (by assumption) (by first | omega | (simp; omega) | simp) ?_)))))
      clear b1
      obtain ⟨bt, ot, nA, nC, kA, kC, rfl, hbt, hS, y0, y1, y2, y3, y4, y5, y6⟩ := (H.out.below B1.out).at_ (kth_at hm)
      have HS := Lib.hid hS
      clear hS
      go_wp2_with fail
      refine (Hkid.out _ _ _ _ _ (HS.out.below (by (repeat (first | exact Below.refl _ _ | exact Hbl.out | refine Below.ext ?_ (by first | omega | (simp; omega) | simp) | refine Below.setCell ?_ (by first | omega | (simp; omega) | simp) _ | refine Below.alloc ?_ (by first | omega | (simp; omega) | simp) _ | refine Below.drew ?_ | refine below_drewN ?_ _ | refine Below.step (by assumption) (by first | omega | (simp; omega) | simp) ?_))))).mono ?_
      rintro e w2 ⟨rfl, b2⟩
      have B2 := Lib.hid (Below.step b2 B1.out.size B1.out)
      clear b2
      go_wp2
      go_ret2
      exact ⟨rfl, B2.out⟩
  · rw [if_pos hf]
    have h1 := H1.out
    clear H1
    rw [if_neg hf] at h1
    have H1 := Lib.hid h1
    clear h1
    clear hrg hy
    go_enter Tryz.func65, Tryz.ntmps65
    go_wp2_with fail
    refine (H1.out _ (HM.out.below (by (repeat (first | exact Below.refl _ _ | exact Hbl.out | refine Below.ext ?_ (by first | omega | (simp; omega) | simp) | refine Below.setCell ?_ (by first | omega | (simp; omega) | simp) _ | refine Below.alloc ?_ (by first | omega | (simp; omega) | simp) _ | refine Below.drew ?_ | refine below_drewN ?_ _ | refine Below.step (by assumption) (by first | omega | (simp; omega) | simp) ?_)))) (H.out.below (by (repeat (first | exact Below.refl _ _ | exact Hbl.out | refine Below.ext ?_ (by first | omega | (simp; omega) | simp) | refine Below.setCell ?_ (by first | omega | (simp; omega) | simp) _ | refine Below.alloc ?_ (by first | omega | (simp; omega) | simp) _ | refine Below.drew ?_ | refine below_drewN ?_ _ | refine Below.step (by assumption) (by first | omega | (simp; omega) | simp) ?_))))).mono ?_
    rintro e w1 ⟨rfl, b1⟩
    have B1 := Lib.hid (Below.step b1 (by simp) (show Below w.heap.size w _ from (by (repeat (first | exact Below.refl _ _ | exact Hbl.out | refine Below.ext ?_ (by first | omega | (simp; omega) | simp) | refine Below.setCell ?_ (by first | omega | (simp; omega) | simp) _ | refine Below.alloc ?_ (by first | omega | (simp; omega) | simp) _ | refine Below.drew ?_ | refine below_drewN ?_ _ | refine Below.step (by assumption) (by first | omega | (simp; omega) | simp) ?_)))))
    clear b1
    go_wp2
    go_ret2
    exact ⟨rfl, B1.out⟩
end Go.Proofs.YtkennmpbmbacpaaGreatDoor
