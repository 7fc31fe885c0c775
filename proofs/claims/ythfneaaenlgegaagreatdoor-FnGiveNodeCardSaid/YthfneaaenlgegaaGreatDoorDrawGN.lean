/- What is drawn: a tree, a credential, a path, an owner and a group. -/
import Derived.Test.YthfneaaenlgegaaGreatDoorDrawWF
import Derived.Test.YthfneaaenlgegaaGreatDoorDrawCM
import Derived.Test.YthfneaaenlgegaaGreatDoorME
import Derived.Deep.RegionHeld3
set_option linter.unusedSimpArgs false
set_option linter.unusedVariables false
set_option linter.unusedSectionVars false
namespace Go.Proofs.YthfneaaenlgegaaGreatDoor
open Go.RowKit

/-- A group is drawn. -/
theorem l20Group_any (R : Nat) (p : Int) (w : World) (hr : Rd w R p) (hp : p ≤ 1000000000) : Calls Tryz.prog 48 #[.pointer (some ⟨R, 0, none⟩)] w fun e w' => ∃ (x : Int) (q : Int) (d : Nat) (os : Array Obj), e = .returned (.int .i64 x) ∧ p ≤ q ∧ q ≤ p + 5 ∧ w' = ext (w.setCell ⟨R, 1, none⟩ (.int .i64 q)) d os := by
  have hR := hr.lt
  have hp0 := hr.pos
  go_enter Tryz.func48, Tryz.ntmps48
  (go_wp2_with fail); refine (pick_any _ ?_ _ _ ?_ ?_).mono ?_; rotate_left; (focus ((repeat (first | assumption | refine Rd.ext ?_ | refine Rd.drew ?_ | refine Rd.drewN ?_ | refine Rd.set (by assumption) ?_ | refine Rd.lit (by assumption) (by simp) ?_ | refine Rd.alloc ?_ _ | omega)))); (focus omega); rintro e w' ⟨x, dx, rfl, lx, hx, h2, rfl⟩; replace hx := hx (by omega); clear h2
  (go_wp2_with fail); refine (pick_any _ ?_ _ _ ?_ ?_).mono ?_; rotate_left; (focus ((repeat (first | assumption | refine Rd.ext ?_ | refine Rd.drew ?_ | refine Rd.drewN ?_ | refine Rd.set (by assumption) ?_ | refine Rd.lit (by assumption) (by simp) ?_ | refine Rd.alloc ?_ _ | omega)))); (focus omega); rintro e w' ⟨v, dv, rfl, lv, hv, h2, rfl⟩; replace hv := hv (by omega); clear h2
  have hv9 : v = 0 ∨ v = 1 ∨ v = 2 ∨ v = 3 ∨ v = 4 ∨ v = 5 ∨ v = 6 ∨ v = 7 ∨ v = 8 := by omega
  rcases hv9 with rfl | rfl | rfl | rfl | rfl | rfl | rfl | rfl | rfl
  all_goals
    go_wp2
    go_ret
    refine mode_done (q := p + 1 + 1) ?_ (by omega) (by omega)
    (repeat (first | exact Below.refl _ _ | exact Hbl.out | refine Below.ext ?_ (by first | omega | (simp; omega) | simp) | refine Below.setCell ?_ (by first | omega | (simp; omega) | simp) _ | refine Below.alloc ?_ (by first | omega | (simp; omega) | simp) _ | refine Below.drew ?_ | refine below_drewN ?_ _ | refine Below.step (by assumption) (by first | omega | (simp; omega) | simp) ?_))
abbrev finG (W : World) (R g d : Nat) (u u0 u1 u2 u3 : Value) (os : Array Obj) : World := Go.Proofs.YthfneaaenlgegaaGreatDoor.ext (((((W.setCell ⟨R, 1, none⟩ u).setCell ⟨g, 0, none⟩ u0).setCell ⟨g, 1, none⟩ u1).setCell ⟨g, 2, none⟩ u2).setCell ⟨g, 3, none⟩ u3) d os
theorem finG_tree {B R g d : Nat} {W : World} {v u u0 u1 u2 u3 : Value} {os : Array Obj} {cs : List Cn} {t : List Nd} (h : TreeC B W v cs t) (hR : R < B) (hg : g < B) : TreeC B (finG W R g d u u0 u1 u2 u3 os) v cs t :=
  (((((h.rset hR).rset hg).rset hg).rset hg).rset hg).below (below_ext _ _ _)
theorem finG_below {A R g d : Nat} {w W : World} {u u0 u1 u2 u3 : Value} {os : Array Obj} (h : Below A w W) (hR : A ≤ R) (hg : A ≤ g) (hz : A ≤ W.heap.size) : Below A w (finG W R g d u u0 u1 u2 u3 os) :=
  Below.ext (Below.setCell (Below.setCell (Below.setCell (Below.setCell (Below.setCell h hR _) hg _) hg _) hg _) hg _) (by simp; omega)
/-- A tree, a credential, a path and two numbers are drawn. -/
def GotGN (w : World) (e : Ending) (w' : World) : Prop := ∃ (v : Value) (t : List Nd) (a b c d : Int) (s : ByteArray) (o g : Int), e = .returned (.tuple #[v, .agg #[.int .i64 a, .int .i64 b, .int .i64 c, .int .i64 d], .string s, .int .i64 o, .int .i64 g]) ∧ TreeO w.heap.size w' v t ∧ t.length ≤ 20 ∧ (kidsOf t).length ≤ 16 ∧ s.size ≤ 54 ∧ Below w.heap.size w w'
set_option maxRecDepth 100000 in
set_option maxHeartbeats 20000000 in
theorem drawGN_any (a : Option Addr) (len cap : Nat) (zs : List Int) (w : World) (hrow : IsRow .u8 w a len cap zs) : Calls Tryz.prog 14 #[.slice a len cap] w (GotGN w) := by
  go_enter Tryz.func14, Tryz.ntmps14
  go_wp2_with (go_at_call 28; refine (open_any _ _ _ _ _ (IsRow.below hrow (by repeat (first | exact Below.refl _ _ | refine Below.alloc ?_ (by simp; try omega) _)))).mono ?_; rintro e w' ⟨A, le, ca, rfl, rfl, zs', hby⟩; (try simp only [World.size_alloc] at hby))
  have D0 := DS.start hby
  obtain ⟨W0, hW0⟩ : ∃ W0, W0 = ((w.alloc (.cells #[.int .i64 0, .int .i64 0, .int .i64 0, .int .i64 0] 25)).alloc (.cells #[.slice A le ca, .int .i64 0] 84)) := ⟨_, rfl⟩
  have hz0 : W0.heap.size = w.heap.size + 2 := by rw [hW0]; simp
  rw [← hW0] at D0 ⊢
  obtain ⟨R, hR⟩ : ∃ R, R = w.heap.size + 1 := ⟨_, rfl⟩
  rw [← hR] at D0
  simp only [← hR]
  have hRz : R < W0.heap.size := by omega
  have hGz : w.heap.size < W0.heap.size := by omega
  clear hW0 hR hby hrow hz0
  refine (l20Tree_any R 0 14 W0 D0.rd (by decide) (by decide) (by decide)).mono ?_
  rintro e W1 ⟨v, cs, t, q1, rfl, hT, h1, h2, h3, k0, k1, hRB⟩
  have D1 := D0.step k0 hRB
  have hr1 := D1.rd
  have HT1 := Lib.hid hT
  have HD1 := Lib.hid D1
  have hlt := D0.lt
  obtain ⟨A1, cap1, rfl⟩ := (TreeO.r ⟨_, hT⟩).shape
  clear D0 D1 hT hRB h3
  go_wp2_with fail
  refine (l20Cred_any R q1 14 W1 hr1 (by omega) (by decide) (by decide)).mono ?_
  rintro e W2 ⟨_, q2, d2, os2, rfl, k2, k3, ⟨a0, b0, c0, d0, rfl⟩, hW2⟩
  have D2 := HD1.out.pick (d := d2) (os := os2) (q' := q2) (by omega)
  have T2 := HT1.out.pick (d := d2) (os := os2) (i := 1) (u := .int .i64 q2) hRz
  rw [← hW2] at D2 T2
  have hr2 := D2.rd
  have hz2 : w.heap.size < W2.heap.size := by have := D2.rd.lt; omega
  have K2 := Lib.hid (WK.startF (a := a0) (b := b0) (c := c0) (d := d0) (T := 25) D2 T2 hz2)
  have hRz2 : R < W2.heap.size := D2.rd.lt
  have HR2 := Lib.hid (TreeO.r ⟨_, T2⟩)
  have HW := Lib.hid (fun w hr h => l20Where_any R q2 (.slice A1 t.length cap1) t w hr (by omega) h (by omega) h2)
  clear hW2 D2 T2 HD1 HT1 hr1
  go_wp2_with fail
  refine (HW.out _ ?_ (HR2.out.below (by (repeat (first | exact Below.refl _ _ | exact Hbl.out | refine Below.ext ?_ (by first | omega | (simp; omega) | simp) | refine Below.setCell ?_ (by first | omega | (simp; omega) | simp) _ | refine Below.alloc ?_ (by first | omega | (simp; omega) | simp) _ | refine Below.drew ?_ | refine below_drewN ?_ _ | refine Below.step (by assumption) (by first | omega | (simp; omega) | simp) ?_))))).mono ?_
  · (repeat (first | assumption | refine Rd.ext ?_ | refine Rd.drew ?_ | refine Rd.drewN ?_ | refine Rd.set (by assumption) ?_ | refine Rd.lit (by assumption) (by simp) ?_ | refine Rd.alloc ?_ _ | omega))
  rintro e w5 ⟨_, q3, d3, os3, rfl, k4, k5, ⟨pt, rfl, hx⟩, hw5⟩
  have K5 : WK w R W2.heap.size w.heap.size W0.heap.size q3 (.slice A1 t.length cap1) cs t [.int .i64 a0, .int .i64 b0, .int .i64 c0, .int .i64 d0] false w5 := by
    rw [hw5]
    exact K2.out.pick (by omega) hRz (by omega) (by omega) (by omega)
  have hRB : R < W0.heap.size := hRz
  have hR0 : w.heap.size ≤ R := by omega
  have hG0 : w.heap.size ≤ w.heap.size := Nat.le_refl _
  have hRC : R ≠ W2.heap.size := by omega
  have hRG : R ≠ w.heap.size := by omega
  have hGC : w.heap.size ≠ W2.heap.size := by omega
  have hGB : w.heap.size < W0.heap.size := hGz
  have hq3 : q3 ≤ 1000 := by omega
  obtain ⟨C, hC⟩ : ∃ C, C = W2.heap.size := ⟨_, rfl⟩
  have hn1 := h1
  have hn2 := h2
  have K5h := Lib.hid K5
  have hr5 := K5.rd rfl
  clear hw5 K2 HR2 HW hr2 K5
  go_wp2_with fail
  refine (l20User_any R q3 w5 hr5 (by omega)).mono ?_
  rintro e w6 ⟨us, d6, os6, rfl, _, _, hw6⟩
  have K6 : WK w R W2.heap.size w.heap.size W0.heap.size (q3 + 1) (.slice A1 t.length cap1) cs t [.int .i64 a0, .int .i64 b0, .int .i64 c0, .int .i64 d0] false w6 := by
    rw [hw6]
    exact K5h.out.pick (by omega) hRz hR0 hRC hRG
  have hF := findS_of (.slice A1 t.length cap1) t a0 b0 c0 d0 pt w6 (TreeO.r ⟨cs, K6.tr⟩) (by omega) (by omega) (by omega)
  have hrg := @findF_range t a0 b0 c0 d0 pt.data.toList
  generalize findF t a0 b0 c0 d0 pt.data.toList = G at hF hrg
  obtain ⟨n, f⟩ := G
  simp only at hF hrg
  have HF := Lib.hid hF
  have Hrg := Lib.hid hrg
  rw [← hC] at K6 hRC hGC ⊢
  have u0 := K6.cx 0 _ rfl
  have u1 := K6.cx 1 _ rfl
  have u2 := K6.cx 2 _ rfl
  have u3 := K6.cx 3 _ rfl
  have K6h := Lib.hid K6
  clear hw6 K5h hr5 hF hrg hC K6
  go_wp2_with fail
  refine HF.out.mono ?_
  rintro e w7 ⟨rfl, b7⟩
  have K7 := K6h.out.below b7
  have hr7 := K7.rd rfl
  clear b7 K6h HF u0 u1 u2 u3
  by_cases hf : f = 0
  · subst hf
    obtain ⟨_, _, _, g4, g5⟩ := Hrg.out rfl
    obtain ⟨m, rfl⟩ : ∃ m : Nat, n = (m : Int) := ⟨n.toNat, by omega⟩
    have hm : m < t.length := by omega
    have hm' : (m : Int) < (t.length : Int) := by omega
    have K7h := Lib.hid K7
    clear Hrg K7
    (go_wp2_with fail); refine (pick_any _ ?_ _ _ ?_ ?_).mono ?_; rotate_left; (focus ((repeat (first | assumption | refine Rd.ext ?_ | refine Rd.drew ?_ | refine Rd.drewN ?_ | refine Rd.set (by assumption) ?_ | refine Rd.lit (by assumption) (by simp) ?_ | refine Rd.alloc ?_ _ | omega)))); (focus omega); rintro e w' ⟨z, dz, rfl, lz, hz, h2, rfl⟩; replace hz := hz (by omega); clear h2
    have KK := K7h.out.pick (q' := q3 + 1 + 1) (d := dz) (os := #[]) (by omega) hRz hR0 hRC hRG
    generalize ext (w7.setCell ⟨R, 1, none⟩ (.int .i64 (q3 + 1 + 1))) dz #[] = w8 at KK ⊢
    clear K7h hr7
    by_cases hz : z = 0
    · subst hz
      obtain ⟨bt, ot, nA, nC, kA, kC, rfl, hbt, _, x0, x1, _⟩ := (TreeO.r ⟨cs, KK.tr⟩).at_ (kth_at hm)
      have cl0 := KK.cx 0 _ rfl
      have cl1 := KK.cx 1 _ rfl
      have cl2 := KK.cx 2 _ rfl
      have cl3 := KK.cx 3 _ rfl
      obtain ⟨y0, e0, _⟩ := KK.gx 0 _ rfl
      obtain ⟨y1, e1, _⟩ := KK.gx 1 _ rfl
      obtain ⟨y2, e2, _⟩ := KK.gx 2 _ rfl
      obtain ⟨y3, e3, _⟩ := KK.gx 3 _ rfl
      have f0 := KK.gf 0
      have f1 := KK.gf 1
      have f2 := KK.gf 2
      have f3 := KK.gf 3
      have hr9 := KK.rd rfl
      have hzC := KK.cl
      have hzG := KK.gl
      have hzR := hr9.lt
      have HK := Lib.hid KK
      clear KK
      go_wp2_with fail
      go_region_held3 (fun w' => w'.cell? ⟨C, 0, none⟩ = some (.int .i64 a0) ∧ w'.cell? ⟨C, 1, none⟩ = some (.int .i64 b0) ∧ w'.cell? ⟨C, 2, none⟩ = some (.int .i64 c0) ∧ w'.cell? ⟨C, 3, none⟩ = some (.int .i64 d0)) (first | assumption | (go_simp; done) | fail) (first | (go_at_call 48; refine (l20Group_any R ?_ _ ?_ ?_).mono ?_; rotate_left; (focus ((repeat (first | assumption | refine Rd.ext ?_ | refine Rd.drew ?_ | refine Rd.drewN ?_ | refine Rd.set (by assumption) ?_ | refine Rd.lit (by assumption) (by simp) ?_ | refine Rd.alloc ?_ _ | omega)))); (focus omega); rintro e w' ⟨gq, q9, d9, os9, rfl, j0, j1, rfl⟩))
      all_goals
        go_wp2
        refine bodyPost_ret (v := .tuple #[(.slice (some ⟨bt, ot, none⟩) t.length cap1), .agg #[.int .i64 a0, .int .i64 b0, .int .i64 c0, .int .i64 d0], .string pt, .int .i64 (kth t m).ow, .int .i64 gq]) ?_ rfl ?_
        · simp only [results, Tryz.results14]
          go_simp
        · exact ⟨_, t, _, _, _, _, _, _, _, rfl, ⟨cs, TreeC.mono (finG_tree HK.out.tr hRB hGB) (by omega)⟩, hn1, hn2, hx, finG_below HK.out.be hR0 hG0 (by omega)⟩
    · have hz' : (z == 0) = false := beq_eq_false_iff_ne.2 hz
      have cl0 := KK.cx 0 _ rfl
      have cl1 := KK.cx 1 _ rfl
      have cl2 := KK.cx 2 _ rfl
      have cl3 := KK.cx 3 _ rfl
      obtain ⟨y0, e0, _⟩ := KK.gx 0 _ rfl
      obtain ⟨y1, e1, _⟩ := KK.gx 1 _ rfl
      obtain ⟨y2, e2, _⟩ := KK.gx 2 _ rfl
      obtain ⟨y3, e3, _⟩ := KK.gx 3 _ rfl
      have f0 := KK.gf 0
      have f1 := KK.gf 1
      have f2 := KK.gf 2
      have f3 := KK.gf 3
      have hr9 := KK.rd rfl
      have hzC := KK.cl
      have hzG := KK.gl
      have hzR := hr9.lt
      have HK := Lib.hid KK
      clear KK
      go_wp2_with fail
      go_region_held3 (fun w' => w'.cell? ⟨C, 0, none⟩ = some (.int .i64 a0) ∧ w'.cell? ⟨C, 1, none⟩ = some (.int .i64 b0) ∧ w'.cell? ⟨C, 2, none⟩ = some (.int .i64 c0) ∧ w'.cell? ⟨C, 3, none⟩ = some (.int .i64 d0)) (first | assumption | (go_simp; done) | fail) (first | (go_at_call 48; refine (l20Group_any R ?_ _ ?_ ?_).mono ?_; rotate_left; (focus ((repeat (first | assumption | refine Rd.ext ?_ | refine Rd.drew ?_ | refine Rd.drewN ?_ | refine Rd.set (by assumption) ?_ | refine Rd.lit (by assumption) (by simp) ?_ | refine Rd.alloc ?_ _ | omega)))); (focus omega); rintro e w' ⟨gq, q9, d9, os9, rfl, j0, j1, rfl⟩))
      all_goals
        go_wp2
        refine bodyPost_ret (v := .tuple #[.slice A1 t.length cap1, .agg #[.int .i64 a0, .int .i64 b0, .int .i64 c0, .int .i64 d0], .string pt, .int .i64 us, .int .i64 gq]) ?_ rfl ?_
        · simp only [results, Tryz.results14]
          go_simp
        · exact ⟨_, t, _, _, _, _, _, _, _, rfl, ⟨cs, TreeC.mono (finG_tree HK.out.tr hRB hGB) (by omega)⟩, hn1, hn2, hx, finG_below HK.out.be hR0 hG0 (by omega)⟩
  · have hf' : (f == 0) = false := beq_eq_false_iff_ne.2 hf
    have KK := K7
    clear K7 Hrg hr7
    have cl0 := KK.cx 0 _ rfl
    have cl1 := KK.cx 1 _ rfl
    have cl2 := KK.cx 2 _ rfl
    have cl3 := KK.cx 3 _ rfl
    obtain ⟨y0, e0, _⟩ := KK.gx 0 _ rfl
    obtain ⟨y1, e1, _⟩ := KK.gx 1 _ rfl
    obtain ⟨y2, e2, _⟩ := KK.gx 2 _ rfl
    obtain ⟨y3, e3, _⟩ := KK.gx 3 _ rfl
    have f0 := KK.gf 0
    have f1 := KK.gf 1
    have f2 := KK.gf 2
    have f3 := KK.gf 3
    have hr9 := KK.rd rfl
    have hzC := KK.cl
    have hzG := KK.gl
    have hzR := hr9.lt
    have HK := Lib.hid KK
    clear KK
    go_wp2_with fail
    go_region_held3 (fun w' => w'.cell? ⟨C, 0, none⟩ = some (.int .i64 a0) ∧ w'.cell? ⟨C, 1, none⟩ = some (.int .i64 b0) ∧ w'.cell? ⟨C, 2, none⟩ = some (.int .i64 c0) ∧ w'.cell? ⟨C, 3, none⟩ = some (.int .i64 d0)) (first | assumption | (go_simp; done) | fail) (first | (go_at_call 48; refine (l20Group_any R ?_ _ ?_ ?_).mono ?_; rotate_left; (focus ((repeat (first | assumption | refine Rd.ext ?_ | refine Rd.drew ?_ | refine Rd.drewN ?_ | refine Rd.set (by assumption) ?_ | refine Rd.lit (by assumption) (by simp) ?_ | refine Rd.alloc ?_ _ | omega)))); (focus omega); rintro e w' ⟨gq, q9, d9, os9, rfl, j0, j1, rfl⟩))
    all_goals
      go_wp2
      refine bodyPost_ret (v := .tuple #[.slice A1 t.length cap1, .agg #[.int .i64 a0, .int .i64 b0, .int .i64 c0, .int .i64 d0], .string pt, .int .i64 us, .int .i64 gq]) ?_ rfl ?_
      · simp only [results, Tryz.results14]
        go_simp
      · exact ⟨_, t, _, _, _, _, _, _, _, rfl, ⟨cs, TreeC.mono (finG_tree HK.out.tr hRB hGB) (by omega)⟩, hn1, hn2, hx, finG_below HK.out.be hR0 hG0 (by omega)⟩
end Go.Proofs.YthfneaaenlgegaaGreatDoor
