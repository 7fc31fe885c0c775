/- The drawn law on GiveNode: the walk. -/
import Derived.Test.YthfneaaenlgegaaGreatDoorDrawGN
import Derived.Test.YthfneaaenlgegaaGreatDoorGive
import Derived.Test.YthfneaaenlgegaaGreatDoorSameTr
import Derived.Test.YthfneaaenlgegaaGreatDoorMH
import Derived.Deep.Cut
import Derived.Deep.CutRange
set_option linter.unusedSimpArgs false
set_option linter.unusedVariables false
set_option linter.unusedSectionVars false
namespace Go.Proofs.YthfneaaenlgegaaGreatDoor
open Go.RowKit

theorem giveF_cases (t : List Nd) (a b c d : Int) (s : List UInt8) (o g : Int) : (giveF t a b c d s o g).1.length ≤ t.length ∧ ((¬ (giveF t a b c d s o g).2 = 0 ∧ (giveF t a b c d s o g).1 = []) ∨ ((giveF t a b c d s o g).2 = 0 ∧ (findF t a b c d s).2 = 0 ∧ (inB o 0 99 = true ∧ inB g 0 7 = true) ∧ noGive b d o g (kth t (findF t a b c d s).1.toNat) = false ∧
    (giveF t a b c d s o g).1 = t.set (findF t a b c d s).1.toNat (ogN (kth t (findF t a b c d s).1.toNat) o g))) := by
  unfold giveF
  cases hm : (inB o 0 99 && inB g 0 7)
  · rw [if_pos rfl]; exact ⟨Nat.zero_le _, .inl ⟨by decide, rfl⟩⟩
  · rw [if_neg (by simp)]
    by_cases hf : (findF t a b c d s).2 = 0
    · rw [if_neg (fun h => h hf)]
      by_cases hb : noGive b d o g (kth t (findF t a b c d s).1.toNat) = true
      · rw [if_pos hb]; exact ⟨Nat.zero_le _, .inl ⟨by decide, rfl⟩⟩
      · rw [if_neg hb]
        exact ⟨by simp, .inr ⟨rfl, hf, by simpa using hm, by simpa using hb, rfl⟩⟩
    · rw [if_pos hf]; exact ⟨Nat.zero_le _, .inl ⟨hf, rfl⟩⟩
theorem give_yes {b d o g : Int} {x : Nd} (h : noGive b d o g x = false) : b = 0 ∨ ((b == 0) = false ∧ o = x.ow ∧ g = x.gr) ∨ ((b == 0) = false ∧ o = x.ow ∧ (g == x.gr) = false ∧ groupB d g = true) := by
  unfold noGive at h
  by_cases h0 : b = 0
  · exact .inl h0
  · right
    by_cases h1 : o = x.ow
    · by_cases h2 : g = x.gr
      · exact .inl ⟨by simpa using h0, h1, h2⟩
      · right
        refine ⟨by simpa using h0, h1, by simpa using h2, ?_⟩
        cases hg : groupB d g
        · rw [hg] at h; simp [h0, h1, h2] at h
        · rfl
    · simp [h0, h1] at h
set_option maxRecDepth 100000 in
set_option maxHeartbeats 8000000 in
theorem walkFnGiveNode (a : Option Addr) (len cap : Nat) (zs : List Int) (w : World) (hsh : w.ShapedOpen Tryz.prog) (hrow : IsRow .u8 w a len cap zs) :
    Calls Tryz.prog 4 #[.slice a len cap] w fun e w' => e = .returned (.bool true) ∧ Below w.heap.size w w' := by
  obtain ⟨hl1, hl2⟩ := hrow.len_le
  unfold maxLen at hl2
  by_cases hbig : (1048576 : Int) < (len : Int)
  · go_enter Tryz.func4, Tryz.ntmps4
    go_wp2
    go_ret
    exact ⟨rfl, Below.refl _ _⟩
  · have hm0 := maxL_of hsh
    go_enter Tryz.func4, Tryz.ntmps4
    go_wp2_with fail
    refine (drawGN_any a len cap zs _ hrow).mono ?_
    rintro e w1 ⟨v, t, a0, b0, c0, d0, S, o, g, rfl, hR0, hn, hk, hs, b1⟩
    have hR := hR0.r
    clear hR0
    have HM := Lib.hid (hm0.below b1)
    obtain ⟨A, cp, rfl⟩ := hR.shape
    have hcp := hR.caps
    have HR := Lib.hid hR
    have B1 := Lib.hid b1
    have hI := fun w hm h => giveI_of (.slice A t.length cp) t a0 b0 c0 d0 o g S w hm h (by omega) (by omega) (by omega)
    have hS := fun w hm h => giveS_of (.slice A t.length cp) t a0 b0 c0 d0 o g S w hm h (by omega) (by omega) (by omega)
    have hJ := fun w hm h => findI_of (.slice A t.length cp) t a0 b0 c0 d0 S w hm h (by omega) (by omega) (by omega)
    have hV := fun t' (h1 : t'.length ≤ 1000) (h2 : (kidsOf t').length ≤ 1000000) v w h => treeI_of v t' w h h1 h2
    generalize S.data.toList = s at hI hS hJ
    obtain ⟨htl, hcs⟩ := giveF_cases t a0 b0 c0 d0 s o g
    have hrg := @findF_range t a0 b0 c0 d0 s
    generalize giveF t a0 b0 c0 d0 s o g = M at hI hS hcs htl
    generalize findF t a0 b0 c0 d0 s = G at hJ hcs hrg
    obtain ⟨t', fm⟩ := M
    obtain ⟨n, f⟩ := G
    simp only at hI hS hJ hcs hrg htl
    have HI := Lib.hid hI
    have HS := Lib.hid hS
    have HJ := Lib.hid hJ
    have HV := Lib.hid hV
    have Hrg := Lib.hid hrg
    have Hcs := Lib.hid hcs
    have Htl := Lib.hid htl
    clear hR b1 hm0 hI hS hJ hs hV hrg hcs htl
    go_wp2_with fail
    refine (HI.out _ (HM.out.below (by (repeat (first | exact Below.refl _ _ | exact Hbl.out | refine Below.ext ?_ (by first | omega | (simp; omega) | simp) | refine Below.setCell ?_ (by first | omega | (simp; omega) | simp) _ | refine Below.alloc ?_ (by first | omega | (simp; omega) | simp) _ | refine Below.drew ?_ | refine below_drewN ?_ _ | refine Below.step (by assumption) (by first | omega | (simp; omega) | simp) ?_)))) (HR.out.below (by (repeat (first | exact Below.refl _ _ | exact Hbl.out | refine Below.ext ?_ (by first | omega | (simp; omega) | simp) | refine Below.setCell ?_ (by first | omega | (simp; omega) | simp) _ | refine Below.alloc ?_ (by first | omega | (simp; omega) | simp) _ | refine Below.drew ?_ | refine below_drewN ?_ _ | refine Below.step (by assumption) (by first | omega | (simp; omega) | simp) ?_))))).mono ?_
    rintro e w2 ⟨x, cs, rfl, hX, b2⟩
    have p0 : w2.cell? ⟨w1.heap.size, 0, none⟩ = some (.int .i64 a0) := (b2.cell (p := ⟨w1.heap.size, 0, none⟩) (by first | (simp; done) | (simp; omega) | omega)).trans (by first | assumption | go_simp)
    have p1 : w2.cell? ⟨w1.heap.size, 1, none⟩ = some (.int .i64 b0) := (b2.cell (p := ⟨w1.heap.size, 1, none⟩) (by first | (simp; done) | (simp; omega) | omega)).trans (by first | assumption | go_simp)
    have p2 : w2.cell? ⟨w1.heap.size, 2, none⟩ = some (.int .i64 c0) := (b2.cell (p := ⟨w1.heap.size, 2, none⟩) (by first | (simp; done) | (simp; omega) | omega)).trans (by first | assumption | go_simp)
    have p3 : w2.cell? ⟨w1.heap.size, 3, none⟩ = some (.int .i64 d0) := (b2.cell (p := ⟨w1.heap.size, 3, none⟩) (by first | (simp; done) | (simp; omega) | omega)).trans (by first | assumption | go_simp)
    have hz2 : w1.heap.size < w2.heap.size := by have := b2.size; simp at this; omega
    have B2 := Lib.hid (Below.step b2 (by simp) (show Below w1.heap.size w1 _ from (by (repeat (first | exact Below.refl _ _ | exact Hbl.out | refine Below.ext ?_ (by first | omega | (simp; omega) | simp) | refine Below.setCell ?_ (by first | omega | (simp; omega) | simp) _ | refine Below.alloc ?_ (by first | omega | (simp; omega) | simp) _ | refine Below.drew ?_ | refine below_drewN ?_ _ | refine Below.step (by assumption) (by first | omega | (simp; omega) | simp) ?_)))))
    have HX := Lib.hid hX
    obtain ⟨Ax, cx, rfl⟩ := TreeO.shape ⟨cs, hX⟩
    clear b2 hX
    go_wp2_with fail
    refine (HS.out _ trivial (HR.out.below B2.out)).mono ?_
    rintro e w3 ⟨y, cs3, rfl, hY, b3⟩
    have q0 : w3.cell? ⟨w1.heap.size, 0, none⟩ = some (.int .i64 a0) := (b3.cell (p := ⟨w1.heap.size, 0, none⟩) (by first | (simp; done) | (simp; omega) | omega)).trans (by first | assumption | go_simp)
    have q1 : w3.cell? ⟨w1.heap.size, 1, none⟩ = some (.int .i64 b0) := (b3.cell (p := ⟨w1.heap.size, 1, none⟩) (by first | (simp; done) | (simp; omega) | omega)).trans (by first | assumption | go_simp)
    have q2 : w3.cell? ⟨w1.heap.size, 2, none⟩ = some (.int .i64 c0) := (b3.cell (p := ⟨w1.heap.size, 2, none⟩) (by first | (simp; done) | (simp; omega) | omega)).trans (by first | assumption | go_simp)
    have q3 : w3.cell? ⟨w1.heap.size, 3, none⟩ = some (.int .i64 d0) := (b3.cell (p := ⟨w1.heap.size, 3, none⟩) (by first | (simp; done) | (simp; omega) | omega)).trans (by first | assumption | go_simp)
    have hz3 : w1.heap.size < w3.heap.size := by have := b3.size; omega
    have B3 := Lib.hid (Below.step b3 B2.out.size B2.out)
    have HX3 := Lib.hid (HX.out.below b3)
    obtain ⟨Ay, cy, rfl⟩ := TreeO.shape ⟨cs3, hY⟩
    have hsm := sameTree_of _ _ t' w3 (TreeO.r ⟨_, HX3.out⟩) (TreeO.r ⟨_, hY⟩) (by have := Htl.out; omega)
    have Hsm := Lib.hid hsm
    clear b3 hY B2 HX HI HS p0 p1 p2 p3 hsm
    go_wp2_with fail
    refine Hsm.out.mono ?_
    rintro e w4 ⟨rfl, nd, hw4⟩
    have hd4 : Below w3.heap.size w3 w4 := by rw [hw4]; exact below_drewN (Below.refl _ _) _
    clear hw4
    have r0 : w4.cell? ⟨w1.heap.size, 0, none⟩ = some (.int .i64 a0) := (hd4.cell (p := ⟨w1.heap.size, 0, none⟩) (by first | (simp; done) | (simp; omega) | omega)).trans (by first | assumption | go_simp)
    have r1 : w4.cell? ⟨w1.heap.size, 1, none⟩ = some (.int .i64 b0) := (hd4.cell (p := ⟨w1.heap.size, 1, none⟩) (by first | (simp; done) | (simp; omega) | omega)).trans (by first | assumption | go_simp)
    have r2 : w4.cell? ⟨w1.heap.size, 2, none⟩ = some (.int .i64 c0) := (hd4.cell (p := ⟨w1.heap.size, 2, none⟩) (by first | (simp; done) | (simp; omega) | omega)).trans (by first | assumption | go_simp)
    have r3 : w4.cell? ⟨w1.heap.size, 3, none⟩ = some (.int .i64 d0) := (hd4.cell (p := ⟨w1.heap.size, 3, none⟩) (by first | (simp; done) | (simp; omega) | omega)).trans (by first | assumption | go_simp)
    have B4 := Lib.hid (Below.step hd4 B3.out.size B3.out)
    have B4w := Lib.hid (Below.step B4.out B1.out.size B1.out)
    have HX4 := Lib.hid (HX3.out.below hd4)
    have hz4 : w1.heap.size < w4.heap.size := by have := hd4.size; omega
    clear hd4 Hsm B3 HX3 q0 q1 q2 q3
    rcases Hcs.out with ⟨e1, e2⟩ | ⟨e1, e2, e3, e4, e5⟩
    · subst e2
      have d1 : (fm != 0) = true := by simpa using e1
      clear Hcs Htl Hrg HX4 HV
      go_wp2_with (go_at_call 11; refine (alive_any _).mono ?_; rintro e w' ⟨rfl, rfl⟩)
      go_ret
      exact ⟨rfl, B4w.out⟩
    · subst e1 e2
      obtain ⟨g1, g2, _, g4, g5⟩ := Hrg.out rfl
      obtain ⟨m, rfl⟩ : ∃ m : Nat, n = (m : Int) := ⟨n.toNat, by omega⟩
      have hm : m < t.length := by omega
      have hm' : (m : Int) < (t.length : Int) := by omega
      rw [Int.toNat_natCast] at e4 e5
      clear Hcs Htl Hrg
      subst e5
      obtain ⟨htb, hkk⟩ := head_tree g1 hm (y := ogN (kth t m) o g) rfl rfl rfl (give_head (nodeB_iff.1 (tree_node g1 hm)).1 e3.1 e3.2)
      have hV := fun v w h => HV.out (t.set m (ogN (kth t m) o g)) (by rw [List.length_set]; omega) (by omega) v w h
      rw [htb] at hV
      have HV' := Lib.hid hV
      have hkx : kth (t.set m (ogN (kth t m) o g)) m = ogN (kth t m) o g := by
        have := kth_set (ex := []) (y := ogN (kth t m) o g) hm hm
        rwa [List.append_nil, if_pos rfl] at this
      have hX4 := HX4.out
      rw [List.length_set] at hX4 ⊢
      have HX4' := Lib.hid hX4
      have Hd := Lib.hid (give_yes e4)
      obtain ⟨t', ht'⟩ : ∃ t', t' = t.set m (ogN (kth t m) o g) := ⟨_, rfl⟩
      have hl' : t'.length = t.length := by rw [ht', List.length_set]
      rw [← ht'] at hkx HX4' HV'
      have Hkx := Lib.hid hkx
      have Hl' := Lib.hid hl'
      clear hX4 HX4 hV HV hkx hl' ht' htb hkk g1 g2 g4 g5 e3 e4
      go_wp2_with fail
      refine (HJ.out _ (HM.out.below B4.out) (HR.out.below B4.out)).mono ?_
      rintro e w5 ⟨rfl, b5⟩
      have p0 : w5.cell? ⟨w1.heap.size, 0, none⟩ = some (.int .i64 a0) := (b5.cell (p := ⟨w1.heap.size, 0, none⟩) (by first | (simp; done) | (simp; omega) | omega)).trans (by first | assumption | go_simp)
      have p1 : w5.cell? ⟨w1.heap.size, 1, none⟩ = some (.int .i64 b0) := (b5.cell (p := ⟨w1.heap.size, 1, none⟩) (by first | (simp; done) | (simp; omega) | omega)).trans (by first | assumption | go_simp)
      have p2 : w5.cell? ⟨w1.heap.size, 2, none⟩ = some (.int .i64 c0) := (b5.cell (p := ⟨w1.heap.size, 2, none⟩) (by first | (simp; done) | (simp; omega) | omega)).trans (by first | assumption | go_simp)
      have p3 : w5.cell? ⟨w1.heap.size, 3, none⟩ = some (.int .i64 d0) := (b5.cell (p := ⟨w1.heap.size, 3, none⟩) (by first | (simp; done) | (simp; omega) | omega)).trans (by first | assumption | go_simp)
      have hz5 : w1.heap.size < w5.heap.size := by have := b5.size; omega
      have B5 := Lib.hid (Below.step b5 B4.out.size B4.out)
      have B5w := Lib.hid (Below.step B5.out B1.out.size B1.out)
      have HX5 := Lib.hid (HX4'.out.below b5)
      obtain ⟨bt, ot, nA, nC, kA, kC, rfl, hbt, _, y0, y1, y2, y3, _⟩ := (HR.out.below B5.out).at_ (kth_at hm)
      obtain ⟨gx, cc, rfl, hgx, hgx', _, hnm, _, q0, q1, q2, q3, _⟩ := HX5.out.at_ (k := m) (by rw [Hl'.out]; exact hm)
      rw [Hkx.out] at q1 q2
      have x1 : w5.cell? ⟨gx, m * 7 + 1, none⟩ = some (.int .i64 o) := q1
      have x2 : w5.cell? ⟨gx, m * 7 + 2, none⟩ = some (.int .i64 g) := q2
      have hge : ¬ t.length ≤ m := by omega
      have hm0 : decide ((m : Int) < 0) = false := decide_eq_false (by omega)
      have HRx := Lib.hid (TreeO.r ⟨_, HX5.out⟩)
      have HV5 := HV'.out _ w5 HRx.out
      have HV5' := Lib.hid HV5
      clear b5 B4 HX4' q0 q1 q2 q3 hnm r0 r1 r2 r3 B4w HV5 HV' HJ HX5 hgx y0 y3
      rcases Hd.out with d1 | ⟨d1, d2, d3⟩ | ⟨d1, d2, d3, d4⟩
      · subst d1
        clear Hd
        go_wp2_with fail
        refine HV5'.out.mono ?_
        rintro e w6 ⟨rfl, b6⟩
        have q1 : w6.cell? ⟨w1.heap.size, 1, none⟩ = some (.int .i64 0) := (b6.cell (p := ⟨w1.heap.size, 1, none⟩) hz5).trans p1
        have B6w := Lib.hid (Below.step b6 B5w.out.size B5w.out)
        clear b6
        go_wp2
        go_ret
        exact ⟨rfl, B6w.out⟩
      · rw [← d2] at y1
        rw [← d3] at y2
        clear Hd d2 d3
        go_wp2_with fail
        refine HV5'.out.mono ?_
        rintro e w6 ⟨rfl, b6⟩
        have q0 : w6.cell? ⟨w1.heap.size, 0, none⟩ = some (.int .i64 a0) := (b6.cell (p := ⟨w1.heap.size, 0, none⟩) (by first | (simp; done) | (simp; omega) | omega)).trans (by first | assumption | go_simp)
        have q1 : w6.cell? ⟨w1.heap.size, 1, none⟩ = some (.int .i64 b0) := (b6.cell (p := ⟨w1.heap.size, 1, none⟩) (by first | (simp; done) | (simp; omega) | omega)).trans (by first | assumption | go_simp)
        have q2 : w6.cell? ⟨w1.heap.size, 2, none⟩ = some (.int .i64 c0) := (b6.cell (p := ⟨w1.heap.size, 2, none⟩) (by first | (simp; done) | (simp; omega) | omega)).trans (by first | assumption | go_simp)
        have q3 : w6.cell? ⟨w1.heap.size, 3, none⟩ = some (.int .i64 d0) := (b6.cell (p := ⟨w1.heap.size, 3, none⟩) (by first | (simp; done) | (simp; omega) | omega)).trans (by first | assumption | go_simp)
        have z1 := (b6.cell (p := ⟨bt, ot + m * 7 + 1, none⟩) hbt).trans y1
        have z2 := (b6.cell (p := ⟨bt, ot + m * 7 + 2, none⟩) hbt).trans y2
        have B6w := Lib.hid (Below.step b6 B5w.out.size B5w.out)
        clear b6
        go_wp2
        go_ret
        exact ⟨rfl, B6w.out⟩
      · rw [← d2] at y1
        clear Hd d2
        have hG := fun w => hasGroupI_any d0 g w
        rw [d4] at hG
        have HG := Lib.hid hG
        clear hG d4
        go_wp2_with fail
        refine HV5'.out.mono ?_
        rintro e w6 ⟨rfl, b6⟩
        have q0 : w6.cell? ⟨w1.heap.size, 0, none⟩ = some (.int .i64 a0) := (b6.cell (p := ⟨w1.heap.size, 0, none⟩) (by first | (simp; done) | (simp; omega) | omega)).trans (by first | assumption | go_simp)
        have q1 : w6.cell? ⟨w1.heap.size, 1, none⟩ = some (.int .i64 b0) := (b6.cell (p := ⟨w1.heap.size, 1, none⟩) (by first | (simp; done) | (simp; omega) | omega)).trans (by first | assumption | go_simp)
        have q2 : w6.cell? ⟨w1.heap.size, 2, none⟩ = some (.int .i64 c0) := (b6.cell (p := ⟨w1.heap.size, 2, none⟩) (by first | (simp; done) | (simp; omega) | omega)).trans (by first | assumption | go_simp)
        have q3 : w6.cell? ⟨w1.heap.size, 3, none⟩ = some (.int .i64 d0) := (b6.cell (p := ⟨w1.heap.size, 3, none⟩) (by first | (simp; done) | (simp; omega) | omega)).trans (by first | assumption | go_simp)
        have z1 := (b6.cell (p := ⟨bt, ot + m * 7 + 1, none⟩) hbt).trans y1
        have z2 := (b6.cell (p := ⟨bt, ot + m * 7 + 2, none⟩) hbt).trans y2
        have B6w := Lib.hid (Below.step b6 B5w.out.size B5w.out)
        clear b6
        go_wp2_with (go_at_call 17; refine (HG.out _).mono ?_; rintro e w' ⟨rfl, rfl⟩)
        go_ret
        exact ⟨rfl, B6w.out⟩
end Go.Proofs.YthfneaaenlgegaaGreatDoor
