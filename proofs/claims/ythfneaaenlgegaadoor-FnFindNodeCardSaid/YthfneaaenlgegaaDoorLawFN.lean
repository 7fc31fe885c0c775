/- The drawn law on FindNode: the walk. -/
import Derived.Test.YthfneaaenlgegaaDoorDrawF
import Derived.Test.YthfneaaenlgegaaDoorFile
set_option linter.unusedSimpArgs false
set_option linter.unusedVariables false
set_option linter.unusedSectionVars false
namespace Go.Proofs.YthfneaaenlgegaaDoor
open Go.RowKit

set_option maxRecDepth 100000 in
set_option maxHeartbeats 8000000 in
theorem walkFnFindNode (a : Option Addr) (len cap : Nat) (zs : List Int) (w : World) (hsh : w.ShapedOpen Tryd.prog) (hrow : IsRow .u8 w a len cap zs) :
    Calls Tryd.prog 4 #[.slice a len cap] w fun e w' => e = .returned (.bool true) ∧ Below w.heap.size w w' := by
  obtain ⟨hl1, hl2⟩ := hrow.len_le
  unfold maxLen at hl2
  by_cases hbig : (1048576 : Int) < (len : Int)
  · go_enter Tryd.func4, Tryd.ntmps4
    go_wp2
    go_ret
    exact ⟨rfl, Below.refl _ _⟩
  · have hm0 := maxL_of hsh
    go_enter Tryd.func4, Tryd.ntmps4
    go_wp2_with fail
    refine (drawFN_any a len cap zs _ hrow).mono ?_
    rintro e w1 ⟨v, t, a0, b0, c0, d0, S, rfl, hR, hn, hk, hs, b1⟩
    have HM := Lib.hid (hm0.below b1)
    obtain ⟨A, cp, rfl⟩ := hR.shape
    have hcp := hR.caps
    have HR := Lib.hid hR
    have B1 := Lib.hid b1
    have hI := fun w hm h => findI_of (.slice A t.length cp) t a0 b0 c0 d0 S w hm h (by omega) (by omega) (by omega)
    have hS := fun w h => findS_of (.slice A t.length cp) t a0 b0 c0 d0 S w h (by omega) (by omega) (by omega)
    have hA := fun w hm => aboveI_of S w hm (by omega)
    have hSs : S.toList = S.data.toList := Lib.toList_data S
    obtain ⟨s, hs0⟩ : ∃ s, s = S.data.toList := ⟨_, rfl⟩
    rw [← hs0] at hI hS hA hSs
    have hno := @find_no t a0 b0 c0 d0 s
    have hrg := @findF_range t a0 b0 c0 d0 s
    have hroot := @find_root t a0 b0 c0 d0 s
    have hup := @find_up t a0 b0 c0 d0 s
    have hJ := fun w hm h => findI_of (.slice A t.length cp) t a0 b0 c0 d0 (mk (aboveF s)) w hm h (by omega) (by omega) (by rw [mk_size]; have := aboveF_len s; omega)
    rw [mk_data] at hJ
    have hrg2 := @findF_range t a0 b0 c0 d0 (aboveF s)
    generalize findF t a0 b0 c0 d0 s = F at hI hS hno hrg hroot hup
    obtain ⟨n, f⟩ := F
    simp only at hI hS hno hrg hroot hup
    have HI := Lib.hid hI
    have HS := Lib.hid hS
    have HA := Lib.hid hA
    have HJ := Lib.hid hJ
    clear hR b1 hm0 hI hS hA hJ hs0 hs
    go_wp2_with fail
    refine (HI.out _ (HM.out.below (by (repeat (first | exact Below.refl _ _ | exact Hbl.out | refine Below.ext ?_ (by first | omega | (simp; omega) | simp) | refine Below.setCell ?_ (by first | omega | (simp; omega) | simp) _ | refine Below.alloc ?_ (by first | omega | (simp; omega) | simp) _ | refine Below.drew ?_ | refine below_drewN ?_ _ | refine Below.step (by assumption) (by first | omega | (simp; omega) | simp) ?_)))) (HR.out.below (by (repeat (first | exact Below.refl _ _ | exact Hbl.out | refine Below.ext ?_ (by first | omega | (simp; omega) | simp) | refine Below.setCell ?_ (by first | omega | (simp; omega) | simp) _ | refine Below.alloc ?_ (by first | omega | (simp; omega) | simp) _ | refine Below.drew ?_ | refine below_drewN ?_ _ | refine Below.step (by assumption) (by first | omega | (simp; omega) | simp) ?_))))).mono ?_
    rintro e w2 ⟨rfl, b2⟩
    have p0 : w2.cell? ⟨w1.heap.size, 0, none⟩ = some (.int .i64 a0) := (b2.cell (p := ⟨w1.heap.size, 0, none⟩) (by first | (simp; done) | (simp; omega) | omega)).trans (by first | assumption | go_simp)
    have p1 : w2.cell? ⟨w1.heap.size, 1, none⟩ = some (.int .i64 b0) := (b2.cell (p := ⟨w1.heap.size, 1, none⟩) (by first | (simp; done) | (simp; omega) | omega)).trans (by first | assumption | go_simp)
    have p2 : w2.cell? ⟨w1.heap.size, 2, none⟩ = some (.int .i64 c0) := (b2.cell (p := ⟨w1.heap.size, 2, none⟩) (by first | (simp; done) | (simp; omega) | omega)).trans (by first | assumption | go_simp)
    have p3 : w2.cell? ⟨w1.heap.size, 3, none⟩ = some (.int .i64 d0) := (b2.cell (p := ⟨w1.heap.size, 3, none⟩) (by first | (simp; done) | (simp; omega) | omega)).trans (by first | assumption | go_simp)
    have hz2 : w1.heap.size < w2.heap.size := by have := b2.size; simp at this; omega
    have B2 := Lib.hid (Below.step b2 (by simp) (show Below w1.heap.size w1 _ from (by (repeat (first | exact Below.refl _ _ | exact Hbl.out | refine Below.ext ?_ (by first | omega | (simp; omega) | simp) | refine Below.setCell ?_ (by first | omega | (simp; omega) | simp) _ | refine Below.alloc ?_ (by first | omega | (simp; omega) | simp) _ | refine Below.drew ?_ | refine below_drewN ?_ _ | refine Below.step (by assumption) (by first | omega | (simp; omega) | simp) ?_)))))
    clear b2
    go_wp2_with fail
    refine (HS.out _ (HR.out.below B2.out)).mono ?_
    rintro e w3 ⟨rfl, b3⟩
    have q0 : w3.cell? ⟨w1.heap.size, 0, none⟩ = some (.int .i64 a0) := (b3.cell (p := ⟨w1.heap.size, 0, none⟩) (by first | (simp; done) | (simp; omega) | omega)).trans (by first | assumption | go_simp)
    have q1 : w3.cell? ⟨w1.heap.size, 1, none⟩ = some (.int .i64 b0) := (b3.cell (p := ⟨w1.heap.size, 1, none⟩) (by first | (simp; done) | (simp; omega) | omega)).trans (by first | assumption | go_simp)
    have q2 : w3.cell? ⟨w1.heap.size, 2, none⟩ = some (.int .i64 c0) := (b3.cell (p := ⟨w1.heap.size, 2, none⟩) (by first | (simp; done) | (simp; omega) | omega)).trans (by first | assumption | go_simp)
    have q3 : w3.cell? ⟨w1.heap.size, 3, none⟩ = some (.int .i64 d0) := (b3.cell (p := ⟨w1.heap.size, 3, none⟩) (by first | (simp; done) | (simp; omega) | omega)).trans (by first | assumption | go_simp)
    have hz3 : w1.heap.size < w3.heap.size := by have := b3.size; omega
    have B3 := Lib.hid (Below.step b3 B2.out.size B2.out)
    have B3w := Lib.hid (Below.step B3.out B1.out.size B1.out)
    clear b3 B2 HI HS p0 p1 p2 p3
    by_cases hf : f = 0
    · subst hf
      obtain ⟨g1, g2, _, g4, g5⟩ := hrg rfl
      have ha0 := HA.out
      unfold AbvGot at ha0
      cases hok : aboveOk s
      · obtain ⟨hs1, hn0⟩ := hroot rfl hok
        rw [hok] at ha0
        have HA2 := Lib.hid ha0
        have e1 : S.toList = [47] := by rw [hSs, hs1]
        clear ha0 HA hroot hup hno hrg hok hrg2 hSs hs1
        subst hn0
        go_wp2_with fail
        refine (HA2.out _ (HM.out.below B3.out)).mono ?_
        rintro e w4 ⟨rfl, b4⟩
        have B4 := Lib.hid (Below.step b4 B3w.out.size B3w.out)
        clear b4
        go_wp2
        go_ret
        exact ⟨rfl, B4.out⟩
      · obtain ⟨u1, u2, _, u4, u5⟩ := hup hok rfl
        obtain ⟨_, _, _, k4, k5⟩ := hrg2 u1
        rw [hok] at ha0
        have HA2 := Lib.hid ha0
        have hJ := HJ.out
        rw [u1] at hJ
        generalize (findF t a0 b0 c0 d0 (aboveF s)).1 = z at hJ u2 u4 u5 k4 k5
        obtain ⟨m, rfl⟩ : ∃ m : Nat, z = (m : Int) := ⟨z.toNat, by omega⟩
        rw [Int.toNat_natCast] at u4 u5
        have hm : m < t.length := by omega
        have hm' : (m : Int) < (t.length : Int) := by omega
        have hmem := kidF_mem u5 (fun j hj => ((node_kids (tree_node g1 hm)).2 j hj).1)
        have Hns := Lib.hid (head_ks (tree_node g1 hm))
        have Hasc := Lib.hid (asc_of (tree_node g1 hm))
        have Hu4 := Lib.hid u4
        have Hmem := Lib.hid hmem
        have HJ2 := Lib.hid hJ
        clear ha0 HA hroot hup hno hrg hok hrg2 hSs hJ HJ u4 u5 hmem u1 u2
        generalize aboveF s = sa at HA2 HJ2
        generalize lastF s = sl at HA2 Hu4 Hmem
        go_wp2_with fail
        refine (HA2.out _ (HM.out.below B3.out)).mono ?_
        rintro e w4 ⟨rfl, b4⟩
        have r0 : w4.cell? ⟨w1.heap.size, 0, none⟩ = some (.int .i64 a0) := (b4.cell (p := ⟨w1.heap.size, 0, none⟩) (by first | (simp; done) | (simp; omega) | omega)).trans (by first | assumption | go_simp)
        have r1 : w4.cell? ⟨w1.heap.size, 1, none⟩ = some (.int .i64 b0) := (b4.cell (p := ⟨w1.heap.size, 1, none⟩) (by first | (simp; done) | (simp; omega) | omega)).trans (by first | assumption | go_simp)
        have r2 : w4.cell? ⟨w1.heap.size, 2, none⟩ = some (.int .i64 c0) := (b4.cell (p := ⟨w1.heap.size, 2, none⟩) (by first | (simp; done) | (simp; omega) | omega)).trans (by first | assumption | go_simp)
        have r3 : w4.cell? ⟨w1.heap.size, 3, none⟩ = some (.int .i64 d0) := (b4.cell (p := ⟨w1.heap.size, 3, none⟩) (by first | (simp; done) | (simp; omega) | omega)).trans (by first | assumption | go_simp)
        have hz4 : w1.heap.size < w4.heap.size := by have := b4.size; omega
        have B4 := Lib.hid (Below.step b4 B3.out.size B3.out)
        clear b4
        go_wp2_with fail
        refine (HJ2.out _ (HM.out.below B4.out) (HR.out.below B4.out)).mono ?_
        rintro e w5 ⟨rfl, b5⟩
        have B5 := Lib.hid (Below.step b5 B4.out.size B4.out)
        have B5w := Lib.hid (Below.step B5.out B1.out.size B1.out)
        clear b5 B4
        obtain ⟨bt, ot, nA, nC, kA, kC, rfl, hbt, hNS, y0, y1, y2, y3, y4, y5, y6⟩ := (HR.out.below B5.out).at_ (kth_at hm)
        have hc1 := hNS.ns.caps
        have HN := Lib.hid hNS.ns
        have HK := Lib.hid hNS.ks
        clear hNS q0 q1 q2 q3 r0 r1 r2 r3
        go_wp2
        go_loopw [15] (fun i wr => ∃ k : Nat, k ≤ (kth t m).ns.length ∧ i = .int .i64 k ∧ wr = w5 ∧ ∀ j, j < k → ¬ nthN (kth t m) j = sl) (fun i _ => (kth t m).ns.length - (intOf i).toNat)
        case atStart => exact ⟨0, Nat.zero_le _, rfl, rfl, fun j hj => by omega⟩
        case round =>
          obtain ⟨k, hk, rfl, rfl, hall⟩ := hrel
          have Hall := Lib.hid hall
          clear hall
          by_cases hlt : k < (kth t m).ns.length
          · have hkk : k < (kth t m).ks.length := by rw [← Hns.out]; exact hlt
            obtain ⟨b6, o6, rfl, hb6, q6⟩ := HN.out.at_ (nthN_at hlt)
            obtain ⟨b7, o7, rfl, hb7, q7⟩ := HK.out.at_ (nthK_at hkk)
            have c6 : wr.cell? ⟨b6, o6 + k, none⟩ = some (.string (mk (nthN (kth t m) k))) := by have := q6 0 _ rfl; simpa [EL] using this
            have c7 : wr.cell? ⟨b7, o7 + k, none⟩ = some (.int .i64 (nthK (kth t m) k)) := by have := q7 0 _ rfl; simpa [EI] using this
            have hlt' : (k : Int) < ((kth t m).ns.length : Int) := by omega
            have hkk' : (k : Int) < ((kth t m).ks.length : Int) := by omega
            have zk : IntKind.i64.wrap ((k : Int) + 1) = (k : Int) + 1 := IntWalk.i64_in _ (by omega)
            clear q6 q7
            by_cases he : nthN (kth t m) k = sl
            · have hkid : kidF (kth t m) sl = nthK (kth t m) k := kid_some hlt he Hall.out
              have hnk : n = nthK (kth t m) k := by rw [Hu4.out, hkid]
              rw [he] at c6
              rw [← hnk] at c7
              clear hkid hnk he
              go_wp2
              go_ret
              exact ⟨rfl, B5w.out⟩
            · have e1 : ¬ (mk (nthN (kth t m) k)).toList = (mk sl).toList := by rw [mk_toList, mk_toList]; exact he
              have e2 : ((mk (nthN (kth t m) k)).toList == (mk sl).toList) = false := beq_eq_false_iff_ne.2 e1
              have He := Lib.hid he
              clear he
              go_wp2
              go_roundw
              case rel => exact ⟨k + 1, hlt, by go_num, by first | trivial | rfl, fun j hj => by
                by_cases e : j = k
                · subst e; exact He.out
                · exact Hall.out j (by omega)⟩
              case measure => simp [intOf, zk]; omega
          · exfalso
            obtain ⟨j, hj, hj2⟩ := List.mem_iff_getElem.1 Hmem.out
            refine Hall.out j (by omega) ?_
            unfold nthN
            rw [List.getD_eq_getElem?_getD, List.getElem?_eq_getElem hj, hj2]; rfl
    · obtain ⟨hn1, hn2, hn3⟩ := hno hf
      subst hn1
      clear hroot hup hno hrg hrg2
      have d1 : decide (1 ≤ f) = true := decide_eq_true hn2
      have d2 : decide (f ≤ 4) = true := decide_eq_true hn3
      go_wp2_with (go_at_call 16; refine (alive_any _).mono ?_; rintro e w' ⟨rfl, rfl⟩)
      go_ret
      exact ⟨rfl, B3w.out⟩
end Go.Proofs.YthfneaaenlgegaaDoor
