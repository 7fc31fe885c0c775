/- The drawn law on ListNames: the walk. -/
import Derived.Test.YthfneaaenlgegaaGreatDoorDrawG
import Derived.Test.YthfneaaenlgegaaGreatDoorListP
import Derived.Test.YthfneaaenlgegaaGreatDoorMH
set_option linter.unusedSimpArgs false
set_option linter.unusedVariables false
set_option linter.unusedSectionVars false
namespace Go.Proofs.YthfneaaenlgegaaGreatDoor
open Go.RowKit

theorem mkE_ne {l : List UInt8} (h : l ≠ []) : (mk l).toList.isEmpty = false := by
  rw [Lib.toList_data, Bool.eq_false_iff]
  intro e
  exact h (List.isEmpty_iff.1 e)
set_option maxRecDepth 100000 in
set_option maxHeartbeats 8000000 in
theorem walkFnListNames (a : Option Addr) (len cap : Nat) (zs : List Int) (w : World) (hsh : w.ShapedOpen Tryz.prog) (hrow : IsRow .u8 w a len cap zs) :
    Calls Tryz.prog 5 #[.slice a len cap] w fun e w' => e = .returned (.bool true) ∧ Below w.heap.size w w' := by
  obtain ⟨hl1, hl2⟩ := hrow.len_le
  unfold maxLen at hl2
  by_cases hbig : (1048576 : Int) < (len : Int)
  · go_enter Tryz.func5, Tryz.ntmps5
    go_wp2
    go_ret
    exact ⟨rfl, Below.refl _ _⟩
  · have hm0 := maxL_of hsh
    go_enter Tryz.func5, Tryz.ntmps5
    go_wp2_with fail
    refine (drawLN_any a len cap zs _ hrow).mono ?_
    rintro e w1 ⟨v, t, a0, b0, c0, d0, S, rfl, hR0, hn, hk, hs, b1⟩
    have hR := hR0.r
    clear hR0
    have HM := Lib.hid (hm0.below b1)
    obtain ⟨A, cp, rfl⟩ := hR.shape
    have hcp := hR.caps
    have HR := Lib.hid hR
    have B1 := Lib.hid b1
    have hI := fun w hm h => listI_of (.slice A t.length cp) t a0 b0 c0 d0 S w hm h (by omega) (by omega) (by omega)
    have hS := fun w hm h => listS_of (.slice A t.length cp) t a0 b0 c0 d0 S w hm h (by omega) (by omega) (by omega)
    have hMA := fun w hm h => mayAtI_of (.slice A t.length cp) t a0 b0 c0 d0 S 1 w hm h (by omega) (by omega) (by omega)
    have hJ := fun (N : List UInt8) w hm h (hN : N.length ≤ 54) => findI_of (.slice A t.length cp) t a0 b0 c0 d0 (mk N) w hm h (by omega) (by omega) (by rw [mk_size]; omega)
    have hFo := fun (x : List UInt8) w hm (hx : x.length ≤ 8) => followI_of S (mk x) w hm (by omega) (by rw [mk_size]; omega)
    generalize S.data.toList = s at hI hS hMA hFo
    have hno := @list_no t a0 b0 c0 d0 s
    have hlaw := @list_law t a0 b0 c0 d0 s
    generalize listF t a0 b0 c0 d0 s = M at hI hS hno hlaw
    generalize mayAtF t a0 b0 c0 d0 s 1 = may at hMA hlaw
    obtain ⟨xs, f⟩ := M
    simp only at hI hS hno hlaw
    have HI := Lib.hid hI
    have HS := Lib.hid hS
    have HMA := Lib.hid hMA
    have HJ := Lib.hid hJ
    have HFo := Lib.hid hFo
    have Hno := Lib.hid hno
    have Hlaw := Lib.hid hlaw
    clear hR b1 hm0 hI hS hMA hJ hFo hno hlaw hs
    go_wp2_with fail
    refine (HI.out _ (HM.out.below (by (repeat (first | exact Below.refl _ _ | exact Hbl.out | refine Below.ext ?_ (by first | omega | (simp; omega) | simp) | refine Below.setCell ?_ (by first | omega | (simp; omega) | simp) _ | refine Below.alloc ?_ (by first | omega | (simp; omega) | simp) _ | refine Below.drew ?_ | refine below_drewN ?_ _ | refine Below.step (by assumption) (by first | omega | (simp; omega) | simp) ?_)))) (HR.out.below (by (repeat (first | exact Below.refl _ _ | exact Hbl.out | refine Below.ext ?_ (by first | omega | (simp; omega) | simp) | refine Below.setCell ?_ (by first | omega | (simp; omega) | simp) _ | refine Below.alloc ?_ (by first | omega | (simp; omega) | simp) _ | refine Below.drew ?_ | refine below_drewN ?_ _ | refine Below.step (by assumption) (by first | omega | (simp; omega) | simp) ?_))))).mono ?_
    rintro e w2 ⟨x, rfl, o2, b2⟩
    have p0 : w2.cell? ⟨w1.heap.size, 0, none⟩ = some (.int .i64 a0) := (b2.cell (p := ⟨w1.heap.size, 0, none⟩) (by first | (simp; done) | (simp; omega) | omega)).trans (by first | assumption | go_simp)
    have p1 : w2.cell? ⟨w1.heap.size, 1, none⟩ = some (.int .i64 b0) := (b2.cell (p := ⟨w1.heap.size, 1, none⟩) (by first | (simp; done) | (simp; omega) | omega)).trans (by first | assumption | go_simp)
    have p2 : w2.cell? ⟨w1.heap.size, 2, none⟩ = some (.int .i64 c0) := (b2.cell (p := ⟨w1.heap.size, 2, none⟩) (by first | (simp; done) | (simp; omega) | omega)).trans (by first | assumption | go_simp)
    have p3 : w2.cell? ⟨w1.heap.size, 3, none⟩ = some (.int .i64 d0) := (b2.cell (p := ⟨w1.heap.size, 3, none⟩) (by first | (simp; done) | (simp; omega) | omega)).trans (by first | assumption | go_simp)
    have hz2 : w1.heap.size < w2.heap.size := by have := b2.size; simp at this; omega
    have B2 := Lib.hid (Below.step b2 (by simp) (show Below w1.heap.size w1 _ from (by (repeat (first | exact Below.refl _ _ | exact Hbl.out | refine Below.ext ?_ (by first | omega | (simp; omega) | simp) | refine Below.setCell ?_ (by first | omega | (simp; omega) | simp) _ | refine Below.alloc ?_ (by first | omega | (simp; omega) | simp) _ | refine Below.drew ?_ | refine below_drewN ?_ _ | refine Below.step (by assumption) (by first | omega | (simp; omega) | simp) ?_)))))
    obtain ⟨A2, c2, rfl⟩ := ownG_shape o2
    have X2 := Lib.hid (ownG_sl o2)
    clear b2 o2
    go_wp2_with fail
    refine (HS.out _ trivial (HR.out.below B2.out)).mono ?_
    rintro e w3 ⟨y, rfl, o3, b3⟩
    have q0 : w3.cell? ⟨w1.heap.size, 0, none⟩ = some (.int .i64 a0) := (b3.cell (p := ⟨w1.heap.size, 0, none⟩) (by first | (simp; done) | (simp; omega) | omega)).trans (by first | assumption | go_simp)
    have q1 : w3.cell? ⟨w1.heap.size, 1, none⟩ = some (.int .i64 b0) := (b3.cell (p := ⟨w1.heap.size, 1, none⟩) (by first | (simp; done) | (simp; omega) | omega)).trans (by first | assumption | go_simp)
    have q2 : w3.cell? ⟨w1.heap.size, 2, none⟩ = some (.int .i64 c0) := (b3.cell (p := ⟨w1.heap.size, 2, none⟩) (by first | (simp; done) | (simp; omega) | omega)).trans (by first | assumption | go_simp)
    have q3 : w3.cell? ⟨w1.heap.size, 3, none⟩ = some (.int .i64 d0) := (b3.cell (p := ⟨w1.heap.size, 3, none⟩) (by first | (simp; done) | (simp; omega) | omega)).trans (by first | assumption | go_simp)
    have hz3 : w1.heap.size < w3.heap.size := by have := b3.size; omega
    have B3 := Lib.hid (Below.step b3 B2.out.size B2.out)
    have X3 := Lib.hid (X2.out.below b3)
    have hsm := sameTexts_of _ _ _ _ w3 X3.out (ownG_sl o3)
    obtain ⟨A3, c3, rfl⟩ := ownG_shape o3
    rw [decide_eq_true rfl] at hsm
    have Hsm := Lib.hid hsm
    clear b3 o3 B2 X2 HI HS p0 p1 p2 p3 hsm
    go_wp2_with fail
    refine Hsm.out.mono ?_
    rintro e w4 ⟨rfl, nd, hw4⟩
    have hd4 : Below w3.heap.size w3 w4 := by rw [hw4]; exact below_drewN (Below.refl _ _) _
    clear hw4
    have r0 : w4.cell? ⟨w1.heap.size, 0, none⟩ = some (.int .i64 a0) := (hd4.cell (p := ⟨w1.heap.size, 0, none⟩) (by first | (simp; done) | (simp; omega) | omega)).trans (by first | assumption | go_simp)
    have r1 : w4.cell? ⟨w1.heap.size, 1, none⟩ = some (.int .i64 b0) := (hd4.cell (p := ⟨w1.heap.size, 1, none⟩) (by first | (simp; done) | (simp; omega) | omega)).trans (by first | assumption | go_simp)
    have r2 : w4.cell? ⟨w1.heap.size, 2, none⟩ = some (.int .i64 c0) := (hd4.cell (p := ⟨w1.heap.size, 2, none⟩) (by first | (simp; done) | (simp; omega) | omega)).trans (by first | assumption | go_simp)
    have r3 : w4.cell? ⟨w1.heap.size, 3, none⟩ = some (.int .i64 d0) := (hd4.cell (p := ⟨w1.heap.size, 3, none⟩) (by first | (simp; done) | (simp; omega) | omega)).trans (by first | assumption | go_simp)
    have B4 := Lib.hid (Below.step hd4 B3.out.size B3.out)
    have B4w := Lib.hid (Below.step B4.out B1.out.size B1.out)
    have X4 := Lib.hid (X3.out.below hd4)
    have hz4 : w1.heap.size < w4.heap.size := by have := hd4.size; omega
    clear hd4 Hsm B3 X3 q0 q1 q2 q3
    by_cases hf : f = 0
    · subst hf
      have hlaw := Hlaw.out rfl
      have Hlaw' := Lib.hid hlaw
      clear Hlaw Hno hlaw
      go_wp2_with fail
      refine (HMA.out _ (HM.out.below B4.out) (HR.out.below B4.out)).mono ?_
      rintro e w5 ⟨rfl, b5⟩
      have p0 : w5.cell? ⟨w1.heap.size, 0, none⟩ = some (.int .i64 a0) := (b5.cell (p := ⟨w1.heap.size, 0, none⟩) (by first | (simp; done) | (simp; omega) | omega)).trans (by first | assumption | go_simp)
      have p1 : w5.cell? ⟨w1.heap.size, 1, none⟩ = some (.int .i64 b0) := (b5.cell (p := ⟨w1.heap.size, 1, none⟩) (by first | (simp; done) | (simp; omega) | omega)).trans (by first | assumption | go_simp)
      have p2 : w5.cell? ⟨w1.heap.size, 2, none⟩ = some (.int .i64 c0) := (b5.cell (p := ⟨w1.heap.size, 2, none⟩) (by first | (simp; done) | (simp; omega) | omega)).trans (by first | assumption | go_simp)
      have p3 : w5.cell? ⟨w1.heap.size, 3, none⟩ = some (.int .i64 d0) := (b5.cell (p := ⟨w1.heap.size, 3, none⟩) (by first | (simp; done) | (simp; omega) | omega)).trans (by first | assumption | go_simp)
      have B5 := Lib.hid (Below.step b5 B4.out.size B4.out)
      have B5w := Lib.hid (Below.step B5.out B1.out.size B1.out)
      have X5 := Lib.hid (X4.out.below b5)
      have hz5 : w1.heap.size < w5.heap.size := by have := b5.size; omega
      have hcaps := X5.out.caps
      clear b5 r0 r1 r2 r3 B4 B4w X4
      go_wp2
      go_loopw [11, 12, 13, 14] (fun i _ _ _ wr => ∃ k, k ≤ xs.length ∧ i = .int .i64 k ∧ Below w5.heap.size w5 wr) (fun i _ _ _ _ => xs.length - (intOf i).toNat)
      case atStart => exact ⟨0, Nat.zero_le _, rfl, Below.refl _ _⟩
      case round =>
        obtain ⟨k, hkl, rfl, hB⟩ := hrel
        have HB := Lib.hid hB
        by_cases hlt : k < xs.length
        · have hlt' : (k : Int) < (xs.length : Int) := by omega
          have zk : IntKind.i64.wrap ((k : Int) + 1) = (k : Int) + 1 := IntWalk.i64_in _ (by omega)
          obtain ⟨l1, l2⟩ := Hlaw'.out _ (List.getElem_mem hlt)
          obtain ⟨bx, ox, rfl, hbx, hcx⟩ := (X5.out.below hB).at_ (List.getElem?_eq_getElem hlt)
          have cx : wr.cell? ⟨bx, ox + k, none⟩ = some (.string (mk xs[k])) := by have := hcx 0 _ rfl; simpa [EL] using this
          have hl8 := nameB_size l1
          have HF1 := Lib.hid (fun w hm => HFo.out xs[k] w hm hl8)
          have hN := follow_size s xs[k]
          have hmk : (mk xs[k]).data.toList = xs[k] := by unfold mk; rfl
          rw [hmk] at HF1
          generalize xs[k] = nm at cx l2 HF1 hN
          have HJ1 := Lib.hid (fun w hm h => HJ.out (followF s nm) w hm h hN)
          generalize followF s nm = N at l2 HF1 hN HJ1
          have hmkN : (mk N).data.toList = N := by unfold mk; rfl
          rw [hmkN] at HJ1
          generalize findF t a0 b0 c0 d0 N = G at l2 HJ1
          obtain ⟨n, f⟩ := G
          simp only at l2 HJ1
          have Hl2 := Lib.hid l2
          have q0 : wr.cell? ⟨w1.heap.size, 0, none⟩ = some (.int .i64 a0) := (hB.cell (p := ⟨w1.heap.size, 0, none⟩) (by first | (simp; done) | (simp; omega) | omega)).trans (by first | assumption | go_simp)
          have q1 : wr.cell? ⟨w1.heap.size, 1, none⟩ = some (.int .i64 b0) := (hB.cell (p := ⟨w1.heap.size, 1, none⟩) (by first | (simp; done) | (simp; omega) | omega)).trans (by first | assumption | go_simp)
          have q2 : wr.cell? ⟨w1.heap.size, 2, none⟩ = some (.int .i64 c0) := (hB.cell (p := ⟨w1.heap.size, 2, none⟩) (by first | (simp; done) | (simp; omega) | omega)).trans (by first | assumption | go_simp)
          have q3 : wr.cell? ⟨w1.heap.size, 3, none⟩ = some (.int .i64 d0) := (hB.cell (p := ⟨w1.heap.size, 3, none⟩) (by first | (simp; done) | (simp; omega) | omega)).trans (by first | assumption | go_simp)
          have hzr : w1.heap.size < wr.heap.size := by have := hB.size; omega
          have Br := Lib.hid (Below.step hB B5.out.size B5.out)
          clear l1 l2 hcx hB hmk hmkN p0 p1 p2 p3
          go_wp2_with fail
          refine (HF1.out _ (HM.out.below Br.out)).mono ?_
          rintro e w6 ⟨rfl, b6⟩
          have r0 : w6.cell? ⟨w1.heap.size, 0, none⟩ = some (.int .i64 a0) := (b6.cell (p := ⟨w1.heap.size, 0, none⟩) (by first | (simp; done) | (simp; omega) | omega)).trans (by first | assumption | go_simp)
          have r1 : w6.cell? ⟨w1.heap.size, 1, none⟩ = some (.int .i64 b0) := (b6.cell (p := ⟨w1.heap.size, 1, none⟩) (by first | (simp; done) | (simp; omega) | omega)).trans (by first | assumption | go_simp)
          have r2 : w6.cell? ⟨w1.heap.size, 2, none⟩ = some (.int .i64 c0) := (b6.cell (p := ⟨w1.heap.size, 2, none⟩) (by first | (simp; done) | (simp; omega) | omega)).trans (by first | assumption | go_simp)
          have r3 : w6.cell? ⟨w1.heap.size, 3, none⟩ = some (.int .i64 d0) := (b6.cell (p := ⟨w1.heap.size, 3, none⟩) (by first | (simp; done) | (simp; omega) | omega)).trans (by first | assumption | go_simp)
          have B6 := Lib.hid (Below.step b6 Br.out.size Br.out)
          have HB6 := Lib.hid (Below.step b6 HB.out.size HB.out)
          have hz6 : w1.heap.size < w6.heap.size := by have := b6.size; omega
          clear b6 q0 q1 q2 q3
          go_wp2_with fail
          refine (HJ1.out _ (HM.out.below B6.out) (HR.out.below B6.out)).mono ?_
          rintro e w7 ⟨rfl, b7⟩
          have HB7 := Lib.hid (Below.step b7 HB6.out.size HB6.out)
          clear b7 r0 r1 r2 r3
          by_cases hN0 : N = []
          · subst hN0
            have hmE : (mk ([] : List UInt8)).toList.isEmpty = true := by rw [Lib.toList_data]; rfl
            go_wp2
            go_roundw
            case rel => exact ⟨k + 1, hlt, by go_num, HB7.out⟩
            case measure => simp [intOf]; omega
          · have hmE := mkE_ne hN0
            have hiff : f = 0 ↔ may = 0 := by
              rcases Hl2.out with h | h
              · exact absurd h hN0
              · exact h
            have heq : (f == 0) = (may == 0) := by
              by_cases h1 : f = 0
              · rw [h1, hiff.1 h1]
              · have h2 : ¬ may = 0 := fun h => h1 (hiff.2 h)
                rw [beq_eq_false_iff_ne.2 h1, beq_eq_false_iff_ne.2 h2]
            clear hiff Hl2
            cases hmay : (may == 0)
            all_goals
              rw [hmay] at heq
              go_wp2
              go_roundw
              case rel => exact ⟨k + 1, hlt, by go_num, HB7.out⟩
              case measure => simp [intOf]; omega
        · obtain rfl : k = xs.length := by omega
          have Bw := Lib.hid (Below.step hB B5w.out.size B5w.out)
          clear hB
          go_wp2
          go_ret
          exact ⟨rfl, Bw.out⟩
    · have d1 : (f != 0) = true := by simpa using hf
      obtain rfl := Hno.out hf
      clear Hno Hlaw
      go_wp2_with (go_at_call 11; refine (alive_any _).mono ?_; rintro e w' ⟨rfl, rfl⟩)
      go_ret
      exact ⟨rfl, B4w.out⟩
end Go.Proofs.YthfneaaenlgegaaGreatDoor
