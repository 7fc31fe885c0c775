/- The laws' comparison of trees, at equal ones. -/
import Derived.Test.YtkennmpbmbacpaaGreatDoorMH
import Derived.Test.YtkennmpbmbacpaaGreatDoorLex
import Derived.Deep.QuietTactic
set_option linter.unusedSimpArgs false
set_option linter.unusedVariables false
set_option linter.unusedSectionVars false
namespace Go.Proofs.YtkennmpbmbacpaaGreatDoor
open Go.RowKit

theorem quietB_free {P : Program} {f : FuncId} {args : Array Value} {w : World} {n : Nat} {b : Bool}
    (h : Calls P f args (w.drewN n) (QuietB (w.drewN n) b)) : Calls P f args (w.drewN n) fun e w'' => e = .returned (.bool b) ∧ ∃ m, w'' = w.drewN m :=
  h.mono fun _ _ ⟨he, m, hm⟩ => ⟨he, n + m, by rw [hm, World.drewN_drewN]⟩
set_option maxRecDepth 100000 in
set_option maxHeartbeats 20000000 in
theorem sameTree_of (u v : Value) (t : List Nd) (w : World) (hu : TreeR w u t) (hv : TreeR w v t) (ht : t.length ≤ 1000) : Calls Tryz.prog 13 #[u, v] w (QuietB w true) := by
  have Hu := Lib.hid hu
  have Hv := Lib.hid hv
  obtain ⟨A, cap, rfl⟩ := hu.shape
  obtain ⟨B, cap', rfl⟩ := hv.shape
  have hcap := hu.caps
  have hcap' := hv.caps
  clear hu hv
  go_enter Tryz.func13, Tryz.ntmps13
  go_wp2
  go_loopw [5] (fun i wr => ∃ k nd : Nat, k ≤ t.length ∧ i = .int .i64 k ∧ wr = w.drewN nd) (fun i _ => t.length - (intOf i).toNat)
  case atStart => exact ⟨0, 0, Nat.zero_le _, rfl, rfl⟩
  case round =>
    obtain ⟨k, nd, hk, rfl, hw⟩ := hrel
    have hB : Below w.heap.size w wr := by rw [hw]; exact below_drewN (Below.refl _ _) _
    have Hw := Lib.hid hw
    clear hw
    by_cases hlt : k < t.length
    · have hlt' : (k : Int) < (t.length : Int) := by omega
      have zk : IntKind.i64.wrap ((k : Int) + 1) = (k : Int) + 1 := IntWalk.i64_in _ (by omega)
      obtain ⟨bt, ot, nA, nC, kA, kC, rfl, hbt, hS, x0, x1, x2, x3, x4, x5, x6⟩ := (Hu.out.below hB).at_ (kth_at hlt)
      obtain ⟨bu, ou, mA, mC, lA, lC, rfl, hbu, hS2, y0, y1, y2, y3, y4, y5, y6⟩ := (Hv.out.below hB).at_ (kth_at hlt)
      have HS := Lib.hid hS
      have HS2 := Lib.hid hS2
      generalize kth t k = x at HS HS2 x0 x1 x2 x3 x4 x5 x6 y0 y1 y2 y3 y4 y5 y6
      have HT := Lib.hid (fun n => by
        have h := sameTexts_of (.slice nA x.ns.length nC) (.slice mA x.ns.length mC) x.ns x.ns (wr.drewN n) (HS.out.ns.below (below_drewN (Below.refl _ _) _)) (HS2.out.ns.below (below_drewN (Below.refl _ _) _))
        rw [decide_eq_true rfl] at h
        exact h)
      have HI := Lib.hid (fun n => by
        have h := sameInts_of (.slice kA x.ks.length kC) (.slice lA x.ks.length lC) x.ks x.ks (wr.drewN n) (HS.out.ks.below (below_drewN (Below.refl _ _) _)) (HS2.out.ks.below (below_drewN (Below.refl _ _) _))
        rw [decide_eq_true rfl] at h
        exact h)
      clear hS hS2 hB
      go_wp2_with fail
      refine wp_region_quiet_lit (by kernel_rfl) (lex_of (by kernel_rfl) (by kernel_rfl)) ?_
      dsimp only [List.append]
      repeat (go_big_quiet_step ((first | (go_at_call 48; exact quietB_free (HT.out _)) | (go_at_call 49; exact quietB_free (HI.out _)))))
      refine wpQuiet_nil ?_
      intro _ hw'
      obtain ⟨nq, hw''⟩ := hw'
      subst hw''
      go_wp2
      go_roundw
      case rel => exact ⟨k + 1, nd + nq, hlt, by go_num, by rw [Hw.out]; simp [World.drewN, Nat.add_assoc]⟩
      case measure => simp [intOf]; omega
    · obtain rfl : k = t.length := by omega
      clear hB
      go_wp2
      go_ret
      exact ⟨rfl, nd, Hw.out⟩
end Go.Proofs.YtkennmpbmbacpaaGreatDoor
