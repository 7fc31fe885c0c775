/- The package's 'kid': the walk. -/
import Derived.Test.YtkennmpbmbacpaaGreatDoorShelf
import Derived.Test.YtkennmpbmbacpaaGreatDoorKidP
set_option linter.unusedSimpArgs false
set_option linter.unusedVariables false
set_option linter.unusedSectionVars false
namespace Go.Proofs.YtkennmpbmbacpaaGreatDoor
open Go.RowKit

def sxN (x : Nd) (s : List UInt8) (j : Nat) : ByteArray := if j < x.ns.length then mk (nthN x j) else mk s
theorem bs_putAt {x : Nd} (h : Asc x) (s : List UInt8) : Lib.bsGo (fun t => Op.bytesLess (sxN x s t).toList (mk s).toList) x.ns.length 0 x.ns.length = putAt x s := by
  refine Lib.bsGo_spec _ (putAt x s) (fun t ht => ?_) (fun t ht => ?_) _ _ _ (by omega) (Nat.zero_le _) (putAt_le x s)
  · have hl := putAt_le x s
    unfold sxN
    rw [if_pos (by omega), mk_toList, mk_toList]
    exact putAt_lt ht
  · unfold sxN
    split
    · next hl => rw [mk_toList, mk_toList]; exact asc_ge h ht hl
    · rw [mk_toList]; exact ltL_irr s
theorem mk_inj {a b : List UInt8} (h : mk a = mk b) : a = b := by
  have := congrArg (fun x => x.data.toList) h
  simpa only [mk_data] using this
set_option maxHeartbeats 1000000 in
/-- slices.BinarySearch in the names of a node: where the name goes, and whether it is there. -/
theorem searchI_of (nA : Option Addr) (nC : Nat) (x : Nd) (s : List UInt8) (w : World) (h : SlG EL w (.slice nA x.ns.length nC) x.ns) (ha : Asc x) (hl : x.ns.length ≤ 1000000) :
    Calls Tryz.prog 88 #[.slice nA x.ns.length nC, .string (mk s)] w fun e w' => e = .returned (.tuple #[.int .i64 (putAt x s), .bool (decide (putAt x s < x.ns.length ∧ nthN x (putAt x s) = s))]) ∧ ∃ q, w' = w.drewN q := by
  by_cases hn : x.ns.length = 0
  · have h0 : putAt x s = 0 := by have := putAt_le x s; omega
    rw [hn, h0]
    refine (Tryz.slices_BinarySearch_string_empty nA nC (mk s) w).mono ?_
    rintro e w' ⟨h1, h2⟩
    subst h2
    exact ⟨by simpa using h1, 0, rfl⟩
  · obtain ⟨b, off, rfl, hb, _⟩ := h.at_ (nthN_at (show 0 < x.ns.length by omega))
    have hc : ∀ j, j < x.ns.length → w.cell? ⟨b, off + j, none⟩ = some (.string (sxN x s j)) := fun j hj => by
      obtain ⟨b', off', e, _, q⟩ := h.at_ (nthN_at hj)
      cases e
      have := q 0 _ rfl
      unfold sxN
      rw [if_pos hj]
      simpa [EL] using this
    refine (Tryz.slices_BinarySearch_string b off x.ns.length nC (sxN x s) (mk s) w (by omega) hc).mono ?_
    rintro e w' ⟨rfl, hq⟩
    rw [bs_putAt ha s]
    refine ⟨?_, hq⟩
    have hd : decide (putAt x s < x.ns.length ∧ sxN x s (putAt x s) = mk s) = decide (putAt x s < x.ns.length ∧ nthN x (putAt x s) = s) := by
      refine decide_eq_decide.2 (and_congr_right fun hp => ?_)
      unfold sxN
      rw [if_pos hp]
      exact ⟨mk_inj, fun e => by rw [e]⟩
    rw [hd]
set_option maxRecDepth 100000 in
set_option maxHeartbeats 4000000 in
theorem kidI_of (nA : Option Addr) (nC : Nat) (kA : Option Addr) (kC : Nat) (x : Nd) (s : List UInt8) (w : World) (h : NdS w nA nC kA kC x) (hl : x.ns.length = x.ks.length) (ha : Asc x) (hb : x.ns.length ≤ 1000000) :
    Calls Tryz.prog 54 #[.agg #[.bool x.fo, .int .i64 x.ow, .int .i64 x.gr, .int .i64 x.mo, .string x.tx, .slice nA x.ns.length nC, .slice kA x.ks.length kC], .string (mk s)] w fun e w' => e = .returned (.int .i64 (kidF x s)) ∧ Below w.heap.size w w' := by
  have HS := Lib.hid (fun w h => searchI_of nA nC x s w h ha hb)
  have hk := kid_put ha s
  have Hns := Lib.hid h.ns
  have Hks := Lib.hid h.ks
  have hp := putAt_le x s
  by_cases hf : putAt x s < x.ns.length ∧ nthN x (putAt x s) = s
  · rw [if_pos hf] at hk
    rw [decide_eq_true hf] at HS
    have hf1 : putAt x s < x.ks.length := by omega
    obtain ⟨b2, o2, rfl, hb2, q2⟩ := h.ks.at_ (nthK_at hf1)
    have c2 : w.cell? ⟨b2, o2 + putAt x s, none⟩ = some (.int .i64 (nthK x (putAt x s))) := by have := q2 0 _ rfl; simpa [EI] using this
    have HR := Lib.hid hk
    obtain ⟨p, hp0⟩ : ∃ p, p = putAt x s := ⟨_, rfl⟩
    rw [← hp0] at c2 hf1 HS HR
    have hf2 : (p : Int) < (x.ks.length : Int) := by omega
    clear q2 hk h hp hf hp0 ha hl
    go_enter Tryz.func54, Tryz.ntmps54
    go_wp2_with (go_at_call 88; refine (HS.out _ (Hns.out.below (by (repeat (first | exact Below.refl _ _ | exact Hbl.out | refine Below.ext ?_ (by first | omega | (simp; omega) | simp) | refine Below.setCell ?_ (by first | omega | (simp; omega) | simp) _ | refine Below.alloc ?_ (by first | omega | (simp; omega) | simp) _ | refine Below.drew ?_ | refine below_drewN ?_ _ | refine Below.step (by assumption) (by first | omega | (simp; omega) | simp) ?_))))).mono ?_; rintro e w' ⟨rfl, q, rfl⟩)
    go_ret
    exact ⟨by rw [HR.out]; rfl, (by (repeat (first | exact Below.refl _ _ | exact Hbl.out | refine Below.ext ?_ (by first | omega | (simp; omega) | simp) | refine Below.setCell ?_ (by first | omega | (simp; omega) | simp) _ | refine Below.alloc ?_ (by first | omega | (simp; omega) | simp) _ | refine Below.drew ?_ | refine below_drewN ?_ _ | refine Below.step (by assumption) (by first | omega | (simp; omega) | simp) ?_)))⟩
  · rw [if_neg hf] at hk
    rw [decide_eq_false hf] at HS
    have HR := Lib.hid hk
    generalize putAt x s = p at HS
    clear hk h hp hf ha hl
    go_enter Tryz.func54, Tryz.ntmps54
    go_wp2_with (go_at_call 88; refine (HS.out _ (Hns.out.below (by (repeat (first | exact Below.refl _ _ | exact Hbl.out | refine Below.ext ?_ (by first | omega | (simp; omega) | simp) | refine Below.setCell ?_ (by first | omega | (simp; omega) | simp) _ | refine Below.alloc ?_ (by first | omega | (simp; omega) | simp) _ | refine Below.drew ?_ | refine below_drewN ?_ _ | refine Below.step (by assumption) (by first | omega | (simp; omega) | simp) ?_))))).mono ?_; rintro e w' ⟨rfl, q, rfl⟩)
    go_ret
    exact ⟨by rw [HR.out]; rfl, (by (repeat (first | exact Below.refl _ _ | exact Hbl.out | refine Below.ext ?_ (by first | omega | (simp; omega) | simp) | refine Below.setCell ?_ (by first | omega | (simp; omega) | simp) _ | refine Below.alloc ?_ (by first | omega | (simp; omega) | simp) _ | refine Below.drew ?_ | refine below_drewN ?_ _ | refine Below.step (by assumption) (by first | omega | (simp; omega) | simp) ?_)))⟩
end Go.Proofs.YtkennmpbmbacpaaGreatDoor
