/- 'UsageOf' of the package and of the reference. -/
import Derived.Test.YthcmecgmidopoaaOwned
set_option linter.unusedSimpArgs false
set_option linter.unusedVariables false
set_option linter.unusedSectionVars false
namespace Go.Proofs.Ythcmecgmidopoaa
open Go.RowKit

def useN (t : List Nd) (u : Int) : Nat → Int
  | 0 => 0
  | k + 1 => useN t u k + if (kth t k).ow = u then 1 else 0
def useB (t : List Nd) (u : Int) : Nat → Int
  | 0 => 0
  | k + 1 => useB t u k + if (kth t k).ow = u then ((kth t k).tx.size : Int) else 0
theorem useN_yes {t : List Nd} {u : Int} {k : Nat} (h : (kth t k).ow = u) : useN t u (k + 1) = useN t u k + 1 := by
  show useN t u k + (if (kth t k).ow = u then 1 else 0) = _
  rw [if_pos h]
theorem useN_no {t : List Nd} {u : Int} {k : Nat} (h : ¬ (kth t k).ow = u) : useN t u (k + 1) = useN t u k := by
  show useN t u k + (if (kth t k).ow = u then 1 else 0) = _
  rw [if_neg h, Int.add_zero]
theorem useB_yes {t : List Nd} {u : Int} {k : Nat} (h : (kth t k).ow = u) : useB t u (k + 1) = useB t u k + ((kth t k).tx.size : Int) := by
  show useB t u k + (if (kth t k).ow = u then ((kth t k).tx.size : Int) else 0) = _
  rw [if_pos h]
theorem useB_no {t : List Nd} {u : Int} {k : Nat} (h : ¬ (kth t k).ow = u) : useB t u (k + 1) = useB t u k := by
  show useB t u k + (if (kth t k).ow = u then ((kth t k).tx.size : Int) else 0) = _
  rw [if_neg h, Int.add_zero]
theorem useN_range (t : List Nd) (u : Int) : ∀ k, 0 ≤ useN t u k ∧ useN t u k ≤ (k : Int)
  | 0 => ⟨Int.le_refl _, Int.le_refl _⟩
  | k + 1 => by
    have := useN_range t u k
    by_cases h : (kth t k).ow = u
    · rw [useN_yes h]; omega
    · rw [useN_no h]; omega
theorem node_size {many : Int} {x : Nd} (h : nodeB many x = true) : x.tx.size ≤ 40 := by
  have := (nodeB_iff.1 h).1
  unfold headB at this
  simp only [Bool.and_eq_true, decide_eq_true_eq] at this
  exact this.2.2.2.2.2.2
theorem useB_range {t : List Nd} (u : Int) (h : treeB t = true) : ∀ k, k ≤ t.length → 0 ≤ useB t u k ∧ useB t u k ≤ 40 * (k : Int)
  | 0, _ => ⟨Int.le_refl _, Int.le_refl _⟩
  | k + 1, hk => by
    have := useB_range u h k (by omega)
    have hs := node_size (tree_node h (show k < t.length by omega))
    by_cases h : (kth t k).ow = u
    · rw [useB_yes h]; omega
    · rw [useB_no h]; omega
def usageF (t : List Nd) (u : Int) : Int × Int := if treeB t = true then (useN t u t.length, useB t u t.length) else (-1, -1)
theorem usage_no {t : List Nd} {u : Int} (h : treeB t = false) : usageF t u = (-1, -1) := by unfold usageF; rw [h]; rfl
theorem usage_yes {t : List Nd} {u : Int} (h : treeB t = true) : usageF t u = (useN t u t.length, useB t u t.length) := by unfold usageF; rw [h]; rfl
set_option maxRecDepth 100000 in
set_option maxHeartbeats 4000000 in
theorem usageI_of (v : Value) (t : List Nd) (u : Int) (w : World) (h : TreeR w v t) (ht : t.length ≤ 1000) (hkz : (kidsOf t).length ≤ 1000000) :
    Calls Try.prog 23 #[v, .int .i64 u] w fun e w' => e = .returned (.tuple #[.int .i64 (usageF t u).1, .int .i64 (usageF t u).2]) ∧ Below w.heap.size w w' := by
  have H := Lib.hid h
  have hT := fun w h => treeI_of v t w h ht hkz
  obtain ⟨A, cap, rfl⟩ := h.shape
  have hcap := h.caps
  have HT := Lib.hid hT
  clear h hT
  cases htb : treeB t
  · rw [htb] at HT
    rw [usage_no htb]
    clear htb
    go_enter Try.func23, Try.ntmps23
    go_wp2_with fail
    refine (HT.out _ H.out).mono ?_
    rintro e w1 ⟨rfl, b1⟩
    have B1 := Lib.hid b1
    clear b1
    go_wp2
    go_ret2
    exact ⟨rfl, B1.out⟩
  · rw [htb] at HT
    rw [usage_yes htb]
    have Hr := Lib.hid (fun k hk => useB_range u htb k hk)
    have Hz := Lib.hid (fun k (hk : k < t.length) => node_size (tree_node htb hk))
    clear htb
    go_enter Try.func23, Try.ntmps23
    go_wp2_with fail
    refine (HT.out _ H.out).mono ?_
    rintro e w1 ⟨rfl, b1⟩
    have B1 := Lib.hid b1
    clear b1
    go_wp2
    go_loopw [6, 7, 15] (fun n s i wr => ∃ k : Nat, k ≤ t.length ∧ i = .int .i64 k ∧ n = .int .i64 (useN t u k) ∧ s = .int .i64 (useB t u k) ∧ Below w.heap.size w wr) (fun _ _ i _ => t.length - (intOf i).toNat)
    case atStart => exact ⟨0, Nat.zero_le _, rfl, rfl, rfl, B1.out⟩
    case round =>
      obtain ⟨k, hk, rfl, rfl, rfl, hB⟩ := hrel
      have HB := Lib.hid hB
      have hzr := hB.size
      by_cases hlt : k < t.length
      · obtain ⟨b, off, nA, nC, kA, kC, rfl, hb, _, y0, y1, y2, y3, y4, y5, y6⟩ := H.out.at2 hB (kth_at hlt)
        have hlt' : (k : Int) < (t.length : Int) := by omega
        have zn := useN_range t u k
        have zb := Hr.out k hk
        have zs := Hz.out k hlt
        clear hB
        by_cases he : (kth t k).ow = u
        · have He := Lib.hid (useN_yes he)
          have He2 := Lib.hid (useB_yes he)
          rw [he] at y1
          generalize useN t u k = n at zn He
          generalize useB t u k = s at zb He2
          obtain ⟨zn1, zn2⟩ := zn
          obtain ⟨zb1, zb2⟩ := zb
          have e1 : IntKind.i64.wrap (n + 1) = n + 1 := IntWalk.i64_in _ (by omega)
          have e2 : IntKind.i64.wrap (s + ((kth t k).tx.size : Int)) = s + ((kth t k).tx.size : Int) := IntWalk.i64_in _ (by omega)
          clear he
          go_wp2_with fail
          go_quiet (fail)
          go_wp2
          go_roundw
          case rel => exact ⟨k + 1, hlt, by go_num, by rw [He.out], by rw [He2.out], by have hx := HB.out; (repeat (first | exact Below.refl _ _ | exact Hbl.out | refine Below.ext ?_ (by first | omega | (simp; omega) | simp) | refine Below.setCell ?_ (by first | omega | (simp; omega) | simp) _ | refine Below.alloc ?_ (by first | omega | (simp; omega) | simp) _ | refine Below.drew ?_ | refine below_drewN ?_ _ | refine Below.step (by assumption) (by first | omega | (simp; omega) | simp) ?_))⟩
          case measure => simp [intOf]; omega
        · have He := Lib.hid (useN_no he)
          have He2 := Lib.hid (useB_no he)
          have heb : ((kth t k).ow == u) = false := beq_eq_false_iff_ne.2 he
          clear he
          go_wp2
          go_roundw
          case rel => exact ⟨k + 1, hlt, by go_num, by rw [He.out], by rw [He2.out], Below.alloc HB.out hzr _⟩
          case measure => simp [intOf]; omega
      · obtain rfl : k = t.length := by omega
        clear hB
        go_wp2
        go_ret2
        exact ⟨rfl, HB.out⟩
set_option maxRecDepth 100000 in
set_option maxHeartbeats 4000000 in
theorem usageS_of (v : Value) (t : List Nd) (u : Int) (w : World) (h : TreeR w v t) (ht : t.length ≤ 1000) (hkz : (kidsOf t).length ≤ 1000000) :
    Calls Try.prog 24 #[v, .int .i64 u] w fun e w' => e = .returned (.tuple #[.int .i64 (usageF t u).1, .int .i64 (usageF t u).2]) ∧ Below w.heap.size w w' := by
  have H := Lib.hid h
  have hT := fun w h => treeS_of v t w h ht hkz
  obtain ⟨A, cap, rfl⟩ := h.shape
  have hcap := h.caps
  have HT := Lib.hid hT
  clear h hT
  cases htb : treeB t
  · rw [htb] at HT
    rw [usage_no htb]
    clear htb
    go_enter Try.func24, Try.ntmps24
    go_wp2_with fail
    refine (HT.out _ H.out).mono ?_
    rintro e w1 ⟨rfl, b1⟩
    have B1 := Lib.hid b1
    clear b1
    go_wp2
    go_ret2
    exact ⟨rfl, B1.out⟩
  · rw [htb] at HT
    rw [usage_yes htb]
    have Hr := Lib.hid (fun k hk => useB_range u htb k hk)
    have Hz := Lib.hid (fun k (hk : k < t.length) => node_size (tree_node htb hk))
    clear htb
    go_enter Try.func24, Try.ntmps24
    go_wp2_with fail
    refine (HT.out _ H.out).mono ?_
    rintro e w1 ⟨rfl, b1⟩
    have B1 := Lib.hid b1
    clear b1
    go_wp2
    go_loopw [6, 7, 8] (fun n s i wr => ∃ k : Nat, k ≤ t.length ∧ i = .int .i64 k ∧ n = .int .i64 (useN t u k) ∧ s = .int .i64 (useB t u k) ∧ Below w.heap.size w wr) (fun _ _ i _ => t.length - (intOf i).toNat)
    case atStart => exact ⟨0, Nat.zero_le _, rfl, rfl, rfl, B1.out⟩
    case round =>
      obtain ⟨k, hk, rfl, rfl, rfl, hB⟩ := hrel
      have HB := Lib.hid hB
      by_cases hlt : k < t.length
      · obtain ⟨b, off, nA, nC, kA, kC, rfl, hb, _, y0, y1, y2, y3, y4, y5, y6⟩ := H.out.at2 hB (kth_at hlt)
        have hlt' : (k : Int) < (t.length : Int) := by omega
        have zn := useN_range t u k
        have zb := Hr.out k hk
        have zs := Hz.out k hlt
        clear hB
        by_cases he : (kth t k).ow = u
        · have He := Lib.hid (useN_yes he)
          have He2 := Lib.hid (useB_yes he)
          rw [he] at y1
          generalize useN t u k = n at zn He
          generalize useB t u k = s at zb He2
          obtain ⟨zn1, zn2⟩ := zn
          obtain ⟨zb1, zb2⟩ := zb
          clear he
          go_wp2
          go_roundw
          case rel => exact ⟨k + 1, hlt, by go_num, by rw [He.out], by rw [He2.out], HB.out⟩
          case measure => simp [intOf]; omega
        · have He := Lib.hid (useN_no he)
          have He2 := Lib.hid (useB_no he)
          have heb : ((kth t k).ow == u) = false := beq_eq_false_iff_ne.2 he
          clear he
          go_wp2
          go_roundw
          case rel => exact ⟨k + 1, hlt, by go_num, by rw [He.out], by rw [He2.out], HB.out⟩
          case measure => simp [intOf]; omega
      · obtain rfl : k = t.length := by omega
        clear hB
        go_wp2
        go_ret2
        exact ⟨rfl, HB.out⟩
end Go.Proofs.Ythcmecgmidopoaa
