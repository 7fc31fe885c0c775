/- slices.Backward on texts: its contract. -/
import Derived.RangeFuncNested
import Derived.RangeFuncBound
import Derived.RangeFuncCalls
import Derived.RangeFuncLeaves
import Derived.RangeFuncFrom
import Derived.Shelf.Abstract
import Derived.Shelf.RegionOpen
import Derived.WalkKit
import Derived.OwnWalkIn
import Derived.TacticsInMore
import Derived.LoopNIn
import Derived.LoopIn
import Derived.Test.YtkennmpbmbacpaaGreatDoorTreeR
set_option linter.unusedSimpArgs false
set_option linter.unusedVariables false
set_option linter.unusedSectionVars false
namespace Go.Proofs.YtkennmpbmbacpaaGreatDoor
open Go.RowKit Go.Shelf

attribute [local go_sem] Oper.semAt_some
/-- A name of l, with its place. -/
abbrev NameOf (l : List (List UInt8)) : Type := { x : Nat × List UInt8 // x.2 ∈ l ∨ l = [] }
def elN (l : List (List UInt8)) (m : Nat) : NameOf l := ⟨(if m < l.length then m else 0, l.getD (if m < l.length then m else 0) []), by
  by_cases h : l = []
  · exact .inr h
  · refine .inl ?_
    have hp := List.length_pos_iff.2 h
    have hi : (if m < l.length then m else 0) < l.length := by split <;> omega
    show l.getD _ [] ∈ l
    rw [List.getD_eq_getElem?_getD, List.getElem?_eq_getElem hi]
    exact List.getElem_mem hi⟩
theorem elN_fst {l : List (List UInt8)} {m : Nat} (h : m < l.length) : (elN l m).1.1 = m := if_pos h
theorem elN_snd {l : List (List UInt8)} {m : Nat} (h : m < l.length) : (elN l m).1.2 = l.getD m [] := by
  show l.getD (if m < l.length then m else 0) [] = _
  rw [if_pos h]
/-- The names of l from the last one on, k of them. -/
def backL (l : List (List UInt8)) (k : Nat) : List (NameOf l) := (List.range k).map fun j => elN l (l.length - 1 - j)
theorem backL_succ (l : List (List UInt8)) (k : Nat) : backL l (k + 1) = backL l k ++ [elN l (l.length - 1 - k)] := by simp [backL, List.range_succ]
theorem backL_len (l : List (List UInt8)) (k : Nat) : (backL l k).length = k := by simp [backL]
theorem backL_snd (l : List (List UInt8)) : (backL l l.length).map (fun x => x.1.2) = l.reverse := by
  apply List.ext_getElem
  · simp [backL]
  · intro i h1 h2
    have hi : i < l.length := by simpa [backL] using h1
    simp only [backL, List.map_map, List.getElem_map, Function.comp, List.getElem_range, List.getElem_reverse]
    rw [elN_snd (by omega), List.getD_eq_getElem?_getD, List.getElem?_eq_getElem (show l.length - 1 - i < l.length by omega)]; rfl
/-- What a round keeps: all below n0, and the block of the iterator's box. -/
def KpB (n₀ Bs : Nat) (W W' : World) : Prop := Below n₀ W W' ∧ W'.heap[Bs]? = W.heap[Bs]?
theorem KpB.refl (n₀ Bs : Nat) (W : World) : KpB n₀ Bs W W := ⟨Below.refl _ _, rfl⟩
theorem KpB.trans {n₀ Bs : Nat} {A B C : World} (h : KpB n₀ Bs A B) (k : KpB n₀ Bs B C) : KpB n₀ Bs A C := ⟨h.1.trans k.1, k.2.trans h.2⟩
theorem KpB.turn {n₀ Bs N : Nat} (hn : n₀ ≤ N) (hB : Bs < N) (W : World) (l : Nat) (o o' : Obj) (hl : N ≤ l) (ho : W.heap[l]? = some o) (hc : o.isCells = false) (hw : o.isWalk = false) : KpB n₀ Bs W (W.putObj l o') :=
  ⟨(Below.refl n₀ W).grown (grownBy_putObj' W l o') (by
      have : l < W.heap.size := by
        rcases Nat.lt_or_ge l W.heap.size with h | h
        · exact h
        · rw [Array.getElem?_eq_none h] at ho; cases ho
      omega) (fun k e => by injection e with e; omega), World.putObj_heap_other (by omega)⟩
set_option maxHeartbeats 1000000 in
theorem back_in (F : Fence) (n : Nat) (h5 : F.fn 73) (hro : F.round = none) (a : Option Addr) (len cap : Nat) (w : World) :
    CallsIn F n Tryz.prog 73 #[.slice a len cap] w fun e w' => e = .returned (.func (.func 105) #[] #[.pointer (some ⟨w.heap.size, 0, none⟩)]) ∧ w' = w.alloc (.cells #[.slice a len cap] 42) := by
  refine callsIn_of_wp Tryz.func73 rfl h5 ?_ hro
  simp only [Tryz.ntmps73, List.size_toArray, List.length_cons, List.length_nil, Nat.reduceAdd, Nat.reduceSub, Array.replicate_succ, Array.replicate_zero, List.push_toArray, List.append_toArray, List.nil_append, List.cons_append]
  gi_wp2
  go_ret
  exact ⟨rfl, rfl⟩
set_option maxRecDepth 100000 in
set_option maxHeartbeats 2000000 in
theorem back1_in (F : Fence) (n : Nat) (h7 : F.fn 105) (hro : F.round = none) (hn : 1 ≤ n) (lo Bs n₀ b off cap : Nat) (l : List (List UInt8)) (hb : b < n₀) (hlc : l.length ≤ 1000000) (J Jx : List (NameOf l) → World → Prop)
    (hY : ∀ pre x W, J pre W → pre.length < l.length → YieldAt F (n - 1) Tryz.prog lo #[.int .i64 (x.1.1 : Int), .string (mk x.1.2)] W fun e W' =>
      (e = .returned (.bool true) ∧ J (pre ++ [x]) W' ∧ KpB n₀ Bs W W') ∨ (e = .returned (.bool false) ∧ Jx (pre ++ [x]) W'))
    (W : World) (hBs : W.cell? ⟨Bs, 0, none⟩ = some (.slice (some ⟨b, off, none⟩) l.length cap)) (hc : ∀ j, j < l.length → W.cell? ⟨b, off + j, none⟩ = some (.string (mk (l.getD j [])))) (h0 : J [] W) :
    CallsIn F n Tryz.prog 105 #[.func (.yield lo) #[] #[], .pointer (some ⟨Bs, 0, none⟩)] W fun e W' => (∃ v, e = .returned v) ∧
      ((∃ ys, ys = backL l l.length ∧ J ys W') ∨ (∃ pre, (∃ k, k ≤ l.length ∧ pre = backL l k) ∧ Jx pre W')) := by
  have hs0 := hBs
  have zl : IntKind.i64.wrap ((l.length : Int) - 1) = (l.length : Int) - 1 := IntWalk.i64_in _ (by omega)
  have HBs := Lib.hid hs0
  refine callsIn_of_wp Tryz.func105 rfl h7 ?_ hro
  simp only [Tryz.ntmps105, List.size_toArray, List.length_cons, List.length_nil, Nat.reduceAdd, Nat.reduceSub, Array.replicate_succ, Array.replicate_zero, List.push_toArray, List.append_toArray, List.nil_append, List.cons_append]
  gi_wp2
  gi_loopw [3] (fun i wr => ∃ r : Nat, r ≤ l.length ∧ i = .int .i64 ((r : Int) - 1) ∧ J (backL l (l.length - r)) wr ∧ KpB n₀ Bs W wr)
    (fun i _ => (intOf i + 1).toNat)
  case atStart => exact ⟨l.length, Nat.le_refl _, rfl, by rw [Nat.sub_self]; exact h0, KpB.refl _ _ _⟩
  case round =>
    obtain ⟨r, hr, rfl, hJs, hnx⟩ := hrel
    have hs1 : wr.cell? ⟨Bs, 0, none⟩ = some (.slice (some ⟨b, off, none⟩) l.length cap) := (World.cell?_of_block (a := ⟨Bs, 0, none⟩) hnx.2).trans HBs.out
    cases r with
    | zero =>
      rw [Nat.sub_zero] at hJs
      gi_wp2
      go_end0
      exact ⟨⟨_, rfl⟩, .inl ⟨_, rfl, hJs⟩⟩
    | succ m =>
      have hm : m < l.length := by omega
      have hcx : wr.cell? ⟨b, off + m, none⟩ = some (.string (mk (l.getD m []))) := (hnx.1.cell (p := ⟨b, off + m, none⟩) hb).trans (hc m hm)
      have he1 : (((m + 1 : Nat) : Int) - 1) = (m : Int) := by omega
      have hm' : (m : Int) < (l.length : Int) := by omega
      have hm0 : (0 : Int) ≤ (m : Int) := by omega
      have zm : IntKind.i64.wrap ((m : Int) - 1) = (m : Int) - 1 := IntWalk.i64_in _ (by omega)
      have hbk : backL l (l.length - m) = backL l (l.length - (m + 1)) ++ [elN l m] := by
        have h1 : l.length - m = (l.length - (m + 1)) + 1 := by omega
        rw [h1, backL_succ]
        have h2 : l.length - 1 - (l.length - (m + 1)) = m := by omega
        rw [h2]
      have hyy := hY _ (elN l m) wr hJs (by rw [backL_len]; omega)
      rw [elN_fst hm, elN_snd hm, ← hbk] at hyy
      obtain ⟨fn, tmps, assign, body, hy, hR⟩ := hyy
      rw [he1]
      generalize l.getD m [] = x at hcx hy hR
      clear hbk he1 hJs
      gi_wp2
      refine hR.mono ?_
      rintro e W3 (⟨rfl, hJ3, hk3⟩ | ⟨rfl, hJx3⟩)
      · gi_wp2
        go_roundw
        case rel => exact ⟨m, by omega, rfl, hJ3, hnx.trans hk3⟩
        case measure => simp [intOf]
      · gi_wp2
        refine bodyPost_ret (results_none rfl _ _ _) rfl ?_
        exact ⟨⟨_, rfl⟩, .inr ⟨_, ⟨l.length - m, by omega, rfl⟩, hJx3⟩⟩
set_option maxRecDepth 100000 in
set_option maxHeartbeats 1000000 in
theorem back0_in (F : Fence) (n : Nat) (h7 : F.fn 105) (hro : F.round = none) (lo Bs cap : Nat) (A : Option Addr) {α : Type} (J : List α → World → Prop) (W : World) (hBs : W.cell? ⟨Bs, 0, none⟩ = some (.slice A 0 cap)) (h0 : J [] W) :
    CallsIn F n Tryz.prog 105 #[.func (.yield lo) #[] #[], .pointer (some ⟨Bs, 0, none⟩)] W fun e W' => (∃ v, e = .returned v) ∧ J [] W' := by
  refine callsIn_of_wp Tryz.func105 rfl h7 ?_ hro
  simp only [Tryz.ntmps105, List.size_toArray, List.length_cons, List.length_nil, Nat.reduceAdd, Nat.reduceSub, Array.replicate_succ, Array.replicate_zero, List.push_toArray, List.append_toArray, List.nil_append, List.cons_append]
  gi_wp2
  gi_loopw [3] (fun i wr => i = .int .i64 (-1) ∧ J [] wr) (fun _ _ => 0)
  case atStart => exact ⟨rfl, h0⟩
  case round =>
    obtain ⟨rfl, hJs⟩ := hrel
    gi_wp2
    go_end0
    exact ⟨⟨_, rfl⟩, hJs⟩
/-- slices.Backward of texts that lie below n0. -/
theorem back_stops (F : Fence) (n : Nat) (h7 : F.fn 105) (hro : F.round = none) (hn : 1 ≤ n) (Bs n₀ cap : Nat) (A : Option Addr) (l : List (List UInt8)) (hlc : l.length ≤ 1000000) (w0 w : World) (hB0 : Below w0.heap.size w0 w) (hn₀ : n₀ = w0.heap.size) (hBs : Bs < w.heap.size)
    (hc : w.cell? ⟨Bs, 0, none⟩ = some (.slice A l.length cap)) (hI : SlG EL w0 (.slice A l.length cap) l) :
    SeqStopsK F n Tryz.prog 105 #[.pointer (some ⟨Bs, 0, none⟩)] (fun x : NameOf l => #[Value.int .i64 (x.1.1 : Int), .string (mk x.1.2)]) (KpB n₀ Bs) (fun ys => ys = backL l l.length) (fun pre => ∃ k, k ≤ l.length ∧ pre = backL l k) l.length w := fun lo J Jx W hW _ _ hY h0 => by
  have hc' := (hW.cell (p := ⟨Bs, 0, none⟩) hBs).trans hc
  by_cases hl : l = []
  · subst hl
    exact (back0_in F n h7 hro lo Bs cap A J W hc' h0).mono fun e W' ⟨he, hj⟩ => ⟨he, .inl ⟨_, rfl, hj⟩⟩
  · have hpos := List.length_pos_iff.2 hl
    obtain ⟨b, off, rfl, hb, _⟩ := hI.at_ (List.getElem?_eq_getElem hpos)
    have hb0W := Below.step hW hB0.size hB0
    refine back1_in F n h7 hro hn lo Bs n₀ b off cap l (by omega) hlc J Jx hY W hc' (fun j hj => ?_) h0
    obtain ⟨b', off', e, _, q⟩ := hI.at_ (List.getElem?_eq_getElem hj)
    cases e
    have := q 0 _ rfl
    rw [show EL.z = 1 from rfl, Nat.mul_one, Nat.add_zero] at this
    rw [List.getD_eq_getElem?_getD, List.getElem?_eq_getElem hj]
    exact (hb0W.cell (p := ⟨b, off + j, none⟩) hb).trans this
end Go.Proofs.YtkennmpbmbacpaaGreatDoor
