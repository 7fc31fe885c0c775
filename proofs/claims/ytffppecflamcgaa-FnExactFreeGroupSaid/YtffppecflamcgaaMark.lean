/- Limits: 'markLimitS' and 'heldLimitS' of the exact laws. -/
import Derived.Test.YtffppecflamcgaaUse
import Derived.Lib.BufferOwn
set_option linter.unusedSimpArgs false
set_option linter.unusedVariables false
set_option linter.unusedSectionVars false
namespace Go.Proofs.Ytffppecflamcgaa
open Go.RowKit

theorem own_kept {B : Nat} {w w' : World} {v : Value} {l : List T3} {row : Option Nat} (h : Own B w v l) (hg : w.grownBy w' row) (hne : v.ownBlock = none ∨ v.ownBlock ≠ row) : Own B w' v l := World.ownsRow.kept h hg hne
/-- What was owned in an elder world lies apart from what was made later. -/
theorem apart_of {B C : Nat} {w w0 : World} {v u : Value} {l m : List T3} (_h : Own B w v l) (h2 : Own C w u m) (hC : w0.heap.size ≤ C) (h0 : Own B w0 v l) : v.ownBlock = none ∨ v.ownBlock ≠ u.ownBlock := by
  cases e : v.ownBlock with
  | none => exact .inl rfl
  | some k =>
    refine .inr fun e2 => ?_
    have a := h0.lt k e
    have b := h2.lt k e2.symm
    omega
theorem apart_fo {B C : Nat} {w w0 : World} {v u : Value} {l m : List T3} (_h : Own B w v l) (h2 : Own C w u m) (hC : w0.heap.size ≤ C) (h0 : Own B w0 v l) : u.ownBlock = none ∨ u.ownBlock ≠ v.ownBlock := by
  cases e : u.ownBlock with
  | none => exact .inl rfl
  | some k =>
    refine .inr fun e2 => ?_
    have a := h0.lt k e2.symm
    have b := h2.lt k e
    omega
def markT (i : Nat) : T3 := (1 + 3 * (i : Int), 1 + 3 * (i : Int) + 1, 1 + 3 * (i : Int) + 1 + 1)
def markL (n : Nat) : List T3 := (List.range n).map markT
theorem markL_len (n : Nat) : (markL n).length = n := by unfold markL; simp
theorem markL_at {n i : Nat} (h : i < n) : ti (markL n) i = markT i := ti_map h

set_option maxHeartbeats 1000000 in
theorem mark_of (B : Nat) (v : Value) (l : List T3) (w : World) (h0 : Own B w v l) (hm : l.length ≤ 1048576) : Calls Try.prog 23 #[v, .int .i64 1] w fun e w' => e = .returned (.int .i64 (1 + 3 * (l.length : Int))) ∧ Own B w' v (markL l.length) ∧ w.grownBy w' v.ownBlock := by
  obtain ⟨A, cap, rfl⟩ := own_shape h0
  have H0 := Lib.hid h0; clear h0
  go_enter Try.func23, Try.ntmps23
  go_wp2
  go_loopw [5, 1] (fun i k wr => ∃ j : Nat, j ≤ l.length ∧ i = .int .i64 j ∧ k = .int .i64 (1 + 3 * (j : Int)) ∧ (∃ f, (∀ i, i < j → f i = markT i) ∧ wr.ownsRow B 34 3 (.slice A l.length cap) l.length (row3 l.length f)) ∧ w.grownBy wr (Value.slice A l.length cap).ownBlock) (fun i _ _ => l.length - (intOf i).toNat)
  case atStart => exact ⟨0, Nat.zero_le _, rfl, rfl, ⟨ti l, fun i hi => absurd hi (by omega), H0.out⟩, World.grownBy.refl _ _⟩
  case round =>
    obtain ⟨j, hj, rfl, rfl, ⟨f, hf, hown⟩, hgr⟩ := hrel
    have Hf := Lib.hid hf; clear hf
    have Hg := Lib.hid hgr; clear hgr
    by_cases hlt : j < l.length
    · obtain ⟨q, rfl, q1, q2⟩ : ∃ q, A = some ⟨q, 0, none⟩ ∧ B ≤ q ∧ q < wr.heap.size := by
        rcases hown.2 with ⟨e, h'⟩ | ⟨q, c, cur, e, hB, hg, _⟩
        · omega
        · have hq := hown.lt q (by rw [e]; rfl)
          cases e
          exact ⟨q, rfl, hq.1, hq.2⟩
      have x0 : wr.cell? ⟨q, j * 3, none⟩ = some (.int .i64 (f j).1) := by rw [hown.cellAt _ (by omega), row3_at (by omega), show (j * 3) / 3 = j from by omega, show (j * 3) % 3 = 0 from by omega]; rfl
      have x1 : wr.cell? ⟨q, j * 3 + 1, none⟩ = some (.int .i64 (f j).2.1) := by rw [hown.cellAt _ (by omega), row3_at (by omega), show (j * 3 + 1) / 3 = j from by omega, show (j * 3 + 1) % 3 = 1 from by omega]; rfl
      have x2 : wr.cell? ⟨q, j * 3 + 2, none⟩ = some (.int .i64 (f j).2.2) := by rw [hown.cellAt _ (by omega), row3_at (by omega), show (j * 3 + 2) / 3 = j from by omega, show (j * 3 + 2) % 3 = 2 from by omega]; rfl
      have y0 : wr.frozen? ⟨q, j * 3, none⟩ = false := hown.frozenAt _
      have y1 : wr.frozen? ⟨q, j * 3 + 1, none⟩ = false := hown.frozenAt _
      have y2 : wr.frozen? ⟨q, j * 3 + 2, none⟩ = false := hown.frozenAt _
      have Hown := Lib.hid hown; clear hown
      have z1 : IntKind.i64.wrap (1 + 3 * (j : Int) + 1) = 1 + 3 * (j : Int) + 1 := IntWalk.i64_in _ (by omega)
      have z2 : IntKind.i64.wrap (1 + 3 * (j : Int) + 1 + 1) = 1 + 3 * (j : Int) + 1 + 1 := IntWalk.i64_in _ (by omega)
      have z3 : IntKind.i64.wrap (1 + 3 * (j : Int) + 1 + 1 + 1) = 1 + 3 * (j : Int) + 1 + 1 + 1 := IntWalk.i64_in _ (by omega)
      go_wp2
      go_roundw
      case rel =>
        have s1 := Hown.out.stored (j * 3) (.int .i64 (1 + 3 * (j : Int)))
        have s2 := s1.1.stored (j * 3 + 1) (.int .i64 (1 + 3 * (j : Int) + 1))
        have s3 := s2.1.stored (j * 3 + 2) (.int .i64 (1 + 3 * (j : Int) + 1 + 1))
        have s4 := s3.1
        rw [row3_set hlt] at s4
        exact ⟨j + 1, by omega, by go_num, by first | (congr 1; done) | (congr 1; omega), ⟨upd f j (markT j), fun i hi => by
          unfold upd
          by_cases e : i = j
          · rw [if_pos e, e]
          · rw [if_neg e]; exact Hf.out i (by omega), s4⟩, Lib.grownBy_trans (Lib.grownBy_trans (Lib.grownBy_trans Hg.out s1.2) s2.2) s3.2⟩
      case measure => simp [intOf]; omega
    · have hj' : j = l.length := by omega
      subst hj'
      have Hown := Lib.hid hown; clear hown
      go_wp2
      go_ret
      exact ⟨rfl, own_of Hown.out (markL_len _) (fun i hi => by rw [markL_at hi]; exact Hf.out i hi), Hg.out⟩

set_option maxHeartbeats 1000000 in
theorem held_of (v : Value) (n : Nat) (w : World) (h0 : Sl3 w v (markL n)) (hm : n ≤ 1048576) : Calls Try.prog 24 #[v, .int .i64 1] w fun e w' => e = .returned (.int .i64 (1 + 3 * (n : Int))) ∧ Below w.heap.size w w' := by
  obtain ⟨A, cap, rfl, h1, h2, h3⟩ := h0
  unfold maxLen at h2
  rw [markL_len] at h1 ⊢
  have HA := Lib.hid h3; clear h3
  go_enter Try.func24, Try.ntmps24
  go_wp2
  go_loopw [5, 1] (fun i k wr => ∃ j : Nat, j ≤ n ∧ i = .int .i64 j ∧ k = .int .i64 (1 + 3 * (j : Int)) ∧ Below w.heap.size w wr) (fun i _ _ => n - (intOf i).toNat)
  case atStart => exact ⟨0, Nat.zero_le _, rfl, rfl, Below.refl _ _⟩
  case round =>
    obtain ⟨j, hj, rfl, rfl, hbl⟩ := hrel
    by_cases hlt : j < n
    · obtain ⟨b, off, rfl, hb, hcs⟩ := HA.out.resolve_left (fun e => by have := congrArg List.length e; rw [markL_len] at this; simp at this; omega)
      obtain ⟨e1, e2, e3⟩ := (hcs.below hb hbl) j (by rw [markL_len]; exact hlt)
      rw [markL_at hlt] at e1 e2 e3
      unfold markT at e1 e2 e3
      have Hcs := Lib.hid hcs; clear hcs
      have Hbl := Lib.hid hbl; clear hbl
      have z1 : IntKind.i64.wrap (1 + 3 * (j : Int) + 1) = 1 + 3 * (j : Int) + 1 := IntWalk.i64_in _ (by omega)
      have z2 : IntKind.i64.wrap (1 + 3 * (j : Int) + 1 + 1) = 1 + 3 * (j : Int) + 1 + 1 := IntWalk.i64_in _ (by omega)
      have z3 : IntKind.i64.wrap (1 + 3 * (j : Int) + 1 + 1 + 1) = 1 + 3 * (j : Int) + 1 + 1 + 1 := IntWalk.i64_in _ (by omega)
      go_wp2
      go_roundw
      case rel => exact ⟨j + 1, by omega, by go_num, by first | (congr 1; done) | (congr 1; omega), (by (repeat (first | exact Below.refl _ _ | exact Hbl.out | refine Below.ext ?_ (by first | omega | (simp; omega) | simp) | refine Below.setCell ?_ (by first | omega | (simp; omega) | simp) _ | refine Below.alloc ?_ (by first | omega | (simp; omega) | simp) _ | refine Below.drew ?_ | refine below_drewN ?_ _ | refine Below.step (by assumption) (by first | omega | (simp; omega) | simp) ?_)))⟩
      case measure => simp [intOf]; omega
    · have hj' : j = n := by omega
      subst hj'
      have Hbl := Lib.hid hbl; clear hbl
      go_wp2
      go_ret
      exact ⟨rfl, Hbl.out⟩
end Go.Proofs.Ytffppecflamcgaa
