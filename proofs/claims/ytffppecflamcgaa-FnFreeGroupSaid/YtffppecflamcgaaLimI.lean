/- Limits: the program's 'LimitsValid'. -/
import Derived.Test.YtffppecflamcgaaLim
import Derived.StillTailTactics
set_option linter.unusedSimpArgs false
set_option linter.unusedVariables false
set_option linter.unusedSectionVars false
namespace Go.Proofs.Ytffppecflamcgaa
open Go.RowKit

theorem info_int : (Try.prog.info? 3).map (fun i => (i.zero, i.size, i.bytes)) = some (some (.int .i64 0), 1, 8) := by kernel_rfl
theorem psRow_zero (l : List T3) (n : Nat) : (madeCells #[Value.int .i64 0] n).toList = psRow l n 0 := by
  unfold madeCells psRow
  simp only [ps, Array.toList_map, Array.toList_range]
  apply List.map_congr_left
  intro k _
  simp [Nat.mod_one]

set_option maxHeartbeats 2000000 in
theorem limitsValidI_any (A : Option Addr) (cap : Nat) (l : List T3) (w : World) (hn : l.length ≤ cap) (hc : cap ≤ maxLen) (hA : l = [] ∨ ∃ b off, A = some ⟨b, off, none⟩ ∧ b < w.heap.size ∧ At3 w b off l) (h8 : l.length ≤ 8) :
    Calls Try.prog 14 #[.slice A l.length cap] w fun e w' => e = .returned (.bool (limB l)) ∧ Below w.heap.size w w' := by
  unfold maxLen at hc
  obtain ⟨i0, hi, hz0, hz1, hz2⟩ := info_parts info_int
  have HA := Lib.hid hA; clear hA
  go_enter Try.func14, Try.ntmps14
  go_wp2_with (refine wpList_make_full _ rfl _ _ 47 rfl w.heap.size 3 i0 (.int .i64 0) 1 Try.underlying47 hi hz0 hz1 _ _ _ _ l.length rfl rfl rfl rfl (by rw [hz2]; omega) (by unfold maxLen; omega) (Nat.le_refl _) ?_)
  intro w1 hown hg1
  have hbl : Below w.heap.size w w1 := (Below.refl _ _).grown hg1 (Nat.le_refl _) (by intro k hk; cases hk)
  rw [psRow_zero l l.length] at hown
  have Hown := Lib.hid hown; clear hown
  have Hbl := Lib.hid hbl; clear hbl hg1
  go_wp2
  go_loopw [16] (fun i wr => ∃ k : Nat, k ≤ l.length ∧ i = .int .i64 k ∧ (∀ j, j < k → limOk l j = true) ∧ wr.ownsRow w.heap.size 3 1 (.slice (some ⟨w.heap.size, 0, none⟩) l.length l.length) l.length (psRow l l.length k) ∧ Below w.heap.size w wr) (fun i _ => l.length - (intOf i).toNat)
  case atStart => exact ⟨0, Nat.zero_le _, rfl, fun j hj => absurd hj (by omega), Hown.out, Hbl.out⟩
  case round =>
    obtain ⟨k, hk, rfl, hall, hown, hbl⟩ := hrel
    have Hall := Lib.hid hall; clear hall
    have hsz : w.heap.size < wr.heap.size := (hown.lt w.heap.size rfl).2
    by_cases hlt : k < l.length
    · obtain ⟨b, off, rfl, hb, hcs⟩ := HA.out.resolve_left (fun e => by subst e; simp at hlt)
      have Hcs := Lib.hid hcs; clear hcs
      obtain ⟨c1, c2, c3⟩ := (Hcs.out.below hb hbl) k hlt
      have Hown := Lib.hid hown; clear hown
      have Hbl := Lib.hid hbl; clear hbl
      have hno : limOk l k = false → limB l = false := fun h => limB_bad hlt h
      have Hno := Lib.hid hno; clear hno
      have hgo : limOk l k = true → ∀ j, j < k + 1 → limOk l j = true := fun h j hj => by
        by_cases e : j = k
        · subst e; exact h
        · exact Hall.out j (by omega)
      have Hgo := Lib.hid hgo; clear hgo
      rcases and3 (inB (ti l k).1 (-1) ((k : Int) - 1)) (inB (ti l k).2.1 0 10000) (inB (ti l k).2.2 0 (ti l k).2.1) with e1 | ⟨e1, e2⟩ | ⟨e1, e2, e3⟩ | ⟨e1, e2, e3⟩
      case inr.inr.inr =>
        have hok : limOk l k = true := by unfold limOk; rw [e1, e2, e3]; rfl
        obtain ⟨⟨a1, a2⟩, ⟨a3, a4⟩, ⟨a5, a6⟩⟩ := limOk_iff.1 hok
        by_cases hneg : (ti l k).1 < 0
        · go_wp2_with (go_at_call 32; refine (within_any _ _ _ _).mono ?_; rintro e w' ⟨rfl, rfl⟩)
          go_roundw
          case rel => exact ⟨k + 1, by omega, by go_num, Hgo.out hok, by rw [psRow_none hneg]; exact Hown.out.alloc _, by exact Hbl.out.alloc (by omega) _⟩
          case measure => simp [intOf]; omega
        · have hIn : wr.cell? ⟨w.heap.size, (ti l k).1.toNat, none⟩ = some (.int .i64 (ps l k (ti l k).1.toNat)) := by
            rw [Hown.out.cellAt _ (by omega)]; exact psRow_at (by omega)
          have hFr : wr.frozen? ⟨w.heap.size, (ti l k).1.toNat, none⟩ = false := Hown.out.frozenAt _
          obtain ⟨p1, p2⟩ := ps_bd (l := l) k Hall.out (ti l k).1.toNat
          have q0 : 0 ≤ (ti l k).1 := by omega
          have q1 : (ti l k).1 < (l.length : Int) := by omega
          go_wp2_with (go_at_call 32; refine (within_any _ _ _ _).mono ?_; rintro e w' ⟨rfl, rfl⟩)
          have q2 : IntKind.i64.wrap (ps l k (ti l k).1.toNat + (ti l k).2.2) = ps l k (ti l k).1.toNat + (ti l k).2.2 := IntWalk.i64_in _ (by omega)
          go_region
          go_wp2
          go_roundw
          case rel =>
            have st := Hown.out.stored (ti l k).1.toNat (.int .i64 (ps l k (ti l k).1.toNat + (ti l k).2.2))
            rw [psRow_set (l := l) (n := l.length) (m := k) (a := (ti l k).1.toNat) (by omega)] at st
            exact ⟨k + 1, by omega, by go_num, Hgo.out hok, (st.1.alloc _).drew, (((Hbl.out.setCell (by simp) _).alloc (by simp; omega) _).drew)⟩
          case measure => simp [intOf]; omega
      all_goals
        go_wp2_with (go_at_call 32; refine (within_any _ _ _ _).mono ?_; rintro e w' ⟨rfl, rfl⟩)
        go_ret
        exact ⟨by rw [Hno.out (by unfold limOk; first | (simp only [e1, e2, e3, Bool.true_and, Bool.and_false, Bool.false_and]; done) | (simp only [e1, e2, Bool.true_and, Bool.and_false, Bool.false_and]; done) | (simp only [e1, Bool.true_and, Bool.and_false, Bool.false_and]; done))]; rfl, (by (repeat (first | exact Below.refl _ _ | exact Hbl.out | refine Below.ext ?_ (by first | omega | (simp; omega) | simp) | refine Below.setCell ?_ (by first | omega | (simp; omega) | simp) _ | refine Below.alloc ?_ (by first | omega | (simp; omega) | simp) _ | refine Below.drew ?_ | refine below_drewN ?_ _ | refine Below.step (by assumption) (by first | omega | (simp; omega) | simp) ?_)))⟩
    · have hk' : k = l.length := by omega
      subst hk'
      have Hown := Lib.hid hown; clear hown
      have Hbl := Lib.hid hbl; clear hbl
      obtain ⟨wo, hwo⟩ : ∃ wo : World, wo = wr := ⟨_, rfl⟩
      subst hwo
      go_wp2
      go_loopw [56] (fun i wr => ∃ k : Nat, k ≤ l.length ∧ i = .int .i64 k ∧ (∀ j, j < k → ps l l.length j ≤ (ti l j).2.2) ∧ wr.ownsRow w.heap.size 3 1 (.slice (some ⟨w.heap.size, 0, none⟩) l.length l.length) l.length (psRow l l.length l.length) ∧ Below w.heap.size w wr) (fun i _ => l.length - (intOf i).toNat)
      case atStart => exact ⟨0, Nat.zero_le _, rfl, fun j hj => absurd hj (by omega), Hown.out, Hbl.out⟩
      case round =>
        obtain ⟨k, hk, rfl, hall, hown, hbl⟩ := hrel
        have Hps := Lib.hid hall; clear hall
        have hsz' : w.heap.size < wr.heap.size := (hown.lt w.heap.size rfl).2
        by_cases hlt2 : k < l.length
        · obtain ⟨b, off, rfl, hb, hcs⟩ := HA.out.resolve_left (fun e => by subst e; simp at hlt2)
          have Hcs := Lib.hid hcs; clear hcs
          obtain ⟨c1, c2, c3⟩ := (Hcs.out.below hb hbl) k hlt2
          have hIn : wr.cell? ⟨w.heap.size, k, none⟩ = some (.int .i64 (ps l l.length k)) := by
            rw [hown.cellAt _ (by omega)]; exact psRow_at hlt2
          have z1 : (0 : Int) ≤ (k : Int) := by omega
          have z2 : (k : Int) < (l.length : Int) := by omega
          have Hown := Lib.hid hown; clear hown
          have Hbl := Lib.hid hbl; clear hbl
          by_cases hov : (ti l k).2.2 < ps l l.length k
          · have hno := limB_over hlt2 hov
            have Hno := Lib.hid hno; clear hno
            go_wp2
            go_quiet (fail)
            go_wp2
            go_ret
            exact ⟨by rw [Hno.out]; rfl, (by (repeat (first | exact Below.refl _ _ | exact Hbl.out | refine Below.ext ?_ (by first | omega | (simp; omega) | simp) | refine Below.setCell ?_ (by first | omega | (simp; omega) | simp) _ | refine Below.alloc ?_ (by first | omega | (simp; omega) | simp) _ | refine Below.drew ?_ | refine below_drewN ?_ _ | refine Below.step (by assumption) (by first | omega | (simp; omega) | simp) ?_)))⟩
          · go_wp2
            go_quiet (fail)
            go_wp2
            go_roundw
            case rel => exact ⟨k + 1, by omega, by go_num, fun j hj => by
              by_cases e : j = k
              · subst e; omega
              · exact Hps.out j (by omega), by first | exact (Hown.out.alloc _).drewN _ | exact Hown.out.alloc _, (by (repeat (first | exact Below.refl _ _ | exact Hbl.out | refine Below.ext ?_ (by first | omega | (simp; omega) | simp) | refine Below.setCell ?_ (by first | omega | (simp; omega) | simp) _ | refine Below.alloc ?_ (by first | omega | (simp; omega) | simp) _ | refine Below.drew ?_ | refine below_drewN ?_ _ | refine Below.step (by assumption) (by first | omega | (simp; omega) | simp) ?_)))⟩
            case measure => simp [intOf]; omega
        · have hgood := limB_good (l := l) h8 (fun j hj => Hall.out j hj) (fun j hj => Hps.out j (by omega))
          have Hgood := Lib.hid hgood; clear hgood
          have Hbl := Lib.hid hbl; clear hbl
          go_wp2
          go_ret
          exact ⟨by rw [Hgood.out]; rfl, (by (repeat (first | exact Below.refl _ _ | exact Hbl.out | refine Below.ext ?_ (by first | omega | (simp; omega) | simp) | refine Below.setCell ?_ (by first | omega | (simp; omega) | simp) _ | refine Below.alloc ?_ (by first | omega | (simp; omega) | simp) _ | refine Below.drew ?_ | refine below_drewN ?_ _ | refine Below.step (by assumption) (by first | omega | (simp; omega) | simp) ?_)))⟩
theorem limitsValidI_long (A : Option Addr) (cap : Nat) (l : List T3) (w : World) (hn : l.length ≤ cap) (hc : cap ≤ maxLen) (h8 : 8 < l.length) :
    Calls Try.prog 14 #[.slice A l.length cap] w fun e w' => e = .returned (.bool (limB l)) ∧ Below w.heap.size w w' := by
  have Hb := Lib.hid (limB_long h8)
  unfold maxLen at hc
  go_enter Try.func14, Try.ntmps14
  go_wp2
  go_ret
  exact ⟨by rw [Hb.out]; rfl, Below.refl _ _⟩
theorem limitsValidI_of (v : Value) (l : List T3) (w : World) (h : Sl3 w v l) : Calls Try.prog 14 #[v] w fun e w' => e = .returned (.bool (limB l)) ∧ Below w.heap.size w w' := by
  obtain ⟨A, cap, rfl, h1, h2, h3⟩ := h
  by_cases h8 : l.length ≤ 8
  · exact limitsValidI_any A cap l w h1 h2 h3 h8
  · exact limitsValidI_long A cap l w h1 h2 (by omega)
end Go.Proofs.Ytffppecflamcgaa
