/- Limits: the reference's 'LimitsValid'. -/
import Derived.Test.YtffppecflamcgaaLim
set_option linter.unusedSimpArgs false
set_option linter.unusedVariables false
set_option linter.unusedSectionVars false
namespace Go.Proofs.Ytffppecflamcgaa
open Go.RowKit

/-- The sum that the reference keeps: of the m limits behind place k. -/
def ws (l : List T3) (k : Nat) : Nat → Int
  | 0 => 0
  | m + 1 => if (ti l (k + 1 + m)).1 = (k : Int) then wrap64 (ws l k m + (ti l (k + 1 + m)).2.2) else ws l k m
theorem ps_zero {l : List T3} {k : Nat} : ∀ m, m ≤ k + 1 → (∀ j, j < m → limOk l j = true) → ps l m k = 0
  | 0, _, _ => rfl
  | m + 1, hm, h => by
    have := limOk_iff.1 (h m (by omega))
    simp only [ps]
    have hne : ¬ (ti l m).1 = (k : Int) := by
      obtain ⟨⟨h1, h2⟩, _⟩ := this
      omega
    rw [ps_zero m (by omega) (fun j hj => h j (by omega)), if_neg hne]; rfl
theorem ws_eq {l : List T3} {k n : Nat} (hn : n ≤ 1048576) (h : ∀ j, j < n → limOk l j = true) : ∀ m, k + 1 + m ≤ n → ws l k m = ps l (k + 1 + m) k
  | 0, hm => by rw [ps_zero (k + 1 + 0) (by omega) (fun j hj => h j (by omega))]; rfl
  | m + 1, hm => by
    have ih := ws_eq (k := k) hn h m (by omega)
    have hb := ps_bd (l := l) (k + 1 + m) (fun j hj => h j (by omega)) k
    have ho := limOk_iff.1 (h (k + 1 + m) (by omega))
    have e : k + 1 + (m + 1) = (k + 1 + m) + 1 := by omega
    rw [e]
    simp only [ws, ps]
    rw [ih]
    by_cases ha : (ti l (k + 1 + m)).1 = (k : Int)
    · rw [if_pos ha, if_pos ha]
      exact IntWalk.wrap64_in _ (by omega)
    · rw [if_neg ha, if_neg ha]; omega
theorem limB_ws {l : List T3} {k : Nat} (hn : l.length ≤ 1048576) (hk : k < l.length) (h : (ti l k).2.2 < ws l k (l.length - (k + 1))) : limB l = false := by
  by_cases hall : ∀ j, j < l.length → limOk l j = true
  · refine limB_over hk ?_
    rw [ws_eq hn hall _ (by omega)] at h
    have e : k + 1 + (l.length - (k + 1)) = l.length := by omega
    rw [e] at h
    exact h
  · obtain ⟨j, hj, hb⟩ : ∃ j, j < l.length ∧ limOk l j = false := by
      refine Classical.byContradiction fun hno => hall fun j hj => ?_
      cases hq : limOk l j
      · exact absurd ⟨j, hj, hq⟩ hno
      · rfl
    exact limB_bad hj hb
theorem limB_ws_good {l : List T3} (hn : l.length ≤ 1048576) (h1 : ∀ k, k < l.length → limOk l k = true) (h2 : ∀ k, k < l.length → ws l k (l.length - (k + 1)) ≤ (ti l k).2.2) : limB l = decide (l.length ≤ 8) := by
  by_cases h8 : l.length ≤ 8
  · rw [limB_good h8 h1 (fun k hk => ?_), decide_eq_true h8]
    have := h2 k hk
    rw [ws_eq hn h1 _ (by omega)] at this
    have e : k + 1 + (l.length - (k + 1)) = l.length := by omega
    rw [e] at this
    exact this
  · rw [limB_long (by omega), decide_eq_false h8]

set_option maxHeartbeats 2000000 in
theorem limitsValidS_any (A : Option Addr) (cap : Nat) (l : List T3) (w : World) (hn : l.length ≤ cap) (hc : cap ≤ maxLen) (hA : l = [] ∨ ∃ b off, A = some ⟨b, off, none⟩ ∧ b < w.heap.size ∧ At3 w b off l) (hm : l.length ≤ 1048576) :
    Calls Try.prog 12 #[.slice A l.length cap] w fun e w' => e = .returned (.bool (limB l)) ∧ Below w.heap.size w w' := by
  unfold maxLen at hc
  have HA := Lib.hid hA; clear hA
  go_enter Try.func12, Try.ntmps12
  go_wp2
  go_loopw [3] (fun i wr => ∃ k : Nat, k ≤ l.length ∧ i = .int .i64 k ∧ (∀ j, j < k → limOk l j = true) ∧ (∀ j, j < k → ws l j (l.length - (j + 1)) ≤ (ti l j).2.2) ∧ Below w.heap.size w wr) (fun i _ => l.length - (intOf i).toNat)
  case atStart => exact ⟨0, Nat.zero_le _, rfl, fun j hj => absurd hj (by omega), fun j hj => absurd hj (by omega), Below.refl _ _⟩
  case round =>
    obtain ⟨k, hk, rfl, hall, hsum, hbl⟩ := hrel
    have Hall := Lib.hid hall; clear hall
    have Hsum := Lib.hid hsum; clear hsum
    by_cases hlt : k < l.length
    · obtain ⟨b, off, rfl, hb, hcs⟩ := HA.out.resolve_left (fun e => by subst e; simp at hlt)
      have Hcs := Lib.hid hcs; clear hcs
      have Hc := Lib.hid (Hcs.out.below hb hbl)
      obtain ⟨c1, c2, c3⟩ := Hc.out k hlt
      have hbr : b < wr.heap.size := Nat.lt_of_lt_of_le hb hbl.size
      have hsz : w.heap.size ≤ wr.heap.size := hbl.size
      have Hbl := Lib.hid hbl; clear hbl
      have hno : limOk l k = false → limB l = false := fun h => limB_bad hlt h
      have Hno := Lib.hid hno; clear hno
      have hgo : limOk l k = true → ∀ j, j < k + 1 → limOk l j = true := fun h j hj => by
        by_cases e : j = k
        · subst e; exact h
        · exact Hall.out j (by omega)
      have Hgo := Lib.hid hgo; clear hgo
      rcases and3 (inB (ti l k).1 (-1) ((k : Int) - 1)) (inB (ti l k).2.1 0 10000) (inB (ti l k).2.2 0 (ti l k).2.1) with e1 | ⟨e1, e2⟩ | ⟨e1, e2, e3⟩ | ⟨e1, e2, e3⟩
      case inr.inr.inr =>
        have hok : limOk l k = true := by unfold limOk; rw [e1, e2, e3]; rfl
        obtain ⟨wo, hwo⟩ : ∃ wo : World, wo = wr := ⟨_, rfl⟩
        subst hwo
        go_wp2_with (go_at_call 30; refine (l1In_any _ _ _ _).mono ?_; rintro e w' ⟨rfl, rfl⟩)
        go_loop [5, 6] (fun s j => ∃ m : Nat, k + 1 + m ≤ l.length ∧ j = .int .i64 ((k + 1 + m : Nat) : Int) ∧ s = .int .i64 (ws l k m)) (fun _ j => l.length - (intOf j).toNat)
        case atStart => exact ⟨0, by omega, by go_num, rfl⟩
        case round =>
          obtain ⟨m, hm2, rfl, rfl⟩ := hrel
          by_cases hlt2 : k + 1 + m < l.length
          · obtain ⟨d1, d2, d3⟩ := Hc.out (k + 1 + m) hlt2
            by_cases ha : (ti l (k + 1 + m)).1 = (k : Int)
            · have ha' : ((ti l (k + 1 + m)).1 == (k : Int)) = true := by simpa using ha
              have hw : ws l k (m + 1) = wrap64 (ws l k m + (ti l (k + 1 + m)).2.2) := by simp only [ws]; rw [if_pos ha]
              have Hw := Lib.hid hw; clear hw ha
              go_wp2
              go_round
              case rel => exact ⟨m + 1, by omega, by go_num, by rw [Hw.out]⟩
              case measure => simp [intOf]; omega
            · have ha' : ((ti l (k + 1 + m)).1 == (k : Int)) = false := by simpa using ha
              have hw : ws l k (m + 1) = ws l k m := by simp only [ws]; rw [if_neg ha]
              have Hw := Lib.hid hw; clear hw ha
              go_wp2
              go_round
              case rel => exact ⟨m + 1, by omega, by go_num, by rw [Hw.out]⟩
              case measure => simp [intOf]; omega
          · obtain rfl : m = l.length - (k + 1) := by omega
            by_cases hov : (ti l k).2.2 < ws l k (l.length - (k + 1))
            · have hno2 := limB_ws hm hlt hov
              have Hno2 := Lib.hid hno2; clear hno2
              go_wp2
              go_ret
              exact ⟨by rw [Hno2.out]; rfl, (by (repeat (first | exact Below.refl _ _ | exact Hbl.out | refine Below.ext ?_ (by first | omega | (simp; omega) | simp) | refine Below.setCell ?_ (by first | omega | (simp; omega) | simp) _ | refine Below.alloc ?_ (by first | omega | (simp; omega) | simp) _ | refine Below.drew ?_ | refine below_drewN ?_ _ | refine Below.step (by assumption) (by first | omega | (simp; omega) | simp) ?_)))⟩
            · go_wp2
              go_roundw
              case rel => exact ⟨k + 1, by omega, by go_num, Hgo.out hok, fun j hj => by
                by_cases e : j = k
                · subst e; omega
                · exact Hsum.out j (by omega), (by (repeat (first | exact Below.refl _ _ | exact Hbl.out | refine Below.ext ?_ (by first | omega | (simp; omega) | simp) | refine Below.setCell ?_ (by first | omega | (simp; omega) | simp) _ | refine Below.alloc ?_ (by first | omega | (simp; omega) | simp) _ | refine Below.drew ?_ | refine below_drewN ?_ _ | refine Below.step (by assumption) (by first | omega | (simp; omega) | simp) ?_)))⟩
              case measure => simp [intOf]; omega
      all_goals
        go_wp2_with (go_at_call 30; refine (l1In_any _ _ _ _).mono ?_; rintro e w' ⟨rfl, rfl⟩)
        go_ret
        exact ⟨by rw [Hno.out (by unfold limOk; first | (simp only [e1, e2, e3, Bool.true_and, Bool.and_false, Bool.false_and]; done) | (simp only [e1, e2, Bool.true_and, Bool.and_false, Bool.false_and]; done) | (simp only [e1, Bool.true_and, Bool.and_false, Bool.false_and]; done))]; rfl, (by (repeat (first | exact Below.refl _ _ | exact Hbl.out | refine Below.ext ?_ (by first | omega | (simp; omega) | simp) | refine Below.setCell ?_ (by first | omega | (simp; omega) | simp) _ | refine Below.alloc ?_ (by first | omega | (simp; omega) | simp) _ | refine Below.drew ?_ | refine below_drewN ?_ _ | refine Below.step (by assumption) (by first | omega | (simp; omega) | simp) ?_)))⟩
    · have hk' : k = l.length := by omega
      subst hk'
      have hgood := limB_ws_good hm (fun j hj => Hall.out j hj) (fun j hj => Hsum.out j hj)
      have Hgood := Lib.hid hgood; clear hgood
      have Hbl := Lib.hid hbl; clear hbl
      go_wp2
      go_ret
      exact ⟨by rw [Hgood.out]; simp; omega, (by (repeat (first | exact Below.refl _ _ | exact Hbl.out | refine Below.ext ?_ (by first | omega | (simp; omega) | simp) | refine Below.setCell ?_ (by first | omega | (simp; omega) | simp) _ | refine Below.alloc ?_ (by first | omega | (simp; omega) | simp) _ | refine Below.drew ?_ | refine below_drewN ?_ _ | refine Below.step (by assumption) (by first | omega | (simp; omega) | simp) ?_)))⟩
theorem limitsValidS_of (v : Value) (l : List T3) (w : World) (h : Sl3 w v l) (hm : l.length ≤ 1048576) : Calls Try.prog 12 #[v] w fun e w' => e = .returned (.bool (limB l)) ∧ Below w.heap.size w w' := by
  obtain ⟨A, cap, rfl, h1, h2, h3⟩ := h
  exact limitsValidS_any A cap l w h1 h2 h3 hm
end Go.Proofs.Ytffppecflamcgaa
