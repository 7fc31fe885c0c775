/- Limits of the law's own type, turned into the program's and held against each other. -/
import Derived.Test.YtffppecflamcgaaRow
import Derived.Deep.RegionHeld3
set_option linter.unusedSimpArgs false
set_option linter.unusedVariables false
set_option linter.unusedSectionVars false
namespace Go.Proofs.Ytffppecflamcgaa
open Go.RowKit

theorem toLimit_any (a b c : Int) (w : World) : Calls Try.prog 31 #[.agg #[.int .i64 a, .int .i64 b, .int .i64 c]] w fun e w' => e = .returned (.agg #[.int .i64 a, .int .i64 b, .int .i64 c]) ∧ Below w.heap.size w w' := by
  go_enter Try.func31, Try.ntmps31
  go_wp2
  refine bodyPost_ret (v := .agg #[.int .i64 a, .int .i64 b, .int .i64 c]) ?_ rfl ⟨rfl, ?_⟩
  · simp [results, Try.results31, go_sem]
  · (repeat (first | exact Below.refl _ _ | exact Hbl.out | refine Below.ext ?_ (by first | omega | (simp; omega) | simp) | refine Below.setCell ?_ (by first | omega | (simp; omega) | simp) _ | refine Below.alloc ?_ (by first | omega | (simp; omega) | simp) _ | refine Below.drew ?_ | refine below_drewN ?_ _ | refine Below.step (by assumption) (by first | omega | (simp; omega) | simp) ?_))
theorem eqLimit_same (a b c : Int) (w : World) : Calls Try.prog 33 #[.agg #[.int .i64 a, .int .i64 b, .int .i64 c], .agg #[.int .i64 a, .int .i64 b, .int .i64 c]] w fun e w' => e = .returned (.bool true) ∧ Below w.heap.size w w' := by
  go_enter Try.func33, Try.ntmps33
  go_wp2
  go_ret
  exact ⟨rfl, (by (repeat (first | exact Below.refl _ _ | exact Hbl.out | refine Below.ext ?_ (by first | omega | (simp; omega) | simp) | refine Below.setCell ?_ (by first | omega | (simp; omega) | simp) _ | refine Below.alloc ?_ (by first | omega | (simp; omega) | simp) _ | refine Below.drew ?_ | refine below_drewN ?_ _ | refine Below.step (by assumption) (by first | omega | (simp; omega) | simp) ?_)))⟩
theorem infoLimit : (Try.prog.info? 34).map (fun i => (i.zero, i.size, i.bytes)) = some (some (.agg #[.int .i64 0, .int .i64 0, .int .i64 0]), 3, 24) := by kernel_rfl

set_option maxHeartbeats 1000000 in
theorem toLimitS_any (A : Option Addr) (cap : Nat) (l : List (Int × Int × Int)) (w : World) (hn : l.length ≤ cap) (hc : cap ≤ maxLen) (hA : l = [] ∨ ∃ b off, A = some ⟨b, off, none⟩ ∧ b < w.heap.size ∧ At3 w b off l) (hm : l.length ≤ 1048576) :
    Calls Try.prog 13 #[.slice A l.length cap] w fun e w' => e = .returned (.slice (some ⟨w.heap.size, 0, none⟩) l.length l.length) ∧ w'.ownsRow w.heap.size 34 3 (.slice (some ⟨w.heap.size, 0, none⟩) l.length l.length) l.length (row3 l.length (ti l)) ∧ Below w.heap.size w w' := by
  unfold maxLen at hc
  obtain ⟨i0, hi, hz0, hz1, hz2⟩ := info_parts infoLimit
  have HA := Lib.hid hA; clear hA
  go_enter Try.func13, Try.ntmps13
  go_wp2_with (refine wpList_make_full _ rfl _ _ 25 rfl w.heap.size 34 i0 (.agg #[.int .i64 0, .int .i64 0, .int .i64 0]) 3 Try.underlying25 hi hz0 hz1 _ _ _ _ l.length rfl rfl rfl rfl (by rw [hz2]; omega) (by unfold maxLen; omega) (Nat.le_refl _) ?_)
  intro w1 hown hg1
  have hbl : Below w.heap.size w w1 := (Below.refl _ _).grown hg1 (Nat.le_refl _) (by intro k hk; cases hk)
  rw [row3_made l.length] at hown
  have Hown := Lib.hid hown; clear hown
  have Hbl := Lib.hid hbl; clear hbl hg1
  go_wp2
  go_loopw [4] (fun i wr => ∃ k : Nat, k ≤ l.length ∧ i = .int .i64 k ∧ (∃ f, (∀ i, i < k → f i = ti l i) ∧ wr.ownsRow w.heap.size 34 3 (.slice (some ⟨w.heap.size, 0, none⟩) l.length l.length) l.length (row3 l.length f)) ∧ Below w.heap.size w wr) (fun i _ => l.length - (intOf i).toNat)
  case atStart => exact ⟨0, Nat.zero_le _, rfl, ⟨_, fun i hi => absurd hi (by omega), Hown.out⟩, Hbl.out⟩
  case round =>
    obtain ⟨k, hk, rfl, ⟨f, hf, hown⟩, hbl⟩ := hrel
    have Hf := Lib.hid hf; clear hf
    have hsz : w.heap.size < wr.heap.size := (hown.lt w.heap.size rfl).2
    by_cases hlt : k < l.length
    · obtain ⟨b, off, rfl, hb, hcs⟩ := HA.out.resolve_left (fun e => by subst e; simp at hlt)
      have Hcs := Lib.hid hcs; clear hcs
      obtain ⟨c1, c2, c3⟩ := (Hcs.out.below hb hbl) k hlt
      have x0 : wr.cell? ⟨w.heap.size, k * 3, none⟩ = some (.int .i64 (f k).1) := by rw [hown.cellAt _ (by omega), row3_at (by omega), show (k * 3) / 3 = k from by omega, show (k * 3) % 3 = 0 from by omega]; rfl
      have x1 : wr.cell? ⟨w.heap.size, k * 3 + 1, none⟩ = some (.int .i64 (f k).2.1) := by rw [hown.cellAt _ (by omega), row3_at (by omega), show (k * 3 + 1) / 3 = k from by omega, show (k * 3 + 1) % 3 = 1 from by omega]; rfl
      have x2 : wr.cell? ⟨w.heap.size, k * 3 + 2, none⟩ = some (.int .i64 (f k).2.2) := by rw [hown.cellAt _ (by omega), row3_at (by omega), show (k * 3 + 2) / 3 = k from by omega, show (k * 3 + 2) % 3 = 2 from by omega]; rfl
      have y0 : wr.frozen? ⟨w.heap.size, k * 3, none⟩ = false := hown.frozenAt _
      have y1 : wr.frozen? ⟨w.heap.size, k * 3 + 1, none⟩ = false := hown.frozenAt _
      have y2 : wr.frozen? ⟨w.heap.size, k * 3 + 2, none⟩ = false := hown.frozenAt _
      have Hown := Lib.hid hown; clear hown
      have Hbl := Lib.hid hbl; clear hbl
      go_wp2_with (go_at_call 31; refine (toLimit_any _ _ _ _).mono ?_; rintro e w' ⟨rfl, hb⟩; obtain ⟨d1, os1, rfl⟩ := ext_of_below hb; clear hb)
      go_roundw
      case rel =>
        have s1 := (Hown.out.stored (k * 3) (.int .i64 (ti l k).1)).1
        have s2 := (s1.stored (k * 3 + 1) (.int .i64 (ti l k).2.1)).1
        have s3 := (s2.stored (k * 3 + 2) (.int .i64 (ti l k).2.2)).1
        rw [row3_set hlt] at s3
        exact ⟨k + 1, by omega, by go_num, ⟨upd f k ((ti l k).1, (ti l k).2.1, (ti l k).2.2), fun i hi => by
          unfold upd
          by_cases e : i = k
          · rw [if_pos e, e]
          · rw [if_neg e]; exact Hf.out i (by omega), by first | exact own_ext s3 | exact s3⟩, (by (repeat (first | exact Below.refl _ _ | exact Hbl.out | refine Below.ext ?_ (by first | omega | (simp; omega) | simp) | refine Below.setCell ?_ (by first | omega | (simp; omega) | simp) _ | refine Below.alloc ?_ (by first | omega | (simp; omega) | simp) _ | refine Below.drew ?_ | refine below_drewN ?_ _ | refine Below.step (by assumption) (by first | omega | (simp; omega) | simp) ?_)))⟩
      case measure => simp [intOf]; omega
    · have hk' : k = l.length := by omega
      subst hk'
      rw [row3_congr Hf.out] at hown
      have Hown := Lib.hid hown; clear hown
      have Hbl := Lib.hid hbl; clear hbl
      go_wp2
      go_ret
      exact ⟨rfl, Hown.out, Hbl.out⟩

set_option maxHeartbeats 1000000 in
theorem eqLimitS_any (A A' : Option Addr) (cap cap' : Nat) (l : List (Int × Int × Int)) (w : World) (hn : l.length ≤ cap) (hc : cap ≤ maxLen) (hA : l = [] ∨ ∃ b off, A = some ⟨b, off, none⟩ ∧ b < w.heap.size ∧ At3 w b off l) (hA' : l = [] ∨ ∃ b off, A' = some ⟨b, off, none⟩ ∧ b < w.heap.size ∧ At3 w b off l) :
    Calls Try.prog 15 #[.slice A l.length cap, .slice A' l.length cap'] w fun e w' => e = .returned (.bool true) ∧ Below w.heap.size w w' := by
  unfold maxLen at hc
  have HA := Lib.hid hA; clear hA
  have HA' := Lib.hid hA'; clear hA'
  go_enter Try.func15, Try.ntmps15
  go_wp2
  go_loopw [5] (fun i wr => ∃ k : Nat, k ≤ l.length ∧ i = .int .i64 k ∧ Below w.heap.size w wr) (fun i _ => l.length - (intOf i).toNat)
  case atStart => exact ⟨0, Nat.zero_le _, rfl, Below.refl _ _⟩
  case round =>
    obtain ⟨k, hk, rfl, hbl⟩ := hrel
    have hsz : w.heap.size ≤ wr.heap.size := hbl.size
    by_cases hlt : k < l.length
    · obtain ⟨b, off, rfl, hb, hcs⟩ := HA.out.resolve_left (fun e => by subst e; simp at hlt)
      obtain ⟨b', off', rfl, hb', hcs'⟩ := HA'.out.resolve_left (fun e => by subst e; simp at hlt)
      have Hcs := Lib.hid hcs; clear hcs
      have Hcs' := Lib.hid hcs'; clear hcs'
      obtain ⟨c1, c2, c3⟩ := (Hcs.out.below hb hbl) k hlt
      obtain ⟨d1, d2, d3⟩ := (Hcs'.out.below hb' hbl) k hlt
      have hbr : b < wr.heap.size := by omega
      have hbr' : b' < wr.heap.size := by omega
      have Hbl := Lib.hid hbl; clear hbl
      go_wp2
      go_region_held3 (fun w' => w'.cell? ⟨b, off + k * 3, none⟩ = some (.int .i64 (ti l k).1) ∧ w'.cell? ⟨b, off + k * 3 + 1, none⟩ = some (.int .i64 (ti l k).2.1) ∧ w'.cell? ⟨b, off + k * 3 + 2, none⟩ = some (.int .i64 (ti l k).2.2) ∧ w'.cell? ⟨b', off' + k * 3, none⟩ = some (.int .i64 (ti l k).1) ∧ w'.cell? ⟨b', off' + k * 3 + 1, none⟩ = some (.int .i64 (ti l k).2.1) ∧ w'.cell? ⟨b', off' + k * 3 + 2, none⟩ = some (.int .i64 (ti l k).2.2)) (go_simp) (first | (go_at_call 33; refine (eqLimit_same _ _ _ _).mono ?_; rintro e w' ⟨rfl, hb⟩; obtain ⟨d1, os1, rfl⟩ := ext_of_below hb; clear hb))
      go_wp2
      go_roundw
      case rel => exact ⟨k + 1, by omega, by go_num, (by (repeat (first | exact Below.refl _ _ | exact Hbl.out | refine Below.ext ?_ (by first | omega | (simp; omega) | simp) | refine Below.setCell ?_ (by first | omega | (simp; omega) | simp) _ | refine Below.alloc ?_ (by first | omega | (simp; omega) | simp) _ | refine Below.drew ?_ | refine below_drewN ?_ _ | refine Below.step (by assumption) (by first | omega | (simp; omega) | simp) ?_)))⟩
      case measure => simp [intOf]; omega
    · have Hbl := Lib.hid hbl; clear hbl
      go_wp2
      go_ret
      exact ⟨rfl, Hbl.out⟩
/-- What is left of a bound. -/
def szV (left n : Int) : Int := if left < n then -1 else left - n
theorem szV_no {left n : Int} (h : left < n) : szV left n = -1 := if_pos h
theorem szV_yes {left n : Int} (h : ¬ left < n) : szV left n = left - n := if_neg h
theorem szLimitS_any (A : Option Addr) (n cap : Nat) (left : Int) (w : World) (hn : n ≤ cap) (hc : cap ≤ maxLen) (h0 : 0 ≤ left) (h1 : left ≤ 1048576) :
    Calls Try.prog 11 #[.slice A n cap, .int .i64 left] w fun e w' => e = .returned (.int .i64 (szV left n)) ∧ w = w' := by
  unfold maxLen at hc
  by_cases h : left < (n : Int)
  · have h' : left - (n : Int) < 0 := by omega
    have Hv := Lib.hid (szV_no h)
    go_enter Try.func11, Try.ntmps11
    go_wp2
    go_ret
    exact ⟨by rw [Hv.out]; rfl, rfl⟩
  · have h' : ¬ left - (n : Int) < 0 := by omega
    have Hv := Lib.hid (szV_yes h)
    go_enter Try.func11, Try.ntmps11
    go_wp2
    go_ret
    exact ⟨by rw [Hv.out]; rfl, rfl⟩
theorem sl3_of_own {w : World} {base g cap : Nat} {e : TypeId} {l : List (Int × Int × Int)} (h : w.ownsRow base e 3 (.slice (some ⟨g, 0, none⟩) l.length cap) l.length (row3 l.length (ti l))) (hn : l.length ≤ cap) (hc : cap ≤ maxLen) : Sl3 w (.slice (some ⟨g, 0, none⟩) l.length cap) l :=
  ⟨_, cap, rfl, hn, hc, .inr ⟨g, 0, rfl, (h.lt g rfl).2, at3_of_own rfl h⟩⟩
/-- The program's own copy of a list that came in: a new row that reads as it. -/
def Copied (w : World) (l : List (Int × Int × Int)) (e : Ending) (w' : World) : Prop :=
  e = .returned (.slice (some ⟨w.heap.size, 0, none⟩) l.length l.length) ∧ w'.ownsRow w.heap.size 34 3 (.slice (some ⟨w.heap.size, 0, none⟩) l.length l.length) l.length (row3 l.length (ti l)) ∧ Below w.heap.size w w'
theorem toLimitS_of (v : Value) (l : List (Int × Int × Int)) (w : World) (h : Sl3 w v l) (hm : l.length ≤ 1048576) : Calls Try.prog 13 #[v] w (Copied w l) := by
  obtain ⟨A, cap, rfl, h1, h2, h3⟩ := h
  exact toLimitS_any A cap l w h1 h2 h3 hm
theorem eqLimitS_of (v v' : Value) (l : List (Int × Int × Int)) (w : World) (h : Sl3 w v l) (h' : Sl3 w v' l) : Calls Try.prog 15 #[v, v'] w fun e w' => e = .returned (.bool true) ∧ Below w.heap.size w w' := by
  obtain ⟨A, cap, rfl, h1, h2, h3⟩ := h
  obtain ⟨A', cap', rfl, _, _, h3'⟩ := h'
  exact eqLimitS_any A A' cap cap' l w h1 h2 h3 h3'
end Go.Proofs.Ytffppecflamcgaa
