/- Limits: 'RoomFor' of the reference. -/
import Derived.Test.YtffppecflamcgaaRoom
import Derived.Test.YtffppecflamcgaaLimS
set_option linter.unusedSimpArgs false
set_option linter.unusedVariables false
set_option linter.unusedSectionVars false
namespace Go.Proofs.Ytffppecflamcgaa
open Go.RowKit

set_option maxHeartbeats 2000000 in
theorem roomS_of (v : Value) (l : List T3) (n : Int) (w : World) (h0 : Sl3 w v l) (hm : l.length ≤ 1048576) : Calls Try.prog 16 #[v, .int .i64 n] w fun e w' => e = .returned (.int .i64 (roomF l n)) ∧ Below w.heap.size w w' := by
  have h0' := h0
  obtain ⟨A, cap, rfl, h1, h2, h3⟩ := h0'
  unfold maxLen at h2
  have HA := Lib.hid h3; clear h3
  have z1 : IntKind.i64.wrap ((l.length : Int) - 1) = (l.length : Int) - 1 := IntWalk.i64_in _ (by omega)
  rcases and2 (limB l) (inB n 0 ((l.length : Int) - 1)) with e1 | ⟨e1, e2⟩ | ⟨e1, e2⟩
  case inr.inr =>
    have hok : roomOk l n = true := by unfold roomOk; rw [e1, e2]; rfl
    have Hr := Lib.hid (roomF_yes hok)
    obtain ⟨h8, hall, _⟩ := limB_all e1
    have Hall := Lib.hid hall; clear hall
    obtain ⟨n1, n2⟩ := inB_iff.1 e2
    go_enter Try.func16, Try.ntmps16
    go_wp2_with (first
      | (go_at_call 12; refine (limitsValidS_of _ l _ h0 hm).mono ?_; rintro e w' ⟨rfl, hb⟩; obtain ⟨d1, os1, rfl⟩ := ext_of_below hb; clear hb)
      | (go_at_call 30; refine (l1In_any _ _ _ _).mono ?_; rintro e w' ⟨rfl, rfl⟩))
    go_loopw [1, 5] (fun i r wr => ∃ (m q : Int) (f : Nat), -1 ≤ m ∧ m < (l.length : Int) ∧ m < f ∧ i = .int .i64 m ∧ r = .int .i64 q ∧ roomUp l f m q = roomUp l l.length n 10000 ∧ Below w.heap.size w wr) (fun i _ _ => (intOf i + 1).toNat)
    case atStart => exact ⟨n, 10000, l.length, by omega, by omega, by omega, rfl, rfl, rfl, (by (repeat (first | exact Below.refl _ _ | exact Hbl.out | refine Below.ext ?_ (by first | omega | (simp; omega) | simp) | refine Below.setCell ?_ (by first | omega | (simp; omega) | simp) _ | refine Below.alloc ?_ (by first | omega | (simp; omega) | simp) _ | refine Below.drew ?_ | refine below_drewN ?_ _ | refine Below.step (by assumption) (by first | omega | (simp; omega) | simp) ?_)))⟩
    case round =>
      obtain ⟨m, q, f, m1, m2, m3, rfl, rfl, hup, hbl⟩ := hrel
      have Hup := Lib.hid hup; clear hup
      by_cases hm0 : 0 ≤ m
      · obtain ⟨k, rfl⟩ := Int.eq_ofNat_of_zero_le hm0
        have hlt : k < l.length := by omega
        obtain ⟨b, off, rfl, hb, hcs⟩ := HA.out.resolve_left (fun e => by subst e; simp at hlt)
        obtain ⟨c1, c2, c3⟩ := (hcs.below hb hbl) k hlt
        clear hcs
        have Hbl := Lib.hid hbl; clear hbl
        obtain ⟨⟨a1, a2⟩, ⟨a3, a4⟩, ⟨a5, a6⟩⟩ := limOk_iff.1 (Hall.out k hlt)
        obtain ⟨g, rfl⟩ : ∃ g, f = g + 1 := ⟨f - 1, by omega⟩
        have hst := Hup.out
        rw [roomUp_step] at hst
        have Hst := Lib.hid hst; clear hst
        have z2 : IntKind.i64.wrap ((ti l k).2.1 - (ti l k).2.2) = (ti l k).2.1 - (ti l k).2.2 := IntWalk.i64_in _ (by omega)
        go_wp2
        go_quiet (fail)
        go_wp2
        refine ⟨⟨_, _, g, ?_, ?_, ?_, rfl, rfl, ?_, ?_⟩, ?_⟩
        · omega
        · omega
        · omega
        · have e := Hst.out
          rw [Int.min_def] at e
          rw [← e]
          congr 1
          split <;> split <;> omega
        · have hbl := Hbl.out
          (repeat (first | exact Below.refl _ _ | exact Hbl.out | refine Below.ext ?_ (by first | omega | (simp; omega) | simp) | refine Below.setCell ?_ (by first | omega | (simp; omega) | simp) _ | refine Below.alloc ?_ (by first | omega | (simp; omega) | simp) _ | refine Below.drew ?_ | refine below_drewN ?_ _ | refine Below.step (by assumption) (by first | omega | (simp; omega) | simp) ?_))
        · show ((ti l k).1 + 1).toNat < ((k : Int) + 1).toNat
          omega
      · have hm1 : m = -1 := by omega
        have hfin := Hup.out
        rw [roomUp_neg l (by omega)] at hfin
        have Hfin := Lib.hid hfin; clear hfin
        have Hbl := Lib.hid hbl; clear hbl
        clear hm1
        go_wp2
        go_ret
        exact ⟨by rw [Hr.out, ← Hfin.out]; rfl, (by (repeat (first | exact Below.refl _ _ | exact Hbl.out | refine Below.ext ?_ (by first | omega | (simp; omega) | simp) | refine Below.setCell ?_ (by first | omega | (simp; omega) | simp) _ | refine Below.alloc ?_ (by first | omega | (simp; omega) | simp) _ | refine Below.drew ?_ | refine below_drewN ?_ _ | refine Below.step (by assumption) (by first | omega | (simp; omega) | simp) ?_)))⟩
  all_goals
    have hok : roomOk l n = false := by unfold roomOk; first | (rw [e1, e2]; rfl) | (rw [e1, e2]; done) | (rw [e1]; rfl) | (rw [e1]; done)
    have Hr := Lib.hid (roomF_no hok)
    go_enter Try.func16, Try.ntmps16
    go_wp2_with (first
      | (go_at_call 12; refine (limitsValidS_of _ l _ h0 hm).mono ?_; rintro e w' ⟨rfl, hb⟩; obtain ⟨d1, os1, rfl⟩ := ext_of_below hb; clear hb)
      | (go_at_call 30; refine (l1In_any _ _ _ _).mono ?_; rintro e w' ⟨rfl, rfl⟩))
    go_ret
    exact ⟨by rw [Hr.out]; rfl, (by (repeat (first | exact Below.refl _ _ | exact Hbl.out | refine Below.ext ?_ (by first | omega | (simp; omega) | simp) | refine Below.setCell ?_ (by first | omega | (simp; omega) | simp) _ | refine Below.alloc ?_ (by first | omega | (simp; omega) | simp) _ | refine Below.drew ?_ | refine below_drewN ?_ _ | refine Below.step (by assumption) (by first | omega | (simp; omega) | simp) ?_)))⟩
end Go.Proofs.Ytffppecflamcgaa
