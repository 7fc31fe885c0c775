/- The drawn law on RoomFor: the walk. -/
import Derived.Test.YtffppecflamcgaaDrawL2
import Derived.Test.YtffppecflamcgaaLimP
import Derived.Test.YtffppecflamcgaaRoomI
import Derived.Test.YtffppecflamcgaaRoomS
import Derived.Test.YtffppecflamcgaaName
set_option linter.unusedSimpArgs false
set_option linter.unusedVariables false
set_option linter.unusedSectionVars false
namespace Go.Proofs.Ytffppecflamcgaa
open Go.RowKit

set_option maxHeartbeats 1000000 in
theorem walkFnRoomFor (a : Option Addr) (len cap : Nat) (zs : List Int) (w : World) (hrow : IsRow .u8 w a len cap zs) :
    Calls Try.prog 6 #[.slice a len cap] w fun e w' => e = .returned (.bool true) ∧ Below w.heap.size w w' := by
  obtain ⟨hl1, hl2⟩ := hrow.len_le
  unfold maxLen at hl2
  by_cases hbig : (1048576 : Int) < (len : Int)
  · go_enter Try.func6, Try.ntmps6
    go_wp2
    go_ret
    exact ⟨rfl, Below.refl _ _⟩
  · go_enter Try.func6, Try.ntmps6
    go_wp2_with fail
    refine (drawRF_any a len cap zs _ hrow).mono ?_
    rintro e w1 ⟨v, l, n, rfl, hl, n0, n1, o1, b1⟩
    obtain ⟨A1, k1, rfl⟩ := own_shape o1
    go_wp2_with fail
    refine (roomI_of _ l n _ (own_sl3 o1)).mono ?_
    rintro e w2 ⟨rfl, b2⟩
    have o2 := own_below o1 b2
    have c2 := Below.step b2 b1.size b1
    go_wp2_with fail
    refine (roomS_of _ l n _ (own_sl3 o2) (by omega)).mono ?_
    rintro e w3 ⟨rfl, b3⟩
    have o3 := own_below o2 b3
    have c3 := Below.step b3 c2.size c2
    rcases room_cases l n with ⟨hok, r0, m0, m1⟩ | ⟨hno, r1⟩
    · obtain ⟨k, rfl⟩ := Int.eq_ofNat_of_zero_le m0
      have here := room_here hok
      have hup : 0 ≤ (ti l k).1 → roomF l k ≤ roomF l (ti l k).1 := room_up hok
      have hall := allOk_of (roomOk_iff.1 hok).1
      obtain ⟨⟨q1, q2⟩, ⟨q3, q4⟩, q5, q6⟩ := limOk_iff.1 (hall k (by omega))
      obtain ⟨g, c, e, hg1, hg2⟩ := own_at o3 (by omega)
      injection e with e1 _ e3
      subst e1 e3
      have S3 := Lib.hid (own_sl3 o3)
      have x0 : w3.cell? ⟨g, k * 3, none⟩ = some (.int .i64 (ti l k).1) := by rw [o3.cellAt _ (by omega), row3_at (by omega), show (k * 3) / 3 = k from by omega, show (k * 3) % 3 = 0 from by omega]; rfl
      have x1 : w3.cell? ⟨g, k * 3 + 1, none⟩ = some (.int .i64 (ti l k).2.1) := by rw [o3.cellAt _ (by omega), row3_at (by omega), show (k * 3 + 1) / 3 = k from by omega, show (k * 3 + 1) % 3 = 1 from by omega]; rfl
      have x2 : w3.cell? ⟨g, k * 3 + 2, none⟩ = some (.int .i64 (ti l k).2.2) := by rw [o3.cellAt _ (by omega), row3_at (by omega), show (k * 3 + 2) / 3 = k from by omega, show (k * 3 + 2) % 3 = 2 from by omega]; rfl
      have z1 : IntKind.i64.wrap ((ti l k).2.1 - (ti l k).2.2) = (ti l k).2.1 - (ti l k).2.2 := IntWalk.i64_in _ (by omega)
      have z2 : (k : Int) < (l.length : Int) := by omega
      have C3 := Lib.hid c3; clear c3 c2 b1 b2 b3 o1 o2 o3 hall hok
      by_cases hneg : (ti l k).1 < 0
      · clear hup
        have z5 : decide ((ti l k).1 < 0) = true := by simpa using hneg
        go_wp2
        go_quiet (fail)
        go_wp2
        go_ret
        exact ⟨rfl, below_drewN C3.out _⟩
      · have hup := hup (by omega)
        have z5 : decide ((ti l k).1 < 0) = false := by simpa using hneg
        go_wp2
        go_region_held3 (fun w' => w'.cell? ⟨g, k * 3, none⟩ = some (.int .i64 (ti l k).1) ∧ w'.cell? ⟨g, k * 3 + 1, none⟩ = some (.int .i64 (ti l k).2.1) ∧ w'.cell? ⟨g, k * 3 + 2, none⟩ = some (.int .i64 (ti l k).2.2)) (go_simp) (first | (go_at_call 17; refine (roomI_of _ l _ _ ?_).mono ?_; (focus (exact S3.out)); rintro e w' ⟨rfl, hb⟩; obtain ⟨d1, os1, rfl⟩ := ext_of_below hb; clear hb))
        go_wp2
        go_ret
        exact ⟨rfl, (by (repeat (first | exact Below.refl _ _ | exact Hbl.out | refine Below.ext ?_ (by first | omega | (simp; omega) | simp) | refine Below.setCell ?_ (by first | omega | (simp; omega) | simp) _ | refine Below.alloc ?_ (by first | omega | (simp; omega) | simp) _ | refine Below.drew ?_ | refine below_drewN ?_ _ | refine Below.step (by assumption) (by first | omega | (simp; omega) | simp) ?_)))⟩
    · rw [r1]
      go_wp2_with (go_at_call 19; refine (alive_any _).mono ?_; rintro e w' ⟨rfl, rfl⟩)
      go_ret
      exact ⟨rfl, c3⟩
end Go.Proofs.Ytffppecflamcgaa
