/- Paths: the draws of the laws on paths. -/
import Derived.Test.YtaadobcfijegcaaDoorDrawP
import Derived.Test.YtaadobcfijegcaaDoorFollowS
set_option linter.unusedSimpArgs false
set_option linter.unusedVariables false
set_option linter.unusedSectionVars false
namespace Go.Proofs.YtaadobcfijegcaaDoor
open Go.RowKit

/-- Two texts of at most 60 signs. -/
def Two (w : World) (e : Ending) (w' : World) : Prop := ∃ s t : ByteArray, e = .returned (.tuple #[.string s, .string t]) ∧ s.size ≤ 60 ∧ t.size ≤ 60 ∧ Below w.heap.size w w'
set_option maxHeartbeats 1000000 in
theorem drawIB_any (a : Option Addr) (len cap : Nat) (zs : List Int) (w : World) (hrow : IsRow .u8 w a len cap zs) : Calls Tryd.prog 33 #[.slice a len cap] w (Two w) := by
  go_enter Tryd.func33, Tryd.ntmps33
  go_wp2_with (go_at_call 45; refine (open_any _ _ _ _ _ (IsRow.below hrow (by repeat (first | exact Below.refl _ _ | refine Below.alloc ?_ (by simp; try omega) _)))).mono ?_; rintro e w' ⟨A, le, ca, rfl, rfl, zs', hby⟩; (try simp only [World.size_alloc] at hby))
  refine (l20Path_any _ ?_ 12 _ ?_ ?_ (by decide)).mono ?_; rotate_left; (focus ((repeat (first | assumption | refine Rd.ext ?_ | refine Rd.drew ?_ | refine Rd.drewN ?_ | refine Rd.set (by assumption) ?_ | refine Rd.lit (by assumption) (by simp) ?_ | refine Rd.alloc ?_ _ | omega)))); (focus omega); rintro e w' ⟨_, q, d, os, rfl, q1, q2, ⟨s, rfl, hs⟩, rfl⟩
  (go_wp2_with fail); refine (pick_any _ ?_ _ _ ?_ ?_).mono ?_; rotate_left; (focus ((repeat (first | assumption | refine Rd.ext ?_ | refine Rd.drew ?_ | refine Rd.drewN ?_ | refine Rd.set (by assumption) ?_ | refine Rd.lit (by assumption) (by simp) ?_ | refine Rd.alloc ?_ _ | omega)))); (focus omega); rintro e w' ⟨x, dx, rfl, lx, hx, h2, rfl⟩; replace hx := hx (by omega); clear h2
  go_wp2_with fail
  · have hf := follow_size s.data.toList (ByteArray.mk #[97]).data.toList
    refine (followS_of s ⟨#[97]⟩ _ (by omega) (by decide)).mono ?_
    rintro e w' ⟨rfl, hb⟩
    obtain ⟨d1, os1, rfl⟩ := ext_of_below hb; clear hb
    rw [← mk_size] at hf
    generalize mk (followF s.data.toList (ByteArray.mk #[97]).data.toList) = y at hf
    go_wp2
    go_ret2
    exact ⟨y, s, rfl, by omega, by omega, (by (repeat (first | exact Below.refl _ _ | exact Hbl.out | refine Below.ext ?_ (by first | omega | (simp; omega) | simp) | refine Below.setCell ?_ (by first | omega | (simp; omega) | simp) _ | refine Below.alloc ?_ (by first | omega | (simp; omega) | simp) _ | refine Below.drew ?_ | refine below_drewN ?_ _ | refine Below.step (by assumption) (by first | omega | (simp; omega) | simp) ?_)))⟩
  · refine (l20Path_any _ ?_ 12 _ ?_ ?_ (by decide)).mono ?_; rotate_left; (focus ((repeat (first | assumption | refine Rd.ext ?_ | refine Rd.drew ?_ | refine Rd.drewN ?_ | refine Rd.set (by assumption) ?_ | refine Rd.lit (by assumption) (by simp) ?_ | refine Rd.alloc ?_ _ | omega)))); (focus omega); rintro e w' ⟨_, q, d, os, rfl, q1, q2, ⟨t, rfl, ht⟩, rfl⟩
    go_wp2
    go_ret2
    exact ⟨s, t, rfl, by omega, by omega, (by (repeat (first | exact Below.refl _ _ | exact Hbl.out | refine Below.ext ?_ (by first | omega | (simp; omega) | simp) | refine Below.setCell ?_ (by first | omega | (simp; omega) | simp) _ | refine Below.alloc ?_ (by first | omega | (simp; omega) | simp) _ | refine Below.drew ?_ | refine below_drewN ?_ _ | refine Below.step (by assumption) (by first | omega | (simp; omega) | simp) ?_)))⟩
theorem drawBR_any (a : Option Addr) (len cap : Nat) (zs : List Int) (w : World) (hrow : IsRow .u8 w a len cap zs) : Calls Tryd.prog 24 #[.slice a len cap] w (Two w) := by
  go_enter Tryd.func24, Tryd.ntmps24
  go_wp2_with (go_at_call 45; refine (open_any _ _ _ _ _ (IsRow.below hrow (by repeat (first | exact Below.refl _ _ | refine Below.alloc ?_ (by simp; try omega) _)))).mono ?_; rintro e w' ⟨A, le, ca, rfl, rfl, zs', hby⟩; (try simp only [World.size_alloc] at hby))
  refine (l20Path_any _ ?_ 12 _ ?_ ?_ (by decide)).mono ?_; rotate_left; (focus ((repeat (first | assumption | refine Rd.ext ?_ | refine Rd.drew ?_ | refine Rd.drewN ?_ | refine Rd.set (by assumption) ?_ | refine Rd.lit (by assumption) (by simp) ?_ | refine Rd.alloc ?_ _ | omega)))); (focus omega); rintro e w' ⟨_, q, d, os, rfl, q1, q2, ⟨s, rfl, hs⟩, rfl⟩
  go_wp2_with fail
  refine (l20Path_any _ ?_ 12 _ ?_ ?_ (by decide)).mono ?_; rotate_left; (focus ((repeat (first | assumption | refine Rd.ext ?_ | refine Rd.drew ?_ | refine Rd.drewN ?_ | refine Rd.set (by assumption) ?_ | refine Rd.lit (by assumption) (by simp) ?_ | refine Rd.alloc ?_ _ | omega)))); (focus omega); rintro e w' ⟨_, q', d', os', rfl, q3, q4, ⟨t, rfl, ht⟩, rfl⟩
  go_wp2
  go_ret2
  exact ⟨s, t, rfl, by omega, by omega, (by (repeat (first | exact Below.refl _ _ | exact Hbl.out | refine Below.ext ?_ (by first | omega | (simp; omega) | simp) | refine Below.setCell ?_ (by first | omega | (simp; omega) | simp) _ | refine Below.alloc ?_ (by first | omega | (simp; omega) | simp) _ | refine Below.drew ?_ | refine below_drewN ?_ _ | refine Below.step (by assumption) (by first | omega | (simp; omega) | simp) ?_)))⟩
theorem drawFW_any (a : Option Addr) (len cap : Nat) (zs : List Int) (w : World) (hrow : IsRow .u8 w a len cap zs) : Calls Tryd.prog 27 #[.slice a len cap] w (Two w) := by
  go_enter Tryd.func27, Tryd.ntmps27
  go_wp2_with (go_at_call 45; refine (open_any _ _ _ _ _ (IsRow.below hrow (by repeat (first | exact Below.refl _ _ | refine Below.alloc ?_ (by simp; try omega) _)))).mono ?_; rintro e w' ⟨A, le, ca, rfl, rfl, zs', hby⟩; (try simp only [World.size_alloc] at hby))
  refine (l20Path_any _ ?_ 14 _ ?_ ?_ (by decide)).mono ?_; rotate_left; (focus ((repeat (first | assumption | refine Rd.ext ?_ | refine Rd.drew ?_ | refine Rd.drewN ?_ | refine Rd.set (by assumption) ?_ | refine Rd.lit (by assumption) (by simp) ?_ | refine Rd.alloc ?_ _ | omega)))); (focus omega); rintro e w' ⟨_, q, d, os, rfl, q1, q2, ⟨s, rfl, hs⟩, rfl⟩
  go_wp2_with fail
  refine (l20Way_any _ ?_ 9 _ ?_ ?_ (by decide) (by decide)).mono ?_; rotate_left; (focus ((repeat (first | assumption | refine Rd.ext ?_ | refine Rd.drew ?_ | refine Rd.drewN ?_ | refine Rd.set (by assumption) ?_ | refine Rd.lit (by assumption) (by simp) ?_ | refine Rd.alloc ?_ _ | omega)))); (focus omega); rintro e w' ⟨_, q', d', os', rfl, q3, q4, ⟨t, rfl, ht⟩, rfl⟩
  go_wp2
  go_ret2
  exact ⟨s, t, rfl, by omega, by omega, (by (repeat (first | exact Below.refl _ _ | exact Hbl.out | refine Below.ext ?_ (by first | omega | (simp; omega) | simp) | refine Below.setCell ?_ (by first | omega | (simp; omega) | simp) _ | refine Below.alloc ?_ (by first | omega | (simp; omega) | simp) _ | refine Below.drew ?_ | refine below_drewN ?_ _ | refine Below.step (by assumption) (by first | omega | (simp; omega) | simp) ?_)))⟩
theorem drawAO_any (a : Option Addr) (len cap : Nat) (zs : List Int) (w : World) (hrow : IsRow .u8 w a len cap zs) : Calls Tryd.prog 29 #[.slice a len cap] w fun e w' => ∃ s : ByteArray, e = .returned (.string s) ∧ s.size ≤ 60 ∧ Below w.heap.size w w' := by
  go_enter Tryd.func29, Tryd.ntmps29
  go_wp2_with (go_at_call 45; refine (open_any _ _ _ _ _ (IsRow.below hrow (by repeat (first | exact Below.refl _ _ | refine Below.alloc ?_ (by simp; try omega) _)))).mono ?_; rintro e w' ⟨A, le, ca, rfl, rfl, zs', hby⟩; (try simp only [World.size_alloc] at hby))
  refine (l20Path_any _ ?_ 6 _ ?_ ?_ (by decide)).mono ?_; rotate_left; (focus ((repeat (first | assumption | refine Rd.ext ?_ | refine Rd.drew ?_ | refine Rd.drewN ?_ | refine Rd.set (by assumption) ?_ | refine Rd.lit (by assumption) (by simp) ?_ | refine Rd.alloc ?_ _ | omega)))); (focus omega); rintro e w' ⟨_, q, d, os, rfl, q1, q2, ⟨s, rfl, hs⟩, rfl⟩
  go_wp2
  go_ret
  exact ⟨s, rfl, by omega, (by (repeat (first | exact Below.refl _ _ | exact Hbl.out | refine Below.ext ?_ (by first | omega | (simp; omega) | simp) | refine Below.setCell ?_ (by first | omega | (simp; omega) | simp) _ | refine Below.alloc ?_ (by first | omega | (simp; omega) | simp) _ | refine Below.drew ?_ | refine below_drewN ?_ _ | refine Below.step (by assumption) (by first | omega | (simp; omega) | simp) ?_)))⟩
theorem below_size (r p : List UInt8) : (belowF r p).length ≤ 54 := by
  by_cases h : belowF r p = []
  · rw [h]; exact Nat.zero_le _
  · exact ok_size (rest_yes (inside_below h).1).1
set_option maxHeartbeats 1000000 in
theorem drawIR_any (a : Option Addr) (len cap : Nat) (zs : List Int) (w : World) (hl : len ≤ 1048576) (hrow : IsRow .u8 w a len cap zs) : Calls Tryd.prog 20 #[.slice a len cap] w (Two w) := by
  go_enter Tryd.func20, Tryd.ntmps20
  go_wp2_with fail
  refine (drawBR_any a len cap zs _ hrow).mono ?_
  rintro e w1 ⟨s, t, rfl, hs, ht, b1⟩
  go_wp2_with fail
  · have hf := below_size s.data.toList t.data.toList
    refine (belowS_of s t _ (by omega) (by omega)).mono ?_
    rintro e w2 ⟨rfl, b2⟩
    rw [← mk_size] at hf
    generalize mk (belowF s.data.toList t.data.toList) = y at hf
    go_wp2
    go_ret2
    exact ⟨s, y, rfl, by omega, by omega, Below.step b2 b1.size b1⟩
  · go_ret2
    exact ⟨s, t, rfl, by omega, by omega, b1⟩
end Go.Proofs.YtaadobcfijegcaaDoor
