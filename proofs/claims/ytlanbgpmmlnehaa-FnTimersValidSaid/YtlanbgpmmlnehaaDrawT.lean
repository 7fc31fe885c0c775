/- Timers: what is drawn. -/
import Derived.Test.YtlanbgpmmlnehaaSel12
import Derived.Test.YtlanbgpmmlnehaaTimG
set_option linter.unusedSimpArgs false
set_option linter.unusedVariables false
set_option linter.unusedSectionVars false
namespace Go.Proofs.Ytlanbgpmmlnehaa
open Go.RowKit

/-- Timers are drawn: at most m. -/
def DrewT (w : World) (R : Nat) (p k : Int) (m : Nat) (e : Ending) (w' : World) : Prop :=
  ∃ (v : Value) (l : List T3) (q : Int) (d : Nat) (os : Array Obj), e = .returned v ∧ p ≤ q ∧ q ≤ p + k ∧ l.length ≤ m ∧ w' = ext (w.setCell ⟨R, 1, none⟩ (.int .i64 q)) d os ∧ OwnG ET 36 w.heap.size w' v l
set_option maxRecDepth 100000 in
set_option maxHeartbeats 4000000 in
theorem l20Timers_any (R : Nat) (p n : Int) (w : World) (hr : Rd w R p) (hp : p ≤ 1000000000) (hn : 1 ≤ n) (hn' : n ≤ 1000) : Calls Try.prog 47 #[.pointer (some ⟨R, 0, none⟩), .int .i64 n] w (DrewT w R p 30 6) := by
  have hR := hr.lt
  have hp0 := hr.pos
  go_enter Try.func47, Try.ntmps47
  (go_wp2_with fail); refine (pick_any _ ?_ _ _ ?_ ?_).mono ?_; rotate_left; (focus ((repeat (first | assumption | refine Rd.ext ?_ | refine Rd.drew ?_ | refine Rd.drewN ?_ | refine Rd.set (by assumption) ?_ | refine Rd.lit (by assumption) (by simp) ?_ | refine Rd.alloc ?_ _ | omega)))); (focus omega); rintro e w' ⟨m, dm, rfl, lm, hm, h2, rfl⟩; replace hm := hm (by omega); clear h2
  go_wp2
  go_loopw [5, 6] (fun o i wr => ∃ (j : Int) (l : List T3) (q : Int) (d : Nat) (os : Array Obj), i = .int .i64 j ∧ 0 ≤ j ∧ (l.length : Int) + j ≤ 5 ∧ p ≤ q ∧ q ≤ p + 21 - 4 * j ∧ wr = ext (w.setCell ⟨R, 1, none⟩ (.int .i64 q)) d os ∧ OwnG ET 36 w.heap.size wr o l) (fun _ i _ => (intOf i).toNat)
  case atStart =>
    obtain ⟨d, os, e⟩ := ext_of_below (show Below (w.setCell ⟨R, 1, none⟩ (.int .i64 (p + 1))).heap.size (w.setCell ⟨R, 1, none⟩ (.int .i64 (p + 1))) (ext ((w.setCell ⟨R, 1, none⟩ (.int .i64 (p + 1))).alloc (.cells #[] 36)) dm #[]) from (by (repeat (first | exact Below.refl _ _ | exact Hbl.out | refine Below.ext ?_ (by first | omega | (simp; omega) | simp) | refine Below.setCell ?_ (by first | omega | (simp; omega) | simp) _ | refine Below.alloc ?_ (by first | omega | (simp; omega) | simp) _ | refine Below.drew ?_ | refine below_drewN ?_ _ | refine Below.step (by assumption) (by first | omega | (simp; omega) | simp) ?_))))
    exact ⟨m, [], p + 1, d, os, rfl, lm, by simp; omega, by omega, by omega, e, ownG_ext (ownG_empty _ (by simp) (by simp))⟩
  case round =>
    obtain ⟨j, l, q, d, os, rfl, j0, j1, q1, q2, rfl, hown⟩ := hrel
    obtain ⟨A, cap, rfl⟩ := ownG_shape hown
    have Hown := Lib.hid hown
    clear hown
    by_cases hlt : 0 < j
    · have zj : IntKind.i64.wrap (j - 1) = j - 1 := IntWalk.i64_in _ (by omega)
      (go_wp2_with fail); refine (pick_any _ ?_ _ _ ?_ ?_).mono ?_; rotate_left; (focus ((repeat (first | assumption | refine Rd.ext ?_ | refine Rd.drew ?_ | refine Rd.drewN ?_ | refine Rd.set (by assumption) ?_ | refine Rd.lit (by assumption) (by simp) ?_ | refine Rd.alloc ?_ _ | omega)))); (focus omega); rintro e w' ⟨a, da, rfl, la, ha, h2, rfl⟩; replace ha := ha (by omega); clear h2
      (go_wp2_with fail); refine (pick_any _ ?_ _ _ ?_ ?_).mono ?_; rotate_left; (focus ((repeat (first | assumption | refine Rd.ext ?_ | refine Rd.drew ?_ | refine Rd.drewN ?_ | refine Rd.set (by assumption) ?_ | refine Rd.lit (by assumption) (by simp) ?_ | refine Rd.alloc ?_ _ | omega)))); (focus omega); rintro e w' ⟨b, db, rfl, lb, hb, h2, rfl⟩; replace hb := hb (by omega); clear h2
      have zb : IntKind.i64.wrap (1 + b) = 1 + b := IntWalk.i64_in _ (by omega)
      (go_wp2_with fail); refine (pick_any _ ?_ _ _ ?_ ?_).mono ?_; rotate_left; (focus ((repeat (first | assumption | refine Rd.ext ?_ | refine Rd.drew ?_ | refine Rd.drewN ?_ | refine Rd.set (by assumption) ?_ | refine Rd.lit (by assumption) (by simp) ?_ | refine Rd.alloc ?_ _ | omega)))); (focus omega); rintro e w' ⟨c, dc, rfl, lc, hc, h2, rfl⟩; replace hc := hc (by omega); clear h2
      have zc : IntKind.i64.wrap (1 + c) = 1 + c := IntWalk.i64_in _ (by omega)
      (go_wp2_with fail); refine (pick_any _ ?_ _ _ ?_ ?_).mono ?_; rotate_left; (focus ((repeat (first | assumption | refine Rd.ext ?_ | refine Rd.drew ?_ | refine Rd.drewN ?_ | refine Rd.set (by assumption) ?_ | refine Rd.lit (by assumption) (by simp) ?_ | refine Rd.alloc ?_ _ | omega)))); (focus omega); rintro e w' ⟨x, dx, rfl, lx, hx, h2, rfl⟩; replace hx := hx (by omega); clear h2
      go_wp2_with fail
      refine (setTimer_of _ l a (1 + b) (selN x [0, 1 + c]) _ ?_ (by omega)).mono ?_
      · refine ownG_sl (B := w.heap.size) (T := 36) ?_
        repeat (first | exact ownG_re Hown.out (by omega) | exact ownG_re2 Hown.out (by omega) | refine ownG_ext ?_ | refine ownG_alloc ?_ _)
      rintro e w' ⟨v', l', bb, rfl, hl', ow, bl⟩
      have bl' : Below (w.setCell ⟨R, 1, none⟩ (.int .i64 (q + 1 + 1 + 1 + 1))).heap.size (w.setCell ⟨R, 1, none⟩ (.int .i64 (q + 1 + 1 + 1 + 1))) w' := Below.step bl (by first | (simp; done) | (simp; omega)) (by (repeat (first | exact Below.refl _ _ | exact Hbl.out | refine Below.ext ?_ (by first | omega | (simp; omega) | simp) | refine Below.setCell ?_ (by first | omega | (simp; omega) | simp) _ | refine Below.alloc ?_ (by first | omega | (simp; omega) | simp) _ | refine Below.drew ?_ | refine below_drewN ?_ _ | refine Below.step (by assumption) (by first | omega | (simp; omega) | simp) ?_)))
      obtain ⟨d', os', e'⟩ := ext_of_below bl'
      have ow' : OwnG ET 36 w.heap.size (ext (w.setCell ⟨R, 1, none⟩ (.int .i64 (q + 1 + 1 + 1 + 1))) d' os') v' l' := by rw [← e']; exact ownG_mono ow (by simp; try omega)
      clear bl bl' ow
      subst e'
      have Ow := Lib.hid ow'
      obtain ⟨A', c', rfl⟩ := ownG_shape ow'
      clear ow'
      go_wp2
      go_roundw
      case rel => exact ⟨j - 1, l', q + 1 + 1 + 1 + 1, d', os', by go_num, by omega, by omega, by omega, by omega, rfl, Ow.out⟩
      case measure => simp [intOf]; omega
    · go_wp2_with (go_at_call 64; refine (odd_any _ ?_ _ _ ?_ ?_ ?_ ?_).mono ?_; rotate_left; (focus ((repeat (first | assumption | refine Rd.ext ?_ | refine Rd.drew ?_ | refine Rd.drewN ?_ | refine Rd.set (by assumption) ?_ | refine Rd.lit (by assumption) (by simp) ?_ | refine Rd.alloc ?_ _ | omega)))); (focus omega); (focus omega); (focus omega); rintro e w' ⟨b, d, rfl, rfl⟩)
      · refine (pick_any _ ?_ _ _ ?_ ?_).mono ?_; rotate_left; (focus ((repeat (first | assumption | refine Rd.ext ?_ | refine Rd.drew ?_ | refine Rd.drewN ?_ | refine Rd.set (by assumption) ?_ | refine Rd.lit (by assumption) (by simp) ?_ | refine Rd.alloc ?_ _ | omega)))); (focus omega); rintro e w' ⟨c, dc, rfl, lc, hc, h2, rfl⟩; replace hc := hc (by omega); clear h2
        go_wp2_with (at_builtin; refine wpList_appG fitT _ rfl (.tmp 39) (.tmp 49) rfl w.heap.size _ l rfl ?cO _ [(selN c [0, 100001, -1, 100000], selN c [0, 1, 1, 1], selN c [0, 0, 0, -1])] rfl ?cS ?cL ?cB ?_)
        case cO => repeat (first | exact ownG_re Hown.out (by omega) | exact ownG_re2 Hown.out (by omega) | refine ownG_ext ?_ | refine ownG_alloc ?_ _)
        case cS => exact slG_one (by simp) (by intro j u hu; rcases j with _ | _ | _ | j <;> simp [ET] at hu <;> subst hu <;> go_simp)
        case cL => simp; omega
        case cB => simp; try omega
        intro v6 w6 ⟨o6, g6, a6⟩ hb6
        have t6 : Below (w.setCell ⟨R, 1, none⟩ (.int .i64 (q + 1 + 1))).heap.size (w.setCell ⟨R, 1, none⟩ (.int .i64 (q + 1 + 1))) w6 := Below.step hb6 (by rw [size_setCell]; exact Nat.le_refl _) (by (repeat (first | exact Below.refl _ _ | exact Hbl.out | refine Below.ext ?_ (by first | omega | (simp; omega) | simp) | refine Below.setCell ?_ (by first | omega | (simp; omega) | simp) _ | refine Below.alloc ?_ (by first | omega | (simp; omega) | simp) _ | refine Below.drew ?_ | refine below_drewN ?_ _ | refine Below.step (by assumption) (by first | omega | (simp; omega) | simp) ?_)))
        obtain ⟨d', os', e'⟩ := ext_of_below t6
        go_wp2
        go_ret
        exact ⟨_, l ++ [(selN c [0, 100001, -1, 100000], selN c [0, 1, 1, 1], selN c [0, 0, 0, -1])], q + 1 + 1, d', os', rfl, by omega, by omega, by simp; omega, e', o6⟩
      · go_ret
        exact ⟨_, l, q + 1, _, _, rfl, by omega, by omega, by omega, rfl, ownG_re Hown.out (by omega)⟩
theorem drawTV_any (a : Option Addr) (len cap : Nat) (zs : List Int) (w : World) (hrow : IsRow .u8 w a len cap zs) : Calls Try.prog 16 #[.slice a len cap] w fun e w' => ∃ v l, e = .returned v ∧ l.length ≤ 6 ∧ SlG ET w' v l ∧ Below w.heap.size w w' := by
  go_enter Try.func16, Try.ntmps16
  go_wp2_with (go_at_call 40; refine (open_any _ _ _ _ _ (IsRow.below hrow (by repeat (first | exact Below.refl _ _ | refine Below.alloc ?_ (by simp; try omega) _)))).mono ?_; rintro e w' ⟨A, le, ca, rfl, rfl, zs', hby⟩; (try simp only [World.size_alloc] at hby))
  refine (l20Timers_any _ ?_ 2 _ ?_ ?_ (by decide) (by decide)).mono ?_; rotate_left; (focus ((repeat (first | assumption | refine Rd.ext ?_ | refine Rd.drew ?_ | refine Rd.drewN ?_ | refine Rd.set (by assumption) ?_ | refine Rd.lit (by assumption) (by simp) ?_ | refine Rd.alloc ?_ _ | omega)))); (focus omega); rintro e w' ⟨v, l, q, d, os, rfl, q1, q2, hl, rfl, hown⟩
  have hs := ownG_sl hown
  have hb : Below w.heap.size w (ext ((w.alloc (.cells #[.slice A le ca, .int .i64 0] 84)).setCell ⟨w.heap.size, 1, none⟩ (.int .i64 q)) d os) := Below.ext (Below.setCell (Below.alloc (Below.refl _ _) (Nat.le_refl _) _) (Nat.le_refl _) _) (by simp)
  generalize (ext ((w.alloc (.cells #[.slice A le ca, .int .i64 0] 84)).setCell ⟨w.heap.size, 1, none⟩ (.int .i64 q)) d os) = W at hs hb ⊢
  obtain ⟨B, c, rfl⟩ := hs.shape
  have Hs := Lib.hid hs
  clear hs hown
  go_wp2
  go_ret
  exact ⟨_, l, rfl, hl, Hs.out, hb⟩
end Go.Proofs.Ytlanbgpmmlnehaa
