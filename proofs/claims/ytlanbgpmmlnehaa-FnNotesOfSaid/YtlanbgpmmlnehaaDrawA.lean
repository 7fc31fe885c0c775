/- An audit, a user, a text and a fault: what is drawn for AddNote. -/
import Derived.Test.YtlanbgpmmlnehaaAudD
import Derived.Test.YtlanbgpmmlnehaaDrawW
set_option linter.unusedSimpArgs false
set_option linter.unusedVariables false
set_option linter.unusedSectionVars false
namespace Go.Proofs.Ytlanbgpmmlnehaa
open Go.RowKit

set_option maxHeartbeats 4000000 in
theorem l20Name_any (R : Nat) (p n : Int) (w : World) (hr : Rd w R p) (hp : p ≤ 1500000000) (hn : 1 ≤ n) (hn' : n ≤ 1000) : Calls Try.prog 55 #[.pointer (some ⟨R, 0, none⟩), .int .i64 n] w (Drew w R p 2 (StrN 9)) := by
  have hR := hr.lt
  have hp0 := hr.pos
  go_enter Try.func55, Try.ntmps55
  go_wp2_with (go_at_call 64; refine (odd_any _ ?_ _ _ ?_ ?_ ?_ ?_).mono ?_; rotate_left; (focus ((repeat (first | assumption | refine Rd.ext ?_ | refine Rd.drew ?_ | refine Rd.drewN ?_ | refine Rd.set (by assumption) ?_ | refine Rd.lit (by assumption) (by simp) ?_ | refine Rd.alloc ?_ _ | omega)))); (focus omega); (focus omega); (focus omega); rintro e w' ⟨b, d, rfl, rfl⟩)
  · refine (pick_any _ ?_ _ _ ?_ ?_).mono ?_; rotate_left; (focus ((repeat (first | assumption | refine Rd.ext ?_ | refine Rd.drew ?_ | refine Rd.drewN ?_ | refine Rd.set (by assumption) ?_ | refine Rd.lit (by assumption) (by simp) ?_ | refine Rd.alloc ?_ _ | omega)))); (focus omega); rintro e w' ⟨c, dc, rfl, lc, hc, h2, rfl⟩; replace hc := hc (by omega); clear h2
    have hx := selS_size (v := c) (l := [⟨#[]⟩, ⟨#[49, 97]⟩, ⟨#[65]⟩, ⟨#[97, 95, 98]⟩, ⟨#[97, 98, 99, 100, 101, 102, 103, 104, 105]⟩, ⟨#[97, 47, 98]⟩]) (N := 9) (by decide)
    go_wp2
    simp [bodyPost, results, Try.results55, go_sem]
    exact Drew.mk (p + 1 + 1) (by (repeat (first | exact Below.refl _ _ | exact Hbl.out | refine Below.ext ?_ (by first | omega | (simp; omega) | simp) | refine Below.setCell ?_ (by first | omega | (simp; omega) | simp) _ | refine Below.alloc ?_ (by first | omega | (simp; omega) | simp) _ | refine Below.drew ?_ | refine below_drewN ?_ _ | refine Below.step (by assumption) (by first | omega | (simp; omega) | simp) ?_))) (by omega) (by omega) ⟨_, rfl, hx⟩
  · refine (pick_any _ ?_ _ _ ?_ ?_).mono ?_; rotate_left; (focus ((repeat (first | assumption | refine Rd.ext ?_ | refine Rd.drew ?_ | refine Rd.drewN ?_ | refine Rd.set (by assumption) ?_ | refine Rd.lit (by assumption) (by simp) ?_ | refine Rd.alloc ?_ _ | omega)))); (focus omega); rintro e w' ⟨c, dc, rfl, lc, hc, h2, rfl⟩; replace hc := hc (by omega); clear h2
    have hx := selS_size (v := c) (l := [⟨#[97]⟩, ⟨#[98]⟩, ⟨#[99, 49]⟩, ⟨#[116, 109, 112]⟩]) (N := 9) (by decide)
    go_wp2
    simp [bodyPost, results, Try.results55, go_sem]
    exact Drew.mk (p + 1 + 1) (by (repeat (first | exact Below.refl _ _ | exact Hbl.out | refine Below.ext ?_ (by first | omega | (simp; omega) | simp) | refine Below.setCell ?_ (by first | omega | (simp; omega) | simp) _ | refine Below.alloc ?_ (by first | omega | (simp; omega) | simp) _ | refine Below.drew ?_ | refine below_drewN ?_ _ | refine Below.step (by assumption) (by first | omega | (simp; omega) | simp) ?_))) (by omega) (by omega) ⟨_, rfl, hx⟩
def IntV (v : Value) : Prop := ∃ x : Int, v = .int .i64 x
theorem l20User_drew (R : Nat) (p : Int) (w : World) (hr : Rd w R p) (hp : p ≤ 1000000000) : Calls Try.prog 54 #[.pointer (some ⟨R, 0, none⟩)] w (Drew w R p 1 IntV) :=
  (l20User_any R p w hr hp).mono fun e w' ⟨x, d, os, h1, h2, h3, h4⟩ => ⟨_, p + 1, d, os, h1, by omega, by omega, ⟨x, rfl⟩, h4⟩
def GotAN (w : World) (e : Ending) (w' : World) : Prop := ∃ v l nx who what fault, e = .returned (.tuple #[.agg #[v, .int .i64 nx], .int .i64 who, .string what, .int .i64 fault]) ∧ l.length ≤ 11 ∧ Txt l ∧ what.size ≤ 9 ∧ SlG EN w' v l ∧ Below w.heap.size w w'
set_option maxRecDepth 100000 in
set_option maxHeartbeats 8000000 in
theorem drawAN_any (a : Option Addr) (len cap : Nat) (zs : List Int) (w : World) (hrow : IsRow .u8 w a len cap zs) : Calls Try.prog 25 #[.slice a len cap] w (GotAN w) := by
  go_enter Try.func25, Try.ntmps25
  go_wp2_with (go_at_call 40; refine (open_any _ _ _ _ _ (IsRow.below hrow (by repeat (first | exact Below.refl _ _ | refine Below.alloc ?_ (by simp; try omega) _)))).mono ?_; rintro e w' ⟨A, le, ca, rfl, rfl, zs', hby⟩; (try simp only [World.size_alloc] at hby))
  refine (l20Audit_any _ ?_ 9 _ ?_ ?_ (by decide) (by decide)).mono ?_; rotate_left; (focus ((repeat (first | assumption | refine Rd.ext ?_ | refine Rd.drew ?_ | refine Rd.drewN ?_ | refine Rd.set (by assumption) ?_ | refine Rd.lit (by assumption) (by simp) ?_ | refine Rd.alloc ?_ _ | omega)))); (focus omega); rintro e w' ⟨v, l, nx, q, d, os, rfl, q1, q2, hl, hx, rfl, hown⟩
  have hrd0 : Rd ((w.alloc (.cells #[.slice none 0 0, .int .i64 0] 39)).alloc (.cells #[.slice A le ca, .int .i64 0] 84)) (w.heap.size + 1) 0 := by (repeat (first | assumption | refine Rd.ext ?_ | refine Rd.drew ?_ | refine Rd.drewN ?_ | refine Rd.set (by assumption) ?_ | refine Rd.lit (by assumption) (by simp) ?_ | refine Rd.alloc ?_ _ | omega))
  have hrd := Rd.ext (d := d) (os := os) (Rd.set (q := q) hrd0 (by omega))
  have hbw : Below w.heap.size w (ext (((w.alloc (.cells #[.slice none 0 0, .int .i64 0] 39)).alloc (.cells #[.slice A le ca, .int .i64 0] 84)).setCell ⟨w.heap.size + 1, 1, none⟩ (.int .i64 q)) d os) := (by (repeat (first | exact Below.refl _ _ | exact Hbl.out | refine Below.ext ?_ (by first | omega | (simp; omega) | simp) | refine Below.setCell ?_ (by first | omega | (simp; omega) | simp) _ | refine Below.alloc ?_ (by first | omega | (simp; omega) | simp) _ | refine Below.drew ?_ | refine below_drewN ?_ _ | refine Below.step (by assumption) (by first | omega | (simp; omega) | simp) ?_)))
  have hz : w.heap.size + 1 < (ext (((w.alloc (.cells #[.slice none 0 0, .int .i64 0] 39)).alloc (.cells #[.slice A le ca, .int .i64 0] 84)).setCell ⟨w.heap.size + 1, 1, none⟩ (.int .i64 q)) d os).heap.size := by simp; omega
  have c0 : (ext (((w.alloc (.cells #[.slice none 0 0, .int .i64 0] 39)).alloc (.cells #[.slice A le ca, .int .i64 0] 84)).setCell ⟨w.heap.size + 1, 1, none⟩ (.int .i64 q)) d os).cell? ⟨w.heap.size, 0, none⟩ = some (.slice none 0 0) := by go_simp
  have c1 : (ext (((w.alloc (.cells #[.slice none 0 0, .int .i64 0] 39)).alloc (.cells #[.slice A le ca, .int .i64 0] 84)).setCell ⟨w.heap.size + 1, 1, none⟩ (.int .i64 q)) d os).cell? ⟨w.heap.size, 1, none⟩ = some (.int .i64 0) := by go_simp
  have e0 : (ext (((w.alloc (.cells #[.slice none 0 0, .int .i64 0] 39)).alloc (.cells #[.slice A le ca, .int .i64 0] 84)).setCell ⟨w.heap.size + 1, 1, none⟩ (.int .i64 q)) d os).frozen? ⟨w.heap.size, 0, none⟩ = false := by go_simp
  have e1 : (ext (((w.alloc (.cells #[.slice none 0 0, .int .i64 0] 39)).alloc (.cells #[.slice A le ca, .int .i64 0] 84)).setCell ⟨w.heap.size + 1, 1, none⟩ (.int .i64 q)) d os).frozen? ⟨w.heap.size, 1, none⟩ = false := by go_simp
  have hown' : RowF EN (w.heap.size + 2) _ v l := rowF_mono hown (by simp)
  clear hown hrd0
  generalize (ext (((w.alloc (.cells #[.slice none 0 0, .int .i64 0] 39)).alloc (.cells #[.slice A le ca, .int .i64 0] 84)).setCell ⟨w.heap.size + 1, 1, none⟩ (.int .i64 q)) d os) = W at hrd hbw hz c0 c1 e0 e1 hown' ⊢
  obtain ⟨R, hR⟩ : ∃ R, R = w.heap.size + 1 := ⟨_, rfl⟩
  rw [← hR] at hrd
  simp only [← hR]
  obtain ⟨Av, cv, rfl⟩ := rowF_shape hown'
  have hblk := row_block hown'
  have Hown := Lib.hid hown'
  have Hblk := Lib.hid hblk
  have Hbw := Lib.hid hbw
  have hRW : R < W.heap.size := hrd.lt
  have hRne : w.heap.size ≠ R := by omega
  have hRB : R < w.heap.size + 2 := by omega
  have hRge : w.heap.size ≤ R := by omega
  have hz' : w.heap.size < W.heap.size := by omega
  clear hown' hbw hblk hR hz
  go_wp2_with fail
  go_region_held3 (fun w' => w'.cell? ⟨W.heap.size, 0, none⟩ = some (.slice Av l.length cv) ∧ w'.cell? ⟨W.heap.size, 1, none⟩ = some (.int .i64 nx)) (first | assumption | (go_simp; done) | fail) (first | (go_at_call 54; refine (l20User_drew _ ?_ _ ?_ ?_).mono ?_; rotate_left; (focus ((repeat (first | assumption | refine Rd.ext ?_ | refine Rd.drew ?_ | refine Rd.drewN ?_ | refine Rd.set (by assumption) ?_ | refine Rd.lit (by assumption) (by simp) ?_ | refine Rd.alloc ?_ _ | omega)))); (focus omega); rintro e w' ⟨_, q5, d5, os5, rfl, k1, k2, ⟨x5, rfl⟩, rfl⟩) | (go_at_call 55; refine (l20Name_any _ ?_ 9 _ ?_ ?_ (by decide) (by decide)).mono ?_; rotate_left; (focus ((repeat (first | assumption | refine Rd.ext ?_ | refine Rd.drew ?_ | refine Rd.drewN ?_ | refine Rd.set (by assumption) ?_ | refine Rd.lit (by assumption) (by simp) ?_ | refine Rd.alloc ?_ _ | omega)))); (focus omega); rintro e w' ⟨_, q5, d5, os5, rfl, k1, k2, ⟨s5, rfl, hs5⟩, rfl⟩) | (go_at_call 42; refine (pick_any _ ?_ _ _ ?_ ?_).mono ?_; rotate_left; (focus ((repeat (first | assumption | refine Rd.ext ?_ | refine Rd.drew ?_ | refine Rd.drewN ?_ | refine Rd.set (by assumption) ?_ | refine Rd.lit (by assumption) (by simp) ?_ | refine Rd.alloc ?_ _ | omega)))); (focus omega); rintro e w' ⟨v, d, rfl, h0, h1, h2, rfl⟩; replace h1 := h1 (by omega); clear h2))
  rename_i vA dA hA0 hA1 vB dB hB0 hB1 hheld
  go_wp2_with fail
  refine bodyPost_ret (v := .tuple #[.agg #[.slice Av l.length cv, .int .i64 nx], .int .i64 (IntKind.i64.wrap (x5 + IntKind.i64.wrap (IntKind.i64.wrap (vA.tdiv 8) * 99))), .string s5, .int .i64 (IntKind.i64.wrap (vB - IntKind.i64.wrap (v.tdiv 13)))]) ?_ rfl ?_
  · simp only [results, Try.results25]
    go_simp
  · refine ⟨_, l, nx, _, _, _, rfl, hl, hx, hs5, rowF_sl (B := w.heap.size + 2) ?_, ?_⟩
    · repeat (first | exact Hown.out | refine rowF_setCell ?_ (fun j hj => by have := (Hblk.out j hj).1; omega) | refine rowF_ext ?_ | refine rowF_alloc ?_ _)
    · repeat (first | exact Hbw.out | refine Below.ext ?_ (by first | omega | (simp; omega) | simp) | refine Below.setCell ?_ (by first | omega | (simp; omega) | simp) _ | refine Below.alloc ?_ (by first | omega | (simp; omega) | simp) _)
end Go.Proofs.Ytlanbgpmmlnehaa
