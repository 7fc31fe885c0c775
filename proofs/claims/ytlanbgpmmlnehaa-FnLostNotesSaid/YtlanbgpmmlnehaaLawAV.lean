/- The drawn laws on AuditValid and LostNotes: the walks. -/
import Derived.Test.YtlanbgpmmlnehaaAudD
import Derived.Test.YtlanbgpmmlnehaaName
set_option linter.unusedSimpArgs false
set_option linter.unusedVariables false
set_option linter.unusedSectionVars false
namespace Go.Proofs.Ytlanbgpmmlnehaa
open Go.RowKit

/-- What a draw of an audit alone leaves. -/
def GotA (w : World) (e : Ending) (w' : World) : Prop := ∃ v l nx, e = .returned (.agg #[v, .int .i64 nx]) ∧ l.length ≤ 11 ∧ Txt l ∧ SlG EN w' v l ∧ Below w.heap.size w w'
set_option maxRecDepth 100000 in
set_option maxHeartbeats 4000000 in
theorem drawAV_any (a : Option Addr) (len cap : Nat) (zs : List Int) (w : World) (hrow : IsRow .u8 w a len cap zs) : Calls Try.prog 19 #[.slice a len cap] w (GotA w) := by
  go_enter Try.func19, Try.ntmps19
  go_wp2_with (go_at_call 40; refine (open_any _ _ _ _ _ (IsRow.below hrow (by repeat (first | exact Below.refl _ _ | refine Below.alloc ?_ (by simp; try omega) _)))).mono ?_; rintro e w' ⟨A, le, ca, rfl, rfl, zs', hby⟩; (try simp only [World.size_alloc] at hby))
  refine (l20Audit_any _ ?_ 2 _ ?_ ?_ (by decide) (by decide)).mono ?_; rotate_left; (focus ((repeat (first | assumption | refine Rd.ext ?_ | refine Rd.drew ?_ | refine Rd.drewN ?_ | refine Rd.set (by assumption) ?_ | refine Rd.lit (by assumption) (by simp) ?_ | refine Rd.alloc ?_ _ | omega)))); (focus omega); rintro e w' ⟨v, l, nx, q, d, os, rfl, q1, q2, hl, hx, rfl, hown⟩
  have hb := row_block hown
  obtain ⟨A, c, rfl⟩ := rowF_shape hown
  have hs := rowF_sl (rowF_setCell (o := 1) (u := .int .i64 nx) (rowF_setCell (o := 0) (u := .slice A l.length c) hown (g := w.heap.size) (fun j hj => by have := (hb j hj).1; simp at this; omega)) (g := w.heap.size) (fun j hj => by have := (hb j hj).1; simp at this; omega))
  have Hs := Lib.hid hs
  clear hs hown hb
  go_wp2
  refine bodyPost_ret (v := .agg #[.slice A l.length c, .int .i64 nx]) ?_ rfl ?_
  · simp only [results, Try.results19]
    go_simp
  · refine ⟨_, l, nx, rfl, hl, hx, ?_, (by (repeat (first | exact Below.refl _ _ | exact Hbl.out | refine Below.ext ?_ (by first | omega | (simp; omega) | simp) | refine Below.setCell ?_ (by first | omega | (simp; omega) | simp) _ | refine Below.alloc ?_ (by first | omega | (simp; omega) | simp) _ | refine Below.drew ?_ | refine below_drewN ?_ _ | refine Below.step (by assumption) (by first | omega | (simp; omega) | simp) ?_)))⟩
    have := Hs.out
    simpa [go_sem] using this
set_option maxRecDepth 100000 in
set_option maxHeartbeats 4000000 in
theorem drawLN_any (a : Option Addr) (len cap : Nat) (zs : List Int) (w : World) (hrow : IsRow .u8 w a len cap zs) : Calls Try.prog 22 #[.slice a len cap] w (GotA w) := by
  go_enter Try.func22, Try.ntmps22
  go_wp2_with (go_at_call 40; refine (open_any _ _ _ _ _ (IsRow.below hrow (by repeat (first | exact Below.refl _ _ | refine Below.alloc ?_ (by simp; try omega) _)))).mono ?_; rintro e w' ⟨A, le, ca, rfl, rfl, zs', hby⟩; (try simp only [World.size_alloc] at hby))
  refine (l20Audit_any _ ?_ 6 _ ?_ ?_ (by decide) (by decide)).mono ?_; rotate_left; (focus ((repeat (first | assumption | refine Rd.ext ?_ | refine Rd.drew ?_ | refine Rd.drewN ?_ | refine Rd.set (by assumption) ?_ | refine Rd.lit (by assumption) (by simp) ?_ | refine Rd.alloc ?_ _ | omega)))); (focus omega); rintro e w' ⟨v, l, nx, q, d, os, rfl, q1, q2, hl, hx, rfl, hown⟩
  have hb := row_block hown
  obtain ⟨A, c, rfl⟩ := rowF_shape hown
  have hs := rowF_sl (rowF_setCell (o := 1) (u := .int .i64 nx) (rowF_setCell (o := 0) (u := .slice A l.length c) hown (g := w.heap.size) (fun j hj => by have := (hb j hj).1; simp at this; omega)) (g := w.heap.size) (fun j hj => by have := (hb j hj).1; simp at this; omega))
  have Hs := Lib.hid hs
  clear hs hown hb
  go_wp2
  refine bodyPost_ret (v := .agg #[.slice A l.length c, .int .i64 nx]) ?_ rfl ?_
  · simp only [results, Try.results22]
    go_simp
  · refine ⟨_, l, nx, rfl, hl, hx, ?_, (by (repeat (first | exact Below.refl _ _ | exact Hbl.out | refine Below.ext ?_ (by first | omega | (simp; omega) | simp) | refine Below.setCell ?_ (by first | omega | (simp; omega) | simp) _ | refine Below.alloc ?_ (by first | omega | (simp; omega) | simp) _ | refine Below.drew ?_ | refine below_drewN ?_ _ | refine Below.step (by assumption) (by first | omega | (simp; omega) | simp) ?_)))⟩
    have := Hs.out
    simpa [go_sem] using this
theorem audB_more {nx : Int} {l : List T4} (h : audB nx l = true) : audB (nx + 1) l = false := by
  obtain ⟨h1, h2, h3, h4⟩ := audB_all h
  by_cases hs : nx < 10
  · exact audB_len (by simp; omega)
  · have hl : l.length = 10 := by omega
    refine audB_bad (k := 0) (by omega) ?_
    have := h4 0 (by omega)
    unfold noteOk at this ⊢
    rw [Bool.and_eq_true, decide_eq_true_eq] at this
    rw [this.1, Bool.and_eq_false_iff]
    exact .inl (by simp; omega)
theorem audB_none : audB 0 [] = true := by decide
set_option maxRecDepth 100000 in
set_option maxHeartbeats 4000000 in
theorem walkFnAuditValid (a : Option Addr) (len cap : Nat) (zs : List Int) (w : World) (hrow : IsRow .u8 w a len cap zs) :
    Calls Try.prog 5 #[.slice a len cap] w fun e w' => e = .returned (.bool true) ∧ Below w.heap.size w w' := by
  obtain ⟨hl1, hl2⟩ := hrow.len_le
  unfold maxLen at hl2
  by_cases hbig : (1048576 : Int) < (len : Int)
  · go_enter Try.func5, Try.ntmps5
    go_wp2
    go_ret
    exact ⟨rfl, Below.refl _ _⟩
  · go_enter Try.func5, Try.ntmps5
    go_wp2_with fail
    refine (drawAV_any a len cap zs _ hrow).mono ?_
    rintro e w1 ⟨v, l, nx, rfl, hl, hx, hsl, b1⟩
    have h1 := fun w h => auditValidI_of v nx l w (sl4_of h) hx
    have h2 := fun w h => auditValidS_of v nx l w (sl4_of h) (by omega) hx
    have h3 := fun w h => auditValidI_of v (nx + 1) l w (sl4_of h) hx
    have h4 := fun w => auditValidI_of (.slice none 0 0) 0 [] w (sl4_of (SlG.nil (E := EN) w)) (fun i hi => by simp at hi)
    rw [audB_none] at h4
    have hmore := fun h => audB_more (nx := nx) (l := l) h
    have hin := fun h => (audB_all (next := nx) (l := l) h).2.1
    have hin0 := fun h => (audB_all (next := nx) (l := l) h).1
    generalize audB (nx + 1) l = t2 at h3 hmore
    generalize audB nx l = t at h1 h2 hmore hin hin0
    have H1 := Lib.hid h1
    have H2 := Lib.hid h2
    have H3 := Lib.hid h3
    have H4 := Lib.hid h4
    have Hmore := Lib.hid hmore
    have Hin := Lib.hid hin
    have Hin0 := Lib.hid hin0
    have Hsl := Lib.hid hsl
    obtain ⟨A, c, rfl⟩ := hsl.shape
    have hz1 := b1.size
    have B1 := Lib.hid b1
    clear h1 h2 h3 h4 hmore hin hin0 hsl hx b1
    go_wp2_with fail
    refine (H1.out _ (Hsl.out.below (by (repeat (first | exact Below.refl _ _ | exact Hbl.out | refine Below.ext ?_ (by first | omega | (simp; omega) | simp) | refine Below.setCell ?_ (by first | omega | (simp; omega) | simp) _ | refine Below.alloc ?_ (by first | omega | (simp; omega) | simp) _ | refine Below.drew ?_ | refine below_drewN ?_ _ | refine Below.step (by assumption) (by first | omega | (simp; omega) | simp) ?_))))).mono ?_
    rintro e w2 ⟨rfl, b2⟩
    obtain ⟨d2, os2, rfl⟩ := ext_of_below b2
    clear b2
    go_wp2_with fail
    refine (H2.out _ (Hsl.out.below (by (repeat (first | exact Below.refl _ _ | exact Hbl.out | refine Below.ext ?_ (by first | omega | (simp; omega) | simp) | refine Below.setCell ?_ (by first | omega | (simp; omega) | simp) _ | refine Below.alloc ?_ (by first | omega | (simp; omega) | simp) _ | refine Below.drew ?_ | refine below_drewN ?_ _ | refine Below.step (by assumption) (by first | omega | (simp; omega) | simp) ?_))))).mono ?_
    rintro e w3 ⟨rfl, b3⟩
    obtain ⟨d3, os3, rfl⟩ := ext_of_below b3
    clear b3
    cases t
    · go_wp2_with fail
      refine (H4.out _).mono ?_
      rintro e w4 ⟨rfl, b4⟩
      obtain ⟨d4, os4, rfl⟩ := ext_of_below b4
      clear b4
      go_wp2_with fail
      refine (alive_any _).mono ?_
      rintro e w' ⟨rfl, rfl⟩
      go_wp2
      go_ret
      exact ⟨rfl, Below.step (show Below w1.heap.size w1 _ from (by (repeat (first | exact Below.refl _ _ | exact Hbl.out | refine Below.ext ?_ (by first | omega | (simp; omega) | simp) | refine Below.setCell ?_ (by first | omega | (simp; omega) | simp) _ | refine Below.alloc ?_ (by first | omega | (simp; omega) | simp) _ | refine Below.drew ?_ | refine below_drewN ?_ _ | refine Below.step (by assumption) (by first | omega | (simp; omega) | simp) ?_)))) hz1 B1.out⟩
    · have ht := Hmore.out (by trivial)
      subst ht
      have k1 := Hin.out (by trivial)
      have k0 := Hin0.out (by trivial)
      have zn : IntKind.i64.wrap (nx + 1) = nx + 1 := IntWalk.i64_in _ (by omega)
      go_wp2_with fail
      refine (H3.out _ (Hsl.out.below (by (repeat (first | exact Below.refl _ _ | exact Hbl.out | refine Below.ext ?_ (by first | omega | (simp; omega) | simp) | refine Below.setCell ?_ (by first | omega | (simp; omega) | simp) _ | refine Below.alloc ?_ (by first | omega | (simp; omega) | simp) _ | refine Below.drew ?_ | refine below_drewN ?_ _ | refine Below.step (by assumption) (by first | omega | (simp; omega) | simp) ?_))))).mono ?_
      rintro e w4 ⟨rfl, b4⟩
      obtain ⟨d4, os4, rfl⟩ := ext_of_below b4
      clear b4
      go_wp2_with fail
      refine (H4.out _).mono ?_
      rintro e w4 ⟨rfl, b4⟩
      obtain ⟨d5, os5, rfl⟩ := ext_of_below b4
      clear b4
      go_wp2_with fail
      refine (alive_any _).mono ?_
      rintro e w' ⟨rfl, rfl⟩
      go_wp2
      go_ret
      exact ⟨rfl, Below.step (show Below w1.heap.size w1 _ from (by (repeat (first | exact Below.refl _ _ | exact Hbl.out | refine Below.ext ?_ (by first | omega | (simp; omega) | simp) | refine Below.setCell ?_ (by first | omega | (simp; omega) | simp) _ | refine Below.alloc ?_ (by first | omega | (simp; omega) | simp) _ | refine Below.drew ?_ | refine below_drewN ?_ _ | refine Below.step (by assumption) (by first | omega | (simp; omega) | simp) ?_)))) hz1 B1.out⟩
set_option maxRecDepth 100000 in
set_option maxHeartbeats 4000000 in
theorem walkFnLostNotes (a : Option Addr) (len cap : Nat) (zs : List Int) (w : World) (hrow : IsRow .u8 w a len cap zs) :
    Calls Try.prog 6 #[.slice a len cap] w fun e w' => e = .returned (.bool true) ∧ Below w.heap.size w w' := by
  obtain ⟨hl1, hl2⟩ := hrow.len_le
  unfold maxLen at hl2
  by_cases hbig : (1048576 : Int) < (len : Int)
  · go_enter Try.func6, Try.ntmps6
    go_wp2
    go_ret
    exact ⟨rfl, Below.refl _ _⟩
  · go_enter Try.func6, Try.ntmps6
    go_wp2_with fail
    refine (drawLN_any a len cap zs _ hrow).mono ?_
    rintro e w1 ⟨v, l, nx, rfl, hl, hx, hsl, b1⟩
    have h1 := fun w h => lostI_of v nx l w (sl4_of h) hx
    have h2 := fun w h => lostS_of v nx l w (sl4_of h) (by omega) hx
    have hcase : lostF nx l = -1 ∨ (0 ≤ lostF nx l ∧ lostF nx l = nx - l.length ∧ 0 ≤ nx ∧ nx ≤ 10000 ∧ (l.length : Int) = min 10 nx) := by
      unfold lostF
      split
      · rename_i h
        obtain ⟨k1, k2, k3, _⟩ := audB_all h
        right
        exact ⟨by omega, rfl, k1, k2, k3⟩
      · exact .inl rfl
    generalize lostF nx l = t at h1 h2 hcase
    have H1 := Lib.hid h1
    have H2 := Lib.hid h2
    have Hc := Lib.hid hcase
    have Hsl := Lib.hid hsl
    obtain ⟨A, c, rfl⟩ := hsl.shape
    have hz1 := b1.size
    have B1 := Lib.hid b1
    clear h1 h2 hcase hsl hx b1
    go_wp2_with fail
    refine (H1.out _ (Hsl.out.below (by (repeat (first | exact Below.refl _ _ | exact Hbl.out | refine Below.ext ?_ (by first | omega | (simp; omega) | simp) | refine Below.setCell ?_ (by first | omega | (simp; omega) | simp) _ | refine Below.alloc ?_ (by first | omega | (simp; omega) | simp) _ | refine Below.drew ?_ | refine below_drewN ?_ _ | refine Below.step (by assumption) (by first | omega | (simp; omega) | simp) ?_))))).mono ?_
    rintro e w2 ⟨rfl, b2⟩
    obtain ⟨d2, os2, rfl⟩ := ext_of_below b2
    clear b2
    go_wp2_with fail
    refine (H2.out _ (Hsl.out.below (by (repeat (first | exact Below.refl _ _ | exact Hbl.out | refine Below.ext ?_ (by first | omega | (simp; omega) | simp) | refine Below.setCell ?_ (by first | omega | (simp; omega) | simp) _ | refine Below.alloc ?_ (by first | omega | (simp; omega) | simp) _ | refine Below.drew ?_ | refine below_drewN ?_ _ | refine Below.step (by assumption) (by first | omega | (simp; omega) | simp) ?_))))).mono ?_
    rintro e w3 ⟨rfl, b3⟩
    obtain ⟨d3, os3, rfl⟩ := ext_of_below b3
    clear b3
    rcases Hc.out with ht | ⟨t0, ht, k0, k1, k2⟩
    · subst ht
      go_wp2_with fail
      refine (alive_any _).mono ?_
      rintro e w' ⟨rfl, rfl⟩
      go_wp2
      go_ret
      exact ⟨rfl, Below.step (show Below w1.heap.size w1 _ from (by (repeat (first | exact Below.refl _ _ | exact Hbl.out | refine Below.ext ?_ (by first | omega | (simp; omega) | simp) | refine Below.setCell ?_ (by first | omega | (simp; omega) | simp) _ | refine Below.alloc ?_ (by first | omega | (simp; omega) | simp) _ | refine Below.drew ?_ | refine below_drewN ?_ _ | refine Below.step (by assumption) (by first | omega | (simp; omega) | simp) ?_)))) hz1 B1.out⟩
    · have hs : IntKind.i64.wrap (t + (l.length : Int)) = nx := by rw [IntWalk.i64_in _ (by omega)]; omega
      have htn : ¬ t < 0 := by omega
      by_cases hz : t = 0
      · subst hz
        obtain rfl : nx = (l.length : Int) := by omega
        clear ht k2 hs
        go_wp2
        go_ret
        exact ⟨rfl, Below.step (show Below w1.heap.size w1 _ from (by (repeat (first | exact Below.refl _ _ | exact Hbl.out | refine Below.ext ?_ (by first | omega | (simp; omega) | simp) | refine Below.setCell ?_ (by first | omega | (simp; omega) | simp) _ | refine Below.alloc ?_ (by first | omega | (simp; omega) | simp) _ | refine Below.drew ?_ | refine below_drewN ?_ _ | refine Below.step (by assumption) (by first | omega | (simp; omega) | simp) ?_)))) hz1 B1.out⟩
      · have h10 : (l.length : Int) = 10 := by omega
        rw [h10] at hs
        clear ht k2
        go_wp2
        go_ret
        exact ⟨rfl, Below.step (show Below w1.heap.size w1 _ from (by (repeat (first | exact Below.refl _ _ | exact Hbl.out | refine Below.ext ?_ (by first | omega | (simp; omega) | simp) | refine Below.setCell ?_ (by first | omega | (simp; omega) | simp) _ | refine Below.alloc ?_ (by first | omega | (simp; omega) | simp) _ | refine Below.drew ?_ | refine below_drewN ?_ _ | refine Below.step (by assumption) (by first | omega | (simp; omega) | simp) ?_)))) hz1 B1.out⟩
end Go.Proofs.Ytlanbgpmmlnehaa
