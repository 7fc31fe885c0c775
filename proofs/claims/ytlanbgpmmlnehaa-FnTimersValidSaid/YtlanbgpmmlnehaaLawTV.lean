/- The drawn law on TimersValid: the walk. -/
import Derived.Test.YtlanbgpmmlnehaaDrawT
import Derived.Test.YtlanbgpmmlnehaaName
set_option linter.unusedSimpArgs false
set_option linter.unusedVariables false
set_option linter.unusedSectionVars false
namespace Go.Proofs.Ytlanbgpmmlnehaa
open Go.RowKit

theorem tm_zero (l : List T3) : tmB ((0, 0, 0) :: l) = false := tmB_bad (k := 0) (by simp) (by
  show (inB 0 0 100000 && (inB 0 1 99 && _)) = false
  rw [show inB 0 1 99 = false from by decide, Bool.false_and, Bool.and_false])
theorem tm_all {l : List T3} (h : tmB l = true) : l.length ≤ 8 ∧ ∀ k, k < l.length → tmOk l k = true := by
  unfold tmB at h
  rw [Bool.and_eq_true, List.all_eq_true, decide_eq_true_eq] at h
  exact ⟨h.2, fun k hk => h.1 k (List.mem_range.2 hk)⟩
theorem ti_drop (l : List T3) (n k : Nat) : ti (l.drop n) k = ti l (n + k) := by
  unfold ti
  rw [List.getD_eq_getElem?_getD, List.getD_eq_getElem?_getD, List.getElem?_drop]
theorem tm_drop {l : List T3} (h : tmB l = true) (n : Nat) : tmB (l.drop n) = true := by
  obtain ⟨h1, h2⟩ := tm_all h
  rw [tmB_good]
  · rw [decide_eq_true_eq, List.length_drop]; omega
  · intro k hk
    rw [List.length_drop] at hk
    have := h2 (n + k) (by omega)
    unfold tmOk at this ⊢
    rw [ti_drop, ti_drop]
    simp only [Bool.and_eq_true, Bool.not_eq_true', Bool.and_eq_false_iff, decide_eq_false_iff_not, decide_eq_true_eq] at this ⊢
    refine ⟨this.1, this.2.1, this.2.2.1, ?_⟩
    by_cases hk0 : 0 < k
    · right
      rcases this.2.2.2 with h | h
      · omega
      · rw [show n + (k - 1) = n + k - 1 from by omega]; exact h
    · exact .inl hk0
set_option maxRecDepth 100000 in
set_option maxHeartbeats 4000000 in
theorem walkFnTimersValid (a : Option Addr) (len cap : Nat) (zs : List Int) (w : World) (hrow : IsRow .u8 w a len cap zs) :
    Calls Try.prog 4 #[.slice a len cap] w fun e w' => e = .returned (.bool true) ∧ Below w.heap.size w w' := by
  obtain ⟨hl1, hl2⟩ := hrow.len_le
  unfold maxLen at hl2
  by_cases hbig : (1048576 : Int) < (len : Int)
  · go_enter Try.func4, Try.ntmps4
    go_wp2
    go_ret
    exact ⟨rfl, Below.refl _ _⟩
  · go_enter Try.func4, Try.ntmps4
    go_wp2_with fail
    refine (drawTV_any a len cap zs _ hrow).mono ?_
    rintro e w1 ⟨v, l, rfl, hl, hsl, b1⟩
    have h1 := fun w h => timersValidI_of v l w (sl3_of h)
    have h2 := fun w h => timersValidS_of v l w (sl3_of h)
    have h3 := fun v w h => timersValidI_of v ((0, 0, 0) :: l) w (sl3_of h)
    have h4 := fun v w h => timersValidI_of v (l.drop (l.length / 2)) w (sl3_of h)
    rw [tm_zero] at h3
    have hdrop := fun h => tm_drop (l := l) h (l.length / 2)
    generalize tmB (l.drop (l.length / 2)) = tb at h4 hdrop
    generalize tmB l = t at h1 h2 hdrop
    have H1 := Lib.hid h1
    have H2 := Lib.hid h2
    have H3 := Lib.hid h3
    have H4 := Lib.hid h4
    have Hdrop := Lib.hid hdrop
    have Hsl := Lib.hid hsl
    obtain ⟨A, c, rfl⟩ := hsl.shape
    have hcap := hsl.caps
    have hc1 := hcap.1
    have hc2 := hcap.2
    clear h1 h2 h3 h4 hdrop hsl hcap
    go_wp2_with fail
    refine (H1.out w1 Hsl.out).mono ?_
    rintro e w2 ⟨rfl, b2⟩
    have c2 := Below.step b2 b1.size b1
    have s2 := Hsl.out.below b2
    have S2 := Lib.hid s2
    go_wp2_with fail
    refine (H2.out w2 s2).mono ?_
    rintro e w3 ⟨rfl, b3⟩
    have c3 := Below.step b3 c2.size c2
    have s3 := S2.out.below b3
    have S3 := Lib.hid s3
    have hz3 : w.heap.size ≤ w3.heap.size := c3.size
    clear s2 s3 b1 b2 b3 c2
    go_wp2_with (at_builtin; refine wpList_appG fitT _ rfl (.tmp 17) (.tmp 18) rfl w.heap.size (.slice (some ⟨w3.heap.size, 0, none⟩) 1 1) [(0, 0, 0)] rfl ?cO _ l rfl ?cS ?cL ?cB ?_)
    case cO => exact ownG_mono (B := w3.heap.size) (World.ownsRow_lit (size := 3) (e := 36) w3 #[.int .i64 0, .int .i64 0, .int .i64 0] 1 (Nat.le_refl _) (by decide) rfl) hz3
    case cS => exact S3.out.below (Below.alloc (Below.refl _ _) (Nat.le_refl _) _)
    case cL => simp; omega
    case cB => simp; omega
    intro v4 w4 ⟨o4, g4, a4⟩ hb4
    have c4 : Below w.heap.size w w4 := Below.step hb4 (Nat.le_refl _) (Below.alloc c3 hz3 _)
    have s4 : SlG ET w4 (.slice A l.length c) l := by
      obtain ⟨A', c', e1, q1, q2, q3⟩ := S3.out
      refine ⟨A', c', e1, q1, q2, q3.imp id fun ⟨b, off, e2, hb, hat⟩ => ⟨b, off, e2, ?_, fun i x hx j u hu => ?_⟩⟩
      · have := g4.size; simp at this; omega
      · refine g4.cell ?_ ?_
        · exact (World.cell?_alloc_past _ _ _ hb).trans (hat i x hx j u hu)
        · intro e3
          have e4 : b = w3.heap.size := by simpa [Value.ownBlock] using e3
          omega
    have S4 := Lib.hid s4
    have hs4 := ownG_sl o4
    have Hs4 := Lib.hid hs4
    obtain ⟨A4, k4, rfl⟩ := ownG_shape o4
    clear s4 hs4 o4 g4 a4 hb4 c3
    go_wp2_with fail
    refine (H3.out _ w4 Hs4.out).mono ?_
    rintro e w5 ⟨rfl, b5⟩
    have c5 := Below.step b5 c4.size c4
    have s5 := S4.out.below b5
    have S5 := Lib.hid s5
    clear s5 b5 c4
    cases t
    · go_wp2_with fail
      refine (alive_any _).mono ?_
      rintro e w' ⟨rfl, rfl⟩
      go_wp2
      go_ret
      exact ⟨rfl, c5⟩
    · have ht := Hdrop.out (by trivial)
      subst ht
      have q2 : (l.length : Int).tdiv 2 = ((l.length / 2 : Nat) : Int) := by rw [Int.tdiv_eq_ediv_of_nonneg (by omega)]; omega
      have q3 : IntKind.i64.wrap ((l.length / 2 : Nat) : Int) = ((l.length / 2 : Nat) : Int) := IntWalk.i64_in _ (by omega)
      by_cases hl0 : l = []
      · subst hl0
        have hany : ∀ W X Y, Y ≤ 9223372036854775807 → SlG ET W (.slice X 0 Y) (([] : List T3).drop (([] : List T3).length / 2)) := fun W X Y hY => SlG.zero (by unfold maxLen; omega)
        have Hany := Lib.hid hany
        clear hany
        cases A
        all_goals
          go_wp2_with fail
          refine (H4.out _ _ (Hany.out _ _ _ (by omega))).mono ?_
          rintro e w6 ⟨rfl, b6⟩
          go_wp2_with fail
          refine (alive_any _).mono ?_
          rintro e w' ⟨rfl, rfl⟩
          go_wp2
          go_ret
          exact ⟨rfl, Below.step b6 c5.size c5⟩
      · have hlp : 0 < l.length := List.length_pos_iff.2 hl0
        obtain ⟨bb, off, rfl, hb, _⟩ := S5.out.at_ (ti_at (l := l) (i := 0) hlp)
        have hdr := S5.out.drop (k := l.length / 2) (by omega)
        have Hdr := Lib.hid hdr
        generalize hn : l.length / 2 = n at q2 q3 Hdr H4
        have hn1 : (n : Int) ≤ (l.length : Int) := by omega
        have hn2 : (n : Int) ≤ (c : Int) := by omega
        have hn3 : ¬ (c : Int) = (n : Int) := by omega
        clear hdr hl0 hn
        go_wp2_with fail
        refine (H4.out _ _ Hdr.out).mono ?_
        rintro e w6 ⟨rfl, b6⟩
        go_wp2_with fail
        refine (alive_any _).mono ?_
        rintro e w' ⟨rfl, rfl⟩
        go_wp2
        go_ret
        exact ⟨rfl, Below.step b6 c5.size c5⟩
end Go.Proofs.Ytlanbgpmmlnehaa
