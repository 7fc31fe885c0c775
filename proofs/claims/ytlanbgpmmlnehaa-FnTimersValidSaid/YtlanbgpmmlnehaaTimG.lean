/- Timers: rows of the call's own; the reference's 'SetTimer' (what the draw wants of it). -/
import Derived.Test.YtlanbgpmmlnehaaGen
import Derived.Test.YtlanbgpmmlnehaaTimS
import Derived.Deep.RegionHeld3
set_option linter.unusedSimpArgs false
set_option linter.unusedVariables false
set_option linter.unusedSectionVars false
namespace Go.Proofs.Ytlanbgpmmlnehaa
open Go.RowKit

abbrev T3 := Int × Int × Int
def ET : Lay T3 := ⟨3, by decide, fun x => [.int .i64 x.1, .int .i64 x.2.1, .int .i64 x.2.2], fun _ => rfl, fun _ u hu => by
  simp at hu
  rcases hu with h | h | h <;> rw [h] <;> rfl⟩
theorem info_partsG {P : Program} {e : TypeId} {z : Value} {n k : Nat} (h : (P.info? e).map (fun i => (i.zero, i.size, i.bytes)) = some (some z, n, k)) : ∃ i, P.info? e = some i ∧ i.zero = some z ∧ i.size = n ∧ i.bytes = k := by
  cases hi : P.info? e with
  | none => rw [hi] at h; cases h
  | some i =>
    rw [hi] at h
    have h' : (i.zero, i.size, i.bytes) = (some z, n, k) := Option.some.inj h
    simp only [Prod.mk.injEq] at h'
    exact ⟨i, rfl, h'.1, h'.2.1, h'.2.2⟩
theorem fitT : Fit Try.prog ET 32 36 :=
  ⟨Try.underlying32, by
    have h : (Try.prog.info? 36).map (fun i => (i.zero, i.size, i.bytes)) = some (some (.agg #[.int .i64 0, .int .i64 0, .int .i64 0]), 3, 24) := by kernel_rfl
    obtain ⟨i, h1, h2, h3, h4⟩ := info_partsG h
    exact ⟨i, _, _, h1, h2, h3, h4, rfl, by decide⟩⟩
theorem ti_at {l : List T3} {i : Nat} (h : i < l.length) : l[i]? = some (ti l i) := by
  unfold ti
  rw [List.getD_eq_getElem?_getD, List.getElem?_eq_getElem h]; rfl
theorem sl3_of {w : World} {v : Value} {l : List T3} (h : SlG ET w v l) : Sl3 w v l := by
  obtain ⟨A, cap, e, h1, h2, h3⟩ := h
  refine ⟨A, cap, e, h1, h2, h3.imp id fun ⟨b, off, e, hb, hat⟩ => ⟨b, off, e, hb, fun i hi => ?_⟩⟩
  have hx := ti_at hi
  exact ⟨hat i _ hx 0 _ rfl, hat i _ hx 1 _ rfl, hat i _ hx 2 _ rfl⟩
@[go_sem, simp] theorem size_drewN {w : World} {n : Nat} : (w.drewN n).heap.size = w.heap.size := rfl
/-- What 'SetTimer' leaves: some timers, at most one more. -/
def SetGot (w : World) (n : Nat) (e : Ending) (w' : World) : Prop := ∃ (v : Value) (l : List T3) (b : Bool), e = .returned (.tuple #[v, .bool b]) ∧ l.length ≤ n + 1 ∧ OwnG ET 36 w.heap.size w' v l ∧ Below w.heap.size w w'
set_option maxRecDepth 100000 in
set_option maxHeartbeats 8000000 in
theorem setTimer_of (v : Value) (l : List T3) (a b c : Int) (w : World) (h : SlG ET w v l) (hl : l.length ≤ 1000) : Calls Try.prog 65 #[v, .agg #[.int .i64 a, .int .i64 b, .int .i64 c]] w (SetGot w l.length) := by
  have H := Lib.hid h
  have h1 := fun w h => timersValidS_of v l w h
  have h2 := fun v l w h => timersValidS_of v l w (sl3_of h)
  obtain ⟨A, cap, rfl⟩ := h.shape
  have hcap := h.caps
  have hc1 := hcap.1
  have hc2 := hcap.2
  clear h hcap
  have b0 : Below w.heap.size w (w.alloc (.cells #[.int .i64 a, .int .i64 b, .int .i64 c] 36)) := Below.alloc (Below.refl _ _) (Nat.le_refl _) _
  go_enter Try.func65, Try.ntmps65
  go_wp2_with fail
  refine (h1 _ (sl3_of (H.out.below b0))).mono ?_
  rintro e w1 ⟨rfl, b1⟩
  have c1 := Below.step b1 (by simp) b0
  have k0 : w1.cell? ⟨w.heap.size, 0, none⟩ = some (.int .i64 a) := (b1.cell (p := ⟨w.heap.size, 0, none⟩) (by simp)).trans (by simp [go_sem])
  have k1 : w1.cell? ⟨w.heap.size, 1, none⟩ = some (.int .i64 b) := (b1.cell (p := ⟨w.heap.size, 1, none⟩) (by simp)).trans (by simp [go_sem])
  have k2 : w1.cell? ⟨w.heap.size, 2, none⟩ = some (.int .i64 c) := (b1.cell (p := ⟨w.heap.size, 2, none⟩) (by simp)).trans (by simp [go_sem])
  have hz1 : w.heap.size < w1.heap.size := by have := b1.size; simp at this; omega
  have C1 := Lib.hid c1
  clear b0 b1 c1 h1
  cases tmB l
  · go_wp2
    go_ret2
    exact ⟨_, [], false, rfl, Nat.zero_le _, ownG_empty _ rfl (by omega), Below.alloc C1.out (by omega) _⟩
  · go_wp2
    go_loopw [6] (fun i wr => ∃ k : Nat, k ≤ l.length ∧ i = .int .i64 k ∧ Below w1.heap.size w1 wr) (fun i _ => (intOf i).toNat)
    case atStart => exact ⟨l.length, Nat.le_refl _, rfl, Below.refl _ _⟩
    case round =>
      obtain ⟨k, hk, rfl, hbl⟩ := hrel
      have Hbl := Lib.hid hbl
      have hwr : w1.heap.size ≤ wr.heap.size := hbl.size
      have g0 := (hbl.cell (p := ⟨w.heap.size, 0, none⟩) hz1).trans k0
      have g1 := (hbl.cell (p := ⟨w.heap.size, 1, none⟩) hz1).trans k1
      have g2 := (hbl.cell (p := ⟨w.heap.size, 2, none⟩) hz1).trans k2
      clear hbl
      by_cases hl0 : l = []
      · subst hl0
        obtain rfl : k = 0 := by simp at hk; exact hk
        have hany : ∀ W X Y, Y ≤ 9223372036854775807 → SlG ET W (.slice X 0 Y) [] := fun W X Y hY => SlG.zero (by unfold maxLen; omega)
        have Hany := Lib.hid hany
        clear hany
        cases A
        all_goals
          go_wp2
          go_quiet (fail)
          go_wp2
          generalize hW : wr.drewN _ = W
          have hbW : Below w1.heap.size w1 W := by rw [← hW]; exact below_drewN Hbl.out _
          have HbW := Lib.hid hbW
          have hwrW : w1.heap.size ≤ W.heap.size := hbW.size
          have hwz : w.heap.size < W.heap.size := by omega
          have u0 := (hbW.cell (p := ⟨w.heap.size, 0, none⟩) hz1).trans k0
          have u1 := (hbW.cell (p := ⟨w.heap.size, 1, none⟩) hz1).trans k1
          have u2 := (hbW.cell (p := ⟨w.heap.size, 2, none⟩) hz1).trans k2
          have htk := ((H.out.below C1.out).below hbW).take (k := 0) (Nat.le_refl _)
          have Htk := Lib.hid htk
          clear htk hbW hW
          go_region_held3 (fun w' => w'.cell? ⟨w.heap.size, 0, none⟩ = some (.int .i64 a) ∧ w'.cell? ⟨w.heap.size, 1, none⟩ = some (.int .i64 b) ∧ w'.cell? ⟨w.heap.size, 2, none⟩ = some (.int .i64 c)) (first | (refine ⟨?_, ?_, ?_⟩ <;> first | assumption | (go_simp; done)) | (refine ⟨x60.trans ?_, x61.trans ?_, x62.trans ?_⟩ <;> first | assumption | (go_simp; done)) | (refine ⟨x50.trans ?_, x51.trans ?_, x52.trans ?_⟩ <;> first | assumption | (go_simp; done)) | (refine ⟨x40.trans ?_, x41.trans ?_, x42.trans ?_⟩ <;> first | assumption | (go_simp; done)) | fail) (first | (refine step_appG fitT _ rfl (.tmp 29) (.tmp 32) rfl W.heap.size (.slice (some ⟨_, 0, none⟩) 0 0) [] rfl ?_ _ ([]) rfl ?_ ?_ ?_ ?_; (focus (first | (refine ownG_empty _ ?_ ?_ <;> (first | omega | (simp; done) | (simp; omega)); done) | (refine ownG_alloc (ownG_empty _ ?_ ?_) _ <;> (first | omega | (simp; done) | (simp; omega)); done))); (focus (refine Htk.out.below ?_; (repeat (first | exact Below.refl _ _ | exact Hbl.out | refine Below.ext ?_ (by first | omega | (simp; omega) | simp) | refine Below.setCell ?_ (by first | omega | (simp; omega) | simp) _ | refine Below.alloc ?_ (by first | omega | (simp; omega) | simp) _ | refine Below.drew ?_ | refine below_drewN ?_ _ | refine Below.step (by assumption) (by first | omega | (simp; omega) | simp) ?_)))); (focus (first | omega | (simp; done) | (simp; omega))); (focus (first | omega | (simp; done) | (simp; omega))); rintro v4 w4 ⟨o4, g4, a4⟩ hb4; have x40 := hb4.cell (p := ⟨w.heap.size, 0, none⟩) hwz; have x41 := hb4.cell (p := ⟨w.heap.size, 1, none⟩) hwz; have x42 := hb4.cell (p := ⟨w.heap.size, 2, none⟩) hwz; have hz4 := hb4.size; (try simp at hz4)) | (refine step_appG fitT _ rfl (.tmp 33) (.tmp 35) rfl W.heap.size _ ([]) rfl ?_ _ [(a, b, c)] rfl ?_ ?_ ?_ ?_; (focus (first | exact o4 | exact ownG_alloc o4 _)); (focus (refine slG_one ?_ ?_; (focus (first | omega | (simp; done) | (simp; omega))); (focus (intro j u hu; rcases j with _ | _ | _ | j <;> simp [ET] at hu <;> subst hu <;> first | (go_simp; done) | (refine g4.cell ?_ ?_; (focus (go_simp)); (focus (simp [Value.ownBlock]; try omega))))))); (focus (first | omega | (simp; done) | (simp; omega))); (focus (first | omega | (simp; done) | (simp; omega))); rintro v5 w5 ⟨o5, g5, a5⟩ hb5; have x50 := hb5.cell (p := ⟨w.heap.size, 0, none⟩) hwz; have x51 := hb5.cell (p := ⟨w.heap.size, 1, none⟩) hwz; have x52 := hb5.cell (p := ⟨w.heap.size, 2, none⟩) hwz; have hz5 := hb5.size; (try simp at hz5)) | (refine step_appG fitT _ rfl (.tmp 36) (.tmp 39) rfl W.heap.size _ ([] ++ [(a, b, c)]) rfl ?_ _ ([]) rfl ?_ ?_ ?_ ?_; (focus (first | exact o5 | exact ownG_alloc o5 _)); (focus (exact Hany.out _ _ _ (by omega))); (focus (first | omega | (simp; done) | (simp; omega))); (focus (first | omega | (simp; done) | (simp; omega))); rintro v6 w6 ⟨o6, g6, a6⟩ hb6; have x60 := hb6.cell (p := ⟨w.heap.size, 0, none⟩) hwz; have x61 := hb6.cell (p := ⟨w.heap.size, 1, none⟩) hwz; have x62 := hb6.cell (p := ⟨w.heap.size, 2, none⟩) hwz; have hz6 := hb6.size; (try simp at hz6)))
          all_goals
            have q6 : Below W.heap.size W w6 := (by (repeat (first | exact Below.refl _ _ | exact Hbl.out | refine Below.ext ?_ (by first | omega | (simp; omega) | simp) | refine Below.setCell ?_ (by first | omega | (simp; omega) | simp) _ | refine Below.alloc ?_ (by first | omega | (simp; omega) | simp) _ | refine Below.drew ?_ | refine below_drewN ?_ _ | refine Below.step (by assumption) (by first | omega | (simp; omega) | simp) ?_)))
            have t6 : Below w.heap.size w w6 := Below.step q6 (by omega) (Below.step HbW.out (by omega) C1.out)
            have T6 := Lib.hid t6
            have O6 := Lib.hid o6
            have hl6 : ([] ++ [(a, b, c)] ++ [] : List T3).length = 0 + 1 := rfl
            have Hl6 := Lib.hid hl6
            have hz6' : w.heap.size ≤ w6.heap.size := t6.size
            have h26 := h2 v6 _ w6 (ownG_sl o6)
            have hs6 := (H.out.below C1.out).below (Below.step q6 hwrW HbW.out)
            have Hs6 := Lib.hid hs6
            have H26 := Lib.hid h26
            obtain ⟨A6, c6, rfl⟩ := ownG_shape o6
            generalize ([] ++ [(a, b, c)] ++ [] : List T3) = l6 at O6 Hl6 H26 ⊢
            clear q6 t6 o4 o5 o6 g4 g5 g6 a4 a5 a6 hb4 hb5 hb6 x40 x41 x42 x50 x51 x52 x60 x61 x62 hl6 h26 hs6
            go_wp2_with fail
            refine H26.out.mono ?_
            rintro e w7 ⟨rfl, b7⟩
            have t7 := Below.step b7 hz6' T6.out
            have hz7 : w.heap.size ≤ w7.heap.size := t7.size
            have o7 := ownG_mono (ownG_below O6.out b7) (show w.heap.size ≤ W.heap.size by omega)
            have O7 := Lib.hid o7
            have s7 := Hs6.out.below b7
            have S7 := Lib.hid s7
            have T7 := Lib.hid t7
            clear o7 s7 t7
            cases tmB l6
            · go_wp2_with (at_builtin; refine wpList_appG fitT _ rfl (.tmp 44) (.tmp 45) rfl w.heap.size (.slice (some ⟨_, 0, none⟩) 0 0) [] rfl ?cO _ [] rfl ?cS ?cL ?cB ?_)
              case cO => exact ownG_empty _ rfl hz7
              case cS => first | exact S7.out.below (Below.alloc (Below.refl _ _) (Nat.le_refl _) _) | (have h := S7.out.below (Below.alloc (Below.refl _ _) (Nat.le_refl _) (.cells #[] 36)); rw [Hll.out] at h; exact h)
              case cL => (first | omega | (simp; done) | (simp; omega))
              case cB => (first | omega | (simp; done) | (simp; omega))
              intro v8 w8 ⟨o8, _, _⟩ hb8
              go_wp2
              go_ret2
              exact ⟨_, _, false, rfl, by simp, o8, Below.step hb8 (Nat.le_refl _) (Below.alloc T7.out hz7 _)⟩
            · go_wp2
              go_ret2
              exact ⟨_, l6, true, rfl, by rw [Hl6.out]; exact Nat.le_refl _, O7.out, T7.out⟩
      · have hcases : k = 0 ∨ (0 < k ∧ a < (ti l (k - 1)).1) ∨ (0 < k ∧ ¬ a < (ti l (k - 1)).1) := by omega
        have hlp : 0 < l.length := List.length_pos_iff.2 hl0
        obtain ⟨bb, off, rfl, hb, _⟩ := H.out.at_ (ti_at (l := l) (i := 0) hlp)
        have hkc : (k : Int) ≤ (cap : Int) := by omega
        have hkl : (k : Int) ≤ (l.length : Int) := by omega
        clear hl0
        by_cases hkk : cap = k
        · have hany : ∀ W X Y, Y ≤ 9223372036854775807 → SlG ET W (.slice X 0 Y) (l.drop k) := fun W X Y hY => by rw [List.drop_of_length_le (by omega)]; exact SlG.zero (by unfold maxLen; omega)
          have Hany := Lib.hid hany
          have hll : l.length = k := by omega
          have Hll := Lib.hid hll
          clear hany hkl hkc
          have hkk2 := hkk.symm
          clear hkk
          subst hkk2
          rw [hll]
          clear hll
          rcases hcases with e | ⟨e1, e2⟩ | ⟨e1, e2⟩
          case' inl =>
            have hk0 : decide (0 < k) = false := decide_eq_false (by omega)
            clear e
            go_wp2
            go_quiet (fail)
            clear hk0
          case' inr.inl =>
            have hx := ti_at (l := l) (i := k - 1) (by omega)
            obtain ⟨bb', off', e', hb', hcell⟩ := H.out.at_ hx
            cases e'
            have d0 := (Hbl.out.cell (p := ⟨bb, off + (k - 1) * 3, none⟩) (show bb < w1.heap.size by omega)).trans ((C1.out.cell (p := ⟨bb, off + (k - 1) * 3, none⟩) hb).trans (hcell 0 _ rfl))
            generalize (ti l (k - 1)).1 = ta at d0 e2
            have hk0 : (0 : Int) < (k : Int) := by omega
            have z1 : IntKind.i64.wrap ((k : Int) - 1) = (k : Int) - 1 := IntWalk.i64_in _ (by omega)
            have hz : ((k - 1 : Nat) : Int) = (k : Int) - 1 := by omega
            clear hx hcell
            go_wp2
            go_quiet (fail)
            go_wp2
            go_roundw
            case rel => exact ⟨k - 1, by omega, by rw [hz], below_drewN Hbl.out _⟩
            case measure => simp [intOf]; omega
          case' inr.inr =>
            have hx := ti_at (l := l) (i := k - 1) (by omega)
            obtain ⟨bb', off', e', hb', hcell⟩ := H.out.at_ hx
            cases e'
            have d0 := (Hbl.out.cell (p := ⟨bb, off + (k - 1) * 3, none⟩) (show bb < w1.heap.size by omega)).trans ((C1.out.cell (p := ⟨bb, off + (k - 1) * 3, none⟩) hb).trans (hcell 0 _ rfl))
            generalize (ti l (k - 1)).1 = ta at d0 e2
            have hk0 : (0 : Int) < (k : Int) := by omega
            have z1 : IntKind.i64.wrap ((k : Int) - 1) = (k : Int) - 1 := IntWalk.i64_in _ (by omega)
            have hz : ((k - 1 : Nat) : Int) = (k : Int) - 1 := by omega
            clear hx hcell
            go_wp2
            go_quiet (fail)
            clear d0 hz z1
          all_goals
            go_wp2
            generalize hW : wr.drewN _ = W
            have hbW : Below w1.heap.size w1 W := by rw [← hW]; exact below_drewN Hbl.out _
            have HbW := Lib.hid hbW
            have hwrW : w1.heap.size ≤ W.heap.size := hbW.size
            have hwz : w.heap.size < W.heap.size := by omega
            have u0 := (hbW.cell (p := ⟨w.heap.size, 0, none⟩) hz1).trans k0
            have u1 := (hbW.cell (p := ⟨w.heap.size, 1, none⟩) hz1).trans k1
            have u2 := (hbW.cell (p := ⟨w.heap.size, 2, none⟩) hz1).trans k2
            have htk := ((H.out.below C1.out).below hbW).take (k := k) hk
            have Htk := Lib.hid htk
            have hdr := ((H.out.below C1.out).below hbW).drop (k := k) hk
            have Hdr := Lib.hid hdr
            clear hdr
            clear htk hbW hW
            go_region_held3 (fun w' => w'.cell? ⟨w.heap.size, 0, none⟩ = some (.int .i64 a) ∧ w'.cell? ⟨w.heap.size, 1, none⟩ = some (.int .i64 b) ∧ w'.cell? ⟨w.heap.size, 2, none⟩ = some (.int .i64 c)) (first | (refine ⟨?_, ?_, ?_⟩ <;> first | assumption | (go_simp; done)) | (refine ⟨x60.trans ?_, x61.trans ?_, x62.trans ?_⟩ <;> first | assumption | (go_simp; done)) | (refine ⟨x50.trans ?_, x51.trans ?_, x52.trans ?_⟩ <;> first | assumption | (go_simp; done)) | (refine ⟨x40.trans ?_, x41.trans ?_, x42.trans ?_⟩ <;> first | assumption | (go_simp; done)) | fail) (first | (refine step_appG fitT _ rfl (.tmp 29) (.tmp 32) rfl W.heap.size (.slice (some ⟨_, 0, none⟩) 0 0) [] rfl ?_ _ (l.take k) rfl ?_ ?_ ?_ ?_; (focus (first | (refine ownG_empty _ ?_ ?_ <;> (first | omega | (simp; done) | (simp; omega)); done) | (refine ownG_alloc (ownG_empty _ ?_ ?_) _ <;> (first | omega | (simp; done) | (simp; omega)); done))); (focus (refine Htk.out.below ?_; (repeat (first | exact Below.refl _ _ | exact Hbl.out | refine Below.ext ?_ (by first | omega | (simp; omega) | simp) | refine Below.setCell ?_ (by first | omega | (simp; omega) | simp) _ | refine Below.alloc ?_ (by first | omega | (simp; omega) | simp) _ | refine Below.drew ?_ | refine below_drewN ?_ _ | refine Below.step (by assumption) (by first | omega | (simp; omega) | simp) ?_)))); (focus (first | omega | (simp; done) | (simp; omega))); (focus (first | omega | (simp; done) | (simp; omega))); rintro v4 w4 ⟨o4, g4, a4⟩ hb4; have x40 := hb4.cell (p := ⟨w.heap.size, 0, none⟩) hwz; have x41 := hb4.cell (p := ⟨w.heap.size, 1, none⟩) hwz; have x42 := hb4.cell (p := ⟨w.heap.size, 2, none⟩) hwz; have hz4 := hb4.size; (try simp at hz4)) | (refine step_appG fitT _ rfl (.tmp 33) (.tmp 35) rfl W.heap.size _ (l.take k) rfl ?_ _ [(a, b, c)] rfl ?_ ?_ ?_ ?_; (focus (first | exact o4 | exact ownG_alloc o4 _)); (focus (refine slG_one ?_ ?_; (focus (first | omega | (simp; done) | (simp; omega))); (focus (intro j u hu; rcases j with _ | _ | _ | j <;> simp [ET] at hu <;> subst hu <;> first | (go_simp; done) | (refine g4.cell ?_ ?_; (focus (go_simp)); (focus (simp [Value.ownBlock]; try omega))))))); (focus (first | omega | (simp; done) | (simp; omega))); (focus (first | omega | (simp; done) | (simp; omega))); rintro v5 w5 ⟨o5, g5, a5⟩ hb5; have x50 := hb5.cell (p := ⟨w.heap.size, 0, none⟩) hwz; have x51 := hb5.cell (p := ⟨w.heap.size, 1, none⟩) hwz; have x52 := hb5.cell (p := ⟨w.heap.size, 2, none⟩) hwz; have hz5 := hb5.size; (try simp at hz5)) | (refine step_appG fitT _ rfl (.tmp 36) (.tmp 39) rfl W.heap.size _ (l.take k ++ [(a, b, c)]) rfl ?_ _ (l.drop k) rfl ?_ ?_ ?_ ?_; (focus (first | exact o5 | exact ownG_alloc o5 _)); (focus (exact Hany.out _ _ _ (by omega))); (focus (first | omega | (simp; done) | (simp; omega))); (focus (first | omega | (simp; done) | (simp; omega))); rintro v6 w6 ⟨o6, g6, a6⟩ hb6; have x60 := hb6.cell (p := ⟨w.heap.size, 0, none⟩) hwz; have x61 := hb6.cell (p := ⟨w.heap.size, 1, none⟩) hwz; have x62 := hb6.cell (p := ⟨w.heap.size, 2, none⟩) hwz; have hz6 := hb6.size; (try simp at hz6)))
            all_goals
              have q6 : Below W.heap.size W w6 := (by (repeat (first | exact Below.refl _ _ | exact Hbl.out | refine Below.ext ?_ (by first | omega | (simp; omega) | simp) | refine Below.setCell ?_ (by first | omega | (simp; omega) | simp) _ | refine Below.alloc ?_ (by first | omega | (simp; omega) | simp) _ | refine Below.drew ?_ | refine below_drewN ?_ _ | refine Below.step (by assumption) (by first | omega | (simp; omega) | simp) ?_)))
              have t6 : Below w.heap.size w w6 := Below.step q6 (by omega) (Below.step HbW.out (by omega) C1.out)
              have T6 := Lib.hid t6
              have O6 := Lib.hid o6
              have hl6 : (l.take k ++ [(a, b, c)] ++ l.drop k).length = l.length + 1 := by simp; omega
              have Hl6 := Lib.hid hl6
              have hz6' : w.heap.size ≤ w6.heap.size := t6.size
              have h26 := h2 v6 _ w6 (ownG_sl o6)
              have hs6 := (H.out.below C1.out).below (Below.step q6 hwrW HbW.out)
              have Hs6 := Lib.hid hs6
              have H26 := Lib.hid h26
              obtain ⟨A6, c6, rfl⟩ := ownG_shape o6
              generalize l.take k ++ [(a, b, c)] ++ l.drop k = l6 at O6 Hl6 H26 ⊢
              clear q6 t6 o4 o5 o6 g4 g5 g6 a4 a5 a6 hb4 hb5 hb6 x40 x41 x42 x50 x51 x52 x60 x61 x62 hl6 h26 hs6
              go_wp2_with fail
              refine H26.out.mono ?_
              rintro e w7 ⟨rfl, b7⟩
              have t7 := Below.step b7 hz6' T6.out
              have hz7 : w.heap.size ≤ w7.heap.size := t7.size
              have o7 := ownG_mono (ownG_below O6.out b7) (show w.heap.size ≤ W.heap.size by omega)
              have O7 := Lib.hid o7
              have s7 := Hs6.out.below b7
              have S7 := Lib.hid s7
              have T7 := Lib.hid t7
              clear o7 s7 t7
              cases tmB l6
              · go_wp2_with (at_builtin; refine wpList_appG fitT _ rfl (.tmp 44) (.tmp 45) rfl w.heap.size (.slice (some ⟨_, 0, none⟩) 0 0) [] rfl ?cO _ l rfl ?cS ?cL ?cB ?_)
                case cO => exact ownG_empty _ rfl hz7
                case cS => first | exact S7.out.below (Below.alloc (Below.refl _ _) (Nat.le_refl _) _) | (have h := S7.out.below (Below.alloc (Below.refl _ _) (Nat.le_refl _) (.cells #[] 36)); rw [Hll.out] at h; exact h)
                case cL => (first | omega | (simp; done) | (simp; omega))
                case cB => (first | omega | (simp; done) | (simp; omega))
                intro v8 w8 ⟨o8, _, _⟩ hb8
                go_wp2
                go_ret2
                exact ⟨_, _, false, rfl, by simp, o8, Below.step hb8 (Nat.le_refl _) (Below.alloc T7.out hz7 _)⟩
              · go_wp2
                go_ret2
                exact ⟨_, l6, true, rfl, by rw [Hl6.out]; exact Nat.le_refl _, O7.out, T7.out⟩
        · have hkk' : ¬ (cap : Int) = (k : Int) := by omega
          rcases hcases with e | ⟨e1, e2⟩ | ⟨e1, e2⟩
          case' inl =>
            have hk0 : decide (0 < k) = false := decide_eq_false (by omega)
            clear e
            go_wp2
            go_quiet (fail)
            clear hk0
          case' inr.inl =>
            have hx := ti_at (l := l) (i := k - 1) (by omega)
            obtain ⟨bb', off', e', hb', hcell⟩ := H.out.at_ hx
            cases e'
            have d0 := (Hbl.out.cell (p := ⟨bb, off + (k - 1) * 3, none⟩) (show bb < w1.heap.size by omega)).trans ((C1.out.cell (p := ⟨bb, off + (k - 1) * 3, none⟩) hb).trans (hcell 0 _ rfl))
            generalize (ti l (k - 1)).1 = ta at d0 e2
            have hk0 : (0 : Int) < (k : Int) := by omega
            have z1 : IntKind.i64.wrap ((k : Int) - 1) = (k : Int) - 1 := IntWalk.i64_in _ (by omega)
            have hz : ((k - 1 : Nat) : Int) = (k : Int) - 1 := by omega
            clear hx hcell
            go_wp2
            go_quiet (fail)
            go_wp2
            go_roundw
            case rel => exact ⟨k - 1, by omega, by rw [hz], below_drewN Hbl.out _⟩
            case measure => simp [intOf]; omega
          case' inr.inr =>
            have hx := ti_at (l := l) (i := k - 1) (by omega)
            obtain ⟨bb', off', e', hb', hcell⟩ := H.out.at_ hx
            cases e'
            have d0 := (Hbl.out.cell (p := ⟨bb, off + (k - 1) * 3, none⟩) (show bb < w1.heap.size by omega)).trans ((C1.out.cell (p := ⟨bb, off + (k - 1) * 3, none⟩) hb).trans (hcell 0 _ rfl))
            generalize (ti l (k - 1)).1 = ta at d0 e2
            have hk0 : (0 : Int) < (k : Int) := by omega
            have z1 : IntKind.i64.wrap ((k : Int) - 1) = (k : Int) - 1 := IntWalk.i64_in _ (by omega)
            have hz : ((k - 1 : Nat) : Int) = (k : Int) - 1 := by omega
            clear hx hcell
            go_wp2
            go_quiet (fail)
            clear d0 hz z1
          all_goals
            go_wp2
            generalize hW : wr.drewN _ = W
            have hbW : Below w1.heap.size w1 W := by rw [← hW]; exact below_drewN Hbl.out _
            have HbW := Lib.hid hbW
            have hwrW : w1.heap.size ≤ W.heap.size := hbW.size
            have hwz : w.heap.size < W.heap.size := by omega
            have u0 := (hbW.cell (p := ⟨w.heap.size, 0, none⟩) hz1).trans k0
            have u1 := (hbW.cell (p := ⟨w.heap.size, 1, none⟩) hz1).trans k1
            have u2 := (hbW.cell (p := ⟨w.heap.size, 2, none⟩) hz1).trans k2
            have htk := ((H.out.below C1.out).below hbW).take (k := k) hk
            have Htk := Lib.hid htk
            have hdr := ((H.out.below C1.out).below hbW).drop (k := k) hk
            have Hdr := Lib.hid hdr
            clear hdr
            clear htk hbW hW
            go_region_held3 (fun w' => w'.cell? ⟨w.heap.size, 0, none⟩ = some (.int .i64 a) ∧ w'.cell? ⟨w.heap.size, 1, none⟩ = some (.int .i64 b) ∧ w'.cell? ⟨w.heap.size, 2, none⟩ = some (.int .i64 c)) (first | (refine ⟨?_, ?_, ?_⟩ <;> first | assumption | (go_simp; done)) | (refine ⟨x60.trans ?_, x61.trans ?_, x62.trans ?_⟩ <;> first | assumption | (go_simp; done)) | (refine ⟨x50.trans ?_, x51.trans ?_, x52.trans ?_⟩ <;> first | assumption | (go_simp; done)) | (refine ⟨x40.trans ?_, x41.trans ?_, x42.trans ?_⟩ <;> first | assumption | (go_simp; done)) | fail) (first | (refine step_appG fitT _ rfl (.tmp 29) (.tmp 32) rfl W.heap.size (.slice (some ⟨_, 0, none⟩) 0 0) [] rfl ?_ _ (l.take k) rfl ?_ ?_ ?_ ?_; (focus (first | (refine ownG_empty _ ?_ ?_ <;> (first | omega | (simp; done) | (simp; omega)); done) | (refine ownG_alloc (ownG_empty _ ?_ ?_) _ <;> (first | omega | (simp; done) | (simp; omega)); done))); (focus (refine Htk.out.below ?_; (repeat (first | exact Below.refl _ _ | exact Hbl.out | refine Below.ext ?_ (by first | omega | (simp; omega) | simp) | refine Below.setCell ?_ (by first | omega | (simp; omega) | simp) _ | refine Below.alloc ?_ (by first | omega | (simp; omega) | simp) _ | refine Below.drew ?_ | refine below_drewN ?_ _ | refine Below.step (by assumption) (by first | omega | (simp; omega) | simp) ?_)))); (focus (first | omega | (simp; done) | (simp; omega))); (focus (first | omega | (simp; done) | (simp; omega))); rintro v4 w4 ⟨o4, g4, a4⟩ hb4; have x40 := hb4.cell (p := ⟨w.heap.size, 0, none⟩) hwz; have x41 := hb4.cell (p := ⟨w.heap.size, 1, none⟩) hwz; have x42 := hb4.cell (p := ⟨w.heap.size, 2, none⟩) hwz; have hz4 := hb4.size; (try simp at hz4)) | (refine step_appG fitT _ rfl (.tmp 33) (.tmp 35) rfl W.heap.size _ (l.take k) rfl ?_ _ [(a, b, c)] rfl ?_ ?_ ?_ ?_; (focus (first | exact o4 | exact ownG_alloc o4 _)); (focus (refine slG_one ?_ ?_; (focus (first | omega | (simp; done) | (simp; omega))); (focus (intro j u hu; rcases j with _ | _ | _ | j <;> simp [ET] at hu <;> subst hu <;> first | (go_simp; done) | (refine g4.cell ?_ ?_; (focus (go_simp)); (focus (simp [Value.ownBlock]; try omega))))))); (focus (first | omega | (simp; done) | (simp; omega))); (focus (first | omega | (simp; done) | (simp; omega))); rintro v5 w5 ⟨o5, g5, a5⟩ hb5; have x50 := hb5.cell (p := ⟨w.heap.size, 0, none⟩) hwz; have x51 := hb5.cell (p := ⟨w.heap.size, 1, none⟩) hwz; have x52 := hb5.cell (p := ⟨w.heap.size, 2, none⟩) hwz; have hz5 := hb5.size; (try simp at hz5)) | (refine step_appG fitT _ rfl (.tmp 36) (.tmp 39) rfl W.heap.size _ (l.take k ++ [(a, b, c)]) rfl ?_ _ (l.drop k) rfl ?_ ?_ ?_ ?_; (focus (first | exact o5 | exact ownG_alloc o5 _)); (focus (refine Hdr.out.below ?_; (repeat (first | exact Below.refl _ _ | exact Hbl.out | refine Below.ext ?_ (by first | omega | (simp; omega) | simp) | refine Below.setCell ?_ (by first | omega | (simp; omega) | simp) _ | refine Below.alloc ?_ (by first | omega | (simp; omega) | simp) _ | refine Below.drew ?_ | refine below_drewN ?_ _ | refine Below.step (by assumption) (by first | omega | (simp; omega) | simp) ?_)))); (focus (first | omega | (simp; done) | (simp; omega))); (focus (first | omega | (simp; done) | (simp; omega))); rintro v6 w6 ⟨o6, g6, a6⟩ hb6; have x60 := hb6.cell (p := ⟨w.heap.size, 0, none⟩) hwz; have x61 := hb6.cell (p := ⟨w.heap.size, 1, none⟩) hwz; have x62 := hb6.cell (p := ⟨w.heap.size, 2, none⟩) hwz; have hz6 := hb6.size; (try simp at hz6)))
            all_goals
              have q6 : Below W.heap.size W w6 := (by (repeat (first | exact Below.refl _ _ | exact Hbl.out | refine Below.ext ?_ (by first | omega | (simp; omega) | simp) | refine Below.setCell ?_ (by first | omega | (simp; omega) | simp) _ | refine Below.alloc ?_ (by first | omega | (simp; omega) | simp) _ | refine Below.drew ?_ | refine below_drewN ?_ _ | refine Below.step (by assumption) (by first | omega | (simp; omega) | simp) ?_)))
              have t6 : Below w.heap.size w w6 := Below.step q6 (by omega) (Below.step HbW.out (by omega) C1.out)
              have T6 := Lib.hid t6
              have O6 := Lib.hid o6
              have hl6 : (l.take k ++ [(a, b, c)] ++ l.drop k).length = l.length + 1 := by simp; omega
              have Hl6 := Lib.hid hl6
              have hz6' : w.heap.size ≤ w6.heap.size := t6.size
              have h26 := h2 v6 _ w6 (ownG_sl o6)
              have hs6 := (H.out.below C1.out).below (Below.step q6 hwrW HbW.out)
              have Hs6 := Lib.hid hs6
              have H26 := Lib.hid h26
              obtain ⟨A6, c6, rfl⟩ := ownG_shape o6
              generalize l.take k ++ [(a, b, c)] ++ l.drop k = l6 at O6 Hl6 H26 ⊢
              clear q6 t6 o4 o5 o6 g4 g5 g6 a4 a5 a6 hb4 hb5 hb6 x40 x41 x42 x50 x51 x52 x60 x61 x62 hl6 h26 hs6
              go_wp2_with fail
              refine H26.out.mono ?_
              rintro e w7 ⟨rfl, b7⟩
              have t7 := Below.step b7 hz6' T6.out
              have hz7 : w.heap.size ≤ w7.heap.size := t7.size
              have o7 := ownG_mono (ownG_below O6.out b7) (show w.heap.size ≤ W.heap.size by omega)
              have O7 := Lib.hid o7
              have s7 := Hs6.out.below b7
              have S7 := Lib.hid s7
              have T7 := Lib.hid t7
              clear o7 s7 t7
              cases tmB l6
              · go_wp2_with (at_builtin; refine wpList_appG fitT _ rfl (.tmp 44) (.tmp 45) rfl w.heap.size (.slice (some ⟨_, 0, none⟩) 0 0) [] rfl ?cO _ l rfl ?cS ?cL ?cB ?_)
                case cO => exact ownG_empty _ rfl hz7
                case cS => first | exact S7.out.below (Below.alloc (Below.refl _ _) (Nat.le_refl _) _) | (have h := S7.out.below (Below.alloc (Below.refl _ _) (Nat.le_refl _) (.cells #[] 36)); rw [Hll.out] at h; exact h)
                case cL => (first | omega | (simp; done) | (simp; omega))
                case cB => (first | omega | (simp; done) | (simp; omega))
                intro v8 w8 ⟨o8, _, _⟩ hb8
                go_wp2
                go_ret2
                exact ⟨_, _, false, rfl, by simp, o8, Below.step hb8 (Nat.le_refl _) (Below.alloc T7.out hz7 _)⟩
              · go_wp2
                go_ret2
                exact ⟨_, l6, true, rfl, by rw [Hl6.out]; exact Nat.le_refl _, O7.out, T7.out⟩
end Go.Proofs.Ytlanbgpmmlnehaa
