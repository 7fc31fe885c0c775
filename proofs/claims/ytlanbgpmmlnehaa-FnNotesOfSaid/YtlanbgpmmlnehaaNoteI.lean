/- The package's AddNote. -/
import Derived.Test.YtlanbgpmmlnehaaDel1
set_option linter.unusedSimpArgs false
set_option linter.unusedVariables false
set_option linter.unusedSectionVars false
namespace Go.Proofs.Ytlanbgpmmlnehaa
open Go.RowKit

theorem below_rules {w w' : World} (h : Below w.heap.size w w') : (∀ b o, LtA b w.heap.size → w'.cell? ⟨b, o, none⟩ = w.cell? ⟨b, o, none⟩) ∧ (∀ b o, LtA b w.heap.size → w'.frozen? ⟨b, o, none⟩ = w.frozen? ⟨b, o, none⟩) ∧ w.heap.size ≤ w'.heap.size :=
  ⟨fun b o hb => h.cell (p := ⟨b, o, none⟩) hb, fun b o hb => h.frozen (p := ⟨b, o, none⟩) hb, h.size⟩
theorem own_apart {α : Type} {E : Lay α} {T B n c : Nat} {A : Option Addr} {w : World} {l : List α} (h : OwnG E T B w (.slice A n c) l) : (∀ b, LtA b B → ((some ⟨b, 0, none⟩ : Option Addr) = A) = False) ∧ (∀ b, LtA w.heap.size (b + 1) → ((some ⟨b, 0, none⟩ : Option Addr) = A) = False) ∧ (∀ G, A = some ⟨G, 0, none⟩ → B ≤ G ∧ G < w.heap.size) ∧ (A = none ∨ ∃ G, A = some ⟨G, 0, none⟩) := by
  have hg : ∀ G, A = some ⟨G, 0, none⟩ → B ≤ G ∧ G < w.heap.size := fun G e => h.lt G (by rw [e]; rfl)
  refine ⟨fun b hb => ?_, fun b hb => ?_, hg, ?_⟩
  · exact eq_false fun e => by have := (hg b e.symm).1; unfold LtA at hb; omega
  · exact eq_false fun e => by have := (hg b e.symm).2; unfold LtA at hb; omega
  · rcases h.2 with ⟨e, _⟩ | ⟨g, c', cur, e, _⟩
    · injection e with e _ _; exact .inl e
    · injection e with e _ _; exact .inr ⟨g, e⟩
theorem appG_rules0 {α : Type} {E : Lay α} {T B : Nat} {W w' : World} {x : α} {v' : Value} (h : AppG E T W B (.slice none 0 0) ([] ++ [x]) v' w') :
    (∀ b o, LtA b W.heap.size → w'.cell? ⟨b, o, none⟩ = W.cell? ⟨b, o, none⟩) ∧ (∀ b o, LtA b W.heap.size → w'.frozen? ⟨b, o, none⟩ = W.frozen? ⟨b, o, none⟩) ∧ W.heap.size ≤ w'.heap.size ∧
    ∃ G' c', v' = .slice (some ⟨G', 0, none⟩) 1 c' ∧ (G' = W.heap.size ∨ G' = W.heap.size) ∧ G' < w'.heap.size := by
  obtain ⟨ho, hg, ha⟩ := h
  have hne : ∀ b, some b ≠ (Value.slice none 0 0).ownBlock := fun b e => by cases e
  refine ⟨fun b o hb => World.cell?_of_block (hg.block b hb (hne b)), fun b o hb => World.frozen?_of_block (hg.block b hb (hne b)), hg.size, ?_⟩
  have hlt := fun j hj => (ho.lt j hj).2
  rcases ho.2 with ⟨rfl, h0⟩ | ⟨g, c', cur, rfl, _⟩
  · simp at h0
  · refine ⟨g, c', rfl, ?_, hlt g rfl⟩
    rcases ha with e | e
    · cases e
    · left; injection e
theorem appG_rulesO {α : Type} {E : Lay α} {T B n c : Nat} {A : Option Addr} {W w' : World} {l : List α} {v' : Value} (h : AppG E T W B (.slice A n c) l v' w') (hA : A = none ∨ ∃ G, A = some ⟨G, 0, none⟩) (hl : 0 < l.length) :
    (∀ b o, LtA b W.heap.size → ((some ⟨b, 0, none⟩ : Option Addr) = A) = False → w'.cell? ⟨b, o, none⟩ = W.cell? ⟨b, o, none⟩) ∧ (∀ b o, LtA b W.heap.size → ((some ⟨b, 0, none⟩ : Option Addr) = A) = False → w'.frozen? ⟨b, o, none⟩ = W.frozen? ⟨b, o, none⟩) ∧ W.heap.size ≤ w'.heap.size ∧
    ∃ G' c', v' = .slice (some ⟨G', 0, none⟩) l.length c' ∧ (A = some ⟨G', 0, none⟩ ∨ G' = W.heap.size) ∧ G' < w'.heap.size := by
  obtain ⟨ho, hg, ha⟩ := h
  have hne : ∀ b, ((some ⟨b, 0, none⟩ : Option Addr) = A) = False → some b ≠ (Value.slice A n c).ownBlock := fun b hb e => by
    rcases hA with rfl | ⟨G, rfl⟩
    · cases e
    · have e' : some b = some G := e
      injection e' with e'
      subst e'
      simp at hb
  refine ⟨fun b o hb hn => World.cell?_of_block (hg.block b hb (hne b hn)), fun b o hb hn => World.frozen?_of_block (hg.block b hb (hne b hn)), hg.size, ?_⟩
  have hlt := fun j hj => (ho.lt j hj).2
  rcases ho.2 with ⟨rfl, h0⟩ | ⟨g, c', cur, rfl, _⟩
  · omega
  · refine ⟨g, c', rfl, ?_, hlt g rfl⟩
    rcases ha with e | e
    · left
      rcases hA with rfl | ⟨G, rfl⟩
      · cases e
      · have e' : some g = some G := e
        injection e' with e'
        rw [e']
    · right; injection e
set_option maxHeartbeats 1000000 in
theorem cloneN_nil (cap : Nat) (w : World) : Calls Try.prog 56 #[.slice none 0 cap] w fun e w' => e = .returned (.slice none 0 0) ∧ Below w.heap.size w w' := by
  have he := nilN_none 0 cap
  go_enter Try.func56, Try.ntmps56
  go_wp2
  go_ret
  exact ⟨rfl, (by (repeat (first | exact Below.refl _ _ | exact Hbl.out | refine Below.ext ?_ (by first | omega | (simp; omega) | simp) | refine Below.setCell ?_ (by first | omega | (simp; omega) | simp) _ | refine Below.alloc ?_ (by first | omega | (simp; omega) | simp) _ | refine Below.drew ?_ | refine below_drewN ?_ _ | refine Below.step (by assumption) (by first | omega | (simp; omega) | simp) ?_)))⟩
set_option maxHeartbeats 1000000 in
theorem cloneN_some (ad : Addr) (cap : Nat) (l : List T4) (w : World) (h : SlG EN w (.slice (some ad) l.length cap) l) (hl : l.length ≤ 1000) : Calls Try.prog 56 #[.slice (some ad) l.length cap] w fun e w' => ∃ G c, e = .returned (.slice (some ⟨G, 0, none⟩) l.length c) ∧ OwnG EN 49 w.heap.size w' (.slice (some ⟨G, 0, none⟩) l.length c) l ∧ w.heap.size ≤ G ∧ G < w'.heap.size ∧ Below w.heap.size w w' := by
  have H := Lib.hid h
  have he := nilN_some ad l.length cap
  clear h
  go_enter Try.func56, Try.ntmps56
  go_wp2_with (at_builtin; refine wpList_appG fitN _ rfl (.tmp 5) (.tmp 6) rfl w.heap.size (.slice (some ⟨_, 0, none⟩) 0 0) [] rfl ?cO _ l rfl ?cS ?cL ?cB ?_)
  case cO => exact ownG_empty _ rfl (Nat.le_refl _)
  case cS => exact H.out.below (Below.alloc (Below.refl _ _) (Nat.le_refl _) _)
  case cL => simp; omega
  case cB => simp
  intro v4 w4 ha4 hb4
  obtain ⟨rc4, rf4, hz4, G4, c4, e4, hG4, hL4⟩ := appG_rules ha4
  have O4 := Lib.hid ha4.1
  subst e4
  clear ha4 rc4 rf4 hz4 hG4
  go_wp2
  all_goals
    go_ret
    exact ⟨_, _, rfl, O4.out, (O4.out.lt G4 rfl).1, (O4.out.lt G4 rfl).2, Below.step hb4 (Nat.le_refl _) (Below.alloc (Below.refl _ _) (Nat.le_refl _) _)⟩
set_option maxRecDepth 100000 in
set_option maxHeartbeats 8000000 in
theorem addNoteI_of (v : Value) (next : Int) (l : List T4) (who : Int) (what : ByteArray) (fault : Int) (w : World) (h : SlG EN w v l) (hx : Txt l) (hl : l.length ≤ 1000) (hs : what.size ≤ maxLen) :
    Calls Try.prog 26 #[.agg #[v, .int .i64 next], .int .i64 who, .string what, .int .i64 fault] w (AddGot w (addF next l who what fault)) := by
  have H := Lib.hid h
  have h1 := fun w h => auditValidI_of v next l w (sl4_of h) hx
  have h2 := fun v n (m : List T4) w h (_ : m.length ≤ 1048576) hx => auditValidI_of v n m w (sl4_of h) hx
  have hx2 := txt_app (x := (next, who, what, fault)) hx hs
  obtain ⟨A, cap, rfl⟩ := h.shape
  have hcap := h.caps
  have hc1 := hcap.1
  have hc2 := hcap.2
  clear h hcap
  go_enter Try.func26, Try.ntmps26
  go_wp2_with fail
  refine (h1 _ (H.out.below (by (repeat (first | exact Below.refl _ _ | exact Hbl.out | refine Below.ext ?_ (by first | omega | (simp; omega) | simp) | refine Below.setCell ?_ (by first | omega | (simp; omega) | simp) _ | refine Below.alloc ?_ (by first | omega | (simp; omega) | simp) _ | refine Below.drew ?_ | refine below_drewN ?_ _ | refine Below.step (by assumption) (by first | omega | (simp; omega) | simp) ?_))))).mono ?_
  rintro e w1 ⟨rfl, hb⟩
  obtain ⟨d1, os1, rfl⟩ := ext_of_below hb; clear hb
  cases ha : audB next l
  · have hr : addF next l who what fault = ([], 0, false) := by unfold addF; rw [ha]; rfl
    have Hr := Lib.hid hr
    clear hr
    go_wp2
    simp [bodyPost, results, Try.results26, go_sem]
    exact ⟨_, by rw [Hr.out], by rw [Hr.out]; exact rowF_own (ownG_none (T := 49) _ _), (by (repeat (first | exact Below.refl _ _ | exact Hbl.out | refine Below.ext ?_ (by first | omega | (simp; omega) | simp) | refine Below.setCell ?_ (by first | omega | (simp; omega) | simp) _ | refine Below.alloc ?_ (by first | omega | (simp; omega) | simp) _ | refine Below.drew ?_ | refine below_drewN ?_ _ | refine Below.step (by assumption) (by first | omega | (simp; omega) | simp) ?_)))⟩
  · have hall := audB_all ha
    have n0 := hall.1
    have n1 := hall.2.1
    have n2 := hall.2.2.1
    have hl10 : l.length ≤ 10 := by omega
    have zn : IntKind.i64.wrap (next + 1) = next + 1 := IntWalk.i64_in _ (by omega)
    clear hall n2
    go_wp2
    have hWc : ∃ W : World, W = ext ((w.alloc (Obj.cells #[.slice A l.length cap, .int .i64 next] 39)).alloc (Obj.cells #[.slice none 0 0, .int .i64 0] 39)) d1 os1 := ⟨_, rfl⟩
    obtain ⟨W, hW⟩ := hWc
    have hbW : Below w.heap.size w W := by rw [hW]; exact (by (repeat (first | exact Below.refl _ _ | exact Hbl.out | refine Below.ext ?_ (by first | omega | (simp; omega) | simp) | refine Below.setCell ?_ (by first | omega | (simp; omega) | simp) _ | refine Below.alloc ?_ (by first | omega | (simp; omega) | simp) _ | refine Below.drew ?_ | refine below_drewN ?_ _ | refine Below.step (by assumption) (by first | omega | (simp; omega) | simp) ?_)))
    have hHW := H.out.below hbW
    have HW := Lib.hid hHW
    have q0 : W.cell? ⟨w.heap.size, 0, none⟩ = some (.slice A l.length cap) := by rw [hW]; go_simp
    have q1 : W.cell? ⟨w.heap.size, 1, none⟩ = some (.int .i64 next) := by rw [hW]; go_simp
    have r0 : W.cell? ⟨w.heap.size + 1, 0, none⟩ = some (.slice none 0 0) := by rw [hW]; go_simp
    have r1 : W.cell? ⟨w.heap.size + 1, 1, none⟩ = some (.int .i64 0) := by rw [hW]; go_simp
    have f0 : W.frozen? ⟨w.heap.size + 1, 0, none⟩ = false := by rw [hW]; go_simp
    have f1 : W.frozen? ⟨w.heap.size + 1, 1, none⟩ = false := by rw [hW]; go_simp
    have hWs : w.heap.size + 2 ≤ W.heap.size := by rw [hW]; simp
    rw [← hW]
    have HbW := Lib.hid hbW
    clear hW hHW hbW
    go_cut [10] from 15 (fun p w' => ∃ (g G c : Nat), p = .pointer (some ⟨g, 0, none⟩) ∧ w'.cell? ⟨g, 0, none⟩ = some (.slice (some ⟨G, 0, none⟩) (l.length + 1) c) ∧ w'.cell? ⟨g, 1, none⟩ = some (.int .i64 (next + 1)) ∧ w'.frozen? ⟨g, 0, none⟩ = false ∧ w'.frozen? ⟨g, 1, none⟩ = false ∧ W.heap.size ≤ g ∧ g < w'.heap.size ∧ G ≠ g ∧ OwnG EN 49 W.heap.size w' (.slice (some ⟨G, 0, none⟩) (l.length + 1) c) (l ++ [(next, who, what, fault)]) ∧ Below W.heap.size W w')
    case first =>
      cases A with
      | some ad =>
        go_region_held3 (fun w' => w'.cell? ⟨w.heap.size, 0, none⟩ = some (.slice (some ad) l.length cap) ∧ w'.cell? ⟨w.heap.size, 1, none⟩ = some (.int .i64 next)) (first | assumption | (go_simp; done) | fail) (first | (go_at_call 56; refine (cloneN_some ad cap l _ ?_ ?_).mono ?_; (focus (refine HW.out.below ?_; repeat (first | exact Below.refl _ _ | refine Below.alloc ?_ (by (first | omega | (simp; done) | (simp; omega))) _ | refine Below.drew ?_))); (focus (first | omega | (simp; done) | (simp; omega))); rintro e w4 ⟨G4, c4, rfl, o4, hG4, hL4, b4⟩; obtain ⟨d4, os4, rfl⟩ := ext_of_below b4; (try simp at hG4); (try simp at hL4); have O4 := Lib.hid o4; clear o4 b4) | (refine step_appG fitN _ rfl (.tmp 17) (.tmp 24) rfl W.heap.size (.slice (some ⟨G4, 0, none⟩) l.length c4) l rfl ?_ _ [(next, who, what, fault)] rfl ?_ ?_ ?_ ?_; (focus (repeat (first | exact ownG_mono O4.out (by first | omega | (simp; done) | (simp; omega)) | refine ownG_alloc ?_ _))); (focus (refine slG_one ?_ ?_; (focus (first | omega | (simp; done) | (simp; omega))); (focus (intro j u hu; rcases j with _ | _ | _ | _ | j <;> simp [EN] at hu <;> subst hu <;> go_simp)))); (focus (first | omega | (simp; done) | (simp; omega))); (focus (first | omega | (simp; done) | (simp; omega))); rintro v5 w5 ha5 hb5; obtain ⟨rc5, rf5, hz5, G5, c5, rfl, hG5, hL5⟩ := appG_rules ha5; (try simp at hz5); (try simp at hG5); have O5 := Lib.hid ha5.1; have HB5 := Lib.hid hb5; clear ha5 hb5))
        all_goals
          have HO := O5.out
          rw [List.length_append, List.length_singleton] at HO
          go_wp2_with fail
          go_meet
          refine ⟨_, G5, c5, rfl, ?_, ?_, ?_, ?_, ?_, ?_, ?_, ?_, ?_⟩
          · first | (go_simp; done) | (simp [go_sem]; done)
          · first | (go_simp; done) | (simp [go_sem]; done)
          · first | (go_simp; done) | (simp [go_sem]; done)
          · first | (go_simp; done) | (simp [go_sem]; done)
          · (first | omega | (simp; done) | (simp; omega))
          · (first | omega | (simp; done) | (simp; omega))
          · omega
          · repeat (first | exact HO | refine ownG_alloc ?_ _ | refine ownG_setCell ?_ ?_ | (focus omega))
          · repeat (first | exact Below.refl _ _ | refine Below.setCell ?_ (by (first | omega | (simp; done) | (simp; omega))) _ | refine Below.alloc ?_ (by (first | omega | (simp; done) | (simp; omega))) _ | refine Below.drew ?_ | refine Below.step HB5.out (Nat.le_refl _) ?_ | refine Below.ext ?_ (by first | omega | (simp; done) | (simp; omega)))
      | none =>
        have hl0 : l = [] := by
          obtain ⟨A', c', e, _, _, h3⟩ := HW.out
          rcases h3 with h3 | ⟨b, off, e2, _⟩
          · exact h3
          · injection e with e1 _ _
            rw [e2] at e1; cases e1
        subst hl0
        go_region_held3 (fun w' => w'.cell? ⟨w.heap.size, 0, none⟩ = some (.slice none 0 cap) ∧ w'.cell? ⟨w.heap.size, 1, none⟩ = some (.int .i64 next)) (first | assumption | (go_simp; done) | fail) (first | (go_at_call 56; refine (cloneN_nil cap _).mono ?_; rintro e w4 ⟨rfl, b4⟩; obtain ⟨d4, os4, rfl⟩ := ext_of_below b4; clear b4) | (refine step_appG fitN _ rfl (.tmp 17) (.tmp 24) rfl W.heap.size (.slice none 0 0) [] rfl ?_ _ [(next, who, what, fault)] rfl ?_ ?_ ?_ ?_; (focus (exact ownG_none _ _)); (focus (refine slG_one ?_ ?_; (focus (first | omega | (simp; done) | (simp; omega))); (focus (intro j u hu; rcases j with _ | _ | _ | _ | j <;> simp [EN] at hu <;> subst hu <;> go_simp)))); (focus (first | omega | (simp; done) | (simp; omega))); (focus (first | omega | (simp; done) | (simp; omega))); rintro v5 w5 ha5 hb5; obtain ⟨rc5, rf5, hz5, G5, c5, rfl, hG5, hL5⟩ := appG_rules0 ha5; (try simp at hz5); (try simp at hG5); have O5 := Lib.hid ha5.1; have HB5 := Lib.hid hb5; clear ha5 hb5))
        all_goals
          have HO := O5.out
          go_wp2_with fail
          go_meet
          refine ⟨_, G5, c5, rfl, ?_, ?_, ?_, ?_, ?_, ?_, ?_, ?_, ?_⟩
          · first | (go_simp; done) | (simp [go_sem]; done)
          · first | (go_simp; done) | (simp [go_sem]; done)
          · first | (go_simp; done) | (simp [go_sem]; done)
          · first | (go_simp; done) | (simp [go_sem]; done)
          · (first | omega | (simp; done) | (simp; omega))
          · (first | omega | (simp; done) | (simp; omega))
          · omega
          · repeat (first | exact HO | refine ownG_alloc ?_ _ | refine ownG_setCell ?_ ?_ | (focus omega))
          · repeat (first | exact Below.refl _ _ | refine Below.setCell ?_ (by (first | omega | (simp; done) | (simp; omega))) _ | refine Below.alloc ?_ (by (first | omega | (simp; done) | (simp; omega))) _ | refine Below.drew ?_ | refine Below.step HB5.out (Nat.le_refl _) ?_ | refine Below.ext ?_ (by first | omega | (simp; done) | (simp; omega)))
    case rest =>
      obtain ⟨g, G, c, rfl, y0, y1, z0, z1, hg1, hg2, hGg, hO, hB⟩ := hcut
      have q0' := (hB.cell (p := ⟨w.heap.size, 0, none⟩) (show w.heap.size < W.heap.size by omega)).trans q0
      have q1' := (hB.cell (p := ⟨w.heap.size, 1, none⟩) (show w.heap.size < W.heap.size by omega)).trans q1
      have r0' := (hB.cell (p := ⟨w.heap.size + 1, 0, none⟩) (show w.heap.size + 1 < W.heap.size by omega)).trans r0
      have r1' := (hB.cell (p := ⟨w.heap.size + 1, 1, none⟩) (show w.heap.size + 1 < W.heap.size by omega)).trans r1
      have f0' := (hB.frozen (p := ⟨w.heap.size + 1, 0, none⟩) (show w.heap.size + 1 < W.heap.size by omega)).trans f0
      have f1' := (hB.frozen (p := ⟨w.heap.size + 1, 1, none⟩) (show w.heap.size + 1 < W.heap.size by omega)).trans f1
      have hcw : Below w.heap.size w wc := Below.step hB (by omega) HbW.out
      have hRF : RowF EN W.heap.size wc (.slice (some ⟨G, 0, none⟩) (l.length + 1) c) (l ++ [(next, who, what, fault)]) := rowF_own hO
      have hHc := HW.out.below hB
      have hGlt : W.heap.size ≤ G ∧ G < wc.heap.size := hO.lt G rfl
      have hcc : l.length + 1 ≤ c ∧ c ≤ 9223372036854775807 := by have := (rowF_sl hRF).caps; rw [List.length_append, List.length_singleton] at this; exact this
      have HRF := Lib.hid hRF
      have HBw := Lib.hid hB
      have Hcw := Lib.hid hcw
      obtain ⟨hG1, hG2⟩ := hGlt
      obtain ⟨hcc1, hcc2⟩ := hcc
      clear q0 q1 r0 r1 f0 f1 hO hB hcw hRF hHc HbW
      by_cases h10 : 10 < l.length + 1
      · have ha10 : addL next l who what fault = (l ++ [(next, who, what, fault)]).drop 1 := by unfold addL; rw [if_pos h10]
        have h10' : (10 : Int) < (l.length : Int) + 1 := by omega
        have hgG : ((⟨g, 0, none⟩ : Addr) = ⟨G, 0, none⟩) = False := by first | (simp; done) | (simp; omega)
        go_wp2_with fail
        refine (delete0N _ W.heap.size G 0 _ _ _ HRF.out (by simp)).mono ?_
        rintro e w5 ⟨rfl, hr5, rc5, rf5, hz5, hb5⟩
        rw [Nat.add_sub_cancel, ← ha10] at hr5
        have R5 := Lib.hid hr5
        have B5 := Lib.hid hb5
        clear hr5 hb5
        go_wp2_with fail
        have hRo : RowF EN W.heap.size (w5.setCell ⟨g, 0, none⟩ (.slice (some ⟨G, 0, none⟩) l.length c)) (.slice (some ⟨G, 0, none⟩) l.length c) (addL next l who what fault) := rowF_setCell R5.out (fun j hj => by cases hj; exact hGg)
        have htx : Txt (addL next l who what fault) := by rw [ha10]; exact txt_drop hx2 1
        have hlen : (addL next l who what fault).length ≤ 1048576 := by rw [ha10]; simp; omega
        have HRo := Lib.hid hRo
        refine (h2 _ _ _ _ (rowF_sl hRo) hlen htx).mono ?_
        rintro e w6 ⟨rfl, hb6⟩
        clear htx hlen hRo ha10
        obtain ⟨d6, os6, rfl⟩ := ext_of_below hb6
        clear hb6
        cases ha2 : audB (next + 1) (addL next l who what fault)
        · have hr : addF next l who what fault = (l, next, false) := by unfold addF; rw [ha, ha2]; rfl
          have Hr := Lib.hid hr
          clear hr
          go_wp2
          go_region_held3 (fun w' => w'.cell? ⟨w.heap.size, 0, none⟩ = some (.slice A l.length cap) ∧ w'.cell? ⟨w.heap.size, 1, none⟩ = some (.int .i64 next)) (first | (go_simp; done) | fail) (first | (go_at_call 56; refine (cloneN_of _ l _ ?_ ?_).mono ?_; (focus (refine HW.out.below ?_; repeat (first | exact Below.refl _ _ | exact HBw.out | refine Below.ext ?_ (by (first | omega | (simp; done) | (simp; omega))) | refine Below.step B5.out (by (first | omega | (simp; done) | (simp; omega))) ?_ | refine Below.setCell ?_ (by (first | omega | (simp; done) | (simp; omega))) _ | refine Below.alloc ?_ (by (first | omega | (simp; done) | (simp; omega))) _ | refine Below.drew ?_))); (focus (first | omega | (simp; done) | (simp; omega))); rintro e w7 ⟨v7, rfl, o7, b7⟩; obtain ⟨A7, c7, rfl⟩ := ownG_shape o7; obtain ⟨rc7, rf7, hz7⟩ := below_rules b7; (try simp at hz7); obtain ⟨ra7, rb7, rg7, ro7⟩ := own_apart o7; (try simp at rg7); have O7 := Lib.hid o7; have HB7 := Lib.hid b7; clear o7 b7))
          go_wp2
          simp [bodyPost, results, Try.results26, go_sem, *]
          exact ⟨_, by rw [Hr.out], by rw [Hr.out]; exact rowF_mono (rowF_setCell (rowF_setCell (rowF_own O7.out) (fun j hj => by have := O7.out.lt j hj; simp at this; omega)) (fun j hj => by have := O7.out.lt j hj; simp at this; omega)) (by first | omega | (simp; done) | (simp; omega)), (by repeat (first | exact Hcw.out | refine Below.step B5.out (by first | omega | (simp; done) | (simp; omega)) ?_ | refine Below.ext ?_ (by first | omega | (simp; done) | (simp; omega)) | refine Below.setCell ?_ (by first | omega | (simp; done) | (simp; omega)) _ | refine Below.alloc ?_ (by first | omega | (simp; done) | (simp; omega)) _ | refine Below.drew ?_ | refine Below.step HB7.out (by first | omega | (simp; done) | (simp; omega)) ?_))⟩
        · have hr : addF next l who what fault = (addL next l who what fault, next + 1, true) := by unfold addF; rw [ha, ha2]; rfl
          have Hr := Lib.hid hr
          clear hr
          go_wp2
          simp [bodyPost, results, Try.results26, go_sem, *]
          exact ⟨_, by rw [Hr.out], by rw [Hr.out]; exact rowF_mono (rowF_below (rowF_setCell (rowF_setCell HRo.out (fun j hj => by cases hj; show G ≠ _; omega)) (fun j hj => by cases hj; show G ≠ _; omega)) (below_ext _ _ _)) (by omega), (by repeat (first | exact Hcw.out | refine Below.step B5.out (by first | omega | (simp; done) | (simp; omega)) ?_ | refine Below.ext ?_ (by first | omega | (simp; done) | (simp; omega)) | refine Below.setCell ?_ (by first | omega | (simp; done) | (simp; omega)) _))⟩
      · have ha10 : addL next l who what fault = l ++ [(next, who, what, fault)] := by unfold addL; rw [if_neg h10]
        have h10' : ¬ (10 : Int) < (l.length : Int) + 1 := by omega
        go_wp2_with fail
        have hRo : RowF EN W.heap.size wc (.slice (some ⟨G, 0, none⟩) (l.length + 1) c) (addL next l who what fault) := by
          rw [ha10]; exact HRF.out
        have htx : Txt (addL next l who what fault) := by rw [ha10]; exact hx2
        have hlen : (addL next l who what fault).length ≤ 1048576 := by rw [ha10]; simp; omega
        have HRo := Lib.hid hRo
        refine (h2 _ _ _ _ (rowF_sl hRo) hlen htx).mono ?_
        rintro e w6 ⟨rfl, hb6⟩
        clear htx hlen hRo ha10
        obtain ⟨d6, os6, rfl⟩ := ext_of_below hb6
        clear hb6
        cases ha2 : audB (next + 1) (addL next l who what fault)
        · have hr : addF next l who what fault = (l, next, false) := by unfold addF; rw [ha, ha2]; rfl
          have Hr := Lib.hid hr
          clear hr
          go_wp2
          go_region_held3 (fun w' => w'.cell? ⟨w.heap.size, 0, none⟩ = some (.slice A l.length cap) ∧ w'.cell? ⟨w.heap.size, 1, none⟩ = some (.int .i64 next)) (first | (go_simp; done) | fail) (first | (go_at_call 56; refine (cloneN_of _ l _ ?_ ?_).mono ?_; (focus (refine HW.out.below ?_; repeat (first | exact Below.refl _ _ | exact HBw.out | refine Below.ext ?_ (by (first | omega | (simp; done) | (simp; omega))) | refine Below.step B5.out (by (first | omega | (simp; done) | (simp; omega))) ?_ | refine Below.setCell ?_ (by (first | omega | (simp; done) | (simp; omega))) _ | refine Below.alloc ?_ (by (first | omega | (simp; done) | (simp; omega))) _ | refine Below.drew ?_))); (focus (first | omega | (simp; done) | (simp; omega))); rintro e w7 ⟨v7, rfl, o7, b7⟩; obtain ⟨A7, c7, rfl⟩ := ownG_shape o7; obtain ⟨rc7, rf7, hz7⟩ := below_rules b7; (try simp at hz7); obtain ⟨ra7, rb7, rg7, ro7⟩ := own_apart o7; (try simp at rg7); have O7 := Lib.hid o7; have HB7 := Lib.hid b7; clear o7 b7))
          go_wp2
          simp [bodyPost, results, Try.results26, go_sem, *]
          exact ⟨_, by rw [Hr.out], by rw [Hr.out]; exact rowF_mono (rowF_setCell (rowF_setCell (rowF_own O7.out) (fun j hj => by have := O7.out.lt j hj; simp at this; omega)) (fun j hj => by have := O7.out.lt j hj; simp at this; omega)) (by first | omega | (simp; done) | (simp; omega)), (by repeat (first | exact Hcw.out | refine Below.step B5.out (by first | omega | (simp; done) | (simp; omega)) ?_ | refine Below.ext ?_ (by first | omega | (simp; done) | (simp; omega)) | refine Below.setCell ?_ (by first | omega | (simp; done) | (simp; omega)) _ | refine Below.alloc ?_ (by first | omega | (simp; done) | (simp; omega)) _ | refine Below.drew ?_ | refine Below.step HB7.out (by first | omega | (simp; done) | (simp; omega)) ?_))⟩
        · have hr : addF next l who what fault = (addL next l who what fault, next + 1, true) := by unfold addF; rw [ha, ha2]; rfl
          have Hr := Lib.hid hr
          clear hr
          go_wp2
          simp [bodyPost, results, Try.results26, go_sem, *]
          exact ⟨_, by rw [Hr.out], by rw [Hr.out]; exact rowF_mono (rowF_below (rowF_setCell (rowF_setCell HRo.out (fun j hj => by cases hj; show G ≠ _; omega)) (fun j hj => by cases hj; show G ≠ _; omega)) (below_ext _ _ _)) (by omega), (by repeat (first | exact Hcw.out | refine Below.step B5.out (by first | omega | (simp; done) | (simp; omega)) ?_ | refine Below.ext ?_ (by first | omega | (simp; done) | (simp; omega)) | refine Below.setCell ?_ (by first | omega | (simp; done) | (simp; omega)) _))⟩
end Go.Proofs.Ytlanbgpmmlnehaa
