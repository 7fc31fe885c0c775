/- Quotas: what is drawn. -/
import Derived.Test.YthcmecgmidopoaaOvP
import Derived.Test.YthcmecgmidopoaaMG
import Derived.Test.YthcmecgmidopoaaDrawC
import Derived.Test.YthcmecgmidopoaaSel12
import Derived.Deep.RegionHeld3
set_option linter.unusedSimpArgs false
set_option linter.unusedVariables false
set_option linter.unusedSectionVars false
namespace Go.Proofs.Ythcmecgmidopoaa
open Go.RowKit

theorem fitQ : Fit Try.prog EQ 45 51 :=
  ⟨Try.underlying45, by
    have h : (Try.prog.info? 51).map (fun i => (i.zero, i.size, i.bytes)) = some (some (.agg #[.int .i64 0, .int .i64 0, .int .i64 0]), 3, 24) := by kernel_rfl
    obtain ⟨i, h1, h2, h3, h4⟩ := info_partsI h
    exact ⟨i, _, _, h1, h2, h3, h4, rfl, by decide⟩⟩
theorem slG_two {α : Type} {E : Lay α} {W : World} {g : Nat} {x y : α} (hg : g < W.heap.size) (h : ∀ j u, (E.put x)[j]? = some u → W.cell? ⟨g, j, none⟩ = some u) (h2 : ∀ j u, (E.put y)[j]? = some u → W.cell? ⟨g, E.z + j, none⟩ = some u) : SlG E W (.slice (some ⟨g, 0, none⟩) 2 2) [x, y] :=
  ⟨_, 2, rfl, Nat.le_refl _, by decide, .inr ⟨g, 0, rfl, hg, fun i z hz j u hu => by
    rcases i with _ | _ | i
    · simp at hz; subst hz
      simpa using h j u hu
    · simp at hz; subst hz
      simpa using h2 j u hu
    · simp at hz⟩⟩
def usr : List Int := [0, 5, 6, 7]
/-- Quotas are drawn: at most m. -/
def DrewQ (w : World) (R : Nat) (p k : Int) (m : Nat) (e : Ending) (w' : World) : Prop :=
  ∃ (v : Value) (l : List Q3) (q : Int), e = .returned v ∧ p ≤ q ∧ q ≤ p + k ∧ l.length ≤ m ∧ RB w R q w' ∧ OwnG EQ 51 w.heap.size w' v l
theorem four_row (W : World) {B : Nat} (hB : B ≤ W.heap.size) : OwnG EI 3 B (W.alloc (.cells #[.int .i64 0, .int .i64 5, .int .i64 6, .int .i64 7] 3)) (.slice (some ⟨W.heap.size, 0, none⟩) 4 4) usr :=
  ⟨rfl, .inr ⟨W.heap.size, 4, #[.int .i64 0, .int .i64 5, .int .i64 6, .int .i64 7], rfl, hB, heap_alloc_new W _, Nat.le_refl _, by decide, rfl, rfl⟩⟩
theorem RB.app {w W w' : World} {R : Nat} {q : Int} (h : RB w R q W) (hb : Below w.heap.size W w') : RB w R q w' := by
  unfold RB at *
  rw [size_setCell] at *
  exact Below.trans h hb
theorem rd_pick {w : World} {R d : Nat} {p q : Int} {os : Array Obj} (h : Rd w R p) (hq : 0 ≤ q) : Rd (ext (w.setCell ⟨R, 1, none⟩ (.int .i64 q)) d os) R q := Rd.ext (Rd.set h hq)
theorem own_pick2 {α : Type} {E : Lay α} {T : TypeId} {l : List α} {B R i d : Nat} {w : World} {u v : Value} {o o' : Obj} {os : Array Obj} (h : OwnG E T B w v l) (hR : R < B) : OwnG E T B (ext (((w.setCell ⟨R, i, none⟩ u).alloc o).alloc o') d os) v l := ownG_ext (ownG_alloc (ownG_alloc (own_rset h hR) _) _)
theorem own_pick1 {α : Type} {E : Lay α} {T : TypeId} {l : List α} {B R i d : Nat} {w : World} {u v : Value} {o : Obj} {os : Array Obj} (h : OwnG E T B w v l) (hR : R < B) : OwnG E T B (ext ((w.setCell ⟨R, i, none⟩ u).alloc o) d os) v l := ownG_ext (ownG_alloc (own_rset h hR) _)
theorem RB.tail {w W w' : World} {R : Nat} {q q' : Int} (h : RB w R q W) (h' : RB W R q' w') (hR : R < w.heap.size) : RB w R q' w' := RB.step (RB.rset h hR) (by unfold RB at h'; exact h')
theorem usr_at {k : Nat} (h : k < 4) : ∃ u, usr[k]? = some u := ⟨_, List.getElem?_eq_getElem (by simpa [usr] using h)⟩
theorem usr_cell {B G k : Nat} {W : World} {u : Int} (h : OwnG EI 3 B W (.slice (some ⟨G, 0, none⟩) 4 4) usr) (hu : usr[k]? = some u) : W.cell? ⟨G, k, none⟩ = some (.int .i64 u) := by
  obtain ⟨b, off, e, hb, q⟩ := (ownG_sl h).at_ hu
  cases e
  have := q 0 _ rfl
  simpa [EI] using this
set_option maxRecDepth 100000 in
set_option maxHeartbeats 8000000 in
theorem l20Quotas_any (R : Nat) (p n : Int) (w : World) (hr : Rd w R p) (hp : p ≤ 1000000000) (hn : 1 ≤ n) (hn' : n ≤ 1000) : Calls Try.prog 51 #[.pointer (some ⟨R, 0, none⟩), .int .i64 n] w (DrewQ w R p 20 6) := by
  have hR := hr.lt
  have hp0 := hr.pos
  have HR := Lib.hid hr
  go_enter Try.func51, Try.ntmps51
  go_wp2
  go_loopw [5, 7] (fun o i wr => ∃ (k : Nat) (l : List Q3) (q : Int), i = .int .i64 k ∧ k ≤ 4 ∧ l.length ≤ k ∧ p ≤ q ∧ q ≤ p + 3 * k ∧ RB w R q wr ∧ OwnG EI 3 w.heap.size wr (.slice (some ⟨w.heap.size + 1, 0, none⟩) 4 4) usr ∧ OwnG EQ 51 w.heap.size wr o l) (fun _ i _ => (4 - intOf i).toNat)
  case atStart =>
    refine ⟨0, [], p, rfl, by omega, by simp, by omega, by omega, ?_, ?_, ?_⟩
    · exact RB.self hr (Below.alloc (Below.alloc (Below.refl _ _) (Nat.le_refl _) _) (by simp) _)
    · have := four_row (w.alloc (.cells #[] 51)) (B := w.heap.size) (by simp)
      rw [World.size_alloc] at this
      exact this
    · exact ownG_alloc (ownG_empty _ rfl (Nat.le_refl _)) _
  case round =>
    obtain ⟨k, l, q, rfl, hk, hl, q1, q2, hRr, hus, hown⟩ := hrel
    obtain ⟨G, hG⟩ : ∃ G, G = w.heap.size + 1 := ⟨_, rfl⟩
    rw [← hG] at hus ⊢
    obtain ⟨A, cap, rfl⟩ := ownG_shape hown
    have hsep := ownG_type hus hown (by decide)
    have hGl := (ownG_block hus G rfl)
    have hr1 := RB.rd hRr HR.out (by omega)
    have HX := Lib.hid hRr
    have Hown := Lib.hid hown
    have Hus := Lib.hid hus
    have hRG : R < G := by omega
    have Hsep := Lib.hid hsep
    by_cases hlt : k < 4
    · have hlt' : (k : Int) < 4 := by omega
      have zk : IntKind.i64.wrap ((k : Int) + 1) = (k : Int) + 1 := IntWalk.i64_in _ (by omega)
      obtain ⟨u, hu⟩ := usr_at hlt
      have c0 := usr_cell hus hu
      have Hu := Lib.hid hu
      clear hown hus hsep hRr hu hG
      (go_wp2_with fail); refine (pick_any _ ?_ _ _ ?_ ?_).mono ?_; rotate_left; (focus ((repeat (first | assumption | refine Rd.ext ?_ | refine Rd.drew ?_ | refine Rd.drewN ?_ | refine Rd.set (by assumption) ?_ | refine Rd.lit (by assumption) (by simp) ?_ | refine Rd.alloc ?_ _ | omega)))); (focus omega); rintro e w' ⟨a, da, rfl, la, ha, h2, rfl⟩; replace ha := ha (by omega); clear h2
      by_cases ha0 : a = 0
      · subst ha0
        go_wp2_with fail
        go_region_held3 (fun w' => w'.cell? ⟨G, k, none⟩ = some (.int .i64 u)) (first | (with_reducible assumption) | (go_simp; done) | fail) (first | (go_at_call 48; refine (pick_any R _ _ _ (rd_pick hr1 (by omega)) (by omega)).mono ?_; first | (have hd12 := d5; rintro e w' ⟨x12, d12, rfl, l12, h12, h2, rfl⟩; replace h12 := h12 (by omega); clear h2 hd12) | (rintro e w' ⟨x5, d5, rfl, l5, h5, h2, rfl⟩; replace h5 := h5 (by omega); clear h2)) | (refine step_appG fitQ _ rfl (.tmp 17) (.tmp 27) rfl w.heap.size (.slice A l.length cap) l rfl ?_ _ [(u, x5, x12)] rfl ?_ ?_ ?_ ?_; (focus (exact own_pick1 Hown.out hR)); (focus (refine slG_one ?_ ?_; (focus (first | omega | (simp; done) | (simp; omega))); (focus (intro j z hz; rcases j with _ | _ | _ | j <;> simp [EQ] at hz <;> subst hz <;> go_simp)))); (focus (simp; omega)); (focus (first | omega | (simp; done) | (simp; omega))); rintro v4 w4 ⟨o4, g4, a4⟩ hb4; have ou := ownG_kept (own_pick1 Hus.out hR) g4 Hsep.out; have cx := usr_cell ou Hu.out))
        all_goals
          have HB4 := Lib.hid (RB.app (RB.step (RB.step (RB.rset (q' := q + 1 + 1 + 1) HX.out hR) (Below.alloc (Below.refl _ _) (Nat.le_refl _) _)) (below_ext _ _ _)) hb4)
          have O4 := Lib.hid o4
          have OU := Lib.hid ou
          clear o4 ou g4 a4 hb4 cx
          go_wp2_with fail
          exact ⟨⟨k + 1, _, q + 1 + 1 + 1, by go_num, by omega, by simp; omega, by omega, by omega, HB4.out, OU.out, O4.out⟩, by simp [intOf]; omega⟩
      · have ha1 : (a == 0) = false := beq_eq_false_iff_ne.2 ha0
        go_wp2_with fail
        exact ⟨⟨k + 1, l, q + 1, by go_num, by omega, by omega, by omega, by omega, RB.pick HX.out hR, own_pick Hus.out hR, own_pick Hown.out hR⟩, by simp [intOf]; omega⟩
    · obtain rfl : k = 4 := by omega
      clear hown hus hsep hRr
      go_wp2_with (go_at_call 65; refine (odd_any _ ?_ _ _ ?_ ?_ ?_ ?_).mono ?_; rotate_left; (focus ((repeat (first | assumption | refine Rd.ext ?_ | refine Rd.drew ?_ | refine Rd.drewN ?_ | refine Rd.set (by assumption) ?_ | refine Rd.lit (by assumption) (by simp) ?_ | refine Rd.alloc ?_ _ | omega)))); (focus omega); (focus omega); (focus omega); rintro e w' ⟨b, d, rfl, rfl⟩)
      · refine (pick_any _ ?_ _ _ ?_ ?_).mono ?_; rotate_left; (focus ((repeat (first | assumption | refine Rd.ext ?_ | refine Rd.drew ?_ | refine Rd.drewN ?_ | refine Rd.set (by assumption) ?_ | refine Rd.lit (by assumption) (by simp) ?_ | refine Rd.alloc ?_ _ | omega)))); (focus omega); rintro e w' ⟨z, dz, rfl, lz, hz, h2, rfl⟩; replace hz := hz (by omega); clear h2
        go_wp2_with (at_builtin; refine wpList_appG fitQ _ rfl (.tmp 32) (.tmp 43) rfl w.heap.size (.slice A l.length cap) l rfl ?cO _ [(selN z [7, 100, 9, 9], selN z [0, 0, 17, 0], selN z [0, 0, 0, -1]), (7, 0, 0)] rfl ?cS ?cL ?cB ?_)
        case cO => exact own_pick2 Hown.out hR
        case cS => exact slG_two (by simp) (by
          intro j z hz
          rcases j with _ | _ | _ | j <;> simp [EQ] at hz <;> subst hz <;> go_simp) (by
          intro j z hz
          rcases j with _ | _ | _ | j <;> simp [EQ] at hz <;> subst hz <;> simp only [EQ] <;> go_simp)
        case cL => simp; omega
        case cB => simp; omega
        intro v4 w4 ⟨o4, g4, a4⟩ hb4
        have O4 := Lib.hid o4
        clear o4 g4 a4
        go_wp2
        go_ret
        exact ⟨_, _, q + 1 + 1, rfl, by omega, by omega, by simp; omega, RB.app (RB.step (RB.step (RB.step (RB.rset HX.out hR) (Below.alloc (Below.refl _ _) (Nat.le_refl _) _)) (Below.alloc (Below.refl _ _) (Nat.le_refl _) _)) (below_ext _ _ _)) hb4, O4.out⟩
      · go_wp2
        go_ret
        exact ⟨_, l, q + 1, rfl, by omega, by omega, by omega, RB.pick HX.out hR, own_pick Hown.out hR⟩
end Go.Proofs.Ythcmecgmidopoaa
