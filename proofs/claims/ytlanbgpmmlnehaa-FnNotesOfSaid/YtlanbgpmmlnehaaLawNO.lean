/- The drawn law on NotesOf: the walk. -/
import Derived.Test.YtlanbgpmmlnehaaDrawN
import Derived.Test.YtlanbgpmmlnehaaNotX
import Derived.Test.YtlanbgpmmlnehaaSameN
set_option linter.unusedSimpArgs false
set_option linter.unusedVariables false
set_option linter.unusedSectionVars false
namespace Go.Proofs.Ytlanbgpmmlnehaa
open Go.RowKit

theorem slG_as {α : Type} {E : Lay α} {w : World} {v : Value} {l m : List α} (h : SlG E w v m) (e : m = l) : SlG E w v l := e ▸ h
theorem keep_mem {l : List T4} {who : Int} {f : Bool} {k : Nat} (hk : k < (l.filter (keepN who f)).length) : keepN who f (nt (l.filter (keepN who f)) k) = true := by
  have : nt (l.filter (keepN who f)) k = (l.filter (keepN who f))[k] := by unfold nt; simp [hk]
  rw [this]
  exact (List.mem_filter.1 (List.getElem_mem hk)).2
theorem keep_asc {next : Int} {l : List T4} {who : Int} {f : Bool} {k : Nat} (h : audB next l = true) (hk : k < (l.filter (keepN who f)).length) (h0 : 0 < k) : (nt (l.filter (keepN who f)) (k - 1)).1 < (nt (l.filter (keepN who f)) k).1 := by
  obtain ⟨_, _, _, hall⟩ := audB_all h
  have hp : l.Pairwise (fun x y => x.1 < y.1) := by
    rw [List.pairwise_iff_getElem]
    intro i j hi hj hij
    have ei : nt l i = l[i] := by unfold nt; simp [hi]
    have ej : nt l j = l[j] := by unfold nt; simp [hj]
    have h1 := hall i hi
    have h2 := hall j hj
    rw [ei] at h1
    rw [ej] at h2
    unfold noteOk at h1 h2
    simp only [Bool.and_eq_true, decide_eq_true_eq] at h1 h2
    omega
  have hq := hp.filter (keepN who f)
  rw [List.pairwise_iff_getElem] at hq
  have := hq (k - 1) k (by omega) hk (by omega)
  have e1 : nt (l.filter (keepN who f)) k = (l.filter (keepN who f))[k] := by unfold nt; simp [hk]
  have e2 : nt (l.filter (keepN who f)) (k - 1) = (l.filter (keepN who f))[k - 1] := by
    have : k - 1 < (l.filter (keepN who f)).length := by omega
    unfold nt; simp [this]
  rw [e1, e2]; exact this
theorem keep_all (l : List T4) : l.filter (keepN (-1) false) = l := by
  rw [List.filter_eq_self]; intro x _; simp [keepN]
theorem keep_less (l : List T4) (who : Int) : (l.filter (keepN who true)).length ≤ (l.filter (keepN who false)).length := by
  induction l with
  | nil => simp
  | cons a r ih =>
    simp only [List.filter_cons]
    cases h1 : keepN who true a <;> cases h2 : keepN who false a
    · simpa using ih
    · simp; omega
    · exfalso
      unfold keepN at h1 h2
      simp at h1 h2
      rcases h1.1 with h | h
      · exact h2.1 h
      · exact h2.2 h
    · simpa using ih
set_option maxRecDepth 100000 in
set_option maxHeartbeats 8000000 in
theorem walkFnNotesOf (a : Option Addr) (len cap : Nat) (zs : List Int) (w : World) (hrow : IsRow .u8 w a len cap zs) :
    Calls Try.prog 8 #[.slice a len cap] w fun e w' => e = .returned (.bool true) ∧ Below w.heap.size w w' := by
  obtain ⟨hl1, hl2⟩ := hrow.len_le
  unfold maxLen at hl2
  by_cases hbig : (1048576 : Int) < (len : Int)
  · go_enter Try.func8, Try.ntmps8
    go_wp2
    go_ret
    exact ⟨rfl, Below.refl _ _⟩
  · go_enter Try.func8, Try.ntmps8
    go_wp2_with fail
    refine (drawNO_any a len cap zs _ hrow).mono ?_
    rintro e w1 ⟨v, l, nx, who, f, rfl, hl, hx, hsl, b1⟩
    have h1 := fun who f w h => notesI_of v nx l who f w h hx
    have h2 := fun w h => notesS_of v nx l who f w h hx (by omega)
    have hv := fun w h => auditValidI_of v nx l w (sl4_of h) hx
    have hms := notes_short nx l who f
    obtain ⟨m, hm⟩ : ∃ m, m = notesF nx l who f := ⟨_, rfl⟩
    have hmi := h1 who f
    rw [← hm] at hms h2 hmi
    have Hm := Lib.hid hm
    have H1 := Lib.hid h1
    have H2 := Lib.hid h2
    have Hv := Lib.hid hv
    have Hmi := Lib.hid hmi
    have Hsl := Lib.hid hsl
    obtain ⟨A, c, rfl⟩ := hsl.shape
    have hz1 := b1.size
    have B1 := Lib.hid b1
    clear h1 h2 hv hm hmi hsl b1
    go_wp2_with fail
    refine (Hmi.out _ (Hsl.out.below (by (repeat (first | exact Below.refl _ _ | exact Hbl.out | refine Below.ext ?_ (by first | omega | (simp; omega) | simp) | refine Below.setCell ?_ (by first | omega | (simp; omega) | simp) _ | refine Below.alloc ?_ (by first | omega | (simp; omega) | simp) _ | refine Below.drew ?_ | refine below_drewN ?_ _ | refine Below.step (by assumption) (by first | omega | (simp; omega) | simp) ?_))))).mono ?_
    rintro e w2 ⟨v2, rfl, hr2, b2⟩
    have p0 : w2.cell? ⟨w1.heap.size, 0, none⟩ = some (.slice A l.length c) := (b2.cell (p := ⟨w1.heap.size, 0, none⟩) (by simp)).trans (by go_simp)
    have p1 : w2.cell? ⟨w1.heap.size, 1, none⟩ = some (.int .i64 nx) := (b2.cell (p := ⟨w1.heap.size, 1, none⟩) (by simp)).trans (by go_simp)
    have hz2 : w1.heap.size < w2.heap.size := by have := b2.size; simp at this; omega
    have c2 : Below w1.heap.size w1 w2 := Below.step b2 (by simp) (by (repeat (first | exact Below.refl _ _ | exact Hbl.out | refine Below.ext ?_ (by first | omega | (simp; omega) | simp) | refine Below.setCell ?_ (by first | omega | (simp; omega) | simp) _ | refine Below.alloc ?_ (by first | omega | (simp; omega) | simp) _ | refine Below.drew ?_ | refine below_drewN ?_ _ | refine Below.step (by assumption) (by first | omega | (simp; omega) | simp) ?_)))
    have R2 := Lib.hid (rowF_sl hr2)
    have S2 := Lib.hid (Hsl.out.below c2)
    have C2 := Lib.hid c2
    obtain ⟨A2, k2, rfl⟩ := rowF_shape hr2
    have hk2 := (rowF_sl hr2).caps
    have hk3 := hk2.1
    have hk4 := hk2.2
    clear b2 c2 hr2 hk2
    go_wp2_with fail
    refine (H2.out _ S2.out).mono ?_
    rintro e w3 ⟨v3, rfl, ho3, b3⟩
    have hr3 := rowF_own ho3
    have q0 : w3.cell? ⟨w1.heap.size, 0, none⟩ = some (.slice A l.length c) := (b3.cell (p := ⟨w1.heap.size, 0, none⟩) (by simp; omega)).trans p0
    have q1 : w3.cell? ⟨w1.heap.size, 1, none⟩ = some (.int .i64 nx) := (b3.cell (p := ⟨w1.heap.size, 1, none⟩) (by simp; omega)).trans p1
    have hz3 : w1.heap.size < w3.heap.size := by have := b3.size; omega
    have R2' := Lib.hid (R2.out.below b3)
    have S3 := Lib.hid (S2.out.below b3)
    have C3 := Lib.hid (Below.step b3 (Nat.le_of_lt hz2) C2.out)
    have R3 := Lib.hid (rowF_sl hr3)
    obtain ⟨A3, k3, rfl⟩ := rowF_shape hr3
    clear b3 ho3 hr3 p0 p1 R2 S2 C2
    go_wp2_with fail
    refine (sameNotes_eq _ _ m _ R2'.out R3.out hms).mono ?_
    rintro e w4 ⟨rfl, n4, rfl⟩
    clear R3
    go_wp2_with fail
    refine (Hv.out _ (S3.out.below (by (repeat (first | exact Below.refl _ _ | exact Hbl.out | refine Below.ext ?_ (by first | omega | (simp; omega) | simp) | refine Below.setCell ?_ (by first | omega | (simp; omega) | simp) _ | refine Below.alloc ?_ (by first | omega | (simp; omega) | simp) _ | refine Below.drew ?_ | refine below_drewN ?_ _ | refine Below.step (by assumption) (by first | omega | (simp; omega) | simp) ?_))))).mono ?_
    rintro e w5 ⟨rfl, hb5⟩
    obtain ⟨d5, os5, rfl⟩ := ext_of_below hb5
    clear hb5
    cases ha : audB nx l
    · have hm0 : m = [] := by rw [Hm.out]; unfold notesF; rw [ha]; rfl
      subst hm0
      go_wp2_with fail
      refine (alive_any _).mono ?_
      rintro e w' ⟨rfl, rfl⟩
      go_wp2
      go_ret
      exact ⟨rfl, Below.step (show Below w3.heap.size w3 _ from (by (repeat (first | exact Below.refl _ _ | exact Hbl.out | refine Below.ext ?_ (by first | omega | (simp; omega) | simp) | refine Below.setCell ?_ (by first | omega | (simp; omega) | simp) _ | refine Below.alloc ?_ (by first | omega | (simp; omega) | simp) _ | refine Below.drew ?_ | refine below_drewN ?_ _ | refine Below.step (by assumption) (by first | omega | (simp; omega) | simp) ?_)))) (by omega) (Below.step C3.out hz1 B1.out)⟩
    · have hmf : m = l.filter (keepN who f) := by rw [Hm.out]; unfold notesF; rw [ha]; rfl
      have hkm : ∀ k, k < m.length → keepN who f (nt m k) = true := by rw [hmf]; intro k hk; exact keep_mem hk
      have hka : ∀ k, k < m.length → 0 < k → (nt m (k - 1)).1 < (nt m k).1 := by rw [hmf]; intro k hk h0; exact keep_asc ha hk h0
      have hN : ∀ who f, notesF nx l who f = l.filter (keepN who f) := fun who f => by unfold notesF; rw [ha]; rfl
      have Hkm := Lib.hid hkm
      have Hka := Lib.hid hka
      have HN := Lib.hid hN
      have bW : Below w3.heap.size w3 (ext (w3.drewN n4) d5 os5) := (by (repeat (first | exact Below.refl _ _ | exact Hbl.out | refine Below.ext ?_ (by first | omega | (simp; omega) | simp) | refine Below.setCell ?_ (by first | omega | (simp; omega) | simp) _ | refine Below.alloc ?_ (by first | omega | (simp; omega) | simp) _ | refine Below.drew ?_ | refine below_drewN ?_ _ | refine Below.step (by assumption) (by first | omega | (simp; omega) | simp) ?_)))
      clear hmf hkm hka hN
      go_wp2
      generalize ext (w3.drewN n4) d5 os5 = W at bW ⊢
      have q0' : W.cell? ⟨w1.heap.size, 0, none⟩ = some (.slice A l.length c) := (bW.cell (p := ⟨w1.heap.size, 0, none⟩) hz3).trans q0
      have q1' : W.cell? ⟨w1.heap.size, 1, none⟩ = some (.int .i64 nx) := (bW.cell (p := ⟨w1.heap.size, 1, none⟩) hz3).trans q1
      have hzW : w1.heap.size < W.heap.size := Nat.lt_of_lt_of_le hz3 bW.size
      have RW := Lib.hid (R2'.out.below bW)
      have SW := Lib.hid (S3.out.below bW)
      have CW := Lib.hid (Below.step bW (by omega) (Below.step C3.out hz1 B1.out))
      clear bW R2' S3 C3 B1 q0 q1 hz3
      go_loopw [7] (fun i wr => ∃ k n : Nat, k ≤ m.length ∧ i = .int .i64 k ∧ wr = W.drewN n) (fun i _ => m.length - (intOf i).toNat)
      case atStart => exact ⟨0, 0, Nat.zero_le _, rfl, rfl⟩
      case round =>
        obtain ⟨k, n, hk, rfl, rfl⟩ := hrel
        by_cases hlt : k < m.length
        · obtain ⟨b1, o1, rfl, hb1, h1⟩ := RW.out.at_ (nt_at hlt)
          have e0 : W.cell? ⟨b1, o1 + k * 4, none⟩ = some (.int .i64 (nt m k).1) := h1 0 _ rfl
          have e1 : W.cell? ⟨b1, o1 + k * 4 + 1, none⟩ = some (.int .i64 (nt m k).2.1) := h1 1 _ rfl
          have e3 : W.cell? ⟨b1, o1 + k * 4 + 3, none⟩ = some (.int .i64 (nt m k).2.2.2) := h1 3 _ rfl
          have hkp := Hkm.out k hlt
          unfold keepN at hkp
          have hk1 : who = -1 ∨ (¬ who = -1 ∧ (nt m k).2.1 = who) := by
            by_cases h : who = -1
            · exact .inl h
            · simp [h] at hkp; exact .inr ⟨h, hkp.1⟩
          have hk2 : f = false ∨ (f = true ∧ ¬ (nt m k).2.2.2 = 0) := by
            cases f
            · exact .inl rfl
            · simp at hkp; exact .inr ⟨rfl, hkp.2⟩
          clear hkp h1
          by_cases hk0 : k = 0
          · have k0d : decide (0 < k) = false := decide_eq_false (by omega)
            have k0' : decide ((0 : Int) < (k : Int)) = false := decide_eq_false (by omega)
            have Hk0 := Lib.hid hk0
            clear hk0
            rcases hk1 with rfl | ⟨hw1, hw2⟩ <;> rcases hk2 with rfl | ⟨rfl, hf2⟩
            all_goals
              (try (rw [hw2] at e1; have hw1a : (who == -1) = false := beq_eq_false_iff_ne.2 hw1; have hw1b : decide (who = -1) = false := decide_eq_false hw1; have hw1c : (who != -1) = true := by simp [hw1]))
              (try (have hf2a : ((nt m k).2.2.2 == 0) = false := beq_eq_false_iff_ne.2 hf2; have hf2b : decide ((nt m k).2.2.2 = 0) = false := decide_eq_false hf2))
              go_wp2_with fail
              go_quiet (fail)
              go_wp2_with fail
              go_roundw
              case rel => exact ⟨k + 1, _, hlt, by go_num, by first | rfl | simp [World.drewN]⟩
              case measure => simp [intOf]; omega
          · have hasc := Hka.out k hlt (by omega)
            have hasc' : ¬ (nt m k).1 ≤ (nt m (k - 1)).1 := by omega
            obtain ⟨b2, o2, ee, hb2, h2⟩ := RW.out.at_ (nt_at (show k - 1 < m.length by omega))
            cases ee
            have d0 : W.cell? ⟨b1, o1 + (k - 1) * 4, none⟩ = some (.int .i64 (nt m (k - 1)).1) := h2 0 _ rfl
            have zk : IntKind.i64.wrap ((k : Int) - 1) = ((k - 1 : Nat) : Int) := by rw [IntWalk.i64_in _ (by omega)]; omega
            have k0n : 0 < k := by omega
            have k0d : decide (0 < k) = true := decide_eq_true k0n
            have k0' : decide ((0 : Int) < (k : Int)) = true := decide_eq_true (by omega)
            have zk0 : (0 : Int) ≤ ((k - 1 : Nat) : Int) := by omega
            have zk1 : ((k - 1 : Nat) : Int) < (m.length : Int) := by omega
            clear h2 hasc hk0
            rcases hk1 with rfl | ⟨hw1, hw2⟩ <;> rcases hk2 with rfl | ⟨rfl, hf2⟩
            all_goals
              (try (rw [hw2] at e1; have hw1a : (who == -1) = false := beq_eq_false_iff_ne.2 hw1; have hw1b : decide (who = -1) = false := decide_eq_false hw1; have hw1c : (who != -1) = true := by simp [hw1]))
              (try (have hf2a : ((nt m k).2.2.2 == 0) = false := beq_eq_false_iff_ne.2 hf2; have hf2b : decide ((nt m k).2.2.2 = 0) = false := decide_eq_false hf2))
              go_wp2_with fail
              go_quiet (fail)
              go_wp2_with fail
              go_roundw
              case rel => exact ⟨k + 1, _, hlt, by go_num, by first | rfl | simp [World.drewN]⟩
              case measure => simp [intOf]; omega
        · have hk' : k = m.length := by omega
          have e1 : notesF nx l (-1) false = l := by rw [HN.out, keep_all]
          have e2 : ((notesF nx l who true).length : Int) ≤ ((notesF nx l who false).length : Int) := by rw [HN.out, HN.out]; have := keep_less l who; omega
          have E1 := Lib.hid e1
          have bV : Below W.heap.size W (W.drewN n) := below_drewN (Below.refl _ _) _
          clear e1 hk'
          go_wp2_with fail
          generalize W.drewN n = V at bV ⊢
          have v0 : V.cell? ⟨w1.heap.size, 0, none⟩ = some (.slice A l.length c) := (bV.cell (p := ⟨w1.heap.size, 0, none⟩) hzW).trans q0'
          have v1 : V.cell? ⟨w1.heap.size, 1, none⟩ = some (.int .i64 nx) := (bV.cell (p := ⟨w1.heap.size, 1, none⟩) hzW).trans q1'
          have hzV : w1.heap.size < V.heap.size := Nat.lt_of_lt_of_le hzW bV.size
          have SV := Lib.hid (SW.out.below bV)
          have CV := Lib.hid (Below.step bV CW.out.size CW.out)
          clear bV q0' q1' SW CW RW
          go_region_held3 (fun w' => w'.cell? ⟨w1.heap.size, 0, none⟩ = some (.slice A l.length c) ∧ w'.cell? ⟨w1.heap.size, 1, none⟩ = some (.int .i64 nx)) (first | assumption | (go_simp; done) | fail) (first | (go_at_call 30; refine (H1.out _ _ _ ?_).mono ?_; (focus (exact SV.out.below (by (repeat (first | exact Below.refl _ _ | exact Hbl.out | refine Below.ext ?_ (by first | omega | (simp; omega) | simp) | refine Below.setCell ?_ (by first | omega | (simp; omega) | simp) _ | refine Below.alloc ?_ (by first | omega | (simp; omega) | simp) _ | refine Below.drew ?_ | refine below_drewN ?_ _ | refine Below.step (by assumption) (by first | omega | (simp; omega) | simp) ?_))))); rintro e w' ⟨v5, rfl, hr5, b5⟩; have R5 := Lib.hid (rowF_sl hr5); obtain ⟨A5, c5, rfl⟩ := rowF_shape hr5; clear hr5; obtain ⟨d5, os5, rfl⟩ := ext_of_below b5; clear b5) | (go_at_call 28; refine (sameNotes_eq _ _ l _ ?_ ?_ ?_).mono ?_; (focus (exact slG_as (R5.out.below (by (repeat (first | exact Below.refl _ _ | exact Hbl.out | refine Below.ext ?_ (by first | omega | (simp; omega) | simp) | refine Below.setCell ?_ (by first | omega | (simp; omega) | simp) _ | refine Below.alloc ?_ (by first | omega | (simp; omega) | simp) _ | refine Below.drew ?_ | refine below_drewN ?_ _ | refine Below.step (by assumption) (by first | omega | (simp; omega) | simp) ?_)))) E1.out)); (focus (exact SV.out.below (by (repeat (first | exact Below.refl _ _ | exact Hbl.out | refine Below.ext ?_ (by first | omega | (simp; omega) | simp) | refine Below.setCell ?_ (by first | omega | (simp; omega) | simp) _ | refine Below.alloc ?_ (by first | omega | (simp; omega) | simp) _ | refine Below.drew ?_ | refine below_drewN ?_ _ | refine Below.step (by assumption) (by first | omega | (simp; omega) | simp) ?_))))); (focus omega); rintro e w6 ⟨rfl, n6, rfl⟩))
          all_goals
            go_wp2_with fail
            go_ret
            exact ⟨rfl, Below.step (show Below V.heap.size V _ from (by (repeat (first | exact Below.refl _ _ | exact Hbl.out | refine Below.ext ?_ (by first | omega | (simp; omega) | simp) | refine Below.setCell ?_ (by first | omega | (simp; omega) | simp) _ | refine Below.alloc ?_ (by first | omega | (simp; omega) | simp) _ | refine Below.drew ?_ | refine below_drewN ?_ _ | refine Below.step (by assumption) (by first | omega | (simp; omega) | simp) ?_)))) CV.out.size CV.out⟩
end Go.Proofs.Ytlanbgpmmlnehaa
