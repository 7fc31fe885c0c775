/- Limits: 'used', 'ChargeGroup' and 'FreeGroup' of the program. -/
import Derived.Test.YtffppecflamcgaaUse
import Derived.Test.YtffppecflamcgaaRoomI
set_option linter.unusedSimpArgs false
set_option linter.unusedVariables false
set_option linter.unusedSectionVars false
namespace Go.Proofs.Ytffppecflamcgaa
open Go.RowKit

set_option maxHeartbeats 2000000 in
theorem usedI_of (v : Value) (l : List T3) (n d : Int) (w : World) (h0 : Sl3 w v l) (hok : limB l = true) (n1 : -1 ≤ n) (n2 : n < (l.length : Int)) (d1 : -9223372036854775807 ≤ d) (d2 : d ≤ 10000) : Calls Try.prog 38 #[v, .int .i64 n, .int .i64 d] w fun e w' => ∃ v', e = .returned v' ∧ Own w.heap.size w' v' (chgL l n d) ∧ Below w.heap.size w w' := by
  have h0' := h0
  obtain ⟨A, cap, rfl, h1, h2, h3⟩ := h0'
  unfold maxLen at h2
  have HA := Lib.hid h3; clear h3
  obtain ⟨h8, hall, _⟩ := limB_all hok
  have Hall := Lib.hid hall; clear hall
  go_enter Try.func38, Try.ntmps38
  go_wp2_with fail
  refine (clone_of _ l _ h0 (by omega)).mono ?_
  rintro e w1 ⟨v1, rfl, o1, b1⟩
  obtain ⟨A1, c1, rfl⟩ := own_shape o1
  have H1 := Lib.hid o1; clear o1
  have B1 := Lib.hid b1; clear b1
  go_wp2
  go_loopw [1] (fun i wr => ∃ (m : Int) (g : Nat), -1 ≤ m ∧ m < (l.length : Int) ∧ m < g ∧ i = .int .i64 m ∧ (∃ f, (∀ i : Nat, (i : Int) ≤ m → f i = ti l i) ∧ upF l d g m f = upF l d l.length n (ti l) ∧ wr.ownsRow w.heap.size 34 3 (.slice A1 l.length c1) l.length (row3 l.length f)) ∧ Below w.heap.size w wr) (fun i _ => (intOf i + 1).toNat)
  case atStart => exact ⟨n, l.length, by omega, by omega, by omega, rfl, ⟨ti l, fun _ _ => rfl, rfl, H1.out⟩, B1.out⟩
  case round =>
    obtain ⟨m, g, m1, m2, m3, rfl, ⟨f, hf, hup, hown⟩, hbl⟩ := hrel
    have Hup := Lib.hid hup; clear hup
    have Hf := Lib.hid hf; clear hf
    by_cases hm0 : 0 ≤ m
    · obtain ⟨k, rfl⟩ := Int.eq_ofNat_of_zero_le hm0
      have hlt : k < l.length := by omega
      obtain ⟨b, off, rfl, hb, hcs⟩ := HA.out.resolve_left (fun e => by subst e; simp at hlt)
      obtain ⟨e1, e2, e3⟩ := (hcs.below hb hbl) k hlt
      clear hcs
      obtain ⟨q, rfl, q1, q2⟩ : ∃ q, A1 = some ⟨q, 0, none⟩ ∧ w.heap.size ≤ q ∧ q < wr.heap.size := by
        rcases hown.2 with ⟨e, h'⟩ | ⟨q, c, cur, e, hB, hg, _⟩
        · omega
        · have hq := hown.lt q (by rw [e]; rfl)
          cases e
          exact ⟨q, rfl, hq.1, hq.2⟩
      have x2 : wr.cell? ⟨q, k * 3 + 2, none⟩ = some (.int .i64 (ti l k).2.2) := by rw [hown.cellAt _ (by omega), row3_at (by omega), show (k * 3 + 2) / 3 = k from by omega, show (k * 3 + 2) % 3 = 2 from by omega, Hf.out k (by omega)]; rfl
      have y2 : wr.frozen? ⟨q, k * 3 + 2, none⟩ = false := hown.frozenAt _
      have Hown := Lib.hid hown; clear hown
      have Hbl := Lib.hid hbl; clear hbl
      obtain ⟨⟨a1, a2⟩, ⟨a3, a4⟩, ⟨a5, a6⟩⟩ := limOk_iff.1 (Hall.out k hlt)
      obtain ⟨g, rfl⟩ : ∃ g', g = g' + 1 := ⟨g - 1, by omega⟩
      have hst := Hup.out
      rw [upF_step] at hst
      have Hst := Lib.hid hst; clear hst
      have z2 : IntKind.i64.wrap ((ti l k).2.2 + d) = (ti l k).2.2 + d := IntWalk.i64_in _ (by omega)
      go_wp2
      refine ⟨⟨_, g, ?_, ?_, ?_, rfl, ⟨addUse d k f, ?_, Hst.out, ?_⟩, ?_⟩, ?_⟩
      · omega
      · omega
      · omega
      · intro i hi
        unfold addUse upd
        rw [if_neg (by omega)]
        exact Hf.out i (by omega)
      · have s := (Hown.out.stored (k * 3 + 2) (.int .i64 ((ti l k).2.2 + d))).1
        rw [row3_set1 hlt] at s
        have ek : f k = ti l k := Hf.out k (by omega)
        rw [show addUse d k f = upd f k ((f k).1, (f k).2.1, (ti l k).2.2 + d) from by unfold addUse; rw [ek]]
        exact s
      · (repeat (first | exact Below.refl _ _ | exact Hbl.out | refine Below.ext ?_ (by first | omega | (simp; omega) | simp) | refine Below.setCell ?_ (by first | omega | (simp; omega) | simp) _ | refine Below.alloc ?_ (by first | omega | (simp; omega) | simp) _ | refine Below.drew ?_ | refine below_drewN ?_ _ | refine Below.step (by assumption) (by first | omega | (simp; omega) | simp) ?_))
      · show ((ti l k).1 + 1).toNat < ((k : Int) + 1).toNat
        omega
    · have hm1 : m = -1 := by omega
      have hfin := Hup.out
      rw [upF_neg l (by omega)] at hfin
      have Hfin := Lib.hid hfin; clear hfin
      have Hbl := Lib.hid hbl; clear hbl
      have Hown := Lib.hid hown; clear hown
      clear hm1
      go_wp2
      go_ret
      refine ⟨_, rfl, ?_, (by (repeat (first | exact Below.refl _ _ | exact Hbl.out | refine Below.ext ?_ (by first | omega | (simp; omega) | simp) | refine Below.setCell ?_ (by first | omega | (simp; omega) | simp) _ | refine Below.alloc ?_ (by first | omega | (simp; omega) | simp) _ | refine Below.drew ?_ | refine below_drewN ?_ _ | refine Below.step (by assumption) (by first | omega | (simp; omega) | simp) ?_)))⟩
      have hr := Hown.out
      rw [Hfin.out] at hr
      exact own_of hr (chgL_len l n d) (fun i hi => (chgL_at hi).symm)

set_option maxHeartbeats 2000000 in
theorem chargeI_of (v : Value) (l : List T3) (n d : Int) (w : World) (h0 : Sl3 w v l) : Calls Try.prog 26 #[v, .int .i64 n, .int .i64 d] w fun e w' => ∃ v', e = .returned (.tuple #[v', .bool (chargeF l n d).2]) ∧ Own w.heap.size w' v' (chargeF l n d).1 ∧ Below w.heap.size w w' := by
  by_cases r0 : roomF l n < 0
  · rw [chargeF_no (.inl r0)]
    go_enter Try.func26, Try.ntmps26
    go_wp2_with fail
    refine (roomI_of _ l n _ h0).mono ?_
    rintro e w1 ⟨rfl, b1⟩
    go_wp2
    refine bodyPost_ret (v := .tuple #[.slice none 0 0, .bool false]) ?_ rfl ⟨_, rfl, World.ownsRow_nil _ _ _ _, b1⟩
    simp [results, Try.results26, go_sem]
  by_cases d0 : d < 0
  · rw [chargeF_no (.inr d0)]
    go_enter Try.func26, Try.ntmps26
    go_wp2_with fail
    refine (roomI_of _ l n _ h0).mono ?_
    rintro e w1 ⟨rfl, b1⟩
    go_wp2
    refine bodyPost_ret (v := .tuple #[.slice none 0 0, .bool false]) ?_ rfl ⟨_, rfl, World.ownsRow_nil _ _ _ _, b1⟩
    simp [results, Try.results26, go_sem]
  obtain ⟨hv, n1, n2, r1⟩ := roomF_ok r0
  have h8 := (limB_all hv).1
  by_cases c0 : roomF l n < d
  · rw [chargeF_much r0 d0 c0]
    go_enter Try.func26, Try.ntmps26
    go_wp2_with fail
    refine (roomI_of _ l n _ h0).mono ?_
    rintro e w1 ⟨rfl, b1⟩
    go_wp2_with fail
    refine (clone_of _ l _ (h0.below b1) (by omega)).mono ?_
    rintro e w2 ⟨v2, rfl, o2, b2⟩
    go_wp2
    refine bodyPost_ret (v := .tuple #[v2, .bool false]) ?_ rfl ⟨_, rfl, own_mono o2 b1.size, Below.step b2 b1.size b1⟩
    simp [results, Try.results26, go_sem]
  · rw [chargeF_yes r0 d0 c0]
    go_enter Try.func26, Try.ntmps26
    go_wp2_with fail
    refine (roomI_of _ l n _ h0).mono ?_
    rintro e w1 ⟨rfl, b1⟩
    go_wp2_with fail
    refine (usedI_of _ l n d _ (h0.below b1) hv (by omega) n2 (by omega) (by omega)).mono ?_
    rintro e w2 ⟨v2, rfl, o2, b2⟩
    go_wp2
    refine bodyPost_ret (v := .tuple #[v2, .bool true]) ?_ rfl ⟨_, rfl, own_mono o2 b1.size, Below.step b2 b1.size b1⟩
    simp [results, Try.results26, go_sem]

set_option maxHeartbeats 2000000 in
theorem freeI_of (v : Value) (l : List T3) (n d : Int) (w : World) (h0 : Sl3 w v l) (hd : d ≤ 9223372036854775807) : Calls Try.prog 22 #[v, .int .i64 n, .int .i64 d] w fun e w' => ∃ v', e = .returned (.tuple #[v', .bool (freeF l n d).2]) ∧ Own w.heap.size w' v' (freeF l n d).1 ∧ Below w.heap.size w w' := by
  by_cases r0 : roomF l n < 0
  · rw [freeF_no (.inl r0)]
    go_enter Try.func22, Try.ntmps22
    go_wp2_with fail
    refine (roomI_of _ l n _ h0).mono ?_
    rintro e w1 ⟨rfl, b1⟩
    go_wp2
    refine bodyPost_ret (v := .tuple #[.slice none 0 0, .bool false]) ?_ rfl ⟨_, rfl, World.ownsRow_nil _ _ _ _, b1⟩
    simp [results, Try.results22, go_sem]
  by_cases d0 : d < 0
  · rw [freeF_no (.inr d0)]
    go_enter Try.func22, Try.ntmps22
    go_wp2_with fail
    refine (roomI_of _ l n _ h0).mono ?_
    rintro e w1 ⟨rfl, b1⟩
    go_wp2
    refine bodyPost_ret (v := .tuple #[.slice none 0 0, .bool false]) ?_ rfl ⟨_, rfl, World.ownsRow_nil _ _ _ _, b1⟩
    simp [results, Try.results22, go_sem]
  obtain ⟨hv, n1, n2, r1⟩ := roomF_ok r0
  have h8 := (limB_all hv).1
  have zn : IntKind.i64.wrap (-d) = -d := IntWalk.i64_in _ (by omega)
  rcases Bool.eq_false_or_eq_true (limB (chgL l n (-d))) with c0 | c0
  · rw [freeF_yes r0 d0 c0]
    go_enter Try.func22, Try.ntmps22
    go_wp2_with fail
    refine (roomI_of _ l n _ h0).mono ?_
    rintro e w1 ⟨rfl, b1⟩
    go_wp2_with fail
    refine (usedI_of _ l n (-d) _ (h0.below b1) hv (by omega) n2 (by omega) (by omega)).mono ?_
    rintro e w2 ⟨v2, rfl, o2, b2⟩
    go_wp2_with fail
    refine (limitsValidI_of _ _ _ (own_sl3 o2)).mono ?_
    rintro e w3 ⟨rfl, b3⟩
    have o3 := own_below o2 b3
    have k2 := Below.step b2 b1.size b1
    go_wp2
    refine bodyPost_ret (v := .tuple #[v2, .bool true]) ?_ rfl ⟨_, rfl, own_mono o3 b1.size, Below.step b3 k2.size k2⟩
    simp [results, Try.results22, go_sem]
  · rw [freeF_bad r0 d0 c0]
    go_enter Try.func22, Try.ntmps22
    go_wp2_with fail
    refine (roomI_of _ l n _ h0).mono ?_
    rintro e w1 ⟨rfl, b1⟩
    go_wp2_with fail
    refine (usedI_of _ l n (-d) _ (h0.below b1) hv (by omega) n2 (by omega) (by omega)).mono ?_
    rintro e w2 ⟨v2, rfl, o2, b2⟩
    have k2 := Below.step b2 b1.size b1
    go_wp2_with fail
    refine (limitsValidI_of _ _ _ (own_sl3 o2)).mono ?_
    rintro e w3 ⟨rfl, b3⟩
    have k3 := Below.step b3 k2.size k2
    go_wp2_with fail
    refine (clone_of _ l _ (h0.below k3) (by omega)).mono ?_
    rintro e w4 ⟨v4, rfl, o4, b4⟩
    go_wp2
    refine bodyPost_ret (v := .tuple #[v4, .bool false]) ?_ rfl ⟨_, rfl, own_mono o4 k3.size, Below.step b4 k3.size k3⟩
    simp [results, Try.results22, go_sem]
end Go.Proofs.Ytffppecflamcgaa
