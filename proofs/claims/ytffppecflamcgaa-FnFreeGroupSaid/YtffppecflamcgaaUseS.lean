/- Limits: 'ChargeGroup' of the reference. -/
import Derived.Test.YtffppecflamcgaaUse
import Derived.Test.YtffppecflamcgaaRoomS
set_option linter.unusedSimpArgs false
set_option linter.unusedVariables false
set_option linter.unusedSectionVars false
namespace Go.Proofs.Ytffppecflamcgaa
open Go.RowKit

set_option maxHeartbeats 4000000 in
theorem chargeS_of (v : Value) (l : List T3) (n d : Int) (w : World) (h0 : Sl3 w v l) (hm : l.length ≤ 1048576) : Calls Try.prog 25 #[v, .int .i64 n, .int .i64 d] w fun e w' => ∃ v', e = .returned (.tuple #[v', .bool (chargeF l n d).2]) ∧ Own w.heap.size w' v' (chargeF l n d).1 ∧ Below w.heap.size w w' := by
  by_cases r0 : roomF l n < 0
  · rw [chargeF_no (.inl r0)]
    go_enter Try.func25, Try.ntmps25
    go_wp2_with fail
    refine (roomS_of _ l n _ h0 hm).mono ?_
    rintro e w1 ⟨rfl, b1⟩
    go_wp2
    refine bodyPost_ret (v := .tuple #[.slice (some ⟨w1.heap.size, 0, none⟩) 0 0, .bool false]) ?_ rfl ⟨_, rfl, own_mono (World.ownsRow_made w1 #[] 0 (Nat.le_refl _) (by decide) rfl) b1.size, Below.alloc b1 b1.size _⟩
    simp [results, Try.results25, go_sem]
  by_cases d0 : d < 0
  · rw [chargeF_no (.inr d0)]
    go_enter Try.func25, Try.ntmps25
    go_wp2_with fail
    refine (roomS_of _ l n _ h0 hm).mono ?_
    rintro e w1 ⟨rfl, b1⟩
    go_wp2
    refine bodyPost_ret (v := .tuple #[.slice (some ⟨w1.heap.size, 0, none⟩) 0 0, .bool false]) ?_ rfl ⟨_, rfl, own_mono (World.ownsRow_made w1 #[] 0 (Nat.le_refl _) (by decide) rfl) b1.size, Below.alloc b1 b1.size _⟩
    simp [results, Try.results25, go_sem]
  obtain ⟨hv, n1, n2, r1⟩ := roomF_ok r0
  have h8 := (limB_all hv).1
  by_cases c0 : roomF l n < d
  · rw [chargeF_much r0 d0 c0]
    go_enter Try.func25, Try.ntmps25
    go_wp2_with fail
    refine (roomS_of _ l n _ h0 hm).mono ?_
    rintro e w1 ⟨rfl, b1⟩
    go_wp2_with (at_builtin; refine wpList_app w1 rfl (.tmp 20) (.tmp 21) rfl rfl l _ rfl (h0.below b1) (by omega) (by omega) ?_)
    intro v2 w2 o2 b2
    obtain ⟨q, c2, rfl, q1, q2⟩ := own_at o2 (by omega)
    have H2 := Lib.hid o2; clear o2
    go_wp2
    refine bodyPost_ret (v := .tuple #[.slice (some ⟨q, 0, none⟩) l.length c2, .bool false]) ?_ rfl ⟨_, rfl, own_mono H2.out b1.size, Below.step b2 b1.size b1⟩
    simp [results, Try.results25, go_sem]
  · rw [chargeF_yes r0 d0 c0]
    go_enter Try.func25, Try.ntmps25
    go_wp2_with fail
    refine (roomS_of _ l n _ h0 hm).mono ?_
    rintro e w1 ⟨rfl, b1⟩
    go_wp2_with (at_builtin; refine wpList_app w1 rfl (.tmp 20) (.tmp 21) rfl rfl l _ rfl (h0.below b1) (by omega) (by omega) ?_)
    intro v2 w2 o2 b2
    obtain ⟨q, c2, rfl, q1, q2⟩ := own_at o2 (by omega)
    have H2 := Lib.hid o2; clear o2
    have B2 := Lib.hid b2; clear b2
    have Hall := Lib.hid (limB_all hv).2.1
    go_wp2
    go_loopw [1] (fun i wr => ∃ (m : Int) (g : Nat), -1 ≤ m ∧ m < (l.length : Int) ∧ m < g ∧ i = .int .i64 m ∧ (∃ f, (∀ i : Nat, (i : Int) ≤ m → f i = ti l i) ∧ (∀ i : Nat, (f i).1 = (ti l i).1) ∧ upF l d g m f = upF l d l.length n (ti l) ∧ wr.ownsRow w1.heap.size 34 3 (.slice (some ⟨q, 0, none⟩) l.length c2) l.length (row3 l.length f)) ∧ Below w1.heap.size w1 wr ∧ q < wr.heap.size) (fun i _ => (intOf i + 1).toNat)
    case atStart => exact ⟨n, l.length, by omega, by omega, by omega, rfl, ⟨ti l, fun _ _ => rfl, fun _ => rfl, rfl, H2.out⟩, B2.out, q2⟩
    case round =>
      obtain ⟨m, g, m1, m2, m3, rfl, ⟨f, hf, hf1, hup, hown⟩, hbl, q3⟩ := hrel
      have Hup := Lib.hid hup; clear hup
      have Hf := Lib.hid hf; clear hf
      have Hf1 := Lib.hid hf1; clear hf1
      by_cases hm0 : 0 ≤ m
      · obtain ⟨k, rfl⟩ := Int.eq_ofNat_of_zero_le hm0
        have hlt : k < l.length := by omega
        have x0 : wr.cell? ⟨q, k * 3, none⟩ = some (.int .i64 (ti l k).1) := by rw [hown.cellAt _ (by omega), row3_at (by omega), show (k * 3) / 3 = k from by omega, show (k * 3) % 3 = 0 from by omega, Hf.out k (by omega)]; rfl
        have x2 : wr.cell? ⟨q, k * 3 + 2, none⟩ = some (.int .i64 (ti l k).2.2) := by rw [hown.cellAt _ (by omega), row3_at (by omega), show (k * 3 + 2) / 3 = k from by omega, show (k * 3 + 2) % 3 = 2 from by omega, Hf.out k (by omega)]; rfl
        have y2 : wr.frozen? ⟨q, k * 3 + 2, none⟩ = false := hown.frozenAt _
        have Hown := Lib.hid hown; clear hown
        have Hbl := Lib.hid hbl; clear hbl
        obtain ⟨⟨a1, a2⟩, ⟨a3, a4⟩, ⟨a5, a6⟩⟩ := limOk_iff.1 (Hall.out k hlt)
        obtain ⟨g, rfl⟩ : ∃ g', g = g' + 1 := ⟨g - 1, by omega⟩
        have hst := Hup.out
        rw [upF_step] at hst
        have Hst := Lib.hid hst; clear hst
        have z2 : IntKind.i64.wrap ((ti l k).2.2 + d) = (ti l k).2.2 + d := IntWalk.i64_in _ (by omega)
        go_wp2
        refine ⟨⟨_, g, ?_, ?_, ?_, rfl, ⟨addUse (d) k f, ?_, ?_, Hst.out, ?_⟩, ?_⟩, ?_⟩
        · omega
        · omega
        · omega
        · intro i hi
          unfold addUse upd
          rw [if_neg (by omega)]
          exact Hf.out i (by omega)
        · intro i
          unfold addUse upd
          split
          · next e => subst e; exact Hf1.out _
          · exact Hf1.out i
        · have s := (Hown.out.stored (k * 3 + 2) (.int .i64 ((ti l k).2.2 + (d)))).1
          rw [row3_set1 hlt] at s
          have ek : f k = ti l k := Hf.out k (by omega)
          rw [show addUse (d) k f = upd f k ((f k).1, (f k).2.1, (ti l k).2.2 + (d)) from by unfold addUse; rw [ek]]
          exact s
        · exact ⟨(by (repeat (first | exact Below.refl _ _ | exact Hbl.out | refine Below.ext ?_ (by first | omega | (simp; omega) | simp) | refine Below.setCell ?_ (by first | omega | (simp; omega) | simp) _ | refine Below.alloc ?_ (by first | omega | (simp; omega) | simp) _ | refine Below.drew ?_ | refine below_drewN ?_ _ | refine Below.step (by assumption) (by first | omega | (simp; omega) | simp) ?_))), by simpa using q3⟩
        · show ((ti l k).1 + 1).toNat < ((k : Int) + 1).toNat
          omega
      · have hm1 : m = -1 := by omega
        have hfin := Hup.out
        rw [upF_neg l (by omega)] at hfin
        have Hfin := Lib.hid hfin; clear hfin
        have Hbl := Lib.hid hbl; clear hbl
        have hr := hown
        rw [Hfin.out] at hr
        have O3 : Own w1.heap.size wr (.slice (some ⟨q, 0, none⟩) l.length c2) (chgL l n (d)) := own_of hr (chgL_len l n _) (fun i hi => (chgL_at hi).symm)
        clear hr
        have Hown := Lib.hid hown; clear hown
        clear hm1
        go_wp2
        refine bodyPost_ret (v := .tuple #[.slice (some ⟨q, 0, none⟩) l.length c2, .bool true]) ?_ rfl ⟨_, rfl, own_mono O3 b1.size, Below.step Hbl.out b1.size b1⟩
        simp [results, Try.results25, go_sem]
end Go.Proofs.Ytffppecflamcgaa
