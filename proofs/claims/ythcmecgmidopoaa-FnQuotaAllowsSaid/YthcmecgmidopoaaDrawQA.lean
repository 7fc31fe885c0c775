/- What is drawn: two trees and quotas. -/
import Derived.Test.YthcmecgmidopoaaDrawWF
import Derived.Test.YthcmecgmidopoaaWriteS
set_option linter.unusedSimpArgs false
set_option linter.unusedVariables false
set_option linter.unusedSectionVars false
namespace Go.Proofs.Ythcmecgmidopoaa
open Go.RowKit

/-- A draw of quotas under way: V stood when the reader was made. -/
structure QD (V : World) (x : Value) (l : List Q3) (q : Int) (W : World) : Prop where
  be : Below V.heap.size V W
  rd : Rd W V.heap.size q
  ow : OwnG EQ 51 (V.heap.size + 1) W x l
section
variable {V W W' : World} {x : Value} {l : List Q3} {q q' : Int}
theorem QD.below (h : QD V x l q W) (hb : Below W.heap.size W W') : QD V x l q W' := ⟨Below.step hb h.be.size h.be, rd_below h.rd hb, ownG_below h.ow hb⟩
theorem QD.rb (h : QD V x l q W) (hq : 0 ≤ q') (hb : RB W V.heap.size q' W') : QD V x l q' W' := by
  refine ⟨?_, hb.rd h.rd hq, ?_⟩
  · have h1 : Below V.heap.size V (W.setCell ⟨V.heap.size, 1, none⟩ (.int .i64 q')) := Below.setCell h.be (Nat.le_refl _) _
    exact Below.step hb h1.size h1
  · exact ownG_below (own_rset h.ow (Nat.lt_succ_self _)) hb
end
theorem write_small {t : List Nd} {a b c d : Int} {s : List UInt8} {X : ByteArray} (h : (writeF t a b c d s X).2 = 0) : (writeF t a b c d s X).1.length = t.length ∧ (kidsOf (writeF t a b c d s X).1).length = (kidsOf t).length := by
  unfold writeF at h ⊢
  by_cases hf : (fileF t a b c d s 2).2 = 0
  · rw [if_pos hf] at h ⊢
    by_cases hX : X.size ≤ 40
    · rw [if_pos hX]
      obtain ⟨h1, h2, _⟩ := file_yes hf
      obtain ⟨_, _, _, g4, g5⟩ := findF_range h1
      have hlt : (findF t a b c d s).1.toNat < t.length := by omega
      refine ⟨by simp, ?_⟩
      have := kidsLen_set (txN (kth t (findF t a b c d s).1.toNat) X) hlt
      show (kidsOf (t.set (findF t a b c d s).1.toNat (txN (kth t (findF t a b c d s).1.toNat) X))).length = _
      have e : (txN (kth t (findF t a b c d s).1.toNat) X).ks = (kth t (findF t a b c d s).1.toNat).ks := rfl
      rw [e] at this
      omega
    · rw [if_neg hX] at h
      exact absurd h (by decide)
  · rw [if_neg hf] at h
    exact absurd h hf
/-- Two trees and quotas are drawn. -/
def GotQA (w : World) (e : Ending) (w' : World) : Prop := ∃ (v u x : Value) (tb ta : List Nd) (l : List Q3), e = .returned (.tuple #[v, u, x]) ∧ TreeR w' v tb ∧ tb.length ≤ 20 ∧ (kidsOf tb).length ≤ 16 ∧ TreeR w' u ta ∧ ta.length ≤ 20 ∧ (kidsOf ta).length ≤ 16 ∧ SlG EQ w' x l ∧ l.length ≤ 6 ∧ Below w.heap.size w w'
set_option maxRecDepth 100000 in
set_option maxHeartbeats 8000000 in
theorem drawQA_any (a : Option Addr) (len cap : Nat) (zs : List Int) (w : World) (hrow : IsRow .u8 w a len cap zs) : Calls Try.prog 36 #[.slice a len cap] w (GotQA w) := by
  go_enter Try.func36, Try.ntmps36
  go_wp2_with fail
  refine (drawWF_any a len cap zs _ hrow).mono ?_
  rintro e w1 ⟨v, t, a0, b0, c0, d0, S, X, rfl, hT, n1, n2, hS, hX, hB1⟩
  have hR1 := hT.r
  obtain ⟨A1, cp, rfl⟩ := hR1.shape
  have hrow1 := hrow.below hB1
  have HR1 := Lib.hid hR1
  have HB1 := Lib.hid hB1
  clear hT hR1 hB1 hrow
  go_wp2_with fail
  obtain ⟨V, hV⟩ : ∃ V, V = w1.alloc (.cells #[.int .i64 a0, .int .i64 b0, .int .i64 c0, .int .i64 d0] 75) := ⟨_, rfl⟩
  rw [← hV]
  have hc3 : V.cell? ⟨w1.heap.size, 3, none⟩ = some (.int .i64 d0) := by rw [hV]; go_simp
  have hbV : Below w1.heap.size w1 V := by rw [hV]; exact Below.alloc (Below.refl _ _) (Nat.le_refl _) _
  have hgV : w1.heap.size < V.heap.size := by rw [hV]; simp
  have hrow := hrow1.below hbV
  have HBV := Lib.hid hbV
  clear hV hbV hrow1
  go_wp2_with (go_at_call 40; refine (open_any _ _ _ _ _ (IsRow.below hrow (by repeat (first | exact Below.refl _ _ | refine Below.alloc ?_ (by simp; try omega) _)))).mono ?_; rintro e w' ⟨A, le, ca, rfl, rfl, zs', hby⟩; (try simp only [World.size_alloc] at hby))
  have hop := rd_opened hby
  refine (l20Quotas_any _ 0 9 _ hop (by decide) (by decide) (by decide)).mono ?_
  rintro e W3 ⟨x, l, q, rfl, k0, k1, kl, hRB3, hQ3⟩
  have hb3 := below_opened hRB3
  have D3 : QD V x l q W3 := ⟨hb3, hRB3.rd hop k0, ownG_mono hQ3 (by simp)⟩
  have y3 : W3.cell? ⟨w1.heap.size, 3, none⟩ = some (.int .i64 d0) := (hb3.cell (p := ⟨w1.heap.size, 3, none⟩) hgV).trans hc3
  have HV1 := Lib.hid (HR1.out.below HBV.out)
  have HD3 := Lib.hid D3
  have HR3 := Lib.hid (HV1.out.below hb3)
  have hz3 : V.heap.size < W3.heap.size := by have := hRB3.size; simp at this; omega
  obtain ⟨Aq, cq, rfl⟩ := ownG_shape hQ3
  have HBw := Lib.hid (Below.step HBV.out HB1.out.size HB1.out)
  obtain ⟨F, hF⟩ : ∃ F, F = writeF t 0 0 0 (bits .and .i64 d0 255) S.data.toList X := ⟨_, rfl⟩
  have hW := writeS_of (.slice A1 t.length cp) t 0 0 0 (bits .and .i64 d0 255) S X W3 HR3.out (by omega) (by omega) (by omega)
  have hsm := @write_small t 0 0 0 (bits .and .i64 d0 255) S.data.toList X
  rw [← hF] at hW hsm
  clear hF
  obtain ⟨t2, f⟩ := F
  simp only at hW hsm
  have HW := Lib.hid hW
  clear hW hop hby hRB3 hQ3 hb3 D3 hrow hc3
  go_wp2_with fail
  refine HW.out.mono ?_
  rintro e W4 ⟨u, cs4, rfl, hT4, b4⟩
  obtain ⟨A4, c4, rfl⟩ := TreeO.shape ⟨cs4, hT4⟩
  have D4 := HD3.out.below b4
  have hr4 := D4.rd
  have HD4 := Lib.hid D4
  have HT4 := Lib.hid hT4
  clear hT4 b4 D4
  by_cases hf : f = 0
  · subst hf
    have Hm := Lib.hid (hsm rfl)
    clear hsm
    (go_wp2_with fail); refine (pick_any _ ?_ _ _ ?_ ?_).mono ?_; rotate_left; (focus ((repeat (first | assumption | refine Rd.ext ?_ | refine Rd.drew ?_ | refine Rd.drewN ?_ | refine Rd.set (by assumption) ?_ | refine Rd.lit (by assumption) (by simp) ?_ | refine Rd.alloc ?_ _ | omega)))); (focus omega); rintro e w' ⟨z, dz, rfl, lz, hz, h2, rfl⟩; replace hz := hz (by omega); clear h2
    by_cases hz : z = 0
    · subst hz
      have D5 := HD4.out.rb (q' := q + 1) (by omega) (show RB W4 V.heap.size (q + 1) (ext (W4.setCell ⟨V.heap.size, 1, none⟩ (.int .i64 (q + 1))) dz #[]) from below_ext _ _ _)
      have hr5 := D5.rd
      have hT5 := hr5
      go_wp2_with fail
      refine (l20Tree_any _ (q + 1) 9 _ hr5 (by omega) (by decide) (by decide)).mono ?_
      rintro e W6 ⟨u6, cs6, t6, q6, rfl, hT6, g1, g2, _, g4, g5, hRB6⟩
      have D6 := D5.rb (by omega) hRB6
      have HT6 := Lib.hid (TreeO.r ⟨cs6, hT6⟩)
      have HV6 := Lib.hid (HV1.out.below D6.be)
      have HQ6 := Lib.hid (ownG_sl D6.ow)
      have HB6 := Lib.hid (Below.step D6.be HBw.out.size HBw.out)
      obtain ⟨A6, c6, rfl⟩ := HT6.out.shape
      clear hT6 hRB6 D6 D5 hr5 hT5
      go_wp2
      refine bodyPost_ret (v := .tuple #[.slice A1 t.length cp, .slice A6 t6.length c6, .slice Aq l.length cq]) ?_ rfl ?_
      · simp [results, Try.results36, go_sem]
      · exact ⟨_, _, _, t, t6, l, rfl, HV6.out, n1, n2, HT6.out, g1, g2, HQ6.out, kl, HB6.out⟩
    · have hz' : (z == 0) = false := beq_eq_false_iff_ne.2 hz
      have D5 := HD4.out.rb (q' := q + 1) (by omega) (show RB W4 V.heap.size (q + 1) (ext (W4.setCell ⟨V.heap.size, 1, none⟩ (.int .i64 (q + 1))) dz #[]) from below_ext _ _ _)
      have hr5 := D5.rd
      have HT5 := Lib.hid (TreeO.r ⟨cs4, HT4.out.pick (d := dz) (os := #[]) (i := 1) (u := .int .i64 (q + 1)) (by omega)⟩)
      have HV5 := Lib.hid (HV1.out.below D5.be)
      have HQ5 := Lib.hid (ownG_sl D5.ow)
      have HB5 := Lib.hid (Below.step D5.be HBw.out.size HBw.out)
      clear D5 hr5
      go_wp2
      refine bodyPost_ret (v := .tuple #[.slice A1 t.length cp, .slice A4 t2.length c4, .slice Aq l.length cq]) ?_ rfl ?_
      · simp [results, Try.results36, go_sem]
      · exact ⟨_, _, _, t, t2, l, rfl, HV5.out, n1, n2, HT5.out, by have := Hm.out.1; omega, by have := Hm.out.2; omega, HQ5.out, kl, HB5.out⟩
  · have hf' : (f != 0) = true := by simpa using hf
    have D5 := HD4.out
    have hr5 := hr4
    have hT5 := hr5
    go_wp2_with fail
    refine (l20Tree_any _ q 9 _ hr5 (by omega) (by decide) (by decide)).mono ?_
    rintro e W6 ⟨u6, cs6, t6, q6, rfl, hT6, g1, g2, _, g4, g5, hRB6⟩
    have D6 := D5.rb (by omega) hRB6
    have HT6 := Lib.hid (TreeO.r ⟨cs6, hT6⟩)
    have HV6 := Lib.hid (HV1.out.below D6.be)
    have HQ6 := Lib.hid (ownG_sl D6.ow)
    have HB6 := Lib.hid (Below.step D6.be HBw.out.size HBw.out)
    obtain ⟨A6, c6, rfl⟩ := HT6.out.shape
    clear hT6 hRB6 D6 D5 hr5 hT5
    go_wp2
    refine bodyPost_ret (v := .tuple #[.slice A1 t.length cp, .slice A6 t6.length c6, .slice Aq l.length cq]) ?_ rfl ?_
    · simp [results, Try.results36, go_sem]
    · exact ⟨_, _, _, t, t6, l, rfl, HV6.out, n1, n2, HT6.out, g1, g2, HQ6.out, kl, HB6.out⟩
end Go.Proofs.Ythcmecgmidopoaa
