/- The drawn law on OverQuota: the walk. -/
import Derived.Test.YthcmecgmidopoaaDrawQ
import Derived.Test.YthcmecgmidopoaaOvP
import Derived.Test.YthcmecgmidopoaaLawOU
set_option linter.unusedSimpArgs false
set_option linter.unusedVariables false
set_option linter.unusedSectionVars false
namespace Go.Proofs.Ythcmecgmidopoaa
open Go.RowKit

/-- A tree and quotas are drawn. -/
def GotQ (w : World) (e : Ending) (w' : World) : Prop := ∃ (v u : Value) (t : List Nd) (l : List Q3), e = .returned (.tuple #[v, u]) ∧ TreeR w' v t ∧ t.length ≤ 20 ∧ (kidsOf t).length ≤ 16 ∧ SlG EQ w' u l ∧ l.length ≤ 6 ∧ Below w.heap.size w w'
set_option maxHeartbeats 4000000 in
theorem drawOQ_any (a : Option Addr) (len cap : Nat) (zs : List Int) (w : World) (hrow : IsRow .u8 w a len cap zs) : Calls Try.prog 28 #[.slice a len cap] w (GotQ w) := by
  go_enter Try.func28, Try.ntmps28
  go_wp2_with (go_at_call 40; refine (open_any _ _ _ _ _ (IsRow.below hrow (by repeat (first | exact Below.refl _ _ | refine Below.alloc ?_ (by simp; try omega) _)))).mono ?_; rintro e w' ⟨A, le, ca, rfl, rfl, zs', hby⟩; (try simp only [World.size_alloc] at hby))
  have hop := rd_opened hby
  refine (l20Tree_any _ _ _ _ hop (by decide) (by decide) (by decide)).mono ?_
  rintro e w1 ⟨v, cs, t, q, rfl, hT, h1, h2, h3, hq1, hq2, hRB⟩
  have hrd := hRB.rd hop (by omega)
  have hz := hRB.size
  have HRB := Lib.hid hRB
  have HT := Lib.hid hT
  have HD := Lib.hid hrd
  clear hT h3 hRB hop hrd
  go_wp2_with fail
  refine (l20Quotas_any _ q 9 _ HD.out (by omega) (by decide) (by decide)).mono ?_
  rintro e w2 ⟨u, l, q2, rfl, k0, k1, kl, hRB2, hown⟩
  have HT2 := Lib.hid (treeC_r ((HT.out.rset (i := 1) (u := .int .i64 q2) (by simp)).below hRB2))
  have HB2 := Lib.hid (below_opened (RB.tail HRB.out hRB2 (by simp)))
  have HQ := Lib.hid (ownG_sl hown)
  clear HD HRB HT hRB2 hown
  go_wp2
  go_ret2
  exact ⟨v, u, t, l, rfl, HT2.out, h1, h2, HQ.out, kl, HB2.out⟩
set_option maxRecDepth 100000 in
set_option maxHeartbeats 8000000 in
theorem walkFnOverQuota (a : Option Addr) (len cap : Nat) (zs : List Int) (w : World) (hrow : IsRow .u8 w a len cap zs) :
    Calls Try.prog 8 #[.slice a len cap] w fun e w' => e = .returned (.bool true) ∧ Below w.heap.size w w' := by
  obtain ⟨hl1, hl2⟩ := hrow.len_le
  unfold maxLen at hl2
  by_cases hbig : (1048576 : Int) < (len : Int)
  · go_enter Try.func8, Try.ntmps8
    go_wp2
    go_ret
    exact ⟨rfl, Below.refl _ _⟩
  · go_enter Try.func8, Try.ntmps8
    go_wp2_with fail
    refine (drawOQ_any a len cap zs _ hrow).mono ?_
    rintro e w1 ⟨v, u, t, l, rfl, hR, hn, hk, hQ, hl6, b1⟩
    have H1 := Lib.hid (fun w h h2 => overI_of v u t l w h h2 (by omega) (by omega))
    have H2 := Lib.hid (fun w h h2 => overS_of v u t l w h h2 (by omega) (by omega))
    have H3 := Lib.hid (fun w h => treeI_of v t w h (by omega) (by omega))
    have H4 := Lib.hid (fun w h => quotasI_of u l w h)
    have H5 := Lib.hid (fun z w h => usageI_of v t z w h (by omega) (by omega))
    have HR := Lib.hid hR
    have HQ := Lib.hid hQ
    obtain ⟨A, c, rfl⟩ := hR.shape
    have hcap := hR.caps
    obtain ⟨Aq, cq, rfl⟩ := hQ.shape
    have B1 := Lib.hid b1
    clear hR hQ b1
    go_wp2_with fail
    refine (H1.out _ HR.out HQ.out).mono ?_
    rintro e w2 ⟨x, rfl, o2, b2⟩
    have B2 := Lib.hid (Below.step b2 B1.out.size B1.out)
    have R2 := Lib.hid (HR.out.below b2)
    have Q2 := Lib.hid (HQ.out.below b2)
    have X2 := Lib.hid (ownG_sl o2)
    obtain ⟨A2, c2, rfl⟩ := ownG_shape o2
    clear o2 b2
    go_wp2_with fail
    refine (H2.out _ R2.out Q2.out).mono ?_
    rintro e w3 ⟨y, rfl, o3, b3⟩
    have B3 := Lib.hid (Below.step b3 B2.out.size B2.out)
    have R3 := Lib.hid (R2.out.below b3)
    have Q3' := Lib.hid (Q2.out.below b3)
    have X3 := Lib.hid (X2.out.below b3)
    have Y3 := Lib.hid (ownG_sl o3)
    clear o3 b3
    have hsm := sameInts_of _ _ _ _ w3 X3.out Y3.out
    rw [decide_eq_true rfl] at hsm
    have Hsm := Lib.hid hsm
    clear hsm
    go_wp2_with fail
    refine Hsm.out.mono ?_
    rintro e w4 ⟨rfl, nd, rfl⟩
    have hd4 : Below w3.heap.size w3 (w3.drewN nd) := below_drewN (Below.refl _ _) _
    have R4 := Lib.hid (R3.out.below hd4)
    have Q4 := Lib.hid (Q3'.out.below hd4)
    have X4 := Lib.hid (X3.out.below hd4)
    have B4 := Lib.hid (Below.step hd4 B3.out.size B3.out)
    generalize w3.drewN nd = W4 at R4 Q4 X4 B4 ⊢
    clear hd4 R2 R3 Q2 Q3' X2 X3 B2 B3 Y3 Hsm H1 H2
    cases hv : treeB t && quotaB l
    · have hx0 := over_no hv
      rw [hx0] at X4 ⊢
      have Hv := Lib.hid hv
      clear hx0 hv
      go_wp2
      go_loopw [6, 7, 8, 9, 10] (fun s i _ _ _ wr => i = .int .i64 0 ∧ s = .int .i64 0 ∧ wr = W4) (fun _ _ _ _ _ _ => 0)
      case atStart => exact ⟨rfl, rfl, rfl⟩
      case round =>
        obtain ⟨rfl, rfl, rfl⟩ := hrel
        by_cases hl0 : l.length = 0
        · obtain rfl := List.eq_nil_of_length_eq_zero hl0
          go_wp2_with (go_at_call 14; refine (alive_any _).mono ?_; rintro e w' ⟨rfl, rfl⟩)
          go_ret
          exact ⟨rfl, B4.out⟩
        · have hlt' : (0 : Int) < (l.length : Int) := by omega
          cases ht : treeB t
          · rw [ht] at H3
            clear Hv
            go_wp2_with (first | (go_at_call 12; refine (H3.out _ R4.out).mono ?_; rintro e w5 ⟨rfl, b5⟩; have B5 := Lib.hid (Below.step b5 B4.out.size B4.out)) | (go_at_call 14; refine (alive_any _).mono ?_; rintro e w' ⟨rfl, rfl⟩))
            go_ret
            exact ⟨rfl, B5.out⟩
          · have hq : quotaB l = false := by have := Hv.out; rw [ht] at this; exact this
            rw [ht] at H3
            rw [hq] at H4
            clear Hv ht hq
            go_wp2_with (first | (go_at_call 12; refine (H3.out _ R4.out).mono ?_; rintro e w5 ⟨rfl, b5⟩; have B5 := Lib.hid (Below.step b5 B4.out.size B4.out)) | (go_at_call 31; refine (H4.out _ (Q4.out.below b5)).mono ?_; rintro e w6 ⟨rfl, b6⟩; have B6 := Lib.hid (Below.step b6 B5.out.size B5.out)) | (go_at_call 14; refine (alive_any _).mono ?_; rintro e w' ⟨rfl, rfl⟩))
            go_ret
            exact ⟨rfl, B6.out⟩
    · have hx1 := over_yes hv
      rw [hx1] at X4 ⊢
      rw [Bool.and_eq_true] at hv
      obtain ⟨ht, hq⟩ := hv
      rw [ht] at H3
      rw [hq] at H4
      have Hhit := Lib.hid (fun k => @ov_hit t l k)
      have Hmiss := Lib.hid (fun k => @ov_miss t l k hq)
      have Hyes := Lib.hid (fun k => @ovL_yes t l k)
      have Hno := Lib.hid (fun k => @ovL_no t l k)
      have hlen : (ovL t l l.length).length ≤ 6 := Nat.le_trans (ovL_len t l l.length) hl6
      have Hall := Lib.hid (show ∀ k, k = l.length → (ovL t l k).length = (ovL t l l.length).length from fun k h => by rw [h])
      generalize ovL t l l.length = xs at X4 Hhit Hmiss Hall hlen ⊢
      clear hx1 ht hq
      go_wp2
      go_loopw [6, 7, 8, 9, 10] (fun s i _ _ _ wr => ∃ k, k ≤ l.length ∧ i = .int .i64 k ∧ s = .int .i64 (ovL t l k).length ∧ Below W4.heap.size W4 wr) (fun _ i _ _ _ _ => l.length - (intOf i).toNat)
      case atStart => exact ⟨0, Nat.zero_le _, rfl, rfl, Below.refl _ _⟩
      case round =>
        obtain ⟨k, hk, rfl, rfl, hB⟩ := hrel
        have HB := Lib.hid hB
        have BW := Lib.hid (Below.step hB B4.out.size B4.out)
        have hol := ovL_len t l k
        by_cases hlt : k < l.length
        · have hlt' : (k : Int) < (l.length : Int) := by omega
          have zk : IntKind.i64.wrap ((k : Int) + 1) = (k : Int) + 1 := IntWalk.i64_in _ (by omega)
          have R5 := Lib.hid (R4.out.below hB)
          have Q5 := Lib.hid (Q4.out.below hB)
          have hhit := Hhit.out k hlt
          have hmiss := Hmiss.out k hlt
          have hyes := Hyes.out k hlt
          have hno := Hno.out k hlt
          generalize hm : ovL t l k = ol at hol hhit hmiss hyes hno
          obtain ⟨m, hml⟩ : ∃ m, m = ol.length := ⟨_, rfl⟩
          rw [← hml] at hhit hmiss hol ⊢
          have zm : IntKind.i64.wrap ((m : Int) + 1) = (m : Int) + 1 := IntWalk.i64_in _ (by omega)
          obtain ⟨b, off, rfl, hb, hc⟩ := Q5.out.at_ (qt_at hlt)
          obtain ⟨q, hqk⟩ : ∃ q, q = qt l k := ⟨_, rfl⟩
          rw [← hqk] at hc hhit hmiss hyes hno
          clear hqk
          obtain ⟨q1, q2, q3⟩ := q
          have c0 : wr.cell? ⟨b, off + k * 3, none⟩ = some (.int .i64 q1) := hc 0 _ rfl
          have c1 : wr.cell? ⟨b, off + k * 3 + 1, none⟩ = some (.int .i64 q2) := hc 1 _ rfl
          have c2 : wr.cell? ⟨b, off + k * 3 + 2, none⟩ = some (.int .i64 q3) := hc 2 _ rfl
          have hov : overB t (q1, q2, q3) = (decide (q2 < (usageF t q1).1) || decide (q3 < (usageF t q1).2)) := rfl
          have HU := Lib.hid (fun w h => H5.out q1 w h)
          generalize usageF t q1 = n at hov HU
          obtain ⟨n1, n2⟩ := n
          simp only at hov HU hhit hyes hmiss
          rw [hov] at hhit hmiss hyes hno
          have Hh := Lib.hid hhit
          have Hi := Lib.hid hmiss
          have Hy := Lib.hid hyes
          have Hn := Lib.hid hno
          have Hm := Lib.hid hm
          have Hml := Lib.hid hml
          have X5 := Lib.hid (X4.out.below hB)
          clear hc hB hov hhit hmiss hyes hno hm hml
          go_upto_region 12 with (first | (go_at_call 12; refine (H3.out _ R5.out).mono ?_; rintro e w5 ⟨rfl, b5⟩; have B5 := Lib.hid (Below.step b5 BW.out.size BW.out)) | (go_at_call 31; refine (H4.out _ (Q5.out.below b5)).mono ?_; rintro e w6 ⟨rfl, b6⟩; have b56 := Below.step b6 b5.size b5; have B6 := Lib.hid (Below.step b6 B5.out.size B5.out); have e0 := (b56.cell (p := ⟨b, off + k * 3, none⟩) hb).trans c0; have e1 := (b56.cell (p := ⟨b, off + k * 3 + 1, none⟩) hb).trans c1; have e2 := (b56.cell (p := ⟨b, off + k * 3 + 2, none⟩) hb).trans c2; clear c0 c1 c2 b5 b6) | (go_at_call 23; refine (HU.out _ (R5.out.below b56)).mono ?_; rintro e w7 ⟨rfl, b7⟩; have b57 := Below.step b7 b56.size b56; have B7 := Lib.hid (Below.step b7 B6.out.size B6.out); have hb6 : b < w6.heap.size := Nat.lt_of_lt_of_le hb b56.size; have c0 := (b7.cell (p := ⟨b, off + k * 3, none⟩) hb6).trans e0; have c1 := (b7.cell (p := ⟨b, off + k * 3 + 1, none⟩) hb6).trans e1; have c2 := (b7.cell (p := ⟨b, off + k * 3 + 2, none⟩) hb6).trans e2; have HB7 := Lib.hid (Below.step b57 HB.out.size HB.out); have X7 := Lib.hid (X5.out.below b57); clear e0 e1 e2 b7 b56 b57))
          have hor : decide (q2 < n1) = true ∨ (decide (q2 < n1) = false ∧ decide (q3 < n2) = true) ∨ (decide (q2 < n1) = false ∧ decide (q3 < n2) = false) := by cases decide (q2 < n1) <;> cases decide (q3 < n2) <;> simp
          rcases hor with o1 | ⟨o1, o2⟩ | ⟨o1, o2⟩
          · obtain ⟨hm1, hm2⟩ := Hh.out (by rw [o1]; rfl)
            have hy := Hy.out (by rw [o1]; rfl)
            obtain ⟨bx, ox, rfl, hbx, hcx⟩ := X7.out.at_ (nthL_at hm1)
            have cx : w7.cell? ⟨bx, ox + m, none⟩ = some (.int .i64 (nthL xs m)) := by have := hcx 0 _ rfl; simpa [EI] using this
            have hm1' : (m : Int) < (xs.length : Int) := by omega
            have hmd : decide (m < xs.length) = true := decide_eq_true hm1
            rw [hm2] at cx
            have Hy1 := Lib.hid hy
            clear hy hcx Hh Hi Hy Hn
            go_wp2_with fail
            go_quiet (fail)
            go_wp2_with fail
            exact ⟨⟨k + 1, hlt, by go_num, by rw [Hy1.out, List.length_append, ← Hml.out]; rfl, below_drewN HB7.out _⟩, by simp [intOf]; omega⟩
          · obtain ⟨hm1, hm2⟩ := Hh.out (by rw [o1, o2]; rfl)
            have hy := Hy.out (by rw [o1, o2]; rfl)
            obtain ⟨bx, ox, rfl, hbx, hcx⟩ := X7.out.at_ (nthL_at hm1)
            have cx : w7.cell? ⟨bx, ox + m, none⟩ = some (.int .i64 (nthL xs m)) := by have := hcx 0 _ rfl; simpa [EI] using this
            have hm1' : (m : Int) < (xs.length : Int) := by omega
            have hmd : decide (m < xs.length) = true := decide_eq_true hm1
            rw [hm2] at cx
            have Hy1 := Lib.hid hy
            clear hy hcx Hh Hi Hy Hn
            go_wp2_with fail
            go_quiet (fail)
            go_wp2_with fail
            exact ⟨⟨k + 1, hlt, by go_num, by rw [Hy1.out, List.length_append, ← Hml.out]; rfl, below_drewN HB7.out _⟩, by simp [intOf]; omega⟩
          · have hn := Hn.out (by rw [o1, o2]; rfl)
            have Hn1 := Lib.hid hn
            by_cases hm1 : m < xs.length
            · have hm2 := Hi.out (by rw [o1, o2]; rfl) hm1
              have hm3 : (nthL xs m == q1) = false := beq_eq_false_iff_ne.2 hm2
              obtain ⟨bx, ox, rfl, hbx, hcx⟩ := X7.out.at_ (nthL_at hm1)
              have cx : w7.cell? ⟨bx, ox + m, none⟩ = some (.int .i64 (nthL xs m)) := by have := hcx 0 _ rfl; simpa [EI] using this
              have hm1' : (m : Int) < (xs.length : Int) := by omega
              have hmd : decide (m < xs.length) = true := decide_eq_true hm1
              generalize nthL xs m = z at cx hm3
              clear hn hm2 hcx Hh Hi Hy Hn
              go_wp2_with fail
              go_quiet (fail)
              go_wp2_with fail
              exact ⟨⟨k + 1, hlt, by go_num, by rw [Hn1.out, ← Hml.out], below_drewN HB7.out _⟩, by simp [intOf]; omega⟩
            · have hmd : decide (m < xs.length) = false := decide_eq_false hm1
              have hm1' : ¬ (m : Int) < (xs.length : Int) := by omega
              clear hn Hh Hi Hy Hn
              go_wp2_with fail
              go_quiet (fail)
              go_wp2_with fail
              exact ⟨⟨k + 1, hlt, by go_num, by rw [Hn1.out, ← Hml.out], below_drewN HB7.out _⟩, by simp [intOf]; omega⟩
        · obtain rfl : k = l.length := by omega
          have he := Hall.out l.length rfl
          rw [he]
          clear hB
          go_wp2_with (go_at_call 14; refine (alive_any _).mono ?_; rintro e w' ⟨rfl, rfl⟩)
          go_ret
          exact ⟨rfl, BW.out⟩
end Go.Proofs.Ythcmecgmidopoaa
