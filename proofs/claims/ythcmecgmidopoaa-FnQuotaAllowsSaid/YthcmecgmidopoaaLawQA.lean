/- The drawn law on QuotaAllows: the walk. -/
import Derived.Test.YthcmecgmidopoaaDrawQA
import Derived.Test.YthcmecgmidopoaaAllow
set_option linter.unusedSimpArgs false
set_option linter.unusedVariables false
set_option linter.unusedSectionVars false
namespace Go.Proofs.Ythcmecgmidopoaa
open Go.RowKit

theorem allow_no {tb ta : List Nd} {l : List Q3} (h : treeB tb = false ∨ treeB ta = false ∨ quotaB l = false) : allowB tb ta l = false := by
  unfold allowB
  rcases h with h | h | h
  · rw [h]; rfl
  · rw [h]; cases treeB tb <;> rfl
  · rw [h]; cases treeB tb <;> cases treeB ta <;> rfl
theorem grew_self (t : List Nd) (u : Int) : grewB t t u = false := by
  unfold grewB
  simp
theorem allow_self {t : List Nd} {l : List Q3} (h : treeB t = true) (hq : quotaB l = true) : allowB t t l = true := by
  unfold allowB
  rw [h, hq]
  simp only [Bool.true_and]
  rw [List.all_eq_true]
  intro u _
  rw [grew_self]; rfl
theorem allow_over {tb ta : List Nd} {l : List Q3} (h1 : treeB tb = true) (h2 : treeB ta = true) (h3 : quotaB l = true) (h : allowB tb ta l = false) : 0 < (overF ta l).length := by
  unfold allowB at h
  rw [h1, h2, h3] at h
  simp only [Bool.true_and] at h
  cases ho : overF ta l with
  | nil => rw [ho] at h; simp at h
  | cons x xs => simp
set_option maxRecDepth 100000 in
set_option maxHeartbeats 8000000 in
theorem walkFnQuotaAllows (a : Option Addr) (len cap : Nat) (zs : List Int) (w : World) (hrow : IsRow .u8 w a len cap zs) :
    Calls Try.prog 10 #[.slice a len cap] w fun e w' => e = .returned (.bool true) ∧ Below w.heap.size w w' := by
  obtain ⟨hl1, hl2⟩ := hrow.len_le
  unfold maxLen at hl2
  by_cases hbig : (1048576 : Int) < (len : Int)
  · go_enter Try.func10, Try.ntmps10
    go_wp2
    go_ret
    exact ⟨rfl, Below.refl _ _⟩
  · go_enter Try.func10, Try.ntmps10
    go_wp2_with fail
    refine (drawQA_any a len cap zs _ hrow).mono ?_
    rintro e w1 ⟨v, u, x, tb, ta, l, rfl, hR, n1, k1, hU, n2, k2, hQ, hl6, b1⟩
    have H1 := Lib.hid (fun w h h2 h3 => allowI_of v u x tb ta l w h h2 h3 (by omega) (by omega) (by omega) (by omega))
    have H2 := Lib.hid (fun w h h2 h3 => allowS_of v u x tb ta l w h h2 h3 (by omega) (by omega) (by omega) (by omega))
    have H3 := Lib.hid (fun w h h3 => allowI_of v v x tb tb l w h h h3 (by omega) (by omega) (by omega) (by omega))
    have H4 := Lib.hid (fun w h h3 => overI_of u x ta l w h h3 (by omega) (by omega))
    have T1 := fun w h => treeI_of v tb w h (by omega) (by omega)
    have T2 := fun w h => treeI_of u ta w h (by omega) (by omega)
    have Q1 := fun w h => quotasI_of x l w h
    have HR := Lib.hid hR
    have HU := Lib.hid hU
    have HQ := Lib.hid hQ
    obtain ⟨A, c, rfl⟩ := hR.shape
    obtain ⟨A2, c2, rfl⟩ := hU.shape
    obtain ⟨A3, c3, rfl⟩ := hQ.shape
    have hcap := hR.caps
    have hcap2 := hU.caps
    have B1 := Lib.hid b1
    have hno := @allow_no tb ta l
    have hself := @allow_self tb l
    have hover := @allow_over tb ta l
    generalize allowB tb ta l = ok at H1 H2 hno hover
    generalize allowB tb tb l = ok2 at H3 hself
    have hol : True := trivial
    clear hR hU hQ b1
    go_wp2_with fail
    refine (H1.out _ HR.out HU.out HQ.out).mono ?_
    rintro e w2 ⟨rfl, b2⟩
    have B2 := Lib.hid (Below.step b2 B1.out.size B1.out)
    have R2 := Lib.hid (HR.out.below b2)
    have U2 := Lib.hid (HU.out.below b2)
    have Q2 := Lib.hid (HQ.out.below b2)
    clear b2
    go_wp2_with fail
    refine (H2.out _ R2.out U2.out Q2.out).mono ?_
    rintro e w3 ⟨rfl, b3⟩
    have B3 := Lib.hid (Below.step b3 B2.out.size B2.out)
    have R3 := Lib.hid (R2.out.below b3)
    have U3 := Lib.hid (U2.out.below b3)
    have Q3' := Lib.hid (Q2.out.below b3)
    clear b3 R2 U2 Q2 B2 H1 H2
    cases h1 : treeB tb
    · rw [h1] at T1
      obtain rfl := hno (.inl h1)
      have HT := Lib.hid T1
      clear T1 T2 Q1 hno hself hover h1
      go_wp2_with fail
      refine (HT.out _ R3.out).mono ?_
      rintro e w4 ⟨rfl, b4⟩
      have B4 := Lib.hid (Below.step b4 B3.out.size B3.out)
      clear b4
      go_wp2_with (go_at_call 14; refine (alive_any _).mono ?_; rintro e w' ⟨rfl, rfl⟩)
      go_ret
      exact ⟨rfl, B4.out⟩
    · rw [h1] at T1
      have HT := Lib.hid T1
      clear T1
      go_wp2_with fail
      refine (HT.out _ R3.out).mono ?_
      rintro e w4 ⟨rfl, b4⟩
      have B4 := Lib.hid (Below.step b4 B3.out.size B3.out)
      have R4 := Lib.hid (R3.out.below b4)
      have U4 := Lib.hid (U3.out.below b4)
      have Q4 := Lib.hid (Q3'.out.below b4)
      clear b4 HT
      cases h2 : treeB ta
      · rw [h2] at T2
        obtain rfl := hno (.inr (.inl h2))
        have HT := Lib.hid T2
        clear T2 Q1 hno hself hover h1 h2
        go_wp2_with fail
        refine (HT.out _ U4.out).mono ?_
        rintro e w5 ⟨rfl, b5⟩
        have B5 := Lib.hid (Below.step b5 B4.out.size B4.out)
        clear b5
        go_wp2_with (go_at_call 14; refine (alive_any _).mono ?_; rintro e w' ⟨rfl, rfl⟩)
        go_ret
        exact ⟨rfl, B5.out⟩
      · rw [h2] at T2
        have HT := Lib.hid T2
        clear T2
        go_wp2_with fail
        refine (HT.out _ U4.out).mono ?_
        rintro e w5 ⟨rfl, b5⟩
        have B5 := Lib.hid (Below.step b5 B4.out.size B4.out)
        have R5 := Lib.hid (R4.out.below b5)
        have U5 := Lib.hid (U4.out.below b5)
        have Q5 := Lib.hid (Q4.out.below b5)
        clear b5 HT
        cases h3 : quotaB l
        · rw [h3] at Q1
          obtain rfl := hno (.inr (.inr h3))
          have HT := Lib.hid Q1
          clear Q1 hno hself hover h1 h2 h3
          go_wp2_with fail
          refine (HT.out _ Q5.out).mono ?_
          rintro e w6 ⟨rfl, b6⟩
          have B6 := Lib.hid (Below.step b6 B5.out.size B5.out)
          clear b6
          go_wp2_with (go_at_call 14; refine (alive_any _).mono ?_; rintro e w' ⟨rfl, rfl⟩)
          go_ret
          exact ⟨rfl, B6.out⟩
        · rw [h3] at Q1
          have HT := Lib.hid Q1
          obtain rfl := hself h1 h3
          have ho := hover h1 h2 h3
          clear Q1 hno hself hover h1 h2 h3
          go_wp2_with fail
          refine (HT.out _ Q5.out).mono ?_
          rintro e w6 ⟨rfl, b6⟩
          have B6 := Lib.hid (Below.step b6 B5.out.size B5.out)
          have R6 := Lib.hid (R5.out.below b6)
          have U6 := Lib.hid (U5.out.below b6)
          have Q6 := Lib.hid (Q5.out.below b6)
          clear b6 HT
          go_wp2_with fail
          refine (H3.out _ R6.out Q6.out).mono ?_
          rintro e w7 ⟨rfl, b7⟩
          have B7 := Lib.hid (Below.step b7 B6.out.size B6.out)
          have U7 := Lib.hid (U6.out.below b7)
          have Q7 := Lib.hid (Q6.out.below b7)
          clear b7
          cases ok
          · have ho' := ho rfl
            have ho2 : (0 : Int) < ((overF ta l).length : Int) := by omega
            generalize overF ta l = os at H4 ho' ho2
            clear ho
            go_wp2_with fail
            refine (H4.out _ U7.out Q7.out).mono ?_
            rintro e w8 ⟨y, rfl, o8, b8⟩
            obtain ⟨A8, c8, rfl⟩ := ownG_shape o8
            have B8 := Lib.hid (Below.step b8 B7.out.size B7.out)
            clear o8 b8
            go_wp2
            go_ret
            exact ⟨rfl, B8.out⟩
          · clear ho
            go_wp2
            go_ret
            exact ⟨rfl, B7.out⟩
end Go.Proofs.Ythcmecgmidopoaa
