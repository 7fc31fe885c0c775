/- The drawn law on UsageOf: the walk. -/
import Derived.Test.YthcmecgmidopoaaLawOU
set_option linter.unusedSimpArgs false
set_option linter.unusedVariables false
set_option linter.unusedSectionVars false
namespace Go.Proofs.Ythcmecgmidopoaa
open Go.RowKit

theorem txSum_range {t : List Nd} (h : treeB t = true) : ∀ k, k ≤ t.length → 0 ≤ txSum t k ∧ txSum t k ≤ 40 * (k : Int)
  | 0, _ => ⟨Int.le_refl _, Int.le_refl _⟩
  | k + 1, hk => by
    have := txSum_range h k (by omega)
    have hs := node_size (tree_node h (show k < t.length by omega))
    show 0 ≤ txSum t k + _ ∧ txSum t k + _ ≤ _
    omega
set_option maxRecDepth 100000 in
set_option maxHeartbeats 4000000 in
theorem walkFnUsageOf (a : Option Addr) (len cap : Nat) (zs : List Int) (w : World) (hrow : IsRow .u8 w a len cap zs) :
    Calls Try.prog 6 #[.slice a len cap] w fun e w' => e = .returned (.bool true) ∧ Below w.heap.size w w' := by
  obtain ⟨hl1, hl2⟩ := hrow.len_le
  unfold maxLen at hl2
  by_cases hbig : (1048576 : Int) < (len : Int)
  · go_enter Try.func6, Try.ntmps6
    go_wp2
    go_ret
    exact ⟨rfl, Below.refl _ _⟩
  · go_enter Try.func6, Try.ntmps6
    go_wp2_with fail
    refine (drawUse_any a len cap zs _ hrow).mono ?_
    rintro e w1 ⟨v, t, u, rfl, hR, hn, hk, _, _, _, b1⟩
    have h1 := fun u w h => usageI_of v t u w h (by omega) (by omega)
    have h2 := fun u w h => usageS_of v t u w h (by omega) (by omega)
    have h3 := fun u w h => ownedI_of v t u w h (by omega) (by omega)
    obtain ⟨A, c, rfl⟩ := hR.shape
    have hcap := hR.caps
    have HR := Lib.hid hR
    have B1 := Lib.hid b1
    have H1 := Lib.hid h1
    have H2 := Lib.hid h2
    have H3 := Lib.hid h3
    clear hR b1 h1 h2 h3
    cases ht : treeB t
    · have hu := usage_no (u := u) ht
      have h1 := H1.out u
      have h2 := H2.out u
      rw [hu] at h1 h2
      have K1 := Lib.hid h1
      have K2 := Lib.hid h2
      clear h1 h2 hu ht H1 H2 H3
      go_wp2_with fail
      refine (K1.out _ HR.out).mono ?_
      rintro e w2 ⟨rfl, b2⟩
      have B2 := Lib.hid (Below.step b2 B1.out.size B1.out)
      have R2 := Lib.hid (HR.out.below b2)
      clear b2
      go_wp2_with fail
      refine (K2.out _ R2.out).mono ?_
      rintro e w3 ⟨rfl, b3⟩
      have B3 := Lib.hid (Below.step b3 B2.out.size B2.out)
      clear b3
      go_wp2_with (go_at_call 14; refine (alive_any _).mono ?_; rintro e w' ⟨rfl, rfl⟩)
      go_ret
      exact ⟨rfl, B3.out⟩
    · have hu := fun u => usage_yes (u := u) ht
      have h1 := fun w h => H1.out u w h
      have h2 := fun w h => H2.out u w h
      have hlen := useN_len t u t.length
      have ho := owned_yes (u := u) ht
      have hsum := usage_sum ht
      rw [hu] at h1 h2
      rw [← ho] at hlen
      simp only [hlen] at h1 h2
      have K1 := Lib.hid h1
      have K2 := Lib.hid h2
      have zn : 0 ≤ ((ownedF t u).length : Int) := by omega
      have h3 := H3.out u
      have zb := useB_range u ht t.length (Nat.le_refl _)
      generalize useB t u t.length = ub at K1 K2 zb
      obtain ⟨l, hl⟩ : ∃ l, l = ownedF t u := ⟨_, rfl⟩
      rw [← hl] at zn h3 K1 K2
      have K3 := Lib.hid h3
      have zll : l.length ≤ 20 := by rw [hl]; have := owned_len t u; omega
      obtain ⟨f, hf⟩ : ∃ f : Int → Int, f = fun u => (usageF t u).2 := ⟨_, rfl⟩
      have hus : ∀ z, 0 ≤ f z ∧ f z ≤ 800 := fun z => by
        have h := useB_range z ht t.length (Nat.le_refl _)
        rw [hf]
        show 0 ≤ (usageF t z).2 ∧ (usageF t z).2 ≤ 800
        rw [hu]
        exact ⟨h.1, Int.le_trans h.2 (by omega)⟩
      have hfr := fun m => sumU_range (f := f) (c := 800) (by decide) hus m
      have Hfr := Lib.hid hfr
      have Hus := Lib.hid hus
      have Htx := Lib.hid (fun k hk => txSum_range ht k hk)
      have Hsz := Lib.hid (fun k (hk : k < t.length) => node_size (tree_node ht hk))
      rw [← hf] at hsum
      have Hsum := Lib.hid hsum
      have Hf := Lib.hid hf
      clear h1 h2 h3 hlen ho hl hsum hu hf hfr hus ht H2 H3
      go_wp2_with fail
      refine (K1.out _ HR.out).mono ?_
      rintro e w2 ⟨rfl, b2⟩
      have B2 := Lib.hid (Below.step b2 B1.out.size B1.out)
      have R2 := Lib.hid (HR.out.below b2)
      clear b2
      go_wp2_with fail
      refine (K2.out _ R2.out).mono ?_
      rintro e w3 ⟨rfl, b3⟩
      have B3 := Lib.hid (Below.step b3 B2.out.size B2.out)
      have R3 := Lib.hid (R2.out.below b3)
      clear b3 R2 B2 HR B1
      go_wp2
      go_loopw [9, 11] (fun s i wr => ∃ k : Nat, k ≤ 100 ∧ i = .int .i64 k ∧ s = .int .i64 (sumU f k) ∧ Below w.heap.size w wr ∧ TreeR wr (.slice A t.length c) t) (fun _ i _ => 100 - (intOf i).toNat)
      case atStart => exact ⟨0, Nat.zero_le _, rfl, rfl, B3.out, R3.out⟩
      case round =>
        obtain ⟨k, hk100, rfl, rfl, hB, hR⟩ := hrel
        have HB := Lib.hid hB
        have HRR := Lib.hid hR
        clear hB hR
        by_cases hlt : k < 100
        · have zs := Hfr.out k
          have hs := sumU_succ f k
          have hfk : f (k : Int) = (usageF t (k : Int)).2 := by rw [Hf.out]
          have zo := Hus.out (k : Int)
          rw [hfk] at hs zo
          have Hs := Lib.hid hs
          have hk' : (k : Int) ≤ 99 := by omega
          have h1 := fun w h => H1.out (k : Int) w h
          generalize sumU f k = s at zs Hs
          generalize usageF t (k : Int) = us at h1 zo Hs
          have K5 := Lib.hid h1
          clear hs hfk h1
          go_wp2_with fail
          refine (K5.out _ HRR.out).mono ?_
          rintro e w5 ⟨rfl, b5⟩
          have R5 := Lib.hid (HRR.out.below b5)
          have B5 := Lib.hid (Below.step b5 HB.out.size HB.out)
          clear b5
          go_wp2
          go_roundw
          case rel => exact ⟨k + 1, hlt, by go_num, by rw [Hs.out], B5.out, R5.out⟩
          case measure => simp [intOf]; omega
        · obtain rfl : k = 100 := by omega
          rw [Hsum.out]
          go_wp2
          go_loopw [10, 14] (fun s i wq => ∃ k : Nat, k ≤ t.length ∧ i = .int .i64 k ∧ s = .int .i64 (txSum t k) ∧ wq = wr) (fun _ i _ => t.length - (intOf i).toNat)
          case atStart => exact ⟨0, Nat.zero_le _, rfl, rfl, rfl⟩
          case round =>
            obtain ⟨k, hk, rfl, rfl, rfl⟩ := hrel
            by_cases hlt : k < t.length
            · obtain ⟨b, off, nA, nC, kA, kC, rfl, hb, _, y0, y1, y2, y3, y4, y5, y6⟩ := HRR.out.at_ (kth_at hlt)
              have hlt' : (k : Int) < (t.length : Int) := by omega
              have zs := Htx.out k hk
              have zz := Hsz.out k hlt
              have hs : txSum t (k + 1) = txSum t k + ((kth t k).tx.size : Int) := rfl
              have Hs := Lib.hid hs
              generalize txSum t k = s at zs Hs
              clear hs
              go_wp2
              go_roundw
              case rel => exact ⟨k + 1, hlt, by go_num, by rw [Hs.out], by first | trivial | rfl⟩
              case measure => simp [intOf]; omega
            · obtain rfl : k = t.length := by omega
              go_wp2_with fail
              refine (K3.out _ HRR.out).mono ?_
              rintro e w6 ⟨y, rfl, o6, b6⟩
              obtain ⟨A6, c6, rfl⟩ := ownG_shape o6
              have B6 := Lib.hid (Below.step b6 HB.out.size HB.out)
              clear o6 b6
              go_wp2
              go_ret
              exact ⟨rfl, B6.out⟩
end Go.Proofs.Ythcmecgmidopoaa
