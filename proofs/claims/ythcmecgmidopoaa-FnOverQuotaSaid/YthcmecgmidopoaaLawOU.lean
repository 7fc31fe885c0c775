/- The drawn laws on OwnedNodes and UsageOf: the walks. -/
import Derived.Test.YthcmecgmidopoaaMG
import Derived.Test.YthcmecgmidopoaaUsage
import Derived.Test.YthcmecgmidopoaaMH
set_option linter.unusedSimpArgs false
set_option linter.unusedVariables false
set_option linter.unusedSectionVars false
namespace Go.Proofs.Ythcmecgmidopoaa
open Go.RowKit

theorem treeC_r {B : Nat} {w : World} {v : Value} {cs : List Cn} {t : List Nd} (h : TreeC B w v cs t) : TreeR w v t := TreeO.r ⟨cs, h⟩
def sumU (f : Int → Int) : Nat → Int
  | 0 => 0
  | m + 1 => sumU f m + f (m : Int)
theorem sumU_succ (f : Int → Int) (m : Nat) : sumU f (m + 1) = sumU f m + f (m : Int) := rfl
theorem sumU_range {f : Int → Int} {c : Int} (hc : 0 ≤ c) (h : ∀ z, 0 ≤ f z ∧ f z ≤ c) : ∀ m : Nat, 0 ≤ sumU f m ∧ sumU f m ≤ c * m
  | 0 => ⟨Int.le_refl _, by simp [sumU]⟩
  | m + 1 => by
    have := sumU_range hc h m
    have h1 := h (m : Int)
    rw [sumU_succ, show ((m + 1 : Nat) : Int) = (m : Int) + 1 from rfl, Int.mul_add, Int.mul_one]
    omega
theorem sumU_add (f : Int → Int) (z c : Int) : ∀ m : Nat, sumU (fun u => f u + if z = u then c else 0) m = sumU f m + if 0 ≤ z ∧ z < (m : Int) then c else 0
  | 0 => by
    have : ¬ (0 ≤ z ∧ z < ((0 : Nat) : Int)) := by omega
    rw [if_neg this]; rfl
  | m + 1 => by
    rw [sumU_succ, sumU_succ, sumU_add f z c m]
    by_cases h1 : 0 ≤ z ∧ z < (m : Int)
    · rw [if_pos h1, if_neg (show ¬ z = (m : Int) by omega), if_pos (show 0 ≤ z ∧ z < ((m + 1 : Nat) : Int) by omega)]; omega
    · by_cases h2 : z = (m : Int)
      · rw [if_neg h1, if_pos h2, if_pos (show 0 ≤ z ∧ z < ((m + 1 : Nat) : Int) by omega)]; omega
      · rw [if_neg h1, if_neg h2, if_neg (show ¬ (0 ≤ z ∧ z < ((m + 1 : Nat) : Int)) by omega)]; omega
theorem sumU_zero : ∀ m : Nat, sumU (fun _ => 0) m = 0
  | 0 => rfl
  | m + 1 => by rw [sumU_succ, sumU_zero m]; rfl
theorem ownL_next (t : List Nd) (u : Int) (k : Nat) : ((ownL t u (k + 1)).length : Int) = ((ownL t u k).length : Int) + if (kth t k).ow = u then 1 else 0 := by
  by_cases h : (kth t k).ow = u
  · rw [ownL_yes h, if_pos h]; simp
  · rw [ownL_no h, if_neg h]; simp
theorem ownSum_all {t : List Nd} {m : Nat} : ∀ n : Nat, (∀ k, k < n → 0 ≤ (kth t k).ow ∧ (kth t k).ow < (m : Int)) → sumU (fun u => ((ownL t u n).length : Int)) m = (n : Int)
  | 0, _ => sumU_zero m
  | n + 1, h => by
    have ih := ownSum_all n (fun k hk => h k (by omega))
    have e : (fun u => ((ownL t u (n + 1)).length : Int)) = fun u => ((ownL t u n).length : Int) + if (kth t n).ow = u then 1 else 0 := by
      funext u; exact ownL_next t u n
    rw [e, sumU_add, ih, if_pos (h n (by omega))]; omega
def txSum (t : List Nd) : Nat → Int
  | 0 => 0
  | k + 1 => txSum t k + ((kth t k).tx.size : Int)
theorem useSum_all {t : List Nd} {m : Nat} : ∀ n : Nat, (∀ k, k < n → 0 ≤ (kth t k).ow ∧ (kth t k).ow < (m : Int)) → sumU (fun u => useB t u n) m = txSum t n
  | 0, _ => sumU_zero m
  | n + 1, h => by
    have ih := useSum_all n (fun k hk => h k (by omega))
    have e : (fun u => useB t u (n + 1)) = fun u => useB t u n + if (kth t n).ow = u then ((kth t n).tx.size : Int) else 0 := by
      funext u; rfl
    rw [e, sumU_add, ih, if_pos (h n (by omega))]; rfl
theorem useN_len (t : List Nd) (u : Int) : ∀ k, useN t u k = ((ownL t u k).length : Int)
  | 0 => rfl
  | k + 1 => by rw [ownL_next, ← useN_len t u k]; rfl
theorem node_owner {many : Int} {x : Nd} (h : nodeB many x = true) : 0 ≤ x.ow ∧ x.ow ≤ 99 := by
  have := (nodeB_iff.1 h).1
  unfold headB at this
  simp only [Bool.and_eq_true] at this
  exact inB_iffL.1 this.1
theorem owned_sum {t : List Nd} (h : treeB t = true) : sumU (fun u => ((ownedF t u).length : Int)) 100 = (t.length : Int) := by
  have e : (fun u => ((ownedF t u).length : Int)) = fun u => ((ownL t u t.length).length : Int) := by funext u; rw [owned_yes h]
  rw [e]
  exact ownSum_all t.length (fun k hk => by have := node_owner (tree_node h hk); omega)
theorem usage_sum {t : List Nd} (h : treeB t = true) : sumU (fun u => (usageF t u).2) 100 = txSum t t.length := by
  have e : (fun u => (usageF t u).2) = fun u => useB t u t.length := by funext u; rw [usage_yes h]
  rw [e]
  exact useSum_all t.length (fun k hk => by have := node_owner (tree_node h hk); omega)
theorem owned_len (t : List Nd) (u : Int) : 0 ≤ ((ownedF t u).length : Int) ∧ ((ownedF t u).length : Int) ≤ (t.length : Int) := by
  refine ⟨by omega, ?_⟩
  cases h : treeB t
  · rw [owned_no h]; simp
  · rw [owned_yes h]; have := ownL_len t u t.length; omega
/-- A tree and a number were drawn. -/
def DrewTrI (w : World) (e : Ending) (w' : World) : Prop := ∃ (v : Value) (t : List Nd) (x : Int), e = .returned (.tuple #[v, .int .i64 x]) ∧ TreeR w' v t ∧ t.length ≤ 20 ∧ (kidsOf t).length ≤ 16 ∧ Few t ∧ 0 ≤ x ∧ x ≤ 7 ∧ Below w.heap.size w w'
set_option maxHeartbeats 4000000 in
theorem drawOwn_any (a : Option Addr) (len cap : Nat) (zs : List Int) (w : World) (hrow : IsRow .u8 w a len cap zs) : Calls Try.prog 19 #[.slice a len cap] w (DrewTrI w) := by
  go_enter Try.func19, Try.ntmps19
  go_wp2_with (go_at_call 40; refine (open_any _ _ _ _ _ (IsRow.below hrow (by repeat (first | exact Below.refl _ _ | refine Below.alloc ?_ (by simp; try omega) _)))).mono ?_; rintro e w' ⟨A, le, ca, rfl, rfl, zs', hby⟩; (try simp only [World.size_alloc] at hby))
  have hop := rd_opened hby
  refine (l20Tree_any _ _ _ _ hop (by decide) (by decide) (by decide)).mono ?_
  rintro e w1 ⟨v, cs, t, q, rfl, hT, h1, h2, h3, hq1, hq2, hRB⟩
  have hR := treeC_r hT
  have hrd := hRB.rd hop (by omega)
  have hz := hRB.size
  have HRB := Lib.hid hRB
  have HT := Lib.hid hT
  have HR := Lib.hid hR
  have H3 := Lib.hid h3
  have HD := Lib.hid hrd
  clear hT h3 hRB hop hrd hR
  go_wp2_with fail
  refine (l20User_any _ _ _ HD.out (by omega)).mono ?_
  rintro e w2 ⟨x, d, os, rfl, hx0, hx1, rfl⟩
  have HT2 := Lib.hid (show TreeR (ext (w1.setCell ⟨w.heap.size, 1, none⟩ (.int .i64 (q + 1))) d os) v t from treeC_r (HT.out.pick (by simp)))
  have HB2 := Lib.hid (below_opened (HRB.out.pick (q' := q + 1) (d := d) (os := os) (by simp)))
  clear HD HRB HT HR
  go_wp2
  go_ret2
  exact ⟨v, t, x, rfl, HT2.out, h1, h2, H3.out, hx0, hx1, HB2.out⟩
set_option maxHeartbeats 1000000 in
theorem drawUse_any (a : Option Addr) (len cap : Nat) (zs : List Int) (w : World) (hrow : IsRow .u8 w a len cap zs) : Calls Try.prog 22 #[.slice a len cap] w (DrewTrI w) := by
  go_enter Try.func22, Try.ntmps22
  go_wp2_with fail
  refine (drawOwn_any a len cap zs _ hrow).mono ?_
  rintro e w1 ⟨v, t, x, rfl, hR, h1, h2, h3, hx0, hx1, hB⟩
  have HR := Lib.hid hR
  have H3 := Lib.hid h3
  have HB := Lib.hid hB
  clear hR h3 hB
  go_wp2
  go_ret2
  exact ⟨v, t, x, rfl, HR.out, h1, h2, H3.out, hx0, hx1, HB.out⟩
set_option maxRecDepth 100000 in
set_option maxHeartbeats 4000000 in
theorem walkFnOwnedNodes (a : Option Addr) (len cap : Nat) (zs : List Int) (w : World) (hrow : IsRow .u8 w a len cap zs) :
    Calls Try.prog 5 #[.slice a len cap] w fun e w' => e = .returned (.bool true) ∧ Below w.heap.size w w' := by
  obtain ⟨hl1, hl2⟩ := hrow.len_le
  unfold maxLen at hl2
  by_cases hbig : (1048576 : Int) < (len : Int)
  · go_enter Try.func5, Try.ntmps5
    go_wp2
    go_ret
    exact ⟨rfl, Below.refl _ _⟩
  · go_enter Try.func5, Try.ntmps5
    go_wp2_with fail
    refine (drawOwn_any a len cap zs _ hrow).mono ?_
    rintro e w1 ⟨v, t, u, rfl, hR, hn, hk, _, _, _, b1⟩
    have H1 := Lib.hid (fun u w h => ownedI_of v t u w h (by omega) (by omega))
    have H2 := Lib.hid (fun u w h => ownedS_of v t u w h (by omega) (by omega))
    have H3 := Lib.hid (fun w h => treeI_of v t w h (by omega) (by omega))
    have HR := Lib.hid hR
    obtain ⟨A, c, rfl⟩ := hR.shape
    have hcap := hR.caps
    have B1 := Lib.hid b1
    have Hol := Lib.hid (owned_len t)
    have hxl := owned_len t u
    clear hR b1
    go_wp2_with fail
    refine (H1.out _ _ HR.out).mono ?_
    rintro e w2 ⟨x, rfl, o2, b2⟩
    have B2 := Lib.hid (Below.step b2 B1.out.size B1.out)
    have R2 := Lib.hid (HR.out.below b2)
    have X2 := Lib.hid (ownG_sl o2)
    obtain ⟨A2, c2, rfl⟩ := ownG_shape o2
    clear o2 b2
    go_wp2_with fail
    refine (H2.out _ _ R2.out).mono ?_
    rintro e w3 ⟨y, rfl, o3, b3⟩
    have B3 := Lib.hid (Below.step b3 B2.out.size B2.out)
    have R3 := Lib.hid (R2.out.below b3)
    have X3 := Lib.hid (X2.out.below b3)
    have Y3 := Lib.hid (ownG_sl o3)
    clear o3 b3
    have hsm := sameInts_of _ _ _ _ w3 X3.out Y3.out
    rw [decide_eq_true rfl] at hsm
    have Hsm := Lib.hid hsm
    clear hsm
    go_wp2_with fail
    refine Hsm.out.mono ?_
    rintro e w4 ⟨rfl, nd, rfl⟩
    have R4 := Lib.hid (R3.out.below (w' := w3.drewN nd) (below_drewN (Below.refl _ _) _))
    have B4 := Lib.hid (Below.step (below_drewN (Below.refl w3.heap.size w3) nd) B3.out.size B3.out)
    obtain ⟨f, hf⟩ : ∃ f : Int → Int, f = fun u => ((ownedF t u).length : Int) := ⟨_, rfl⟩
    have Hf := Lib.hid hf
    have hfr := fun m => sumU_range (f := f) (c := 20) (by decide) (fun z => by have h := Hol.out z; rw [hf]; exact ⟨h.1, Int.le_trans h.2 (by omega)⟩) m
    have Hfr := Lib.hid hfr
    clear hf hfr X2 X3 R2 R3 B2 B3 Y3 Hsm
    go_wp2
    go_loopw [6, 7] (fun s i wr => ∃ k : Nat, k ≤ 100 ∧ i = .int .i64 k ∧ s = .int .i64 (sumU f k) ∧ Below w.heap.size w wr ∧ TreeR wr (.slice A t.length c) t) (fun _ i _ => 100 - (intOf i).toNat)
    case atStart => exact ⟨0, Nat.zero_le _, rfl, rfl, B4.out, R4.out⟩
    case round =>
      obtain ⟨k, hk100, rfl, rfl, hB, hR⟩ := hrel
      have HB := Lib.hid hB
      have HRR := Lib.hid hR
      clear hB hR
      by_cases hlt : k < 100
      · have zs := Hfr.out k
        have hs := sumU_succ f k
        have hfk : f (k : Int) = ((ownedF t (k : Int)).length : Int) := by rw [Hf.out]
        rw [hfk] at hs
        have Hs := Lib.hid hs
        have zo := Hol.out (k : Int)
        have hk' : (k : Int) ≤ 99 := by omega
        generalize sumU f k = s at zs Hs
        clear hs hfk
        go_wp2_with fail
        refine (H1.out _ _ HRR.out).mono ?_
        rintro e w5 ⟨x, rfl, o5, b5⟩
        obtain ⟨A5, c5, rfl⟩ := ownG_shape o5
        have R5 := Lib.hid (HRR.out.below b5)
        have B5 := Lib.hid (Below.step b5 HB.out.size HB.out)
        generalize (ownedF t (k : Int)).length = n at zo Hs
        clear o5 b5
        go_wp2
        go_roundw
        case rel => exact ⟨k + 1, hlt, by go_num, by rw [Hs.out], B5.out, R5.out⟩
        case measure => simp [intOf]; omega
      · obtain rfl : k = 100 := by omega
        cases ht : treeB t
        · have hx0 := owned_no (u := u) ht
          rw [ht] at H3
          rw [hx0]
          clear ht hx0
          generalize sumU f 100 = s
          go_wp2_with (first | (go_at_call 12; refine (H3.out _ HRR.out).mono ?_; rintro e w5 ⟨rfl, b5⟩; have B5 := Below.step b5 HB.out.size HB.out; clear b5) | (go_at_call 14; refine (alive_any _).mono ?_; rintro e w' ⟨rfl, rfl⟩))
          go_ret
          exact ⟨rfl, B5⟩
        · have hsum : sumU f 100 = (t.length : Int) := by rw [Hf.out]; exact owned_sum ht
          rw [ht] at H3
          rw [hsum]
          clear ht hsum
          go_wp2_with (first | (go_at_call 12; refine (H3.out _ HRR.out).mono ?_; rintro e w5 ⟨rfl, b5⟩; have B5 := Below.step b5 HB.out.size HB.out; clear b5) | (go_at_call 14; refine (alive_any _).mono ?_; rintro e w' ⟨rfl, rfl⟩))
          go_ret
          exact ⟨rfl, B5⟩
end Go.Proofs.Ythcmecgmidopoaa
