/- The drawn law on LinksOf: the walk. -/
import Derived.Test.YthcmecgmidopoaaMG
import Derived.Test.YthcmecgmidopoaaMH
set_option linter.unusedSimpArgs false
set_option linter.unusedVariables false
set_option linter.unusedSectionVars false
namespace Go.Proofs.Ythcmecgmidopoaa
open Go.RowKit

theorem treeC_r {B : Nat} {w : World} {v : Value} {cs : List Cn} {t : List Nd} (h : TreeC B w v cs t) : TreeR w v t := TreeO.r ⟨cs, h⟩
def inN (m : Nat) (z : Int) : Bool := decide (0 ≤ z ∧ z < (m : Int))
theorem cnt_step (m : Nat) : ∀ P : List Int, (P.filter (inN m)).length + P.count (m : Int) = (P.filter (inN (m + 1))).length
  | [] => rfl
  | a :: r => by
    have ih := cnt_step m r
    rw [List.filter_cons, List.filter_cons, List.count_cons]
    by_cases h1 : 0 ≤ a ∧ a < (m : Int)
    · have e1 : inN m a = true := decide_eq_true h1
      have e2 : inN (m + 1) a = true := decide_eq_true (by omega)
      have e3 : (a == (m : Int)) = false := beq_eq_false_iff_ne.2 (by omega)
      rw [e1, e2, e3, if_pos rfl, if_pos rfl, if_neg (by simp), List.length_cons, List.length_cons]
      omega
    · by_cases h4 : a = (m : Int)
      · have e1 : inN m a = false := decide_eq_false h1
        have e2 : inN (m + 1) a = true := decide_eq_true (by omega)
        have e3 : (a == (m : Int)) = true := beq_iff_eq.2 h4
        rw [e1, e2, e3, if_neg (by simp), if_pos rfl, if_pos rfl, List.length_cons]
        omega
      · have e1 : inN m a = false := decide_eq_false h1
        have e2 : inN (m + 1) a = false := decide_eq_false (by omega)
        have e3 : (a == (m : Int)) = false := beq_eq_false_iff_ne.2 h4
        rw [e1, e2, e3, if_neg (by simp), if_neg (by simp), if_neg (by simp)]
        omega
theorem cnt_sum (P : List Int) : ∀ m : Nat, ((List.range m).map fun (i : Nat) => ((P.count (i : Int) : Nat) : Int)).sum = ((P.filter (inN m)).length : Int)
  | 0 => by
    have : P.filter (inN 0) = [] := by
      rw [List.filter_eq_nil_iff]
      intro a _
      unfold inN
      rw [decide_eq_true_eq]
      omega
    rw [this]; rfl
  | m + 1 => by
    rw [List.range_succ, List.map_append, List.sum_append, cnt_sum P m]
    have := cnt_step m P
    simp only [List.map_cons, List.map_nil, List.sum_cons, List.sum_nil, Int.add_zero]
    omega
theorem links_take (t : List Nd) (k : Nat) : 0 ≤ ((linksF t).take k).sum ∧ ((linksF t).take k).sum ≤ ((kidsOf t).length : Int) := by
  unfold linksF
  split
  · have e : (cntL t.length (kidsOf t)).take k = (List.range (min k t.length)).map fun (i : Nat) => (((kidsOf t).count (i : Int) : Nat) : Int) := by
      unfold cntL
      rw [← List.map_take, List.take_range]
    rw [e, cnt_sum]
    have := List.length_filter_le (inN (min k t.length)) (kidsOf t)
    omega
  · simp
theorem links_all {t : List Nd} (h : linksOk t = true) : (linksF t).sum = ((kidsOf t).length : Int) := by
  rw [links_yes h]
  unfold cntL
  rw [cnt_sum, List.filter_eq_self.2]
  intro z hz
  have := (linksOk_iff.1 h).2 z hz
  exact decide_eq_true (by omega)
theorem lnk_zero {t : List Nd} (h : treeB t = true) : lnk t 0 = 0 := by
  have h' := h
  rw [← treeI_eq] at h'
  unfold treeI at h'
  simp only [Bool.and_eq_true, decide_eq_true_eq] at h'
  have := h'.2.2.2.1
  unfold lnk at this ⊢
  omega
theorem sum_next {l : List Int} {k : Nat} (h : k < l.length) : (l.take (k + 1)).sum = (l.take k).sum + nthL l k := by
  rw [List.take_add_one, nthL_at h]
  simp
theorem kids_next {t : List Nd} {k : Nat} (h : k < t.length) : (kidsOf (t.take (k + 1))).length = (kidsOf (t.take k)).length + (kth t k).ks.length := by
  rw [List.take_add_one, kth_at h]
  simp [kidsOf]
theorem kids_take_le (t : List Nd) (k : Nat) : (kidsOf (t.take k)).length ≤ (kidsOf t).length := by
  have : kidsOf t = kidsOf (t.take k) ++ kidsOf (t.drop k) := by
    unfold kidsOf
    rw [← List.flatMap_append, List.take_append_drop]
  rw [this, List.length_append]; omega
set_option maxRecDepth 100000 in
set_option maxHeartbeats 4000000 in
theorem walkFnLinksOf (a : Option Addr) (len cap : Nat) (zs : List Int) (w : World) (hrow : IsRow .u8 w a len cap zs) :
    Calls Try.prog 4 #[.slice a len cap] w fun e w' => e = .returned (.bool true) ∧ Below w.heap.size w w' := by
  obtain ⟨hl1, hl2⟩ := hrow.len_le
  unfold maxLen at hl2
  by_cases hbig : (1048576 : Int) < (len : Int)
  · go_enter Try.func4, Try.ntmps4
    go_wp2
    go_ret
    exact ⟨rfl, Below.refl _ _⟩
  · go_enter Try.func4, Try.ntmps4
    go_wp2_with fail
    refine (drawLO_any a len cap zs _ hrow).mono ?_
    rintro e w1 ⟨v, cs, t, rfl, hT, hn, hk, _, b1⟩
    have hR := treeC_r hT
    have H1 := Lib.hid (fun w h => linksI_of v t w h (by omega) (by omega))
    have H2 := Lib.hid (fun w h => linksS_of v t w h (by omega) (by omega))
    have H3 := Lib.hid (fun w h => treeI_of v t w h (by omega) (by omega))
    have HR := Lib.hid hR
    obtain ⟨A, c, rfl⟩ := hR.shape
    have hcap := hR.caps
    have B1 := Lib.hid b1
    clear hT hR b1
    go_wp2_with fail
    refine (H1.out _ HR.out).mono ?_
    rintro e w2 ⟨x, rfl, o2, b2⟩
    have B2 := Lib.hid (Below.step b2 B1.out.size B1.out)
    have R2 := Lib.hid (HR.out.below b2)
    have X2 := Lib.hid (ownG_sl o2)
    obtain ⟨A2, c2, rfl⟩ := ownG_shape o2
    have hxc := X2.out.caps
    clear o2 b2
    go_wp2_with fail
    refine (H2.out _ R2.out).mono ?_
    rintro e w3 ⟨y, rfl, o3, b3⟩
    have B3 := Lib.hid (Below.step b3 B2.out.size B2.out)
    have R3 := Lib.hid (R2.out.below b3)
    have X3 := Lib.hid (X2.out.below b3)
    have Y3 := Lib.hid (ownG_sl o3)
    clear o3 b3
    have hsm := sameInts_of _ _ _ _ w3 X3.out Y3.out
    rw [decide_eq_true rfl] at hsm
    have Hsm := Lib.hid hsm
    clear hsm
    go_wp2_with fail
    refine Hsm.out.mono ?_
    rintro e w4 ⟨rfl, nd, rfl⟩
    obtain ⟨l, hl⟩ : ∃ l, l = linksF t := ⟨_, rfl⟩
    have hlk := fun k => links_take t k
    have X4 : Hid (SlG EI (w3.drewN nd) (.slice A2 l.length c2) l) := Lib.hid (by rw [hl]; exact X3.out.below (below_drewN (Below.refl _ _) _))
    have R4 := Lib.hid (R3.out.below (w' := w3.drewN nd) (below_drewN (Below.refl _ _) _))
    have B4 := Lib.hid (Below.step (below_drewN (Below.refl w3.heap.size w3) nd) B3.out.size B3.out)
    rw [← hl] at hlk hxc ⊢
    have Hlk := Lib.hid hlk
    have Hl := Lib.hid hl
    have hll : l.length ≤ 20 := by rw [hl]; unfold linksF; split
                                   · rw [cntL_len]; omega
                                   · simp
    clear hl hlk X2 X3 R2 R3 B2 B3 Y3 Hsm
    go_wp2
    go_loopw [5, 7] (fun s i wr => ∃ k : Nat, k ≤ l.length ∧ i = .int .i64 k ∧ s = .int .i64 (l.take k).sum ∧ wr = w3.drewN nd) (fun _ i _ => l.length - (intOf i).toNat)
    case atStart => exact ⟨0, Nat.zero_le _, rfl, rfl, rfl⟩
    case round =>
      obtain ⟨k, hk, rfl, rfl, rfl⟩ := hrel
      by_cases hlt : k < l.length
      · have hs := sum_next hlt
        obtain ⟨z0, z1⟩ := Hlk.out k
        obtain ⟨z2, z3⟩ := Hlk.out (k + 1)
        have Hs := Lib.hid hs
        rw [hs] at z2 z3
        obtain ⟨b5, o5, rfl, hb5, q5⟩ := X4.out.at_ (nthL_at hlt)
        have c5 : (w3.drewN nd).cell? ⟨b5, o5 + k, none⟩ = some (.int .i64 (nthL l k)) := by have := q5 0 _ rfl; simpa [EI] using this
        generalize nthL l k = z at c5 z2 z3 Hs
        generalize (l.take k).sum = s at z0 z1 z2 z3 Hs
        clear hs q5
        go_wp2
        go_roundw
        case rel => exact ⟨k + 1, hlt, by go_num, by rw [Hs.out], by first | trivial | rfl⟩
        case measure => simp [intOf]; omega
      · obtain rfl : k = l.length := by omega
        have hs : (l.take l.length).sum = l.sum := by rw [List.take_length]
        rw [hs]
        clear hs
        go_wp2
        go_loopw [6, 8] (fun s i wr => ∃ k : Nat, k ≤ t.length ∧ i = .int .i64 k ∧ s = .int .i64 (kidsOf (t.take k)).length ∧ wr = w3.drewN nd) (fun _ i _ => t.length - (intOf i).toNat)
        case atStart => exact ⟨0, Nat.zero_le _, rfl, rfl, rfl⟩
        case round =>
          obtain ⟨k, hk, rfl, rfl, rfl⟩ := hrel
          have hsz := Hl.out
          by_cases hlt : k < t.length
          · have hs := kids_next hlt
            have z1 := kids_take_le t (k + 1)
            obtain ⟨b, off, nA, nC, kA, kC, rfl, hb, hS, _, _, _, _, _, _, q6⟩ := R4.out.at_ (kth_at hlt)
            have Hs := Lib.hid hs
            have hkc := hS.ks.caps
            rw [hs] at z1
            generalize (kidsOf (t.take k)).length = s at z1 Hs
            clear hs hS
            go_wp2
            go_roundw
            case rel => exact ⟨k + 1, hlt, by go_num, by rw [Hs.out]; go_num, by first | trivial | rfl⟩
            case measure => simp [intOf]; omega
          · obtain rfl : k = t.length := by omega
            have hs : kidsOf (t.take t.length) = kidsOf t := by rw [List.take_length]
            rw [hs]
            clear hs
            cases hok : linksOk t
            · have hl0 : l = [] := by rw [hsz]; exact links_no hok
              have ht : treeB t = false := by rw [← treeI_eq]; exact treeI_no hok
              have Ht := Lib.hid ht
              subst hl0
              clear hsz ht hok
              go_wp2_with (first | (go_at_call 12; refine (H3.out _ R4.out).mono ?_; rintro e w5 ⟨rfl, b5⟩; rw [Ht.out]; have B5 := Below.step b5 B4.out.size B4.out; clear b5) | (go_at_call 14; refine (alive_any _).mono ?_; rintro e w' ⟨rfl, rfl⟩))
              go_ret
              exact ⟨rfl, B5⟩
            · have hsum : l.sum = ((kidsOf t).length : Int) := by rw [hsz]; exact links_all hok
              have hll2 : l.length = t.length := by rw [hsz, links_yes hok, cntL_len]
              rw [hsum]
              rw [hll2]
              have X5 := X4
              rw [hll2] at X5
              by_cases hn0 : t.length = 0
              · obtain rfl : t = [] := List.length_eq_zero_iff.1 hn0
                have ht : treeB [] = false := by rw [← treeI_eq]; exact treeI_empty rfl
                have Ht := Lib.hid ht
                have R5 : Hid (TreeR (w3.drewN nd) (.slice A 0 c) []) := R4
                have hk0 : ((kidsOf []).length : Int) = 0 := rfl
                rw [hk0]
                clear hsum hll2 hsz ht hok hn0 hk0 R4 X4 HR Hl hcap hn hk
                go_wp2_with (first | (go_at_call 12; refine (H3.out _ R5.out).mono ?_; rintro e w5 ⟨rfl, b5⟩; rw [Ht.out]; have B5 := Below.step b5 B4.out.size B4.out; clear b5) | (go_at_call 14; refine (alive_any _).mono ?_; rintro e w' ⟨rfl, rfl⟩))
                go_ret
                exact ⟨rfl, B5⟩
              · have n4 : ((t.length : Int) == 0) = false := beq_eq_false_iff_ne.2 (by omega)
                have n4b : (t.length == 0) = false := beq_eq_false_iff_ne.2 (by omega)
                have n3 : (0 : Int) < (t.length : Int) := by omega
                have n3n : 0 < t.length := by omega
                cases ht : treeB t
                · have Ht := Lib.hid ht
                  clear hsum hll2 hsz ht hok
                  go_wp2_with (first | (go_at_call 12; refine (H3.out _ R4.out).mono ?_; rintro e w5 ⟨rfl, b5⟩; rw [Ht.out]; have B5 := Below.step b5 B4.out.size B4.out; clear b5) | (go_at_call 14; refine (alive_any _).mono ?_; rintro e w' ⟨rfl, rfl⟩))
                  go_ret
                  exact ⟨rfl, B5⟩
                · have Ht := Lib.hid ht
                  have hx0 : l[0]? = some 0 := by
                    rw [hsz, links_yes hok, cntL_get n3n]
                    have := lnk_zero ht
                    unfold lnk at this
                    rw [this]
                  obtain ⟨b5, o5, rfl, hb5, q5⟩ := X4.out.at_ hx0
                  have hb5' : b5 < (w3.drewN nd).heap.size := hb5
                  have q6 : (w3.drewN nd).cell? ⟨b5, o5, none⟩ = some (.int .i64 0) := by have := q5 0 _ rfl; simpa [EI] using this
                  clear hsum hll2 hsz ht hok q5 hx0
                  go_wp2_with (first | (go_at_call 12; refine (H3.out _ R4.out).mono ?_; rintro e w5 ⟨rfl, b6⟩; rw [Ht.out]; have q7 := (b6.cell (p := ⟨b5, o5, none⟩) hb5').trans q6; have B5 := Below.step b6 B4.out.size B4.out; clear b6) | (go_at_call 14; refine (alive_any _).mono ?_; rintro e w' ⟨rfl, rfl⟩))
                  go_ret
                  exact ⟨rfl, B5⟩
end Go.Proofs.Ythcmecgmidopoaa
