/- The drawn law on WayValid: the walk. -/
import Derived.Test.YtaadobcfijegcaaDoorWayS
import Derived.Test.YtaadobcfijegcaaDoorDrawW
import Derived.Test.YtaadobcfijegcaaDoorName
set_option linter.unusedSimpArgs false
set_option linter.unusedVariables false
set_option linter.unusedSectionVars false
namespace Go.Proofs.YtaadobcfijegcaaDoor
open Go.RowKit

theorem spl_app (l r : List UInt8) : spl (l ++ 47 :: r) = spl l ++ spl r := by
  induction l with
  | nil => rw [List.nil_append, spl_slash]; rfl
  | cons c cs ih =>
    by_cases hc : c = 47
    · subst hc; rw [List.cons_append, spl_slash, spl_slash, ih]; rfl
    · obtain ⟨h, t, e⟩ := spl_ne cs
      rw [List.cons_append, spl_other hc e, spl_other hc (h := h) (t := t ++ spl r) (by rw [ih, e]; rfl)]; rfl
theorem way_three (l : List UInt8) : wayB (l ++ [47, 46, 46, 46]) = false := by
  unfold wayB
  rw [spl_app l [46, 46, 46], List.all_append, show (spl [46, 46, 46]).all wordB = false from by decide, Bool.and_false, Bool.and_false]
theorem way_point {l : List UInt8} (h : wayB l = true) : wayB (l ++ [47, 46]) = decide ((spl l).length < 12) := by
  unfold wayB at h ⊢
  simp only [Bool.and_eq_true] at h
  rw [spl_app l [46], List.all_append, h.2, show (spl [46]).all wordB = true from by decide, Bool.and_true, Bool.and_true, List.length_append, show (spl [46]).length = 1 from by decide]
  exact decide_eq_decide.2 (by omega)
theorem data_mk (a : ByteArray) (l : List UInt8) : (a ++ ⟨l.toArray⟩).data.toList = a.data.toList ++ l := by
  rw [Go.Joins.data_append]
set_option maxRecDepth 100000 in
set_option maxHeartbeats 2000000 in
theorem walkFnWayValid (a : Option Addr) (len cap : Nat) (zs : List Int) (w : World) (hsh : w.ShapedOpen Tryd.prog) (hrow : IsRow .u8 w a len cap zs) :
    Calls Tryd.prog 4 #[.slice a len cap] w fun e w' => e = .returned (.bool true) ∧ Below w.heap.size w w' := by
  obtain ⟨hl1, hl2⟩ := hrow.len_le
  unfold maxLen at hl2
  by_cases hbig : (1048576 : Int) < (len : Int)
  · go_enter Tryd.func4, Tryd.ntmps4
    go_wp2
    go_ret
    exact ⟨rfl, Below.refl _ _⟩
  · have hm0 := maxL_of hsh
    go_enter Tryd.func4, Tryd.ntmps4
    go_wp2_with fail
    refine (drawWV_any a len cap zs _ hrow).mono ?_
    rintro e w1 ⟨s, rfl, hs, b1⟩
    have hm1 := hm0.below b1
    go_wp2_with fail
    refine (wayValidI_of s w1 hm1 (by omega)).mono ?_
    rintro e w2 ⟨rfl, b2⟩
    have hm2 := hm1.below b2
    have c2 := Below.step b2 b1.size b1
    go_wp2_with fail
    refine (wayValidS_of s w2 (by omega)).mono ?_
    rintro e w3 ⟨rfl, b3⟩
    have hm3 := hm2.below b3
    have c3 := Below.step b3 c2.size c2
    have C3 := Lib.hid c3
    have hlen := spl_len s.data.toList
    rw [size_list] at hlen
    go_wp2
    go_loop [5, 6] (fun m i => ∃ k : Nat, k ≤ s.size ∧ i = .int .i64 k ∧ m = .int .i64 ((spl (s.data.toList.take k)).length : Int)) (fun _ i => s.size - (intOf i).toNat)
    case atStart => exact ⟨0, Nat.zero_le _, rfl, rfl⟩
    case round =>
      obtain ⟨k, hk, rfl, rfl⟩ := hrel
      by_cases hlt : k < s.size
      · have htk : s.data.toList.take (k + 1) = s.data.toList.take k ++ [s[k]] := by
          rw [List.take_succ_eq_append_getElem (by rw [size_list]; exact hlt)]; rfl
        have hlk := spl_len (s.data.toList.take k)
        rw [List.length_take, size_list] at hlk
        by_cases hc : s[k] = 47
        · have hc' : ((s[k].toNat : Int) == 47) = true := by rw [hc]; rfl
          have hn : (spl (s.data.toList.take (k + 1))).length = (spl (s.data.toList.take k)).length + 1 := by rw [htk, hc, spl_snoc_slash, List.length_append]; rfl
          have Hn := Lib.hid hn; clear hn
          generalize (spl (s.data.toList.take k)).length = n at hlk Hn ⊢
          have z1 : IntKind.i64.wrap ((n : Int) + 1) = (n : Int) + 1 := IntWalk.i64_in _ (by omega)
          clear htk hc
          go_wp2
          go_round
          case rel => exact ⟨k + 1, by omega, by go_num, by rw [Hn.out]; push_cast; rfl⟩
          case measure => simp [intOf]; omega
        · have hc' : ((s[k].toNat : Int) == 47) = false := by
            rw [beq_eq_false_iff_ne]; intro e
            exact hc (UInt8.toNat_inj.1 (by have : s[k].toNat = 47 := by omega
                                            rw [this]; rfl))
          have hn : (spl (s.data.toList.take (k + 1))).length = (spl (s.data.toList.take k)).length := by
            rw [htk, spl_snoc_other hc]; unfold lastPut; simp; omega
          have Hn := Lib.hid hn; clear hn htk hc
          generalize (spl (s.data.toList.take k)).length = n at hlk Hn ⊢
          go_wp2
          go_round
          case rel => exact ⟨k + 1, by omega, by go_num, by rw [Hn.out]⟩
          case measure => simp [intOf]; omega
      · obtain rfl : k = s.size := by omega
        rw [List.take_of_length_le (by rw [size_list]; exact Nat.le_refl _)]
        have h3 := way_three s.data.toList
        have h1 : wayB s.data.toList = true → wayB (s.data.toList ++ [47, 46]) = decide ((spl s.data.toList).length < 12) := way_point
        generalize hnn : (spl s.data.toList).length = n at hlen h1 ⊢
        clear hnn
        rw [← data_mk] at h3
        rw [← data_mk] at h1
        have hsum : s.size + (ByteArray.mk #[47, 46, 46, 46]).size ≤ 9223372036854775807 := by rw [show (ByteArray.mk #[47, 46, 46, 46]).size = 4 from rfl]; omega
        have hsum2 : s.size + (ByteArray.mk #[47, 46]).size ≤ 9223372036854775807 := by rw [show (ByteArray.mk #[47, 46]).size = 2 from rfl]; omega
        have hsz1 : (s ++ ByteArray.mk #[47, 46, 46, 46]).size ≤ 1048576 := by rw [ByteArray.size_append, show (ByteArray.mk #[47, 46, 46, 46]).size = 4 from rfl]; omega
        have hsz2 : (s ++ ByteArray.mk #[47, 46]).size ≤ 1048576 := by rw [ByteArray.size_append, show (ByteArray.mk #[47, 46]).size = 2 from rfl]; omega
        go_wp2_with fail
        refine (wayValidI_of _ _ hm3 hsz1).mono ?_
        rintro e w4 ⟨rfl, b4⟩
        rw [show wayB (s ++ ByteArray.mk #[47, 46, 46, 46]).data.toList = false from h3]
        have hm4 := hm3.below b4
        have c4 := Below.step b4 C3.out.size C3.out
        cases hok : wayB s.data.toList
        · go_wp2_with (go_at_call 17; refine (alive_any _).mono ?_; rintro e w' ⟨rfl, rfl⟩)
          go_ret
          exact ⟨rfl, c4⟩
        · have h1 := h1 hok
          go_wp2_with fail
          refine (wayValidI_of _ _ hm4 hsz2).mono ?_
          rintro e w5 ⟨rfl, b5⟩
          rw [show wayB (s ++ ByteArray.mk #[47, 46]).data.toList = decide (n < 12) from h1]
          have c5 := Below.step b5 c4.size c4
          have e12 : decide (n < 12) = decide ((n : Int) < 12) := decide_eq_decide.2 (by omega)
          rw [e12]
          go_wp2_with (go_at_call 17; refine (alive_any _).mono ?_; rintro e w' ⟨rfl, rfl⟩)
          go_ret
          exact ⟨rfl, c5⟩
end Go.Proofs.YtaadobcfijegcaaDoor
