/- The drawn laws on AboveOf and FollowWay: the walks. -/
import Derived.Test.YtaadobcfijegcaaDoorDrawP2
import Derived.Test.YtaadobcfijegcaaDoorAbove
import Derived.Test.YtaadobcfijegcaaDoorLawBR
set_option linter.unusedSimpArgs false
set_option linter.unusedVariables false
set_option linter.unusedSectionVars false
namespace Go.Proofs.YtaadobcfijegcaaDoor
open Go.RowKit

theorem above_size (s : List UInt8) : (aboveF s).length ≤ 54 := by
  cases h : aboveOk s
  · have : ¬ (okP s = true ∧ partsP s ≠ []) := fun ⟨h1, h2⟩ => by rw [(above_yes h1 h2).2.2] at h; cases h
    unfold aboveF; rw [if_neg this]; exact Nat.zero_le _
  · exact ok_size (above_law h).2.2.2.1
theorem last_size (s : List UInt8) : (lastF s).length ≤ 8 := by
  cases h : aboveOk s
  · have : ¬ (okP s = true ∧ partsP s ≠ []) := fun ⟨h1, h2⟩ => by rw [(above_yes h1 h2).2.2] at h; cases h
    unfold lastF; rw [if_neg this]; exact Nat.zero_le _
  · exact nameB_size (above_law h).2.2.1
theorem above_none {s : List UInt8} (h : aboveOk s = false) : aboveF s = [] ∧ lastF s = [] := by
  have : ¬ (okP s = true ∧ partsP s ≠ []) := fun ⟨h1, h2⟩ => by rw [(above_yes h1 h2).2.2] at h; cases h
  exact ⟨by unfold aboveF; rw [if_neg this], by unfold lastF; rw [if_neg this]⟩
set_option maxRecDepth 100000 in
set_option maxHeartbeats 2000000 in
theorem walkFnAboveOf (a : Option Addr) (len cap : Nat) (zs : List Int) (w : World) (hsh : w.ShapedOpen Tryd.prog) (hrow : IsRow .u8 w a len cap zs) :
    Calls Tryd.prog 11 #[.slice a len cap] w fun e w' => e = .returned (.bool true) ∧ Below w.heap.size w w' := by
  obtain ⟨hl1, hl2⟩ := hrow.len_le
  unfold maxLen at hl2
  by_cases hbig : (1048576 : Int) < (len : Int)
  · go_enter Tryd.func11, Tryd.ntmps11
    go_wp2
    go_ret
    exact ⟨rfl, Below.refl _ _⟩
  · have hm0 := maxL_of hsh
    go_enter Tryd.func11, Tryd.ntmps11
    go_wp2_with fail
    refine (drawAO_any a len cap zs _ hrow).mono ?_
    rintro e w1 ⟨s, rfl, hs, b1⟩
    have hm1 := hm0.below b1
    have h1 := fun w hm => aboveI_of s w hm (by omega)
    have h2 := fun w => aboveS_of s w (by omega)
    unfold AbvGot at h1 h2
    have hno := fun h => above_none (s := s.data.toList) h
    have hyes := fun h => above_law (s := s.data.toList) h
    have z1 := above_size s.data.toList
    have z2 := last_size s.data.toList
    have h3 := fun w hm => followI_of (mk (aboveF s.data.toList)) (mk (lastF s.data.toList)) w hm (by rw [mk_size]; omega) (by rw [mk_size]; omega)
    have h4 := fun w hm => isBelowI_of s (mk (aboveF s.data.toList)) w hm (by omega) (by rw [mk_size]; omega)
    have h5 := fun w => nameValid_any (mk (lastF s.data.toList)) w (by rw [mk_size]; unfold maxLen; omega)
    rw [mk_data, mk_data] at h3
    rw [mk_data] at h4 h5
    go_wp2_with fail
    refine (h1 w1 hm1).mono ?_
    rintro e w2 ⟨rfl, b2⟩
    have hm2 := hm1.below b2
    have c2 := Below.step b2 b1.size b1
    go_wp2_with fail
    refine (h2 w2).mono ?_
    rintro e w3 ⟨rfl, b3⟩
    have hm3 := hm2.below b3
    have c3 := Below.step b3 c2.size c2
    clear h1 h2
    cases hk : aboveOk s.data.toList
    · obtain ⟨e1, e2⟩ := hno hk
      rw [e1, e2, mk_nil]
      clear hno hyes h3 h4 h5 hk e1 e2
      go_wp2_with (go_at_call 17; refine (alive_any _).mono ?_; rintro e w' ⟨rfl, rfl⟩)
      go_ret
      exact ⟨rfl, c3⟩
    · obtain ⟨e1, e2, e3, _, _⟩ := hyes hk
      rw [e1, mk_of] at h3
      rw [e2] at h4
      rw [e3] at h5
      clear hno hyes hk e1 e2 e3 z1 z2
      generalize mk (aboveF s.data.toList) = x at h3 h4 ⊢
      generalize mk (lastF s.data.toList) = y at h3 h5 ⊢
      have H3 := Lib.hid h3
      have H4 := Lib.hid h4
      have H5 := Lib.hid h5
      clear h3 h4 h5
      go_wp2_with fail
      refine (H3.out w3 hm3).mono ?_
      rintro e w4 ⟨rfl, b4⟩
      have hm4 := hm3.below b4
      have c4 := Below.step b4 c3.size c3
      go_wp2_with fail
      refine (H4.out w4 hm4).mono ?_
      rintro e w5 ⟨rfl, b5⟩
      have c5 := Below.step b5 c4.size c4
      go_wp2_with fail
      refine (H5.out w5).mono ?_
      rintro e w6 ⟨rfl, rfl⟩
      go_wp2
      go_ret
      exact ⟨rfl, c5⟩
end Go.Proofs.YtaadobcfijegcaaDoor
