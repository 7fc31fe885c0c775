/- The drawn law on IsBelow: the walk. -/
import Derived.Test.YtaadobcfijegcaaDoorDrawP2
import Derived.Test.YtaadobcfijegcaaDoorInside2
import Derived.Test.YtaadobcfijegcaaDoorBelow
set_option linter.unusedSimpArgs false
set_option linter.unusedVariables false
set_option linter.unusedSectionVars false
namespace Go.Proofs.YtaadobcfijegcaaDoor
open Go.RowKit

theorem data_eq {s t : ByteArray} (h : s.data.toList = t.data.toList) : s = t := by rw [mk_list s, mk_list t, h]
set_option maxRecDepth 100000 in
set_option maxHeartbeats 2000000 in
theorem walkFnIsBelow (a : Option Addr) (len cap : Nat) (zs : List Int) (w : World) (hsh : w.ShapedOpen Tryd.prog) (hrow : IsRow .u8 w a len cap zs) :
    Calls Tryd.prog 12 #[.slice a len cap] w fun e w' => e = .returned (.bool true) ∧ Below w.heap.size w w' := by
  obtain ⟨hl1, hl2⟩ := hrow.len_le
  unfold maxLen at hl2
  by_cases hbig : (1048576 : Int) < (len : Int)
  · go_enter Tryd.func12, Tryd.ntmps12
    go_wp2
    go_ret
    exact ⟨rfl, Below.refl _ _⟩
  · have hm0 := maxL_of hsh
    go_enter Tryd.func12, Tryd.ntmps12
    go_wp2_with fail
    refine (drawIB_any a len cap zs _ hrow).mono ?_
    rintro e w1 ⟨s, t, rfl, hs, ht, b1⟩
    have hm1 := hm0.below b1
    have h1 := fun w hm => isBelowI_of s t w hm (by omega) (by omega)
    have h2 := fun w => isBelowS_of s t w (by omega) (by omega)
    have h3 := fun w hm => pathPartsI_of s w hm (by omega)
    have h4 := fun w hm => isBelowI_of s s w hm (by omega) (by omega)
    have h5 := fun w hm => isBelowI_of s ⟨#[47]⟩ w hm (by omega) (by decide)
    have h6 := fun w hm => isBelowI_of t s w hm (by omega) (by omega)
    rw [below_self] at h4
    rw [show (ByteArray.mk #[47]).data.toList = [47] from rfl, below_root] at h5
    have hst : restOk s.data.toList t.data.toList = true → restOk t.data.toList s.data.toList = true → s = t := fun e1 e2 => data_eq (below_both e1 e2)
    unfold Parts at h3
    generalize okP s.data.toList = o at h3 h4 h5
    generalize partsP s.data.toList = ps at h3
    generalize restOk s.data.toList t.data.toList = k at h1 h2 hst
    generalize restOk t.data.toList s.data.toList = m at h6 hst
    have H1 := Lib.hid h1
    have H2 := Lib.hid h2
    have H3 := Lib.hid h3
    have H4 := Lib.hid h4
    have H5 := Lib.hid h5
    have H6 := Lib.hid h6
    have Hst := Lib.hid hst
    clear h1 h2 h3 h4 h5 h6 hst
    go_wp2_with fail
    refine (H1.out w1 hm1).mono ?_
    rintro e w2 ⟨rfl, b2⟩
    have hm2 := hm1.below b2
    have c2 := Below.step b2 b1.size b1
    go_wp2_with fail
    refine (H2.out w2).mono ?_
    rintro e w3 ⟨rfl, b3⟩
    have hm3 := hm2.below b3
    have c3 := Below.step b3 c2.size c2
    go_wp2_with fail
    refine (H3.out w3 hm3).mono ?_
    rintro e w4 ⟨v, rfl, ho, b4⟩
    have hm4 := hm3.below b4
    have c4 := Below.step b4 c3.size c3
    obtain ⟨A, c, rfl⟩ := own_valm ho
    clear ho
    go_wp2_with fail
    refine (H4.out w4 hm4).mono ?_
    rintro e w5 ⟨rfl, b5⟩
    have hm5 := hm4.below b5
    have c5 := Below.step b5 c4.size c4
    go_wp2_with fail
    refine (H5.out w5 hm5).mono ?_
    rintro e w6 ⟨rfl, b6⟩
    have hm6 := hm5.below b6
    have c6 := Below.step b6 c5.size c5
    clear b1 b2 b3 b4 b5 b6 c2 c3 c4 c5
    cases k
    · go_wp2_with (go_at_call 17; refine (alive_any _).mono ?_; rintro e w' ⟨rfl, rfl⟩)
      go_ret
      exact ⟨rfl, c6⟩
    · go_wp2_with fail
      refine (H6.out w6 hm6).mono ?_
      rintro e w7 ⟨rfl, b7⟩
      have c7 := Below.step b7 c6.size c6
      cases m
      · go_wp2_with (go_at_call 17; refine (alive_any _).mono ?_; rintro e w' ⟨rfl, rfl⟩)
        go_ret
        exact ⟨rfl, c7⟩
      · obtain rfl := Hst.out (by trivial) (by trivial)
        go_wp2_with (go_at_call 17; refine (alive_any _).mono ?_; rintro e w' ⟨rfl, rfl⟩)
        go_ret
        exact ⟨rfl, c7⟩
end Go.Proofs.YtaadobcfijegcaaDoor
