/- The drawn law on FollowWay: the walk. -/
import Derived.Test.YtaadobcfijegcaaDoorDrawP2
import Derived.Test.YtaadobcfijegcaaDoorLawBR
set_option linter.unusedSimpArgs false
set_option linter.unusedVariables false
set_option linter.unusedSectionVars false
namespace Go.Proofs.YtaadobcfijegcaaDoor
open Go.RowKit

theorem first_sign (Y : ByteArray) : Y.toList = [] ∨ (∃ h : 0 < Y.size, Y.toList.isEmpty = false ∧ ((Y[0].toNat : Int) == 47) = true ∧ Lib.hasPrefix Y.data.toList [47] = true) ∨ (∃ h : 0 < Y.size, Y.toList.isEmpty = false ∧ ((Y[0].toNat : Int) == 47) = false) := by
  by_cases h0 : Y.size = 0
  · left
    rw [Lib.toList_data]
    exact List.length_eq_zero_iff.1 (by rw [size_list]; exact h0)
  · have h : 0 < Y.size := by omega
    have hne : Y.toList.isEmpty = false := by
      rw [Lib.toList_data, Bool.eq_false_iff]; intro e
      rw [List.isEmpty_iff] at e
      have := size_list Y
      rw [e] at this; simp at this; omega
    have hg : Y.data.toList[0]? = some Y[0] := by rw [List.getElem?_eq_getElem (by rw [size_list]; exact h)]; rfl
    by_cases hc : Y[0] = 47
    · refine .inr (.inl ⟨h, hne, by rw [hc]; rfl, ?_⟩)
      cases hl : Y.data.toList with
      | nil => rw [hl] at hg; cases hg
      | cons a r =>
        rw [hl] at hg
        have ha : a = Y[0] := by simpa using hg
        rw [ha, hc]; exact (cut_slash r).2
    · refine .inr (.inr ⟨h, hne, ?_⟩)
      rw [beq_eq_false_iff_ne]; intro e
      exact hc (UInt8.toNat_inj.1 (by have : Y[0].toNat = 47 := by omega
                                      rw [this]; rfl))
set_option maxRecDepth 100000 in
set_option maxHeartbeats 4000000 in
theorem walkFnFollowWay (a : Option Addr) (len cap : Nat) (zs : List Int) (w : World) (hsh : w.ShapedOpen Tryd.prog) (hrow : IsRow .u8 w a len cap zs) :
    Calls Tryd.prog 10 #[.slice a len cap] w fun e w' => e = .returned (.bool true) ∧ Below w.heap.size w w' := by
  obtain ⟨hl1, hl2⟩ := hrow.len_le
  unfold maxLen at hl2
  by_cases hbig : (1048576 : Int) < (len : Int)
  · go_enter Tryd.func10, Tryd.ntmps10
    go_wp2
    go_ret
    exact ⟨rfl, Below.refl _ _⟩
  · have hm0 := maxL_of hsh
    go_enter Tryd.func10, Tryd.ntmps10
    go_wp2_with fail
    refine (drawFW_any a len cap zs _ hrow).mono ?_
    rintro e w1 ⟨f, Y, rfl, hf, hy, b1⟩
    have hm1 := hm0.below b1
    have h1 := fun w hm => followI_of f Y w hm (by omega) (by omega)
    have h2 := fun w => followS_of f Y w (by omega) (by omega)
    have h3 := fun w hm => pathPartsI_of f w hm (by omega)
    have h4 := fun w hm => wayValidI_of Y w hm (by omega)
    have h5 := fun w hm => followI_of f ⟨#[46]⟩ w hm (by omega) (by decide)
    have h6 := fun w hm => followI_of ⟨#[47]⟩ Y w hm (by decide) (by omega)
    rw [show (ByteArray.mk #[46]).data.toList = [46] from rfl] at h5
    rw [show (ByteArray.mk #[47]).data.toList = [47] from rfl] at h6
    have hyc := first_sign Y
    have z := follow_size f.data.toList Y.data.toList
    have hp := follow_path f.data.toList Y.data.toList
    have hno : (okP f.data.toList && wayB Y.data.toList) = false → followF f.data.toList Y.data.toList = [] := fun h => by unfold followF; rw [h]; rfl
    have h5' : okP f.data.toList = true → mk (followF f.data.toList [46]) = f := fun h => by rw [follow_point h, mk_of]
    have h6' : okP f.data.toList = true → Lib.hasPrefix Y.data.toList [47] = true → followF [47] Y.data.toList = followF f.data.toList Y.data.toList := fun h e => follow_root h e
    have h7 := fun w hm => pathPartsI_of (mk (followF f.data.toList Y.data.toList)) w hm (by rw [mk_size]; omega)
    have h8 := fun w hm => followI_of (mk (followF f.data.toList Y.data.toList)) ⟨#[46]⟩ w hm (by rw [mk_size]; omega) (by decide)
    rw [mk_data] at h7 h8
    rw [show (ByteArray.mk #[46]).data.toList = [46] from rfl] at h8
    generalize followF f.data.toList Y.data.toList = x at h1 h2 z hp hno h6' h7 h8
    unfold Parts at h3 h7
    generalize okP f.data.toList = o at h3 hno h5' h6'
    generalize partsP f.data.toList = ps at h3
    generalize wayB Y.data.toList = k at h4 hno
    have H3 := Lib.hid h3
    have H4 := Lib.hid h4
    have H5 := Lib.hid h5
    have H6 := Lib.hid h6
    have H7 := Lib.hid h7
    have H8 := Lib.hid h8
    clear h3 h4 h5 h6 h7 h8
    go_wp2_with fail
    refine (h1 w1 hm1).mono ?_
    rintro e w2 ⟨rfl, b2⟩
    have hm2 := hm1.below b2
    have c2 := Below.step b2 b1.size b1
    go_wp2_with fail
    refine (h2 w2).mono ?_
    rintro e w3 ⟨rfl, b3⟩
    have hm3 := hm2.below b3
    have c3 := Below.step b3 c2.size c2
    clear h1 h2
    go_wp2_with fail
    refine (H3.out w3 hm3).mono ?_
    rintro e w4 ⟨v, rfl, ho, b4⟩
    have hm4 := hm3.below b4
    have c4 := Below.step b4 c3.size c3
    obtain ⟨A, c, rfl⟩ := own_valm ho
    clear ho b1 b2 b3 b4 c2 c3
    cases o
    · have hx := hno rfl
      subst hx
      clear hno h5' h6' hp H7 H8
      rw [mk_nil]
      go_wp2_with (go_at_call 17; refine (alive_any _).mono ?_; rintro e w' ⟨rfl, rfl⟩)
      go_ret
      exact ⟨rfl, c4⟩
    · go_wp2_with fail
      refine (H4.out w4 hm4).mono ?_
      rintro e w5 ⟨rfl, b5⟩
      have hm5 := hm4.below b5
      have c5 := Below.step b5 c4.size c4
      cases k
      · have hx := hno rfl
        subst hx
        clear hno h5' h6' hp H7 H8
        rw [mk_nil]
        go_wp2_with (go_at_call 17; refine (alive_any _).mono ?_; rintro e w' ⟨rfl, rfl⟩)
        go_ret
        exact ⟨rfl, c5⟩
      · have h5' := h5' (by trivial)
        have h6' := h6' (by trivial)
        clear hno
        go_wp2_with fail
        refine (H5.out w5 hm5).mono ?_
        rintro e w6 ⟨rfl, b6⟩
        have hm6 := hm5.below b6
        have c6 := Below.step b6 c5.size c5
        rw [h5']
        clear h5' H5 H4 H3
        obtain ⟨w7, c7, hm7, hgo⟩ : ∃ w7 : World, w7 = w6 ∧ MaxL w6 ∧ True := ⟨w6, rfl, hm6, trivial⟩
        clear hgo c7 w7
        rcases hyc with y0 | ⟨y0, y1, y2, y3⟩ | ⟨y0, y1, y2⟩
        case' inl =>
          go_wp2_with fail
          refine (H7.out w6 hm6).mono ?_
          rintro e w8 ⟨v, rfl, ho, b8⟩
          have hm8 := hm6.below b8
          have c8 := Below.step b8 c6.size c6
        case' inr.inl =>
          have h6' := h6' y3
          clear y3
          go_wp2_with fail
          refine (H6.out w6 hm6).mono ?_
          rintro e w7 ⟨rfl, b7⟩
          have hm7 := hm6.below b7
          have c7 := Below.step b7 c6.size c6
          rw [h6']
          clear h6' H6
          go_wp2_with fail
          refine (H7.out w7 hm7).mono ?_
          rintro e w8 ⟨v, rfl, ho, b8⟩
          have hm8 := hm7.below b8
          have c8 := Below.step b8 c7.size c7
        case' inr.inr =>
          go_wp2_with fail
          refine (H7.out w6 hm6).mono ?_
          rintro e w8 ⟨v, rfl, ho, b8⟩
          have hm8 := hm6.below b8
          have c8 := Below.step b8 c6.size c6
        all_goals
          obtain ⟨A', c', rfl⟩ := own_valm ho
          clear ho
          by_cases hx0 : x = []
          · subst hx0
            rw [mk_nil]
            go_wp2
            go_ret
            exact ⟨rfl, c8⟩
          · have hok : okP x = true := hp.resolve_left hx0
            have hne := mk_ne hx0
            have h9 := fun w hm => H8.out w hm
            rw [follow_point hok] at h9
            rw [hok]
            generalize mk x = s at h9 hne ⊢
            have H9 := Lib.hid h9
            clear h9 hp H8 H7
            go_wp2_with fail
            refine (H9.out w8 hm8).mono ?_
            rintro e w9 ⟨rfl, b9⟩
            have c9 := Below.step b9 c8.size c8
            go_wp2
            go_ret
            exact ⟨rfl, c9⟩
end Go.Proofs.YtaadobcfijegcaaDoor
