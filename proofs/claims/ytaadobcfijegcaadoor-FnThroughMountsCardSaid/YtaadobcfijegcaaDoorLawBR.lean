/- The drawn laws on BelowRoot and InsideRoot: the walks. -/
import Derived.Test.YtaadobcfijegcaaDoorDrawP2
import Derived.Test.YtaadobcfijegcaaDoorInside2
import Derived.Test.YtaadobcfijegcaaDoorBelow2
set_option linter.unusedSimpArgs false
set_option linter.unusedVariables false
set_option linter.unusedSectionVars false
namespace Go.Proofs.YtaadobcfijegcaaDoor
open Go.RowKit

theorem mk_nil : mk [] = ⟨#[]⟩ := rfl
theorem mk_ne {l : List UInt8} (h : l ≠ []) : (mk l).toList.isEmpty = false := by
  rw [mk_toList, Bool.eq_false_iff]; intro e; exact h (List.isEmpty_iff.1 e)
theorem mk_of (s : ByteArray) : mk s.data.toList = s := (mk_list s).symm
set_option maxRecDepth 100000 in
set_option maxHeartbeats 2000000 in
theorem walkFnBelowRoot (a : Option Addr) (len cap : Nat) (zs : List Int) (w : World) (hsh : w.ShapedOpen Tryd.prog) (hrow : IsRow .u8 w a len cap zs) :
    Calls Tryd.prog 8 #[.slice a len cap] w fun e w' => e = .returned (.bool true) ∧ Below w.heap.size w w' := by
  obtain ⟨hl1, hl2⟩ := hrow.len_le
  unfold maxLen at hl2
  by_cases hbig : (1048576 : Int) < (len : Int)
  · go_enter Tryd.func8, Tryd.ntmps8
    go_wp2
    go_ret
    exact ⟨rfl, Below.refl _ _⟩
  · have hm0 := maxL_of hsh
    go_enter Tryd.func8, Tryd.ntmps8
    go_wp2_with fail
    refine (drawBR_any a len cap zs _ hrow).mono ?_
    rintro e w1 ⟨r, p, rfl, hr, hp, b1⟩
    have hm1 := hm0.below b1
    have h1 := fun w hm => belowI_of r p w hm (by omega) (by omega)
    have h2 := fun w => belowS_of r p w (by omega) (by omega)
    have hsz := below_size r.data.toList p.data.toList
    have hx := fun (h : belowF r.data.toList p.data.toList ≠ []) => inside_below h
    generalize belowF r.data.toList p.data.toList = x at h1 h2 hsz hx
    have h3 := fun w hm => insideI_of r (mk x) w hm (by rw [mk_size]; omega) (by omega)
    have h4 := fun w hm => isBelowI_of (mk x) r w hm (by rw [mk_size]; omega) (by omega)
    rw [mk_data] at h3 h4
    unfold InsGot at h3
    go_wp2_with fail
    refine (h1 w1 hm1).mono ?_
    rintro e w2 ⟨rfl, b2⟩
    have hm2 := hm1.below b2
    have c2 := Below.step b2 b1.size b1
    go_wp2_with fail
    refine (h2 w2).mono ?_
    rintro e w3 ⟨rfl, b3⟩
    have hm3 := hm2.below b3
    have c3 := Below.step b3 c2.size c2
    clear h1 h2
    by_cases h0 : x = []
    · subst h0
      clear h3 h4 hx
      rw [mk_nil]
      go_wp2_with (go_at_call 17; refine (alive_any _).mono ?_; rintro e w' ⟨rfl, rfl⟩)
      go_ret
      exact ⟨rfl, c3⟩
    · have hne := mk_ne h0
      obtain ⟨e1, e2⟩ := hx h0
      rw [e1, e2, mk_of] at h3
      rw [e1] at h4
      clear hx e1 e2 h0
      generalize mk x = y at h3 h4 hne ⊢
      have H3 := Lib.hid h3
      have H4 := Lib.hid h4
      clear h3 h4
      go_wp2_with fail
      refine (H3.out w3 hm3).mono ?_
      rintro e w4 ⟨rfl, b4⟩
      have hm4 := hm3.below b4
      have c4 := Below.step b4 c3.size c3
      go_wp2_with fail
      refine (H4.out w4 hm4).mono ?_
      rintro e w5 ⟨rfl, b5⟩
      have c5 := Below.step b5 c4.size c4
      go_wp2
      go_ret
      exact ⟨rfl, c5⟩
set_option maxRecDepth 100000 in
set_option maxHeartbeats 2000000 in
theorem walkFnInsideRoot (a : Option Addr) (len cap : Nat) (zs : List Int) (w : World) (hsh : w.ShapedOpen Tryd.prog) (hrow : IsRow .u8 w a len cap zs) :
    Calls Tryd.prog 6 #[.slice a len cap] w fun e w' => e = .returned (.bool true) ∧ Below w.heap.size w w' := by
  obtain ⟨hl1, hl2⟩ := hrow.len_le
  unfold maxLen at hl2
  by_cases hbig : (1048576 : Int) < (len : Int)
  · go_enter Tryd.func6, Tryd.ntmps6
    go_wp2
    go_ret
    exact ⟨rfl, Below.refl _ _⟩
  · have hm0 := maxL_of hsh
    go_enter Tryd.func6, Tryd.ntmps6
    go_wp2_with fail
    refine (drawIR_any a len cap zs _ (by omega) hrow).mono ?_
    rintro e w1 ⟨r, p, rfl, hr, hp, b1⟩
    have hm1 := hm0.below b1
    have h1 := fun w hm => insideI_of r p w hm (by omega) (by omega)
    have h2 := fun w => insideS_of r p w (by omega) (by omega)
    have h3 := fun w hm => isBelowI_of p r w hm (by omega) (by omega)
    unfold InsGot at h1 h2
    have hno : restOk p.data.toList r.data.toList = false → insideF r.data.toList p.data.toList = [] := fun h => by unfold insideF; rw [h]; rfl
    have hyes := fun (h : restOk p.data.toList r.data.toList = true) => below_inside h
    have hsz : (insideF r.data.toList p.data.toList).length ≤ 54 := by
      unfold insideF
      split
      · next h =>
        obtain ⟨k1, k2, k3⟩ := rest_yes h
        have hn := (ok_names k1).1
        rw [k3] at hn
        exact ok_size (join_ok (names_app hn).2).1
      · exact Nat.zero_le _
    generalize insideF r.data.toList p.data.toList = x at h1 h2 hno hyes hsz
    have h4 := fun w hm => belowI_of r (mk x) w hm (by rw [mk_size]; omega) (by omega)
    rw [mk_data] at h4
    generalize restOk p.data.toList r.data.toList = k at h1 h2 h3 hno hyes
    go_wp2_with fail
    refine (h1 w1 hm1).mono ?_
    rintro e w2 ⟨rfl, b2⟩
    have hm2 := hm1.below b2
    have c2 := Below.step b2 b1.size b1
    go_wp2_with fail
    refine (h2 w2).mono ?_
    rintro e w3 ⟨rfl, b3⟩
    have hm3 := hm2.below b3
    have c3 := Below.step b3 c2.size c2
    clear h1 h2
    cases k
    · have hx := hno rfl
      subst hx
      clear hno hyes h4
      rw [mk_nil]
      go_wp2_with fail
      refine (h3 w3 hm3).mono ?_
      rintro e w4 ⟨rfl, b4⟩
      have c4 := Below.step b4 c3.size c3
      go_wp2_with (go_at_call 17; refine (alive_any _).mono ?_; rintro e w' ⟨rfl, rfl⟩)
      go_ret
      exact ⟨rfl, c4⟩
    · rw [hyes rfl, mk_of] at h4
      clear hno hyes h3
      generalize mk x = y at h4 ⊢
      go_wp2_with fail
      refine (h4 w3 hm3).mono ?_
      rintro e w4 ⟨rfl, b4⟩
      have c4 := Below.step b4 c3.size c3
      go_wp2
      go_ret
      exact ⟨rfl, c4⟩
end Go.Proofs.YtaadobcfijegcaaDoor
