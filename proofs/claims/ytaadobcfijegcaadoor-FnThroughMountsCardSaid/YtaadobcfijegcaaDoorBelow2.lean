/- Roots: 'joined' and 'BelowRoot' of the program; the reference's 'BelowRoot'. -/
import Derived.Test.YtaadobcfijegcaaDoorBelow
set_option linter.unusedSimpArgs false
set_option linter.unusedVariables false
set_option linter.unusedSectionVars false
namespace Go.Proofs.YtaadobcfijegcaaDoor
open Go.RowKit

theorem own_valn {B : Nat} {w : World} {v : Value} {ws : List ByteArray} (h : OwnS B w v ws) : ∃ A n c, v = .slice A n c := by
  obtain ⟨A, c, e⟩ := own_val h
  exact ⟨A, _, c, e⟩
set_option maxRecDepth 100000 in
set_option maxHeartbeats 1000000 in
theorem joined_of (P : ByteArray) (v : Value) (ls : List (List UInt8)) (w : World) (hm : MaxL w) (hp : P.size ≤ 1048576) (hs : SlS w v (ls.map mk)) (hl : ls.length ≤ 1000) (hsz : ∀ x ∈ ls, x.length ≤ 1048576) : Calls Tryd.prog 51 #[.string P, v] w fun e w' => e = .returned (.string (mk (joinP (partsP P.data.toList ++ ls)))) ∧ Below w.heap.size w w' := by
  have h1 := pathPartsI_of P w hm hp
  have hp' : P.data.toList.length ≤ 1048576 := by rw [size_list]; exact hp
  generalize P.data.toList = p at h1 hp' ⊢
  have h6 := partsP_len p
  have hps := partsP_sizes p
  have Hs := Lib.hid hs
  obtain ⟨A0, k0, rfl⟩ := sl_valm hs
  go_enter Tryd.func51, Tryd.ntmps51
  go_wp2_with fail
  refine h1.mono ?_
  rintro e w1 ⟨v1, rfl, o1, b1⟩
  have hsz1 : w.heap.size ≤ w1.heap.size := b1.size
  have hc := fun (W1 : World) (hX : Below w1.heap.size w1 W1) hg d0 d1 => concat_of w1.heap.size v1 (.slice A0 ls.length k0) ((partsP p).map mk) (ls.map mk) W1 hg d0 d1 ((ownS_sl o1).below hX) ((Hs.out.below b1).below hX) (by rw [List.length_map]; omega) (by rw [List.length_map]; omega)
  have O1 := Lib.hid o1
  obtain ⟨A, c, rfl⟩ := own_valm o1
  have Hc := Lib.hid hc
  clear hc h1 o1
  go_wp2_with fail
  refine (Hc.out _ (Below.alloc (Below.refl _ _) (Nat.le_refl _) _) (by simp) (by simp [go_sem]) (by simp [go_sem])).mono ?_
  rintro e w2 ⟨v2, rfl, o2, b2⟩
  have hj := joinI_of v2 (partsP p ++ ls) w2 (by rw [List.map_append]; exact ownS_sl o2) (fun x hx => by
    rcases List.mem_append.1 hx with h | h
    · have := hps x h; omega
    · exact hsz x h)
  obtain ⟨A', n', c', rfl⟩ := own_valn o2
  have Hj := Lib.hid hj; clear hj o2
  go_wp2_with fail
  refine Hj.out.mono ?_
  rintro e w3 ⟨rfl, b3⟩
  have c2 : Below w.heap.size w w2 := Below.step b2 (by simp; omega) (Below.alloc b1 (by omega) _)
  have c3 := Below.step b3 c2.size c2
  go_wp2
  go_ret
  exact ⟨rfl, c3⟩
/-- What 'BelowRoot' gives. -/
def belowF (r p : List UInt8) : List UInt8 := if (okP p && okP r) = true then joinP (partsP r ++ partsP p) else []
set_option maxRecDepth 100000 in
set_option maxHeartbeats 1000000 in
theorem belowI_of (R P : ByteArray) (w : World) (hm : MaxL w) (hp : P.size ≤ 1048576) (hr : R.size ≤ 1048576) : Calls Tryd.prog 22 #[.string R, .string P] w fun e w' => e = .returned (.string (mk (belowF R.data.toList P.data.toList))) ∧ Below w.heap.size w w' := by
  have h1 := pathPartsI_of P w hm hp
  have h2 := fun w hm => isPath_of R w hm hr
  have h3 := fun w v hm hs hl hz => joined_of R v (partsP P.data.toList) w hm hr hs hl hz
  have hp' : P.data.toList.length ≤ 1048576 := by rw [size_list]; exact hp
  generalize P.data.toList = p at h1 h3 hp' ⊢
  generalize R.data.toList = r at h2 h3 ⊢
  have h6 := partsP_len p
  have hps := partsP_sizes p
  rcases and2 (okP p) (okP r) with e1 | ⟨e1, e2⟩ | ⟨e1, e2⟩
  · have hf : mk (belowF r p) = ⟨#[]⟩ := by unfold belowF; rw [e1]; rfl
    have Hf := Lib.hid hf; clear hf
    go_enter Tryd.func22, Tryd.ntmps22
    go_wp2_with fail
    refine h1.mono ?_
    rintro e w1 ⟨v1, rfl, o1, b1⟩
    obtain ⟨A, c, rfl⟩ := own_valm o1
    rw [e1]
    go_wp2
    go_ret
    exact ⟨by rw [Hf.out]; rfl, b1⟩
  · have hf : mk (belowF r p) = ⟨#[]⟩ := by unfold belowF; rw [e1, e2]; rfl
    have Hf := Lib.hid hf; clear hf
    go_enter Tryd.func22, Tryd.ntmps22
    go_wp2_with fail
    refine h1.mono ?_
    rintro e w1 ⟨v1, rfl, o1, b1⟩
    obtain ⟨A, c, rfl⟩ := own_valm o1
    rw [e1]
    go_wp2_with fail
    refine (h2 w1 (hm.below b1)).mono ?_
    rintro e w2 ⟨rfl, b2⟩
    rw [e2]
    go_wp2
    go_ret
    exact ⟨by rw [Hf.out]; rfl, Below.step b2 b1.size b1⟩
  · have hf : mk (belowF r p) = mk (joinP (partsP r ++ partsP p)) := by unfold belowF; rw [e1, e2]; rfl
    have Hf := Lib.hid hf; clear hf
    go_enter Tryd.func22, Tryd.ntmps22
    go_wp2_with fail
    refine h1.mono ?_
    rintro e w1 ⟨v1, rfl, o1, b1⟩
    have O1 := Lib.hid o1
    obtain ⟨A, c, rfl⟩ := own_valm o1
    clear o1
    rw [e1]
    go_wp2_with fail
    refine (h2 w1 (hm.below b1)).mono ?_
    rintro e w2 ⟨rfl, b2⟩
    have c2 := Below.step b2 b1.size b1
    rw [e2]
    go_wp2_with fail
    refine (h3 w2 _ (hm.below c2) (ownS_sl (ownS_below O1.out b2)) (by omega) (fun x hx => by have := hps x hx; omega)).mono ?_
    rintro e w3 ⟨rfl, b3⟩
    go_wp2
    go_ret
    exact ⟨by rw [Hf.out]; rfl, Below.step b3 c2.size c2⟩
set_option maxRecDepth 100000 in
set_option maxHeartbeats 1000000 in
theorem belowS_of (R P : ByteArray) (w : World) (hp : P.size ≤ 1048576) (hr : R.size ≤ 1048576) : Calls Tryd.prog 23 #[.string R, .string P] w fun e w' => e = .returned (.string (mk (belowF R.data.toList P.data.toList))) ∧ Below w.heap.size w w' := by
  have h1 := pathPartsS_of R w hr
  have h2 := fun w => pathPartsS_of P w hp
  have hp' : P.data.toList.length ≤ 1048576 := by rw [size_list]; exact hp
  have hr' : R.data.toList.length ≤ 1048576 := by rw [size_list]; exact hr
  generalize P.data.toList = p at h2 hp' ⊢
  generalize R.data.toList = r at h1 hr' ⊢
  have h6 := partsP_len p
  have h6r := partsP_len r
  have hps := partsP_sizes p
  have hrs := partsP_sizes r
  go_enter Tryd.func23, Tryd.ntmps23
  go_wp2_with fail
  refine h1.mono ?_
  rintro e w1 ⟨v1, rfl, o1, b1⟩
  have O1 := Lib.hid o1
  obtain ⟨A, c, rfl⟩ := own_valm o1
  clear o1
  go_wp2_with fail
  refine (h2 w1).mono ?_
  rintro e w2 ⟨v2, rfl, o2, b2⟩
  have hgB : ∀ j, (Value.slice A (partsP r).length c).ownBlock = some j → w.heap.size ≤ j := fun j hj => (O1.out.lt j hj).1
  have O2 := Lib.hid o2
  obtain ⟨A', c', rfl⟩ := own_valm o2
  have c2 := Below.step b2 b1.size b1
  have hsz : w.heap.size ≤ w2.heap.size := c2.size
  have o1' := ownS_below O1.out b2
  have O1' := Lib.hid o1'
  clear o2 h1 h2 o1'
  rcases and2 (okP r) (okP p) with e1 | ⟨e1, e2⟩ | ⟨e1, e2⟩
  · have hf : mk (belowF r p) = ⟨#[]⟩ := by unfold belowF; rw [e1, Bool.and_false]; rfl
    have Hf := Lib.hid hf; clear hf
    rw [e1]
    go_wp2
    go_ret
    exact ⟨by rw [Hf.out]; rfl, c2⟩
  · have hf : mk (belowF r p) = ⟨#[]⟩ := by unfold belowF; rw [e1, e2]; rfl
    have Hf := Lib.hid hf; clear hf
    rw [e1, e2]
    go_wp2
    go_ret
    exact ⟨by rw [Hf.out]; rfl, c2⟩
  · have hf : mk (belowF r p) = mk (joinP (partsP r ++ partsP p)) := by unfold belowF; rw [e1, e2]; rfl
    have Hf := Lib.hid hf; clear hf
    rw [e1, e2]
    go_wp2_with (at_builtin; refine wpList_appSG _ rfl (.tmp 25) (.tmp 26) rfl w.heap.size _ ((partsP r).map mk) rfl O1'.out _ ((partsP p).map mk) rfl (ownS_sl O2.out) ?cL ?cB ?_)
    case cL => simp; omega
    case cB => exact hsz
    intro v' w3 o3 g3
    have c3 : Below w.heap.size w w3 := Below.grown c2 g3 hsz hgB
    have hj := joinS_of v' (partsP r ++ partsP p) w3 (by rw [List.map_append]; exact ownS_sl o3) (by simp; omega) (fun x hx => by
      rcases List.mem_append.1 hx with h | h
      · have := hrs x h; omega
      · have := hps x h; omega)
    obtain ⟨A3, n3, k3, rfl⟩ := own_valn o3
    have Hj := Lib.hid hj; clear hj o3
    go_wp2_with fail
    refine Hj.out.mono ?_
    rintro e w4 ⟨rfl, rfl⟩
    go_wp2
    go_ret
    exact ⟨by rw [Hf.out]; rfl, c3⟩
set_option maxRecDepth 100000 in
theorem walkFnExactBelowRoot (a : ByteArray) (b : ByteArray) (w : World) (hsh : w.ShapedOpen Tryd.prog) (ha : a.size ≤ maxLen) (hb : b.size ≤ maxLen) :
    Calls Tryd.prog 7 #[.string a, .string b] w fun e w' => e = .returned (.bool true) ∧ Below w.heap.size w w' := by
  unfold maxLen at ha hb
  by_cases hm : (1048576 : Int) < (a.size : Int)
  · go_enter Tryd.func7, Tryd.ntmps7
    go_wp2
    go_ret
    exact ⟨rfl, Below.refl _ _⟩
  · by_cases hm2 : (1048576 : Int) < (b.size : Int)
    · go_enter Tryd.func7, Tryd.ntmps7
      go_wp2
      go_ret
      exact ⟨rfl, Below.refl _ _⟩
    · have hmx := maxL_of hsh
      have h1 := belowS_of a b w (by omega) (by omega)
      have h2 := fun w (hm : MaxL w) => belowI_of a b w hm (by omega) (by omega)
      generalize mk (belowF a.data.toList b.data.toList) = y at h1 h2
      go_enter Tryd.func7, Tryd.ntmps7
      go_wp2_with fail
      refine h1.mono ?_
      rintro e w1 ⟨rfl, b1⟩
      go_wp2_with fail
      refine (h2 w1 (hmx.below b1)).mono ?_
      rintro e w2 ⟨rfl, b2⟩
      have c2 := Below.step b2 b1.size b1
      clear h1 h2
      go_wp2
      go_ret
      exact ⟨rfl, c2⟩
end Go.Proofs.YtaadobcfijegcaaDoor
