/- Roots: slices.Concat on texts, 'isPath', 'joined', 'IsBelow' and 'BelowRoot' of the program; the reference's 'BelowRoot'. -/
import Derived.Test.YtaadobcfijegcaaDoorConcat
import Derived.Test.YtaadobcfijegcaaDoorInside2
set_option linter.unusedSimpArgs false
set_option linter.unusedVariables false
set_option linter.unusedSectionVars false
namespace Go.Proofs.YtaadobcfijegcaaDoor
open Go.RowKit

theorem own_val {B : Nat} {w : World} {v : Value} {ws : List ByteArray} (h : OwnS B w v ws) : ∃ A c, v = .slice A ws.length c := by
  rcases h.2 with ⟨rfl, e⟩ | ⟨g, c, cur, rfl, _⟩
  · exact ⟨none, 0, by rw [e]⟩
  · exact ⟨_, c, rfl⟩
theorem own_valm {B : Nat} {w : World} {v : Value} {ls : List (List UInt8)} (h : OwnS B w v (ls.map mk)) : ∃ A c, v = .slice A ls.length c := by
  obtain ⟨A, c, e⟩ := own_val h
  exact ⟨A, c, by rw [e, List.length_map]⟩
theorem sl_valm {w : World} {v : Value} {ls : List (List UInt8)} (h : SlS w v (ls.map mk)) : ∃ A c, v = .slice A ls.length c := by
  obtain ⟨A, c, e, _⟩ := h
  exact ⟨A, c, by rw [e, List.length_map]⟩
set_option maxRecDepth 100000 in
set_option maxHeartbeats 2000000 in
theorem concat_of (g : Nat) (v1 v2 : Value) (l m : List ByteArray) (w : World) (hg : g < w.heap.size) (c0 : w.cell? ⟨g, 0, none⟩ = some v1) (c1 : w.cell? ⟨g, 1, none⟩ = some v2) (s1 : SlS w v1 l) (s2 : SlS w v2 m) (hl : l.length ≤ 1000) (hm : m.length ≤ 1000) :
    Calls Tryd.prog 69 #[.slice (some ⟨g, 0, none⟩) 2 2] w fun e w' => ∃ v, e = .returned v ∧ OwnS w.heap.size w' v (l ++ m) ∧ Below w.heap.size w w' := by
  have S1 := Lib.hid s1
  have S2 := Lib.hid s2
  obtain ⟨A1, k1, rfl, a1, a2, _⟩ := s1
  obtain ⟨A2, k2, rfl, b1, b2, _⟩ := s2
  unfold maxLen at a2 b2
  go_enter Tryd.func69, Tryd.ntmps69
  go_wp2
  go_loop [11, 3, 5] (fun i s _ => (i = .int .i64 0 ∧ s = .int .i64 0) ∨ (i = .int .i64 1 ∧ s = .int .i64 l.length) ∨ (i = .int .i64 2 ∧ s = .int .i64 (l.length + m.length : Nat))) (fun i _ _ => 2 - (intOf i).toNat)
  case atStart => exact .inl ⟨rfl, rfl⟩
  case round =>
    rcases hrel with ⟨rfl, rfl⟩ | ⟨rfl, rfl⟩ | ⟨rfl, rfl⟩
    · go_wp2
      go_round
      case rel => exact .inr (.inl ⟨by go_num, by go_num⟩)
      case measure => simp [intOf]
    · go_wp2
      go_round
      case rel => exact .inr (.inr ⟨by go_num, by go_num⟩)
      case measure => simp [intOf]
    · have hgr := growS_any (l.length + m.length) (by omega) w
      have Hgr := Lib.hid hgr; clear hgr
      go_wp2_with fail
      refine Hgr.out.mono ?_
      rintro e w1 ⟨v, rfl, o1, bb1⟩
      obtain ⟨A, c, rfl⟩ := own_val o1
      go_wp2
      go_loopw [27, 6, 8] (fun i v _ wr => ((i = .int .i64 0 ∧ OwnS w.heap.size wr v []) ∨ (i = .int .i64 1 ∧ OwnS w.heap.size wr v l) ∨ (i = .int .i64 2 ∧ OwnS w.heap.size wr v (l ++ m))) ∧ Below w.heap.size w wr) (fun i _ _ _ => 2 - (intOf i).toNat)
      case atStart => exact ⟨.inl ⟨rfl, o1⟩, bb1⟩
      case round =>
        obtain ⟨hrel, hbl⟩ := hrel
        have hsz : w.heap.size ≤ wr.heap.size := hbl.size
        have d0 := (hbl.cell (p := ⟨g, 0, none⟩) hg).trans c0
        have d1 := (hbl.cell (p := ⟨g, 1, none⟩) hg).trans c1
        have t1 := S1.out.below hbl
        have t2 := S2.out.below hbl
        have T1 := Lib.hid t1
        have T2 := Lib.hid t2
        have Hbl := Lib.hid hbl
        clear t1 t2 hbl
        rcases hrel with ⟨rfl, hown⟩ | ⟨rfl, hown⟩ | ⟨rfl, hown⟩
        · obtain ⟨A, c, rfl⟩ := own_val hown
          have Hown := Lib.hid hown; clear hown
          have hgB : ∀ j, (Value.slice A ([] : List ByteArray).length c).ownBlock = some j → w.heap.size ≤ j := fun j hj => (Hown.out.lt j hj).1
          go_wp2_with (at_builtin; refine wpList_appSG _ rfl (.tmp 31) (.tmp 32) rfl w.heap.size _ [] rfl Hown.out _ l rfl T1.out ?cL ?cB ?_)
          case cL => simp; omega
          case cB => exact hsz
          intro v' w' o' hg'
          have hb' : Below w.heap.size w w' := Below.grown Hbl.out hg' hsz hgB
          obtain ⟨A', c', rfl⟩ := own_val o'
          have O' := Lib.hid o'; clear o'
          go_wp2
          go_roundw
          case rel => exact ⟨.inr (.inl ⟨by go_num, O'.out⟩), hb'⟩
          case measure => simp [intOf]
        · obtain ⟨A, c, rfl⟩ := own_val hown
          have Hown := Lib.hid hown; clear hown
          have hgB : ∀ j, (Value.slice A l.length c).ownBlock = some j → w.heap.size ≤ j := fun j hj => (Hown.out.lt j hj).1
          go_wp2_with (at_builtin; refine wpList_appSG _ rfl (.tmp 31) (.tmp 32) rfl w.heap.size _ l rfl Hown.out _ m rfl T2.out ?cL ?cB ?_)
          case cL => omega
          case cB => exact hsz
          intro v' w' o' hg'
          have hb' : Below w.heap.size w w' := Below.grown Hbl.out hg' hsz hgB
          obtain ⟨A', c', rfl⟩ := own_val o'
          have O' := Lib.hid o'; clear o'
          go_wp2
          go_roundw
          case rel => exact ⟨.inr (.inr ⟨by go_num, O'.out⟩), hb'⟩
          case measure => simp [intOf]
        · obtain ⟨A, c, rfl⟩ := own_val hown
          have Hown := Lib.hid hown; clear hown
          go_wp2
          go_ret
          exact ⟨_, rfl, Hown.out, Hbl.out⟩
theorem partsP_len (l : List UInt8) : (partsP l).length ≤ 6 := by
  cases l with
  | nil => exact Nat.zero_le _
  | cons c r =>
    show (if okP (c :: r) = true then (if r = [] then [] else spl r) else []).length ≤ 6
    by_cases h : okP (c :: r) = true
    · rw [if_pos h]
      by_cases hr : r = []
      · rw [if_pos hr]; exact Nat.zero_le _
      · rw [if_neg hr]
        have h : (decide (c = 47) && (r == [] || namesB (spl r))) = true := h
        rw [beq_eq_false_iff_ne.2 hr, Bool.false_or, Bool.and_eq_true] at h
        have := h.2
        unfold namesB at this
        rw [Bool.and_eq_true] at this
        simpa using this.1
    · rw [if_neg h]; exact Nat.zero_le _
theorem isPath_of (P : ByteArray) (w : World) (hm : MaxL w) (hp : P.size ≤ 1048576) : Calls Tryd.prog 50 #[.string P] w fun e w' => e = .returned (.bool (okP P.data.toList)) ∧ Below w.heap.size w w' := by
  have h1 := pathPartsI_of P w hm hp
  generalize P.data.toList = p at h1 ⊢
  go_enter Tryd.func50, Tryd.ntmps50
  go_wp2_with fail
  refine h1.mono ?_
  rintro e w1 ⟨v1, rfl, o1, b1⟩
  obtain ⟨A, c, rfl⟩ := own_valm o1
  go_wp2
  go_ret
  exact ⟨rfl, b1⟩
theorem isBelowI_of (P R : ByteArray) (w : World) (hm : MaxL w) (hp : P.size ≤ 1048576) (hr : R.size ≤ 1048576) : Calls Tryd.prog 21 #[.string P, .string R] w fun e w' => e = .returned (.bool (restOk P.data.toList R.data.toList)) ∧ Below w.heap.size w w' := by
  have h1 := restOf_of P R w hm hp hr
  generalize P.data.toList = p at h1 ⊢
  generalize R.data.toList = r at h1 ⊢
  go_enter Tryd.func21, Tryd.ntmps21
  go_wp2_with fail
  refine h1.mono ?_
  rintro e w1 ⟨v, rfl, s1, b1⟩
  obtain ⟨A, c, rfl⟩ := sl_valm s1
  go_wp2
  go_ret
  exact ⟨rfl, b1⟩
end Go.Proofs.YtaadobcfijegcaaDoor
