/- Paths: the program's 'PathParts'. -/
import Derived.Test.YtaadobcfijegcaaDoorPathI
set_option linter.unusedSimpArgs false
set_option linter.unusedVariables false
set_option linter.unusedSectionVars false
namespace Go.Proofs.YtaadobcfijegcaaDoor
open Go.RowKit

theorem cut_slash (r : List UInt8) : Lib.trimPrefix (47 :: r) [47] = r ∧ Lib.hasPrefix (47 :: r) [47] = true := by
  have h : Lib.hasPrefix (47 :: r) [47] = true := by simp [Lib.hasPrefix, List.isPrefixOf]
  exact ⟨by unfold Lib.trimPrefix; rw [if_pos h]; rfl, h⟩
theorem cut_other {l : List UInt8} (h : ∀ r, l ≠ 47 :: r) : Lib.trimPrefix l [47] = l ∧ Lib.hasPrefix l [47] = false := by
  have h0 : Lib.hasPrefix l [47] = false := by
    cases l with
    | nil => rfl
    | cons c r =>
      have hc : c ≠ 47 := fun e => h r (by rw [e])
      simp only [Lib.hasPrefix, List.isPrefixOf, Bool.and_true]
      exact beq_eq_false_iff_ne.2 (fun e => hc e.symm)
  exact ⟨by unfold Lib.trimPrefix; rw [h0]; rfl, h0⟩
theorem own_none (B : Nat) (w : World) : OwnS B w (.slice none 0 0) (([] : List (List UInt8)).map mk) := World.ownsRow_nil w B 9 1
theorem own_empty {B : Nat} (W : World) (hB : B ≤ W.heap.size) : OwnS B (W.alloc (.cells #[] 9)) (.slice (some ⟨W.heap.size, 0, none⟩) 0 0) (([] : List (List UInt8)).map mk) := World.ownsRow_made W #[] 0 hB (by decide) rfl
theorem mkeq {x : ByteArray} {l : List UInt8} (h : x.toList = l) : x.data.toList = l ∧ x.size = l.length := by
  rw [Lib.toList_data] at h
  exact ⟨h, by rw [← size_list, h]⟩
theorem split7_of (x : ByteArray) (W : World) (h : MaxL W) (hs : x.size ≤ 1048576) : ∃ (P : List ByteArray) (N : Nat), P.length ≤ N ∧ N ≤ 7 ∧ P.map (·.data.toList) = Lib.splitK [47] 0 (min 7 (x.size + 1) - 1) x.data.toList ∧ (∀ y ∈ P, y.size ≤ x.size) ∧
    Calls Tryd.prog 41 #[.string x, .string ⟨#[47]⟩, .int .i64 7] W fun e w' => e = .returned (.slice (some ⟨W.heap.size, 0, none⟩) P.length N) ∧ w' = W.alloc (.cells (Lib.cellsOf P N) 9) := by
  have hple := Lib.splitB_length_le ⟨#[47]⟩ 0 (min 7 (x.size + 1) - 1) x
  exact ⟨Lib.splitB ⟨#[47]⟩ 0 (min 7 (x.size + 1) - 1) x, min 7 (x.size + 1), by omega, by omega, Lib.splitB_data ⟨#[47]⟩ 0 (min 7 (x.size + 1) - 1) x, splitB_sizes ⟨#[47]⟩ (min 7 (x.size + 1) - 1) x, splitN_of x ⟨#[47]⟩ 7 W h (by omega) (by decide) (by decide) (by decide)⟩
set_option maxRecDepth 100000 in
set_option maxHeartbeats 2000000 in
theorem partsI_slash (S : ByteArray) (r : List UInt8) (hS : S.toList = 47 :: r) (w : World) (hm : MaxL w) (hs : r.length ≤ 1048576) : Calls Tryd.prog 28 #[.string S] w (Parts w (47 :: r)) := by
  have hcut := Tryd.strings_CutPrefix S ⟨#[47]⟩ w
  rw [(mkeq hS).1, show (ByteArray.mk #[47]).data.toList = [47] from rfl, (cut_slash r).1, (cut_slash r).2] at hcut
  have hx : (mk r).toList = r := mk_toList r
  have hcut' : Calls Tryd.prog 55 #[.string S, .string ⟨#[47]⟩] w fun e w' => e = .returned (.tuple #[.string (mk r), .bool true]) ∧ w' = w := hcut
  clear hcut
  generalize mk r = x at hx hcut'
  have Hcut := Lib.hid hcut'; clear hcut'
  by_cases hr : r = []
  · subst hr
    have hj := joinI_of (.slice (some ⟨w.heap.size, 0, none⟩) 0 0) [] (w.alloc (.cells #[] 9)) (ownS_sl (own_empty (B := w.heap.size) w (Nat.le_refl _))) (by intro x hx; cases hx)
    have hy : (mk (joinP [])).toList = S.toList := by rw [mk_toList, hS]; rfl
    generalize mk (joinP []) = y at hj hy
    have Hj := Lib.hid hj; clear hj hS
    go_enter Tryd.func28, Tryd.ntmps28
    go_wp2_with fail
    refine Hcut.out.mono ?_
    rintro e w' ⟨rfl, rfl⟩
    go_wp2_with fail
    refine Hj.out.mono ?_
    rintro e w2 ⟨rfl, b2⟩
    go_wp2
    refine bodyPost_ret (v := .tuple #[.slice (some ⟨w'.heap.size, 0, none⟩) 0 0, .bool true]) ?_ rfl ⟨_, rfl, ?_, ?_⟩
    · simp [results, Tryd.results28, go_sem]
    · exact ownS_below (own_empty (B := w'.heap.size) w' (Nat.le_refl _)) b2
    · exact Below.step b2 (Below.alloc (Below.refl _ _) (Nat.le_refl _) _).size (Below.alloc (Below.refl _ _) (Nat.le_refl _) _)
  · have hne : ¬ x.toList = [] := by rw [hx]; exact hr
    have f0 : x.toList.isEmpty = false := by rw [Bool.eq_false_iff]; intro h; exact hne (List.isEmpty_iff.1 h)
    have hxs := (mkeq hx).2
    have h7 := split7 r
    have b0 : Below w.heap.size w (w.alloc (.cells #[] 9)) := Below.alloc (Below.refl _ _) (Nat.le_refl _) _
    obtain ⟨P, N, hPN, hN, hd, hsz, hsp⟩ := split7_of x (w.alloc (.cells #[] 9)) (hm.below b0) (by omega)
    rw [(mkeq hx).1, hxs] at hd
    have hown := split_own (w.alloc (.cells #[] 9)) P N hPN (by omega)
    rw [show (w.alloc (.cells #[] 9)).heap.size = w.heap.size + 1 from by simp] at hown
    have hP : P = (P.map (·.data.toList)).map mk := (map_data_mk P).symm
    have hls : ∀ y ∈ P.map (·.data.toList), y.length ≤ 1048576 := fun y hy => by
      have := word_sizes (l := r) (fun z hz => by have := hsz z hz; omega) y hy
      omega
    have hj := joinI_of _ (P.map (·.data.toList)) _ (by rw [← hP]; exact ownS_sl hown) hls
    have hres : ((mk (joinP (P.map (·.data.toList)))).toList = S.toList ∧ okP (47 :: r) = true ∧ (partsP (47 :: r)).map mk = P) ∨ (¬ (mk (joinP (P.map (·.data.toList)))).toList = S.toList ∧ okP (47 :: r) = false) := by
      rw [mk_toList, hS]
      rcases h7 with ⟨a1, a2⟩ | ⟨a1, a2⟩
      · rw [a2] at hd
        rw [hd, joinP_spl]
        cases hn : namesB (spl r)
        · exact .inr ⟨by simp, okP_bad hr hn⟩
        · obtain ⟨k1, k2⟩ := partsP_yes hr hn
          exact .inl ⟨rfl, k1, by rw [k2, ← hd]; exact map_data_mk P⟩
      · have hl7 : (P.map (·.data.toList)).length = 7 := by rw [hd]; exact a2
        have hn7 : namesB (P.map (·.data.toList)) = false := by unfold namesB; rw [decide_eq_false (by omega), Bool.false_and]
        refine .inr ⟨by rw [joinP_no hn7]; simp, okP_bad hr (by unfold namesB; rw [decide_eq_false (by omega), Bool.false_and])⟩
    generalize mk (joinP (P.map (·.data.toList))) = y at hj hres
    have Hj := Lib.hid hj
    have Hsp := Lib.hid hsp
    have Hown := Lib.hid hown
    clear hj hsp hown hd hsz hP hls h7 hS hx
    rcases hres with ⟨e1, e2, e3⟩ | ⟨e1, e2⟩
    · have E2 := Lib.hid e2
      have E3 := Lib.hid e3
      clear e2 e3
      go_enter Tryd.func28, Tryd.ntmps28
      go_wp2_with fail
      refine Hcut.out.mono ?_
      rintro e w' ⟨rfl, rfl⟩
      go_wp2_with fail
      refine Hsp.out.mono ?_
      rintro e w1 ⟨rfl, rfl⟩
      go_wp2_with fail
      refine Hj.out.mono ?_
      rintro e w2 ⟨rfl, b2⟩
      go_wp2
      refine bodyPost_ret (v := .tuple #[.slice (some ⟨w'.heap.size + 1, 0, none⟩) P.length N, .bool true]) ?_ rfl ⟨_, by rw [E2.out], ?_, ?_⟩
      · simp [results, Tryd.results28, go_sem]
      · rw [E3.out]; exact ownS_mono (ownS_below Hown.out b2) (by omega)
      · exact Below.step b2 (show Below w'.heap.size w' _ from (by (repeat (first | exact Below.refl _ _ | exact Hbl.out | refine Below.ext ?_ (by first | omega | (simp; omega) | simp) | refine Below.setCell ?_ (by first | omega | (simp; omega) | simp) _ | refine Below.alloc ?_ (by first | omega | (simp; omega) | simp) _ | refine Below.drew ?_ | refine below_drewN ?_ _ | refine Below.step (by assumption) (by first | omega | (simp; omega) | simp) ?_)))).size (show Below w'.heap.size w' _ from (by (repeat (first | exact Below.refl _ _ | exact Hbl.out | refine Below.ext ?_ (by first | omega | (simp; omega) | simp) | refine Below.setCell ?_ (by first | omega | (simp; omega) | simp) _ | refine Below.alloc ?_ (by first | omega | (simp; omega) | simp) _ | refine Below.drew ?_ | refine below_drewN ?_ _ | refine Below.step (by assumption) (by first | omega | (simp; omega) | simp) ?_))))
    · have e1' : (y.toList == S.toList) = false := beq_eq_false_iff_ne.2 e1
      have E2 := Lib.hid e2
      clear e2
      go_enter Tryd.func28, Tryd.ntmps28
      go_wp2_with fail
      refine Hcut.out.mono ?_
      rintro e w' ⟨rfl, rfl⟩
      go_wp2_with fail
      refine Hsp.out.mono ?_
      rintro e w1 ⟨rfl, rfl⟩
      go_wp2_with fail
      refine Hj.out.mono ?_
      rintro e w2 ⟨rfl, b2⟩
      go_wp2
      refine bodyPost_ret (v := .tuple #[.slice none 0 0, .bool false]) ?_ rfl ⟨_, by rw [E2.out], ?_, ?_⟩
      · simp [results, Tryd.results28, go_sem]
      · rw [partsP_no E2.out]; exact own_none _ _
      · exact Below.step b2 (show Below w'.heap.size w' _ from (by (repeat (first | exact Below.refl _ _ | exact Hbl.out | refine Below.ext ?_ (by first | omega | (simp; omega) | simp) | refine Below.setCell ?_ (by first | omega | (simp; omega) | simp) _ | refine Below.alloc ?_ (by first | omega | (simp; omega) | simp) _ | refine Below.drew ?_ | refine below_drewN ?_ _ | refine Below.step (by assumption) (by first | omega | (simp; omega) | simp) ?_)))).size (show Below w'.heap.size w' _ from (by (repeat (first | exact Below.refl _ _ | exact Hbl.out | refine Below.ext ?_ (by first | omega | (simp; omega) | simp) | refine Below.setCell ?_ (by first | omega | (simp; omega) | simp) _ | refine Below.alloc ?_ (by first | omega | (simp; omega) | simp) _ | refine Below.drew ?_ | refine below_drewN ?_ _ | refine Below.step (by assumption) (by first | omega | (simp; omega) | simp) ?_))))
set_option maxRecDepth 100000 in
set_option maxHeartbeats 2000000 in
theorem partsI_other (S : ByteArray) (l : List UInt8) (hS : S.toList = l) (hl : ∀ r, l ≠ 47 :: r) (w : World) (hm : MaxL w) (hs : l.length ≤ 1048576) : Calls Tryd.prog 28 #[.string S] w (Parts w l) := by
  have hcut := Tryd.strings_CutPrefix S ⟨#[47]⟩ w
  rw [(mkeq hS).1, show (ByteArray.mk #[47]).data.toList = [47] from rfl, (cut_other hl).1, (cut_other hl).2] at hcut
  have hSm : mk l = S := by rw [mk_list S, (mkeq hS).1]
  have hcut' : Calls Tryd.prog 55 #[.string S, .string ⟨#[47]⟩] w fun e w' => e = .returned (.tuple #[.string S, .bool false]) ∧ w' = w := by
    have h2 : Calls Tryd.prog 55 #[.string S, .string ⟨#[47]⟩] w fun e w' => e = .returned (.tuple #[.string (mk l), .bool false]) ∧ w' = w := hcut
    rw [hSm] at h2; exact h2
  have hok : okP l = false := by
    cases l with
    | nil => rfl
    | cons c r => exact okP_other fun e => hl r (by rw [e])
  have Hok := Lib.hid hok
  have Hcut := Lib.hid hcut'; clear hcut hcut' hok
  by_cases hne : S.toList = []
  · clear hS hSm
    go_enter Tryd.func28, Tryd.ntmps28
    go_wp2_with fail
    refine Hcut.out.mono ?_
    rintro e w' ⟨rfl, rfl⟩
    go_wp2
    refine bodyPost_ret (v := .tuple #[.slice none 0 0, .bool false]) ?_ rfl ⟨_, by rw [Hok.out], ?_, ?_⟩
    · simp [results, Tryd.results28, go_sem]
    · rw [partsP_no Hok.out]; exact own_none _ _
    · (repeat (first | exact Below.refl _ _ | exact Hbl.out | refine Below.ext ?_ (by first | omega | (simp; omega) | simp) | refine Below.setCell ?_ (by first | omega | (simp; omega) | simp) _ | refine Below.alloc ?_ (by first | omega | (simp; omega) | simp) _ | refine Below.drew ?_ | refine below_drewN ?_ _ | refine Below.step (by assumption) (by first | omega | (simp; omega) | simp) ?_))
  · have f0 : S.toList.isEmpty = false := by rw [Bool.eq_false_iff]; intro h; exact hne (List.isEmpty_iff.1 h)
    have b0 : Below w.heap.size w (w.alloc (.cells #[] 9)) := Below.alloc (Below.refl _ _) (Nat.le_refl _) _
    have hsz := (mkeq hS).2
    obtain ⟨P, N, hPN, hN, _, _, hsp⟩ := split7_of S (w.alloc (.cells #[] 9)) (hm.below b0) (by omega)
    have Hsp := Lib.hid hsp; clear hsp hS hSm
    go_enter Tryd.func28, Tryd.ntmps28
    go_wp2_with fail
    refine Hcut.out.mono ?_
    rintro e w' ⟨rfl, rfl⟩
    go_wp2_with fail
    refine Hsp.out.mono ?_
    rintro e w1 ⟨rfl, rfl⟩
    go_wp2
    refine bodyPost_ret (v := .tuple #[.slice none 0 0, .bool false]) ?_ rfl ⟨_, by rw [Hok.out], ?_, ?_⟩
    · simp [results, Tryd.results28, go_sem]
    · rw [partsP_no Hok.out]; exact own_none _ _
    · (repeat (first | exact Below.refl _ _ | exact Hbl.out | refine Below.ext ?_ (by first | omega | (simp; omega) | simp) | refine Below.setCell ?_ (by first | omega | (simp; omega) | simp) _ | refine Below.alloc ?_ (by first | omega | (simp; omega) | simp) _ | refine Below.drew ?_ | refine below_drewN ?_ _ | refine Below.step (by assumption) (by first | omega | (simp; omega) | simp) ?_))
theorem pathPartsI_of (S : ByteArray) (w : World) (hm : MaxL w) (hs : S.size ≤ 1048576) : Calls Tryd.prog 28 #[.string S] w (Parts w S.data.toList) := by
  have hS : S.toList = S.data.toList := Lib.toList_data S
  have hlen : S.data.toList.length ≤ 1048576 := by rw [size_list]; exact hs
  generalize S.data.toList = l at hS hlen
  by_cases h : ∃ r, l = 47 :: r
  · obtain ⟨r, rfl⟩ := h
    exact partsI_slash S r hS w hm (by simp at hlen; omega)
  · exact partsI_other S l hS (fun r e => h ⟨r, e⟩) w hm hlen
end Go.Proofs.YtaadobcfijegcaaDoor
