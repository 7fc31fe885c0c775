/- Paths: the reference's 'JoinPath' and 'PathParts'. -/
import Derived.Test.YtaadobcfijegcaaDoorPathJ
set_option linter.unusedSimpArgs false
set_option linter.unusedVariables false
set_option linter.unusedSectionVars false
namespace Go.Proofs.YtaadobcfijegcaaDoor
open Go.RowKit

theorem joinL_take {ls : List (List UInt8)} {k : Nat} (h : k < ls.length) : joinL (ls.take (k + 1)) = joinL (ls.take k) ++ (47 :: ls.getD k []) := by
  rw [List.take_succ_eq_append_getElem h, joinL_snoc, List.getD_eq_getElem?_getD, List.getElem?_eq_getElem h]; rfl
theorem joinL_nil {ls : List (List UInt8)} : joinL ls = [] ↔ ls = [] := by
  cases ls with
  | nil => simp [joinL]
  | cons a r => simp [joinL]
theorem all_at {ls : List (List UInt8)} {p : List UInt8 → Bool} (h : ∀ i, i < ls.length → p (ls.getD i []) = true) : ls.all p = true := by
  rw [List.all_eq_true]
  intro x hx
  obtain ⟨i, hi, rfl⟩ := List.getElem_of_mem hx
  have := h i hi
  rw [List.getD_eq_getElem?_getD, List.getElem?_eq_getElem hi] at this
  simpa using this
theorem all_not {ls : List (List UInt8)} {p : List UInt8 → Bool} {i : Nat} (hi : i < ls.length) (h : p (ls.getD i []) = false) : ls.all p = false := by
  rw [List.all_eq_false]
  rw [List.getD_eq_getElem?_getD, List.getElem?_eq_getElem hi] at h
  exact ⟨ls[i], List.getElem_mem hi, by simpa using h⟩
set_option maxRecDepth 100000 in
set_option maxHeartbeats 2000000 in
theorem joinS_of (v : Value) (ls : List (List UInt8)) (w : World) (h : SlS w v (ls.map mk)) (hl : ls.length ≤ 1048600) (hsz : ∀ x ∈ ls, x.length ≤ 1048576) : Calls Tryd.prog 47 #[v] w fun e w' => e = .returned (.string (mk (joinP ls))) ∧ w = w' := by
  obtain ⟨A, cap, rfl, h1, h2, h3⟩ := h
  have hml : (ls.map mk).length = ls.length := List.length_map _
  rw [hml] at h1 ⊢
  unfold maxLen at h2
  have H3 := Lib.hid h3; clear h3
  have Hsz := Lib.hid hsz; clear hsz
  go_enter Tryd.func47, Tryd.ntmps47
  go_wp2
  go_loop [4, 3] (fun i o => ∃ k : Nat, k ≤ ls.length ∧ i = .int .i64 k ∧ o = .string (mk (joinL (ls.take k))) ∧ (0 < k → ls.length ≤ 6) ∧ ∀ j, j < k → nameB (ls.getD j []) = true) (fun i _ => ls.length - (intOf i).toNat)
  case atStart => exact ⟨0, Nat.zero_le _, rfl, rfl, fun h => absurd h (by omega), fun j hj => absurd hj (by omega)⟩
  case round =>
    obtain ⟨k, hk, rfl, rfl, h6, hall⟩ := hrel
    have Hall := Lib.hid hall; clear hall
    by_cases hlt : k < ls.length
    · obtain ⟨b, off, rfl, hb, hat⟩ := H3.out.resolve_left (fun e => by rw [List.map_eq_nil_iff] at e; subst e; simp at hlt)
      have c0 := hat k (by rw [hml]; exact hlt)
      rw [st_mk hlt] at c0
      have hxs : (mk (ls.getD k [])).size ≤ 1048576 := by
        rw [mk_size, List.getD_eq_getElem?_getD, List.getElem?_eq_getElem hlt]
        exact Hsz.out _ (List.getElem_mem hlt)
      have hsz : (mk (ls.getD k [])).size ≤ maxLen := by unfold maxLen; omega
      have hdat : (mk (ls.getD k [])).data.toList = ls.getD k [] := mk_data _
      have hnx : joinL (ls.take (k + 1)) = joinL (ls.take k) ++ (47 :: ls.getD k []) := joinL_take hlt
      have hcat : (mk (joinL (ls.take k)) ++ ⟨#[47]⟩) ++ mk (ls.getD k []) = mk (joinL (ls.take (k + 1))) := by
        rw [show (⟨#[47]⟩ : ByteArray) = mk [47] from rfl, cat_mk, cat_mk, hnx, List.append_assoc]; rfl
      have hjl : (mk (joinL (ls.take k))).size ≤ 54 := by
        rw [mk_size]
        by_cases hk0 : k = 0
        · subst hk0; exact Nat.zero_le _
        · have hla : (ls.take k).all nameB = true := by
            rw [List.all_eq_true]
            intro x hx
            obtain ⟨i, hi, rfl⟩ := List.getElem_of_mem hx
            rw [List.length_take] at hi
            have := Hall.out i (by omega)
            rw [List.getD_eq_getElem?_getD, List.getElem?_eq_getElem (by omega)] at this
            rw [List.getElem_take]; simpa using this
          have h0 := joinL_size hla
          have h9 := h6 (by omega)
          rw [List.length_take] at h0
          omega
      clear hat hnx
      by_cases h7 : 6 < ls.length
      · have hr : joinP ls = [] := joinP_no (by unfold namesB; rw [decide_eq_false (by omega), Bool.false_and])
        have Hr := Lib.hid hr; clear hr hcat
        cases hn : nameB (ls.getD k [])
        all_goals
          rw [← hdat] at hn
          have Hn := Lib.hid hn
          generalize mk (ls.getD k []) = x at c0 hsz hn hxs
          generalize mk (joinL (ls.take k)) = y at hjl ⊢
          go_wp2_with (go_at_call 40; refine (nameValidS_any _ _ hsz).mono ?_; rintro e w' ⟨rfl, rfl⟩; simp only [hn])
          go_ret
          exact ⟨by rw [Hr.out]; rfl, rfl⟩
      · cases hn : nameB (ls.getD k [])
        · have hr : joinP ls = [] := joinP_no (by unfold namesB; rw [all_not hlt hn, Bool.and_false])
          have Hr := Lib.hid hr; clear hr hcat
          rw [← hdat] at hn
          generalize mk (ls.getD k []) = x at c0 hsz hn hxs
          generalize mk (joinL (ls.take k)) = y at hjl ⊢
          go_wp2_with (go_at_call 40; refine (nameValidS_any _ _ hsz).mono ?_; rintro e w' ⟨rfl, rfl⟩; simp only [hn])
          go_ret
          exact ⟨by rw [Hr.out]; rfl, rfl⟩
        · have Hgo := Lib.hid hn
          rw [← hdat] at hn
          have hs1 : (mk (joinL (ls.take k))).size + (ByteArray.mk #[47]).size ≤ 9223372036854775807 := by rw [show (ByteArray.mk #[47]).size = 1 from rfl]; omega
          have hs2 : (mk (joinL (ls.take k)) ++ ByteArray.mk #[47]).size + (mk (ls.getD k [])).size ≤ 9223372036854775807 := by
            rw [ByteArray.size_append, show (ByteArray.mk #[47]).size = 1 from rfl]; omega
          have hs3 : (mk (joinL (ls.take k))).size + 1 + (mk (ls.getD k [])).size ≤ 9223372036854775807 := by omega
          have hs4 : (mk (joinL (ls.take k))).size + (ByteArray.mk #[47]).size + (mk (ls.getD k [])).size ≤ 9223372036854775807 := by rw [show (ByteArray.mk #[47]).size = 1 from rfl]; omega
          clear hdat
          generalize mk (ls.getD k []) = x at c0 hsz hn hxs hcat hs2 hs3 hs4
          generalize mk (joinL (ls.take k)) = y at hjl hcat hs1 hs2 hs3 hs4 ⊢
          have Hcat := Lib.hid hcat; clear hcat
          go_wp2_with (go_at_call 40; refine (nameValidS_any _ _ hsz).mono ?_; rintro e w' ⟨rfl, rfl⟩; simp only [hn])
          go_round
          case rel => exact ⟨k + 1, by omega, by go_num, by rw [Hcat.out], fun _ => by omega, fun j hj => by
            by_cases e : j = k
            · subst e; exact Hgo.out
            · exact Hall.out j (by omega)⟩
          case measure => simp [intOf]; omega
    · obtain rfl : k = ls.length := by omega
      have hla : ls.all nameB = true := all_at Hall.out
      rw [List.take_of_length_le (Nat.le_refl _)]
      by_cases hne : ls = []
      · have hr : joinP ls = [47] := by rw [hne]; rfl
        have hy : (mk (joinL ls)).toList = [] := by rw [mk_toList, hne]; rfl
        have Hr := Lib.hid hr; clear hr
        generalize mk (joinL ls) = y at hy ⊢
        go_wp2
        go_ret
        exact ⟨by first | rfl | (rw [Hr.out]; rfl), rfl⟩
      · have hn : namesB ls = true := by
          unfold namesB
          rw [hla, decide_eq_true (h6 (List.length_pos_iff.2 hne))]; rfl
        have hr : joinP ls = joinL ls := joinP_yes hn hne
        have hy : ¬ (mk (joinL ls)).toList = [] := by rw [mk_toList]; exact fun e => hne (joinL_nil.1 e)
        have f0 : (mk (joinL ls)).toList.isEmpty = false := by rw [Bool.eq_false_iff]; intro h; exact hy (List.isEmpty_iff.1 h)
        have hr' : mk (joinP ls) = mk (joinL ls) := by rw [hr]
        generalize mk (joinL ls) = y at hy f0 hr' ⊢
        have Hr := Lib.hid hr'; clear hr hr'
        go_wp2
        go_ret
        exact ⟨by rw [Hr.out]; rfl, rfl⟩
end Go.Proofs.YtaadobcfijegcaaDoor
