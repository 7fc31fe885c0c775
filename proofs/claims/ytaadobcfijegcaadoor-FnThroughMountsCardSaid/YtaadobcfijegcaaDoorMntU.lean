/- Mounts: the reference's 'ThroughMounts'. -/
import Derived.Test.YtaadobcfijegcaaDoorMntT
import Derived.Test.YtaadobcfijegcaaDoorMntS
import Derived.Test.YtaadobcfijegcaaDoorAppS
set_option linter.unusedSimpArgs false
set_option linter.unusedVariables false
set_option linter.unusedSectionVars false
namespace Go.Proofs.YtaadobcfijegcaaDoor
open Go.RowKit

def longO (l : List Mt) : Option Nat → Int
  | none => -1
  | some b => ((partsP (mt l b).1.data.toList).length : Int)
set_option maxRecDepth 100000 in
set_option maxHeartbeats 4000000 in
theorem throughS_of (v : Value) (l : List Mt) (P : ByteArray) (w : World) (h : SlG EM w v l) (ht : MTxt l) (hp : P.size ≤ 1048576) : Calls Tryd.prog 37 #[v, .string P] w fun e w' => e = .returned (.string (mk (throughF l P.data.toList))) ∧ Below w.heap.size w w' := by
  have h1 := fun w h => mountsS_of v l w h ht
  have h2 := fun w => pathPartsS_of P w hp
  have h3 := fun R hR w => isBelowS_of P R w hp hR
  have hP := mk_list P
  have hl6 : (partsP P.data.toList).length ≤ 6 := partsP_len _
  have hp' : P.data.toList.length ≤ 1048576 := by rw [size_list]; exact hp
  generalize P.data.toList = p at h2 h3 hP hl6 hp' ⊢
  unfold Parts at h2
  have H := Lib.hid h
  have Ht := Lib.hid ht
  have HP := Lib.hid hP
  have H3 := Lib.hid h3
  obtain ⟨A, cap, rfl⟩ := h.shape
  have hcap := h.caps
  have hc1 := hcap.1
  have hc2 := hcap.2
  clear h hcap ht hP h3
  go_enter Tryd.func37, Tryd.ntmps37
  go_wp2_with fail
  refine (h2 w).mono ?_
  rintro e w1 ⟨vp, rfl, op, b1⟩
  have sp := ownS_sl op
  have Sp := Lib.hid sp
  obtain ⟨AP, cP, rfl, hcP1, hcP2⟩ := sl_valc sp
  clear op sp h2
  rcases and2 (okP p) (mountsB l) with e1 | ⟨e1, e2⟩ | ⟨e1, e2⟩
  · have hr : mk (throughF l p) = ⟨#[]⟩ := by unfold throughF; rw [e1, Bool.and_false]; rfl
    have Hr := Lib.hid hr
    clear hr
    rw [e1]
    go_wp2
    go_ret
    exact ⟨by rw [Hr.out]; rfl, b1⟩
  · have hr : mk (throughF l p) = ⟨#[]⟩ := by unfold throughF; rw [e1, e2]; rfl
    have Hr := Lib.hid hr
    clear hr
    rw [e1]
    go_wp2_with fail
    refine (h1 _ (H.out.below b1)).mono ?_
    rintro e w2 ⟨rfl, b2⟩
    rw [e2]
    go_wp2
    go_ret
    exact ⟨by rw [Hr.out]; rfl, Below.step b2 b1.size b1⟩
  · have hr : throughF l p = endM p (bestM p l) := by unfold throughF; rw [e1, e2]; rfl
    have Hr := Lib.hid hr
    clear hr
    rw [e1]
    go_wp2_with fail
    refine (h1 _ (H.out.below b1)).mono ?_
    rintro e w2 ⟨rfl, b2⟩
    have c2 := Below.step b2 b1.size b1
    have hsz2 : w.heap.size ≤ w2.heap.size := c2.size
    have sp2 := Sp.out.below b2
    have Sp2 := Lib.hid sp2
    rw [e2]
    clear h1 sp2
    go_wp2
    go_loopw [9, 7, 8] (fun i bst lng wr => ∃ (k : Nat) (o : Option Nat), k ≤ l.length ∧ i = .int .i64 k ∧ bst = .int .i64 (numO o) ∧ lng = .int .i64 (longO l o) ∧ Best p l k o ∧ Below w2.heap.size w2 wr) (fun i _ _ _ => l.length - (intOf i).toNat)
    case atStart => exact ⟨0, none, Nat.zero_le _, rfl, rfl, rfl, best_zero p l, Below.refl _ _⟩
    case round =>
      obtain ⟨k, o, hk, rfl, rfl, rfl, hbest, hbl⟩ := hrel
      have Hbest := Lib.hid hbest
      have Hbl := Lib.hid hbl
      have hwr : w2.heap.size ≤ wr.heap.size := hbl.size
      clear hbest hbl
      by_cases hlt : k < l.length
      · obtain ⟨b, off, rfl, hb, d0, _⟩ := mnt_cells H.out hlt
        have e0 := (Hbl.out.cell (p := ⟨b, off + k * 2, none⟩) (show b < w2.heap.size by omega)).trans ((c2.cell (p := ⟨b, off + k * 2, none⟩) hb).trans d0)
        obtain ⟨z1, _⟩ := Ht.out k hlt
        have hq := fun w => pathPartsS_of (mt l k).1 w z1
        have hq3 := fun w => H3.out (mt l k).1 z1 w
        unfold Parts at hq
        have hskip := fun hr => best_skip Hbest.out hlt hr
        have hk6 : (partsP (mt l k).1.data.toList).length ≤ 6 := partsP_len _
        have hlk : longO l (some k) = ((partsP (mt l k).1.data.toList).length : Int) := rfl
        have Hlk := Lib.hid hlk
        clear hlk
        have hcase : (restOk p (mt l k).1.data.toList = false) ∨ (restOk p (mt l k).1.data.toList = true ∧ longO l o < ((partsP (mt l k).1.data.toList).length : Int) ∧ Best p l (k + 1) (some k)) ∨ (restOk p (mt l k).1.data.toList = true ∧ ¬ longO l o < ((partsP (mt l k).1.data.toList).length : Int) ∧ Best p l (k + 1) o) := by
          cases hrok : restOk p (mt l k).1.data.toList
          · exact .inl rfl
          · right
            cases o with
            | none => exact .inl ⟨rfl, by (show (-1 : Int) < _); omega, best_first Hbest.out hlt hrok⟩
            | some bb =>
              by_cases hlen : (partsP (mt l bb).1.data.toList).length < (partsP (mt l k).1.data.toList).length
              · exact .inl ⟨rfl, by (show ((partsP (mt l bb).1.data.toList).length : Int) < _); omega, best_more Hbest.out hlt hrok hlen⟩
              · exact .inr ⟨rfl, by (show ¬ ((partsP (mt l bb).1.data.toList).length : Int) < _); omega, best_less Hbest.out hlt hrok hlen⟩
        have hskip2 : restOk p (mt l k).1.data.toList = false → Best p l (k + 1) o := hskip
        have Hskip := Lib.hid hskip2
        clear hskip hskip2
        generalize hps : partsP (mt l k).1.data.toList = ps at hq hk6 hcase
        have Hps := Lib.hid hps
        rw [hps] at Hlk
        generalize hro : restOk p (mt l k).1.data.toList = ro at hq3 hcase
        rw [hro] at Hskip
        generalize okP (mt l k).1.data.toList = ok1 at hq
        generalize (mt l k).1 = x1 at e0 hq hq3
        generalize hlo : longO l o = lo at hcase
        have Hlo := Lib.hid hlo
        have Hq := Lib.hid hq
        have Hq3 := Lib.hid hq3
        have Hcase := Lib.hid hcase
        clear hq hq3 d0 hps hro hcase hlo z1
        rcases Hcase.out with p1 | ⟨p1, p2, p3⟩ | ⟨p1, p2, p3⟩
        · have hs := Hskip.out p1
          have Hs := Lib.hid hs
          subst p1
          clear hs
          go_wp2_with fail
          refine (Hq.out _).mono ?_
          rintro e w4 ⟨v4, rfl, o4, hb4⟩
          obtain ⟨A4, c4, rfl⟩ := own_valm o4
          obtain ⟨d4, os4, rfl⟩ := ext_of_below hb4; clear hb4 o4
          go_wp2_with fail
          refine (Hq3.out _).mono ?_
          rintro e w5 ⟨rfl, hb5⟩
          obtain ⟨d5, os5, rfl⟩ := ext_of_below hb5; clear hb5
          go_wp2
          go_roundw
          case rel => exact ⟨k + 1, o, by omega, by go_num, rfl, by rw [Hlo.out], Hs.out, (by (repeat (first | exact Below.refl _ _ | exact Hbl.out | refine Below.ext ?_ (by first | omega | (simp; omega) | simp) | refine Below.setCell ?_ (by first | omega | (simp; omega) | simp) _ | refine Below.alloc ?_ (by first | omega | (simp; omega) | simp) _ | refine Below.drew ?_ | refine below_drewN ?_ _ | refine Below.step (by assumption) (by first | omega | (simp; omega) | simp) ?_)))⟩
          case measure => simp [intOf]; omega
        · have Hs := Lib.hid p3
          subst p1
          clear p3
          go_wp2_with fail
          refine (Hq.out _).mono ?_
          rintro e w4 ⟨v4, rfl, o4, hb4⟩
          obtain ⟨A4, c4, rfl⟩ := own_valm o4
          obtain ⟨d4, os4, rfl⟩ := ext_of_below hb4; clear hb4 o4
          go_wp2_with fail
          refine (Hq3.out _).mono ?_
          rintro e w5 ⟨rfl, hb5⟩
          obtain ⟨d5, os5, rfl⟩ := ext_of_below hb5; clear hb5
          go_wp2
          go_roundw
          case rel => exact ⟨k + 1, some k, by omega, by go_num, rfl, by rw [Hlk.out], Hs.out, (by (repeat (first | exact Below.refl _ _ | exact Hbl.out | refine Below.ext ?_ (by first | omega | (simp; omega) | simp) | refine Below.setCell ?_ (by first | omega | (simp; omega) | simp) _ | refine Below.alloc ?_ (by first | omega | (simp; omega) | simp) _ | refine Below.drew ?_ | refine below_drewN ?_ _ | refine Below.step (by assumption) (by first | omega | (simp; omega) | simp) ?_)))⟩
          case measure => simp [intOf]; omega
        · have Hs := Lib.hid p3
          subst p1
          clear p3
          go_wp2_with fail
          refine (Hq.out _).mono ?_
          rintro e w4 ⟨v4, rfl, o4, hb4⟩
          obtain ⟨A4, c4, rfl⟩ := own_valm o4
          obtain ⟨d4, os4, rfl⟩ := ext_of_below hb4; clear hb4 o4
          go_wp2_with fail
          refine (Hq3.out _).mono ?_
          rintro e w5 ⟨rfl, hb5⟩
          obtain ⟨d5, os5, rfl⟩ := ext_of_below hb5; clear hb5
          go_wp2
          go_roundw
          case rel => exact ⟨k + 1, o, by omega, by go_num, rfl, by rw [Hlo.out], Hs.out, (by (repeat (first | exact Below.refl _ _ | exact Hbl.out | refine Below.ext ?_ (by first | omega | (simp; omega) | simp) | refine Below.setCell ?_ (by first | omega | (simp; omega) | simp) _ | refine Below.alloc ?_ (by first | omega | (simp; omega) | simp) _ | refine Below.drew ?_ | refine below_drewN ?_ _ | refine Below.step (by assumption) (by first | omega | (simp; omega) | simp) ?_)))⟩
          case measure => simp [intOf]; omega
      · obtain rfl : k = l.length := by omega
        have hend := best_end Hbest.out
        have cr : Below w.heap.size w wr := Below.step Hbl.out hsz2 c2
        have Cr := Lib.hid cr
        clear cr
        cases o with
        | none =>
          have hz : mk (throughF l p) = P := by rw [Hr.out, hend, HP.out]; rfl
          have Hz := Lib.hid hz
          clear hz hend
          dsimp only [numO, longO]
          go_wp2
          go_ret
          exact ⟨by rw [Hz.out]; rfl, Cr.out⟩
        | some bb =>
          obtain ⟨hbb, hbr⟩ := Hbest.out.2 bb rfl
          obtain ⟨b, off, rfl, hb, _, d1⟩ := mnt_cells H.out hbb
          have e1 := (Hbl.out.cell (p := ⟨b, off + bb * 2 + 1, none⟩) (show b < w2.heap.size by omega)).trans ((c2.cell (p := ⟨b, off + bb * 2 + 1, none⟩) hb).trans d1)
          have z2 := (Ht.out bb hbb).2
          have hz : mk (throughF l p) = mk (joinP (partsP (mt l bb).2.data.toList ++ restP p (mt l bb).1.data.toList)) := by rw [Hr.out, hend]; rfl
          have hrb := rest_len hbr
          have hr2 : restP p (mt l bb).1.data.toList = (partsP p).drop (partsP (mt l bb).1.data.toList).length := by unfold restP; rw [hbr]; rfl
          have hsz := restP_sizes p (mt l bb).1.data.toList
          have hsz3 := partsP_sizes (mt l bb).2.data.toList
          have hto6 : (partsP (mt l bb).2.data.toList).length ≤ 6 := partsP_len _
          have hq := fun w => pathPartsS_of (mt l bb).2 w z2
          unfold Parts at hq
          have z2' : (mt l bb).2.data.toList.length ≤ 1048576 := by rw [size_list]; exact z2
          have hj := fun v w h => joinS_of v (partsP (mt l bb).2.data.toList ++ restP p (mt l bb).1.data.toList) w h (by rw [List.length_append]; omega) (fun x hx => by
            rcases List.mem_append.1 hx with h | h
            · have := hsz3 x h; omega
            · have := hsz x h; omega)
          rw [List.map_append] at hj
          generalize mk (joinP (partsP (mt l bb).2.data.toList ++ restP p (mt l bb).1.data.toList)) = y at hz hj
          generalize okP (mt l bb).2.data.toList = ok2 at hq
          have hlo : longO l (some bb) = ((partsP (mt l bb).1.data.toList).length : Int) := rfl
          rw [hlo]
          generalize (partsP (mt l bb).1.data.toList).length = n1 at hr2 hrb ⊢
          generalize (restP p (mt l bb).1.data.toList) = rb at hj hr2 hrb
          generalize partsP (mt l bb).2.data.toList = tt at hq hj hto6
          generalize (mt l bb).2 = x2 at e1 hq
          have hsp := Sp2.out.below Hbl.out
          have Hsp := Lib.hid hsp
          have Hz := Lib.hid hz
          have Hj := Lib.hid hj
          have Hq := Lib.hid hq
          have Hr2 := Lib.hid hr2
          have hnb : ¬ (bb : Int) < 0 := by omega
          have hbl' : (bb : Int) < (l.length : Int) := by omega
          have hwz : w.heap.size ≤ wr.heap.size := Cr.out.size
          clear hz hj hsz hsz3 hend d1 hbr z2 z2' hsp hq hlo hr2
          dsimp only [numO]
          have hn1 : (n1 : Int) ≤ ((partsP p).length : Int) := by omega
          have hn2 : ¬ (n1 : Int) < 0 := by omega
          have hn3 : (n1 : Int) ≤ (cP : Int) := by omega
          have hlen : rb.length = (partsP p).length - n1 := by omega
          have Hlen := Lib.hid hlen
          have hrb6 : rb.length ≤ 6 := by omega
          have hn4 : n1 ≤ (partsP p).length := by omega
          have hn5 : n1 ≤ cP := by omega
          clear hlen hrb
          go_wp2_with fail
          refine (Hq.out _).mono ?_
          rintro e w4 ⟨v4, rfl, o4, b4⟩
          have hgB : ∀ j, v4.ownBlock = some j → w.heap.size ≤ j := fun j hj => by have := (o4.lt j hj).1; omega
          have O4 := Lib.hid o4
          obtain ⟨A4, c4, rfl⟩ := own_valm o4
          have cc4 := Below.step b4 hwz Cr.out
          have sp4 := Hsp.out.below b4
          have Sp4 := Lib.hid sp4
          have hz4 : w.heap.size ≤ w4.heap.size := cc4.size
          clear o4 sp4 b4
          by_cases hpe : partsP p = []
          · have hpl : (partsP p).length = 0 := by rw [hpe]; rfl
            have hn0 : n1 = 0 := by omega
            have hd : rb.map mk = [] := by rw [Hr2.out, hpe]; simp
            have hany : ∀ X Y, Y ≤ 9223372036854775807 → SlS w4 (.slice X 0 Y) (rb.map mk) := fun X Y hY => by rw [hd]; exact ⟨X, Y, rfl, Nat.zero_le _, by unfold maxLen; omega, .inl rfl⟩
            have Hany := Lib.hid hany
            clear hany hd hpe
            subst hn0
            rw [hpl] at *
            cases AP with
            | none =>
              go_wp2_with (at_builtin; refine wpList_appSG _ rfl (.tmp 69) (.tmp 72) rfl w.heap.size _ (tt.map mk) rfl ?cO _ (rb.map mk) rfl ?cS ?cL ?cB ?_)
              case cO => exact ownS_mono O4.out hwz
              case cS => exact Hany.out _ _ (by omega)
              case cL => rw [List.length_map, List.length_map]; omega
              case cB => exact hz4
              intro v' w5 o5 g5
              have c5 : Below w.heap.size w w5 := Below.grown cc4 g5 hz4 hgB
              rw [← List.map_append] at o5
              have hj5 := Hj.out v' w5 (by rw [← List.map_append]; exact ownS_sl o5)
              obtain ⟨A5, n5, k5, rfl⟩ := own_valn o5
              have Hj5 := Lib.hid hj5
              clear hj5 o5
              go_wp2_with fail
              refine Hj5.out.mono ?_
              rintro e w6 ⟨rfl, rfl⟩
              go_wp2
              go_ret
              exact ⟨by rw [Hz.out]; rfl, c5⟩
            | some ad =>
              go_wp2_with (at_builtin; refine wpList_appSG _ rfl (.tmp 69) (.tmp 72) rfl w.heap.size _ (tt.map mk) rfl ?cO _ (rb.map mk) rfl ?cS ?cL ?cB ?_)
              case cO => exact ownS_mono O4.out hwz
              case cS => exact Hany.out _ _ (by omega)
              case cL => rw [List.length_map, List.length_map]; omega
              case cB => exact hz4
              intro v' w5 o5 g5
              have c5 : Below w.heap.size w w5 := Below.grown cc4 g5 hz4 hgB
              rw [← List.map_append] at o5
              have hj5 := Hj.out v' w5 (by rw [← List.map_append]; exact ownS_sl o5)
              obtain ⟨A5, n5, k5, rfl⟩ := own_valn o5
              have Hj5 := Lib.hid hj5
              clear hj5 o5
              go_wp2_with fail
              refine Hj5.out.mono ?_
              rintro e w6 ⟨rfl, rfl⟩
              go_wp2
              go_ret
              exact ⟨by rw [Hz.out]; rfl, c5⟩
          · obtain ⟨g, off', rfl⟩ : ∃ g off', AP = some ⟨g, off', none⟩ := by
              obtain ⟨A2, cap2, e, _, _, h⟩ := Sp4.out
              injection e with k1 _ _
              subst k1
              obtain ⟨g, off', e, _, _⟩ := h.resolve_left (fun e => hpe (List.map_eq_nil_iff.1 e))
              exact ⟨g, off', e⟩
            have hdr := slS_drop (k := n1) Sp4.out (by rw [List.length_map]; exact hn4)
            rw [← List.map_drop, ← Hr2.out, List.length_map] at hdr
            have Hdr := Lib.hid hdr; clear hdr hpe
            by_cases hkk : cP = n1
            · have hd : rb.map mk = [] := by
                rw [Hr2.out, List.drop_of_length_le (by omega)]; rfl
              have hpp : (partsP p).length = n1 := by omega
              have hany : ∀ X Y, Y ≤ 9223372036854775807 → SlS w4 (.slice X 0 Y) (rb.map mk) := fun X Y hY => by rw [hd]; exact ⟨X, Y, rfl, Nat.zero_le _, by unfold maxLen; omega, .inl rfl⟩
              have Hany := Lib.hid hany; clear hany hd
              subst hkk
              rw [hpp]
              clear hpp hn1 hn3 hn4
              go_wp2_with (at_builtin; refine wpList_appSG _ rfl (.tmp 69) (.tmp 72) rfl w.heap.size _ (tt.map mk) rfl ?cO _ (rb.map mk) rfl ?cS ?cL ?cB ?_)
              case cO => exact ownS_mono O4.out hwz
              case cS => exact Hany.out _ _ (by omega)
              case cL => rw [List.length_map, List.length_map]; omega
              case cB => exact hz4
              intro v' w5 o5 g5
              have c5 : Below w.heap.size w w5 := Below.grown cc4 g5 hz4 hgB
              rw [← List.map_append] at o5
              have hj5 := Hj.out v' w5 (by rw [← List.map_append]; exact ownS_sl o5)
              obtain ⟨A5, n5, k5, rfl⟩ := own_valn o5
              have Hj5 := Lib.hid hj5
              clear hj5 o5
              go_wp2_with fail
              refine Hj5.out.mono ?_
              rintro e w6 ⟨rfl, rfl⟩
              go_wp2
              go_ret
              exact ⟨by rw [Hz.out]; rfl, c5⟩
            · have hkk' : ¬ (cP : Int) = (n1 : Int) := by omega
              go_wp2_with (at_builtin; refine wpList_appSG _ rfl (.tmp 69) (.tmp 72) rfl w.heap.size _ (tt.map mk) rfl ?cO _ (rb.map mk) rfl ?cS ?cL ?cB ?_)
              case cO => exact ownS_mono O4.out hwz
              case cS => exact Hdr.out
              case cL => rw [List.length_map, List.length_map]; omega
              case cB => exact hz4
              intro v' w5 o5 g5
              have c5 : Below w.heap.size w w5 := Below.grown cc4 g5 hz4 hgB
              rw [← List.map_append] at o5
              have hj5 := Hj.out v' w5 (by rw [← List.map_append]; exact ownS_sl o5)
              obtain ⟨A5, n5, k5, rfl⟩ := own_valn o5
              have Hj5 := Lib.hid hj5
              clear hj5 o5
              go_wp2_with fail
              refine Hj5.out.mono ?_
              rintro e w6 ⟨rfl, rfl⟩
              go_wp2
              go_ret
              exact ⟨by rw [Hz.out]; rfl, c5⟩
end Go.Proofs.YtaadobcfijegcaaDoor
