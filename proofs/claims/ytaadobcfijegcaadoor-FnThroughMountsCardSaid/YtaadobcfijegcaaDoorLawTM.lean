/- The drawn law on ThroughMounts: the walk. -/
import Derived.Test.YtaadobcfijegcaaDoorDrawM
import Derived.Test.YtaadobcfijegcaaDoorMntU
import Derived.Test.YtaadobcfijegcaaDoorLawBR
set_option linter.unusedSimpArgs false
set_option linter.unusedVariables false
set_option linter.unusedSectionVars false
namespace Go.Proofs.YtaadobcfijegcaaDoor
open Go.RowKit

theorem mountsB_at {l : List Mt} (h : mountsB l = true) {k : Nat} (hk : k < l.length) : okP (mt l k).1.data.toList = true ∧ okP (mt l k).2.data.toList = true := by
  have h1 : mtOk l k = true := by
    cases hm : mtOk l k
    · rw [mountsB_bad hk hm] at h; cases h
    · rfl
  unfold mtOk at h1
  simp only [Bool.and_eq_true] at h1
  exact ⟨h1.1, h1.2.1⟩
theorem mountsB_one {m : Mt} (h1 : okP m.1.data.toList = true) (h2 : okP m.2.data.toList = true) : mountsB [m] = true := by
  have h : mtOk [m] 0 = true := by
    show (okP m.1.data.toList && (okP m.2.data.toList && !(hasAt [] m.1))) = true
    rw [h1, h2]; rfl
  have := mountsB_good (l := [m]) (fun k hk => by
    have : k = 0 := by simp at hk; exact hk
    subst this; exact h)
  rw [this]; rfl
theorem through_one {m : Mt} {p : List UInt8} (h1 : okP m.1.data.toList = true) (h2 : okP m.2.data.toList = true) (hp : okP p = true) (hr : restOk p m.1.data.toList = true) (hne : throughF [m] p ≠ []) : restOk (throughF [m] p) m.2.data.toList = true := by
  unfold throughF at hne ⊢
  rw [mountsB_one h1 h2, hp, show (true && true) = true from rfl, if_pos rfl] at hne ⊢
  have hb : bestM p [m] = some m := by
    show better p none m = some m
    unfold better
    rw [if_pos hr]
  rw [hb] at hne ⊢
  have hne' : joinP (partsP m.2.data.toList ++ restP p m.1.data.toList) ≠ [] := hne
  show restOk (joinP (partsP m.2.data.toList ++ restP p m.1.data.toList)) m.2.data.toList = true
  have hn : namesB (partsP m.2.data.toList ++ restP p m.1.data.toList) = true := by
    cases hn : namesB (partsP m.2.data.toList ++ restP p m.1.data.toList)
    · rw [joinP_no hn] at hne'; exact absurd rfl hne'
    · rfl
  have hj := join_ok hn
  rw [rest_ok hj.1 h2, hj.2]; exact prefB_app _ _
theorem through_nil {p : List UInt8} (hp : okP p = true) : throughF [] p = p := by
  unfold throughF
  rw [hp]; rfl
theorem through_none {l : List Mt} {p : List UInt8} (hm : mountsB l = true) (hp : okP p = true) (h : ∀ k, k < l.length → restOk p (mt l k).1.data.toList = false) : throughF l p = p := by
  unfold throughF
  rw [hm, hp, show (true && true) = true from rfl, if_pos rfl]
  have : ∀ k, k ≤ l.length → bestM p (l.take k) = none := by
    intro k
    induction k with
    | zero => intro _; rfl
    | succ k ih =>
      intro hk
      rw [bestM_take (by omega), ih (by omega)]
      unfold better
      rw [h k (by omega)]; rfl
  have := this l.length (Nat.le_refl _)
  rw [List.take_length] at this
  rw [this]; rfl
theorem through_size (l : List Mt) (p : List UInt8) : (throughF l p).length ≤ 54 := by
  unfold throughF
  split
  · next h =>
    rw [Bool.and_eq_true] at h
    cases bestM p l with
    | none => exact ok_size h.2
    | some m =>
      show (joinP (partsP m.2.data.toList ++ restP p m.1.data.toList)).length ≤ 54
      cases hn : namesB (partsP m.2.data.toList ++ restP p m.1.data.toList)
      · rw [joinP_no hn]; exact Nat.zero_le _
      · exact ok_size (join_ok hn).1
  · exact Nat.zero_le _
theorem slG_sub {w : World} {b off n cap k : Nat} {l : List Mt} (h : SlG EM w (.slice (some ⟨b, off, none⟩) n cap) l) (hk : k < l.length) : SlG EM w (.slice (some ⟨b, off + k * 2, none⟩) 1 (cap - k)) [mt l k] := by
  have h1 := (h.take (k := k + 1) (by omega)).drop (k := k) (by rw [List.length_take]; omega)
  have e : (l.take (k + 1)).drop k = [mt l k] := by
    apply List.ext_getElem?
    intro i
    rw [List.getElem?_drop]
    cases i with
    | zero =>
      show (l.take (k + 1))[k]? = some (mt l k)
      rw [List.getElem?_take_of_lt (Nat.lt_succ_self _), mt_at hk]
    | succ i => rw [List.getElem?_eq_none (by rw [List.length_take]; omega)]; rfl
  rw [e, show (l.take (k + 1)).length - k = 1 from by rw [List.length_take]; omega] at h1
  exact h1
set_option maxRecDepth 100000 in
set_option maxHeartbeats 4000000 in
theorem walkFnThroughMounts (a : Option Addr) (len cap : Nat) (zs : List Int) (w : World) (hsh : w.ShapedOpen Tryd.prog) (hrow : IsRow .u8 w a len cap zs) :
    Calls Tryd.prog 13 #[.slice a len cap] w fun e w' => e = .returned (.bool true) ∧ Below w.heap.size w w' := by
  obtain ⟨hl1, hl2⟩ := hrow.len_le
  unfold maxLen at hl2
  by_cases hbig : (1048576 : Int) < (len : Int)
  · go_enter Tryd.func13, Tryd.ntmps13
    go_wp2
    go_ret
    exact ⟨rfl, Below.refl _ _⟩
  · have hm0 := maxL_of hsh
    go_enter Tryd.func13, Tryd.ntmps13
    go_wp2_with fail
    refine (drawTM_any a len cap zs _ hrow).mono ?_
    rintro e w1 ⟨v, l, P, rfl, hl, hsz, hp, hsl, b1⟩
    have hm1 := hm0.below b1
    have htx : MTxt l := fun i hi => by have := hsz i hi; omega
    have h1 := fun w h hm => throughI_of v l P w h htx hm (by omega)
    have h2 := fun w h => throughS_of v l P w h htx (by omega)
    have h3 := fun w hm => pathPartsI_of P w hm (by omega)
    have h4 := fun w h hm => mountsI_of v l w h htx hm
    have h5 := fun m hx w v h hm => throughI_of v [m] P w h hx hm (by omega)
    have h6 := fun R hR w hm => isBelowI_of P R w hm (by omega) hR
    have h7 := fun w h hm => throughI_of (.slice none 0 0) [] P w h (fun i hi => by simp at hi) hm (by omega)
    have h8 := fun m R hR w hm => isBelowI_of (mk (throughF [m] P.data.toList)) R w hm (by rw [mk_size]; have := through_size [m] P.data.toList; omega) hR
    have hone := fun m => through_one (m := m) (p := P.data.toList)
    have hnil := through_nil (p := P.data.toList)
    have hnon := through_none (l := l) (p := P.data.toList)
    have hno : (mountsB l && okP P.data.toList) = false → throughF l P.data.toList = [] := fun h => by unfold throughF; rw [h]; rfl
    have hPm := mk_list P
    unfold Parts at h3
    simp only [mk_data] at h8
    generalize P.data.toList = p at h1 h2 h3 h5 h6 h7 h8 hone hnil hnon hno hPm
    generalize partsP p = ps at h3
    have H1 := Lib.hid h1
    have H2 := Lib.hid h2
    have H3 := Lib.hid h3
    have H4 := Lib.hid h4
    have H5 := Lib.hid h5
    have H6 := Lib.hid h6
    have H7 := Lib.hid h7
    have H8 := Lib.hid h8
    have HP := Lib.hid hPm
    have Hsl := Lib.hid hsl
    have Htx := Lib.hid htx
    have Hone := Lib.hid hone
    have Hnil := Lib.hid hnil
    have Hnon := Lib.hid hnon
    have Hno := Lib.hid hno
    obtain ⟨A, c, rfl⟩ := hsl.shape
    have hcap := hsl.caps
    have hc1 := hcap.1
    have hc2 := hcap.2
    clear h1 h2 h3 h4 h5 h6 h7 h8 hPm hsl htx hone hnil hnon hno hcap hsz
    go_wp2_with fail
    refine (H1.out w1 Hsl.out hm1).mono ?_
    rintro e w2 ⟨rfl, b2⟩
    have hm2 := hm1.below b2
    have c2 := Below.step b2 b1.size b1
    go_wp2_with fail
    refine (H2.out w2 (Hsl.out.below b2)).mono ?_
    rintro e w3 ⟨rfl, b3⟩
    have hm3 := hm2.below b3
    have c3 := Below.step b3 c2.size c2
    go_wp2_with fail
    refine (H3.out w3 hm3).mono ?_
    rintro e w4 ⟨vp, rfl, op, b4⟩
    have hm4 := hm3.below b4
    have c4 := Below.step b4 c3.size c3
    have s4 := ((Hsl.out.below b2).below b3).below b4
    have S4 := Lib.hid s4
    obtain ⟨AP, cP, rfl⟩ := own_valm op
    clear op s4 b1 b2 b3 b4 c2 c3 hm0 hm1 hm2 hm3
    cases hok : okP p
    · have hz := Hno.out (by rw [hok, Bool.and_false])
      rw [hz, mk_nil]
      clear hz
      go_wp2_with (go_at_call 17; refine (alive_any _).mono ?_; rintro e w' ⟨rfl, rfl⟩)
      go_ret
      exact ⟨rfl, c4⟩
    · go_wp2_with fail
      refine (H4.out w4 S4.out hm4).mono ?_
      rintro e w5 ⟨rfl, b5⟩
      have hm5 := hm4.below b5
      have c5 := Below.step b5 c4.size c4
      have s5 := S4.out.below b5
      have S5 := Lib.hid s5
      clear s5 b5 c4
      cases hmv : mountsB l
      · have hz := Hno.out (by rw [hmv]; rfl)
        rw [hz, mk_nil]
        clear hz
        go_wp2_with (go_at_call 17; refine (alive_any _).mono ?_; rintro e w' ⟨rfl, rfl⟩)
        go_ret
        exact ⟨rfl, c5⟩
      · have Hok := Lib.hid hok
        have Hmv := Lib.hid hmv
        have hw5 : w.heap.size ≤ w5.heap.size := c5.size
        clear hok hmv
        go_wp2
        go_loopw [9, 8] (fun i bl wr => ∃ (k : Nat) (b : Bool), k ≤ l.length ∧ i = .int .i64 k ∧ bl = .bool b ∧ (b = false → ∀ j, j < k → restOk p (mt l j).1.data.toList = false) ∧ Below w5.heap.size w5 wr) (fun i _ _ => l.length - (intOf i).toNat)
        case atStart => exact ⟨0, false, Nat.zero_le _, rfl, rfl, fun _ j hj => absurd hj (by omega), Below.refl _ _⟩
        case round =>
          obtain ⟨k, b, hk, rfl, rfl, hall, hbl⟩ := hrel
          have Hall := Lib.hid hall
          have Hbl := Lib.hid hbl
          have hwr : w5.heap.size ≤ wr.heap.size := hbl.size
          have hmr := hm5.below hbl
          clear hall hbl
          by_cases hlt : k < l.length
          · obtain ⟨b0, off, rfl, hb, d0, d1⟩ := mnt_cells S5.out hlt
            have hsub := fun W (hW : Below w5.heap.size w5 W) => slG_sub (S5.out.below hW) hlt
            obtain ⟨z1, z2⟩ := Htx.out k hlt
            obtain ⟨q1, q2⟩ := mountsB_at Hmv.out hlt
            have hx1 : MTxt [mt l k] := fun i hi => by
              have : i = 0 := by simp at hi; exact hi
              subst this; exact ⟨z1, z2⟩
            have g5 := fun w v h hm => H5.out (mt l k) hx1 w v h hm
            have g6 := fun w hm => H6.out (mt l k).1 z1 w hm
            have g8 := fun w hm => H8.out (mt l k) (mt l k).2 z2 w hm
            have gone := fun hr => Hone.out (mt l k) q1 q2 Hok.out hr
            generalize throughF [mt l k] p = x at g5 g8 gone
            generalize hro : restOk p (mt l k).1.data.toList = ro at g6 gone
            generalize restOk x (mt l k).2.data.toList = rx at g8 gone
            have Hsub := Lib.hid hsub
            generalize (mt l k).2 = x2 at d1 g8
            have G5 := Lib.hid g5
            have G6 := Lib.hid g6
            have G8 := Lib.hid g8
            have Gone := Lib.hid gone
            have Hro := Lib.hid hro
            have D0 := Lib.hid d0
            have D1 := Lib.hid d1
            have hkc : (k : Int) + 1 ≤ (c : Int) := by omega
            have zk : IntKind.i64.wrap ((k : Int) + 1) = (k : Int) + 1 := IntWalk.i64_in _ (by omega)
            clear hsub g5 g6 g8 gone hro d0 d1 z1 z2 q1 q2 hx1
            go_wp2_with fail
            refine (G5.out wr _ (Hsub.out wr Hbl.out) hmr).mono ?_
            rintro e w6 ⟨rfl, b6⟩
            have hm6 := hmr.below b6
            have c6 : Below w5.heap.size w5 w6 := Below.step b6 hwr Hbl.out
            have e0 := (c6.cell (p := ⟨b0, off + k * 2, none⟩) hb).trans D0.out
            have e1 := (c6.cell (p := ⟨b0, off + k * 2 + 1, none⟩) hb).trans D1.out
            have C6 := Lib.hid c6
            clear b6 c6
            have hz6 : w5.heap.size ≤ w6.heap.size := C6.out.size
            have hkl : (k : Int) < (l.length : Int) := by omega
            generalize hx1 : (mt l k).1 = x1 at e0 G6
            clear hx1
            go_wp2_with fail
            refine (G6.out w6 hm6).mono ?_
            rintro e w7 ⟨rfl, b7⟩
            have hm7 := hm6.below b7
            have c7 : Below w5.heap.size w5 w7 := Below.step b7 hz6 C6.out
            have f1 := (b7.cell (p := ⟨b0, off + k * 2 + 1, none⟩) (show b0 < w6.heap.size by omega)).trans e1
            have hz7 : w5.heap.size ≤ w7.heap.size := c7.size
            have C7 := Lib.hid c7
            clear b7 c7 e0 e1
            cases ro
            · go_wp2
              go_roundw
              case rel => exact ⟨k + 1, b, by omega, by go_num, rfl, fun hb j hj => by
                by_cases e : j = k
                · subst e; exact Hro.out
                · exact Hall.out hb j (by omega), C7.out⟩
              case measure => simp [intOf]; omega
            · by_cases hx0 : x = []
              · subst hx0
                rw [mk_nil]
                go_wp2
                go_roundw
                case rel => exact ⟨k + 1, true, by omega, by go_num, rfl, (fun hb => by cases hb), C7.out⟩
                case measure => simp [intOf]; omega
              · have hrx := Gone.out (by trivial) hx0
                have hne := mk_ne hx0
                subst hrx
                generalize mk x = y at hne G8 ⊢
                clear hx0 Gone
                go_wp2_with fail
                refine (G8.out w7 hm7).mono ?_
                rintro e w8 ⟨rfl, b8⟩
                have c8 : Below w5.heap.size w5 w8 := Below.step b8 hz7 C7.out
                clear b8
                go_wp2
                go_roundw
                case rel => exact ⟨k + 1, true, by omega, by go_num, rfl, (fun hb => by cases hb), c8⟩
                case measure => simp [intOf]; omega
          · obtain rfl : k = l.length := by omega
            have h7 := H7.out wr (SlG.nil wr) hmr
            rw [Hnil.out Hok.out, ← HP.out] at h7
            have H7' := Lib.hid h7
            have cr : Below w.heap.size w wr := Below.step Hbl.out hw5 c5
            have Cr := Lib.hid cr
            have hwz : w.heap.size ≤ wr.heap.size := cr.size
            clear h7 cr
            cases b
            · have hz := Hnon.out Hmv.out Hok.out (Hall.out (by trivial))
              rw [hz, ← HP.out]
              clear hz
              go_wp2_with fail
              refine H7'.out.mono ?_
              rintro e w9 ⟨rfl, b9⟩
              go_wp2
              go_ret
              exact ⟨rfl, Below.step b9 hwz Cr.out⟩
            · generalize mk (throughF l p) = y
              go_wp2_with fail
              refine H7'.out.mono ?_
              rintro e w9 ⟨rfl, b9⟩
              go_wp2
              go_ret
              exact ⟨rfl, Below.step b9 hwz Cr.out⟩
end Go.Proofs.YtaadobcfijegcaaDoor
