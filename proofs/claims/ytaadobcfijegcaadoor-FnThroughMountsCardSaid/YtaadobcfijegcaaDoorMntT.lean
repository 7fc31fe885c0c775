/- Mounts: 'ThroughMounts': the plain side; the program. -/
import Derived.Test.YtaadobcfijegcaaDoorMntI
import Derived.Test.YtaadobcfijegcaaDoorPathP
set_option linter.unusedSimpArgs false
set_option linter.unusedVariables false
set_option linter.unusedSectionVars false
namespace Go.Proofs.YtaadobcfijegcaaDoor
open Go.RowKit

/-- Of two mounts the one with more names in At counts. -/
def better (p : List UInt8) (b : Option Mt) (m : Mt) : Option Mt :=
  if restOk p m.1.data.toList = true then
    match b with
    | none => some m
    | some m' => if (partsP m'.1.data.toList).length < (partsP m.1.data.toList).length then some m else some m'
  else b
def bestM (p : List UInt8) (l : List Mt) : Option Mt := l.foldl (better p) none
def endM (p : List UInt8) : Option Mt → List UInt8
  | none => p
  | some m => joinP (partsP m.2.data.toList ++ restP p m.1.data.toList)
/-- What 'ThroughMounts' gives. -/
def throughF (l : List Mt) (p : List UInt8) : List UInt8 := if (mountsB l && okP p) = true then endM p (bestM p l) else []
theorem bestM_take {p : List UInt8} {l : List Mt} {k : Nat} (h : k < l.length) : bestM p (l.take (k + 1)) = better p (bestM p (l.take k)) (mt l k) := by
  unfold bestM
  rw [List.take_succ_eq_append_getElem h, List.foldl_append]
  have : mt l k = l[k] := by
    have := mt_at h
    rw [List.getElem?_eq_getElem h] at this
    injection this with e; exact e.symm
  rw [this]; rfl
def numO : Option Nat → Int
  | none => -1
  | some b => b
/-- Behind k mounts the best one is number o. -/
def Best (p : List UInt8) (l : List Mt) (k : Nat) (o : Option Nat) : Prop := bestM p (l.take k) = o.map (mt l) ∧ ∀ b, o = some b → b < l.length ∧ restOk p (mt l b).1.data.toList = true
theorem best_zero (p : List UInt8) (l : List Mt) : Best p l 0 none := ⟨rfl, fun b h => by cases h⟩
theorem best_skip {p : List UInt8} {l : List Mt} {k : Nat} {o : Option Nat} (h : Best p l k o) (hk : k < l.length) (hr : restOk p (mt l k).1.data.toList = false) : Best p l (k + 1) o :=
  ⟨by rw [bestM_take hk, h.1]; unfold better; rw [hr]; rfl, h.2⟩
theorem best_first {p : List UInt8} {l : List Mt} {k : Nat} (h : Best p l k none) (hk : k < l.length) (hr : restOk p (mt l k).1.data.toList = true) : Best p l (k + 1) (some k) :=
  ⟨by rw [bestM_take hk, h.1]; unfold better; rw [if_pos hr]; rfl, fun b e => by cases e; exact ⟨hk, hr⟩⟩
theorem best_more {p : List UInt8} {l : List Mt} {k b : Nat} (h : Best p l k (some b)) (hk : k < l.length) (hr : restOk p (mt l k).1.data.toList = true) (hl : (partsP (mt l b).1.data.toList).length < (partsP (mt l k).1.data.toList).length) : Best p l (k + 1) (some k) :=
  ⟨by
    rw [bestM_take hk, h.1]; unfold better; rw [if_pos hr]
    show (if (partsP (mt l b).1.data.toList).length < (partsP (mt l k).1.data.toList).length then some (mt l k) else some (mt l b)) = _
    rw [if_pos hl]; rfl, fun b e => by cases e; exact ⟨hk, hr⟩⟩
theorem best_less {p : List UInt8} {l : List Mt} {k b : Nat} (h : Best p l k (some b)) (hk : k < l.length) (hr : restOk p (mt l k).1.data.toList = true) (hl : ¬ (partsP (mt l b).1.data.toList).length < (partsP (mt l k).1.data.toList).length) : Best p l (k + 1) (some b) :=
  ⟨by
    rw [bestM_take hk, h.1]; unfold better; rw [if_pos hr]
    show (if (partsP (mt l b).1.data.toList).length < (partsP (mt l k).1.data.toList).length then some (mt l k) else some (mt l b)) = _
    rw [if_neg hl]; rfl, h.2⟩
theorem best_end {p : List UInt8} {l : List Mt} {o : Option Nat} (h : Best p l l.length o) : bestM p l = o.map (mt l) := by
  have := h.1
  rwa [List.take_length] at this
theorem rest_len {p r : List UInt8} (h : restOk p r = true) : (partsP p).length = (partsP r).length + (restP p r).length := by
  have := congrArg List.length (rest_yes h).2.2
  rwa [List.length_append] at this
def restO (p : List UInt8) (l : List Mt) : Option Nat → List (List UInt8)
  | none => []
  | some b => restP p (mt l b).1.data.toList
theorem sl_valc {w : World} {v : Value} {ls : List (List UInt8)} (h : SlS w v (ls.map mk)) : ∃ A c, v = .slice A ls.length c ∧ ls.length ≤ c ∧ c ≤ 9223372036854775807 := by
  obtain ⟨A, c, e, h1, h2, _⟩ := h
  rw [List.length_map] at e h1
  unfold maxLen at h2
  exact ⟨A, c, e, h1, h2⟩
set_option maxRecDepth 100000 in
set_option maxHeartbeats 4000000 in
theorem throughI_of (v : Value) (l : List Mt) (P : ByteArray) (w : World) (h : SlG EM w v l) (ht : MTxt l) (hm : MaxL w) (hp : P.size ≤ 1048576) : Calls Tryd.prog 36 #[v, .string P] w fun e w' => e = .returned (.string (mk (throughF l P.data.toList))) ∧ Below w.heap.size w w' := by
  have h1 := fun w h hm => mountsI_of v l w h ht hm
  have h2 := fun w hm => isPath_of P w hm hp
  have h3 := fun R hR w hm => restOf_of P R w hm hp hR
  have hP := mk_list P
  have hl6 : (partsP P.data.toList).length ≤ 6 := partsP_len _
  have hp' : P.data.toList.length ≤ 1048576 := by rw [size_list]; exact hp
  generalize P.data.toList = p at h2 h3 hP hl6 hp' ⊢
  have H := Lib.hid h
  have Ht := Lib.hid ht
  have HP := Lib.hid hP
  have H3 := Lib.hid h3
  obtain ⟨A, cap, rfl⟩ := h.shape
  have hcap := h.caps
  have hc1 := hcap.1
  have hc2 := hcap.2
  clear h hcap ht hP h3
  rcases and2 (mountsB l) (okP p) with e1 | ⟨e1, e2⟩ | ⟨e1, e2⟩
  · have hr : mk (throughF l p) = ⟨#[]⟩ := by unfold throughF; rw [e1]; rfl
    have Hr := Lib.hid hr
    clear hr
    go_enter Tryd.func36, Tryd.ntmps36
    go_wp2_with fail
    refine (h1 _ H.out hm).mono ?_
    rintro e w1 ⟨rfl, b1⟩
    rw [e1]
    go_wp2
    go_ret
    exact ⟨by rw [Hr.out]; rfl, b1⟩
  · have hr : mk (throughF l p) = ⟨#[]⟩ := by unfold throughF; rw [e1, e2]; rfl
    have Hr := Lib.hid hr
    clear hr
    go_enter Tryd.func36, Tryd.ntmps36
    go_wp2_with fail
    refine (h1 _ H.out hm).mono ?_
    rintro e w1 ⟨rfl, b1⟩
    rw [e1]
    go_wp2_with fail
    refine (h2 _ (hm.below b1)).mono ?_
    rintro e w2 ⟨rfl, b2⟩
    rw [e2]
    go_wp2
    go_ret
    exact ⟨by rw [Hr.out]; rfl, Below.step b2 b1.size b1⟩
  · have hr : throughF l p = endM p (bestM p l) := by unfold throughF; rw [e1, e2]; rfl
    have Hr := Lib.hid hr
    clear hr
    go_enter Tryd.func36, Tryd.ntmps36
    go_wp2_with fail
    refine (h1 _ H.out hm).mono ?_
    rintro e w1 ⟨rfl, b1⟩
    rw [e1]
    go_wp2_with fail
    refine (h2 _ (hm.below b1)).mono ?_
    rintro e w2 ⟨rfl, b2⟩
    have c2 := Below.step b2 b1.size b1
    have hsz2 : w.heap.size ≤ w2.heap.size := c2.size
    rw [e2]
    clear h1 h2
    go_wp2
    go_loopw [22, 5, 6] (fun i bst rst wr => ∃ (k : Nat) (o : Option Nat), k ≤ l.length ∧ i = .int .i64 k ∧ bst = .int .i64 (numO o) ∧ SlS wr rst ((restO p l o).map mk) ∧ Best p l k o ∧ Below w.heap.size w wr) (fun i _ _ _ => l.length - (intOf i).toNat)
    case atStart => exact ⟨0, none, Nat.zero_le _, rfl, rfl, ⟨_, 0, rfl, Nat.le_refl _, by decide, .inl rfl⟩, best_zero p l, Below.alloc c2 hsz2 _⟩
    case round =>
      obtain ⟨k, o, hk, rfl, rfl, hrs, hbest, hbl⟩ := hrel
      have Hrs := Lib.hid hrs
      have Hbest := Lib.hid hbest
      have Hbl := Lib.hid hbl
      have hwr : w.heap.size ≤ wr.heap.size := hbl.size
      obtain ⟨AR, cR, rfl, _, _⟩ := sl_valc hrs
      clear hrs hbest hbl
      by_cases hlt : k < l.length
      · obtain ⟨b, off, rfl, hb, d0, d1⟩ := mnt_cells H.out hlt
        have e0 := (Hbl.out.cell (p := ⟨b, off + k * 2, none⟩) hb).trans d0
        have e1 := (Hbl.out.cell (p := ⟨b, off + k * 2 + 1, none⟩) hb).trans d1
        obtain ⟨z1, _⟩ := Ht.out k hlt
        have hq := fun w hm => H3.out (mt l k).1 z1 w hm
        unfold RestGot at hq
        have hskip := fun hr => best_skip Hbest.out hlt hr
        have hrl := rest_len (p := p) (r := (mt l k).1.data.toList)
        have hmo : restO p l (some k) = restP p (mt l k).1.data.toList := rfl
        have Hmo := Lib.hid hmo
        clear hmo
        cases hrok : restOk p (mt l k).1.data.toList
        · have hs := hskip hrok
          rw [hrok] at hq
          have Hs := Lib.hid hs
          have Hq := Lib.hid hq
          generalize (mt l k).1 = x1 at e0 Hq
          generalize (mt l k).2 = x2 at e1
          clear hs hskip hrl hq hrok d0 d1
          go_wp2_with fail
          refine (Hq.out _ (hm.below (by (repeat (first | exact Below.refl _ _ | exact Hbl.out | refine Below.ext ?_ (by first | omega | (simp; omega) | simp) | refine Below.setCell ?_ (by first | omega | (simp; omega) | simp) _ | refine Below.alloc ?_ (by first | omega | (simp; omega) | simp) _ | refine Below.drew ?_ | refine below_drewN ?_ _ | refine Below.step (by assumption) (by first | omega | (simp; omega) | simp) ?_))))).mono ?_
          rintro e w4 ⟨v4, rfl, s4, hb4⟩
          obtain ⟨A4, c4, rfl, _, _⟩ := sl_valc s4
          have hrs' : SlS w4 (.slice AR (restO p l o).length cR) ((restO p l o).map mk) := (Hrs.out.below (Below.alloc (Below.refl _ _) (Nat.le_refl _) _)).below (hb4.mono (by simp))
          have Hrs' := Lib.hid hrs'
          obtain ⟨d4, os4, rfl⟩ := ext_of_below hb4
          clear s4 hb4 hrs'
          go_wp2
          go_roundw
          case rel => exact ⟨k + 1, o, by omega, by go_num, rfl, Hrs'.out, Hs.out, (by (repeat (first | exact Below.refl _ _ | exact Hbl.out | refine Below.ext ?_ (by first | omega | (simp; omega) | simp) | refine Below.setCell ?_ (by first | omega | (simp; omega) | simp) _ | refine Below.alloc ?_ (by first | omega | (simp; omega) | simp) _ | refine Below.drew ?_ | refine below_drewN ?_ _ | refine Below.step (by assumption) (by first | omega | (simp; omega) | simp) ?_)))⟩
          case measure => simp [intOf]; omega
        · have hrl := hrl hrok
          rw [hrok] at hq
          have Hq := Lib.hid hq
          have z6 : (restP p (mt l k).1.data.toList).length ≤ 6 := by omega
          cases o with
          | none =>
            have hs := best_first Hbest.out hlt hrok
            have Hs := Lib.hid hs
            generalize (restP p (mt l k).1.data.toList) = own at Hq z6 Hmo
            generalize (mt l k).1 = x1 at e0 Hq
            generalize (mt l k).2 = x2 at e1
            clear hs hskip hrl hq hrok d0 d1
            dsimp only [numO]
            go_wp2_with fail
            refine (Hq.out _ (hm.below (by (repeat (first | exact Below.refl _ _ | exact Hbl.out | refine Below.ext ?_ (by first | omega | (simp; omega) | simp) | refine Below.setCell ?_ (by first | omega | (simp; omega) | simp) _ | refine Below.alloc ?_ (by first | omega | (simp; omega) | simp) _ | refine Below.drew ?_ | refine below_drewN ?_ _ | refine Below.step (by assumption) (by first | omega | (simp; omega) | simp) ?_))))).mono ?_
            rintro e w4 ⟨v4, rfl, s4, hb4⟩
            have S4 := Lib.hid s4
            obtain ⟨A4, c4, rfl, _, _⟩ := sl_valc s4
            obtain ⟨d4, os4, rfl⟩ := ext_of_below hb4
            clear s4 hb4
            go_wp2
            go_roundw
            case rel => exact ⟨k + 1, some k, by omega, by go_num, rfl, by rw [Hmo.out]; exact S4.out, Hs.out, (by (repeat (first | exact Below.refl _ _ | exact Hbl.out | refine Below.ext ?_ (by first | omega | (simp; omega) | simp) | refine Below.setCell ?_ (by first | omega | (simp; omega) | simp) _ | refine Below.alloc ?_ (by first | omega | (simp; omega) | simp) _ | refine Below.drew ?_ | refine below_drewN ?_ _ | refine Below.step (by assumption) (by first | omega | (simp; omega) | simp) ?_)))⟩
            case measure => simp [intOf]; omega
          | some bb =>
            obtain ⟨hbb, hbr⟩ := Hbest.out.2 bb rfl
            have hrb := rest_len hbr
            have hmb : restO p l (some bb) = restP p (mt l bb).1.data.toList := rfl
            by_cases hlen : (partsP (mt l bb).1.data.toList).length < (partsP (mt l k).1.data.toList).length
            · have hs := best_more Hbest.out hlt hrok hlen
              have Hs := Lib.hid hs
              have hcmp : ((restP p (mt l k).1.data.toList).length : Int) < ((restO p l (some bb)).length : Int) := by rw [hmb]; omega
              generalize (restP p (mt l k).1.data.toList) = own at Hq z6 Hmo hcmp
              generalize (mt l k).1 = x1 at e0 Hq
              generalize (mt l k).2 = x2 at e1
              generalize (restO p l (some bb)) = rb at Hrs hcmp ⊢
              have hnb : ¬ (bb : Int) < 0 := by omega
              clear hs hskip hrl hq hrok d0 d1 hrb hmb hlen hbr
              dsimp only [numO]
              go_wp2_with fail
              refine (Hq.out _ (hm.below (by (repeat (first | exact Below.refl _ _ | exact Hbl.out | refine Below.ext ?_ (by first | omega | (simp; omega) | simp) | refine Below.setCell ?_ (by first | omega | (simp; omega) | simp) _ | refine Below.alloc ?_ (by first | omega | (simp; omega) | simp) _ | refine Below.drew ?_ | refine below_drewN ?_ _ | refine Below.step (by assumption) (by first | omega | (simp; omega) | simp) ?_))))).mono ?_
              rintro e w4 ⟨v4, rfl, s4, hb4⟩
              have S4 := Lib.hid s4
              obtain ⟨A4, c4, rfl, _, _⟩ := sl_valc s4
              obtain ⟨d4, os4, rfl⟩ := ext_of_below hb4
              clear s4 hb4
              go_wp2
              go_roundw
              case rel => exact ⟨k + 1, some k, by omega, by go_num, rfl, by rw [Hmo.out]; exact S4.out, Hs.out, (by (repeat (first | exact Below.refl _ _ | exact Hbl.out | refine Below.ext ?_ (by first | omega | (simp; omega) | simp) | refine Below.setCell ?_ (by first | omega | (simp; omega) | simp) _ | refine Below.alloc ?_ (by first | omega | (simp; omega) | simp) _ | refine Below.drew ?_ | refine below_drewN ?_ _ | refine Below.step (by assumption) (by first | omega | (simp; omega) | simp) ?_)))⟩
              case measure => simp [intOf]; omega
            · have hs := best_less Hbest.out hlt hrok hlen
              have Hs := Lib.hid hs
              have hcmp : ¬ ((restP p (mt l k).1.data.toList).length : Int) < ((restO p l (some bb)).length : Int) := by rw [hmb]; omega
              generalize (restP p (mt l k).1.data.toList) = own at Hq z6 hcmp
              generalize (mt l k).1 = x1 at e0 Hq
              generalize (mt l k).2 = x2 at e1
              generalize hrbv : (restO p l (some bb)) = rb at Hrs hcmp
              have Hrbv := Lib.hid hrbv
              have hnb : ¬ (bb : Int) < 0 := by omega
              clear hs hskip hrl hq hrok d0 d1 hrb hmb hlen hbr hrbv
              dsimp only [numO]
              go_wp2_with fail
              refine (Hq.out _ (hm.below (by (repeat (first | exact Below.refl _ _ | exact Hbl.out | refine Below.ext ?_ (by first | omega | (simp; omega) | simp) | refine Below.setCell ?_ (by first | omega | (simp; omega) | simp) _ | refine Below.alloc ?_ (by first | omega | (simp; omega) | simp) _ | refine Below.drew ?_ | refine below_drewN ?_ _ | refine Below.step (by assumption) (by first | omega | (simp; omega) | simp) ?_))))).mono ?_
              rintro e w4 ⟨v4, rfl, s4, hb4⟩
              obtain ⟨A4, c4, rfl, _, _⟩ := sl_valc s4
              have hrs' : SlS w4 (.slice AR rb.length cR) (rb.map mk) := (Hrs.out.below (Below.alloc (Below.refl _ _) (Nat.le_refl _) _)).below (hb4.mono (by simp))
              have Hrs' := Lib.hid hrs'
              obtain ⟨d4, os4, rfl⟩ := ext_of_below hb4
              clear s4 hb4 hrs'
              go_wp2
              go_roundw
              case rel => exact ⟨k + 1, some bb, by omega, by go_num, rfl, by rw [Hrbv.out]; exact Hrs'.out, Hs.out, (by (repeat (first | exact Below.refl _ _ | exact Hbl.out | refine Below.ext ?_ (by first | omega | (simp; omega) | simp) | refine Below.setCell ?_ (by first | omega | (simp; omega) | simp) _ | refine Below.alloc ?_ (by first | omega | (simp; omega) | simp) _ | refine Below.drew ?_ | refine below_drewN ?_ _ | refine Below.step (by assumption) (by first | omega | (simp; omega) | simp) ?_)))⟩
              case measure => simp [intOf]; omega
      · obtain rfl : k = l.length := by omega
        have hend := best_end Hbest.out
        cases o with
        | none =>
          have hz : mk (throughF l p) = P := by rw [Hr.out, hend, HP.out]; rfl
          have Hz := Lib.hid hz
          clear hz hend
          dsimp only [numO]
          go_wp2
          go_ret
          exact ⟨by rw [Hz.out]; rfl, Hbl.out⟩
        | some bb =>
          obtain ⟨hbb, hbr⟩ := Hbest.out.2 bb rfl
          obtain ⟨b, off, rfl, hb, d0, d1⟩ := mnt_cells H.out hbb
          have e1 := (Hbl.out.cell (p := ⟨b, off + bb * 2 + 1, none⟩) hb).trans d1
          have z2 := (Ht.out bb hbb).2
          have hz : mk (throughF l p) = mk (joinP (partsP (mt l bb).2.data.toList ++ restP p (mt l bb).1.data.toList)) := by rw [Hr.out, hend]; rfl
          have hmb : restO p l (some bb) = restP p (mt l bb).1.data.toList := rfl
          have hrb := rest_len hbr
          have hsz := restP_sizes p (mt l bb).1.data.toList
          rw [hmb] at Hrs
          rw [hmb]
          have hj := joined_of (mt l bb).2 (.slice AR (restP p (mt l bb).1.data.toList).length cR) (restP p (mt l bb).1.data.toList) wr (hm.below Hbl.out) z2 Hrs.out (by omega) (fun x hx => by have := hsz x hx; omega)
          generalize mk (joinP (partsP (mt l bb).2.data.toList ++ restP p (mt l bb).1.data.toList)) = y at hz hj
          have Hz := Lib.hid hz
          have Hj := Lib.hid hj
          generalize (restP p (mt l bb).1.data.toList) = rb at Hj
          generalize (mt l bb).2 = x2 at e1 Hj
          have hnb : ¬ (bb : Int) < 0 := by omega
          have hbl' : (bb : Int) < (l.length : Int) := by omega
          clear hz hj hsz hrb hmb hend d0 d1 hbr z2
          dsimp only [numO]
          go_wp2_with fail
          refine Hj.out.mono ?_
          rintro e w5 ⟨rfl, b5⟩
          go_wp2
          go_ret
          exact ⟨by rw [Hz.out]; rfl, Below.step b5 hwr Hbl.out⟩
end Go.Proofs.YtaadobcfijegcaaDoor
