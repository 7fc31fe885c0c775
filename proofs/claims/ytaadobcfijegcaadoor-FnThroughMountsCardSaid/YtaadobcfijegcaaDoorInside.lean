/- Roots: slices.Equal on texts, 'restOf', 'InsideRoot' of the program. -/
import Derived.Test.YtaadobcfijegcaaDoorPathT
import Derived.Deep.RegionHeld3
set_option linter.unusedSimpArgs false
set_option linter.unusedVariables false
set_option linter.unusedSectionVars false
namespace Go.Proofs.YtaadobcfijegcaaDoor
open Go.RowKit

theorem list_ext {a b : List (List UInt8)} (h : a.length = b.length) (h2 : ∀ i, i < a.length → a.getD i [] = b.getD i []) : a = b := by
  apply List.ext_getElem?
  intro i
  by_cases hi : i < a.length
  · have := h2 i hi
    rw [List.getD_eq_getElem?_getD, List.getD_eq_getElem?_getD, List.getElem?_eq_getElem hi, List.getElem?_eq_getElem (by omega)] at this
    rw [List.getElem?_eq_getElem hi, List.getElem?_eq_getElem (by omega)]
    simpa using this
  · rw [List.getElem?_eq_none (by omega), List.getElem?_eq_none (by omega)]
theorem mk_eq {a b : List UInt8} : (mk a).toList = (mk b).toList ↔ a = b := by rw [mk_toList, mk_toList]
set_option maxRecDepth 100000 in
set_option maxHeartbeats 1000000 in
theorem equal_of (u v : Value) (ls ms : List (List UInt8)) (w : World) (h1 : SlS w u (ls.map mk)) (h2 : SlS w v (ms.map mk)) (hne : ls.length = ms.length) : Calls Tryd.prog 66 #[u, v] w fun e w' => e = .returned (.bool (decide (ls = ms))) ∧ Below w.heap.size w w' := by
  obtain ⟨A, cap, rfl, a1, a2, a3⟩ := h1
  obtain ⟨A', cap', rfl, b1, b2, b3⟩ := h2
  have hml : (ls.map mk).length = ls.length := List.length_map _
  have hmm : (ms.map mk).length = ms.length := List.length_map _
  rw [hml] at a1 ⊢
  rw [hmm] at b1 ⊢
  unfold maxLen at a2 b2
  have HA := Lib.hid a3; clear a3
  have HA' := Lib.hid b3; clear b3
  go_enter Tryd.func66, Tryd.ntmps66
  go_wp2
  go_loopw [13, 5] (fun i _ wr => ∃ k : Nat, k ≤ ls.length ∧ i = .int .i64 k ∧ (∀ j, j < k → ls.getD j [] = ms.getD j []) ∧ Below w.heap.size w wr) (fun i _ _ => ls.length - (intOf i).toNat)
  case atStart => exact ⟨0, Nat.zero_le _, rfl, fun j hj => absurd hj (by omega), Below.refl _ _⟩
  case round =>
    obtain ⟨k, hk, rfl, hall, hbl⟩ := hrel
    have Hall := Lib.hid hall; clear hall
    have hsz : w.heap.size ≤ wr.heap.size := hbl.size
    by_cases hlt : k < ls.length
    · obtain ⟨b, off, rfl, hb, hat⟩ := HA.out.resolve_left (fun e => by rw [List.map_eq_nil_iff] at e; subst e; simp at hlt)
      obtain ⟨b', off', rfl, hb', hat'⟩ := HA'.out.resolve_left (fun e => by rw [List.map_eq_nil_iff] at e; rw [e] at hne; simp only [List.length_nil] at hne; omega)
      have c0 := (hat.below hb hbl) k (by rw [hml]; exact hlt)
      have d0 := (hat'.below hb' hbl) k (by rw [hmm]; omega)
      rw [st_mk hlt] at c0
      rw [st_mk (by omega)] at d0
      have hlt' : k < ms.length := by omega
      have Hbl := Lib.hid hbl; clear hbl hat hat'
      have Hne := Lib.hid hne
      by_cases heq : ls.getD k [] = ms.getD k []
      · have e1 : (mk (ls.getD k [])).toList = (mk (ms.getD k [])).toList := mk_eq.2 heq
        have Heq := Lib.hid heq; clear heq hne
        generalize mk (ls.getD k []) = x at c0 e1
        generalize mk (ms.getD k []) = y at d0 e1
        have e2 : (x.toList == y.toList) = true := beq_iff_eq.2 e1
        go_wp2
        go_quiet (fail)
        go_wp2
        go_roundw
        case rel => exact ⟨k + 1, by omega, by go_num, fun j hj => by
          by_cases e : j = k
          · subst e; exact Heq.out
          · exact Hall.out j (by omega), (by (repeat (first | exact Below.refl _ _ | exact Hbl.out | refine Below.ext ?_ (by first | omega | (simp; omega) | simp) | refine Below.setCell ?_ (by first | omega | (simp; omega) | simp) _ | refine Below.alloc ?_ (by first | omega | (simp; omega) | simp) _ | refine Below.drew ?_ | refine below_drewN ?_ _ | refine Below.step (by assumption) (by first | omega | (simp; omega) | simp) ?_)))⟩
        case measure => simp [intOf]; omega
      · have hlm : decide (ls = ms) = false := decide_eq_false fun e => heq (by rw [e])
        have Hlm := Lib.hid hlm; clear hlm
        have e1 : ¬ (mk (ls.getD k [])).toList = (mk (ms.getD k [])).toList := fun e => heq (mk_eq.1 e)
        clear heq hne
        generalize mk (ls.getD k []) = x at c0 e1
        generalize mk (ms.getD k []) = y at d0 e1
        have e2 : (x.toList == y.toList) = false := beq_eq_false_iff_ne.2 e1
        go_wp2
        go_quiet (fail)
        go_wp2
        go_ret
        exact ⟨by rw [Hlm.out]; rfl, (by (repeat (first | exact Below.refl _ _ | exact Hbl.out | refine Below.ext ?_ (by first | omega | (simp; omega) | simp) | refine Below.setCell ?_ (by first | omega | (simp; omega) | simp) _ | refine Below.alloc ?_ (by first | omega | (simp; omega) | simp) _ | refine Below.drew ?_ | refine below_drewN ?_ _ | refine Below.step (by assumption) (by first | omega | (simp; omega) | simp) ?_)))⟩
    · have hlm : decide (ls = ms) = true := decide_eq_true (list_ext hne fun i hi => Hall.out i (by omega))
      have Hlm := Lib.hid hlm; clear hlm
      have Hbl := Lib.hid hbl; clear hbl
      go_wp2
      go_ret
      exact ⟨by rw [Hlm.out]; rfl, (by (repeat (first | exact Below.refl _ _ | exact Hbl.out | refine Below.ext ?_ (by first | omega | (simp; omega) | simp) | refine Below.setCell ?_ (by first | omega | (simp; omega) | simp) _ | refine Below.alloc ?_ (by first | omega | (simp; omega) | simp) _ | refine Below.drew ?_ | refine below_drewN ?_ _ | refine Below.step (by assumption) (by first | omega | (simp; omega) | simp) ?_)))⟩
/-- The names a stand at the beginning of b. -/
def prefB (a b : List (List UInt8)) : Bool := decide (a.length ≤ b.length) && decide (b.take a.length = a)
def restOk (p a : List UInt8) : Bool := okP p && (okP a && prefB (partsP a) (partsP p))
def restP (p a : List UInt8) : List (List UInt8) := if restOk p a = true then (partsP p).drop (partsP a).length else []
theorem slS_drop {w : World} {b off n cap k : Nat} {ws : List ByteArray} (h : SlS w (.slice (some ⟨b, off, none⟩) n cap) ws) (hk : k ≤ ws.length) : SlS w (.slice (some ⟨b, off + k, none⟩) (ws.length - k) (cap - k)) (ws.drop k) := by
  obtain ⟨A', cap', e, h1, h2, h3⟩ := h
  injection e with e1 e2 e3
  subst e1 e3
  have hl : (ws.drop k).length = ws.length - k := List.length_drop
  refine ⟨_, cap - k, by rw [hl], by omega, by omega, ?_⟩
  by_cases hz : ws.length - k = 0
  · exact .inl (List.length_eq_zero_iff.1 (by omega))
  · rcases h3 with h3 | ⟨b', off', e, hb, hat⟩
    · rw [h3] at hz; simp at hz
    · cases e
      refine .inr ⟨b, off + k, rfl, hb, fun i hi => ?_⟩
      rw [hl] at hi
      have := hat (k + i) (by omega)
      rw [← Nat.add_assoc] at this
      rw [this]
      unfold st
      rw [List.getD_eq_getElem?_getD, List.getD_eq_getElem?_getD, List.getElem?_drop]
theorem slS_take {w : World} {A : Option Addr} {n cap k : Nat} {ws : List ByteArray} (h : SlS w (.slice A n cap) ws) (hk : k ≤ ws.length) : SlS w (.slice A k cap) (ws.take k) := by
  obtain ⟨A', cap', e, h1, h2, h3⟩ := h
  injection e with e1 e2 e3
  subst e1 e3
  have hl : (ws.take k).length = k := by rw [List.length_take]; omega
  refine ⟨A, cap, by rw [hl], by omega, h2, ?_⟩
  rcases h3 with h3 | ⟨b, off, e, hb, hat⟩
  · exact .inl (by rw [h3]; simp)
  · refine .inr ⟨b, off, e, hb, fun i hi => ?_⟩
    rw [hl] at hi
    rw [hat i (by omega)]
    unfold st
    rw [List.getD_eq_getElem?_getD, List.getD_eq_getElem?_getD, List.getElem?_take_of_lt hi]
/-- What 'restOf' hands back. -/
def RestGot (w : World) (p r : List UInt8) (e : Ending) (w' : World) : Prop := ∃ v, e = .returned (.tuple #[v, .bool (restOk p r)]) ∧ SlS w' v ((restP p r).map mk) ∧ Below w.heap.size w w'
set_option maxRecDepth 100000 in
set_option maxHeartbeats 2000000 in
theorem restOf_of (P R : ByteArray) (w : World) (hm : MaxL w) (hp : P.size ≤ 1048576) (hr : R.size ≤ 1048576) : Calls Tryd.prog 48 #[.string P, .string R] w (RestGot w P.data.toList R.data.toList) := by
  have h1 := pathPartsI_of P w hm hp
  generalize hpl : P.data.toList = p at h1 ⊢
  generalize hrl : R.data.toList = r at ⊢
  go_enter Tryd.func48, Tryd.ntmps48
  go_wp2_with fail
  refine h1.mono ?_
  rintro e w1 ⟨v1, rfl, o1, b1⟩
  go_wp2_with fail
  have h2 := pathPartsI_of R w1 (hm.below b1) hr
  rw [hrl] at h2
  refine h2.mono ?_
  rintro e w2 ⟨v2, rfl, o2, b2⟩
  have c2 := Below.step b2 b1.size b1
  have s1 := ownS_sl (ownS_below o1 b2)
  have s2 := ownS_sl o2
  clear o1 o2 h1 h2
  have hor : (okP p = false ∧ restOk p r = false) ∨ (okP p = true ∧ okP r = false ∧ restOk p r = false) ∨ (okP p = true ∧ okP r = true ∧ (partsP p).length < (partsP r).length ∧ restOk p r = false) ∨ (okP p = true ∧ okP r = true ∧ (partsP r).length ≤ (partsP p).length ∧ restOk p r = decide ((partsP p).take (partsP r).length = partsP r)) := by
    unfold restOk prefB
    cases h1 : okP p
    · exact .inl ⟨rfl, rfl⟩
    · cases h2 : okP r
      · exact .inr (.inl ⟨rfl, rfl, rfl⟩)
      · by_cases h3 : (partsP r).length ≤ (partsP p).length
        · exact .inr (.inr (.inr ⟨rfl, rfl, h3, by rw [decide_eq_true h3]; rfl⟩))
        · exact .inr (.inr (.inl ⟨rfl, rfl, by omega, by rw [decide_eq_false h3]; rfl⟩))
  obtain ⟨A, k, rfl, t1, t2, t3⟩ := s1
  obtain ⟨A', k', rfl, t1', t2', t3'⟩ := s2
  simp only [List.length_map] at t1 t1' ⊢
  have hnil : restOk p r = false → restP p r = [] := fun h => by unfold restP; rw [h]; rfl
  have Hnil := Lib.hid hnil; clear hnil
  unfold maxLen at t2 t2'
  rcases hor with ⟨e1, e2⟩ | ⟨e1, e2, e3⟩ | ⟨e1, e2, e3, e4⟩ | ⟨e1, e2, e3, e4⟩
  · have E := Lib.hid e2
    rw [e1]
    clear e2
    go_wp2
    refine bodyPost_ret (v := .tuple #[.slice none 0 0, .bool false]) ?_ rfl ⟨_, by rw [E.out], ?_, c2⟩
    · simp [results, Tryd.results48, go_sem]
    · rw [Hnil.out E.out]; exact ownS_sl (own_none 0 _)
  · have E := Lib.hid e3
    rw [e1, e2]
    clear e3
    go_wp2
    refine bodyPost_ret (v := .tuple #[.slice none 0 0, .bool false]) ?_ rfl ⟨_, by rw [E.out], ?_, c2⟩
    · simp [results, Tryd.results48, go_sem]
    · rw [Hnil.out E.out]; exact ownS_sl (own_none 0 _)
  · have E := Lib.hid e4
    rw [e1, e2]
    clear e4
    go_wp2
    refine bodyPost_ret (v := .tuple #[.slice none 0 0, .bool false]) ?_ rfl ⟨_, by rw [E.out], ?_, c2⟩
    · simp [results, Tryd.results48, go_sem]
    · rw [Hnil.out E.out]; exact ownS_sl (own_none 0 _)
  · have E := Lib.hid e4
    rw [e1, e2]
    clear e4
    go_wp2_with fail
    have sa : SlS w2 (.slice A (partsP r).length k) (((partsP p).take (partsP r).length).map mk) := by
      rw [List.map_take]
      exact slS_take (n := (partsP p).length) ⟨A, k, by rw [List.length_map], by rw [List.length_map]; exact t1, by unfold maxLen; exact t2, t3⟩ (by rw [List.length_map]; exact e3)
    have sb : SlS w2 (.slice A' (partsP r).length k') ((partsP r).map mk) := ⟨A', k', by rw [List.length_map], by rw [List.length_map]; exact t1', by unfold maxLen; exact t2', t3'⟩
    have sp : SlS w2 (.slice A (partsP p).length k) ((partsP p).map mk) := ⟨A, k, by rw [List.length_map], by rw [List.length_map]; exact t1, by unfold maxLen; exact t2, t3⟩
    refine (equal_of _ _ _ _ w2 sa sb (by rw [List.length_take]; omega)).mono ?_
    rintro e w3 ⟨rfl, b3⟩
    have c3 := Below.step b3 c2.size c2
    have sp3 := sp.below b3
    by_cases hc : (partsP p).take (partsP r).length = partsP r
    · have E2 : restOk p r = true := by rw [E.out, decide_eq_true hc]
      have hr2 : restP p r = (partsP p).drop (partsP r).length := by unfold restP; rw [E2]; rfl
      rw [decide_eq_true hc]
      have HE := Lib.hid E2
      have Hr2 := Lib.hid hr2
      have Sp3 := Lib.hid sp3
      clear E2 hr2 hc sa sb sp t3 t3' sp3
      by_cases hpe : partsP p = []
      · have hpl : (partsP p).length = 0 := by rw [hpe]; rfl
        have hrl0 : (partsP r).length = 0 := by omega
        have hd : (restP p r).map mk = [] := by rw [Hr2.out, hpe]; simp
        have Hd := Lib.hid hd; clear hd hpe
        rw [hrl0, hpl] at *
        cases A with
        | none =>
          go_wp2
          simp [bodyPost, results, Tryd.results48, go_sem]
          exact ⟨_, by rw [HE.out], by rw [Hd.out]; exact ⟨_, _, rfl, Nat.zero_le _, by unfold maxLen; omega, .inl rfl⟩, c3⟩
        | some ad =>
          go_wp2
          all_goals
            simp [bodyPost, results, Tryd.results48, go_sem]
            exact ⟨_, by rw [HE.out], by rw [Hd.out]; exact ⟨_, _, rfl, Nat.zero_le _, by unfold maxLen; omega, .inl rfl⟩, c3⟩
      · obtain ⟨b, off, rfl⟩ : ∃ b off, A = some ⟨b, off, none⟩ := by
          obtain ⟨A2, cap2, e, _, _, h⟩ := Sp3.out
          injection e with e1 _ _
          subst e1
          obtain ⟨b, off, e, _, _⟩ := h.resolve_left (fun e => hpe (List.map_eq_nil_iff.1 e))
          exact ⟨b, off, e⟩
        have hdr := slS_drop (k := (partsP r).length) Sp3.out (by rw [List.length_map]; exact e3)
        rw [← List.map_drop, ← Hr2.out, List.length_map] at hdr
        have Hdr := Lib.hid hdr; clear hdr hpe
        by_cases hkk : k = (partsP r).length
        · have hd : (restP p r).map mk = [] := by
            rw [Hr2.out, List.drop_of_length_le (by omega)]; rfl
          have hpp : (partsP p).length = (partsP r).length := by omega
          have Hd := Lib.hid hd; clear hd
          subst hkk
          rw [hpp]
          go_wp2
          simp [bodyPost, results, Tryd.results48, go_sem]
          exact ⟨_, by rw [HE.out], by rw [Hd.out]; exact ⟨_, _, rfl, Nat.zero_le _, by unfold maxLen; omega, .inl rfl⟩, c3⟩
        · have hkk' : ¬ (k : Int) = ((partsP r).length : Int) := by omega
          go_wp2
          simp [bodyPost, results, Tryd.results48, go_sem]
          exact ⟨_, by rw [HE.out], Hdr.out, c3⟩
    · have E2 : restOk p r = false := by rw [E.out, decide_eq_false hc]
      rw [decide_eq_false hc]
      have HE := Lib.hid E2
      clear E2 hc sa sb sp t3 t3' sp3
      go_wp2
      refine bodyPost_ret (v := .tuple #[.slice none 0 0, .bool false]) ?_ rfl ⟨_, by rw [HE.out], ?_, c3⟩
      · simp [results, Tryd.results48, go_sem]
      · rw [Hnil.out HE.out]; exact ownS_sl (own_none 0 _)
end Go.Proofs.YtaadobcfijegcaaDoor
