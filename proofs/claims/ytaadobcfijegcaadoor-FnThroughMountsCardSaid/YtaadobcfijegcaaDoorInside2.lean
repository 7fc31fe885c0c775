/- Roots: 'InsideRoot' of the program, 'IsBelow' and 'InsideRoot' of the reference. -/
import Derived.Test.YtaadobcfijegcaaDoorInside
set_option linter.unusedSimpArgs false
set_option linter.unusedVariables false
set_option linter.unusedSectionVars false
namespace Go.Proofs.YtaadobcfijegcaaDoor
open Go.RowKit

theorem partsP_sizes (l : List UInt8) : ∀ x ∈ partsP l, x.length ≤ l.length := by
  intro x hx
  cases l with
  | nil => cases hx
  | cons c r =>
    have hx' : x ∈ (if okP (c :: r) = true then (if r = [] then [] else spl r) else []) := hx
    split at hx'
    · split at hx'
      · cases hx'
      · have := spl_word r x hx'
        simp; omega
    · cases hx'
theorem restP_sizes (p r : List UInt8) : ∀ x ∈ restP p r, x.length ≤ p.length := by
  intro x hx
  unfold restP at hx
  split at hx
  · exact partsP_sizes p x (List.mem_of_mem_drop hx)
  · cases hx
/-- What 'InsideRoot' gives. -/
def insideF (r p : List UInt8) : List UInt8 := if restOk p r = true then joinP (restP p r) else []
def InsGot (w : World) (r p : List UInt8) (e : Ending) (w' : World) : Prop := e = .returned (.tuple #[.string (mk (insideF r p)), .bool (restOk p r)]) ∧ Below w.heap.size w w'
set_option maxRecDepth 100000 in
theorem insideI_of (R P : ByteArray) (w : World) (hm : MaxL w) (hp : P.size ≤ 1048576) (hr : R.size ≤ 1048576) : Calls Tryd.prog 19 #[.string R, .string P] w (InsGot w R.data.toList P.data.toList) := by
  have h1 := restOf_of P R w hm hp hr
  have hlen : P.data.toList.length ≤ 1048576 := by rw [size_list]; exact hp
  generalize P.data.toList = p at h1 hlen ⊢
  generalize R.data.toList = r at h1 ⊢
  go_enter Tryd.func19, Tryd.ntmps19
  go_wp2_with fail
  refine h1.mono ?_
  rintro e w1 ⟨v, rfl, s1, b1⟩
  cases hok : restOk p r
  · have hf : mk (insideF r p) = ⟨#[]⟩ := by unfold insideF; rw [hok]; rfl
    have Hf := Lib.hid hf
    have Hok := Lib.hid hok
    clear hf s1 h1 hok
    go_wp2
    refine bodyPost_ret (v := .tuple #[.string ⟨#[]⟩, .bool false]) ?_ rfl ⟨by rw [Hf.out, Hok.out], b1⟩
    simp [results, Tryd.results19, go_sem]
  · have hf : mk (insideF r p) = mk (joinP (restP p r)) := by unfold insideF; rw [hok]; rfl
    have hj := joinI_of v (restP p r) w1 s1 (fun x hx => by have := restP_sizes p r x hx; omega)
    generalize mk (joinP (restP p r)) = y at hf hj
    have Hf := Lib.hid hf
    have Hok := Lib.hid hok
    have Hj := Lib.hid hj
    clear hf s1 h1 hok hj
    go_wp2_with fail
    refine Hj.out.mono ?_
    rintro e w2 ⟨rfl, b2⟩
    have c2 := Below.step b2 b1.size b1
    go_wp2
    refine bodyPost_ret (v := .tuple #[.string y, .bool true]) ?_ rfl ⟨by rw [Hf.out, Hok.out], c2⟩
    simp [results, Tryd.results19, go_sem]
theorem rest_cases (p r : List UInt8) : (okP p = false ∧ restOk p r = false) ∨ (okP p = true ∧ okP r = false ∧ restOk p r = false) ∨ (okP p = true ∧ okP r = true ∧ (partsP p).length < (partsP r).length ∧ restOk p r = false) ∨ (okP p = true ∧ okP r = true ∧ (partsP r).length ≤ (partsP p).length ∧ restOk p r = decide ((partsP p).take (partsP r).length = partsP r)) := by
  unfold restOk prefB
  cases h1 : okP p
  · exact .inl ⟨rfl, rfl⟩
  · cases h2 : okP r
    · exact .inr (.inl ⟨rfl, rfl, rfl⟩)
    · by_cases h3 : (partsP r).length ≤ (partsP p).length
      · exact .inr (.inr (.inr ⟨rfl, rfl, h3, by rw [decide_eq_true h3]; rfl⟩))
      · exact .inr (.inr (.inl ⟨rfl, rfl, by omega, by rw [decide_eq_false h3]; rfl⟩))
set_option maxRecDepth 100000 in
set_option maxHeartbeats 2000000 in
theorem isBelowS_of (P R : ByteArray) (w : World) (hp : P.size ≤ 1048576) (hr : R.size ≤ 1048576) : Calls Tryd.prog 34 #[.string P, .string R] w fun e w' => e = .returned (.bool (restOk P.data.toList R.data.toList)) ∧ Below w.heap.size w w' := by
  have h1 := pathPartsS_of P w hp
  have h2 := fun w => pathPartsS_of R w hr
  generalize P.data.toList = p at h1 ⊢
  generalize R.data.toList = r at h2 ⊢
  go_enter Tryd.func34, Tryd.ntmps34
  go_wp2_with fail
  refine h1.mono ?_
  rintro e w1 ⟨v1, rfl, o1, b1⟩
  go_wp2_with fail
  refine (h2 w1).mono ?_
  rintro e w2 ⟨v2, rfl, o2, b2⟩
  have c2 := Below.step b2 b1.size b1
  have s1 := ownS_sl (ownS_below o1 b2)
  have s2 := ownS_sl o2
  clear o1 o2 h1 h2
  obtain ⟨A, k, rfl, t1, t2, t3⟩ := s1
  obtain ⟨A', k', rfl, t1', t2', t3'⟩ := s2
  simp only [List.length_map] at t1 t1' ⊢
  unfold maxLen at t2 t2'
  have HA := Lib.hid t3; clear t3
  have HA' := Lib.hid t3'; clear t3'
  rcases rest_cases p r with ⟨e1, e2⟩ | ⟨e1, e2, e3⟩ | ⟨e1, e2, e3, e4⟩ | ⟨e1, e2, e3, e4⟩
  · have E := Lib.hid e2
    rw [e1]
    clear e2
    go_wp2
    go_ret
    exact ⟨by rw [E.out]; rfl, c2⟩
  · have E := Lib.hid e3
    rw [e1, e2]
    clear e3
    go_wp2
    go_ret
    exact ⟨by rw [E.out]; rfl, c2⟩
  · have E := Lib.hid e4
    rw [e1, e2]
    clear e4
    go_wp2
    go_ret
    exact ⟨by rw [E.out]; rfl, c2⟩
  · have E := Lib.hid e4
    rw [e1, e2]
    clear e4
    have C2 := Lib.hid c2
    clear c2 b1 b2
    go_wp2
    go_loopw [9] (fun i wr => ∃ n : Nat, n ≤ (partsP r).length ∧ i = .int .i64 n ∧ (∀ j, j < n → (partsP p).getD j [] = (partsP r).getD j []) ∧ Below w2.heap.size w2 wr) (fun i _ => (partsP r).length - (intOf i).toNat)
    case atStart => exact ⟨0, Nat.zero_le _, rfl, fun j hj => absurd hj (by omega), Below.refl _ _⟩
    case round =>
      obtain ⟨n, hn, rfl, hall, hbl⟩ := hrel
      have Hall := Lib.hid hall; clear hall
      have hsz : w2.heap.size ≤ wr.heap.size := hbl.size
      by_cases hlt : n < (partsP r).length
      · have hlt' : n < (partsP p).length := by omega
        obtain ⟨b, off, rfl, hb, hat⟩ := HA.out.resolve_left (fun e => by rw [List.map_eq_nil_iff] at e; rw [e] at hlt'; simp at hlt')
        obtain ⟨b', off', rfl, hb', hat'⟩ := HA'.out.resolve_left (fun e => by rw [List.map_eq_nil_iff] at e; rw [e] at hlt; simp at hlt)
        have c0 := (hat.below hb hbl) n (by rw [List.length_map]; exact hlt')
        have d0 := (hat'.below hb' hbl) n (by rw [List.length_map]; exact hlt)
        rw [st_mk hlt'] at c0
        rw [st_mk hlt] at d0
        have Hbl := Lib.hid hbl; clear hbl hat hat'
        by_cases heq : (partsP p).getD n [] = (partsP r).getD n []
        · have q1 : (mk ((partsP p).getD n [])).toList = (mk ((partsP r).getD n [])).toList := mk_eq.2 heq
          have Heq := Lib.hid heq; clear heq
          generalize mk ((partsP p).getD n []) = x at c0 q1
          generalize mk ((partsP r).getD n []) = y at d0 q1
          have q2 : (x.toList == y.toList) = true := beq_iff_eq.2 q1
          go_wp2
          go_quiet (fail)
          go_wp2
          go_roundw
          case rel => exact ⟨n + 1, by omega, by go_num, fun j hj => by
            by_cases e : j = n
            · subst e; exact Heq.out
            · exact Hall.out j (by omega), (by (repeat (first | exact Below.refl _ _ | exact Hbl.out | refine Below.ext ?_ (by first | omega | (simp; omega) | simp) | refine Below.setCell ?_ (by first | omega | (simp; omega) | simp) _ | refine Below.alloc ?_ (by first | omega | (simp; omega) | simp) _ | refine Below.drew ?_ | refine below_drewN ?_ _ | refine Below.step (by assumption) (by first | omega | (simp; omega) | simp) ?_)))⟩
          case measure => simp [intOf]; omega
        · have hno : restOk p r = false := by
            rw [E.out]
            refine decide_eq_false fun e => heq ?_
            have := congrArg (fun l => l.getD n []) e
            simp only [List.getD_eq_getElem?_getD, List.getElem?_take_of_lt hlt] at this
            rw [List.getD_eq_getElem?_getD, List.getD_eq_getElem?_getD]; exact this
          have Hno := Lib.hid hno; clear hno
          have q1 : ¬ (mk ((partsP p).getD n [])).toList = (mk ((partsP r).getD n [])).toList := fun e => heq (mk_eq.1 e)
          clear heq
          generalize mk ((partsP p).getD n []) = x at c0 q1
          generalize mk ((partsP r).getD n []) = y at d0 q1
          have q2 : (x.toList == y.toList) = false := beq_eq_false_iff_ne.2 q1
          go_wp2
          go_quiet (fail)
          go_wp2
          go_ret
          exact ⟨by rw [Hno.out]; rfl, below_drewN (Below.step Hbl.out C2.out.size C2.out) _⟩
      · have hyes : restOk p r = true := by
          rw [E.out]
          refine decide_eq_true (list_ext (by rw [List.length_take]; omega) fun i hi => ?_)
          rw [List.length_take] at hi
          have := Hall.out i (by omega)
          rw [List.getD_eq_getElem?_getD, List.getElem?_take_of_lt (by omega), ← List.getD_eq_getElem?_getD]
          exact this
        have Hyes := Lib.hid hyes; clear hyes
        have c3 := Below.step hbl C2.out.size C2.out
        clear hbl
        go_wp2
        go_ret
        exact ⟨by rw [Hyes.out]; rfl, c3⟩
set_option maxRecDepth 100000 in
set_option maxHeartbeats 2000000 in
theorem insideS_of (R P : ByteArray) (w : World) (hp : P.size ≤ 1048576) (hr : R.size ≤ 1048576) : Calls Tryd.prog 18 #[.string R, .string P] w (InsGot w R.data.toList P.data.toList) := by
  have h1 := pathPartsS_of R w hr
  have h2 := fun w => pathPartsS_of P w hp
  have h3 := fun w => isBelowS_of P R w hp hr
  have hlen : P.data.toList.length ≤ 1048576 := by rw [size_list]; exact hp
  generalize P.data.toList = p at h2 h3 hlen ⊢
  generalize R.data.toList = r at h1 h3 ⊢
  go_enter Tryd.func18, Tryd.ntmps18
  go_wp2_with fail
  refine h1.mono ?_
  rintro e w1 ⟨v1, rfl, o1, b1⟩
  go_wp2_with fail
  refine (h2 w1).mono ?_
  rintro e w2 ⟨v2, rfl, o2, b2⟩
  have c2 := Below.step b2 b1.size b1
  go_wp2_with fail
  refine (h3 w2).mono ?_
  rintro e w3 ⟨rfl, b3⟩
  have c3 := Below.step b3 c2.size c2
  have s1 := ownS_sl (ownS_below (ownS_below o1 b2) b3)
  have s2 := ownS_sl (ownS_below o2 b3)
  clear o1 o2 h1 h2 h3
  obtain ⟨A', k', rfl, t1', t2', t3'⟩ := s1
  have hj := fun v (hs : SlS w3 v ((restP p r).map mk)) => joinS_of v (restP p r) w3 hs (by
    unfold restP
    split
    · rw [List.length_drop]
      have : (partsP p).length ≤ p.length + 1 := by
        cases p with
        | nil => exact Nat.zero_le _
        | cons c t =>
          show (if okP (c :: t) = true then (if t = [] then [] else spl t) else []).length ≤ _
          have := spl_len t
          split
          · split
            · simp
            · simp; omega
          · simp
      omega
    · simp) (fun x hx => by have := restP_sizes p r x hx; omega)
  cases hok : restOk p r
  · have hf : mk (insideF r p) = ⟨#[]⟩ := by unfold insideF; rw [hok]; rfl
    have Hf := Lib.hid hf
    have Hok := Lib.hid hok
    clear hf hok hj s2
    go_wp2
    refine bodyPost_ret (v := .tuple #[.string ⟨#[]⟩, .bool false]) ?_ rfl ⟨by rw [Hf.out, Hok.out], c3⟩
    simp [results, Tryd.results18, go_sem]
  · have hf : mk (insideF r p) = mk (joinP (restP p r)) := by unfold insideF; rw [hok]; rfl
    have hle : (partsP r).length ≤ (partsP p).length := by
      rcases rest_cases p r with ⟨_, h⟩ | ⟨_, _, h⟩ | ⟨_, _, _, h⟩ | ⟨_, _, h, _⟩
      · rw [hok] at h; cases h
      · rw [hok] at h; cases h
      · rw [hok] at h; cases h
      · exact h
    have hr2 : restP p r = (partsP p).drop (partsP r).length := by unfold restP; rw [hok]; rfl
    generalize mk (joinP (restP p r)) = y at hf hj
    have Hj := Lib.hid hj
    have Hf := Lib.hid hf
    have Hok := Lib.hid hok
    have Hr2 := Lib.hid hr2
    have S2 := Lib.hid s2
    obtain ⟨A, k, rfl, t1, t2, t3⟩ := s2
    simp only [List.length_map] at t1 t1' S2 ⊢
    unfold maxLen at t2
    clear hf hok hj hr2 t3 t3'
    by_cases hpe : partsP p = []
    · have hpl : (partsP p).length = 0 := by rw [hpe]; rfl
      have hrl0 : (partsP r).length = 0 := by omega
      have hd : (restP p r).map mk = [] := by rw [Hr2.out, hpe]; simp
      have hany : ∀ X Y, Y ≤ 9223372036854775807 → SlS w3 (.slice X 0 Y) ((restP p r).map mk) := fun X Y hY => by rw [hd]; exact ⟨X, Y, rfl, Nat.zero_le _, by unfold maxLen; omega, .inl rfl⟩
      have Hany := Lib.hid hany; clear hany hd hpe
      rw [hrl0, hpl] at *
      cases A with
      | none =>
        go_wp2_with fail
        refine (Hj.out _ (Hany.out _ _ (by omega))).mono ?_
        rintro e w' ⟨rfl, rfl⟩
        go_wp2
        refine bodyPost_ret (v := .tuple #[.string y, .bool true]) ?_ rfl ⟨by rw [Hf.out, Hok.out], c3⟩
        simp [results, Tryd.results18, go_sem]
      | some ad =>
        go_wp2_with fail
        all_goals
          refine (Hj.out _ (Hany.out _ _ (by omega))).mono ?_
          rintro e w' ⟨rfl, rfl⟩
          go_wp2
          refine bodyPost_ret (v := .tuple #[.string y, .bool true]) ?_ rfl ⟨by rw [Hf.out, Hok.out], c3⟩
          simp [results, Tryd.results18, go_sem]
    · obtain ⟨b, off, rfl⟩ : ∃ b off, A = some ⟨b, off, none⟩ := by
        obtain ⟨A2, cap2, e, _, _, h⟩ := S2.out
        injection e with e1 _ _
        subst e1
        obtain ⟨b, off, e, _, _⟩ := h.resolve_left (fun e => hpe (List.map_eq_nil_iff.1 e))
        exact ⟨b, off, e⟩
      have hdr := slS_drop (k := (partsP r).length) S2.out (by rw [List.length_map]; exact hle)
      rw [← List.map_drop, ← Hr2.out, List.length_map] at hdr
      have Hdr := Lib.hid hdr; clear hdr hpe
      by_cases hkk : k = (partsP r).length
      · have hd : (restP p r).map mk = [] := by
          rw [Hr2.out, List.drop_of_length_le (by omega)]; rfl
        have hpp : (partsP p).length = (partsP r).length := by omega
        have hany : ∀ X Y, Y ≤ 9223372036854775807 → SlS w3 (.slice X 0 Y) ((restP p r).map mk) := fun X Y hY => by rw [hd]; exact ⟨X, Y, rfl, Nat.zero_le _, by unfold maxLen; omega, .inl rfl⟩
        have Hany := Lib.hid hany; clear hany hd
        subst hkk
        rw [hpp]
        go_wp2_with fail
        refine (Hj.out _ (Hany.out _ _ (by omega))).mono ?_
        rintro e w' ⟨rfl, rfl⟩
        go_wp2
        refine bodyPost_ret (v := .tuple #[.string y, .bool true]) ?_ rfl ⟨by rw [Hf.out, Hok.out], c3⟩
        simp [results, Tryd.results18, go_sem]
      · have hkk' : ¬ (k : Int) = ((partsP r).length : Int) := by omega
        go_wp2_with fail
        refine (Hj.out _ Hdr.out).mono ?_
        rintro e w' ⟨rfl, rfl⟩
        go_wp2
        refine bodyPost_ret (v := .tuple #[.string y, .bool true]) ?_ rfl ⟨by rw [Hf.out, Hok.out], c3⟩
        simp [results, Tryd.results18, go_sem]
set_option maxRecDepth 100000 in
theorem walkFnExactInsideRoot (a : ByteArray) (b : ByteArray) (w : World) (hsh : w.ShapedOpen Tryd.prog) (ha : a.size ≤ maxLen) (hb : b.size ≤ maxLen) :
    Calls Tryd.prog 5 #[.string a, .string b] w fun e w' => e = .returned (.bool true) ∧ Below w.heap.size w w' := by
  unfold maxLen at ha hb
  by_cases hm : (1048576 : Int) < (a.size : Int)
  · go_enter Tryd.func5, Tryd.ntmps5
    go_wp2
    go_ret
    exact ⟨rfl, Below.refl _ _⟩
  · by_cases hm2 : (1048576 : Int) < (b.size : Int)
    · go_enter Tryd.func5, Tryd.ntmps5
      go_wp2
      go_ret
      exact ⟨rfl, Below.refl _ _⟩
    · have hmx := maxL_of hsh
      have h1 := insideS_of a b w (by omega) (by omega)
      have h2 := fun w (hm : MaxL w) => insideI_of a b w hm (by omega) (by omega)
      generalize a.data.toList = r at h1 h2
      generalize b.data.toList = p at h1 h2
      go_enter Tryd.func5, Tryd.ntmps5
      go_wp2_with fail
      refine h1.mono ?_
      rintro e w1 ⟨rfl, b1⟩
      go_wp2_with fail
      refine (h2 w1 (hmx.below b1)).mono ?_
      rintro e w2 ⟨rfl, b2⟩
      have c2 := Below.step b2 b1.size b1
      clear h1 h2
      generalize mk (insideF r p) = y
      generalize restOk p r = z
      go_wp2
      go_ret
      exact ⟨rfl, c2⟩
end Go.Proofs.YtaadobcfijegcaaDoor
