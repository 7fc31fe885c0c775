/- Paths: the program's 'JoinPath' and 'PathParts'. -/
import Derived.Test.YtaadobcfijegcaaDoorPath
set_option linter.unusedSimpArgs false
set_option linter.unusedVariables false
set_option linter.unusedSectionVars false
namespace Go.Proofs.YtaadobcfijegcaaDoor
open Go.RowKit

/-- The slice v reads as the texts ws. -/
def SlS (w : World) (v : Value) (ws : List ByteArray) : Prop :=
  ∃ A cap, v = .slice A ws.length cap ∧ ws.length ≤ cap ∧ cap ≤ maxLen ∧ (ws = [] ∨ ∃ b off, A = some ⟨b, off, none⟩ ∧ b < w.heap.size ∧ At1 w b off ws)
theorem At1.below {w w' : World} {b off : Nat} {ws : List ByteArray} (h : At1 w b off ws) (hb : b < w.heap.size) (h' : Below w.heap.size w w') : At1 w' b off ws := fun i hi => (h'.cell (p := ⟨b, _, none⟩) hb).trans (h i hi)
theorem SlS.below {w w' : World} {v : Value} {ws : List ByteArray} (h : SlS w v ws) (h' : Below w.heap.size w w') : SlS w' v ws := by
  obtain ⟨A, cap, h1, h2, h3, h4⟩ := h
  exact ⟨A, cap, h1, h2, h3, h4.imp id fun ⟨b, off, e, hb, hc⟩ => ⟨b, off, e, Nat.lt_of_lt_of_le hb h'.size, hc.below hb h'⟩⟩
theorem ownS_sl {B : Nat} {w : World} {v : Value} {ws : List ByteArray} (h : OwnS B w v ws) : SlS w v ws := by
  by_cases hl : 0 < ws.length
  · obtain ⟨g, c, rfl, h1, h2, h3, h4⟩ := ownS_at h hl
    exact ⟨_, c, rfl, h3, h4, .inr ⟨g, 0, rfl, h2, fun i hi => by rw [Nat.zero_add]; exact ownS_cell h hi⟩⟩
  · have hw : ws = [] := List.length_eq_zero_iff.1 (by omega)
    subst hw
    rcases h.2 with ⟨rfl, _⟩ | ⟨g, c, cur, rfl, _, _, h1, h2, _⟩
    · exact ⟨none, 0, rfl, Nat.le_refl _, by decide, .inl rfl⟩
    · exact ⟨_, c, rfl, h1, h2, .inl rfl⟩
theorem ownS_ext {B d : Nat} {os : Array Obj} {w : World} {v : Value} {ws : List ByteArray} (h : OwnS B w v ws) : OwnS B (ext w d os) v ws := by
  refine ⟨h.1, ?_⟩
  rcases h.2 with h' | ⟨g, cap, cur, h1, h2, h3, h4⟩
  · exact .inl h'
  · refine .inr ⟨g, cap, cur, h1, h2, ?_, h4⟩
    have hg : g < w.heap.size := by
      rcases Nat.lt_or_ge g w.heap.size with hlt | hge
      · exact hlt
      · rw [Array.getElem?_eq_none hge] at h3; cases h3
    rw [ext_get hg]; exact h3
theorem ownS_below {B : Nat} {w w' : World} {v : Value} {ws : List ByteArray} (h : OwnS B w v ws) (hb : Below w.heap.size w w') : OwnS B w' v ws := by
  obtain ⟨d, os, rfl⟩ := ext_of_below hb
  exact ownS_ext h
theorem ownS_mono {B B' : Nat} {w : World} {v : Value} {ws : List ByteArray} (h : OwnS B w v ws) (hB : B' ≤ B) : OwnS B' w v ws :=
  ⟨h.1, h.2.imp id fun ⟨g, c, cur, e1, e2, e3⟩ => ⟨g, c, cur, e1, Nat.le_trans hB e2, e3⟩⟩
theorem mk_data (l : List UInt8) : (mk l).data.toList = l := by unfold mk; simp
theorem mk_toList (l : List UInt8) : (mk l).toList = l := by rw [Lib.toList_data, mk_data]
theorem map_mk_data (ls : List (List UInt8)) : (ls.map mk).map (·.data.toList) = ls := by
  rw [List.map_map]
  conv => rhs; rw [← List.map_id ls]
  exact List.map_congr_left fun x _ => mk_data x
theorem map_data_mk (P : List ByteArray) : (P.map (·.data.toList)).map mk = P := by
  rw [List.map_map]
  conv => rhs; rw [← List.map_id P]
  exact List.map_congr_left fun x _ => (mk_list x).symm
theorem cat_mk (a b : List UInt8) : mk a ++ mk b = mk (a ++ b) := by
  rw [mk_list (mk a ++ mk b), Go.Joins.data_append, mk_data, mk_data]
/-- Some text is no name. -/
def noName (ws : List ByteArray) : Bool := ws.any fun s => !nameB s.data.toList
theorem notName_any (s : ByteArray) (w : World) (hs : s.size ≤ maxLen) : Calls Tryd.prog 67 #[.string s] w fun e w' => e = .returned (.bool (!nameB s.data.toList)) ∧ w = w' := by
  go_enter Tryd.func67, Tryd.ntmps67
  go_wp2_with (go_at_call 32; refine (nameValid_any _ _ hs).mono ?_; rintro e w' ⟨rfl, rfl⟩)
  go_ret
  exact ⟨rfl, rfl⟩
set_option maxRecDepth 100000 in
set_option maxHeartbeats 1000000 in
theorem indexNo (A : Option Addr) (cap : Nat) (ws : List ByteArray) (w : World) (hc : cap ≤ maxLen) (hn : ws.length ≤ cap) (hsz : ∀ i, i < ws.length → (st ws i).size ≤ maxLen) (h : ws = [] ∨ ∃ b off, A = some ⟨b, off, none⟩ ∧ b < w.heap.size ∧ At1 w b off ws) :
    Calls Tryd.prog 64 #[.slice A ws.length cap, .func (.func 67) #[] #[]] w fun e w' => (∃ r, e = .returned (.int .i64 r) ∧ decide (0 ≤ r) = noName ws) ∧ w = w' := by
  unfold maxLen at hc
  have H := Lib.hid h; clear h
  have Hs := Lib.hid hsz; clear hsz
  go_enter Tryd.func64, Tryd.ntmps64
  go_wp2
  go_loop [8, 5] (fun i _ => ∃ k : Nat, k ≤ ws.length ∧ i = .int .i64 k ∧ ∀ j, j < k → (!nameB (st ws j).data.toList) = false) (fun i _ => ws.length - (intOf i).toNat)
  case atStart => exact ⟨0, Nat.zero_le _, rfl, fun j hj => absurd hj (by omega)⟩
  case round =>
    obtain ⟨k, hk, rfl, hall⟩ := hrel
    have Hall := Lib.hid hall; clear hall
    by_cases hlt : k < ws.length
    · obtain ⟨b, off, rfl, hb, hat⟩ := H.out.resolve_left (fun e => by subst e; simp at hlt)
      have c0 := hat k hlt
      have s0 := Hs.out k hlt
      clear hat
      rcases Bool.eq_false_or_eq_true (nameB (st ws k).data.toList) with hw | hw
      · have Hw := Lib.hid hw
        go_wp2_with (go_at_call 67; refine (notName_any _ _ s0).mono ?_; rintro e w' ⟨rfl, rfl⟩)
        go_round
        case rel => exact ⟨k + 1, by omega, by go_num, fun j hj => by
          by_cases e : j = k
          · subst e; rw [Hw.out]; rfl
          · exact Hall.out j (by omega)⟩
        case measure => simp [intOf]; omega
      · have hb : noName ws = true := any_some (p := fun s => !nameB s.data.toList) hlt (by rw [hw]; rfl)
        have Hb := Lib.hid hb; clear hb
        go_wp2_with (go_at_call 67; refine (notName_any _ _ s0).mono ?_; rintro e w' ⟨rfl, rfl⟩)
        go_ret
        exact ⟨⟨_, rfl, by rw [Hb.out]; simp⟩, rfl⟩
    · have hk' : k = ws.length := by omega
      subst hk'
      have hb : noName ws = false := any_none (p := fun s => !nameB s.data.toList) (fun i hi => Hall.out i hi)
      have Hb := Lib.hid hb; clear hb
      go_wp2
      go_ret
      exact ⟨⟨_, rfl, by rw [Hb.out]; rfl⟩, rfl⟩
theorem containsNo (A : Option Addr) (cap : Nat) (ws : List ByteArray) (w : World) (hc : cap ≤ maxLen) (hn : ws.length ≤ cap) (hsz : ∀ i, i < ws.length → (st ws i).size ≤ maxLen) (h : ws = [] ∨ ∃ b off, A = some ⟨b, off, none⟩ ∧ b < w.heap.size ∧ At1 w b off ws) :
    Calls Tryd.prog 42 #[.slice A ws.length cap, .func (.func 67) #[] #[]] w fun e w' => e = .returned (.bool (noName ws)) ∧ w = w' := by
  go_enter Tryd.func42, Tryd.ntmps42
  go_wp2_with fail
  refine (indexNo A cap ws w hc hn hsz h).mono ?_
  rintro e w' ⟨⟨r, rfl, hr⟩, rfl⟩
  have Hr := Lib.hid hr; clear hr
  go_wp2
  go_ret
  exact ⟨by rw [← Hr.out]; rfl, rfl⟩
theorem noName_spl (ls : List (List UInt8)) : noName (ls.map mk) = !(ls.all nameB) := by
  have h := map_mk_data ls
  generalize ls.map mk = P at h
  subst h
  unfold noName
  rw [List.all_map, List.not_all_eq_any_not]; rfl
theorem st_mk {ls : List (List UInt8)} {i : Nat} (hi : i < ls.length) : st (ls.map mk) i = mk (ls.getD i []) := by
  unfold st
  rw [List.getD_eq_getElem?_getD, List.getElem?_map, List.getElem?_eq_getElem hi, List.getD_eq_getElem?_getD, List.getElem?_eq_getElem hi]; rfl
set_option maxRecDepth 100000 in
set_option maxHeartbeats 1000000 in
theorem joinI_of (v : Value) (ls : List (List UInt8)) (w : World) (h : SlS w v (ls.map mk)) (hsz : ∀ x ∈ ls, x.length ≤ 1048576) : Calls Tryd.prog 49 #[v] w fun e w' => e = .returned (.string (mk (joinP ls))) ∧ Below w.heap.size w w' := by
  obtain ⟨A, cap, rfl, h1, h2, h3⟩ := h
  have hml : (ls.map mk).length = ls.length := List.length_map _
  have hsz' : ∀ i, i < (ls.map mk).length → (st (ls.map mk) i).size ≤ maxLen := fun i hi => by
    rw [hml] at hi
    rw [st_mk hi, mk_size, List.getD_eq_getElem?_getD, List.getElem?_eq_getElem hi]
    have := hsz _ (List.getElem_mem hi)
    simp only [Option.getD_some]
    unfold maxLen; omega
  have hc2 := h2
  unfold maxLen at h2
  by_cases h6 : 6 < ls.length
  · have hr : joinP ls = [] := joinP_no (by unfold namesB; rw [decide_eq_false (by omega), Bool.false_and])
    have Hr := Lib.hid hr; clear hr
    rw [hml]
    go_enter Tryd.func49, Tryd.ntmps49
    go_wp2
    go_ret
    exact ⟨by rw [Hr.out]; rfl, Below.refl _ _⟩
  · have hno := noName_spl ls
    cases hall : ls.all nameB
    · have hr : joinP ls = [] := joinP_no (by unfold namesB; rw [hall, Bool.and_false])
      have Hr := Lib.hid hr; clear hr
      rw [hall] at hno
      have H3 := Lib.hid h3; clear h3
      go_enter Tryd.func49, Tryd.ntmps49
      go_wp2_with fail
      rw [← hml]
      refine (containsNo A cap _ w hc2 h1 hsz' H3.out).mono ?_
      rintro e w' ⟨rfl, rfl⟩
      rw [hno]
      go_wp2
      go_ret
      exact ⟨by rw [Hr.out]; rfl, Below.refl _ _⟩
    · rw [hall] at hno
      have hn : namesB ls = true := by unfold namesB; rw [hall, decide_eq_true (by omega)]; rfl
      have hjs := joinL_size hall
      by_cases hne : ls = []
      · subst hne
        have H3 := Lib.hid h3; clear h3
        go_enter Tryd.func49, Tryd.ntmps49
        go_wp2_with fail
        refine (containsNo A cap ([].map mk) w hc2 h1 hsz' H3.out).mono ?_
        rintro e w' ⟨rfl, rfl⟩
        rw [hno]
        go_wp2_with fail
        refine (Tryd.strings_Join_none _ _ _ _).mono ?_
        rintro e w' ⟨rfl, rfl⟩
        have hsum : (ByteArray.mk #[47]).size + (ByteArray.mk #[]).size ≤ 9223372036854775807 := by decide
        go_wp2
        go_ret
        exact ⟨rfl, Below.refl _ _⟩
      · have hlp : 0 < ls.length := List.length_pos_iff.2 hne
        obtain ⟨b, off, rfl, hb, hat⟩ := h3.resolve_left (fun e => hne (List.map_eq_nil_iff.1 e))
        have hjl := join_lib ls hne
        have hr : joinP ls = joinL ls := joinP_yes hn hne
        have Hat := Lib.hid hat
        have h3' : (ls.map mk) = [] ∨ ∃ b' off', some (⟨b, off, none⟩ : Addr) = some ⟨b', off', none⟩ ∧ b' < w.heap.size ∧ At1 w b' off' (ls.map mk) := .inr ⟨b, off, rfl, hb, hat⟩
        have H3 := Lib.hid h3'
        have hcells : ∀ (j : Nat) x, (ls.map mk)[j]? = some x → w.cell? ⟨b, off + j, none⟩ = some (.string x) := fun j x hx => by
          have hj : j < (ls.map mk).length := (List.getElem?_eq_some_iff.1 hx).1
          rw [Hat.out j hj]
          unfold st
          rw [List.getD_eq_getElem?_getD, hx]; rfl
        have hjle : (Lib.join ((ls.map mk).map (·.data.toList)) (mk [47]).data.toList).length ≤ 140737488355328 := by
          rw [map_mk_data, mk_data]
          have : (Lib.join ls [47]).length + 1 = (joinL ls).length := by rw [← hjl]; rfl
          omega
        have hcat : (⟨#[47]⟩ : ByteArray) ++ mk (Lib.join ls [47]) = mk (joinP ls) := by
          rw [show (⟨#[47]⟩ : ByteArray) = mk [47] from rfl, cat_mk, hr, ← hjl]; rfl
        have hsum : (ByteArray.mk #[47]).size + (mk (Lib.join ls [47])).size ≤ 9223372036854775807 := by
          rw [mk_size, show (ByteArray.mk #[47]).size = 1 from rfl]
          have : (Lib.join ls [47]).length + 1 = (joinL ls).length := by rw [← hjl]; rfl
          omega
        have hcon := Tryd.strings_Join b off cap (ls.map mk) ⟨#[47]⟩ w hcells hb (by rw [hml]; omega) h1 hjle
        rw [map_mk_data] at hcon
        have hcon' : Calls Tryd.prog 68 #[.slice (some ⟨b, off, none⟩) (ls.map mk).length cap, .string ⟨#[47]⟩] w fun e w' => e = .returned (.string (mk (Lib.join ls [47]))) ∧ Below w.heap.size w w' := hcon
        clear hcells hjle hjl hat h3 h3' hcon Hat
        generalize mk (Lib.join ls [47]) = J at hcat hsum hcon'
        have Hcat := Lib.hid hcat; clear hcat
        have Hcon := Lib.hid hcon'; clear hcon'
        go_enter Tryd.func49, Tryd.ntmps49
        go_wp2_with fail
        rw [← hml]
        refine (containsNo _ cap _ w hc2 h1 hsz' H3.out).mono ?_
        rintro e w' ⟨rfl, rfl⟩
        rw [hno]
        go_wp2_with fail
        rw [← hml]
        refine Hcon.out.mono ?_
        rintro e w' ⟨rfl, b2⟩
        go_wp2
        go_ret
        exact ⟨by rw [← Hcat.out]; rfl, b2⟩
/-- What 'PathParts' hands back: the names, in a slice of the call's own. -/
def Parts (w : World) (l : List UInt8) (e : Ending) (w' : World) : Prop := ∃ v, e = .returned (.tuple #[v, .bool (okP l)]) ∧ OwnS w.heap.size w' v ((partsP l).map mk) ∧ Below w.heap.size w w'
theorem split_own (w : World) (P : List ByteArray) (N : Nat) (h : P.length ≤ N) (hN : N ≤ 2000000) : OwnS w.heap.size (w.alloc (.cells (Lib.cellsOf P N) 9)) (.slice (some ⟨w.heap.size, 0, none⟩) P.length N) P := by
  refine ⟨by simp, .inr ⟨w.heap.size, N, Lib.cellsOf P N, rfl, Nat.le_refl _, heap_alloc_new w _, h, by unfold maxLen; omega, by rw [Lib.cellsOf_size h]; omega, ?_⟩⟩
  unfold Lib.cellsOf
  rw [Nat.mul_one, List.take_append_of_le_length (by simp), List.take_of_length_le (by simp)]
theorem word_sizes {P : List ByteArray} {l : List UInt8} (hp : ∀ x ∈ P, x.size ≤ l.length) : ∀ x ∈ P.map (·.data.toList), x.length ≤ l.length := fun x hx => by
  obtain ⟨y, hy, rfl⟩ := List.mem_map.1 hx
  rw [size_list]; exact hp y hy
theorem splitB_sizes (sep : ByteArray) : ∀ (k : Nat) (s : ByteArray), ∀ x ∈ Lib.splitB sep 0 k s, x.size ≤ s.size
  | 0, s, x, hx => by rw [Lib.splitB_zero] at hx; rw [List.mem_singleton.1 hx]; exact Nat.le_refl _
  | k + 1, s, x, hx => by
    unfold Lib.splitB at hx
    split at hx
    · rw [List.mem_singleton.1 hx]; exact Nat.le_refl _
    · rcases List.mem_cons.1 hx with rfl | hx
      · rw [ByteArray.size_extract]; omega
      · have := splitB_sizes sep k _ x hx
        rw [ByteArray.size_extract] at this; omega
end Go.Proofs.YtaadobcfijegcaaDoor
