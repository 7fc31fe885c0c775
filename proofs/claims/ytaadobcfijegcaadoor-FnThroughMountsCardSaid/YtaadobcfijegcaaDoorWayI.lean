/- Ways: the program's 'WayValid'. -/
import Derived.Test.YtaadobcfijegcaaDoorWords
import Derived.Test.YtaadobcfijegcaaDoorNameS
import Derived.Test.YtaadobcfijegcaaDoorShelf
import Derived.Test.YtaadobcfijegcaaDoorSl
set_option linter.unusedSimpArgs false
set_option linter.unusedVariables false
set_option linter.unusedSectionVars false
namespace Go.Proofs.YtaadobcfijegcaaDoor
open Go.RowKit

/-- A word of a way. -/
def wordB (l : List UInt8) : Bool := l == [] || (l == [46] || (l == [46, 46] || nameB l))
theorem wordB_cases (l : List UInt8) : (l = [] ∧ wordB l = true) ∨ (¬ l = [] ∧ l = [46] ∧ wordB l = true) ∨ (¬ l = [] ∧ ¬ l = [46] ∧ l = [46, 46] ∧ wordB l = true) ∨ (¬ l = [] ∧ ¬ l = [46] ∧ ¬ l = [46, 46] ∧ wordB l = nameB l) := by
  by_cases h0 : l = []
  · exact .inl ⟨h0, by subst h0; rfl⟩
  · by_cases h1 : l = [46]
    · exact .inr (.inl ⟨h0, h1, by subst h1; rfl⟩)
    · by_cases h2 : l = [46, 46]
      · exact .inr (.inr (.inl ⟨h0, h1, h2, by subst h2; rfl⟩))
      · exact .inr (.inr (.inr ⟨h0, h1, h2, by unfold wordB; rw [beq_eq_false_iff_ne.2 h0, beq_eq_false_iff_ne.2 h1, beq_eq_false_iff_ne.2 h2]; rfl⟩))
theorem notWord_any (s : ByteArray) (w : World) (hs : s.size ≤ maxLen) : Calls Tryd.prog 43 #[.string s] w fun e w' => e = .returned (.bool (!wordB s.data.toList)) ∧ w = w' := by
  have hc := wordB_cases s.data.toList
  have ht := Lib.toList_data s
  rw [← ht] at hc
  rcases hc with ⟨h0, hv⟩ | ⟨h0, h1, hv⟩ | ⟨h0, h1, h2, hv⟩ | ⟨h0, h1, h2, hv⟩
  all_goals
    rw [ht] at hv
    have Hv := Lib.hid hv; clear hv ht
    go_enter Tryd.func43, Tryd.ntmps43
    go_wp2_with (go_at_call 32; refine (nameValid_any _ _ hs).mono ?_; rintro e w' ⟨rfl, rfl⟩)
    go_ret
    exact ⟨by rw [Hv.out]; first | rfl | (simp [h0, h1, h2]; done), rfl⟩
/-- Text i of a list. -/
def st (ws : List ByteArray) (i : Nat) : ByteArray := ws.getD i ByteArray.empty
/-- The slice's cells hold the texts ws. -/
def At1 (w : World) (b off : Nat) (ws : List ByteArray) : Prop := ∀ i, i < ws.length → w.cell? ⟨b, off + i, none⟩ = some (.string (st ws i))
def badAt (ws : List ByteArray) : Bool := ws.any fun s => !wordB s.data.toList
theorem any_none {ws : List ByteArray} {p : ByteArray → Bool} (h : ∀ i, i < ws.length → p (st ws i) = false) : ws.any p = false := by
  rw [List.any_eq_false]
  intro x hx
  obtain ⟨i, hi, rfl⟩ := List.getElem_of_mem hx
  have := h i hi
  unfold st at this
  rw [List.getD_eq_getElem?_getD, List.getElem?_eq_getElem hi] at this
  simpa using this
theorem any_some {ws : List ByteArray} {p : ByteArray → Bool} {i : Nat} (hi : i < ws.length) (h : p (st ws i) = true) : ws.any p = true := by
  rw [List.any_eq_true]
  unfold st at h
  rw [List.getD_eq_getElem?_getD, List.getElem?_eq_getElem hi] at h
  exact ⟨ws[i], List.getElem_mem hi, by simpa using h⟩
set_option maxRecDepth 100000 in
set_option maxHeartbeats 1000000 in
theorem indexBad (b off cap : Nat) (ws : List ByteArray) (w : World) (hc : cap ≤ maxLen) (hn : ws.length ≤ cap) (hsz : ∀ i, i < ws.length → (st ws i).size ≤ maxLen) (h : At1 w b off ws) :
    Calls Tryd.prog 64 #[.slice (some ⟨b, off, none⟩) ws.length cap, .func (.func 43) #[] #[]] w fun e w' => (∃ r, e = .returned (.int .i64 r) ∧ decide (0 ≤ r) = badAt ws) ∧ w = w' := by
  unfold maxLen at hc
  have H := Lib.hid h; clear h
  have Hs := Lib.hid hsz; clear hsz
  go_enter Tryd.func64, Tryd.ntmps64
  go_wp2
  go_loop [8, 5] (fun i _ => ∃ k : Nat, k ≤ ws.length ∧ i = .int .i64 k ∧ ∀ j, j < k → (!wordB (st ws j).data.toList) = false) (fun i _ => ws.length - (intOf i).toNat)
  case atStart => exact ⟨0, Nat.zero_le _, rfl, fun j hj => absurd hj (by omega)⟩
  case round =>
    obtain ⟨k, hk, rfl, hall⟩ := hrel
    have Hall := Lib.hid hall; clear hall
    by_cases hlt : k < ws.length
    · have c0 := H.out k hlt
      have s0 := Hs.out k hlt
      rcases Bool.eq_false_or_eq_true (wordB (st ws k).data.toList) with hw | hw
      · have Hw := Lib.hid hw
        go_wp2_with (go_at_call 43; refine (notWord_any _ _ s0).mono ?_; rintro e w' ⟨rfl, rfl⟩)
        go_round
        case rel => exact ⟨k + 1, by omega, by go_num, fun j hj => by
          by_cases e : j = k
          · subst e; rw [Hw.out]; rfl
          · exact Hall.out j (by omega)⟩
        case measure => simp [intOf]; omega
      · have hb : badAt ws = true := any_some hlt (by rw [hw]; rfl)
        have Hb := Lib.hid hb; clear hb
        go_wp2_with (go_at_call 43; refine (notWord_any _ _ s0).mono ?_; rintro e w' ⟨rfl, rfl⟩)
        go_ret
        exact ⟨⟨_, rfl, by rw [Hb.out]; simp⟩, rfl⟩
    · have hk' : k = ws.length := by omega
      subst hk'
      have hb : badAt ws = false := any_none (fun i hi => Hall.out i hi)
      have Hb := Lib.hid hb; clear hb
      go_wp2
      go_ret
      exact ⟨⟨_, rfl, by rw [Hb.out]; rfl⟩, rfl⟩
theorem containsBad (b off cap : Nat) (ws : List ByteArray) (w : World) (hc : cap ≤ maxLen) (hn : ws.length ≤ cap) (hsz : ∀ i, i < ws.length → (st ws i).size ≤ maxLen) (h : At1 w b off ws) :
    Calls Tryd.prog 42 #[.slice (some ⟨b, off, none⟩) ws.length cap, .func (.func 43) #[] #[]] w fun e w' => e = .returned (.bool (badAt ws)) ∧ w = w' := by
  go_enter Tryd.func42, Tryd.ntmps42
  go_wp2_with fail
  refine (indexBad b off cap ws w hc hn hsz h).mono ?_
  rintro e w' ⟨⟨r, rfl, hr⟩, rfl⟩
  have Hr := Lib.hid hr; clear hr
  go_wp2
  go_ret
  exact ⟨by rw [← Hr.out]; rfl, rfl⟩
/-- What 'WayValid' says. -/
def wayB (l : List UInt8) : Bool := decide ((spl l).length ≤ 12) && (spl l).all wordB
theorem spl_word (l : List UInt8) : ∀ x ∈ spl l, x.length ≤ l.length := by
  induction l with
  | nil => intro x hx; simp [spl] at hx; subst hx; exact Nat.le_refl _
  | cons c cs ih =>
    intro x hx
    by_cases hc : c = 47
    · subst hc
      rw [spl_slash] at hx
      rcases List.mem_cons.1 hx with rfl | hx
      · simp
      · have := ih x hx; simp; omega
    · obtain ⟨h, t, e⟩ := spl_ne cs
      rw [spl_other hc e] at hx
      rw [e] at ih
      rcases List.mem_cons.1 hx with rfl | hx
      · have := ih h (List.mem_cons_self ..); simp; omega
      · have := ih x (List.mem_cons_of_mem _ hx); simp; omega
theorem badAt_spl {P : List ByteArray} {ls : List (List UInt8)} (h : P.map (·.data.toList) = ls) : badAt P = !(ls.all wordB) := by
  subst h
  unfold badAt
  rw [List.all_map, List.not_all_eq_any_not]; rfl
theorem size_list (s : ByteArray) : s.data.toList.length = s.size := Array.length_toList
/-- The library's variable holds some number. -/
def MaxL (w : World) : Prop := ∃ m, w.cell? ⟨Tryd.laysM147_ren.g 1, 0, none⟩ = some (.int .i64 m)
theorem maxL_of {w : World} (h : w.ShapedOpen Tryd.prog) : MaxL w := Tryd.laysM147.s1_3 w h
theorem MaxL.below {w w' : World} (h : MaxL w) (hb : Below w.heap.size w w') : MaxL w' := by
  obtain ⟨m, hm⟩ := h
  exact ⟨m, (hb.cell (block_lt_of_cell hm)).trans hm⟩
theorem splitN_of (s sep : ByteArray) (n : Nat) (w : World) (h : MaxL w) (hs : s.size < 4294967281) (h1 : 1 ≤ sep.size) (hn : 1 ≤ n) (hn63 : n ≤ 9223372036854775807) :
    Calls Tryd.prog 41 #[.string s, .string sep, .int .i64 n] w fun e w' =>
      e = .returned (.slice (some ⟨w.heap.size, 0, none⟩) (Lib.splitB sep 0 (min n (s.size + 1) - 1) s).length (min n (s.size + 1))) ∧ w' = w.alloc (.cells (Lib.cellsOf (Lib.splitB sep 0 (min n (s.size + 1) - 1) s) (min n (s.size + 1))) 9) :=
  let ⟨m, hm⟩ := h
  Any.strings_SplitN { Tryd.laysM147 with } Tryd.laysM147.i9 s sep n m w hs hm h1 hn hn63
theorem wayValidI_of (s : ByteArray) (w : World) (hsh : MaxL w) (hs : s.size ≤ 1048576) : Calls Tryd.prog 15 #[.string s] w fun e w' => e = .returned (.bool (wayB s.data.toList)) ∧ Below w.heap.size w w' := by
  have hd := Lib.splitB_data ⟨#[47]⟩ 0 (min 13 (s.size + 1) - 1) s
  have h13 := split13 s.data.toList
  rw [size_list] at h13
  go_enter Tryd.func15, Tryd.ntmps15
  go_wp2_with fail
  refine (splitN_of s ⟨#[47]⟩ 13 w hsh (by omega) (by decide) (by decide) (by decide)).mono ?_
  rintro e w' ⟨rfl, rfl⟩
  have hple := Lib.splitB_length_le ⟨#[47]⟩ 0 (min 13 (s.size + 1) - 1) s
  generalize Lib.splitB ⟨#[47]⟩ 0 (min 13 (s.size + 1) - 1) s = P at hd hple ⊢
  rcases h13 with ⟨a1, a2⟩ | ⟨a1, a2⟩
  · rw [a2] at hd
    have hl : P.length = (spl s.data.toList).length := by rw [← hd, List.length_map]
    have hl12 : P.length ≤ 12 := by omega
    have hbad := badAt_spl hd
    have hv : wayB s.data.toList = !(badAt P) := by unfold wayB; rw [hbad, decide_eq_true a1, Bool.not_not, Bool.true_and]
    have hsz : ∀ i, i < P.length → (st P i).size ≤ maxLen := by
      intro i hi
      unfold st
      rw [List.getD_eq_getElem?_getD, List.getElem?_eq_getElem hi]
      have hm : P[i].data.toList ∈ spl s.data.toList := by rw [← hd]; exact List.mem_map_of_mem (List.getElem_mem hi)
      have := spl_word _ _ hm
      rw [size_list, size_list] at this
      simp only [Option.getD_some]
      unfold maxLen; omega
    have hat : At1 (w.alloc (.cells (Lib.cellsOf P (min 13 (s.size + 1))) 9)) w.heap.size 0 P := by
      intro i hi
      rw [cell_of_row _ _ _ _ _ _ (heap_alloc_new w _)]
      unfold Lib.cellsOf st
      rw [List.getElem?_toArray, List.getElem?_append_left (by simp; omega), List.getElem?_map, List.getElem?_eq_getElem (by omega), List.getD_eq_getElem?_getD, List.getElem?_eq_getElem hi]
      simp
    have Hv := Lib.hid hv; clear hv hd hbad a1 a2 hl
    go_wp2_with fail
    refine (containsBad w.heap.size 0 _ P _ (by unfold maxLen; omega) (by omega) hsz hat).mono ?_
    rintro e w' ⟨rfl, rfl⟩
    go_wp2
    go_ret
    exact ⟨by rw [Hv.out]; rfl, (by (repeat (first | exact Below.refl _ _ | exact Hbl.out | refine Below.ext ?_ (by first | omega | (simp; omega) | simp) | refine Below.setCell ?_ (by first | omega | (simp; omega) | simp) _ | refine Below.alloc ?_ (by first | omega | (simp; omega) | simp) _ | refine Below.drew ?_ | refine below_drewN ?_ _ | refine Below.step (by assumption) (by first | omega | (simp; omega) | simp) ?_)))⟩
  · have hl : P.length = 13 := by rw [← List.length_map (f := (·.data.toList)), hd, a2]
    have hv : wayB s.data.toList = false := by unfold wayB; rw [decide_eq_false (by omega), Bool.false_and]
    have Hv := Lib.hid hv; clear hv hd a1 a2
    go_wp2
    go_ret
    exact ⟨by rw [Hv.out]; rfl, (by (repeat (first | exact Below.refl _ _ | exact Hbl.out | refine Below.ext ?_ (by first | omega | (simp; omega) | simp) | refine Below.setCell ?_ (by first | omega | (simp; omega) | simp) _ | refine Below.alloc ?_ (by first | omega | (simp; omega) | simp) _ | refine Below.drew ?_ | refine below_drewN ?_ _ | refine Below.step (by assumption) (by first | omega | (simp; omega) | simp) ?_)))⟩
end Go.Proofs.YtaadobcfijegcaaDoor
