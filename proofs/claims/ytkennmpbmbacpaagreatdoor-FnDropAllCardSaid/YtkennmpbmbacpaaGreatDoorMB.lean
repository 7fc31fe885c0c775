/- Texts in one: The words of a text with / between them: the plain side. Ways: the program's 'WayValid'. Ways: the reference's words and 'WayValid'. Paths: the plain side. Paths: the program's 'JoinPath' and 'PathParts'. Paths: the program's 'PathParts'. Paths: the reference's 'JoinPath' and 'PathParts'. Paths: the reference's 'PathParts'. -/
import Derived.Test.YtkennmpbmbacpaaGreatDoorMA
import Derived.Lib.Split
import Derived.Test.YtkennmpbmbacpaaGreatDoorShelf
import Derived.Laws.AppendOwn
import Derived.Laws.OwnMore
import Derived.Lib.SmallJoins
import Derived.Lib.LazyBuf
import Derived.Lib.Join
set_option linter.unusedSimpArgs false
set_option linter.unusedVariables false
set_option linter.unusedSectionVars false
namespace Go.Proofs.YtkennmpbmbacpaaGreatDoor
open Go.Lib

/-- The words of a text with the sign 47 between them. -/
def spl : List UInt8 → List (List UInt8)
  | [] => [[]]
  | c :: cs => if c = 47 then [] :: spl cs else match spl cs with | h :: t => (c :: h) :: t | [] => [[c]]
theorem spl_ne (l : List UInt8) : ∃ h t, spl l = h :: t := by
  cases l with
  | nil => exact ⟨[], [], rfl⟩
  | cons c cs =>
    unfold spl
    by_cases hc : c = 47
    · rw [if_pos hc]; exact ⟨_, _, rfl⟩
    · rw [if_neg hc]
      cases spl cs with
      | nil => exact ⟨_, _, rfl⟩
      | cons h t => exact ⟨_, _, rfl⟩
theorem spl_slash (cs : List UInt8) : spl (47 :: cs) = [] :: spl cs := by
  conv => lhs; unfold spl
  rw [if_pos rfl]
theorem spl_other {c : UInt8} {cs h : List UInt8} {t : List (List UInt8)} (hc : c ≠ 47) (e : spl cs = h :: t) : spl (c :: cs) = (c :: h) :: t := by
  conv => lhs; unfold spl
  rw [if_neg hc, e]
theorem spl_len (l : List UInt8) : 1 ≤ (spl l).length ∧ (spl l).length ≤ l.length + 1 := by
  induction l with
  | nil => exact ⟨Nat.le_refl _, Nat.le_refl _⟩
  | cons c cs ih =>
    by_cases hc : c = 47
    · subst hc; rw [spl_slash]; simp only [List.length_cons]; omega
    · obtain ⟨h, t, e⟩ := spl_ne cs
      rw [spl_other hc e]
      rw [e] at ih
      simp only [List.length_cons] at ih ⊢; omega
/-- The last word gets one sign more. -/
def lastPut (ws : List (List UInt8)) (c : UInt8) : List (List UInt8) := ws.dropLast ++ [ws.getLastD [] ++ [c]]
theorem spl_snoc_slash (l : List UInt8) : spl (l ++ [47]) = spl l ++ [[]] := by
  induction l with
  | nil => rfl
  | cons c cs ih =>
    by_cases hc : c = 47
    · subst hc; rw [List.cons_append, spl_slash, spl_slash, ih]; rfl
    · obtain ⟨h, t, e⟩ := spl_ne cs
      rw [List.cons_append, spl_other hc e, spl_other hc (h := h) (t := t ++ [[]]) (by rw [ih, e]; rfl)]; rfl
theorem spl_snoc_other {c : UInt8} (hc : c ≠ 47) (l : List UInt8) : spl (l ++ [c]) = lastPut (spl l) c := by
  induction l with
  | nil => rw [List.nil_append, spl_other hc (h := []) (t := []) rfl]; rfl
  | cons a cs ih =>
    obtain ⟨h, t, e⟩ := spl_ne cs
    by_cases ha : a = 47
    · subst ha
      rw [List.cons_append, spl_slash, spl_slash, ih, e]
      cases t <;> rfl
    · rw [List.cons_append, spl_other ha e]
      rw [e] at ih
      cases t with
      | nil => rw [spl_other ha (h := h ++ [c]) (t := []) (by rw [ih]; rfl)]; rfl
      | cons x y =>
        rw [spl_other ha (h := h) (t := lastPut (x :: y) c) (by rw [ih]; rfl)]; rfl
/-- The words by the first sign 47. -/
theorem spl_index (l : List UInt8) : (index l [47] = -1 ∧ spl l = [l]) ∨ ∃ i : Nat, index l [47] = i ∧ i < l.length ∧ spl l = l.take i :: spl (l.drop (i + 1)) := by
  induction l with
  | nil => exact .inl ⟨by decide, rfl⟩
  | cons c cs ih =>
    by_cases hc : c = 47
    · subst hc
      exact .inr ⟨0, by simp [index], by simp, by rw [spl_slash]; rfl⟩
    · have hp : ([47] : List UInt8).isPrefixOf (c :: cs) = false := by
        simp only [List.isPrefixOf, Bool.and_true]
        exact beq_eq_false_iff_ne.2 (fun e => hc e.symm)
      rcases ih with ⟨h1, h2⟩ | ⟨i, h1, h2, h3⟩
      · refine .inl ⟨?_, by rw [spl_other hc h2]⟩
        simp [index, hp, h1]
      · refine .inr ⟨i + 1, ?_, by simp; omega, by rw [spl_other hc h3]; rfl⟩
        simp only [index, hp]
        rw [h1]
        have hne : ¬ ((i : Int) == -1) = true := fun e => by have := beq_iff_eq.1 e; omega
        simp only [Bool.false_eq_true, if_false]
        rw [if_neg hne]; push_cast; rfl
theorem splitK_whole : ∀ (k : Nat) (l : List UInt8), (spl l).length ≤ k + 1 → splitK [47] 0 k l = spl l
  | 0, l, h => by
    rcases spl_index l with ⟨h1, h2⟩ | ⟨i, h1, h2, h3⟩
    · rw [h2]; rfl
    · rw [h3] at h
      have := (spl_len (l.drop (i + 1))).1
      simp only [List.length_cons] at h; omega
  | k + 1, l, h => by
    rcases spl_index l with ⟨h1, h2⟩ | ⟨i, h1, h2, h3⟩
    · unfold splitK; rw [h1, h2]; rfl
    · unfold splitK
      have hne : ¬ ((i : Int) == -1) = true := fun e => by have := beq_iff_eq.1 e; omega
      rw [h1, if_neg hne, h3, show (i : Int).toNat = i from rfl, Nat.add_zero]
      rw [h3] at h
      simp only [List.length_cons, List.length_nil, Nat.zero_add] at h ⊢
      rw [splitK_whole k _ (by omega)]
theorem splitK_long : ∀ (k : Nat) (l : List UInt8), k + 1 < (spl l).length → (splitK [47] 0 k l).length = k + 1
  | 0, _, _ => rfl
  | k + 1, l, h => by
    rcases spl_index l with ⟨h1, h2⟩ | ⟨i, h1, h2, h3⟩
    · rw [h2] at h; simp at h
    · unfold splitK
      have hne : ¬ ((i : Int) == -1) = true := fun e => by have := beq_iff_eq.1 e; omega
      rw [h1, if_neg hne, show (i : Int).toNat = i from rfl]
      rw [h3] at h
      simp only [List.length_cons, List.length_nil, Nat.zero_add] at h ⊢
      rw [splitK_long k _ (by omega)]
/-- strings.SplitN(way, "/", 13): the words, if there are at most 12, else 13 pieces. -/
theorem split13 (l : List UInt8) : ((spl l).length ≤ 12 ∧ splitK [47] 0 (min 13 (l.length + 1) - 1) l = spl l) ∨ (12 < (spl l).length ∧ (splitK [47] 0 (min 13 (l.length + 1) - 1) l).length = 13) := by
  have hl := spl_len l
  by_cases h : (spl l).length ≤ 12
  · exact .inl ⟨h, splitK_whole _ _ (by omega)⟩
  · refine .inr ⟨by omega, ?_⟩
    have hk : min 13 (l.length + 1) - 1 = 12 := by omega
    rw [hk]
    by_cases h2 : (spl l).length = 13
    · rw [splitK_whole 12 l (by omega)]; exact h2
    · exact splitK_long 12 l (by omega)
end Go.Proofs.YtkennmpbmbacpaaGreatDoor

namespace Go.Proofs.YtkennmpbmbacpaaGreatDoor
open Go.RowKit

/-- A word of a way. -/
def wordB (l : List UInt8) : Bool := l == [] || (l == [46] || (l == [46, 46] || nameB l))
theorem wordB_cases (l : List UInt8) : (l = [] ∧ wordB l = true) ∨ (¬ l = [] ∧ l = [46] ∧ wordB l = true) ∨ (¬ l = [] ∧ ¬ l = [46] ∧ l = [46, 46] ∧ wordB l = true) ∨ (¬ l = [] ∧ ¬ l = [46] ∧ ¬ l = [46, 46] ∧ wordB l = nameB l) := by
  by_cases h0 : l = []
  · exact .inl ⟨h0, by subst h0; rfl⟩
  · by_cases h1 : l = [46]
    · exact .inr (.inl ⟨h0, h1, by subst h1; rfl⟩)
    · by_cases h2 : l = [46, 46]
      · exact .inr (.inr (.inl ⟨h0, h1, h2, by subst h2; rfl⟩))
      · exact .inr (.inr (.inr ⟨h0, h1, h2, by unfold wordB; rw [beq_eq_false_iff_ne.2 h0, beq_eq_false_iff_ne.2 h1, beq_eq_false_iff_ne.2 h2]; rfl⟩))
/-- Text i of a list. -/
def st (ws : List ByteArray) (i : Nat) : ByteArray := ws.getD i ByteArray.empty
/-- The slice's cells hold the texts ws. -/
def At1 (w : World) (b off : Nat) (ws : List ByteArray) : Prop := ∀ i, i < ws.length → w.cell? ⟨b, off + i, none⟩ = some (.string (st ws i))
def badAt (ws : List ByteArray) : Bool := ws.any fun s => !wordB s.data.toList
theorem any_none {ws : List ByteArray} {p : ByteArray → Bool} (h : ∀ i, i < ws.length → p (st ws i) = false) : ws.any p = false := by
  rw [List.any_eq_false]
  intro x hx
  obtain ⟨i, hi, rfl⟩ := List.getElem_of_mem hx
  have := h i hi
  unfold st at this
  rw [List.getD_eq_getElem?_getD, List.getElem?_eq_getElem hi] at this
  simpa using this
theorem any_some {ws : List ByteArray} {p : ByteArray → Bool} {i : Nat} (hi : i < ws.length) (h : p (st ws i) = true) : ws.any p = true := by
  rw [List.any_eq_true]
  unfold st at h
  rw [List.getD_eq_getElem?_getD, List.getElem?_eq_getElem hi] at h
  exact ⟨ws[i], List.getElem_mem hi, by simpa using h⟩
/-- What 'WayValid' says. -/
def wayB (l : List UInt8) : Bool := decide ((spl l).length ≤ 12) && (spl l).all wordB
theorem spl_word (l : List UInt8) : ∀ x ∈ spl l, x.length ≤ l.length := by
  induction l with
  | nil => intro x hx; simp [spl] at hx; subst hx; exact Nat.le_refl _
  | cons c cs ih =>
    intro x hx
    by_cases hc : c = 47
    · subst hc
      rw [spl_slash] at hx
      rcases List.mem_cons.1 hx with rfl | hx
      · simp
      · have := ih x hx; simp; omega
    · obtain ⟨h, t, e⟩ := spl_ne cs
      rw [spl_other hc e] at hx
      rw [e] at ih
      rcases List.mem_cons.1 hx with rfl | hx
      · have := ih h (List.mem_cons_self ..); simp; omega
      · have := ih x (List.mem_cons_of_mem _ hx); simp; omega
theorem badAt_spl {P : List ByteArray} {ls : List (List UInt8)} (h : P.map (·.data.toList) = ls) : badAt P = !(ls.all wordB) := by
  subst h
  unfold badAt
  rw [List.all_map, List.not_all_eq_any_not]; rfl
theorem size_list (s : ByteArray) : s.data.toList.length = s.size := Array.length_toList
/-- The library's variable holds some number. -/
def MaxL (w : World) : Prop := ∃ m, w.cell? ⟨Tryz.laysM147_ren.g 1, 0, none⟩ = some (.int .i64 m)
theorem maxL_of {w : World} (h : w.ShapedOpen Tryz.prog) : MaxL w := Tryz.laysM147.s1_3 w h
theorem MaxL.below {w w' : World} (h : MaxL w) (hb : Below w.heap.size w w') : MaxL w' := by
  obtain ⟨m, hm⟩ := h
  exact ⟨m, (hb.cell (block_lt_of_cell hm)).trans hm⟩
theorem splitN_of (s sep : ByteArray) (n : Nat) (w : World) (h : MaxL w) (hs : s.size < 4294967281) (h1 : 1 ≤ sep.size) (hn : 1 ≤ n) (hn63 : n ≤ 9223372036854775807) :
    Calls Tryz.prog 95 #[.string s, .string sep, .int .i64 n] w fun e w' =>
      e = .returned (.slice (some ⟨w.heap.size, 0, none⟩) (Lib.splitB sep 0 (min n (s.size + 1) - 1) s).length (min n (s.size + 1))) ∧ w' = w.alloc (.cells (Lib.cellsOf (Lib.splitB sep 0 (min n (s.size + 1) - 1) s) (min n (s.size + 1))) 9) :=
  let ⟨m, hm⟩ := h
  Any.strings_SplitN { Tryz.laysM147 with } Tryz.laysM147.i9 s sep n m w hs hm h1 hn hn63
end Go.Proofs.YtkennmpbmbacpaaGreatDoor

namespace Go.Proofs.YtkennmpbmbacpaaGreatDoor
open Go.RowKit

/-- The call's own slice v reads as the texts ws. -/
def OwnS (B : Nat) (w : World) (v : Value) (ws : List ByteArray) : Prop := w.ownsRow B 9 1 v ws.length (ws.map Value.string)
def mk (l : List UInt8) : ByteArray := ⟨l.toArray⟩
theorem infoStr : (Tryz.prog.info? 9).map (fun i => (i.zero, i.size, i.bytes)) = some (some (.string ByteArray.empty), 1, 16) := by kernel_rfl
theorem ownS_at {B : Nat} {w : World} {v : Value} {ws : List ByteArray} (h : OwnS B w v ws) (hl : 0 < ws.length) : ∃ g c, v = .slice (some ⟨g, 0, none⟩) ws.length c ∧ B ≤ g ∧ g < w.heap.size ∧ ws.length ≤ c ∧ c ≤ maxLen := by
  rcases h.2 with ⟨rfl, h'⟩ | ⟨g, c, cur, rfl, hB, hg, h1, h2, _⟩
  · omega
  · refine ⟨g, c, rfl, hB, ?_, h1, h2⟩
    rcases Nat.lt_or_ge g w.heap.size with h | h
    · exact h
    · rw [Array.getElem?_eq_none h] at hg; cases hg
theorem ownS_cell {B g c i : Nat} {w : World} {ws : List ByteArray} (h : OwnS B w (.slice (some ⟨g, 0, none⟩) ws.length c) ws) (hi : i < ws.length) : w.cell? ⟨g, i, none⟩ = some (.string (st ws i)) := by
  have hc := h.cellAt i (by omega)
  rw [hc, List.getElem?_map, List.getElem?_eq_getElem hi]
  unfold st
  rw [List.getD_eq_getElem?_getD, List.getElem?_eq_getElem hi]; rfl
theorem ownS_frozen {B g c i n : Nat} {w : World} {ws : List ByteArray} (hn : n = ws.length) (h : OwnS B w (.slice (some ⟨g, 0, none⟩) n c) ws) : w.frozen? ⟨g, i, none⟩ = false := by
  subst hn
  exact World.ownsRow.frozenAt h i
theorem set_last {α : Type} (y : α) : ∀ (xs : List α), xs ≠ [] → xs.set (xs.length - 1) y = xs.dropLast ++ [y]
  | [], h => absurd rfl h
  | [a], _ => rfl
  | a :: b :: t, _ => by
    have := set_last y (b :: t) (by simp)
    simp only [List.length_cons, Nat.add_sub_cancel] at this ⊢
    rw [List.set_cons_succ, this]; rfl
/-- The own list's last text gets one sign more. -/
theorem own_put {B g c : Nat} {w : World} {ls : List (List UInt8)} {b : UInt8} {x : ByteArray} (n : Nat) (hn : n = ls.length) (h : OwnS B w (.slice (some ⟨g, 0, none⟩) n c) (ls.map mk)) (hne : ls ≠ []) (hx : x = mk (ls.getLastD [] ++ [b])) :
    OwnS B (w.setCell ⟨g, n - 1, none⟩ (.string x)) (.slice (some ⟨g, 0, none⟩) n c) ((lastPut ls b).map mk) := by
  have hn' : n = (ls.map mk).length := by rw [List.length_map]; exact hn
  rw [hn'] at h ⊢
  have h1 := (World.ownsRow.stored h ((ls.map mk).length - 1) (.string x)).1
  have e : (((ls.map mk).map Value.string).set ((ls.map mk).length - 1) (.string x)) = ((lastPut ls b).map mk).map Value.string := by
    have := set_last (Value.string x) ((ls.map mk).map Value.string) (by simpa using hne)
    rw [List.length_map] at this
    rw [this, hx]
    unfold lastPut
    simp [List.map_dropLast]
  have el : ((lastPut ls b).map mk).length = (ls.map mk).length := by
    unfold lastPut
    have : 0 < ls.length := List.length_pos_iff.2 hne
    simp; omega
  unfold OwnS
  rw [el, ← e]
  exact h1
theorem wpList_appS1 {ops : Array Oper} {rest : List Oper} {o : Oper} {a : Act} {Q : Exit → Act → World → Prop} (W : World) (hgd : o.guard = none) (s x : Operand)
    (ho : o.op = .call { callee := .builtin .append, args := #[s, x], argTypes := #[42, 42] })
    (B : Nat) (v : Value) (ws : List ByteArray) (hs : a.eval s = v) (hown : OwnS B W v ws) (hl : ws.length ≤ 1048600) (hB : B ≤ W.heap.size) (g : Nat) (hx : a.eval x = .slice (some ⟨g, 0, none⟩) 1 1) (t : ByteArray)
    (c0 : W.cell? ⟨g, 0, none⟩ = some (.string t))
    (h : ∀ v' w', OwnS B w' v' (ws ++ [t]) → W.grownBy w' v.ownBlock → wpList Tryz.prog ops Q rest (a.put o.dst v') w') : wpList Tryz.prog ops Q (o :: rest) a W := by
  obtain ⟨i0, hi, hz0, hz1, hz2⟩ := info_parts infoStr
  refine wpList_append_own _ hgd s x 42 ho B 9 i0 _ 1 16 Tryz.underlying42 hi hz0 hz1 hz2 rfl (by decide) v ws.length _ hs hown ⟨g, 0, none⟩ 1 1 [.string t] hx rfl ?c1 ?c0 ?c2 ?c3 hB ?_
  case c0 => intro u hu; simp at hu; subst hu; rfl
  case c1 =>
    intro j u hj
    match j, hj with
    | 0, hj => simp at hj; subst hj; exact c0
  case c2 => unfold maxLen; omega
  case c3 => omega
  intro v' w' hown' hg _
  refine h v' w' ?_ hg
  unfold OwnS
  rw [List.length_append, List.map_append]
  exact hown'
theorem mk_list (x : ByteArray) : x = mk x.data.toList := by unfold mk; rw [Array.toArray_toList]
theorem lastD_mem : ∀ (ls : List (List UInt8)), ls ≠ [] → ls.getLastD [] ∈ ls
  | [], h => absurd rfl h
  | a :: l, _ => List.getLast_mem (by simp)
theorem mk_size (l : List UInt8) : (mk l).size = l.length := List.size_toArray
theorem put_sign (s : ByteArray) (l : List UInt8) (k : Nat) (h : k < s.size) : mk l ++ s.extract k (k + 1) = mk (l ++ [s[k]]) := by
  rw [mk_list (mk l ++ s.extract k (k + 1)), Go.Joins.data_append, Lib.extract_data]
  have e1 : (mk l).data.toList = l := by unfold mk; simp
  rw [e1, show k + 1 - k = 1 from by omega, List.drop_eq_getElem_cons (by rw [size_list]; exact h)]
  rfl
set_option maxRecDepth 100000 in
set_option maxHeartbeats 2000000 in
theorem words_of (s : ByteArray) (w : World) (hs : s.size ≤ 1048576) : Calls Tryz.prog 108 #[.string s] w fun e w' => ∃ v, e = .returned v ∧ OwnS w.heap.size w' v ((spl s.data.toList).map mk) ∧ Below w.heap.size w w' := by
  go_enter Tryz.func108, Tryz.ntmps108
  go_wp2
  go_loopw [3, 4] (fun o i wr => ∃ k : Nat, k ≤ s.size ∧ i = .int .i64 k ∧ OwnS w.heap.size wr o ((spl (s.data.toList.take k)).map mk) ∧ Below w.heap.size w wr) (fun _ i _ => s.size - (intOf i).toNat)
  case atStart => exact ⟨0, Nat.zero_le _, rfl, World.ownsRow_lit (size := 1) (e := 9) w #[.string ⟨#[]⟩] 1 (Nat.le_refl _) (by decide) rfl, (by (repeat (first | exact Below.refl _ _ | exact Hbl.out | refine Below.ext ?_ (by first | omega | (simp; omega) | simp) | refine Below.setCell ?_ (by first | omega | (simp; omega) | simp) _ | refine Below.alloc ?_ (by first | omega | (simp; omega) | simp) _ | refine Below.drew ?_ | refine below_drewN ?_ _ | refine Below.step (by assumption) (by first | omega | (simp; omega) | simp) ?_)))⟩
  case round =>
    obtain ⟨k, hk, rfl, hown, hbl⟩ := hrel
    by_cases hlt : k < s.size
    · have hlen := spl_len (s.data.toList.take k)
      rw [List.length_take] at hlen
      have hls : spl (s.data.toList.take k) ≠ [] := fun e => by rw [e] at hlen; simp at hlen
      have htk : s.data.toList.take (k + 1) = s.data.toList.take k ++ [s[k]] := by
        rw [List.take_succ_eq_append_getElem (by rw [size_list]; exact hlt)]; rfl
      have Htk := Lib.hid htk; clear htk
      generalize hls' : spl (s.data.toList.take k) = ls at hown hlen hls
      have Hls := Lib.hid hls'; clear hls'
      have hml : (ls.map mk).length = ls.length := List.length_map _
      obtain ⟨g, c, rfl, hg1, hg2, hc1, hc2⟩ := ownS_at hown (by omega)
      have hsz : w.heap.size ≤ wr.heap.size := hbl.size
      rw [hml] at hown hc1 ⊢
      have hl2 : ls.length ≤ 1048577 := by omega
      have hl1 : 1 ≤ ls.length := hlen.1
      have hlt' := hown.lt g rfl
      have Hown := Lib.hid hown
      have Hbl := Lib.hid hbl
      have Hne := Lib.hid hls
      clear hlen hls hbl
      have zk : IntKind.i64.wrap ((k : Int) + 1) = (k : Int) + 1 := IntWalk.i64_in _ (by omega)
      by_cases hc : s[k] = 47
      · have hc' : ((s[k].toNat : Int) == 47) = true := by rw [hc]; rfl
        have Hc := Lib.hid hc; clear hc hown
        go_wp2_with (at_builtin; refine wpList_appS1 _ rfl (.tmp 16) (.tmp 17) rfl w.heap.size _ (ls.map mk) rfl ?cO ?cL ?cB _ rfl ⟨#[]⟩ ?c0 ?_)
        case cO => exact World.ownsRow.alloc Hown.out _
        case cL => rw [hml]; omega
        case cB => simp; omega
        case c0 => simp [go_sem]
        intro v' w' o' hg'
        have hb' : Below w.heap.size w w' := Below.grown (Below.alloc Hbl.out hsz _) hg' (by simp; omega) (fun j hj => by cases hj; exact hg1)
        go_wp2
        go_roundw
        case rel => exact ⟨k + 1, by omega, by go_num, by rw [Htk.out, Hc.out, spl_snoc_slash, Hls.out, List.map_append]; exact o', hb'⟩
        case measure => simp [intOf]; omega
      · have hc' : ((s[k].toNat : Int) == 47) = false := by
          rw [beq_eq_false_iff_ne]; intro e
          exact hc (UInt8.toNat_inj.1 (by have : s[k].toNat = 47 := by omega
                                          rw [this]; rfl))
        have hst : st (ls.map mk) (ls.length - 1) = mk (ls.getLastD []) := by
          unfold st
          rw [List.getD_eq_getElem?_getD, List.getElem?_map, List.getLastD_eq_getLast?, List.getLast?_eq_getElem?, List.getElem?_eq_getElem (by omega)]; rfl
        have c0 : wr.cell? ⟨g, ls.length - 1, none⟩ = some (.string (mk (ls.getLastD []))) := by
          rw [← hst]; exact ownS_cell (by rw [hml]; exact hown) (by rw [hml]; omega)
        have y0 : wr.frozen? ⟨g, ls.length - 1, none⟩ = false := ownS_frozen hml.symm hown
        have z1 : IntKind.i64.wrap ((ls.length : Int) - 1) = (ls.length : Int) - 1 := IntWalk.i64_in _ (by omega)
        have z2 : (0 : Int) ≤ (ls.length : Int) - 1 := by omega
        have z3 : (ls.length : Int) - 1 < (ls.length : Int) := by omega
        have z4 : ((ls.length : Int) - 1).toNat = ls.length - 1 := by omega
        have z5 : (0 : Int) ≤ (k : Int) := by omega
        have z6 : (k : Int) + 1 ≤ (s.size : Int) := by omega
        have hx0 : (mk (ls.getLastD [])).size ≤ 1048576 := by
          have hm := lastD_mem ls Hne.out
          rw [← Hls.out] at hm
          have := spl_word _ _ hm
          rw [List.length_take, Hls.out] at this
          rw [mk_size]; omega
        have hx1 : (s.extract k (k + 1)).size ≤ 1048576 := by rw [ByteArray.size_extract]; omega
        have Hc := Lib.hid hc; clear hc hown hst
        generalize hx : mk (ls.getLastD []) = x0 at c0
        rw [hx] at hx0
        have hsum : x0.size + (s.extract k (k + 1)).size ≤ 9223372036854775807 := by omega
        have Hx := Lib.hid hx; clear hx hx0 hx1
        go_wp2
        go_region
        go_wp2
        go_roundw
        case rel => exact ⟨k + 1, by omega, by go_num, by
          rw [Htk.out, spl_snoc_other Hc.out, Hls.out]
          exact own_put ls.length rfl Hown.out Hne.out (by rw [← Hx.out]; exact put_sign s _ k hlt), (Hbl.out.setCell (by simpa using hg1) _).drew⟩
        case measure => simp [intOf]; omega
    · obtain rfl : k = s.size := by omega
      rw [List.take_of_length_le (by rw [size_list]; exact Nat.le_refl _)] at hown
      have Hown := Lib.hid hown; clear hown
      have Hbl := Lib.hid hbl; clear hbl
      go_wp2
      go_ret
      exact ⟨_, rfl, Hown.out, Hbl.out⟩
set_option maxRecDepth 100000 in
set_option maxHeartbeats 2000000 in
theorem wayValidS_of (s : ByteArray) (w : World) (hs : s.size ≤ 1048576) : Calls Tryz.prog 107 #[.string s] w fun e w' => e = .returned (.bool (wayB s.data.toList)) ∧ Below w.heap.size w w' := by
  have hlen := spl_len s.data.toList
  rw [size_list] at hlen
  have hword : ∀ x ∈ spl s.data.toList, x.length ≤ 1048576 := fun x hx => by have := spl_word _ x hx; rw [size_list] at this; omega
  go_enter Tryz.func107, Tryz.ntmps107
  go_wp2_with fail
  refine (words_of s w hs).mono ?_
  rintro e w1 ⟨v, rfl, own, b1⟩
  have hwv : wayB s.data.toList = (decide ((spl s.data.toList).length ≤ 12) && (spl s.data.toList).all wordB) := rfl
  generalize spl s.data.toList = ls at hlen hword own hwv
  have hml : (ls.map mk).length = ls.length := List.length_map _
  have hst : ∀ i, i < ls.length → st (ls.map mk) i = mk (ls.getD i []) := fun i hi => by
    unfold st
    rw [List.getD_eq_getElem?_getD, List.getElem?_map, List.getElem?_eq_getElem hi, List.getD_eq_getElem?_getD, List.getElem?_eq_getElem hi]; rfl
  obtain ⟨g, c, rfl, hg1, hg2, hc1, hc2⟩ := ownS_at own (by omega)
  rw [hml] at own hc1 ⊢
  have hcell : ∀ i, i < ls.length → w1.cell? ⟨g, i, none⟩ = some (.string (mk (ls.getD i []))) := fun i hi => by
    rw [← hst i hi]; exact ownS_cell (by rw [hml]; exact own) (by rw [hml]; exact hi)
  have Hcell := Lib.hid hcell
  have Hwv := Lib.hid hwv
  have Hword := Lib.hid hword
  have Hb := Lib.hid b1
  clear hcell hwv hword own hst b1
  go_wp2
  go_loopw [4] (fun i wr => ∃ k : Nat, k ≤ ls.length ∧ i = .int .i64 k ∧ (∀ j, j < k → wordB (ls.getD j []) = true) ∧ wr = w1) (fun i _ => ls.length - (intOf i).toNat)
  case atStart => exact ⟨0, Nat.zero_le _, rfl, fun j hj => absurd hj (by omega), rfl⟩
  case round =>
    obtain ⟨k, hk, rfl, hall, rfl⟩ := hrel
    have Hall := Lib.hid hall; clear hall
    by_cases hlt : k < ls.length
    · have c0 := Hcell.out k hlt
      have hsz : (mk (ls.getD k [])).size ≤ maxLen := by
        rw [mk_size, List.getD_eq_getElem?_getD, List.getElem?_eq_getElem hlt]
        have := Hword.out _ (List.getElem_mem hlt)
        simp only [Option.getD_some]
        unfold maxLen; omega
      have hcs := wordB_cases (ls.getD k [])
      have ht : (mk (ls.getD k [])).toList = ls.getD k [] := by rw [Lib.toList_data]; unfold mk; simp
      have ht2 : (mk (ls.getD k [])).data.toList = ls.getD k [] := by unfold mk; simp
      have hgo : wordB (ls.getD k []) = true → ∀ j, j < k + 1 → wordB (ls.getD j []) = true := fun h j hj => by
        by_cases e : j = k
        · subst e; exact h
        · exact Hall.out j (by omega)
      have hno : wordB (ls.getD k []) = false → wayB s.data.toList = false := fun h => by
        rw [Hwv.out]
        have : ls.all wordB = false := by
          rw [List.all_eq_false]
          refine ⟨ls.getD k [], ?_, by rw [h]; exact Bool.false_ne_true⟩
          rw [List.getD_eq_getElem?_getD, List.getElem?_eq_getElem hlt]; exact List.getElem_mem hlt
        rw [this, Bool.and_false]
      have Hgo := Lib.hid hgo; clear hgo
      have Hno := Lib.hid hno; clear hno
      generalize mk (ls.getD k []) = x at c0 hsz ht ht2
      rw [← ht] at hcs
      rw [← ht2] at ht
      have hf : x.toList.isEmpty = decide (x.toList = []) := by cases x.toList <;> simp
      have hf1 : (x.toList == [46]) = decide (x.toList = [46]) := by
        by_cases e : x.toList = [46]
        · rw [decide_eq_true e, e]; rfl
        · rw [decide_eq_false e, beq_eq_false_iff_ne.2 e]
      have hf2 : (x.toList == [46, 46]) = decide (x.toList = [46, 46]) := by
        by_cases e : x.toList = [46, 46]
        · rw [decide_eq_true e, e]; rfl
        · rw [decide_eq_false e, beq_eq_false_iff_ne.2 e]
      rcases hcs with ⟨h0, hv⟩ | ⟨h0, h1, hv⟩ | ⟨h0, h1, h2, hv⟩ | ⟨h0, h1, h2, hv⟩
      rotate_right
      · rw [decide_eq_false h0] at hf
        rw [decide_eq_false h1] at hf1
        rw [decide_eq_false h2] at hf2
        rw [ht] at hv
        cases hnm : nameB x.data.toList
        · rw [hnm, ht2] at hv
          have Hv := Lib.hid hv; clear hv ht ht2
          go_wp2_with (go_at_call 106; refine (nameValidS_any _ _ hsz).mono ?_; rintro e w' ⟨rfl, rfl⟩; simp only [hnm])
          go_ret
          exact ⟨by rw [Hno.out Hv.out]; rfl, Hb.out⟩
        · rw [hnm, ht2] at hv
          have Hv := Lib.hid hv; clear hv ht ht2
          go_wp2_with (go_at_call 106; refine (nameValidS_any _ _ hsz).mono ?_; rintro e w' ⟨rfl, rfl⟩; simp only [hnm])
          go_roundw
          case rel => exact ⟨k + 1, by omega, by go_num, Hgo.out Hv.out, by first | rfl | trivial⟩
          case measure => simp [intOf]; omega
      all_goals
        first | rw [decide_eq_true h0] at hf | rw [decide_eq_false h0] at hf
        first | rw [decide_eq_true h1] at hf1 | rw [decide_eq_false h1] at hf1 | skip
        first | rw [decide_eq_true h2] at hf2 | skip
        rw [ht, ht2] at hv
        have Hv := Lib.hid hv; clear hv ht ht2
        go_wp2
        go_roundw
        case rel => exact ⟨k + 1, by omega, by go_num, Hgo.out Hv.out, by first | rfl | trivial⟩
        case measure => simp [intOf]; omega
    · have hk' : k = ls.length := by omega
      subst hk'
      have hres : wayB s.data.toList = decide (ls.length ≤ 12) := by
        rw [Hwv.out]
        have : ls.all wordB = true := by
          rw [List.all_eq_true]
          intro x hx
          obtain ⟨i, hi, rfl⟩ := List.getElem_of_mem hx
          have := Hall.out i hi
          rw [List.getD_eq_getElem?_getD, List.getElem?_eq_getElem hi] at this
          simpa using this
        rw [this, Bool.and_true]
      have e12 : decide (ls.length ≤ 12) = decide ((ls.length : Int) ≤ 12) := decide_eq_decide.2 (by omega)
      rw [e12] at hres
      have Hres := Lib.hid hres; clear hres
      go_wp2
      go_ret
      exact ⟨by rw [Hres.out]; first | rfl | simp, Hb.out⟩
end Go.Proofs.YtkennmpbmbacpaaGreatDoor

namespace Go.Proofs.YtkennmpbmbacpaaGreatDoor
open Go.RowKit

/-- The text of words, each with the sign 47 ahead of it. -/
def joinL : List (List UInt8) → List UInt8
  | [] => []
  | x :: r => 47 :: (x ++ joinL r)
theorem join_spl (r : List UInt8) : joinL (spl r) = 47 :: r := by
  induction r with
  | nil => rfl
  | cons c cs ih =>
    by_cases hc : c = 47
    · subst hc; rw [spl_slash]; show 47 :: ([] ++ joinL (spl cs)) = _; rw [ih]; rfl
    · obtain ⟨h, t, e⟩ := spl_ne cs
      rw [e] at ih
      rw [spl_other hc e]
      have ih' : 47 :: (h ++ joinL t) = 47 :: cs := ih
      show 47 :: (c :: h ++ joinL t) = _
      rw [List.cons_append, (List.cons.inj ih').2]
/-- The words are names, and not too many. -/
def namesB (ws : List (List UInt8)) : Bool := decide (ws.length ≤ 6) && ws.all nameB
/-- What 'JoinPath' gives. -/
def joinP (ws : List (List UInt8)) : List UInt8 := if namesB ws = true then (if ws = [] then [47] else joinL ws) else []
theorem joinP_nil : joinP [] = [47] := rfl
theorem joinP_no {ws : List (List UInt8)} (h : namesB ws = false) : joinP ws = [] := by unfold joinP; rw [h]; rfl
theorem joinP_yes {ws : List (List UInt8)} (h : namesB ws = true) (hne : ws ≠ []) : joinP ws = joinL ws := by unfold joinP; rw [if_pos h, if_neg hne]
/-- A text is a path; its names. -/
def okP : List UInt8 → Bool
  | [] => false
  | c :: r => decide (c = 47) && (r == [] || namesB (spl r))
def partsP : List UInt8 → List (List UInt8)
  | [] => []
  | c :: r => if okP (c :: r) = true then (if r = [] then [] else spl r) else []
theorem okP_slash (r : List UInt8) : okP (47 :: r) = (r == [] || namesB (spl r)) := by unfold okP; rfl
theorem okP_other {c : UInt8} {r : List UInt8} (h : c ≠ 47) : okP (c :: r) = false := by
  show (decide (c = 47) && (r == [] || namesB (spl r))) = false
  rw [decide_eq_false h, Bool.false_and]
theorem partsP_no {l : List UInt8} (h : okP l = false) : partsP l = [] := by
  cases l with
  | nil => rfl
  | cons c r =>
    show (if okP (c :: r) = true then (if r = [] then [] else spl r) else []) = []
    rw [h]; rfl
theorem partsP_root : okP [47] = true ∧ partsP [47] = [] := ⟨rfl, rfl⟩
theorem partsP_yes {r : List UInt8} (hr : r ≠ []) (h : namesB (spl r) = true) : okP (47 :: r) = true ∧ partsP (47 :: r) = spl r := by
  have h0 : okP (47 :: r) = true := by rw [okP_slash, h, Bool.or_true]
  refine ⟨h0, ?_⟩
  show (if okP (47 :: r) = true then (if r = [] then [] else spl r) else []) = spl r
  rw [if_pos h0, if_neg hr]
theorem okP_bad {r : List UInt8} (hr : r ≠ []) (h : namesB (spl r) = false) : okP (47 :: r) = false := by
  rw [okP_slash, h, beq_eq_false_iff_ne.2 hr]; rfl
theorem spl_not_nil (r : List UInt8) : spl r ≠ [] := by obtain ⟨h, t, e⟩ := spl_ne r; rw [e]; exact fun h => by cases h
/-- A path is what its words are joined to. -/
theorem joinP_spl (r : List UInt8) : joinP (spl r) = if namesB (spl r) = true then 47 :: r else [] := by
  unfold joinP
  rw [if_neg (spl_not_nil r), join_spl]
/-- Joined words begin with 47, or nothing is left. -/
theorem joinP_head (ws : List (List UInt8)) : joinP ws = [] ∨ ∃ t, joinP ws = 47 :: t := by
  unfold joinP
  split
  · split
    · exact .inr ⟨[], rfl⟩
    · next h => cases ws with
      | nil => exact absurd rfl h
      | cons x r => exact .inr ⟨_, rfl⟩
  · exact .inl rfl
theorem nameB_size {l : List UInt8} (h : nameB l = true) : l.length ≤ 8 := by
  unfold nameB at h
  simp only [Bool.and_eq_true] at h
  have := h.2
  simp only [inB, Bool.and_eq_true, decide_eq_true_eq] at this
  omega
theorem joinL_size : ∀ {ws : List (List UInt8)}, ws.all nameB = true → (joinL ws).length ≤ 9 * ws.length
  | [], _ => Nat.le_refl _
  | x :: r, h => by
    rw [List.all_cons, Bool.and_eq_true] at h
    have h1 := nameB_size h.1
    have h2 := joinL_size h.2
    simp only [joinL, List.length_cons, List.length_append]; omega
theorem joinTail_eq (r : List (List UInt8)) : Lib.joinTail [47] r = joinL r := by
  induction r with
  | nil => rfl
  | cons x t ih =>
    show ([47] ++ x) ++ Lib.joinTail [47] t = _
    rw [ih]; rfl
theorem join_lib (ws : List (List UInt8)) (h : ws ≠ []) : 47 :: Lib.join ws [47] = joinL ws := by
  cases ws with
  | nil => exact absurd rfl h
  | cons x r => rw [Lib.join_cons, joinTail_eq]; rfl
theorem joinL_snoc (ws : List (List UInt8)) (x : List UInt8) : joinL (ws ++ [x]) = joinL ws ++ (47 :: x) := by
  induction ws with
  | nil => simp [joinL]
  | cons a r ih => simp [joinL, ih]
/-- strings.SplitN(rest, "/", 7): the words, if there are at most 6, else 7 pieces. -/
theorem split7 (l : List UInt8) : ((spl l).length ≤ 6 ∧ Lib.splitK [47] 0 (min 7 (l.length + 1) - 1) l = spl l) ∨ (6 < (spl l).length ∧ (Lib.splitK [47] 0 (min 7 (l.length + 1) - 1) l).length = 7) := by
  have hl := spl_len l
  by_cases h : (spl l).length ≤ 6
  · exact .inl ⟨h, splitK_whole _ _ (by omega)⟩
  · refine .inr ⟨by omega, ?_⟩
    have hk : min 7 (l.length + 1) - 1 = 6 := by omega
    rw [hk]
    by_cases h2 : (spl l).length = 7
    · rw [splitK_whole 6 l (by omega)]; exact h2
    · exact splitK_long 6 l (by omega)
end Go.Proofs.YtkennmpbmbacpaaGreatDoor

namespace Go.Proofs.YtkennmpbmbacpaaGreatDoor
open Go.RowKit

/-- The slice v reads as the texts ws. -/
def SlS (w : World) (v : Value) (ws : List ByteArray) : Prop :=
  ∃ A cap, v = .slice A ws.length cap ∧ ws.length ≤ cap ∧ cap ≤ maxLen ∧ (ws = [] ∨ ∃ b off, A = some ⟨b, off, none⟩ ∧ b < w.heap.size ∧ At1 w b off ws)
theorem At1.below {w w' : World} {b off : Nat} {ws : List ByteArray} (h : At1 w b off ws) (hb : b < w.heap.size) (h' : Below w.heap.size w w') : At1 w' b off ws := fun i hi => (h'.cell (p := ⟨b, _, none⟩) hb).trans (h i hi)
theorem SlS.below {w w' : World} {v : Value} {ws : List ByteArray} (h : SlS w v ws) (h' : Below w.heap.size w w') : SlS w' v ws := by
  obtain ⟨A, cap, h1, h2, h3, h4⟩ := h
  exact ⟨A, cap, h1, h2, h3, h4.imp id fun ⟨b, off, e, hb, hc⟩ => ⟨b, off, e, Nat.lt_of_lt_of_le hb h'.size, hc.below hb h'⟩⟩
theorem ownS_sl {B : Nat} {w : World} {v : Value} {ws : List ByteArray} (h : OwnS B w v ws) : SlS w v ws := by
  by_cases hl : 0 < ws.length
  · obtain ⟨g, c, rfl, h1, h2, h3, h4⟩ := ownS_at h hl
    exact ⟨_, c, rfl, h3, h4, .inr ⟨g, 0, rfl, h2, fun i hi => by rw [Nat.zero_add]; exact ownS_cell h hi⟩⟩
  · have hw : ws = [] := List.length_eq_zero_iff.1 (by omega)
    subst hw
    rcases h.2 with ⟨rfl, _⟩ | ⟨g, c, cur, rfl, _, _, h1, h2, _⟩
    · exact ⟨none, 0, rfl, Nat.le_refl _, by decide, .inl rfl⟩
    · exact ⟨_, c, rfl, h1, h2, .inl rfl⟩
theorem ownS_ext {B d : Nat} {os : Array Obj} {w : World} {v : Value} {ws : List ByteArray} (h : OwnS B w v ws) : OwnS B (ext w d os) v ws := by
  refine ⟨h.1, ?_⟩
  rcases h.2 with h' | ⟨g, cap, cur, h1, h2, h3, h4⟩
  · exact .inl h'
  · refine .inr ⟨g, cap, cur, h1, h2, ?_, h4⟩
    have hg : g < w.heap.size := by
      rcases Nat.lt_or_ge g w.heap.size with hlt | hge
      · exact hlt
      · rw [Array.getElem?_eq_none hge] at h3; cases h3
    rw [ext_get hg]; exact h3
theorem ownS_below {B : Nat} {w w' : World} {v : Value} {ws : List ByteArray} (h : OwnS B w v ws) (hb : Below w.heap.size w w') : OwnS B w' v ws := by
  obtain ⟨d, os, rfl⟩ := ext_of_below hb
  exact ownS_ext h
theorem ownS_mono {B B' : Nat} {w : World} {v : Value} {ws : List ByteArray} (h : OwnS B w v ws) (hB : B' ≤ B) : OwnS B' w v ws :=
  ⟨h.1, h.2.imp id fun ⟨g, c, cur, e1, e2, e3⟩ => ⟨g, c, cur, e1, Nat.le_trans hB e2, e3⟩⟩
theorem mk_data (l : List UInt8) : (mk l).data.toList = l := by unfold mk; simp
theorem mk_toList (l : List UInt8) : (mk l).toList = l := by rw [Lib.toList_data, mk_data]
theorem map_mk_data (ls : List (List UInt8)) : (ls.map mk).map (·.data.toList) = ls := by
  rw [List.map_map]
  conv => rhs; rw [← List.map_id ls]
  exact List.map_congr_left fun x _ => mk_data x
theorem map_data_mk (P : List ByteArray) : (P.map (·.data.toList)).map mk = P := by
  rw [List.map_map]
  conv => rhs; rw [← List.map_id P]
  exact List.map_congr_left fun x _ => (mk_list x).symm
theorem cat_mk (a b : List UInt8) : mk a ++ mk b = mk (a ++ b) := by
  rw [mk_list (mk a ++ mk b), Go.Joins.data_append, mk_data, mk_data]
/-- Some text is no name. -/
def noName (ws : List ByteArray) : Bool := ws.any fun s => !nameB s.data.toList
theorem notName_any (s : ByteArray) (w : World) (hs : s.size ≤ maxLen) : Calls Tryz.prog 110 #[.string s] w fun e w' => e = .returned (.bool (!nameB s.data.toList)) ∧ w = w' := by
  go_enter Tryz.func110, Tryz.ntmps110
  go_wp2_with (go_at_call 51; refine (nameValid_any _ _ hs).mono ?_; rintro e w' ⟨rfl, rfl⟩)
  go_ret
  exact ⟨rfl, rfl⟩
set_option maxRecDepth 100000 in
set_option maxHeartbeats 1000000 in
theorem indexNo (A : Option Addr) (cap : Nat) (ws : List ByteArray) (w : World) (hc : cap ≤ maxLen) (hn : ws.length ≤ cap) (hsz : ∀ i, i < ws.length → (st ws i).size ≤ maxLen) (h : ws = [] ∨ ∃ b off, A = some ⟨b, off, none⟩ ∧ b < w.heap.size ∧ At1 w b off ws) :
    Calls Tryz.prog 126 #[.slice A ws.length cap, .func (.func 110) #[] #[]] w fun e w' => (∃ r, e = .returned (.int .i64 r) ∧ decide (0 ≤ r) = noName ws) ∧ w = w' := by
  unfold maxLen at hc
  have H := Lib.hid h; clear h
  have Hs := Lib.hid hsz; clear hsz
  go_enter Tryz.func126, Tryz.ntmps126
  go_wp2
  go_loop [8, 5] (fun i _ => ∃ k : Nat, k ≤ ws.length ∧ i = .int .i64 k ∧ ∀ j, j < k → (!nameB (st ws j).data.toList) = false) (fun i _ => ws.length - (intOf i).toNat)
  case atStart => exact ⟨0, Nat.zero_le _, rfl, fun j hj => absurd hj (by omega)⟩
  case round =>
    obtain ⟨k, hk, rfl, hall⟩ := hrel
    have Hall := Lib.hid hall; clear hall
    by_cases hlt : k < ws.length
    · obtain ⟨b, off, rfl, hb, hat⟩ := H.out.resolve_left (fun e => by subst e; simp at hlt)
      have c0 := hat k hlt
      have s0 := Hs.out k hlt
      clear hat
      rcases Bool.eq_false_or_eq_true (nameB (st ws k).data.toList) with hw | hw
      · have Hw := Lib.hid hw
        go_wp2_with (go_at_call 110; refine (notName_any _ _ s0).mono ?_; rintro e w' ⟨rfl, rfl⟩)
        go_round
        case rel => exact ⟨k + 1, by omega, by go_num, fun j hj => by
          by_cases e : j = k
          · subst e; rw [Hw.out]; rfl
          · exact Hall.out j (by omega)⟩
        case measure => simp [intOf]; omega
      · have hb : noName ws = true := any_some (p := fun s => !nameB s.data.toList) hlt (by rw [hw]; rfl)
        have Hb := Lib.hid hb; clear hb
        go_wp2_with (go_at_call 110; refine (notName_any _ _ s0).mono ?_; rintro e w' ⟨rfl, rfl⟩)
        go_ret
        exact ⟨⟨_, rfl, by rw [Hb.out]; simp⟩, rfl⟩
    · have hk' : k = ws.length := by omega
      subst hk'
      have hb : noName ws = false := any_none (p := fun s => !nameB s.data.toList) (fun i hi => Hall.out i hi)
      have Hb := Lib.hid hb; clear hb
      go_wp2
      go_ret
      exact ⟨⟨_, rfl, by rw [Hb.out]; rfl⟩, rfl⟩
theorem containsNo (A : Option Addr) (cap : Nat) (ws : List ByteArray) (w : World) (hc : cap ≤ maxLen) (hn : ws.length ≤ cap) (hsz : ∀ i, i < ws.length → (st ws i).size ≤ maxLen) (h : ws = [] ∨ ∃ b off, A = some ⟨b, off, none⟩ ∧ b < w.heap.size ∧ At1 w b off ws) :
    Calls Tryz.prog 109 #[.slice A ws.length cap, .func (.func 110) #[] #[]] w fun e w' => e = .returned (.bool (noName ws)) ∧ w = w' := by
  go_enter Tryz.func109, Tryz.ntmps109
  go_wp2_with fail
  refine (indexNo A cap ws w hc hn hsz h).mono ?_
  rintro e w' ⟨⟨r, rfl, hr⟩, rfl⟩
  have Hr := Lib.hid hr; clear hr
  go_wp2
  go_ret
  exact ⟨by rw [← Hr.out]; rfl, rfl⟩
theorem noName_spl (ls : List (List UInt8)) : noName (ls.map mk) = !(ls.all nameB) := by
  have h := map_mk_data ls
  generalize ls.map mk = P at h
  subst h
  unfold noName
  rw [List.all_map, List.not_all_eq_any_not]; rfl
theorem st_mk {ls : List (List UInt8)} {i : Nat} (hi : i < ls.length) : st (ls.map mk) i = mk (ls.getD i []) := by
  unfold st
  rw [List.getD_eq_getElem?_getD, List.getElem?_map, List.getElem?_eq_getElem hi, List.getD_eq_getElem?_getD, List.getElem?_eq_getElem hi]; rfl
set_option maxRecDepth 100000 in
set_option maxHeartbeats 1000000 in
theorem joinI_of (v : Value) (ls : List (List UInt8)) (w : World) (h : SlS w v (ls.map mk)) (hsz : ∀ x ∈ ls, x.length ≤ 1048576) : Calls Tryz.prog 77 #[v] w fun e w' => e = .returned (.string (mk (joinP ls))) ∧ Below w.heap.size w w' := by
  obtain ⟨A, cap, rfl, h1, h2, h3⟩ := h
  have hml : (ls.map mk).length = ls.length := List.length_map _
  have hsz' : ∀ i, i < (ls.map mk).length → (st (ls.map mk) i).size ≤ maxLen := fun i hi => by
    rw [hml] at hi
    rw [st_mk hi, mk_size, List.getD_eq_getElem?_getD, List.getElem?_eq_getElem hi]
    have := hsz _ (List.getElem_mem hi)
    simp only [Option.getD_some]
    unfold maxLen; omega
  have hc2 := h2
  unfold maxLen at h2
  by_cases h6 : 6 < ls.length
  · have hr : joinP ls = [] := joinP_no (by unfold namesB; rw [decide_eq_false (by omega), Bool.false_and])
    have Hr := Lib.hid hr; clear hr
    rw [hml]
    go_enter Tryz.func77, Tryz.ntmps77
    go_wp2
    go_ret
    exact ⟨by rw [Hr.out]; rfl, Below.refl _ _⟩
  · have hno := noName_spl ls
    cases hall : ls.all nameB
    · have hr : joinP ls = [] := joinP_no (by unfold namesB; rw [hall, Bool.and_false])
      have Hr := Lib.hid hr; clear hr
      rw [hall] at hno
      have H3 := Lib.hid h3; clear h3
      go_enter Tryz.func77, Tryz.ntmps77
      go_wp2_with fail
      rw [← hml]
      refine (containsNo A cap _ w hc2 h1 hsz' H3.out).mono ?_
      rintro e w' ⟨rfl, rfl⟩
      rw [hno]
      go_wp2
      go_ret
      exact ⟨by rw [Hr.out]; rfl, Below.refl _ _⟩
    · rw [hall] at hno
      have hn : namesB ls = true := by unfold namesB; rw [hall, decide_eq_true (by omega)]; rfl
      have hjs := joinL_size hall
      by_cases hne : ls = []
      · subst hne
        have H3 := Lib.hid h3; clear h3
        go_enter Tryz.func77, Tryz.ntmps77
        go_wp2_with fail
        refine (containsNo A cap ([].map mk) w hc2 h1 hsz' H3.out).mono ?_
        rintro e w' ⟨rfl, rfl⟩
        rw [hno]
        go_wp2_with fail
        refine (Tryz.strings_Join_none _ _ _ _).mono ?_
        rintro e w' ⟨rfl, rfl⟩
        have hsum : (ByteArray.mk #[47]).size + (ByteArray.mk #[]).size ≤ 9223372036854775807 := by decide
        go_wp2
        go_ret
        exact ⟨rfl, Below.refl _ _⟩
      · have hlp : 0 < ls.length := List.length_pos_iff.2 hne
        obtain ⟨b, off, rfl, hb, hat⟩ := h3.resolve_left (fun e => hne (List.map_eq_nil_iff.1 e))
        have hjl := join_lib ls hne
        have hr : joinP ls = joinL ls := joinP_yes hn hne
        have Hat := Lib.hid hat
        have h3' : (ls.map mk) = [] ∨ ∃ b' off', some (⟨b, off, none⟩ : Addr) = some ⟨b', off', none⟩ ∧ b' < w.heap.size ∧ At1 w b' off' (ls.map mk) := .inr ⟨b, off, rfl, hb, hat⟩
        have H3 := Lib.hid h3'
        have hcells : ∀ (j : Nat) x, (ls.map mk)[j]? = some x → w.cell? ⟨b, off + j, none⟩ = some (.string x) := fun j x hx => by
          have hj : j < (ls.map mk).length := (List.getElem?_eq_some_iff.1 hx).1
          rw [Hat.out j hj]
          unfold st
          rw [List.getD_eq_getElem?_getD, hx]; rfl
        have hjle : (Lib.join ((ls.map mk).map (·.data.toList)) (mk [47]).data.toList).length ≤ 140737488355328 := by
          rw [map_mk_data, mk_data]
          have : (Lib.join ls [47]).length + 1 = (joinL ls).length := by rw [← hjl]; rfl
          omega
        have hcat : (⟨#[47]⟩ : ByteArray) ++ mk (Lib.join ls [47]) = mk (joinP ls) := by
          rw [show (⟨#[47]⟩ : ByteArray) = mk [47] from rfl, cat_mk, hr, ← hjl]; rfl
        have hsum : (ByteArray.mk #[47]).size + (mk (Lib.join ls [47])).size ≤ 9223372036854775807 := by
          rw [mk_size, show (ByteArray.mk #[47]).size = 1 from rfl]
          have : (Lib.join ls [47]).length + 1 = (joinL ls).length := by rw [← hjl]; rfl
          omega
        have hcon := Tryz.strings_Join b off cap (ls.map mk) ⟨#[47]⟩ w hcells hb (by rw [hml]; omega) h1 hjle
        rw [map_mk_data] at hcon
        have hcon' : Calls Tryz.prog 111 #[.slice (some ⟨b, off, none⟩) (ls.map mk).length cap, .string ⟨#[47]⟩] w fun e w' => e = .returned (.string (mk (Lib.join ls [47]))) ∧ Below w.heap.size w w' := hcon
        clear hcells hjle hjl hat h3 h3' hcon Hat
        generalize mk (Lib.join ls [47]) = J at hcat hsum hcon'
        have Hcat := Lib.hid hcat; clear hcat
        have Hcon := Lib.hid hcon'; clear hcon'
        go_enter Tryz.func77, Tryz.ntmps77
        go_wp2_with fail
        rw [← hml]
        refine (containsNo _ cap _ w hc2 h1 hsz' H3.out).mono ?_
        rintro e w' ⟨rfl, rfl⟩
        rw [hno]
        go_wp2_with fail
        rw [← hml]
        refine Hcon.out.mono ?_
        rintro e w' ⟨rfl, b2⟩
        go_wp2
        go_ret
        exact ⟨by rw [← Hcat.out]; rfl, b2⟩
/-- What 'PathParts' hands back: the names, in a slice of the call's own. -/
def Parts (w : World) (l : List UInt8) (e : Ending) (w' : World) : Prop := ∃ v, e = .returned (.tuple #[v, .bool (okP l)]) ∧ OwnS w.heap.size w' v ((partsP l).map mk) ∧ Below w.heap.size w w'
theorem split_own (w : World) (P : List ByteArray) (N : Nat) (h : P.length ≤ N) (hN : N ≤ 2000000) : OwnS w.heap.size (w.alloc (.cells (Lib.cellsOf P N) 9)) (.slice (some ⟨w.heap.size, 0, none⟩) P.length N) P := by
  refine ⟨by simp, .inr ⟨w.heap.size, N, Lib.cellsOf P N, rfl, Nat.le_refl _, heap_alloc_new w _, h, by unfold maxLen; omega, by rw [Lib.cellsOf_size h]; omega, ?_⟩⟩
  unfold Lib.cellsOf
  rw [Nat.mul_one, List.take_append_of_le_length (by simp), List.take_of_length_le (by simp)]
theorem word_sizes {P : List ByteArray} {l : List UInt8} (hp : ∀ x ∈ P, x.size ≤ l.length) : ∀ x ∈ P.map (·.data.toList), x.length ≤ l.length := fun x hx => by
  obtain ⟨y, hy, rfl⟩ := List.mem_map.1 hx
  rw [size_list]; exact hp y hy
theorem splitB_sizes (sep : ByteArray) : ∀ (k : Nat) (s : ByteArray), ∀ x ∈ Lib.splitB sep 0 k s, x.size ≤ s.size
  | 0, s, x, hx => by rw [Lib.splitB_zero] at hx; rw [List.mem_singleton.1 hx]; exact Nat.le_refl _
  | k + 1, s, x, hx => by
    unfold Lib.splitB at hx
    split at hx
    · rw [List.mem_singleton.1 hx]; exact Nat.le_refl _
    · rcases List.mem_cons.1 hx with rfl | hx
      · rw [ByteArray.size_extract]; omega
      · have := splitB_sizes sep k _ x hx
        rw [ByteArray.size_extract] at this; omega
end Go.Proofs.YtkennmpbmbacpaaGreatDoor

namespace Go.Proofs.YtkennmpbmbacpaaGreatDoor
open Go.RowKit

theorem cut_slash (r : List UInt8) : Lib.trimPrefix (47 :: r) [47] = r ∧ Lib.hasPrefix (47 :: r) [47] = true := by
  have h : Lib.hasPrefix (47 :: r) [47] = true := by simp [Lib.hasPrefix, List.isPrefixOf]
  exact ⟨by unfold Lib.trimPrefix; rw [if_pos h]; rfl, h⟩
theorem cut_other {l : List UInt8} (h : ∀ r, l ≠ 47 :: r) : Lib.trimPrefix l [47] = l ∧ Lib.hasPrefix l [47] = false := by
  have h0 : Lib.hasPrefix l [47] = false := by
    cases l with
    | nil => rfl
    | cons c r =>
      have hc : c ≠ 47 := fun e => h r (by rw [e])
      simp only [Lib.hasPrefix, List.isPrefixOf, Bool.and_true]
      exact beq_eq_false_iff_ne.2 (fun e => hc e.symm)
  exact ⟨by unfold Lib.trimPrefix; rw [h0]; rfl, h0⟩
theorem own_none (B : Nat) (w : World) : OwnS B w (.slice none 0 0) (([] : List (List UInt8)).map mk) := World.ownsRow_nil w B 9 1
theorem own_empty {B : Nat} (W : World) (hB : B ≤ W.heap.size) : OwnS B (W.alloc (.cells #[] 9)) (.slice (some ⟨W.heap.size, 0, none⟩) 0 0) (([] : List (List UInt8)).map mk) := World.ownsRow_made W #[] 0 hB (by decide) rfl
theorem mkeq {x : ByteArray} {l : List UInt8} (h : x.toList = l) : x.data.toList = l ∧ x.size = l.length := by
  rw [Lib.toList_data] at h
  exact ⟨h, by rw [← size_list, h]⟩
theorem split7_of (x : ByteArray) (W : World) (h : MaxL W) (hs : x.size ≤ 1048576) : ∃ (P : List ByteArray) (N : Nat), P.length ≤ N ∧ N ≤ 7 ∧ P.map (·.data.toList) = Lib.splitK [47] 0 (min 7 (x.size + 1) - 1) x.data.toList ∧ (∀ y ∈ P, y.size ≤ x.size) ∧
    Calls Tryz.prog 95 #[.string x, .string ⟨#[47]⟩, .int .i64 7] W fun e w' => e = .returned (.slice (some ⟨W.heap.size, 0, none⟩) P.length N) ∧ w' = W.alloc (.cells (Lib.cellsOf P N) 9) := by
  have hple := Lib.splitB_length_le ⟨#[47]⟩ 0 (min 7 (x.size + 1) - 1) x
  exact ⟨Lib.splitB ⟨#[47]⟩ 0 (min 7 (x.size + 1) - 1) x, min 7 (x.size + 1), by omega, by omega, Lib.splitB_data ⟨#[47]⟩ 0 (min 7 (x.size + 1) - 1) x, splitB_sizes ⟨#[47]⟩ (min 7 (x.size + 1) - 1) x, splitN_of x ⟨#[47]⟩ 7 W h (by omega) (by decide) (by decide) (by decide)⟩
set_option maxRecDepth 100000 in
set_option maxHeartbeats 2000000 in
theorem partsI_slash (S : ByteArray) (r : List UInt8) (hS : S.toList = 47 :: r) (w : World) (hm : MaxL w) (hs : r.length ≤ 1048576) : Calls Tryz.prog 52 #[.string S] w (Parts w (47 :: r)) := by
  have hcut := Tryz.strings_CutPrefix S ⟨#[47]⟩ w
  rw [(mkeq hS).1, show (ByteArray.mk #[47]).data.toList = [47] from rfl, (cut_slash r).1, (cut_slash r).2] at hcut
  have hx : (mk r).toList = r := mk_toList r
  have hcut' : Calls Tryz.prog 94 #[.string S, .string ⟨#[47]⟩] w fun e w' => e = .returned (.tuple #[.string (mk r), .bool true]) ∧ w' = w := hcut
  clear hcut
  generalize mk r = x at hx hcut'
  have Hcut := Lib.hid hcut'; clear hcut'
  by_cases hr : r = []
  · subst hr
    have hj := joinI_of (.slice (some ⟨w.heap.size, 0, none⟩) 0 0) [] (w.alloc (.cells #[] 9)) (ownS_sl (own_empty (B := w.heap.size) w (Nat.le_refl _))) (by intro x hx; cases hx)
    have hy : (mk (joinP [])).toList = S.toList := by rw [mk_toList, hS]; rfl
    generalize mk (joinP []) = y at hj hy
    have Hj := Lib.hid hj; clear hj hS
    go_enter Tryz.func52, Tryz.ntmps52
    go_wp2_with fail
    refine Hcut.out.mono ?_
    rintro e w' ⟨rfl, rfl⟩
    go_wp2_with fail
    refine Hj.out.mono ?_
    rintro e w2 ⟨rfl, b2⟩
    go_wp2
    refine bodyPost_ret (v := .tuple #[.slice (some ⟨w'.heap.size, 0, none⟩) 0 0, .bool true]) ?_ rfl ⟨_, rfl, ?_, ?_⟩
    · simp [results, Tryz.results52, go_sem]
    · exact ownS_below (own_empty (B := w'.heap.size) w' (Nat.le_refl _)) b2
    · exact Below.step b2 (Below.alloc (Below.refl _ _) (Nat.le_refl _) _).size (Below.alloc (Below.refl _ _) (Nat.le_refl _) _)
  · have hne : ¬ x.toList = [] := by rw [hx]; exact hr
    have f0 : x.toList.isEmpty = false := by rw [Bool.eq_false_iff]; intro h; exact hne (List.isEmpty_iff.1 h)
    have hxs := (mkeq hx).2
    have h7 := split7 r
    have b0 : Below w.heap.size w (w.alloc (.cells #[] 9)) := Below.alloc (Below.refl _ _) (Nat.le_refl _) _
    obtain ⟨P, N, hPN, hN, hd, hsz, hsp⟩ := split7_of x (w.alloc (.cells #[] 9)) (hm.below b0) (by omega)
    rw [(mkeq hx).1, hxs] at hd
    have hown := split_own (w.alloc (.cells #[] 9)) P N hPN (by omega)
    rw [show (w.alloc (.cells #[] 9)).heap.size = w.heap.size + 1 from by simp] at hown
    have hP : P = (P.map (·.data.toList)).map mk := (map_data_mk P).symm
    have hls : ∀ y ∈ P.map (·.data.toList), y.length ≤ 1048576 := fun y hy => by
      have := word_sizes (l := r) (fun z hz => by have := hsz z hz; omega) y hy
      omega
    have hj := joinI_of _ (P.map (·.data.toList)) _ (by rw [← hP]; exact ownS_sl hown) hls
    have hres : ((mk (joinP (P.map (·.data.toList)))).toList = S.toList ∧ okP (47 :: r) = true ∧ (partsP (47 :: r)).map mk = P) ∨ (¬ (mk (joinP (P.map (·.data.toList)))).toList = S.toList ∧ okP (47 :: r) = false) := by
      rw [mk_toList, hS]
      rcases h7 with ⟨a1, a2⟩ | ⟨a1, a2⟩
      · rw [a2] at hd
        rw [hd, joinP_spl]
        cases hn : namesB (spl r)
        · exact .inr ⟨by simp, okP_bad hr hn⟩
        · obtain ⟨k1, k2⟩ := partsP_yes hr hn
          exact .inl ⟨rfl, k1, by rw [k2, ← hd]; exact map_data_mk P⟩
      · have hl7 : (P.map (·.data.toList)).length = 7 := by rw [hd]; exact a2
        have hn7 : namesB (P.map (·.data.toList)) = false := by unfold namesB; rw [decide_eq_false (by omega), Bool.false_and]
        refine .inr ⟨by rw [joinP_no hn7]; simp, okP_bad hr (by unfold namesB; rw [decide_eq_false (by omega), Bool.false_and])⟩
    generalize mk (joinP (P.map (·.data.toList))) = y at hj hres
    have Hj := Lib.hid hj
    have Hsp := Lib.hid hsp
    have Hown := Lib.hid hown
    clear hj hsp hown hd hsz hP hls h7 hS hx
    rcases hres with ⟨e1, e2, e3⟩ | ⟨e1, e2⟩
    · have E2 := Lib.hid e2
      have E3 := Lib.hid e3
      clear e2 e3
      go_enter Tryz.func52, Tryz.ntmps52
      go_wp2_with fail
      refine Hcut.out.mono ?_
      rintro e w' ⟨rfl, rfl⟩
      go_wp2_with fail
      refine Hsp.out.mono ?_
      rintro e w1 ⟨rfl, rfl⟩
      go_wp2_with fail
      refine Hj.out.mono ?_
      rintro e w2 ⟨rfl, b2⟩
      go_wp2
      refine bodyPost_ret (v := .tuple #[.slice (some ⟨w'.heap.size + 1, 0, none⟩) P.length N, .bool true]) ?_ rfl ⟨_, by rw [E2.out], ?_, ?_⟩
      · simp [results, Tryz.results52, go_sem]
      · rw [E3.out]; exact ownS_mono (ownS_below Hown.out b2) (by omega)
      · exact Below.step b2 (show Below w'.heap.size w' _ from (by (repeat (first | exact Below.refl _ _ | exact Hbl.out | refine Below.ext ?_ (by first | omega | (simp; omega) | simp) | refine Below.setCell ?_ (by first | omega | (simp; omega) | simp) _ | refine Below.alloc ?_ (by first | omega | (simp; omega) | simp) _ | refine Below.drew ?_ | refine below_drewN ?_ _ | refine Below.step (by assumption) (by first | omega | (simp; omega) | simp) ?_)))).size (show Below w'.heap.size w' _ from (by (repeat (first | exact Below.refl _ _ | exact Hbl.out | refine Below.ext ?_ (by first | omega | (simp; omega) | simp) | refine Below.setCell ?_ (by first | omega | (simp; omega) | simp) _ | refine Below.alloc ?_ (by first | omega | (simp; omega) | simp) _ | refine Below.drew ?_ | refine below_drewN ?_ _ | refine Below.step (by assumption) (by first | omega | (simp; omega) | simp) ?_))))
    · have e1' : (y.toList == S.toList) = false := beq_eq_false_iff_ne.2 e1
      have E2 := Lib.hid e2
      clear e2
      go_enter Tryz.func52, Tryz.ntmps52
      go_wp2_with fail
      refine Hcut.out.mono ?_
      rintro e w' ⟨rfl, rfl⟩
      go_wp2_with fail
      refine Hsp.out.mono ?_
      rintro e w1 ⟨rfl, rfl⟩
      go_wp2_with fail
      refine Hj.out.mono ?_
      rintro e w2 ⟨rfl, b2⟩
      go_wp2
      refine bodyPost_ret (v := .tuple #[.slice none 0 0, .bool false]) ?_ rfl ⟨_, by rw [E2.out], ?_, ?_⟩
      · simp [results, Tryz.results52, go_sem]
      · rw [partsP_no E2.out]; exact own_none _ _
      · exact Below.step b2 (show Below w'.heap.size w' _ from (by (repeat (first | exact Below.refl _ _ | exact Hbl.out | refine Below.ext ?_ (by first | omega | (simp; omega) | simp) | refine Below.setCell ?_ (by first | omega | (simp; omega) | simp) _ | refine Below.alloc ?_ (by first | omega | (simp; omega) | simp) _ | refine Below.drew ?_ | refine below_drewN ?_ _ | refine Below.step (by assumption) (by first | omega | (simp; omega) | simp) ?_)))).size (show Below w'.heap.size w' _ from (by (repeat (first | exact Below.refl _ _ | exact Hbl.out | refine Below.ext ?_ (by first | omega | (simp; omega) | simp) | refine Below.setCell ?_ (by first | omega | (simp; omega) | simp) _ | refine Below.alloc ?_ (by first | omega | (simp; omega) | simp) _ | refine Below.drew ?_ | refine below_drewN ?_ _ | refine Below.step (by assumption) (by first | omega | (simp; omega) | simp) ?_))))
set_option maxRecDepth 100000 in
set_option maxHeartbeats 2000000 in
theorem partsI_other (S : ByteArray) (l : List UInt8) (hS : S.toList = l) (hl : ∀ r, l ≠ 47 :: r) (w : World) (hm : MaxL w) (hs : l.length ≤ 1048576) : Calls Tryz.prog 52 #[.string S] w (Parts w l) := by
  have hcut := Tryz.strings_CutPrefix S ⟨#[47]⟩ w
  rw [(mkeq hS).1, show (ByteArray.mk #[47]).data.toList = [47] from rfl, (cut_other hl).1, (cut_other hl).2] at hcut
  have hSm : mk l = S := by rw [mk_list S, (mkeq hS).1]
  have hcut' : Calls Tryz.prog 94 #[.string S, .string ⟨#[47]⟩] w fun e w' => e = .returned (.tuple #[.string S, .bool false]) ∧ w' = w := by
    have h2 : Calls Tryz.prog 94 #[.string S, .string ⟨#[47]⟩] w fun e w' => e = .returned (.tuple #[.string (mk l), .bool false]) ∧ w' = w := hcut
    rw [hSm] at h2; exact h2
  have hok : okP l = false := by
    cases l with
    | nil => rfl
    | cons c r => exact okP_other fun e => hl r (by rw [e])
  have Hok := Lib.hid hok
  have Hcut := Lib.hid hcut'; clear hcut hcut' hok
  by_cases hne : S.toList = []
  · clear hS hSm
    go_enter Tryz.func52, Tryz.ntmps52
    go_wp2_with fail
    refine Hcut.out.mono ?_
    rintro e w' ⟨rfl, rfl⟩
    go_wp2
    refine bodyPost_ret (v := .tuple #[.slice none 0 0, .bool false]) ?_ rfl ⟨_, by rw [Hok.out], ?_, ?_⟩
    · simp [results, Tryz.results52, go_sem]
    · rw [partsP_no Hok.out]; exact own_none _ _
    · (repeat (first | exact Below.refl _ _ | exact Hbl.out | refine Below.ext ?_ (by first | omega | (simp; omega) | simp) | refine Below.setCell ?_ (by first | omega | (simp; omega) | simp) _ | refine Below.alloc ?_ (by first | omega | (simp; omega) | simp) _ | refine Below.drew ?_ | refine below_drewN ?_ _ | refine Below.step (by assumption) (by first | omega | (simp; omega) | simp) ?_))
  · have f0 : S.toList.isEmpty = false := by rw [Bool.eq_false_iff]; intro h; exact hne (List.isEmpty_iff.1 h)
    have b0 : Below w.heap.size w (w.alloc (.cells #[] 9)) := Below.alloc (Below.refl _ _) (Nat.le_refl _) _
    have hsz := (mkeq hS).2
    obtain ⟨P, N, hPN, hN, _, _, hsp⟩ := split7_of S (w.alloc (.cells #[] 9)) (hm.below b0) (by omega)
    have Hsp := Lib.hid hsp; clear hsp hS hSm
    go_enter Tryz.func52, Tryz.ntmps52
    go_wp2_with fail
    refine Hcut.out.mono ?_
    rintro e w' ⟨rfl, rfl⟩
    go_wp2_with fail
    refine Hsp.out.mono ?_
    rintro e w1 ⟨rfl, rfl⟩
    go_wp2
    refine bodyPost_ret (v := .tuple #[.slice none 0 0, .bool false]) ?_ rfl ⟨_, by rw [Hok.out], ?_, ?_⟩
    · simp [results, Tryz.results52, go_sem]
    · rw [partsP_no Hok.out]; exact own_none _ _
    · (repeat (first | exact Below.refl _ _ | exact Hbl.out | refine Below.ext ?_ (by first | omega | (simp; omega) | simp) | refine Below.setCell ?_ (by first | omega | (simp; omega) | simp) _ | refine Below.alloc ?_ (by first | omega | (simp; omega) | simp) _ | refine Below.drew ?_ | refine below_drewN ?_ _ | refine Below.step (by assumption) (by first | omega | (simp; omega) | simp) ?_))
theorem pathPartsI_of (S : ByteArray) (w : World) (hm : MaxL w) (hs : S.size ≤ 1048576) : Calls Tryz.prog 52 #[.string S] w (Parts w S.data.toList) := by
  have hS : S.toList = S.data.toList := Lib.toList_data S
  have hlen : S.data.toList.length ≤ 1048576 := by rw [size_list]; exact hs
  generalize S.data.toList = l at hS hlen
  by_cases h : ∃ r, l = 47 :: r
  · obtain ⟨r, rfl⟩ := h
    exact partsI_slash S r hS w hm (by simp at hlen; omega)
  · exact partsI_other S l hS (fun r e => h ⟨r, e⟩) w hm hlen
end Go.Proofs.YtkennmpbmbacpaaGreatDoor

namespace Go.Proofs.YtkennmpbmbacpaaGreatDoor
open Go.RowKit

theorem joinL_take {ls : List (List UInt8)} {k : Nat} (h : k < ls.length) : joinL (ls.take (k + 1)) = joinL (ls.take k) ++ (47 :: ls.getD k []) := by
  rw [List.take_succ_eq_append_getElem h, joinL_snoc, List.getD_eq_getElem?_getD, List.getElem?_eq_getElem h]; rfl
theorem joinL_nil {ls : List (List UInt8)} : joinL ls = [] ↔ ls = [] := by
  cases ls with
  | nil => simp [joinL]
  | cons a r => simp [joinL]
theorem all_at {ls : List (List UInt8)} {p : List UInt8 → Bool} (h : ∀ i, i < ls.length → p (ls.getD i []) = true) : ls.all p = true := by
  rw [List.all_eq_true]
  intro x hx
  obtain ⟨i, hi, rfl⟩ := List.getElem_of_mem hx
  have := h i hi
  rw [List.getD_eq_getElem?_getD, List.getElem?_eq_getElem hi] at this
  simpa using this
theorem all_not {ls : List (List UInt8)} {p : List UInt8 → Bool} {i : Nat} (hi : i < ls.length) (h : p (ls.getD i []) = false) : ls.all p = false := by
  rw [List.all_eq_false]
  rw [List.getD_eq_getElem?_getD, List.getElem?_eq_getElem hi] at h
  exact ⟨ls[i], List.getElem_mem hi, by simpa using h⟩
set_option maxRecDepth 100000 in
set_option maxHeartbeats 2000000 in
theorem joinS_of (v : Value) (ls : List (List UInt8)) (w : World) (h : SlS w v (ls.map mk)) (hl : ls.length ≤ 1048600) (hsz : ∀ x ∈ ls, x.length ≤ 1048576) : Calls Tryz.prog 75 #[v] w fun e w' => e = .returned (.string (mk (joinP ls))) ∧ w = w' := by
  obtain ⟨A, cap, rfl, h1, h2, h3⟩ := h
  have hml : (ls.map mk).length = ls.length := List.length_map _
  rw [hml] at h1 ⊢
  unfold maxLen at h2
  have H3 := Lib.hid h3; clear h3
  have Hsz := Lib.hid hsz; clear hsz
  go_enter Tryz.func75, Tryz.ntmps75
  go_wp2
  go_loop [4, 3] (fun i o => ∃ k : Nat, k ≤ ls.length ∧ i = .int .i64 k ∧ o = .string (mk (joinL (ls.take k))) ∧ (0 < k → ls.length ≤ 6) ∧ ∀ j, j < k → nameB (ls.getD j []) = true) (fun i _ => ls.length - (intOf i).toNat)
  case atStart => exact ⟨0, Nat.zero_le _, rfl, rfl, fun h => absurd h (by omega), fun j hj => absurd hj (by omega)⟩
  case round =>
    obtain ⟨k, hk, rfl, rfl, h6, hall⟩ := hrel
    have Hall := Lib.hid hall; clear hall
    by_cases hlt : k < ls.length
    · obtain ⟨b, off, rfl, hb, hat⟩ := H3.out.resolve_left (fun e => by rw [List.map_eq_nil_iff] at e; subst e; simp at hlt)
      have c0 := hat k (by rw [hml]; exact hlt)
      rw [st_mk hlt] at c0
      have hxs : (mk (ls.getD k [])).size ≤ 1048576 := by
        rw [mk_size, List.getD_eq_getElem?_getD, List.getElem?_eq_getElem hlt]
        exact Hsz.out _ (List.getElem_mem hlt)
      have hsz : (mk (ls.getD k [])).size ≤ maxLen := by unfold maxLen; omega
      have hdat : (mk (ls.getD k [])).data.toList = ls.getD k [] := mk_data _
      have hnx : joinL (ls.take (k + 1)) = joinL (ls.take k) ++ (47 :: ls.getD k []) := joinL_take hlt
      have hcat : (mk (joinL (ls.take k)) ++ ⟨#[47]⟩) ++ mk (ls.getD k []) = mk (joinL (ls.take (k + 1))) := by
        rw [show (⟨#[47]⟩ : ByteArray) = mk [47] from rfl, cat_mk, cat_mk, hnx, List.append_assoc]; rfl
      have hjl : (mk (joinL (ls.take k))).size ≤ 54 := by
        rw [mk_size]
        by_cases hk0 : k = 0
        · subst hk0; exact Nat.zero_le _
        · have hla : (ls.take k).all nameB = true := by
            rw [List.all_eq_true]
            intro x hx
            obtain ⟨i, hi, rfl⟩ := List.getElem_of_mem hx
            rw [List.length_take] at hi
            have := Hall.out i (by omega)
            rw [List.getD_eq_getElem?_getD, List.getElem?_eq_getElem (by omega)] at this
            rw [List.getElem_take]; simpa using this
          have h0 := joinL_size hla
          have h9 := h6 (by omega)
          rw [List.length_take] at h0
          omega
      clear hat hnx
      by_cases h7 : 6 < ls.length
      · have hr : joinP ls = [] := joinP_no (by unfold namesB; rw [decide_eq_false (by omega), Bool.false_and])
        have Hr := Lib.hid hr; clear hr hcat
        cases hn : nameB (ls.getD k [])
        all_goals
          rw [← hdat] at hn
          have Hn := Lib.hid hn
          generalize mk (ls.getD k []) = x at c0 hsz hn hxs
          generalize mk (joinL (ls.take k)) = y at hjl ⊢
          go_wp2_with (go_at_call 106; refine (nameValidS_any _ _ hsz).mono ?_; rintro e w' ⟨rfl, rfl⟩; simp only [hn])
          go_ret
          exact ⟨by rw [Hr.out]; rfl, rfl⟩
      · cases hn : nameB (ls.getD k [])
        · have hr : joinP ls = [] := joinP_no (by unfold namesB; rw [all_not hlt hn, Bool.and_false])
          have Hr := Lib.hid hr; clear hr hcat
          rw [← hdat] at hn
          generalize mk (ls.getD k []) = x at c0 hsz hn hxs
          generalize mk (joinL (ls.take k)) = y at hjl ⊢
          go_wp2_with (go_at_call 106; refine (nameValidS_any _ _ hsz).mono ?_; rintro e w' ⟨rfl, rfl⟩; simp only [hn])
          go_ret
          exact ⟨by rw [Hr.out]; rfl, rfl⟩
        · have Hgo := Lib.hid hn
          rw [← hdat] at hn
          have hs1 : (mk (joinL (ls.take k))).size + (ByteArray.mk #[47]).size ≤ 9223372036854775807 := by rw [show (ByteArray.mk #[47]).size = 1 from rfl]; omega
          have hs2 : (mk (joinL (ls.take k)) ++ ByteArray.mk #[47]).size + (mk (ls.getD k [])).size ≤ 9223372036854775807 := by
            rw [ByteArray.size_append, show (ByteArray.mk #[47]).size = 1 from rfl]; omega
          have hs3 : (mk (joinL (ls.take k))).size + 1 + (mk (ls.getD k [])).size ≤ 9223372036854775807 := by omega
          have hs4 : (mk (joinL (ls.take k))).size + (ByteArray.mk #[47]).size + (mk (ls.getD k [])).size ≤ 9223372036854775807 := by rw [show (ByteArray.mk #[47]).size = 1 from rfl]; omega
          clear hdat
          generalize mk (ls.getD k []) = x at c0 hsz hn hxs hcat hs2 hs3 hs4
          generalize mk (joinL (ls.take k)) = y at hjl hcat hs1 hs2 hs3 hs4 ⊢
          have Hcat := Lib.hid hcat; clear hcat
          go_wp2_with (go_at_call 106; refine (nameValidS_any _ _ hsz).mono ?_; rintro e w' ⟨rfl, rfl⟩; simp only [hn])
          go_round
          case rel => exact ⟨k + 1, by omega, by go_num, by rw [Hcat.out], fun _ => by omega, fun j hj => by
            by_cases e : j = k
            · subst e; exact Hgo.out
            · exact Hall.out j (by omega)⟩
          case measure => simp [intOf]; omega
    · obtain rfl : k = ls.length := by omega
      have hla : ls.all nameB = true := all_at Hall.out
      rw [List.take_of_length_le (Nat.le_refl _)]
      by_cases hne : ls = []
      · have hr : joinP ls = [47] := by rw [hne]; rfl
        have hy : (mk (joinL ls)).toList = [] := by rw [mk_toList, hne]; rfl
        have Hr := Lib.hid hr; clear hr
        generalize mk (joinL ls) = y at hy ⊢
        go_wp2
        go_ret
        exact ⟨by first | rfl | (rw [Hr.out]; rfl), rfl⟩
      · have hn : namesB ls = true := by
          unfold namesB
          rw [hla, decide_eq_true (h6 (List.length_pos_iff.2 hne))]; rfl
        have hr : joinP ls = joinL ls := joinP_yes hn hne
        have hy : ¬ (mk (joinL ls)).toList = [] := by rw [mk_toList]; exact fun e => hne (joinL_nil.1 e)
        have f0 : (mk (joinL ls)).toList.isEmpty = false := by rw [Bool.eq_false_iff]; intro h; exact hy (List.isEmpty_iff.1 h)
        have hr' : mk (joinP ls) = mk (joinL ls) := by rw [hr]
        generalize mk (joinL ls) = y at hy f0 hr' ⊢
        have Hr := Lib.hid hr'; clear hr hr'
        go_wp2
        go_ret
        exact ⟨by rw [Hr.out]; rfl, rfl⟩
end Go.Proofs.YtkennmpbmbacpaaGreatDoor

namespace Go.Proofs.YtkennmpbmbacpaaGreatDoor
open Go.RowKit

theorem spl_tail_slash (xs : List UInt8) : (spl (xs ++ [47])).tail = (spl xs).tail ++ [[]] := by
  obtain ⟨h, t, e⟩ := spl_ne xs
  rw [spl_snoc_slash, e]; rfl
theorem spl_tail_other {c : UInt8} (hc : c ≠ 47) (xs : List UInt8) (hne : (spl xs).tail ≠ []) : (spl (xs ++ [c])).tail = lastPut (spl xs).tail c := by
  obtain ⟨h, t, e⟩ := spl_ne xs
  rw [spl_snoc_other hc, e]
  rw [e] at hne
  cases t with
  | nil => exact absurd rfl hne
  | cons a r => rfl
theorem spl_tail_none {c : UInt8} (hc : c ≠ 47) (xs : List UInt8) (hne : (spl xs).tail = []) : (spl (xs ++ [c])).tail = [] := by
  obtain ⟨h, t, e⟩ := spl_ne xs
  rw [spl_snoc_other hc, e]
  rw [e] at hne
  cases t with
  | nil => rfl
  | cons a r => cases hne
theorem tail_sizes (l : List UInt8) : ∀ x ∈ (spl l).tail, x.length ≤ l.length := fun x hx => spl_word l x (List.mem_of_mem_tail hx)
/-- What the reference compares at the end. -/
theorem parts_end (l : List UInt8) (h1 : l ≠ []) (h2 : l ≠ [47]) : (joinP (spl l).tail = l ∧ okP l = true ∧ partsP l = (spl l).tail) ∨ (¬ joinP (spl l).tail = l ∧ okP l = false) := by
  cases l with
  | nil => exact absurd rfl h1
  | cons c r =>
    by_cases hc : c = 47
    · subst hc
      have hr : r ≠ [] := fun e => h2 (by rw [e])
      rw [spl_slash]
      show (joinP (spl r) = _ ∧ _ ∧ _ = spl r) ∨ _
      rw [joinP_spl]
      cases hn : namesB (spl r)
      · refine .inr ⟨?_, okP_bad hr hn⟩
        show ¬ joinP (spl r) = _
        rw [joinP_spl, hn]; simp
      · obtain ⟨k1, k2⟩ := partsP_yes hr hn
        exact .inl ⟨rfl, k1, k2⟩
    · refine .inr ⟨fun e => ?_, okP_other hc⟩
      rcases joinP_head (spl (c :: r)).tail with h | ⟨t, h⟩
      · rw [h] at e; cases e
      · rw [h] at e; exact hc (List.cons.inj e).1.symm
set_option maxRecDepth 100000 in
set_option maxHeartbeats 2000000 in
theorem pathPartsS_of (s : ByteArray) (w : World) (hs : s.size ≤ 1048576) : Calls Tryz.prog 74 #[.string s] w (Parts w s.data.toList) := by
  have hS : s.toList = s.data.toList := Lib.toList_data s
  by_cases h47 : s.toList = [47]
  · have e1 : okP s.data.toList = true ∧ partsP s.data.toList = [] := by rw [← hS, h47]; exact partsP_root
    have E1 := Lib.hid e1
    clear e1 hS
    go_enter Tryz.func74, Tryz.ntmps74
    go_wp2
    refine bodyPost_ret (v := .tuple #[.slice (some ⟨w.heap.size, 0, none⟩) 0 0, .bool true]) ?_ rfl ⟨_, by rw [E1.out.1], ?_, ?_⟩
    · simp [results, Tryz.results74, go_sem]
    · rw [E1.out.2]; exact own_empty (B := w.heap.size) w (Nat.le_refl _)
    · (repeat (first | exact Below.refl _ _ | exact Hbl.out | refine Below.ext ?_ (by first | omega | (simp; omega) | simp) | refine Below.setCell ?_ (by first | omega | (simp; omega) | simp) _ | refine Below.alloc ?_ (by first | omega | (simp; omega) | simp) _ | refine Below.drew ?_ | refine below_drewN ?_ _ | refine Below.step (by assumption) (by first | omega | (simp; omega) | simp) ?_))
  · have f47 : (s.toList == [47]) = false := beq_eq_false_iff_ne.2 h47
    have HS := Lib.hid hS; clear hS
    go_enter Tryz.func74, Tryz.ntmps74
    go_wp2
    go_loopw [4, 5] (fun o i wr => ∃ k : Nat, k ≤ s.size ∧ i = .int .i64 k ∧ OwnS w.heap.size wr o ((spl (s.data.toList.take k)).tail.map mk) ∧ Below w.heap.size w wr) (fun _ i _ => s.size - (intOf i).toNat)
    case atStart => exact ⟨0, Nat.zero_le _, rfl, own_empty (B := w.heap.size) w (Nat.le_refl _), (by (repeat (first | exact Below.refl _ _ | exact Hbl.out | refine Below.ext ?_ (by first | omega | (simp; omega) | simp) | refine Below.setCell ?_ (by first | omega | (simp; omega) | simp) _ | refine Below.alloc ?_ (by first | omega | (simp; omega) | simp) _ | refine Below.drew ?_ | refine below_drewN ?_ _ | refine Below.step (by assumption) (by first | omega | (simp; omega) | simp) ?_)))⟩
    case round =>
      obtain ⟨k, hk, rfl, hown, hbl⟩ := hrel
      by_cases hlt : k < s.size
      · have hlen := spl_len (s.data.toList.take k)
        rw [List.length_take] at hlen
        have htk : s.data.toList.take (k + 1) = s.data.toList.take k ++ [s[k]] := by
          rw [List.take_succ_eq_append_getElem (by rw [size_list]; exact hlt)]; rfl
        have htl : (spl (s.data.toList.take k)).tail.length + 1 = (spl (s.data.toList.take k)).length := by
          obtain ⟨h, t, e⟩ := spl_ne (s.data.toList.take k)
          rw [e]; rfl
        have hwd := tail_sizes (s.data.toList.take k)
        have Htk := Lib.hid htk; clear htk
        have hsl := spl_tail_slash (s.data.toList.take k)
        have hot := fun (hc : s[k] ≠ 47) => spl_tail_other hc (s.data.toList.take k)
        have hnn := fun (hc : s[k] ≠ 47) => spl_tail_none hc (s.data.toList.take k)
        generalize hls' : (spl (s.data.toList.take k)).tail = ls at hown htl hsl hot hnn hwd
        have hml : (ls.map mk).length = ls.length := List.length_map _
        have hsz : w.heap.size ≤ wr.heap.size := hbl.size
        have hl2 : ls.length ≤ 1048577 := by omega
        have Hbl := Lib.hid hbl
        have Hsl := Lib.hid hsl
        have Hot := Lib.hid hot
        have Hnn := Lib.hid hnn
        have Hwd := Lib.hid hwd
        clear hlen hbl hsl hot hnn hwd hls' htl
        have zk : IntKind.i64.wrap ((k : Int) + 1) = (k : Int) + 1 := IntWalk.i64_in _ (by omega)
        obtain ⟨A, c, rfl, hA⟩ : ∃ A c, u4 = .slice A ls.length c ∧ (ls ≠ [] → ∃ g, A = some ⟨g, 0, none⟩ ∧ w.heap.size ≤ g ∧ g < wr.heap.size) := by
          by_cases hl0 : 0 < ls.length
          · obtain ⟨g, c, e, hg1, hg2, _, _⟩ := ownS_at hown (by rw [hml]; exact hl0)
            exact ⟨_, c, by rw [e, hml], fun _ => ⟨g, rfl, hg1, hg2⟩⟩
          · have : ls = [] := List.length_eq_zero_iff.1 (by omega)
            subst this
            rcases hown.2 with ⟨e, _⟩ | ⟨g, c, cur, e, _⟩
            · exact ⟨none, 0, e, fun h => absurd rfl h⟩
            · exact ⟨_, c, e, fun h => absurd rfl h⟩
        have Hown := Lib.hid hown
        by_cases hc : s[k] = 47
        · have hc' : ((s[k].toNat : Int) == 47) = true := by rw [hc]; rfl
          have Hc := Lib.hid hc; clear hc hown
          have hgB : ∀ j, (Value.slice A ls.length c).ownBlock = some j → w.heap.size ≤ j := fun j hj => (Hown.out.lt j hj).1
          go_wp2_with (at_builtin; refine wpList_appS1 _ rfl (.tmp 20) (.tmp 21) rfl w.heap.size _ (ls.map mk) rfl ?cO ?cL ?cB _ rfl ⟨#[]⟩ ?c0 ?_)
          case cO => exact World.ownsRow.alloc Hown.out _
          case cL => rw [hml]; omega
          case cB => simp; omega
          case c0 => simp [go_sem]
          intro v' w' o' hg'
          have hb' : Below w.heap.size w w' := Below.grown (Below.alloc Hbl.out hsz _) hg' (by simp; omega) hgB
          go_wp2
          go_roundw
          case rel => exact ⟨k + 1, by omega, by go_num, by rw [Htk.out, Hc.out, Hsl.out, List.map_append]; exact o', hb'⟩
          case measure => simp [intOf]; omega
        · have hc' : ((s[k].toNat : Int) == 47) = false := by
            rw [beq_eq_false_iff_ne]; intro e
            exact hc (UInt8.toNat_inj.1 (by have : s[k].toNat = 47 := by omega
                                            rw [this]; rfl))
          by_cases hl0 : ls = []
          · have Hc := Lib.hid hc; clear hc hown
            have hlz : ls.length = 0 := by rw [hl0]; rfl
            have Hl0 := Lib.hid hl0; clear hl0
            rw [hlz]
            go_wp2
            go_roundw
            case rel => exact ⟨k + 1, by omega, by go_num, by
              rw [Htk.out, Hnn.out Hc.out Hl0.out]
              have := Hown.out
              rw [hlz, Hl0.out] at this; exact this, Hbl.out⟩
            case measure => simp [intOf]; omega
          · obtain ⟨g, rfl, hg1, hg2⟩ := hA hl0
            have hl1 : 0 < ls.length := List.length_pos_iff.2 hl0
            have hst : st (ls.map mk) (ls.length - 1) = mk (ls.getLastD []) := by
              unfold st
              rw [List.getD_eq_getElem?_getD, List.getElem?_map, List.getLastD_eq_getLast?, List.getLast?_eq_getElem?, List.getElem?_eq_getElem (by omega)]; rfl
            have c0 : wr.cell? ⟨g, ls.length - 1, none⟩ = some (.string (mk (ls.getLastD []))) := by
              rw [← hst]; exact ownS_cell (by rw [hml]; exact hown) (by rw [hml]; omega)
            have y0 : wr.frozen? ⟨g, ls.length - 1, none⟩ = false := ownS_frozen hml.symm hown
            have z1 : IntKind.i64.wrap ((ls.length : Int) - 1) = (ls.length : Int) - 1 := IntWalk.i64_in _ (by omega)
            have z2 : (0 : Int) ≤ (ls.length : Int) - 1 := by omega
            have z3 : (ls.length : Int) - 1 < (ls.length : Int) := by omega
            have z4 : ((ls.length : Int) - 1).toNat = ls.length - 1 := by omega
            have z5 : (0 : Int) ≤ (k : Int) := by omega
            have z6 : (k : Int) + 1 ≤ (s.size : Int) := by omega
            have z7 : (1 : Int) ≤ (ls.length : Int) := by omega
            have hx0 : (mk (ls.getLastD [])).size ≤ 1048576 := by
              have := Hwd.out _ (lastD_mem ls hl0)
              rw [List.length_take, size_list] at this
              rw [mk_size]; omega
            have hx1 : (s.extract k (k + 1)).size ≤ 1048576 := by rw [ByteArray.size_extract]; omega
            have Hc := Lib.hid hc
            have Hne := Lib.hid hl0
            clear hc hown hst hl0 hA
            generalize hx : mk (ls.getLastD []) = x0 at c0
            rw [hx] at hx0
            have hsum : x0.size + (s.extract k (k + 1)).size ≤ 9223372036854775807 := by omega
            have Hx := Lib.hid hx; clear hx hx0 hx1
            go_wp2
            go_region
            go_wp2
            go_roundw
            case rel => exact ⟨k + 1, by omega, by go_num, by
              rw [Htk.out, Hot.out Hc.out Hne.out]
              exact own_put ls.length rfl Hown.out Hne.out (by rw [← Hx.out]; exact put_sign s _ k hlt), (Hbl.out.setCell (by simpa using hg1) _).drew⟩
            case measure => simp [intOf]; omega
      · obtain rfl : k = s.size := by omega
        rw [List.take_of_length_le (by rw [size_list]; exact Nat.le_refl _)] at hown
        by_cases hem : s.toList = []
        · have hno : okP s.data.toList = false := by rw [← HS.out, hem]; rfl
          have hno2 := partsP_no hno
          have Hno := Lib.hid hno
          have Hno2 := Lib.hid hno2
          have Hbl := Lib.hid hbl
          have hsz := hbl.size
          clear hno hno2 hown hbl
          go_wp2
          refine bodyPost_ret (v := .tuple #[.slice (some ⟨wr.heap.size, 0, none⟩) 0 0, .bool false]) ?_ rfl ⟨_, by rw [Hno.out], ?_, ?_⟩
          · simp [results, Tryz.results74, go_sem]
          · rw [Hno2.out]; exact own_empty (B := w.heap.size) wr hsz
          · (repeat (first | exact Below.refl _ _ | exact Hbl.out | refine Below.ext ?_ (by first | omega | (simp; omega) | simp) | refine Below.setCell ?_ (by first | omega | (simp; omega) | simp) _ | refine Below.alloc ?_ (by first | omega | (simp; omega) | simp) _ | refine Below.drew ?_ | refine below_drewN ?_ _ | refine Below.step (by assumption) (by first | omega | (simp; omega) | simp) ?_))
        · have fem : s.toList.isEmpty = false := by rw [Bool.eq_false_iff]; intro h; exact hem (List.isEmpty_iff.1 h)
          have hend := parts_end s.data.toList (by rw [← HS.out]; exact hem) (by rw [← HS.out]; exact h47)
          have htl : (spl s.data.toList).tail.length ≤ 1048600 := by
            have h1 := spl_len s.data.toList
            rw [size_list] at h1
            obtain ⟨h, t, e⟩ := spl_ne s.data.toList
            rw [e] at h1 ⊢
            simp only [List.tail_cons, List.length_cons] at h1 ⊢
            omega
          have hj := joinS_of u4 (spl s.data.toList).tail wr (ownS_sl hown) htl (fun x hx => by have := tail_sizes _ x hx; rw [size_list] at this; omega)
          have hres : ((mk (joinP (spl s.data.toList).tail)).toList = s.toList ∧ okP s.data.toList = true ∧ partsP s.data.toList = (spl s.data.toList).tail) ∨ (¬ (mk (joinP (spl s.data.toList).tail)).toList = s.toList ∧ okP s.data.toList = false) := by
            rw [mk_toList, HS.out]; exact hend
          generalize mk (joinP (spl s.data.toList).tail) = y at hj hres
          have Hj := Lib.hid hj
          have Hown := Lib.hid hown
          have Hbl := Lib.hid hbl
          have hsz := hbl.size
          clear hj hown hbl hend htl
          rcases hres with ⟨e1, e2, e3⟩ | ⟨e1, e2⟩
          · have E2 := Lib.hid e2
            have E3 := Lib.hid e3
            clear e2 e3
            go_wp2_with fail
            refine Hj.out.mono ?_
            rintro e w' ⟨rfl, rfl⟩
            go_wp2
            refine bodyPost_ret (v := .tuple #[u4, .bool true]) ?_ rfl ⟨_, by rw [E2.out], ?_, Hbl.out⟩
            · simp [results, Tryz.results74, go_sem]
            · rw [E3.out]; exact Hown.out
          · have f1 : (y.toList == s.toList) = false := beq_eq_false_iff_ne.2 e1
            have hno2 := partsP_no e2
            have E2 := Lib.hid e2
            have Hno2 := Lib.hid hno2
            clear e2 hno2
            go_wp2_with fail
            refine Hj.out.mono ?_
            rintro e w' ⟨rfl, rfl⟩
            go_wp2
            refine bodyPost_ret (v := .tuple #[.slice (some ⟨wr.heap.size, 0, none⟩) 0 0, .bool false]) ?_ rfl ⟨_, by rw [E2.out], ?_, ?_⟩
            · simp [results, Tryz.results74, go_sem]
            · rw [Hno2.out]; exact own_empty (B := w.heap.size) wr hsz
            · (repeat (first | exact Below.refl _ _ | exact Hbl.out | refine Below.ext ?_ (by first | omega | (simp; omega) | simp) | refine Below.setCell ?_ (by first | omega | (simp; omega) | simp) _ | refine Below.alloc ?_ (by first | omega | (simp; omega) | simp) _ | refine Below.drew ?_ | refine below_drewN ?_ _ | refine Below.step (by assumption) (by first | omega | (simp; omega) | simp) ?_))
end Go.Proofs.YtkennmpbmbacpaaGreatDoor
