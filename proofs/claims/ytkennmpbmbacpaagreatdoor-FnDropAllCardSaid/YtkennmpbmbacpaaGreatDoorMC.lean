/- Texts in one: Roots: slices.Equal on texts, 'restOf', 'InsideRoot' of the program. Roots: 'InsideRoot' of the program, 'IsBelow' and 'InsideRoot' of the reference. Paths: lists of texts are appended; slices.Grow and slices.Concat on texts. Roots: slices.Concat on texts, 'isPath', 'joined', 'IsBelow' and 'BelowRoot' of the program; the reference's 'BelowRoot'. Roots: 'joined' and 'BelowRoot' of the program; the reference's 'BelowRoot'. Ways: strings.Split at one sign, the plain side of 'FollowWay', and the program's 'FollowWay'. Paths: plain laws: what is joined is taken apart again. Lists of texts: what append does, as a run, at a plain step and at a step of a region that draws its order. Ways: the reference's 'FollowWay'; the exact law: the walk. Paths: what is drawn. Paths: 'AboveOf' of both sides. -/
import Derived.Test.YtkennmpbmbacpaaGreatDoorMB
import Derived.Deep.RegionHeld3
import Derived.Laws.AppendOwnNone
import Derived.Lib.AppendZeros
import Derived.Maps.AppendAt
import Derived.Test.YtkennmpbmbacpaaGreatDoorMA
set_option linter.unusedSimpArgs false
set_option linter.unusedVariables false
set_option linter.unusedSectionVars false
namespace Go.Proofs.YtkennmpbmbacpaaGreatDoor
open Go.RowKit

theorem list_ext {a b : List (List UInt8)} (h : a.length = b.length) (h2 : ∀ i, i < a.length → a.getD i [] = b.getD i []) : a = b := by
  apply List.ext_getElem?
  intro i
  by_cases hi : i < a.length
  · have := h2 i hi
    rw [List.getD_eq_getElem?_getD, List.getD_eq_getElem?_getD, List.getElem?_eq_getElem hi, List.getElem?_eq_getElem (by omega)] at this
    rw [List.getElem?_eq_getElem hi, List.getElem?_eq_getElem (by omega)]
    simpa using this
  · rw [List.getElem?_eq_none (by omega), List.getElem?_eq_none (by omega)]
theorem mk_eq {a b : List UInt8} : (mk a).toList = (mk b).toList ↔ a = b := by rw [mk_toList, mk_toList]
/-- The names a stand at the beginning of b. -/
def prefB (a b : List (List UInt8)) : Bool := decide (a.length ≤ b.length) && decide (b.take a.length = a)
def restOk (p a : List UInt8) : Bool := okP p && (okP a && prefB (partsP a) (partsP p))
def restP (p a : List UInt8) : List (List UInt8) := if restOk p a = true then (partsP p).drop (partsP a).length else []
theorem slS_drop {w : World} {b off n cap k : Nat} {ws : List ByteArray} (h : SlS w (.slice (some ⟨b, off, none⟩) n cap) ws) (hk : k ≤ ws.length) : SlS w (.slice (some ⟨b, off + k, none⟩) (ws.length - k) (cap - k)) (ws.drop k) := by
  obtain ⟨A', cap', e, h1, h2, h3⟩ := h
  injection e with e1 e2 e3
  subst e1 e3
  have hl : (ws.drop k).length = ws.length - k := List.length_drop
  refine ⟨_, cap - k, by rw [hl], by omega, by omega, ?_⟩
  by_cases hz : ws.length - k = 0
  · exact .inl (List.length_eq_zero_iff.1 (by omega))
  · rcases h3 with h3 | ⟨b', off', e, hb, hat⟩
    · rw [h3] at hz; simp at hz
    · cases e
      refine .inr ⟨b, off + k, rfl, hb, fun i hi => ?_⟩
      rw [hl] at hi
      have := hat (k + i) (by omega)
      rw [← Nat.add_assoc] at this
      rw [this]
      unfold st
      rw [List.getD_eq_getElem?_getD, List.getD_eq_getElem?_getD, List.getElem?_drop]
theorem slS_take {w : World} {A : Option Addr} {n cap k : Nat} {ws : List ByteArray} (h : SlS w (.slice A n cap) ws) (hk : k ≤ ws.length) : SlS w (.slice A k cap) (ws.take k) := by
  obtain ⟨A', cap', e, h1, h2, h3⟩ := h
  injection e with e1 e2 e3
  subst e1 e3
  have hl : (ws.take k).length = k := by rw [List.length_take]; omega
  refine ⟨A, cap, by rw [hl], by omega, h2, ?_⟩
  rcases h3 with h3 | ⟨b, off, e, hb, hat⟩
  · exact .inl (by rw [h3]; simp)
  · refine .inr ⟨b, off, e, hb, fun i hi => ?_⟩
    rw [hl] at hi
    rw [hat i (by omega)]
    unfold st
    rw [List.getD_eq_getElem?_getD, List.getD_eq_getElem?_getD, List.getElem?_take_of_lt hi]
/-- What 'restOf' hands back. -/
def RestGot (w : World) (p r : List UInt8) (e : Ending) (w' : World) : Prop := ∃ v, e = .returned (.tuple #[v, .bool (restOk p r)]) ∧ SlS w' v ((restP p r).map mk) ∧ Below w.heap.size w w'
end Go.Proofs.YtkennmpbmbacpaaGreatDoor

namespace Go.Proofs.YtkennmpbmbacpaaGreatDoor
open Go.RowKit

theorem partsP_sizes (l : List UInt8) : ∀ x ∈ partsP l, x.length ≤ l.length := by
  intro x hx
  cases l with
  | nil => cases hx
  | cons c r =>
    have hx' : x ∈ (if okP (c :: r) = true then (if r = [] then [] else spl r) else []) := hx
    split at hx'
    · split at hx'
      · cases hx'
      · have := spl_word r x hx'
        simp; omega
    · cases hx'
theorem restP_sizes (p r : List UInt8) : ∀ x ∈ restP p r, x.length ≤ p.length := by
  intro x hx
  unfold restP at hx
  split at hx
  · exact partsP_sizes p x (List.mem_of_mem_drop hx)
  · cases hx
/-- What 'InsideRoot' gives. -/
def insideF (r p : List UInt8) : List UInt8 := if restOk p r = true then joinP (restP p r) else []
def InsGot (w : World) (r p : List UInt8) (e : Ending) (w' : World) : Prop := e = .returned (.tuple #[.string (mk (insideF r p)), .bool (restOk p r)]) ∧ Below w.heap.size w w'
theorem rest_cases (p r : List UInt8) : (okP p = false ∧ restOk p r = false) ∨ (okP p = true ∧ okP r = false ∧ restOk p r = false) ∨ (okP p = true ∧ okP r = true ∧ (partsP p).length < (partsP r).length ∧ restOk p r = false) ∨ (okP p = true ∧ okP r = true ∧ (partsP r).length ≤ (partsP p).length ∧ restOk p r = decide ((partsP p).take (partsP r).length = partsP r)) := by
  unfold restOk prefB
  cases h1 : okP p
  · exact .inl ⟨rfl, rfl⟩
  · cases h2 : okP r
    · exact .inr (.inl ⟨rfl, rfl, rfl⟩)
    · by_cases h3 : (partsP r).length ≤ (partsP p).length
      · exact .inr (.inr (.inr ⟨rfl, rfl, h3, by rw [decide_eq_true h3]; rfl⟩))
      · exact .inr (.inr (.inl ⟨rfl, rfl, by omega, by rw [decide_eq_false h3]; rfl⟩))
end Go.Proofs.YtkennmpbmbacpaaGreatDoor

namespace Go.Proofs.YtkennmpbmbacpaaGreatDoor
open Go.RowKit

theorem wpList_appSG {ops : Array Oper} {rest : List Oper} {o : Oper} {a : Act} {Q : Exit → Act → World → Prop} (W : World) (hgd : o.guard = none) (s x : Operand)
    (ho : o.op = .call { callee := .builtin .append, args := #[s, x], argTypes := #[42, 42] })
    (B : Nat) (v : Value) (ws : List ByteArray) (hs : a.eval s = v) (hown : OwnS B W v ws) (u : Value) (m : List ByteArray) (hx : a.eval x = u) (h0 : SlS W u m) (hl : ws.length + m.length ≤ 1048600) (hB : B ≤ W.heap.size)
    (h : ∀ v' w', OwnS B w' v' (ws ++ m) → W.grownBy w' v.ownBlock → wpList Tryz.prog ops Q rest (a.put o.dst v') w') : wpList Tryz.prog ops Q (o :: rest) a W := by
  obtain ⟨i0, hi, hz0, hz1, hz2⟩ := info_parts infoStr
  obtain ⟨A, cap, rfl, h1, h2, h3⟩ := h0
  cases A with
  | none =>
    have hm : m = [] := by
      rcases h3 with h3 | ⟨b, off, e, _⟩
      · exact h3
      · cases e
    subst hm
    have hr : ∀ ty, (Builtin.append_ #[42, 42] ty #[v, .slice none ([] : List ByteArray).length cap]).run Tryz.prog W = .ok v W := fun ty => by
      rcases hown.2 with ⟨rfl, _⟩ | ⟨g, c, cur, rfl, _, _, hnc, _⟩
      · simp [Builtin.append_, run_underlying Tryz.underlying42, sizeOf, typeInfo, hi, Builtin.lenOf, Builtin.firstCells]
      · simp [Builtin.append_, run_underlying Tryz.underlying42, sizeOf, typeInfo, hi, Builtin.lenOf, Builtin.firstCells, hnc, storeCells]
    exact Lib.wpList_append_run W hgd s x _ _ ho _ _ hs hx _ _ (hr _) (h v W (by rw [List.append_nil]; exact hown) (World.grownBy.refl _ _))
  | some ad =>
    refine wpList_append_own _ hgd s x 42 ho B 9 i0 _ 1 16 Tryz.underlying42 hi hz0 hz1 hz2 rfl (by decide) v ws.length _ hs hown ad m.length cap (m.map Value.string) hx (by simp) ?c1 ?c0 ?c2 ?c3 hB ?_
    case c0 => intro y hy; obtain ⟨z, _, rfl⟩ := List.mem_map.1 hy; rfl
    case c1 =>
      intro j y hj
      rcases h3 with h3 | ⟨b, off, e, hb, hat⟩
      · subst h3; simp at hj
      · cases e
        have hjl : j < m.length := by
          have := (List.getElem?_eq_some_iff.1 hj).1
          simpa using this
        rw [Addr.add_lit, hat j hjl]
        rw [List.getElem?_map, List.getElem?_eq_getElem hjl] at hj
        unfold st
        rw [List.getD_eq_getElem?_getD, List.getElem?_eq_getElem hjl]
        exact hj
    case c2 => unfold maxLen; omega
    case c3 => omega
    intro v' w' hown' hg _
    refine h v' w' ?_ hg
    unfold OwnS
    rw [List.length_append, List.map_append]
    exact hown'
end Go.Proofs.YtkennmpbmbacpaaGreatDoor

namespace Go.Proofs.YtkennmpbmbacpaaGreatDoor
open Go.RowKit

theorem own_val {B : Nat} {w : World} {v : Value} {ws : List ByteArray} (h : OwnS B w v ws) : ∃ A c, v = .slice A ws.length c := by
  rcases h.2 with ⟨rfl, e⟩ | ⟨g, c, cur, rfl, _⟩
  · exact ⟨none, 0, by rw [e]⟩
  · exact ⟨_, c, rfl⟩
theorem own_valm {B : Nat} {w : World} {v : Value} {ls : List (List UInt8)} (h : OwnS B w v (ls.map mk)) : ∃ A c, v = .slice A ls.length c := by
  obtain ⟨A, c, e⟩ := own_val h
  exact ⟨A, c, by rw [e, List.length_map]⟩
theorem sl_valm {w : World} {v : Value} {ls : List (List UInt8)} (h : SlS w v (ls.map mk)) : ∃ A c, v = .slice A ls.length c := by
  obtain ⟨A, c, e, _⟩ := h
  exact ⟨A, c, by rw [e, List.length_map]⟩
theorem partsP_len (l : List UInt8) : (partsP l).length ≤ 6 := by
  cases l with
  | nil => exact Nat.zero_le _
  | cons c r =>
    show (if okP (c :: r) = true then (if r = [] then [] else spl r) else []).length ≤ 6
    by_cases h : okP (c :: r) = true
    · rw [if_pos h]
      by_cases hr : r = []
      · rw [if_pos hr]; exact Nat.zero_le _
      · rw [if_neg hr]
        have h : (decide (c = 47) && (r == [] || namesB (spl r))) = true := h
        rw [beq_eq_false_iff_ne.2 hr, Bool.false_or, Bool.and_eq_true] at h
        have := h.2
        unfold namesB at this
        rw [Bool.and_eq_true] at this
        simpa using this.1
    · rw [if_neg h]; exact Nat.zero_le _
end Go.Proofs.YtkennmpbmbacpaaGreatDoor

namespace Go.Proofs.YtkennmpbmbacpaaGreatDoor
open Go.RowKit

theorem own_valn {B : Nat} {w : World} {v : Value} {ws : List ByteArray} (h : OwnS B w v ws) : ∃ A n c, v = .slice A n c := by
  obtain ⟨A, c, e⟩ := own_val h
  exact ⟨A, _, c, e⟩
/-- What 'BelowRoot' gives. -/
def belowF (r p : List UInt8) : List UInt8 := if (okP p && okP r) = true then joinP (partsP r ++ partsP p) else []
end Go.Proofs.YtkennmpbmbacpaaGreatDoor

namespace Go.Proofs.YtkennmpbmbacpaaGreatDoor
open Go.RowKit

theorem spl_count (l : List UInt8) : (spl l).length = l.count 47 + 1 := by
  induction l with
  | nil => rfl
  | cons c cs ih =>
    by_cases hc : c = 47
    · subst hc; rw [spl_slash, List.length_cons, ih, List.count_cons_self]
    · obtain ⟨h, t, e⟩ := spl_ne cs
      rw [spl_other hc e, List.count_cons_of_ne hc]
      rw [e] at ih
      simpa using ih
/-- One word of a way behind names. -/
def putW (ps : List (List UInt8)) (x : List UInt8) : Option (List (List UInt8)) :=
  if x = [] ∨ x = [46] then some ps else if x = [46, 46] then some ps.dropLast else if ps.length = 6 then none else some (ps ++ [x])
def putWs : List (List UInt8) → List (List UInt8) → Option (List (List UInt8))
  | ps, [] => some ps
  | ps, x :: r => match putW ps x with | some q => putWs q r | none => none
/-- Where a way begins. -/
def beginP (f y : List UInt8) : List (List UInt8) := if Lib.hasPrefix y [47] = true then [] else partsP f
def endW : Option (List (List UInt8)) → List UInt8
  | some ps => joinP ps
  | none => []
/-- What 'FollowWay' gives. -/
def followF (f y : List UInt8) : List UInt8 := if (okP f && wayB y) = true then endW (putWs (beginP f y) (spl y)) else []
theorem drop_getD {ws : List (List UInt8)} {k : Nat} (h : k < ws.length) : ws.drop k = ws.getD k [] :: ws.drop (k + 1) := by
  rw [List.drop_eq_getElem_cons h, List.getD_eq_getElem?_getD, List.getElem?_eq_getElem h]; rfl
/-- The four kinds of a word, and what each does. -/
theorem put_cases (ps : List (List UInt8)) (x : List UInt8) : ((x = [] ∨ (¬ x = [] ∧ x = [46])) ∧ putW ps x = some ps) ∨ (¬ x = [] ∧ ¬ x = [46] ∧ x = [46, 46] ∧ putW ps x = some ps.dropLast) ∨ (¬ x = [] ∧ ¬ x = [46] ∧ ¬ x = [46, 46] ∧ ps.length = 6 ∧ putW ps x = none) ∨ (¬ x = [] ∧ ¬ x = [46] ∧ ¬ x = [46, 46] ∧ ¬ ps.length = 6 ∧ putW ps x = some (ps ++ [x])) := by
  unfold putW
  by_cases h1 : x = []
  · exact .inl ⟨.inl h1, if_pos (.inl h1)⟩
  · by_cases h2 : x = [46]
    · exact .inl ⟨.inr ⟨h1, h2⟩, if_pos (.inr h2)⟩
    · have h12 : ¬ (x = [] ∨ x = [46]) := by simp [h1, h2]
      rw [if_neg h12]
      by_cases h3 : x = [46, 46]
      · exact .inr (.inl ⟨h1, h2, h3, if_pos h3⟩)
      · rw [if_neg h3]
        by_cases h4 : ps.length = 6
        · exact .inr (.inr (.inl ⟨h1, h2, h3, h4, if_pos h4⟩))
        · exact .inr (.inr (.inr ⟨h1, h2, h3, h4, if_neg h4⟩))
theorem own_take {B k n c : Nat} {A : Option Addr} {w : World} {ws : List ByteArray} (h : OwnS B w (.slice A n c) ws) (hk : k ≤ ws.length) : OwnS B w (.slice A k c) (ws.take k) := by
  have hl : (ws.take k).length = k := by rw [List.length_take]; omega
  refine ⟨by simp, ?_⟩
  rw [hl]
  rcases h.2 with ⟨e, e0⟩ | ⟨g, cap, cur, e1, e2, e3, e4, e5, e6, e7⟩
  · cases e; exact .inl ⟨by rw [show k = 0 from by omega], by omega⟩
  · cases e1
    refine .inr ⟨g, c, cur, rfl, e2, e3, by omega, e5, e6, ?_⟩
    have := congrArg (List.take (k * 1)) e7
    rw [List.take_take, Nat.min_eq_left (by omega)] at this
    rw [this, List.map_take, Nat.mul_one]
theorem own_drop1 {B c : Nat} {A : Option Addr} {w : World} {ls : List (List UInt8)} (h : OwnS B w (.slice A ls.length c) (ls.map mk)) : OwnS B w (.slice A (ls.length - 1) c) (ls.dropLast.map mk) := by
  have := own_take (k := ls.length - 1) h (by rw [List.length_map]; omega)
  rw [← List.map_take, ← List.dropLast_eq_take] at this
  exact this
theorem wpList_appS1at {ops : Array Oper} {rest : List Oper} {o : Oper} {a : Act} {Q : Exit → Act → World → Prop} (W : World) (hgd : o.guard = none) (s x : Operand)
    (ho : o.op = .call { callee := .builtin .append, args := #[s, x], argTypes := #[42, 42] })
    (B : Nat) (v : Value) (ws : List ByteArray) (hs : a.eval s = v) (hown : OwnS B W v ws) (hl : ws.length ≤ 1048600) (hB : B ≤ W.heap.size) (g : Nat) (hx : a.eval x = .slice (some ⟨g, 0, none⟩) 1 1) (t : ByteArray)
    (c0 : W.cell? ⟨g, 0, none⟩ = some (.string t))
    (h : ∀ v' w', OwnS B w' v' (ws ++ [t]) → W.grownBy w' v.ownBlock → (v'.ownBlock = v.ownBlock ∨ v'.ownBlock = some W.heap.size) → wpList Tryz.prog ops Q rest (a.put o.dst v') w') : wpList Tryz.prog ops Q (o :: rest) a W := by
  obtain ⟨i0, hi, hz0, hz1, hz2⟩ := info_parts infoStr
  refine wpList_append_own_at W hgd s x 42 ho B 9 i0 _ 1 16 Tryz.underlying42 hi hz0 hz1 hz2 rfl (by decide) v ws.length _ hs hown ⟨g, 0, none⟩ 1 1 [.string t] hx rfl ?c1 ?c0 ?c2 ?c3 hB ?_
  case c0 => intro u hu; simp at hu; subst hu; rfl
  case c1 =>
    intro j u hj
    match j, hj with
    | 0, hj => simp at hj; subst hj; exact c0
  case c2 => unfold maxLen; omega
  case c3 => omega
  intro v' w' hown' hg _ hat
  refine h v' w' ?_ hg hat
  unfold OwnS
  rw [List.length_append, List.map_append]
  exact hown'
theorem At1.grown {w w' : World} {b off : Nat} {ws : List ByteArray} {row : Option Nat} (h : At1 w b off ws) (hg : w.grownBy w' row) (hne : some b ≠ row) : At1 w' b off ws := fun i hi => hg.cell (h i hi) hne
theorem own_block {B : Nat} {w : World} {v : Value} {ws : List ByteArray} (h : OwnS B w v ws) : ∀ j, v.ownBlock = some j → B ≤ j ∧ j < w.heap.size := fun j hj => h.lt j hj
end Go.Proofs.YtkennmpbmbacpaaGreatDoor

namespace Go.Proofs.YtkennmpbmbacpaaGreatDoor
open Go.RowKit

theorem nameB_ch {l : List UInt8} (h : nameB l = true) : ∀ c ∈ l, c ≠ 47 ∧ c ≠ 46 := by
  intro c hc
  unfold nameB at h
  rw [Bool.and_eq_true, List.all_eq_true] at h
  obtain ⟨i, hi, rfl⟩ := List.mem_iff_getElem.1 hc
  have h1 := h.1 i (List.mem_range.2 hi)
  have hg : l.getD i 0 = l[i] := by rw [List.getD_eq_getElem?_getD, List.getElem?_eq_getElem hi]; rfl
  rw [hg] at h1
  generalize l[i] = c at h1
  refine ⟨fun e => ?_, fun e => ?_⟩
  · subst e
    revert h1
    unfold chOk
    simp
  · subst e
    revert h1
    unfold chOk
    simp
theorem nameB_ne {l : List UInt8} (h : nameB l = true) : l ≠ [] ∧ l ≠ [46] ∧ l ≠ [46, 46] := by
  refine ⟨fun e => ?_, fun e => ?_, fun e => ?_⟩
  · subst e; exact absurd h (by decide)
  · subst e; exact absurd h (by decide)
  · subst e; exact absurd h (by decide)
theorem spl_plain {x : List UInt8} (h : ∀ c ∈ x, c ≠ 47) : spl x = [x] := by
  induction x with
  | nil => rfl
  | cons c cs ih => exact spl_other (h c (List.mem_cons_self ..)) (ih fun d hd => h d (List.mem_cons_of_mem _ hd))
theorem spl_name {x : List UInt8} (h : nameB x = true) : spl x = [x] := spl_plain fun c hc => (nameB_ch h c hc).1
theorem spl_app2 (l r : List UInt8) : spl (l ++ 47 :: r) = spl l ++ spl r := by
  induction l with
  | nil => rw [List.nil_append, spl_slash]; rfl
  | cons c cs ih =>
    by_cases hc : c = 47
    · subst hc; rw [List.cons_append, spl_slash, spl_slash, ih]; rfl
    · obtain ⟨h, t, e⟩ := spl_ne cs
      rw [List.cons_append, spl_other hc e, spl_other hc (h := h) (t := t ++ spl r) (by rw [ih, e]; rfl)]; rfl
theorem spl_join : ∀ (x : List UInt8) (r : List (List UInt8)), (x :: r).all nameB = true → spl (x ++ joinL r) = x :: r
  | x, [], h => by
    rw [List.all_cons, Bool.and_eq_true] at h
    show spl (x ++ []) = [x]
    rw [List.append_nil]; exact spl_name h.1
  | x, y :: r, h => by
    rw [List.all_cons, Bool.and_eq_true] at h
    show spl (x ++ 47 :: (y ++ joinL r)) = _
    rw [spl_app2, spl_name h.1, spl_join y r h.2]; rfl
/-- What names are joined to is a path, and they are its names. -/
theorem join_ok {ws : List (List UInt8)} (h : namesB ws = true) : okP (joinP ws) = true ∧ partsP (joinP ws) = ws := by
  cases ws with
  | nil => exact partsP_root
  | cons x r =>
    rw [joinP_yes h (by simp)]
    have hall : (x :: r).all nameB = true := by unfold namesB at h; rw [Bool.and_eq_true] at h; exact h.2
    have hs := spl_join x r hall
    have hx : x ≠ [] := by
      rw [List.all_cons, Bool.and_eq_true] at hall
      exact (nameB_ne hall.1).1
    have := partsP_yes (r := x ++ joinL r) (by intro e; exact hx (List.append_eq_nil_iff.1 e).1) (by rw [hs]; exact h)
    rw [hs] at this
    exact this
theorem ok_names {p : List UInt8} (h : okP p = true) : namesB (partsP p) = true ∧ joinP (partsP p) = p := by
  cases p with
  | nil => cases h
  | cons c r =>
    have hc : c = 47 := by
      by_cases hc : c = 47
      · exact hc
      · rw [okP_other hc] at h; cases h
    subst hc
    by_cases hr : r = []
    · subst hr; exact ⟨rfl, rfl⟩
    · have hn : namesB (spl r) = true := by
        rw [okP_slash, beq_eq_false_iff_ne.2 hr, Bool.false_or] at h; exact h
      rw [(partsP_yes hr hn).2]
      exact ⟨hn, by rw [joinP_spl, if_pos hn]⟩
theorem ok_bad {p : List UInt8} (h : okP p = false) : partsP p = [] := partsP_no h
theorem namesB_iff {ws : List (List UInt8)} : namesB ws = true ↔ ws.length ≤ 6 ∧ ∀ x ∈ ws, nameB x = true := by
  unfold namesB
  rw [Bool.and_eq_true, decide_eq_true_eq, List.all_eq_true]
theorem join_bad {ws : List (List UInt8)} (h : joinP ws = []) : namesB ws = false := by
  cases hn : namesB ws
  · rfl
  · have := (join_ok hn).1
    rw [h] at this; cases this
theorem okP_ne {p : List UInt8} (h : okP p = true) : p ≠ [] := fun e => by subst e; cases h
/-- Of two paths one is below the other: by their names. -/
theorem rest_ok {p r : List UInt8} (h1 : okP p = true) (h2 : okP r = true) : restOk p r = prefB (partsP r) (partsP p) := by unfold restOk; rw [h1, h2]; rfl
theorem rest_yes {p r : List UInt8} (h : restOk p r = true) : okP p = true ∧ okP r = true ∧ partsP p = partsP r ++ restP p r := by
  have h0 := h
  unfold restOk prefB at h
  simp only [Bool.and_eq_true, decide_eq_true_eq] at h
  obtain ⟨h1, h2, h3, h4⟩ := h
  refine ⟨h1, h2, ?_⟩
  unfold restP
  rw [if_pos h0]
  conv => lhs; rw [← List.take_append_drop (partsP r).length (partsP p), h4]
theorem prefB_app (a b : List (List UInt8)) : prefB a (a ++ b) = true := by
  unfold prefB
  simp
theorem names_app {a b : List (List UInt8)} (h : namesB (a ++ b) = true) : namesB a = true ∧ namesB b = true := by
  rw [namesB_iff] at h ⊢
  rw [namesB_iff]
  rw [List.length_append] at h
  exact ⟨⟨by omega, fun x hx => h.2 x (List.mem_append_left _ hx)⟩, ⟨by omega, fun x hx => h.2 x (List.mem_append_right _ hx)⟩⟩
/-- The path inside, outside again. -/
theorem below_inside {r p : List UInt8} (h : restOk p r = true) : belowF r (insideF r p) = p := by
  obtain ⟨h1, h2, h3⟩ := rest_yes h
  have hn := (ok_names h1).1
  rw [h3] at hn
  have hj := join_ok (names_app hn).2
  unfold belowF insideF
  rw [if_pos h, hj.1, h2, show (true && true) = true from rfl, if_pos rfl, hj.2, ← h3]
  exact (ok_names h1).2
/-- The path outside is below the root, and inside again. -/
theorem inside_below {r p : List UInt8} (h : belowF r p ≠ []) : restOk (belowF r p) r = true ∧ insideF r (belowF r p) = p := by
  unfold belowF at h ⊢
  cases h1 : okP p
  · rw [h1] at h; exact absurd rfl h
  · cases h2 : okP r
    · rw [h1, h2] at h; exact absurd rfl h
    · rw [h1, h2] at h
      rw [show (true && true) = true from rfl, if_pos rfl] at h ⊢
      have hn : namesB (partsP r ++ partsP p) = true := by
        cases hn : namesB (partsP r ++ partsP p)
        · rw [joinP_no hn] at h; exact absurd rfl h
        · rfl
      have hj := join_ok hn
      have hr : restOk (joinP (partsP r ++ partsP p)) r = true := by
        rw [rest_ok hj.1 h2, hj.2]; exact prefB_app _ _
      refine ⟨hr, ?_⟩
      unfold insideF
      rw [if_pos hr]
      have h3 := (rest_yes hr).2.2
      rw [hj.2] at h3
      rw [← List.append_cancel_left h3]
      exact (ok_names h1).2
theorem below_self (a : List UInt8) : restOk a a = okP a := by
  unfold restOk
  cases okP a
  · rfl
  · simp [prefB]
theorem below_root (a : List UInt8) : restOk a [47] = okP a := by
  unfold restOk
  rw [partsP_root.1, partsP_root.2]
  cases okP a
  · rfl
  · simp [prefB]
theorem below_both {a b : List UInt8} (h1 : restOk a b = true) (h2 : restOk b a = true) : a = b := by
  obtain ⟨a1, b1, e1⟩ := rest_yes h1
  obtain ⟨_, _, e2⟩ := rest_yes h2
  have hl := congrArg List.length e1
  have hl2 := congrArg List.length e2
  rw [List.length_append] at hl hl2
  have hz : restP a b = [] := List.length_eq_zero_iff.1 (by omega)
  rw [hz, List.append_nil] at e1
  rw [← (ok_names a1).2, ← (ok_names b1).2, e1]
/-- A word of a valid way that is put behind names: names. -/
theorem put_names {ps qs : List (List UInt8)} {x : List UInt8} (hw : wordB x = true) (h : namesB ps = true) (e : putW ps x = some qs) : namesB qs = true := by
  rw [namesB_iff] at h ⊢
  rcases put_cases ps x with ⟨_, d⟩ | ⟨_, _, _, d⟩ | ⟨_, _, _, _, d⟩ | ⟨d1, d2, d3, d4, d⟩
  · rw [d] at e; cases e; exact h
  · rw [d] at e; cases e
    exact ⟨by rw [List.length_dropLast]; omega, fun y hy => h.2 y (by rw [List.dropLast_eq_take] at hy; exact List.mem_of_mem_take hy)⟩
  · rw [d] at e; cases e
  · rw [d] at e; cases e
    have hx : nameB x = true := by
      rcases wordB_cases x with ⟨k, _⟩ | ⟨_, k, _⟩ | ⟨_, _, k, _⟩ | ⟨_, _, _, k⟩
      · exact absurd k d1
      · exact absurd k d2
      · exact absurd k d3
      · rw [← k]; exact hw
    refine ⟨by rw [List.length_append, List.length_singleton]; omega, fun y hy => ?_⟩
    rcases List.mem_append.1 hy with hy | hy
    · exact h.2 y hy
    · rw [List.mem_singleton.1 hy]; exact hx
theorem puts_names : ∀ (ws ps qs : List (List UInt8)), ws.all wordB = true → namesB ps = true → putWs ps ws = some qs → namesB qs = true
  | [], ps, qs, _, h, e => by cases e; exact h
  | x :: r, ps, qs, hw, h, e => by
    rw [List.all_cons, Bool.and_eq_true] at hw
    have e' : (match putW ps x with | some q => putWs q r | none => none) = some qs := e
    cases hp : putW ps x with
    | none => rw [hp] at e'; cases e'
    | some q => rw [hp] at e'; exact puts_names r q qs hw.2 (put_names hw.1 h hp) e'
theorem begin_names (f y : List UInt8) : namesB (beginP f y) = true := by
  unfold beginP
  split
  · rfl
  · cases h : okP f
    · rw [partsP_no h]; rfl
    · exact (ok_names h).1
/-- Where a way leads: to a path, or nowhere. -/
theorem follow_path (f y : List UInt8) : followF f y = [] ∨ okP (followF f y) = true := by
  unfold followF
  split
  · next h =>
    rw [Bool.and_eq_true] at h
    have hw : (spl y).all wordB = true := by
      have := h.2
      unfold wayB at this
      rw [Bool.and_eq_true] at this
      exact this.2
    cases e : putWs (beginP f y) (spl y) with
    | none => exact .inl rfl
    | some qs => exact .inr (join_ok (puts_names _ _ _ hw (begin_names f y) e)).1
  · exact .inl rfl
theorem follow_point {f : List UInt8} (h : okP f = true) : followF f [46] = f := by
  unfold followF
  rw [h, show wayB [46] = true from by decide]
  show endW (putWs (beginP f [46]) [[46]]) = f
  rw [show beginP f [46] = partsP f from rfl]
  show joinP (partsP f) = f
  exact (ok_names h).2
theorem follow_root {f y : List UInt8} (h : okP f = true) (hy : Lib.hasPrefix y [47] = true) : followF [47] y = followF f y := by
  unfold followF beginP
  rw [h, hy, partsP_root.1]
  rfl
/-- The path above, and the last name. -/
def aboveF (s : List UInt8) : List UInt8 := if okP s = true ∧ partsP s ≠ [] then joinP (partsP s).dropLast else []
def lastF (s : List UInt8) : List UInt8 := if okP s = true ∧ partsP s ≠ [] then (partsP s).getLastD [] else []
def aboveOk (s : List UInt8) : Bool := okP s && !(partsP s).isEmpty
theorem drop_last : ∀ {ws : List (List UInt8)}, ws ≠ [] → ws.dropLast ++ [ws.getLastD []] = ws
  | [], h => absurd rfl h
  | [a], _ => rfl
  | a :: b :: r, _ => by
    have h := drop_last (ws := b :: r) (by simp)
    rw [List.getLastD_cons] at h
    rw [List.getLastD_cons, List.getLastD_cons, List.dropLast_cons_cons, List.cons_append, h]
theorem put_name {ps : List (List UInt8)} {x : List UInt8} (hx : nameB x = true) (hl : ps.length ≠ 6) : putW ps x = some (ps ++ [x]) := by
  have h := nameB_ne hx
  unfold putW
  rw [if_neg (by simp [h.1, h.2.1]), if_neg h.2.2, if_neg hl]
theorem wayB_name {x : List UInt8} (hx : nameB x = true) : wayB x = true := by
  unfold wayB
  rw [spl_name hx]
  simp [wordB, hx]
theorem above_law {s : List UInt8} (h : aboveOk s = true) : followF (aboveF s) (lastF s) = s ∧ restOk s (aboveF s) = true ∧ nameB (lastF s) = true ∧ okP (aboveF s) = true ∧ partsP (aboveF s) = (partsP s).dropLast := by
  unfold aboveOk at h
  rw [Bool.and_eq_true] at h
  obtain ⟨h1, h2⟩ := h
  have hne : partsP s ≠ [] := fun e => by rw [e] at h2; cases h2
  have hc : okP s = true ∧ partsP s ≠ [] := ⟨h1, hne⟩
  unfold aboveF lastF
  rw [if_pos hc, if_pos hc]
  have hn := (ok_names h1).1
  have hd := drop_last hne
  rw [← hd] at hn
  have ha := names_app hn
  have hx : nameB ((partsP s).getLastD []) = true := (namesB_iff.1 ha.2).2 _ (List.mem_singleton.2 rfl)
  have hj := join_ok ha.1
  have hlen := (namesB_iff.1 hn).1
  refine ⟨?_, ?_, hx, hj.1, hj.2⟩
  · unfold followF
    have hch := fun c hc => (nameB_ch hx c hc).1
    have hnx := nameB_ne hx
    have hw : wayB ((partsP s).getLastD []) = true := wayB_name hx
    have hb : beginP (joinP (partsP s).dropLast) ((partsP s).getLastD []) = (partsP s).dropLast := by
      unfold beginP
      have hp : Lib.hasPrefix ((partsP s).getLastD []) [47] = false := by
        generalize (partsP s).getLastD [] = x at hch hnx
        cases x with
        | nil => exact absurd rfl hnx.1
        | cons c r => exact (cut_other (fun r' e => hch c (List.mem_cons_self ..) (by cases e; rfl))).2
      rw [hp]
      exact hj.2
    rw [hj.1, hw, hb, spl_name hx, show (true && true) = true from rfl, if_pos rfl]
    rw [List.length_append, List.length_singleton] at hlen
    have hp : putW (partsP s).dropLast ((partsP s).getLastD []) = some ((partsP s).dropLast ++ [(partsP s).getLastD []]) := put_name hx (by omega)
    show endW (match putW (partsP s).dropLast ((partsP s).getLastD []) with | some q => putWs q [] | none => none) = s
    rw [hp, hd]
    exact (ok_names h1).2
  · rw [rest_ok h1 hj.1, hj.2]
    conv => lhs; arg 2; rw [← hd]
    exact prefB_app _ _
end Go.Proofs.YtkennmpbmbacpaaGreatDoor

namespace Go.Proofs.YtkennmpbmbacpaaGreatDoor
open Go.RowKit

/-- An append whose run is known, at the operation. -/
theorem wp_app_run {P : Program} {o : Oper} {a : Act} {w : World} {K : Act → World → Prop} {Q : Exit → Act → World → Prop} (s x : Operand) (t : TypeId)
    (ho : o.op = .call { callee := .builtin .append, args := #[s, x], argTypes := #[t, t] }) {v u : Value} (hs : a.eval s = v) (hx : a.eval x = u) {v' : Value} {w' : World}
    (hr : (Builtin.append_ #[t, t] o.type #[v, u]).run P w = .ok v' w') (h : K (a.put o.dst v') w') : o.wp P a w K Q := by
  unfold Oper.wp execOp
  simp only [ho, resolve, invoke, builtin, Sem.run_bind, Sem.run_pure, Result.andThen_ok, List.map_toArray, List.map_cons, List.map_nil, hs, hx, hr]
  exact h
/-- What an append leaves: the longer list, in the old row or in a new block. -/
def AppS (W : World) (B : Nat) (v : Value) (ws : List ByteArray) (v' : Value) (w' : World) : Prop :=
  OwnS B w' v' ws ∧ W.grownBy w' v.ownBlock ∧ (v'.ownBlock = v.ownBlock ∨ v'.ownBlock = some W.heap.size)
theorem run_appSG (W : World) (ty : TypeId) {B : Nat} {v : Value} {ws : List ByteArray} (hown : OwnS B W v ws) {u : Value} {m : List ByteArray} (h0 : SlS W u m) (hl : ws.length + m.length ≤ 1048600) (hB : B ≤ W.heap.size) :
    ∃ v' w', (Builtin.append_ #[42, 42] ty #[v, u]).run Tryz.prog W = .ok v' w' ∧ AppS W B v (ws ++ m) v' w' := by
  obtain ⟨i0, hi, hz0, hz1, hz2⟩ := info_parts infoStr
  obtain ⟨A, cap, rfl, h1, h2, h3⟩ := h0
  cases A with
  | none =>
    have hm : m = [] := by
      rcases h3 with h3 | ⟨b, off, e, _⟩
      · exact h3
      · cases e
    subst hm
    refine ⟨v, W, ?_, by rw [List.append_nil]; exact hown, World.grownBy.refl _ _, .inl rfl⟩
    rcases hown.2 with ⟨rfl, _⟩ | ⟨g, c, cur, rfl, _, _, hnc, _⟩
    · simp [Builtin.append_, run_underlying Tryz.underlying42, sizeOf, typeInfo, hi, Builtin.lenOf, Builtin.firstCells]
    · simp [Builtin.append_, run_underlying Tryz.underlying42, sizeOf, typeInfo, hi, Builtin.lenOf, Builtin.firstCells, hnc, storeCells]
  | some ad =>
    obtain ⟨v', w', hr, ho, hg, _, hat⟩ := run_append_own_at (P := Tryz.prog) W B 42 ty 9 i0 _ 1 16 Tryz.underlying42 hi hz0 hz1 hz2 rfl (by decide) v ws.length _ hown ad m.length cap (m.map Value.string) (by simp)
      (by
        intro j y hj
        rcases h3 with h3 | ⟨b, off, e, hb, hat⟩
        · subst h3; simp at hj
        · cases e
          have hjl : j < m.length := by
            have := (List.getElem?_eq_some_iff.1 hj).1
            simpa using this
          rw [Addr.add_lit, hat j hjl]
          rw [List.getElem?_map, List.getElem?_eq_getElem hjl] at hj
          unfold st
          rw [List.getD_eq_getElem?_getD, List.getElem?_eq_getElem hjl]
          exact hj)
      (by intro y hy; obtain ⟨z, _, rfl⟩ := List.mem_map.1 hy; rfl) (by unfold maxLen; omega) (by omega) hB
    refine ⟨v', w', hr, ?_, hg, hat⟩
    unfold OwnS
    rw [List.length_append, List.map_append]
    exact ho
theorem slS_one {W : World} {g : Nat} {t : ByteArray} (c0 : W.cell? ⟨g, 0, none⟩ = some (.string t)) : SlS W (.slice (some ⟨g, 0, none⟩) 1 1) [t] :=
  ⟨_, 1, rfl, Nat.le_refl _, by decide, .inr ⟨g, 0, rfl, block_lt_of_cell c0, fun i hi => by
    obtain rfl : i = 0 := by simp at hi; omega
    exact c0⟩⟩
section
variable {ops : Array Oper} {rest : List Oper} {o : Oper} {a : Act} {Q : Exit → Act → World → Prop} {K : Act → World → Prop} {E : Prop}
theorem step_appSG (W : World) (hgd : o.guard = none) (s x : Operand) (ho : o.op = .call { callee := .builtin .append, args := #[s, x], argTypes := #[42, 42] })
    (B : Nat) (v : Value) (ws : List ByteArray) (hs : a.eval s = v) (hown : OwnS B W v ws) (u : Value) (m : List ByteArray) (hx : a.eval x = u) (h0 : SlS W u m) (hl : ws.length + m.length ≤ 1048600) (hB : B ≤ W.heap.size)
    (h : ∀ v' w', AppS W B v (ws ++ m) v' w' → Below B W w' → K (a.put o.dst v') w') : if Region.wanted o (yielded ops a.tmps) = true then Oper.wp Tryz.prog o a W K Q else E := by
  rw [if_pos (by simp [Region.wanted, hgd])]
  obtain ⟨v', w', hr, ha⟩ := run_appSG W o.type hown h0 hl hB
  exact wp_app_run s x _ ho hs hx hr (h v' w' ha (Below.grown (Below.refl _ _) ha.2.1 hB (fun j hj => (hown.lt j hj).1)))
end
end Go.Proofs.YtkennmpbmbacpaaGreatDoor

namespace Go.Proofs.YtkennmpbmbacpaaGreatDoor
open Go.RowKit

theorem follow_size (f y : List UInt8) : (followF f y).length ≤ 54 := by
  rcases follow_path f y with h | h
  · rw [h]; exact Nat.zero_le _
  · obtain ⟨h1, h2⟩ := ok_names h
    rw [← h2]
    generalize partsP (followF f y) = ps at h1
    by_cases hne : ps = []
    · subst hne; decide
    · rw [joinP_yes h1 hne]
      have hn := namesB_iff.1 h1
      have := joinL_size (ws := ps) (List.all_eq_true.2 hn.2)
      omega
theorem ok_size {p : List UInt8} (h : okP p = true) : p.length ≤ 54 := by
  rw [← follow_point h]; exact follow_size _ _
theorem slS_at {w : World} {A : Option Addr} {n c k : Nat} {ls : List (List UInt8)} (h : SlS w (.slice A n c) (ls.map mk)) (hk : k < ls.length) : ∃ b off, A = some ⟨b, off, none⟩ ∧ b < w.heap.size ∧ w.cell? ⟨b, off + k, none⟩ = some (.string (mk (ls.getD k []))) := by
  obtain ⟨A', c', e, _, _, h3⟩ := h
  injection e with e1 _ _
  subst e1
  rcases h3 with h3 | ⟨b, off, rfl, hb, hat⟩
  · rw [List.map_eq_nil_iff] at h3; subst h3; simp at hk
  · refine ⟨b, off, rfl, hb, ?_⟩
    rw [hat k (by rw [List.length_map]; exact hk), st_mk hk]
theorem slS_cap {w : World} {A : Option Addr} {n c : Nat} {ls : List (List UInt8)} (h : SlS w (.slice A n c) (ls.map mk)) : n = ls.length ∧ ls.length ≤ c ∧ c ≤ 9223372036854775807 := by
  obtain ⟨A', c', e, h1, h2, _⟩ := h
  injection e with _ e2 e3
  rw [List.length_map] at e2 h1
  unfold maxLen at h2
  omega
theorem slS_nil (w : World) : SlS w (.slice none 0 0) (([] : List (List UInt8)).map mk) := ⟨none, 0, rfl, Nat.le_refl _, by decide, .inl rfl⟩
theorem own_val1 {B : Nat} {w : World} {v : Value} {ls : List (List UInt8)} {x : ByteArray} (h : OwnS B w v (ls.map mk ++ [x])) : ∃ A c, v = .slice A (ls.length + 1) c := by
  obtain ⟨A, c, e⟩ := own_val h
  exact ⟨A, c, by rw [e, List.length_append, List.length_map]; rfl⟩
theorem own_emptyG {B g : Nat} (W : World) (hg : g = W.heap.size) (hB : B ≤ W.heap.size) : OwnS B (W.alloc (.cells #[] 9)) (.slice (some ⟨g, 0, none⟩) 0 0) [] := by
  subst hg
  exact own_empty W hB
set_option maxRecDepth 100000 in
set_option maxHeartbeats 4000000 in
theorem followS_of (F Y : ByteArray) (w : World) (hf : F.size ≤ 1048576) (hy : Y.size ≤ 1048576) : Calls Tryz.prog 76 #[.string F, .string Y] w fun e w' => e = .returned (.string (mk (followF F.data.toList Y.data.toList))) ∧ Below w.heap.size w w' := by
  have h1 := pathPartsS_of F w hf
  have h2 := fun w => wayValidS_of Y w hy
  have h4 := fun w => words_of Y w hy
  have hf' : F.data.toList.length ≤ 1048576 := by rw [size_list]; exact hf
  have hy' : Y.data.toList.length ≤ 1048576 := by rw [size_list]; exact hy
  have hY : Y.toList = Y.data.toList := Lib.toList_data Y
  have hYs : Y.data.toList.length = Y.size := size_list Y
  have hY0 : ∀ (h : 0 < Y.size), Y.data.toList[0]? = some Y[0] := fun h => by rw [List.getElem?_eq_getElem (by rw [size_list]; exact h)]; rfl
  generalize F.data.toList = f at h1 hf' ⊢
  generalize Y.data.toList = y at h2 h4 hy' hY hYs hY0 ⊢
  have h6 := partsP_len f
  have hps := partsP_sizes f
  have hwl := spl_len y
  have hws := spl_word y
  rcases and2 (okP f) (wayB y) with e1 | ⟨e1, e2⟩ | ⟨e1, e2⟩
  · have hr : mk (followF f y) = ⟨#[]⟩ := by unfold followF; rw [e1]; rfl
    have Hr := Lib.hid hr; clear hr
    go_enter Tryz.func76, Tryz.ntmps76
    go_wp2_with fail
    refine h1.mono ?_
    rintro e w1 ⟨v1, rfl, o1, b1⟩
    obtain ⟨A, n, c, rfl⟩ := own_valn o1
    rw [e1]
    go_wp2
    go_ret
    exact ⟨by rw [Hr.out]; rfl, b1⟩
  · have hr : mk (followF f y) = ⟨#[]⟩ := by unfold followF; rw [e1, e2]; rfl
    have Hr := Lib.hid hr; clear hr
    go_enter Tryz.func76, Tryz.ntmps76
    go_wp2_with fail
    refine h1.mono ?_
    rintro e w1 ⟨v1, rfl, o1, b1⟩
    obtain ⟨A, n, c, rfl⟩ := own_valn o1
    rw [e1]
    go_wp2_with fail
    refine (h2 w1).mono ?_
    rintro e w2 ⟨rfl, b2⟩
    rw [e2]
    go_wp2
    go_ret
    exact ⟨by rw [Hr.out]; rfl, Below.step b2 b1.size b1⟩
  · have hr : followF f y = endW (putWs (beginP f y) (spl y)) := by unfold followF; rw [e1, e2]; rfl
    have hcase : (∃ h : 0 < Y.size, Y[0] = 47 ∧ beginP f y = []) ∨ ((Y.size = 0 ∨ ∃ h : 0 < Y.size, Y[0] ≠ 47) ∧ beginP f y = partsP f) := by
      unfold beginP
      cases y with
      | nil => exact .inr ⟨.inl hYs.symm, rfl⟩
      | cons a r =>
        have h0 : 0 < Y.size := by rw [← hYs]; simp
        have ha : a = Y[0] := by have := hY0 h0; simpa using this
        by_cases hc : Y[0] = 47
        · exact .inl ⟨h0, hc, by rw [ha, hc, (cut_slash r).2]; rfl⟩
        · exact .inr ⟨.inr ⟨h0, hc⟩, by rw [(cut_other (l := a :: r) (fun r' e => hc (by rw [← ha]; cases e; rfl))).2]; rfl⟩
    have hb6 : (beginP f y).length ≤ 6 := by
      rcases hcase with ⟨_, _, e⟩ | ⟨_, e⟩
      · rw [e]; exact Nat.zero_le _
      · rw [e]; exact h6
    have hbs : ∀ x ∈ beginP f y, x.length ≤ 1048576 := by
      rcases hcase with ⟨_, _, e⟩ | ⟨_, e⟩
      · rw [e]; intro x hx; cases hx
      · rw [e]; intro x hx; have := hps x hx; omega
    rw [hr]
    clear hr hps hY0
    generalize hps0 : beginP f y = ps0 at hcase hb6 hbs ⊢
    clear hps0
    have Hws := Lib.hid hws; clear hws
    generalize hwsl : spl y = ws at h4 hwl Hws ⊢
    clear hwsl
    have Hbs := Lib.hid hbs; clear hbs
    have H2 := Lib.hid h2; clear h2
    have H4 := Lib.hid h4; clear h4
    go_enter Tryz.func76, Tryz.ntmps76
    go_wp2_with fail
    refine h1.mono ?_
    rintro e w1 ⟨v1, rfl, o1, b1⟩
    have O1 := Lib.hid o1
    obtain ⟨A, n, c, rfl⟩ := own_valn o1
    rw [e1]
    go_wp2_with fail
    refine (H2.out w1).mono ?_
    rintro e w2 ⟨rfl, b2⟩
    rw [e2]
    have c2 := Below.step b2 b1.size b1
    have s2 := (ownS_sl O1.out).below b2
    have S2 := Lib.hid s2
    clear o1 s2 h1
    have hgo : (∃ h : 0 < Y.size, Y[0] = 47 ∧ ps0 = []) ∨ ((Y.size = 0) ∧ ps0 = partsP f) ∨ ((∃ h : 0 < Y.size, Y[0] ≠ 47) ∧ ps0 = partsP f) := by
      rcases hcase with h | ⟨h | h, e⟩
      · exact .inl h
      · exact .inr (.inl ⟨h, e⟩)
      · exact .inr (.inr ⟨h, e⟩)
    clear hcase
    have hcase2 : ∀ (Q : World → Value → Prop), True := fun _ => trivial
    clear hcase2
    have hloop : ∀ (w4 : World) (v4 p : Value), OwnS w2.heap.size w4 v4 (ws.map mk) → Below w.heap.size w w4 → SlS w4 p (ps0.map mk) → True := fun _ _ _ _ _ _ => trivial
    clear hloop
    rcases hgo with ⟨y0, y1, e4⟩ | ⟨y0, e4⟩ | ⟨⟨y0, y1⟩, e4⟩
    case' inl =>
      have f0 : Y.toList.isEmpty = false := by
        rw [hY, Bool.eq_false_iff]; intro h; rw [List.isEmpty_iff] at h; rw [h] at hYs; simp at hYs; omega
      have f1 : ((Y[0].toNat : Int) == 47) = true := by rw [y1]; rfl
      clear hY hYs y1
      go_wp2_with fail
      refine (H4.out _).mono ?_
      rintro e w4 ⟨v4, rfl, o4, b4⟩
      have s4 : SlS w4 (.slice (some ⟨w2.heap.size, 0, none⟩) 0 0) (ps0.map mk) := by rw [e4]; exact ⟨_, 0, rfl, Nat.le_refl _, by decide, .inl rfl⟩
      have c4 : Below w.heap.size w w4 := Below.step b4 (by simp; have := c2.size; omega) (Below.alloc c2 c2.size _)
    case' inr.inl =>
      have f0 : Y.toList = [] := by
        rw [hY]; exact List.length_eq_zero_iff.1 (by omega)
      clear hY hYs
      go_wp2_with fail
      refine (H4.out _).mono ?_
      rintro e w4 ⟨v4, rfl, o4, b4⟩
      have s4 : SlS w4 (.slice A n c) (ps0.map mk) := by rw [e4]; exact S2.out.below b4
      have c4 : Below w.heap.size w w4 := Below.step b4 c2.size c2
    case' inr.inr =>
      have f0 : Y.toList.isEmpty = false := by
        rw [hY, Bool.eq_false_iff]; intro h; rw [List.isEmpty_iff] at h; rw [h] at hYs; simp at hYs; omega
      have f1 : ((Y[0].toNat : Int) == 47) = false := by
        rw [beq_eq_false_iff_ne]; intro e
        exact y1 (UInt8.toNat_inj.1 (by have : Y[0].toNat = 47 := by omega
                                        rw [this]; rfl))
      clear hY hYs y1
      go_wp2_with fail
      refine (H4.out _).mono ?_
      rintro e w4 ⟨v4, rfl, o4, b4⟩
      have s4 : SlS w4 (.slice A n c) (ps0.map mk) := by rw [e4]; exact S2.out.below b4
      have c4 : Below w.heap.size w w4 := Below.step b4 c2.size c2
    all_goals
      have hs4 := ownS_sl o4
      have Hs4 := Lib.hid hs4
      have S4 := Lib.hid s4
      obtain ⟨AW, cW, rfl⟩ := sl_valm hs4
      clear hs4 s4 o4 e4 S2 O1
      go_wp2
      go_loopw [8, 5] (fun i p wr => ∃ (k : Nat) (ps : List (List UInt8)), k ≤ ws.length ∧ i = .int .i64 k ∧ putWs ps0 ws = putWs ps (ws.drop k) ∧ ps.length ≤ 6 ∧ (∀ x ∈ ps, x.length ≤ 1048576) ∧ SlS wr p (ps.map mk) ∧ SlS wr (.slice AW ws.length cW) (ws.map mk) ∧ Below w.heap.size w wr) (fun i _ _ => ws.length - (intOf i).toNat)
      case atStart => exact ⟨0, ps0, Nat.zero_le _, rfl, rfl, hb6, Hbs.out, S4.out, Hs4.out, c4⟩
      case round =>
        obtain ⟨k, ps, hk, rfl, hput, hp6, hpsz, hsp, hsw, hbl⟩ := hrel
        have Hput := Lib.hid hput
        have Hpsz := Lib.hid hpsz
        have Hsp := Lib.hid hsp
        have Hsw := Lib.hid hsw
        have Hbl := Lib.hid hbl
        have hwr : w.heap.size ≤ wr.heap.size := hbl.size
        obtain ⟨A', c', rfl⟩ := sl_valm hsp
        obtain ⟨_, hc1, hc2⟩ := slS_cap hsp
        clear hput hpsz hsw hbl hsp
        by_cases hlt : k < ws.length
        · obtain ⟨b, off, rfl, hb, cw⟩ := slS_at Hsw.out hlt
          have hpc := put_cases ps (ws.getD k [])
          have hdr := drop_getD hlt
          have hx1 : (mk (ws.getD k [])).toList = ws.getD k [] := mk_toList _
          have hxl : (ws.getD k []).length ≤ 1048576 := by
            have := Hws.out (ws.getD k []) (by rw [List.getD_eq_getElem?_getD, List.getElem?_eq_getElem hlt]; exact List.getElem_mem hlt)
            omega
          have hnx : ∀ q, putW ps (ws.getD k []) = some q → putWs ps0 ws = putWs q (ws.drop (k + 1)) := fun q hq => by
            rw [Hput.out, hdr]
            show (match putW ps (ws.getD k []) with | some q => putWs q (ws.drop (k + 1)) | none => none) = _
            rw [hq]
          have hno : putW ps (ws.getD k []) = none → putWs ps0 ws = none := fun hq => by
            rw [Hput.out, hdr]
            show (match putW ps (ws.getD k []) with | some q => putWs q (ws.drop (k + 1)) | none => none) = _
            rw [hq]
          have Hnx := Lib.hid hnx
          have Hno := Lib.hid hno
          clear hnx hno hdr
          have p7 : ¬ (6 : Int) < (ps.length : Int) := by omega
          have zk : IntKind.i64.wrap ((k : Int) + 1) = (k : Int) + 1 := IntWalk.i64_in _ (by omega)
          rcases hpc with ⟨d1, d2⟩ | ⟨d1, d2, d3, d4⟩ | ⟨d1, d2, d3, d4, d5⟩ | ⟨d1, d2, d3, d4, d5⟩
          · have D2 := Lib.hid d2; clear d2
            have d1' : (mk (ws.getD k [])).toList = [] ∨ (¬ (mk (ws.getD k [])).toList = [] ∧ (mk (ws.getD k [])).toList = [46]) := by rw [hx1]; exact d1
            clear d1 hx1
            generalize mk (ws.getD k []) = x at cw d1'
            rcases d1' with d1 | ⟨d1, d2⟩
            · go_wp2
              go_roundw
              case rel => exact ⟨k + 1, ps, by omega, by go_num, Hnx.out _ D2.out, hp6, Hpsz.out, Hsp.out, Hsw.out, Hbl.out⟩
              case measure => simp [intOf]; omega
            · have d1f : x.toList.isEmpty = false := by rw [Bool.eq_false_iff]; intro h; exact d1 (List.isEmpty_iff.1 h)
              go_wp2
              go_roundw
              case rel => exact ⟨k + 1, ps, by omega, by go_num, Hnx.out _ D2.out, hp6, Hpsz.out, Hsp.out, Hsw.out, Hbl.out⟩
              case measure => simp [intOf]; omega
          · have D4 := Lib.hid d4; clear d4
            have g1 : ¬ (mk (ws.getD k [])).toList = [] := by rw [hx1]; exact d1
            have g2 : ¬ (mk (ws.getD k [])).toList = [46] := by rw [hx1]; exact d2
            have g3 : (mk (ws.getD k [])).toList = [46, 46] := by rw [hx1]; exact d3
            clear d1 d2 d3 hx1
            generalize mk (ws.getD k []) = x at cw g1 g2 g3
            have g1f : x.toList.isEmpty = false := by rw [Bool.eq_false_iff]; intro h; exact g1 (List.isEmpty_iff.1 h)
            have g2f : (x.toList == [46]) = false := beq_eq_false_iff_ne.2 g2
            have hdl : ∀ x ∈ ps.dropLast, x.length ≤ 1048576 := fun x hx => Hpsz.out x (by rw [List.dropLast_eq_take] at hx; exact List.mem_of_mem_take hx)
            have Hdl := Lib.hid hdl
            have hdl6 : ps.dropLast.length ≤ 6 := by rw [List.length_dropLast]; omega
            have sdr : SlS wr (.slice A' (ps.length - 1) c') (ps.dropLast.map mk) := by
              rw [List.dropLast_eq_take, List.map_take]
              exact slS_take Hsp.out (by rw [List.length_map]; omega)
            have Sdr := Lib.hid sdr
            clear hdl sdr
            by_cases hp0 : ps.length = 0
            · have hp00 : ps = [] := List.length_eq_zero_iff.1 hp0
              have Hp00 := Lib.hid hp00
              have hp0' : ¬ (0 : Int) < (ps.length : Int) := by omega
              clear hp00
              go_wp2
              go_roundw
              case rel => exact ⟨k + 1, ps, by omega, by go_num, by have := Hnx.out _ D4.out; rw [Hp00.out] at this ⊢; exact this, hp6, Hpsz.out, Hsp.out, Hsw.out, Hbl.out⟩
              case measure => simp [intOf]; omega
            · obtain ⟨b', off', rfl, hb', _⟩ := slS_at Hsp.out (k := 0) (by omega)
              have hp0' : (0 : Int) < (ps.length : Int) := by omega
              have hz : ((ps.length - 1 : Nat) : Int) = (ps.length : Int) - 1 := by omega
              have p8 : ¬ (6 : Int) < (ps.length : Int) - 1 := by omega
              go_wp2
              go_roundw
              case rel => exact ⟨k + 1, ps.dropLast, by omega, by go_num, Hnx.out _ D4.out, hdl6, Hdl.out, Sdr.out, Hsw.out, Hbl.out⟩
              case measure => simp [intOf]; omega
          all_goals
            have D5 := Lib.hid d5; clear d5
            have D4 := Lib.hid d4
            first | (have p9 : (6 : Int) < (ps.length : Int) + 1 := by omega) | (have p9 : ¬ (6 : Int) < (ps.length : Int) + 1 := by omega)
            clear d4
            have g1 : ¬ (mk (ws.getD k [])).toList = [] := by rw [hx1]; exact d1
            have g2 : ¬ (mk (ws.getD k [])).toList = [46] := by rw [hx1]; exact d2
            have g3 : ¬ (mk (ws.getD k [])).toList = [46, 46] := by rw [hx1]; exact d3
            have hsz7 : ∀ x ∈ ps ++ [ws.getD k []], x.length ≤ 1048576 := fun x hx => by
              rcases List.mem_append.1 hx with h | h
              · exact Hpsz.out x h
              · rw [List.mem_singleton.1 h]; exact hxl
            have Hsz7 := Lib.hid hsz7
            have hmm : (ps ++ [ws.getD k []]).map mk = ps.map mk ++ [mk (ws.getD k [])] := by rw [List.map_append]; rfl
            have Hmm := Lib.hid hmm
            have hml : (ps.map mk).length = ps.length := List.length_map _
            have Hml := Lib.hid hml
            clear d1 d2 d3 hx1 hsz7 hmm hml
            generalize mk (ws.getD k []) = x at cw g1 g2 g3 Hmm
            have g1f : x.toList.isEmpty = false := by rw [Bool.eq_false_iff]; intro h; exact g1 (List.isEmpty_iff.1 h)
            have g2f : (x.toList == [46]) = false := beq_eq_false_iff_ne.2 g2
            have g3f : (x.toList == [46, 46]) = false := beq_eq_false_iff_ne.2 g3
            have hkw : (k : Int) < (ws.length : Int) := by omega
            go_wp2
            go_region_held3 (fun w' => w'.cell? ⟨b, off + k, none⟩ = some (.string x)) (first | assumption | (go_simp; done) | (rw [cx1]; first | assumption | (go_simp; done)) | (rw [cx2]; first | assumption | (go_simp; done))) (first | (refine step_appSG _ rfl (.tmp 41) (.tmp 42) rfl wr.heap.size (.slice (some ⟨_, 0, none⟩) 0 0) [] rfl ?_ _ (ps.map mk) rfl ?_ ?_ ?_ ?_; (focus (first | (refine own_emptyG _ ?_ ?_ <;> (simp; try omega); done) | (refine World.ownsRow.alloc (own_emptyG _ ?_ ?_) _ <;> (simp; try omega); done))); (focus (refine Hsp.out.below ?_; (repeat (first | exact Below.refl _ _ | exact Hbl.out | refine Below.ext ?_ (by first | omega | (simp; omega) | simp) | refine Below.setCell ?_ (by first | omega | (simp; omega) | simp) _ | refine Below.alloc ?_ (by first | omega | (simp; omega) | simp) _ | refine Below.drew ?_ | refine below_drewN ?_ _ | refine Below.step (by assumption) (by first | omega | (simp; omega) | simp) ?_)))); (focus (rw [Hml.out]; first | omega | (simp; done) | (simp; omega))); (focus (first | omega | (simp; done) | (simp; omega))); rintro v1 w1 ⟨o1, g1, a1⟩ hb1; have cx1 := hb1.cell (p := ⟨b, off + k, none⟩) hb; have hz1 := hb1.size; (try simp at hz1)) | (refine step_appSG _ rfl (.tmp 43) (.tmp 48) rfl wr.heap.size _ (ps.map mk) rfl ?_ _ [x] rfl ?_ ?_ ?_ ?_; (focus (first | exact o1 | exact World.ownsRow.alloc o1 _)); (focus (refine slS_one ?_; first | (go_simp; done) | (refine g1.cell ?_ ?_; (focus (go_simp)); (focus (simp [Value.ownBlock]; try omega))))); (focus (rw [Hml.out]; first | omega | (simp; done) | (simp; omega))); (focus (first | omega | (simp; done) | (simp; omega))); rintro v2 w2 ⟨o2, g2, a2⟩ hb2; have cx2 := hb2.cell (p := ⟨b, off + k, none⟩) hb; have hz2 := hb2.size; (try simp at hz2)))
            all_goals
              have t1 : Below w.heap.size w w1 := Below.step hb1 hwr (by (repeat (first | exact Below.refl _ _ | exact Hbl.out | refine Below.ext ?_ (by first | omega | (simp; omega) | simp) | refine Below.setCell ?_ (by first | omega | (simp; omega) | simp) _ | refine Below.alloc ?_ (by first | omega | (simp; omega) | simp) _ | refine Below.drew ?_ | refine below_drewN ?_ _ | refine Below.step (by assumption) (by first | omega | (simp; omega) | simp) ?_)))
              have t2 : Below w.heap.size w w2 := Below.step hb2 hwr (by first | exact t1 | exact Below.alloc t1 t1.size _)
              have s2 : SlS w2 v2 ((ps ++ [ws.getD k []]).map mk) := by rw [Hmm.out]; exact ownS_sl o2
              have sw2 : SlS w2 (.slice (some ⟨b, off, none⟩) ws.length cW) (ws.map mk) := Hsw.out.below (Below.step hb2 (Nat.le_refl _) (by first | exact Below.step hb1 (Nat.le_refl _) (by (repeat (first | exact Below.refl _ _ | exact Hbl.out | refine Below.ext ?_ (by first | omega | (simp; omega) | simp) | refine Below.setCell ?_ (by first | omega | (simp; omega) | simp) _ | refine Below.alloc ?_ (by first | omega | (simp; omega) | simp) _ | refine Below.drew ?_ | refine below_drewN ?_ _ | refine Below.step (by assumption) (by first | omega | (simp; omega) | simp) ?_))) | exact Below.alloc (Below.step hb1 (Nat.le_refl _) (by (repeat (first | exact Below.refl _ _ | exact Hbl.out | refine Below.ext ?_ (by first | omega | (simp; omega) | simp) | refine Below.setCell ?_ (by first | omega | (simp; omega) | simp) _ | refine Below.alloc ?_ (by first | omega | (simp; omega) | simp) _ | refine Below.drew ?_ | refine below_drewN ?_ _ | refine Below.step (by assumption) (by first | omega | (simp; omega) | simp) ?_)))) (by omega) _))
              have S2 := Lib.hid s2
              have Sw2 := Lib.hid sw2
              obtain ⟨A2, c2', rfl⟩ := own_val1 o2
              clear s2 sw2 o1 o2 g1 g2 a1 a2 hb1 hb2 cx1 cx2
              first
              | (have hz := Hno.out D5.out
                 have hr : mk (endW (putWs ps0 ws)) = ⟨#[]⟩ := by rw [hz]; rfl
                 have Hr := Lib.hid hr
                 clear hr hz
                 go_wp2
                 go_ret
                 exact ⟨by rw [Hr.out]; rfl, t2⟩)
              | (have hl7 : (ps ++ [ws.getD k []]).length ≤ 6 := by rw [List.length_append, List.length_singleton]; have := D4.out; omega
                 have Hl7 := Lib.hid hl7
                 clear hl7
                 go_wp2
                 go_roundw
                 case rel => exact ⟨k + 1, ps ++ [ws.getD k []], by omega, by go_num, Hnx.out _ D5.out, Hl7.out, Hsz7.out, S2.out, Sw2.out, t2⟩
                 case measure => simp [intOf]; omega)
        · obtain rfl : k = ws.length := by omega
          have hend : putWs ps0 ws = some ps := by rw [Hput.out, List.drop_length]; rfl
          have hj := joinS_of (.slice A' ps.length c') ps wr Hsp.out (by omega) Hpsz.out
          have hr : mk (endW (putWs ps0 ws)) = mk (joinP ps) := by rw [hend]; rfl
          have Hr := Lib.hid hr
          generalize mk (joinP ps) = z at hj Hr
          have Hj := Lib.hid hj
          clear hj hend hr
          go_wp2_with fail
          refine Hj.out.mono ?_
          rintro e w5 ⟨rfl, rfl⟩
          go_wp2
          go_ret
          exact ⟨by rw [Hr.out]; rfl, Hbl.out⟩
end Go.Proofs.YtkennmpbmbacpaaGreatDoor

namespace Go.Proofs.YtkennmpbmbacpaaGreatDoor
open Go.RowKit

theorem selS7l (v : Int) (x0 x1 x2 x3 x4 x5 x6 : ByteArray) (h : v.toNat < [Value.string x0, Value.string x1, Value.string x2, Value.string x3, Value.string x4, Value.string x5, Value.string x6].length) : [Value.string x0, Value.string x1, Value.string x2, Value.string x3, Value.string x4, Value.string x5, Value.string x6][v.toNat]'h = .string (selS v [x0, x1, x2, x3, x4, x5, x6]) := by
  have h' : v.toNat < 7 := h
  have : v.toNat = 0 ∨ v.toNat = 1 ∨ v.toNat = 2 ∨ v.toNat = 3 ∨ v.toNat = 4 ∨ v.toNat = 5 ∨ v.toNat = 6 := by omega
  rcases this with h | h | h | h | h | h | h <;> simp [h, selS]
@[go_sem] theorem selS7g (v : Int) (x0 x1 x2 x3 x4 x5 x6 : ByteArray) (h : v.toNat < [Value.string x0, Value.string x1, Value.string x2, Value.string x3, Value.string x4, Value.string x5, Value.string x6].length) : [Value.string x0, Value.string x1, Value.string x2, Value.string x3, Value.string x4, Value.string x5, Value.string x6][v.toNat]'h = .string (selS v [x0, x1, x2, x3, x4, x5, x6]) := selS7l v x0 x1 x2 x3 x4 x5 x6 h
@[go_sem] theorem selS7 {v : Int} (h0 : 0 ≤ v) (h1 : v < 7) (x0 x1 x2 x3 x4 x5 x6 : ByteArray) : [Value.string x0, Value.string x1, Value.string x2, Value.string x3, Value.string x4, Value.string x5, Value.string x6][v.toNat]? = some (.string (selS v [x0, x1, x2, x3, x4, x5, x6])) := by
  have hl : v.toNat < [Value.string x0, Value.string x1, Value.string x2, Value.string x3, Value.string x4, Value.string x5, Value.string x6].length := by simp; omega
  rw [List.getElem?_eq_getElem hl, selS7l]
@[go_sem] theorem selS7a {v : Int} (h0 : 0 ≤ v) (h1 : v < 7) (x0 x1 x2 x3 x4 x5 x6 : ByteArray) : (#[Value.string x0, Value.string x1, Value.string x2, Value.string x3, Value.string x4, Value.string x5, Value.string x6] : Array Value)[v.toNat]? = some (.string (selS v [x0, x1, x2, x3, x4, x5, x6])) := by
  rw [List.getElem?_toArray]; exact selS7 h0 h1 x0 x1 x2 x3 x4 x5 x6
theorem ownS_re {B R d d' : Nat} {w : World} {u u' v : Value} {os : Array Obj} {ws : List ByteArray} (h : OwnS B (ext (w.setCell ⟨R, 1, none⟩ u) d os) v ws) (hR : R < B) : OwnS B (ext (w.setCell ⟨R, 1, none⟩ u') d' os) v ws := by
  refine ⟨h.1, h.2.imp id fun ⟨g, c, cur, e1, e2, e3, e4⟩ => ⟨g, c, cur, e1, e2, ?_, e4⟩⟩
  rw [← e3]
  simp only [ext, World.setCell, Array.getElem?_append, Array.size_modify, Array.getElem?_modify]
  rw [if_neg (show ¬ R = g from by omega), if_neg (show ¬ R = g from by omega)]
theorem ownS_re2 {B R d d' : Nat} {w : World} {u u' v : Value} {os os' : Array Obj} {ws : List ByteArray} (h : OwnS B (ext (w.setCell ⟨R, 1, none⟩ u) d os) v ws) (hR : R < B) : OwnS B (ext (w.setCell ⟨R, 1, none⟩ u') d' (os ++ os')) v ws := by
  rw [← ext_ext (d := d')]
  exact ownS_ext (ownS_re h hR)
theorem re_drew {R d0 d : Nat} {w : World} {u u' : Value} {os : Array Obj} (hR : R < w.heap.size) : ext ((ext (w.setCell ⟨R, 1, none⟩ u) d0 #[]).setCell ⟨R, 1, none⟩ u') d os = ext (w.setCell ⟨R, 1, none⟩ u') d os := by
  have h : LtA R (w.setCell ⟨R, 1, none⟩ u).heap.size := by unfold LtA; rw [size_setCell]; exact hR
  rw [ext_setCell h, ext_ext, setCell_twice, Array.empty_append]
set_option maxHeartbeats 2000000 in
theorem l20Name_any0 (R : Nat) (p : Int) (w : World) (hr : Rd w R p) (hp : p ≤ 1500000000) : Calls Tryz.prog 138 #[.pointer (some ⟨R, 0, none⟩), .int .i64 0] w (Drew w R p 1 (StrN 3)) := by
  have hR := hr.lt
  have hp0 := hr.pos
  go_enter Tryz.func138, Tryz.ntmps138
  go_wp2_with (go_at_call 63; refine (odd_zero _ _).mono ?_; rintro e w' ⟨rfl, rfl⟩)
  refine (pick_any _ ?_ _ _ ?_ ?_).mono ?_; rotate_left; (focus ((repeat (first | assumption | refine Rd.ext ?_ | refine Rd.drew ?_ | refine Rd.drewN ?_ | refine Rd.set (by assumption) ?_ | refine Rd.lit (by assumption) (by simp) ?_ | refine Rd.alloc ?_ _ | omega)))); (focus omega); rintro e w' ⟨c, dc, rfl, lc, hc, h2, rfl⟩; replace hc := hc (by omega); clear h2
  have hx := selS_size (v := c) (l := [⟨#[97]⟩, ⟨#[98]⟩, ⟨#[99, 49]⟩, ⟨#[116, 109, 112]⟩]) (N := 3) (by decide)
  go_wp2
  simp [bodyPost, results, Tryz.results138, go_sem]
  exact Drew.mk (p + 1) (by (repeat (first | exact Below.refl _ _ | exact Hbl.out | refine Below.ext ?_ (by first | omega | (simp; omega) | simp) | refine Below.setCell ?_ (by first | omega | (simp; omega) | simp) _ | refine Below.alloc ?_ (by first | omega | (simp; omega) | simp) _ | refine Below.drew ?_ | refine below_drewN ?_ _ | refine Below.step (by assumption) (by first | omega | (simp; omega) | simp) ?_))) (by omega) (by omega) ⟨_, rfl, hx⟩

/-- Names are drawn: at most 3, each of at most 3 signs. -/
def NamesGot (w : World) (R : Nat) (p k : Int) (e : Ending) (w' : World) : Prop :=
  ∃ (v : Value) (ls : List (List UInt8)) (q : Int) (d : Nat) (os : Array Obj), e = .returned v ∧ p ≤ q ∧ q ≤ p + k ∧ ls.length ≤ 3 ∧ (∀ x ∈ ls, x.length ≤ 3) ∧ w' = ext (w.setCell ⟨R, 1, none⟩ (.int .i64 q)) d os ∧ OwnS w.heap.size w' v (ls.map mk)
theorem own_emptyM {B g : Nat} (W : World) (hg : g = W.heap.size) (hB : B ≤ W.heap.size) : OwnS B (W.alloc (.cells #[] 9)) (.slice (some ⟨g, 0, none⟩) 0 0) (([] : List (List UInt8)).map mk) := by
  subst hg
  exact own_empty W hB
theorem own_shapeM {B : Nat} {w : World} {v : Value} {ls : List (List UInt8)} (h : OwnS B w v (ls.map mk)) : ∃ A c, v = .slice A ls.length c := by
  rcases h.2 with ⟨rfl, e⟩ | ⟨g, c, cur, rfl, _⟩
  · rw [List.length_map] at e; exact ⟨none, 0, by rw [e]⟩
  · exact ⟨_, c, by rw [List.length_map]⟩
theorem ownS_alloc {B : Nat} {w : World} {v : Value} {ws : List ByteArray} (h : OwnS B w v ws) (o : Obj) : OwnS B (w.alloc o) v ws := World.ownsRow.alloc h o
set_option maxHeartbeats 4000000 in
theorem l20Names_any0 (R : Nat) (p : Int) (w : World) (hr : Rd w R p) (hp : p ≤ 1200000000) : Calls Tryz.prog 121 #[.pointer (some ⟨R, 0, none⟩), .int .i64 0] w (NamesGot w R p 4) := by
  have hR := hr.lt
  have hp0 := hr.pos
  go_enter Tryz.func121, Tryz.ntmps121
  (go_wp2_with fail); refine (pick_any _ ?_ _ _ ?_ ?_).mono ?_; rotate_left; (focus ((repeat (first | assumption | refine Rd.ext ?_ | refine Rd.drew ?_ | refine Rd.drewN ?_ | refine Rd.set (by assumption) ?_ | refine Rd.lit (by assumption) (by simp) ?_ | refine Rd.alloc ?_ _ | omega)))); (focus omega); rintro e w' ⟨m, dm, rfl, lm, hm, h2, rfl⟩; replace hm := hm (by omega); clear h2
  go_wp2
  go_loopw [5, 6] (fun o i wr => ∃ (j : Int) (ls : List (List UInt8)) (q : Int) (d : Nat) (os : Array Obj), i = .int .i64 j ∧ 0 ≤ j ∧ (ls.length : Int) + j ≤ 3 ∧ (∀ x ∈ ls, x.length ≤ 3) ∧ p ≤ q ∧ q ≤ p + 4 - j ∧ wr = ext (w.setCell ⟨R, 1, none⟩ (.int .i64 q)) d os ∧ OwnS w.heap.size wr o (ls.map mk)) (fun _ i _ => (intOf i).toNat)
  case atStart =>
    obtain ⟨d, os, e⟩ := ext_of_below (show Below (w.setCell ⟨R, 1, none⟩ (.int .i64 (p + 1))).heap.size (w.setCell ⟨R, 1, none⟩ (.int .i64 (p + 1))) (ext ((w.setCell ⟨R, 1, none⟩ (.int .i64 (p + 1))).alloc (.cells #[] 9)) dm #[]) from (by (repeat (first | exact Below.refl _ _ | exact Hbl.out | refine Below.ext ?_ (by first | omega | (simp; omega) | simp) | refine Below.setCell ?_ (by first | omega | (simp; omega) | simp) _ | refine Below.alloc ?_ (by first | omega | (simp; omega) | simp) _ | refine Below.drew ?_ | refine below_drewN ?_ _ | refine Below.step (by assumption) (by first | omega | (simp; omega) | simp) ?_))))
    exact ⟨m, [], p + 1, d, os, rfl, lm, by simp; omega, by simp, by omega, by omega, e, ownS_ext (own_emptyM _ (by simp) (by simp))⟩
  case round =>
    obtain ⟨j, ls, q, d, os, rfl, j0, j1, hsz, q1, q2, rfl, hown⟩ := hrel
    obtain ⟨A, cap, rfl⟩ := own_shapeM hown
    have Hown := Lib.hid hown
    have Hsz := Lib.hid hsz
    clear hown hsz
    by_cases hlt : 0 < j
    · have zj : IntKind.i64.wrap (j - 1) = j - 1 := IntWalk.i64_in _ (by omega)
      go_wp2_with fail
      refine (l20Name_any0 R q _ ?_ (by omega)).mono ?_
      · (repeat (first | assumption | refine Rd.ext ?_ | refine Rd.drew ?_ | refine Rd.drewN ?_ | refine Rd.set (by assumption) ?_ | refine Rd.lit (by assumption) (by simp) ?_ | refine Rd.alloc ?_ _ | omega))
      rintro e w' ⟨v, q', d', os', rfl, q3, q4, ⟨x, rfl, hx⟩, rfl⟩
      go_wp2_with (at_builtin; refine wpList_appS1 _ rfl (.tmp 14) (.tmp 17) rfl w.heap.size _ (ls.map mk) rfl ?cO ?cL ?cB _ rfl x ?c0 ?_)
      case cO => repeat (first | exact ownS_re Hown.out (by omega) | exact ownS_re2 Hown.out (by omega) | refine ownS_ext ?_ | refine ownS_alloc ?_ _)
      case cL => rw [List.length_map]; omega
      case cB => simp; try omega
      case c0 => simp [go_sem]
      intro v' w' o' hg'
      have hbl' : Below (w.setCell ⟨R, 1, none⟩ (.int .i64 q')).heap.size (w.setCell ⟨R, 1, none⟩ (.int .i64 q')) w' := Below.grown ((by (repeat (first | exact Below.refl _ _ | exact Hbl.out | refine Below.ext ?_ (by first | omega | (simp; omega) | simp) | refine Below.setCell ?_ (by first | omega | (simp; omega) | simp) _ | refine Below.alloc ?_ (by first | omega | (simp; omega) | simp) _ | refine Below.drew ?_ | refine below_drewN ?_ _ | refine Below.step (by assumption) (by first | omega | (simp; omega) | simp) ?_)))) hg' (by simp; try omega) (fun k hk => by have := (Hown.out.lt k hk).1; simp; omega)
      obtain ⟨d', os', rfl⟩ := ext_of_below hbl'
      have o2 : OwnS w.heap.size (ext (w.setCell ⟨R, 1, none⟩ (.int .i64 q')) d' os') v' ((ls ++ [x.data.toList]).map mk) := by
        rw [List.map_append, List.map_singleton, ← mk_list x]; exact o'
      have hs2 : ∀ y ∈ ls ++ [x.data.toList], y.length ≤ 3 := fun y hy => by
        rcases List.mem_append.1 hy with h | h
        · exact Hsz.out y h
        · rw [List.mem_singleton.1 h, size_list]; exact hx
      clear o' hg'
      have O2 := Lib.hid o2
      have Hs2 := Lib.hid hs2
      obtain ⟨A2, n2, rfl⟩ := own_shapeM o2
      clear o2 hs2
      go_wp2
      go_roundw
      case rel => exact ⟨j - 1, _, q', d', os', by go_num, by omega, by simp; omega, Hs2.out, by omega, by omega, rfl, O2.out⟩
      case measure => simp [intOf]; omega
    · go_wp2_with (go_at_call 63; refine (odd_zero _ _).mono ?_; rintro e w' ⟨rfl, rfl⟩)
      go_ret
      exact ⟨_, ls, q, d, os, rfl, by omega, by omega, by omega, Hsz.out, rfl, Hown.out⟩
theorem joinL_size3 : ∀ {ws : List (List UInt8)}, (∀ x ∈ ws, x.length ≤ 3) → (joinL ws).length ≤ 4 * ws.length
  | [], _ => Nat.le_refl _
  | x :: r, h => by
    have h1 := h x (List.mem_cons_self ..)
    have h2 := joinL_size3 (ws := r) fun y hy => h y (List.mem_cons_of_mem _ hy)
    simp only [joinL, List.length_cons, List.length_append]; omega
theorem joinP_size3 {ws : List (List UInt8)} (h : ∀ x ∈ ws, x.length ≤ 3) (hl : ws.length ≤ 3) : (joinP ws).length ≤ 16 := by
  unfold joinP
  split
  · split
    · decide
    · have := joinL_size3 h; omega
  · exact Nat.zero_le _
set_option maxHeartbeats 2000000 in
/-- A path is drawn, or some other text: at most 16 signs. -/
theorem l20Path_any (R : Nat) (p n : Int) (w : World) (hr : Rd w R p) (hp : p ≤ 1100000000) (hn : n = 0 ∨ (1 ≤ n ∧ n ≤ 1000)) : Calls Tryz.prog 102 #[.pointer (some ⟨R, 0, none⟩), .int .i64 n] w (Drew w R p 6 (StrN 16)) := by
  have hR := hr.lt
  have hp0 := hr.pos
  rcases hn with rfl | ⟨hn, hn'⟩
  · go_enter Tryz.func102, Tryz.ntmps102
    go_wp2_with (go_at_call 63; refine (odd_zero _ _).mono ?_; rintro e w' ⟨rfl, rfl⟩)
    refine (l20Names_any0 R p _ ?_ (by omega)).mono ?_
    · (repeat (first | assumption | refine Rd.ext ?_ | refine Rd.drew ?_ | refine Rd.drewN ?_ | refine Rd.set (by assumption) ?_ | refine Rd.lit (by assumption) (by simp) ?_ | refine Rd.alloc ?_ _ | omega))
    rintro e w' ⟨v, ls, q, d, os, rfl, q1, q2, hl, hsz, rfl, ho⟩
    have hj := joinS_of v ls _ (ownS_sl ho) (by omega) (fun x hx => by have := hsz x hx; omega)
    have hx : (mk (joinP ls)).size ≤ 16 := by rw [mk_size]; exact joinP_size3 hsz hl
    generalize mk (joinP ls) = x at hj hx
    obtain ⟨A, c, rfl⟩ := own_shapeM ho
    clear ho hsz
    go_wp2_with fail
    refine hj.mono ?_
    rintro e w' ⟨rfl, rfl⟩
    go_wp2
    simp [bodyPost, results, Tryz.results102, go_sem]
    exact Drew.mk q (by (repeat (first | exact Below.refl _ _ | exact Hbl.out | refine Below.ext ?_ (by first | omega | (simp; omega) | simp) | refine Below.setCell ?_ (by first | omega | (simp; omega) | simp) _ | refine Below.alloc ?_ (by first | omega | (simp; omega) | simp) _ | refine Below.drew ?_ | refine below_drewN ?_ _ | refine Below.step (by assumption) (by first | omega | (simp; omega) | simp) ?_))) (by omega) (by omega) ⟨_, rfl, hx⟩
  · go_enter Tryz.func102, Tryz.ntmps102
    go_wp2_with (go_at_call 63; refine (odd_any _ ?_ _ _ ?_ ?_ ?_ ?_).mono ?_; rotate_left; (focus ((repeat (first | assumption | refine Rd.ext ?_ | refine Rd.drew ?_ | refine Rd.drewN ?_ | refine Rd.set (by assumption) ?_ | refine Rd.lit (by assumption) (by simp) ?_ | refine Rd.alloc ?_ _ | omega)))); (focus omega); (focus omega); (focus omega); rintro e w' ⟨b, d, rfl, rfl⟩)
    · refine (pick_any _ ?_ _ _ ?_ ?_).mono ?_; rotate_left; (focus ((repeat (first | assumption | refine Rd.ext ?_ | refine Rd.drew ?_ | refine Rd.drewN ?_ | refine Rd.set (by assumption) ?_ | refine Rd.lit (by assumption) (by simp) ?_ | refine Rd.alloc ?_ _ | omega)))); (focus omega); rintro e w' ⟨c, dc, rfl, lc, hc, h2, rfl⟩; replace hc := hc (by omega); clear h2
      have hx := selS_size (v := c) (l := [⟨#[]⟩, ⟨#[97]⟩, ⟨#[47, 47]⟩, ⟨#[47, 97, 47]⟩, ⟨#[47, 65]⟩, ⟨#[47, 97, 47, 97, 47, 97, 47, 97, 47, 97, 47, 97, 47, 97]⟩, ⟨#[47, 97, 47, 47, 98]⟩]) (N := 16) (by decide)
      go_wp2
      simp [bodyPost, results, Tryz.results102, go_sem]
      exact Drew.mk (p + 1 + 1) (by (repeat (first | exact Below.refl _ _ | exact Hbl.out | refine Below.ext ?_ (by first | omega | (simp; omega) | simp) | refine Below.setCell ?_ (by first | omega | (simp; omega) | simp) _ | refine Below.alloc ?_ (by first | omega | (simp; omega) | simp) _ | refine Below.drew ?_ | refine below_drewN ?_ _ | refine Below.step (by assumption) (by first | omega | (simp; omega) | simp) ?_))) (by omega) (by omega) ⟨_, rfl, hx⟩
    · refine (l20Names_any0 R (p + 1) _ ?_ (by omega)).mono ?_
      · (repeat (first | assumption | refine Rd.ext ?_ | refine Rd.drew ?_ | refine Rd.drewN ?_ | refine Rd.set (by assumption) ?_ | refine Rd.lit (by assumption) (by simp) ?_ | refine Rd.alloc ?_ _ | omega))
      rintro e w' ⟨v, ls, q, d, os, rfl, q1, q2, hl, hsz, e1, ho⟩
      rw [re_drew hR] at e1
      subst e1
      have hj := joinS_of v ls _ (ownS_sl ho) (by omega) (fun x hx => by have := hsz x hx; omega)
      have hx : (mk (joinP ls)).size ≤ 16 := by rw [mk_size]; exact joinP_size3 hsz hl
      generalize mk (joinP ls) = x at hj hx
      obtain ⟨A, c, rfl⟩ := own_shapeM ho
      clear ho hsz
      go_wp2_with fail
      refine hj.mono ?_
      rintro e w' ⟨rfl, rfl⟩
      go_wp2
      simp [bodyPost, results, Tryz.results102, go_sem]
      exact Drew.mk q (by (repeat (first | exact Below.refl _ _ | exact Hbl.out | refine Below.ext ?_ (by first | omega | (simp; omega) | simp) | refine Below.setCell ?_ (by first | omega | (simp; omega) | simp) _ | refine Below.alloc ?_ (by first | omega | (simp; omega) | simp) _ | refine Below.drew ?_ | refine below_drewN ?_ _ | refine Below.step (by assumption) (by first | omega | (simp; omega) | simp) ?_))) (by omega) (by omega) ⟨_, rfl, hx⟩
end Go.Proofs.YtkennmpbmbacpaaGreatDoor

namespace Go.Proofs.YtkennmpbmbacpaaGreatDoor
open Go.RowKit

/-- What 'AboveOf' hands back. -/
def AbvGot (w : World) (s : List UInt8) (e : Ending) (w' : World) : Prop := e = .returned (.tuple #[.string (mk (aboveF s)), .string (mk (lastF s)), .bool (aboveOk s)]) ∧ Below w.heap.size w w'
theorem above_no {s : List UInt8} (h : okP s = false ∨ partsP s = []) : aboveF s = [] ∧ lastF s = [] ∧ aboveOk s = false := by
  have hc : ¬ (okP s = true ∧ partsP s ≠ []) := by
    rcases h with h | h
    · rw [h]; simp
    · rw [h]; simp
  refine ⟨by unfold aboveF; rw [if_neg hc], by unfold lastF; rw [if_neg hc], ?_⟩
  unfold aboveOk
  rcases h with h | h
  · rw [h]; rfl
  · rw [h]; simp
theorem lastD_getD : ∀ {ws : List (List UInt8)}, ws ≠ [] → ws.getLastD [] = ws.getD (ws.length - 1) []
  | [], h => absurd rfl h
  | [a], _ => rfl
  | a :: b :: r, _ => by
    have h := lastD_getD (ws := b :: r) (by simp)
    rw [List.getLastD_cons] at h
    rw [List.getLastD_cons, List.getLastD_cons, h]
    rfl
theorem above_yes {s : List UInt8} (h : okP s = true) (hne : partsP s ≠ []) : aboveF s = joinP ((partsP s).take ((partsP s).length - 1)) ∧ lastF s = (partsP s).getD ((partsP s).length - 1) [] ∧ aboveOk s = true := by
  have hc : okP s = true ∧ partsP s ≠ [] := ⟨h, hne⟩
  refine ⟨by unfold aboveF; rw [if_pos hc, List.dropLast_eq_take], ?_, ?_⟩
  · unfold lastF
    rw [if_pos hc]
    exact lastD_getD hne
  · unfold aboveOk
    rw [h]
    cases hp : partsP s with
    | nil => exact absurd hp hne
    | cons a r => rfl
set_option maxRecDepth 100000 in
set_option maxHeartbeats 1000000 in
theorem aboveS_of (S : ByteArray) (w : World) (hs : S.size ≤ 1048576) : Calls Tryz.prog 43 #[.string S] w (AbvGot w S.data.toList) := by
  have h1 := pathPartsS_of S w hs
  have hs' : S.data.toList.length ≤ 1048576 := by rw [size_list]; exact hs
  generalize S.data.toList = s at h1 hs' ⊢
  have h6 := partsP_len s
  have hps := partsP_sizes s
  by_cases hno : okP s = false ∨ partsP s = []
  · obtain ⟨k1, k2, k3⟩ := above_no hno
    unfold AbvGot
    rw [k1, k2, k3]
    have hcase : okP s = false ∨ (okP s = true ∧ (partsP s).length = 0) := by
      rcases hno with h | h
      · exact .inl h
      · cases hk : okP s
        · exact .inl rfl
        · exact .inr ⟨rfl, by rw [h]; rfl⟩
    clear k1 k2 k3 hno hps
    rcases hcase with e1 | ⟨e1, e2⟩
    all_goals
      go_enter Tryz.func43, Tryz.ntmps43
      go_wp2_with fail
      refine h1.mono ?_
      rintro e w1 ⟨v1, rfl, o1, b1⟩
      obtain ⟨A, c, rfl⟩ := own_valm o1
      rw [e1]
      go_wp2
      go_ret3
      exact ⟨rfl, b1⟩
  · have e1 : okP s = true := by cases h : okP s; exact absurd (.inl h) hno; rfl
    have hne : partsP s ≠ [] := fun e => hno (.inr e)
    obtain ⟨k1, k2, k3⟩ := above_yes e1 hne
    unfold AbvGot
    rw [k1, k2, k3]
    have hlp : 0 < (partsP s).length := List.length_pos_iff.2 hne
    clear k1 k2 k3 hno hne
    obtain ⟨ps, hps0⟩ : ∃ ps, ps = partsP s := ⟨_, rfl⟩
    rw [← hps0] at h6 hps hlp ⊢
    have Hps0 := Lib.hid hps0; clear hps0
    have h6' : (ps.take (ps.length - 1)).length ≤ 1048600 := by rw [List.length_take]; omega
    have hsz : ∀ x ∈ ps.take (ps.length - 1), x.length ≤ 1048576 := fun x hx => by have := hps x (List.mem_of_mem_take hx); omega
    go_enter Tryz.func43, Tryz.ntmps43
    go_wp2_with fail
    refine h1.mono ?_
    rintro e w1 ⟨v1, rfl, o1, b1⟩
    rw [← Hps0.out] at o1
    have s1 := ownS_sl o1
    obtain ⟨A, c, rfl⟩ := own_valm o1
    obtain ⟨b, off, rfl, hb, cw⟩ := slS_at s1 (k := ps.length - 1) (by omega)
    have hcap := slS_cap s1
    have hc1 := hcap.2.1
    have hc2 := hcap.2.2
    clear hcap
    have hj := fun n => quiet_same (joinS_of (.slice (some ⟨b, off, none⟩) (ps.length - 1) c) (ps.take (ps.length - 1)) (w1.drewN n) (by rw [List.map_take]; exact slS_take (s1.below (below_drewN (Below.refl _ _) n)) (by rw [List.length_map]; omega)) h6' hsz)
    generalize hy : mk (joinP (ps.take (ps.length - 1))) = y at hj
    generalize hx : mk (ps.getD (ps.length - 1) []) = x at cw
    have Hy := Lib.hid hy
    have Hx := Lib.hid hx
    clear hx hy
    have Hj := Lib.hid hj
    have z1 : IntKind.i64.wrap ((ps.length : Int) - 1) = (ps.length : Int) - 1 := IntWalk.i64_in _ (by omega)
    have hz : ((ps.length - 1 : Nat) : Int) = (ps.length : Int) - 1 := by omega
    have hz0 : ¬ (ps.length : Int) = 0 := by omega
    have hq1 : (0 : Int) ≤ (ps.length : Int) - 1 := by omega
    have hq2 : (ps.length : Int) - 1 ≤ (c : Int) := by omega
    have hq3 : (ps.length : Int) - 1 < (ps.length : Int) := by omega
    have hsz1 : w.heap.size ≤ w1.heap.size := b1.size
    clear s1 o1 hj hps hsz
    rw [e1]
    go_wp2
    go_quiet ((go_at_call 75; exact Hj.out _))
    go_wp2
    go_ret3
    exact ⟨by rw [Hy.out, Hx.out]; rfl, (by (repeat (first | exact Below.refl _ _ | exact Hbl.out | refine Below.ext ?_ (by first | omega | (simp; omega) | simp) | refine Below.setCell ?_ (by first | omega | (simp; omega) | simp) _ | refine Below.alloc ?_ (by first | omega | (simp; omega) | simp) _ | refine Below.drew ?_ | refine below_drewN ?_ _ | refine Below.step (by assumption) (by first | omega | (simp; omega) | simp) ?_)))⟩
set_option maxRecDepth 100000 in
set_option maxHeartbeats 1000000 in
theorem aboveI_of (S : ByteArray) (w : World) (hm : MaxL w) (hs : S.size ≤ 1048576) : Calls Tryz.prog 67 #[.string S] w (AbvGot w S.data.toList) := by
  have h1 := pathPartsI_of S w hm hs
  have hs' : S.data.toList.length ≤ 1048576 := by rw [size_list]; exact hs
  generalize S.data.toList = s at h1 hs' ⊢
  have h6 := partsP_len s
  have hps := partsP_sizes s
  by_cases hno : okP s = false ∨ partsP s = []
  · obtain ⟨k1, k2, k3⟩ := above_no hno
    unfold AbvGot
    rw [k1, k2, k3]
    have hcase : okP s = false ∨ (okP s = true ∧ (partsP s).length = 0) := by
      rcases hno with h | h
      · exact .inl h
      · cases hk : okP s
        · exact .inl rfl
        · exact .inr ⟨rfl, by rw [h]; rfl⟩
    clear k1 k2 k3 hno hps
    rcases hcase with e1 | ⟨e1, e2⟩
    all_goals
      go_enter Tryz.func67, Tryz.ntmps67
      go_wp2_with fail
      refine h1.mono ?_
      rintro e w1 ⟨v1, rfl, o1, b1⟩
      obtain ⟨A, c, rfl⟩ := own_valm o1
      rw [e1]
      go_wp2
      go_ret3
      exact ⟨rfl, b1⟩
  · have e1 : okP s = true := by cases h : okP s; exact absurd (.inl h) hno; rfl
    have hne : partsP s ≠ [] := fun e => hno (.inr e)
    obtain ⟨k1, k2, k3⟩ := above_yes e1 hne
    unfold AbvGot
    rw [k1, k2, k3]
    have hlp : 0 < (partsP s).length := List.length_pos_iff.2 hne
    clear k1 k2 k3 hno hne
    obtain ⟨ps, hps0⟩ : ∃ ps, ps = partsP s := ⟨_, rfl⟩
    rw [← hps0] at h6 hps hlp ⊢
    have Hps0 := Lib.hid hps0; clear hps0
    have h6' : (ps.take (ps.length - 1)).length ≤ 1048600 := by rw [List.length_take]; omega
    have hsz : ∀ x ∈ ps.take (ps.length - 1), x.length ≤ 1048576 := fun x hx => by have := hps x (List.mem_of_mem_take hx); omega
    go_enter Tryz.func67, Tryz.ntmps67
    go_wp2_with fail
    refine h1.mono ?_
    rintro e w1 ⟨v1, rfl, o1, b1⟩
    rw [← Hps0.out] at o1
    have s1 := ownS_sl o1
    obtain ⟨n, hn⟩ : ∃ n, ps.length = n + 1 := ⟨ps.length - 1, by omega⟩
    obtain ⟨A, c, ev⟩ := own_valm o1
    rw [hn] at ev
    subst ev
    obtain ⟨b, off, rfl, hb, cw⟩ := slS_at s1 (k := n) (by omega)
    have hcap := slS_cap s1
    have hc1 := hcap.2.1
    have hc2 := hcap.2.2
    clear hcap
    have hn1 : ps.length - 1 = n := by omega
    have Hn1 := Lib.hid hn1
    have hj := fun W (hW : Below w1.heap.size w1 W) => joinI_of (.slice (some ⟨b, off, none⟩) n c) (ps.take n) W (by rw [List.map_take]; exact slS_take (s1.below hW) (by rw [List.length_map]; omega)) (by rw [← hn1]; exact hsz)
    generalize hy : mk (joinP (ps.take n)) = y at hj
    generalize hx : mk (ps.getD n []) = x at cw
    have Hy := Lib.hid hy
    have Hx := Lib.hid hx
    clear hx hy
    have Hj := Lib.hid hj
    rw [hn] at hc1 h6 hlp
    have hnc : (n : Int) ≤ (c : Int) := by omega
    have hnn : (n : Int) < (n : Int) + 1 := by omega
    have hnl : ¬ (n : Int) < 0 := by omega
    have hsz1 : w.heap.size ≤ w1.heap.size := b1.size
    clear s1 o1 hj hps hsz hn hn1 h6'
    rw [e1]
    go_wp2
    go_region_held3 (fun w' => w'.cell? ⟨b, off + n, none⟩ = some (.string x)) (first | assumption | (go_simp; done)) (first | (go_at_call 77; refine (Hj.out _ ?_).mono ?_; (focus ((repeat (first | exact Below.refl _ _ | exact Hbl.out | refine Below.ext ?_ (by first | omega | (simp; omega) | simp) | refine Below.setCell ?_ (by first | omega | (simp; omega) | simp) _ | refine Below.alloc ?_ (by first | omega | (simp; omega) | simp) _ | refine Below.drew ?_ | refine below_drewN ?_ _ | refine Below.step (by assumption) (by first | omega | (simp; omega) | simp) ?_)))); rintro e w2 ⟨rfl, b2⟩; have cx := b2.cell (p := ⟨b, off + n, none⟩) hb))
    go_wp2
    go_ret3
    exact ⟨by rw [Hn1.out, Hy.out, Hx.out]; rfl, (by (repeat (first | exact Below.refl _ _ | exact Hbl.out | refine Below.ext ?_ (by first | omega | (simp; omega) | simp) | refine Below.setCell ?_ (by first | omega | (simp; omega) | simp) _ | refine Below.alloc ?_ (by first | omega | (simp; omega) | simp) _ | refine Below.drew ?_ | refine below_drewN ?_ _ | refine Below.step (by assumption) (by first | omega | (simp; omega) | simp) ?_)))⟩
end Go.Proofs.YtkennmpbmbacpaaGreatDoor
