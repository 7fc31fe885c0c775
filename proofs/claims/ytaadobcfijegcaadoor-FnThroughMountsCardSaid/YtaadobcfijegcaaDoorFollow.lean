/- Ways: strings.Split at one sign, the plain side of 'FollowWay', and the program's 'FollowWay'. -/
import Derived.Test.YtaadobcfijegcaaDoorBelow2
import Derived.Maps.AppendAt
set_option linter.unusedSimpArgs false
set_option linter.unusedVariables false
set_option linter.unusedSectionVars false
namespace Go.Proofs.YtaadobcfijegcaaDoor
open Go.RowKit

theorem spl_count (l : List UInt8) : (spl l).length = l.count 47 + 1 := by
  induction l with
  | nil => rfl
  | cons c cs ih =>
    by_cases hc : c = 47
    · subst hc; rw [spl_slash, List.length_cons, ih, List.count_cons_self]
    · obtain ⟨h, t, e⟩ := spl_ne cs
      rw [spl_other hc e, List.count_cons_of_ne hc]
      rw [e] at ih
      simpa using ih
theorem split_of (s : ByteArray) (w : World) (h : MaxL w) (hs : s.size ≤ 1048576) : Calls Tryd.prog 54 #[.string s, .string ⟨#[47]⟩] w fun e w' => e = .returned (.slice (some ⟨w.heap.size, 0, none⟩) (spl s.data.toList).length (spl s.data.toList).length) ∧ At1 w' w.heap.size 0 ((spl s.data.toList).map mk) ∧ w.heap.size < w'.heap.size ∧ Below w.heap.size w w' := by
  obtain ⟨m, hm⟩ := h
  have hc : Lib.countB s ⟨#[47]⟩ = s.data.toList.count 47 := Lib.count_one 47 s.data.toList
  have hlen := Lib.splitB_all ⟨#[47]⟩ (by decide) 0 _ s rfl
  have hd := Lib.splitB_data ⟨#[47]⟩ 0 (Lib.countB s ⟨#[47]⟩) s
  have hw := splitK_whole (Lib.countB s ⟨#[47]⟩) s.data.toList (by rw [spl_count, hc]; omega)
  have hd' : (Lib.splitB ⟨#[47]⟩ 0 (Lib.countB s ⟨#[47]⟩) s).map (·.data.toList) = spl s.data.toList := hd.trans hw
  refine (Any.strings_Split { Tryd.laysM146 with } Tryd.laysM146.i9 s ⟨#[47]⟩ m w (by omega) hm (by decide)).mono ?_
  rintro e w' ⟨rfl, rfl⟩
  have hP : Lib.splitB ⟨#[47]⟩ 0 (Lib.countB s ⟨#[47]⟩) s = (spl s.data.toList).map mk := by rw [← hd', map_data_mk]
  have hl2 : Lib.countB s ⟨#[47]⟩ + 1 = (spl s.data.toList).length := by rw [spl_count, hc]
  have hl3 := spl_len s.data.toList
  rw [size_list] at hl3
  rw [hP, hl2]
  refine ⟨rfl, fun i hi => ?_, by simp, (by (repeat (first | exact Below.refl _ _ | exact Hbl.out | refine Below.ext ?_ (by first | omega | (simp; omega) | simp) | refine Below.setCell ?_ (by first | omega | (simp; omega) | simp) _ | refine Below.alloc ?_ (by first | omega | (simp; omega) | simp) _ | refine Below.drew ?_ | refine below_drewN ?_ _ | refine Below.step (by assumption) (by first | omega | (simp; omega) | simp) ?_)))⟩
  rw [cell_of_row _ _ _ _ _ _ (heap_alloc_new w _), Nat.zero_add, List.getElem?_toArray, List.getElem?_map, List.getElem?_eq_getElem hi]
  unfold st
  rw [List.getD_eq_getElem?_getD, List.getElem?_eq_getElem hi]
  simp
/-- One word of a way behind names. -/
def putW (ps : List (List UInt8)) (x : List UInt8) : Option (List (List UInt8)) :=
  if x = [] ∨ x = [46] then some ps else if x = [46, 46] then some ps.dropLast else if ps.length = 6 then none else some (ps ++ [x])
def putWs : List (List UInt8) → List (List UInt8) → Option (List (List UInt8))
  | ps, [] => some ps
  | ps, x :: r => match putW ps x with | some q => putWs q r | none => none
/-- Where a way begins. -/
def beginP (f y : List UInt8) : List (List UInt8) := if Lib.hasPrefix y [47] = true then [] else partsP f
def endW : Option (List (List UInt8)) → List UInt8
  | some ps => joinP ps
  | none => []
/-- What 'FollowWay' gives. -/
def followF (f y : List UInt8) : List UInt8 := if (okP f && wayB y) = true then endW (putWs (beginP f y) (spl y)) else []
theorem drop_getD {ws : List (List UInt8)} {k : Nat} (h : k < ws.length) : ws.drop k = ws.getD k [] :: ws.drop (k + 1) := by
  rw [List.drop_eq_getElem_cons h, List.getD_eq_getElem?_getD, List.getElem?_eq_getElem h]; rfl
/-- The four kinds of a word, and what each does. -/
theorem put_cases (ps : List (List UInt8)) (x : List UInt8) : ((x = [] ∨ (¬ x = [] ∧ x = [46])) ∧ putW ps x = some ps) ∨ (¬ x = [] ∧ ¬ x = [46] ∧ x = [46, 46] ∧ putW ps x = some ps.dropLast) ∨ (¬ x = [] ∧ ¬ x = [46] ∧ ¬ x = [46, 46] ∧ ps.length = 6 ∧ putW ps x = none) ∨ (¬ x = [] ∧ ¬ x = [46] ∧ ¬ x = [46, 46] ∧ ¬ ps.length = 6 ∧ putW ps x = some (ps ++ [x])) := by
  unfold putW
  by_cases h1 : x = []
  · exact .inl ⟨.inl h1, if_pos (.inl h1)⟩
  · by_cases h2 : x = [46]
    · exact .inl ⟨.inr ⟨h1, h2⟩, if_pos (.inr h2)⟩
    · have h12 : ¬ (x = [] ∨ x = [46]) := by simp [h1, h2]
      rw [if_neg h12]
      by_cases h3 : x = [46, 46]
      · exact .inr (.inl ⟨h1, h2, h3, if_pos h3⟩)
      · rw [if_neg h3]
        by_cases h4 : ps.length = 6
        · exact .inr (.inr (.inl ⟨h1, h2, h3, h4, if_pos h4⟩))
        · exact .inr (.inr (.inr ⟨h1, h2, h3, h4, if_neg h4⟩))
theorem own_take {B k n c : Nat} {A : Option Addr} {w : World} {ws : List ByteArray} (h : OwnS B w (.slice A n c) ws) (hk : k ≤ ws.length) : OwnS B w (.slice A k c) (ws.take k) := by
  have hl : (ws.take k).length = k := by rw [List.length_take]; omega
  refine ⟨by simp, ?_⟩
  rw [hl]
  rcases h.2 with ⟨e, e0⟩ | ⟨g, cap, cur, e1, e2, e3, e4, e5, e6, e7⟩
  · cases e; exact .inl ⟨by rw [show k = 0 from by omega], by omega⟩
  · cases e1
    refine .inr ⟨g, c, cur, rfl, e2, e3, by omega, e5, e6, ?_⟩
    have := congrArg (List.take (k * 1)) e7
    rw [List.take_take, Nat.min_eq_left (by omega)] at this
    rw [this, List.map_take, Nat.mul_one]
theorem own_drop1 {B c : Nat} {A : Option Addr} {w : World} {ls : List (List UInt8)} (h : OwnS B w (.slice A ls.length c) (ls.map mk)) : OwnS B w (.slice A (ls.length - 1) c) (ls.dropLast.map mk) := by
  have := own_take (k := ls.length - 1) h (by rw [List.length_map]; omega)
  rw [← List.map_take, ← List.dropLast_eq_take] at this
  exact this
theorem wpList_appS1at {ops : Array Oper} {rest : List Oper} {o : Oper} {a : Act} {Q : Exit → Act → World → Prop} (W : World) (hgd : o.guard = none) (s x : Operand)
    (ho : o.op = .call { callee := .builtin .append, args := #[s, x], argTypes := #[33, 33] })
    (B : Nat) (v : Value) (ws : List ByteArray) (hs : a.eval s = v) (hown : OwnS B W v ws) (hl : ws.length ≤ 1048600) (hB : B ≤ W.heap.size) (g : Nat) (hx : a.eval x = .slice (some ⟨g, 0, none⟩) 1 1) (t : ByteArray)
    (c0 : W.cell? ⟨g, 0, none⟩ = some (.string t))
    (h : ∀ v' w', OwnS B w' v' (ws ++ [t]) → W.grownBy w' v.ownBlock → (v'.ownBlock = v.ownBlock ∨ v'.ownBlock = some W.heap.size) → wpList Tryd.prog ops Q rest (a.put o.dst v') w') : wpList Tryd.prog ops Q (o :: rest) a W := by
  obtain ⟨i0, hi, hz0, hz1, hz2⟩ := info_parts infoStr
  refine wpList_append_own_at W hgd s x 33 ho B 9 i0 _ 1 16 Tryd.underlying33 hi hz0 hz1 hz2 rfl (by decide) v ws.length _ hs hown ⟨g, 0, none⟩ 1 1 [.string t] hx rfl ?c1 ?c0 ?c2 ?c3 hB ?_
  case c0 => intro u hu; simp at hu; subst hu; rfl
  case c1 =>
    intro j u hj
    match j, hj with
    | 0, hj => simp at hj; subst hj; exact c0
  case c2 => unfold maxLen; omega
  case c3 => omega
  intro v' w' hown' hg _ hat
  refine h v' w' ?_ hg hat
  unfold OwnS
  rw [List.length_append, List.map_append]
  exact hown'
theorem At1.grown {w w' : World} {b off : Nat} {ws : List ByteArray} {row : Option Nat} (h : At1 w b off ws) (hg : w.grownBy w' row) (hne : some b ≠ row) : At1 w' b off ws := fun i hi => hg.cell (h i hi) hne
theorem own_block {B : Nat} {w : World} {v : Value} {ws : List ByteArray} (h : OwnS B w v ws) : ∀ j, v.ownBlock = some j → B ≤ j ∧ j < w.heap.size := fun j hj => h.lt j hj
set_option maxRecDepth 100000 in
set_option maxHeartbeats 4000000 in
theorem followI_of (F Y : ByteArray) (w : World) (hm : MaxL w) (hf : F.size ≤ 1048576) (hy : Y.size ≤ 1048576) : Calls Tryd.prog 26 #[.string F, .string Y] w fun e w' => e = .returned (.string (mk (followF F.data.toList Y.data.toList))) ∧ Below w.heap.size w w' := by
  have h1 := pathPartsI_of F w hm hf
  have h2 := fun w hm => wayValidI_of Y w hm hy
  have h3 := fun w => Tryd.strings_HasPrefix Y ⟨#[47]⟩ w
  have h4 := fun w hm => split_of Y w hm hy
  rw [show (ByteArray.mk #[47]).data.toList = [47] from rfl] at h3
  have hf' : F.data.toList.length ≤ 1048576 := by rw [size_list]; exact hf
  have hy' : Y.data.toList.length ≤ 1048576 := by rw [size_list]; exact hy
  generalize F.data.toList = f at h1 hf' ⊢
  generalize Y.data.toList = y at h2 h3 h4 hy' ⊢
  have h6 := partsP_len f
  have hps := partsP_sizes f
  have hwl := spl_len y
  have hws := spl_word y
  rcases and2 (okP f) (wayB y) with e1 | ⟨e1, e2⟩ | ⟨e1, e2⟩
  · have hr : mk (followF f y) = ⟨#[]⟩ := by unfold followF; rw [e1]; rfl
    have Hr := Lib.hid hr; clear hr
    go_enter Tryd.func26, Tryd.ntmps26
    go_wp2_with fail
    refine h1.mono ?_
    rintro e w1 ⟨v1, rfl, o1, b1⟩
    obtain ⟨A, n, c, rfl⟩ := own_valn o1
    rw [e1]
    go_wp2
    go_ret
    exact ⟨by rw [Hr.out]; rfl, b1⟩
  · have hr : mk (followF f y) = ⟨#[]⟩ := by unfold followF; rw [e1, e2]; rfl
    have Hr := Lib.hid hr; clear hr
    go_enter Tryd.func26, Tryd.ntmps26
    go_wp2_with fail
    refine h1.mono ?_
    rintro e w1 ⟨v1, rfl, o1, b1⟩
    obtain ⟨A, n, c, rfl⟩ := own_valn o1
    rw [e1]
    go_wp2_with fail
    refine (h2 w1 (hm.below b1)).mono ?_
    rintro e w2 ⟨rfl, b2⟩
    rw [e2]
    go_wp2
    go_ret
    exact ⟨by rw [Hr.out]; rfl, Below.step b2 b1.size b1⟩
  · have hr : followF f y = endW (putWs (beginP f y) (spl y)) := by unfold followF; rw [e1, e2]; rfl
    have hcase : (Lib.hasPrefix y [47] = true ∧ beginP f y = []) ∨ (Lib.hasPrefix y [47] = false ∧ beginP f y = partsP f) := by
      unfold beginP
      cases Lib.hasPrefix y [47]
      · exact .inr ⟨rfl, rfl⟩
      · exact .inl ⟨rfl, rfl⟩
    have hb6 : (beginP f y).length ≤ 6 := by
      rcases hcase with ⟨_, e⟩ | ⟨_, e⟩
      · rw [e]; exact Nat.zero_le _
      · rw [e]; exact h6
    have hbs : ∀ x ∈ beginP f y, x.length ≤ 1048576 := by
      rcases hcase with ⟨_, e⟩ | ⟨_, e⟩
      · rw [e]; intro x hx; cases hx
      · rw [e]; intro x hx; have := hps x hx; omega
    rw [hr]
    clear hr hps
    generalize hps0 : beginP f y = ps0 at hcase hb6 hbs ⊢
    clear hps0
    have Hws := Lib.hid hws; clear hws
    generalize hwsl : spl y = ws at h4 hwl Hws ⊢
    clear hwsl
    have Hbs := Lib.hid hbs; clear hbs
    go_enter Tryd.func26, Tryd.ntmps26
    go_wp2_with fail
    refine h1.mono ?_
    rintro e w1 ⟨v1, rfl, o1, b1⟩
    have O1 := Lib.hid o1
    obtain ⟨A, n, c, rfl⟩ := own_valn o1
    rw [e1]
    go_wp2_with fail
    refine (h2 w1 (hm.below b1)).mono ?_
    rintro e w2 ⟨rfl, b2⟩
    rw [e2]
    have c2 := Below.step b2 b1.size b1
    have o2 := ownS_below O1.out b2
    have O2 := Lib.hid o2
    clear o1 o2 h1 h2
    go_wp2_with fail
    refine (h3 w2).mono ?_
    rintro e w3 ⟨rfl, rfl⟩
    have h5 := h4 w3 (hm.below c2)
    clear h3 h4
    rcases hcase with ⟨e3, e4⟩ | ⟨e3, e4⟩
    rotate_left
    have o3 : OwnS w.heap.size w3 (.slice A n c) (ps0.map mk) := by rw [e4]; exact O2.out
    rotate_left
    have o3 : OwnS w.heap.size w3 (.slice none 0 0) (ps0.map mk) := by rw [e4]; exact own_none _ _
    all_goals
      have O3 := Lib.hid o3
      clear o3 e4 O1
      go_wp2_with fail
      refine h5.mono ?_
      rintro e w4 ⟨rfl, a4, z4, b4⟩
      have o4 := ownS_below O3.out b4
      have x4 := fun j hj => (own_block O3.out j hj).2
      have c4 := Below.step b4 c2.size c2
      have h4sz : w.heap.size ≤ w3.heap.size := c2.size
      have A4 := Lib.hid a4
      clear a4
      go_wp2
      go_loopw [26, 5, 8] (fun i p _ wr => ∃ (k : Nat) (ps : List (List UInt8)), k ≤ ws.length ∧ i = .int .i64 k ∧ putWs ps0 ws = putWs ps (ws.drop k) ∧ ps.length ≤ 6 ∧ (∀ x ∈ ps, x.length ≤ 1048576) ∧ OwnS w.heap.size wr p (ps.map mk) ∧ (∀ j, p.ownBlock = some j → j ≠ w3.heap.size) ∧ At1 wr w3.heap.size 0 (ws.map mk) ∧ w3.heap.size < wr.heap.size ∧ Below w.heap.size w wr) (fun i _ _ _ => ws.length - (intOf i).toNat)
      case atStart => exact ⟨0, ps0, Nat.zero_le _, rfl, rfl, hb6, Hbs.out, o4, fun j hj => by have := x4 j hj; omega, A4.out, z4, c4⟩
      case round =>
        obtain ⟨k, ps, hk, rfl, hput, hp6, hpsz, hown, hne, hat, hw3, hbl⟩ := hrel
        have Hput := Lib.hid hput
        have Hpsz := Lib.hid hpsz
        have Hne := Lib.hid hne
        have Hown := Lib.hid hown
        have Hat := Lib.hid hat
        have Hbl := Lib.hid hbl
        have hwr : w.heap.size ≤ wr.heap.size := hbl.size
        clear hput hpsz hne hat hbl
        obtain ⟨A', c', rfl⟩ := own_valm hown
        by_cases hlt : k < ws.length
        · have cw := Hat.out k (by rw [List.length_map]; exact hlt)
          rw [st_mk hlt, Nat.zero_add] at cw
          have hpc := put_cases ps (ws.getD k [])
          have hdr := drop_getD hlt
          have hx1 : (mk (ws.getD k [])).toList = ws.getD k [] := mk_toList _
          have hxl : (ws.getD k []).length ≤ 1048576 := by
            have := Hws.out (ws.getD k []) (by rw [List.getD_eq_getElem?_getD, List.getElem?_eq_getElem hlt]; exact List.getElem_mem hlt)
            omega
          have hnx : ∀ q, putW ps (ws.getD k []) = some q → putWs ps0 ws = putWs q (ws.drop (k + 1)) := fun q hq => by
            rw [Hput.out, hdr]
            show (match putW ps (ws.getD k []) with | some q => putWs q (ws.drop (k + 1)) | none => none) = _
            rw [hq]
          have hno : putW ps (ws.getD k []) = none → putWs ps0 ws = none := fun hq => by
            rw [Hput.out, hdr]
            show (match putW ps (ws.getD k []) with | some q => putWs q (ws.drop (k + 1)) | none => none) = _
            rw [hq]
          have Hnx := Lib.hid hnx
          have Hno := Lib.hid hno
          have Hdr := Lib.hid hdr
          clear hnx hno hdr
          rcases hpc with ⟨d1, d2⟩ | ⟨d1, d2, d3, d4⟩ | ⟨d1, d2, d3, d4, d5⟩ | ⟨d1, d2, d3, d4, d5⟩
          · have D2 := Lib.hid d2; clear d2
            have d1' : (mk (ws.getD k [])).toList = [] ∨ (¬ (mk (ws.getD k [])).toList = [] ∧ (mk (ws.getD k [])).toList = [46]) := by rw [hx1]; exact d1
            clear d1 hx1 hown
            generalize mk (ws.getD k []) = x at cw d1'
            rcases d1' with d1 | ⟨d1, d2⟩
            · go_wp2
              go_roundw
              case rel => exact ⟨k + 1, ps, by omega, by go_num, Hnx.out _ D2.out, hp6, Hpsz.out, Hown.out, Hne.out, Hat.out, hw3, Hbl.out⟩
              case measure => simp [intOf]; omega
            · have d1f : x.toList.isEmpty = false := by rw [Bool.eq_false_iff]; intro h; exact d1 (List.isEmpty_iff.1 h)
              go_wp2
              go_roundw
              case rel => exact ⟨k + 1, ps, by omega, by go_num, Hnx.out _ D2.out, hp6, Hpsz.out, Hown.out, Hne.out, Hat.out, hw3, Hbl.out⟩
              case measure => simp [intOf]; omega
          · have D4 := Lib.hid d4; clear d4
            have g1 : ¬ (mk (ws.getD k [])).toList = [] := by rw [hx1]; exact d1
            have g2 : ¬ (mk (ws.getD k [])).toList = [46] := by rw [hx1]; exact d2
            have g3 : (mk (ws.getD k [])).toList = [46, 46] := by rw [hx1]; exact d3
            clear d1 d2 d3 hx1
            generalize mk (ws.getD k []) = x at cw g1 g2 g3
            have g1f : x.toList.isEmpty = false := by rw [Bool.eq_false_iff]; intro h; exact g1 (List.isEmpty_iff.1 h)
            have g2f : (x.toList == [46]) = false := beq_eq_false_iff_ne.2 g2
            have odr := own_drop1 hown
            have Odr := Lib.hid odr
            have hdl : ∀ x ∈ ps.dropLast, x.length ≤ 1048576 := fun x hx => Hpsz.out x (by rw [List.dropLast_eq_take] at hx; exact List.mem_of_mem_take hx)
            have Hdl := Lib.hid hdl
            have hdl6 : ps.dropLast.length ≤ 6 := by rw [List.length_dropLast]; omega
            clear hdl odr
            by_cases hp0 : ps.length = 0
            · have hsh : (A' = none ∧ c' = 0) ∨ ∃ g, A' = some ⟨g, 0, none⟩ := by
                rcases hown.2 with ⟨e, _⟩ | ⟨g, c, cur, e, _⟩
                · injection e with e1 _ e3; exact .inl ⟨e1, e3⟩
                · injection e with e1 _ e3; exact .inr ⟨g, e1⟩
              clear hown
              rw [hp0]
              have hz : ps.length - 1 = 0 := by omega
              rw [hz] at Odr
              rcases hsh with ⟨rfl, rfl⟩ | ⟨g, rfl⟩
              all_goals
                go_wp2
                go_roundw
                case rel => exact ⟨k + 1, ps.dropLast, by omega, by go_num, Hnx.out _ D4.out, hdl6, Hdl.out, Odr.out, Hne.out, Hat.out, hw3, Hbl.out⟩
                case measure => simp [intOf]; omega
            · have hlt0 : 0 < (ps.map mk).length := by rw [List.length_map]; omega
              have hsh : ∃ g, A' = some ⟨g, 0, none⟩ ∧ ps.length ≤ c' ∧ c' ≤ 9223372036854775807 := by
                obtain ⟨g, c, e, _, _, e3, e4⟩ := ownS_at hown hlt0
                injection e with k1 _ k3
                rw [List.length_map, ← k3] at e3
                unfold maxLen at e4
                exact ⟨g, k1, e3, by omega⟩
              obtain ⟨g, rfl, hc1, hc2⟩ := hsh
              have hz : ((ps.length - 1 : Nat) : Int) = (ps.length : Int) - 1 := by omega
              clear hown
              go_wp2
              go_roundw
              case rel => exact ⟨k + 1, ps.dropLast, by omega, by go_num, Hnx.out _ D4.out, hdl6, Hdl.out, by rw [show (max ((ps.length : Int) - 1) 0).toNat = ps.length - 1 from by omega]; exact Odr.out, Hne.out, Hat.out, hw3, Hbl.out⟩
              case measure => simp [intOf]; omega
          · have hz := Hno.out d5
            have g1 : ¬ (mk (ws.getD k [])).toList = [] := by rw [hx1]; exact d1
            have g2 : ¬ (mk (ws.getD k [])).toList = [46] := by rw [hx1]; exact d2
            have g3 : ¬ (mk (ws.getD k [])).toList = [46, 46] := by rw [hx1]; exact d3
            have hr : mk (endW (putWs ps0 ws)) = ⟨#[]⟩ := by rw [hz]; rfl
            have Hr := Lib.hid hr
            clear d1 d2 d3 d5 hx1 hown hr hz
            generalize mk (ws.getD k []) = x at cw g1 g2 g3
            have g1f : x.toList.isEmpty = false := by rw [Bool.eq_false_iff]; intro h; exact g1 (List.isEmpty_iff.1 h)
            have g2f : (x.toList == [46]) = false := beq_eq_false_iff_ne.2 g2
            have g3f : (x.toList == [46, 46]) = false := beq_eq_false_iff_ne.2 g3
            rw [d4]
            go_wp2
            go_ret
            exact ⟨by rw [Hr.out]; rfl, Hbl.out⟩
          · have D5 := Lib.hid d5; clear d5
            have g1 : ¬ (mk (ws.getD k [])).toList = [] := by rw [hx1]; exact d1
            have g2 : ¬ (mk (ws.getD k [])).toList = [46] := by rw [hx1]; exact d2
            have g3 : ¬ (mk (ws.getD k [])).toList = [46, 46] := by rw [hx1]; exact d3
            have hsz7 : ∀ x ∈ ps ++ [ws.getD k []], x.length ≤ 1048576 := fun x hx => by
              rcases List.mem_append.1 hx with h | h
              · exact Hpsz.out x h
              · rw [List.mem_singleton.1 h]; exact hxl
            have Hsz7 := Lib.hid hsz7
            have hl7 : (ps ++ [ws.getD k []]).length ≤ 6 := by rw [List.length_append, List.length_singleton]; omega
            have Hl7 := Lib.hid hl7
            have hmm : (ps ++ [ws.getD k []]).map mk = ps.map mk ++ [mk (ws.getD k [])] := by rw [List.map_append]; rfl
            have Hmm := Lib.hid hmm
            clear d1 d2 d3 hx1 hsz7 hmm hown hl7
            generalize mk (ws.getD k []) = x at cw g1 g2 g3 Hmm
            have g1f : x.toList.isEmpty = false := by rw [Bool.eq_false_iff]; intro h; exact g1 (List.isEmpty_iff.1 h)
            have g2f : (x.toList == [46]) = false := beq_eq_false_iff_ne.2 g2
            have g3f : (x.toList == [46, 46]) = false := beq_eq_false_iff_ne.2 g3
            have d4f : ¬ (ps.length : Int) = 6 := by omega
            have hgB : ∀ j, (Value.slice A' ps.length c').ownBlock = some j → w.heap.size ≤ j := fun j hj => (Hown.out.lt j hj).1
            go_wp2_with (at_builtin; refine wpList_appS1at _ rfl (.tmp 30) (.tmp 32) rfl w.heap.size _ (ps.map mk) rfl ?cO ?cL ?cB _ rfl x ?c0 ?_)
            case cO => exact World.ownsRow.alloc Hown.out _
            case cL => rw [List.length_map]; omega
            case cB => simp; omega
            case c0 => simp [go_sem]
            intro v' w' o' hg' hat'
            have hb' : Below w.heap.size w w' := Below.grown (Below.alloc Hbl.out hwr _) hg' (by simp; omega) hgB
            have hsz' : wr.heap.size + 1 ≤ w'.heap.size := by have := hg'.size; rw [World.size_alloc] at this; exact this
            have hne' : ∀ j, v'.ownBlock = some j → j ≠ w3.heap.size := fun j hj => by
              rcases hat' with e | e
              · rw [e] at hj; exact Hne.out j hj
              · rw [e] at hj
                cases hj; (try simp only [World.size_alloc]); omega
            have hatn : At1 w' w3.heap.size 0 (ws.map mk) := At1.grown (Hat.out.below hw3 (Below.alloc (Below.refl _ _) (Nat.le_refl _) _)) hg' (fun e => Hne.out _ e.symm rfl)
            obtain ⟨A7, n7, c7, rfl⟩ := own_valn o'
            have O7 := Lib.hid o'
            have Hne' := Lib.hid hne'
            have Hatn := Lib.hid hatn
            clear o' hne' hatn hat'
            go_wp2
            go_roundw
            case rel => exact ⟨k + 1, ps ++ [ws.getD k []], by omega, by go_num, Hnx.out _ D5.out, Hl7.out, Hsz7.out, by rw [Hmm.out]; exact O7.out, Hne'.out, Hatn.out, by omega, hb'⟩
            case measure => simp [intOf]; omega
        · obtain rfl : k = ws.length := by omega
          have hend : putWs ps0 ws = some ps := by rw [Hput.out, List.drop_length]; rfl
          have hj := joinI_of (.slice A' ps.length c') ps wr (ownS_sl Hown.out) Hpsz.out
          have hr : mk (endW (putWs ps0 ws)) = mk (joinP ps) := by rw [hend]; rfl
          have Hr := Lib.hid hr
          generalize mk (joinP ps) = z at hj Hr
          have Hj := Lib.hid hj
          clear hown hj hend hr
          go_wp2_with fail
          refine Hj.out.mono ?_
          rintro e w5 ⟨rfl, b5⟩
          have c5 := Below.step b5 hwr Hbl.out
          go_wp2
          go_ret
          exact ⟨by rw [Hr.out]; rfl, c5⟩
end Go.Proofs.YtaadobcfijegcaaDoor
