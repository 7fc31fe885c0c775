/- Ways: the reference's words and 'WayValid'. -/
import Derived.Test.YtaadobcfijegcaaDoorWayI
import Derived.Laws.AppendOwn
import Derived.Laws.OwnMore
import Derived.Lib.SmallJoins
import Derived.Lib.LazyBuf
set_option linter.unusedSimpArgs false
set_option linter.unusedVariables false
set_option linter.unusedSectionVars false
namespace Go.Proofs.YtaadobcfijegcaaDoor
open Go.RowKit

/-- The call's own slice v reads as the texts ws. -/
def OwnS (B : Nat) (w : World) (v : Value) (ws : List ByteArray) : Prop := w.ownsRow B 9 1 v ws.length (ws.map Value.string)
def mk (l : List UInt8) : ByteArray := ⟨l.toArray⟩
theorem infoStr : (Tryd.prog.info? 9).map (fun i => (i.zero, i.size, i.bytes)) = some (some (.string ByteArray.empty), 1, 16) := by kernel_rfl
theorem ownS_at {B : Nat} {w : World} {v : Value} {ws : List ByteArray} (h : OwnS B w v ws) (hl : 0 < ws.length) : ∃ g c, v = .slice (some ⟨g, 0, none⟩) ws.length c ∧ B ≤ g ∧ g < w.heap.size ∧ ws.length ≤ c ∧ c ≤ maxLen := by
  rcases h.2 with ⟨rfl, h'⟩ | ⟨g, c, cur, rfl, hB, hg, h1, h2, _⟩
  · omega
  · refine ⟨g, c, rfl, hB, ?_, h1, h2⟩
    rcases Nat.lt_or_ge g w.heap.size with h | h
    · exact h
    · rw [Array.getElem?_eq_none h] at hg; cases hg
theorem ownS_cell {B g c i : Nat} {w : World} {ws : List ByteArray} (h : OwnS B w (.slice (some ⟨g, 0, none⟩) ws.length c) ws) (hi : i < ws.length) : w.cell? ⟨g, i, none⟩ = some (.string (st ws i)) := by
  have hc := h.cellAt i (by omega)
  rw [hc, List.getElem?_map, List.getElem?_eq_getElem hi]
  unfold st
  rw [List.getD_eq_getElem?_getD, List.getElem?_eq_getElem hi]; rfl
theorem ownS_frozen {B g c i n : Nat} {w : World} {ws : List ByteArray} (hn : n = ws.length) (h : OwnS B w (.slice (some ⟨g, 0, none⟩) n c) ws) : w.frozen? ⟨g, i, none⟩ = false := by
  subst hn
  exact World.ownsRow.frozenAt h i
theorem set_last {α : Type} (y : α) : ∀ (xs : List α), xs ≠ [] → xs.set (xs.length - 1) y = xs.dropLast ++ [y]
  | [], h => absurd rfl h
  | [a], _ => rfl
  | a :: b :: t, _ => by
    have := set_last y (b :: t) (by simp)
    simp only [List.length_cons, Nat.add_sub_cancel] at this ⊢
    rw [List.set_cons_succ, this]; rfl
/-- The own list's last text gets one sign more. -/
theorem own_put {B g c : Nat} {w : World} {ls : List (List UInt8)} {b : UInt8} {x : ByteArray} (n : Nat) (hn : n = ls.length) (h : OwnS B w (.slice (some ⟨g, 0, none⟩) n c) (ls.map mk)) (hne : ls ≠ []) (hx : x = mk (ls.getLastD [] ++ [b])) :
    OwnS B (w.setCell ⟨g, n - 1, none⟩ (.string x)) (.slice (some ⟨g, 0, none⟩) n c) ((lastPut ls b).map mk) := by
  have hn' : n = (ls.map mk).length := by rw [List.length_map]; exact hn
  rw [hn'] at h ⊢
  have h1 := (World.ownsRow.stored h ((ls.map mk).length - 1) (.string x)).1
  have e : (((ls.map mk).map Value.string).set ((ls.map mk).length - 1) (.string x)) = ((lastPut ls b).map mk).map Value.string := by
    have := set_last (Value.string x) ((ls.map mk).map Value.string) (by simpa using hne)
    rw [List.length_map] at this
    rw [this, hx]
    unfold lastPut
    simp [List.map_dropLast]
  have el : ((lastPut ls b).map mk).length = (ls.map mk).length := by
    unfold lastPut
    have : 0 < ls.length := List.length_pos_iff.2 hne
    simp; omega
  unfold OwnS
  rw [el, ← e]
  exact h1
theorem wpList_appS1 {ops : Array Oper} {rest : List Oper} {o : Oper} {a : Act} {Q : Exit → Act → World → Prop} (W : World) (hgd : o.guard = none) (s x : Operand)
    (ho : o.op = .call { callee := .builtin .append, args := #[s, x], argTypes := #[33, 33] })
    (B : Nat) (v : Value) (ws : List ByteArray) (hs : a.eval s = v) (hown : OwnS B W v ws) (hl : ws.length ≤ 1048600) (hB : B ≤ W.heap.size) (g : Nat) (hx : a.eval x = .slice (some ⟨g, 0, none⟩) 1 1) (t : ByteArray)
    (c0 : W.cell? ⟨g, 0, none⟩ = some (.string t))
    (h : ∀ v' w', OwnS B w' v' (ws ++ [t]) → W.grownBy w' v.ownBlock → wpList Tryd.prog ops Q rest (a.put o.dst v') w') : wpList Tryd.prog ops Q (o :: rest) a W := by
  obtain ⟨i0, hi, hz0, hz1, hz2⟩ := info_parts infoStr
  refine wpList_append_own _ hgd s x 33 ho B 9 i0 _ 1 16 Tryd.underlying33 hi hz0 hz1 hz2 rfl (by decide) v ws.length _ hs hown ⟨g, 0, none⟩ 1 1 [.string t] hx rfl ?c1 ?c0 ?c2 ?c3 hB ?_
  case c0 => intro u hu; simp at hu; subst hu; rfl
  case c1 =>
    intro j u hj
    match j, hj with
    | 0, hj => simp at hj; subst hj; exact c0
  case c2 => unfold maxLen; omega
  case c3 => omega
  intro v' w' hown' hg _
  refine h v' w' ?_ hg
  unfold OwnS
  rw [List.length_append, List.map_append]
  exact hown'
theorem mk_list (x : ByteArray) : x = mk x.data.toList := by unfold mk; rw [Array.toArray_toList]
theorem lastD_mem : ∀ (ls : List (List UInt8)), ls ≠ [] → ls.getLastD [] ∈ ls
  | [], h => absurd rfl h
  | a :: l, _ => List.getLast_mem (by simp)
theorem mk_size (l : List UInt8) : (mk l).size = l.length := List.size_toArray
theorem put_sign (s : ByteArray) (l : List UInt8) (k : Nat) (h : k < s.size) : mk l ++ s.extract k (k + 1) = mk (l ++ [s[k]]) := by
  rw [mk_list (mk l ++ s.extract k (k + 1)), Go.Joins.data_append, Lib.extract_data]
  have e1 : (mk l).data.toList = l := by unfold mk; simp
  rw [e1, show k + 1 - k = 1 from by omega, List.drop_eq_getElem_cons (by rw [size_list]; exact h)]
  rfl
set_option maxRecDepth 100000 in
set_option maxHeartbeats 2000000 in
theorem words_of (s : ByteArray) (w : World) (hs : s.size ≤ 1048576) : Calls Tryd.prog 39 #[.string s] w fun e w' => ∃ v, e = .returned v ∧ OwnS w.heap.size w' v ((spl s.data.toList).map mk) ∧ Below w.heap.size w w' := by
  go_enter Tryd.func39, Tryd.ntmps39
  go_wp2
  go_loopw [3, 4] (fun o i wr => ∃ k : Nat, k ≤ s.size ∧ i = .int .i64 k ∧ OwnS w.heap.size wr o ((spl (s.data.toList.take k)).map mk) ∧ Below w.heap.size w wr) (fun _ i _ => s.size - (intOf i).toNat)
  case atStart => exact ⟨0, Nat.zero_le _, rfl, World.ownsRow_lit (size := 1) (e := 9) w #[.string ⟨#[]⟩] 1 (Nat.le_refl _) (by decide) rfl, (by (repeat (first | exact Below.refl _ _ | exact Hbl.out | refine Below.ext ?_ (by first | omega | (simp; omega) | simp) | refine Below.setCell ?_ (by first | omega | (simp; omega) | simp) _ | refine Below.alloc ?_ (by first | omega | (simp; omega) | simp) _ | refine Below.drew ?_ | refine below_drewN ?_ _ | refine Below.step (by assumption) (by first | omega | (simp; omega) | simp) ?_)))⟩
  case round =>
    obtain ⟨k, hk, rfl, hown, hbl⟩ := hrel
    by_cases hlt : k < s.size
    · have hlen := spl_len (s.data.toList.take k)
      rw [List.length_take] at hlen
      have hls : spl (s.data.toList.take k) ≠ [] := fun e => by rw [e] at hlen; simp at hlen
      have htk : s.data.toList.take (k + 1) = s.data.toList.take k ++ [s[k]] := by
        rw [List.take_succ_eq_append_getElem (by rw [size_list]; exact hlt)]; rfl
      have Htk := Lib.hid htk; clear htk
      generalize hls' : spl (s.data.toList.take k) = ls at hown hlen hls
      have Hls := Lib.hid hls'; clear hls'
      have hml : (ls.map mk).length = ls.length := List.length_map _
      obtain ⟨g, c, rfl, hg1, hg2, hc1, hc2⟩ := ownS_at hown (by omega)
      have hsz : w.heap.size ≤ wr.heap.size := hbl.size
      rw [hml] at hown hc1 ⊢
      have hl2 : ls.length ≤ 1048577 := by omega
      have hl1 : 1 ≤ ls.length := hlen.1
      have hlt' := hown.lt g rfl
      have Hown := Lib.hid hown
      have Hbl := Lib.hid hbl
      have Hne := Lib.hid hls
      clear hlen hls hbl
      have zk : IntKind.i64.wrap ((k : Int) + 1) = (k : Int) + 1 := IntWalk.i64_in _ (by omega)
      by_cases hc : s[k] = 47
      · have hc' : ((s[k].toNat : Int) == 47) = true := by rw [hc]; rfl
        have Hc := Lib.hid hc; clear hc hown
        go_wp2_with (at_builtin; refine wpList_appS1 _ rfl (.tmp 16) (.tmp 17) rfl w.heap.size _ (ls.map mk) rfl ?cO ?cL ?cB _ rfl ⟨#[]⟩ ?c0 ?_)
        case cO => exact World.ownsRow.alloc Hown.out _
        case cL => rw [hml]; omega
        case cB => simp; omega
        case c0 => simp [go_sem]
        intro v' w' o' hg'
        have hb' : Below w.heap.size w w' := Below.grown (Below.alloc Hbl.out hsz _) hg' (by simp; omega) (fun j hj => by cases hj; exact hg1)
        go_wp2
        go_roundw
        case rel => exact ⟨k + 1, by omega, by go_num, by rw [Htk.out, Hc.out, spl_snoc_slash, Hls.out, List.map_append]; exact o', hb'⟩
        case measure => simp [intOf]; omega
      · have hc' : ((s[k].toNat : Int) == 47) = false := by
          rw [beq_eq_false_iff_ne]; intro e
          exact hc (UInt8.toNat_inj.1 (by have : s[k].toNat = 47 := by omega
                                          rw [this]; rfl))
        have hst : st (ls.map mk) (ls.length - 1) = mk (ls.getLastD []) := by
          unfold st
          rw [List.getD_eq_getElem?_getD, List.getElem?_map, List.getLastD_eq_getLast?, List.getLast?_eq_getElem?, List.getElem?_eq_getElem (by omega)]; rfl
        have c0 : wr.cell? ⟨g, ls.length - 1, none⟩ = some (.string (mk (ls.getLastD []))) := by
          rw [← hst]; exact ownS_cell (by rw [hml]; exact hown) (by rw [hml]; omega)
        have y0 : wr.frozen? ⟨g, ls.length - 1, none⟩ = false := ownS_frozen hml.symm hown
        have z1 : IntKind.i64.wrap ((ls.length : Int) - 1) = (ls.length : Int) - 1 := IntWalk.i64_in _ (by omega)
        have z2 : (0 : Int) ≤ (ls.length : Int) - 1 := by omega
        have z3 : (ls.length : Int) - 1 < (ls.length : Int) := by omega
        have z4 : ((ls.length : Int) - 1).toNat = ls.length - 1 := by omega
        have z5 : (0 : Int) ≤ (k : Int) := by omega
        have z6 : (k : Int) + 1 ≤ (s.size : Int) := by omega
        have hx0 : (mk (ls.getLastD [])).size ≤ 1048576 := by
          have hm := lastD_mem ls Hne.out
          rw [← Hls.out] at hm
          have := spl_word _ _ hm
          rw [List.length_take, Hls.out] at this
          rw [mk_size]; omega
        have hx1 : (s.extract k (k + 1)).size ≤ 1048576 := by rw [ByteArray.size_extract]; omega
        have Hc := Lib.hid hc; clear hc hown hst
        generalize hx : mk (ls.getLastD []) = x0 at c0
        rw [hx] at hx0
        have hsum : x0.size + (s.extract k (k + 1)).size ≤ 9223372036854775807 := by omega
        have Hx := Lib.hid hx; clear hx hx0 hx1
        go_wp2
        go_region
        go_wp2
        go_roundw
        case rel => exact ⟨k + 1, by omega, by go_num, by
          rw [Htk.out, spl_snoc_other Hc.out, Hls.out]
          exact own_put ls.length rfl Hown.out Hne.out (by rw [← Hx.out]; exact put_sign s _ k hlt), (Hbl.out.setCell (by simpa using hg1) _).drew⟩
        case measure => simp [intOf]; omega
    · obtain rfl : k = s.size := by omega
      rw [List.take_of_length_le (by rw [size_list]; exact Nat.le_refl _)] at hown
      have Hown := Lib.hid hown; clear hown
      have Hbl := Lib.hid hbl; clear hbl
      go_wp2
      go_ret
      exact ⟨_, rfl, Hown.out, Hbl.out⟩
set_option maxRecDepth 100000 in
set_option maxHeartbeats 2000000 in
theorem wayValidS_of (s : ByteArray) (w : World) (hs : s.size ≤ 1048576) : Calls Tryd.prog 14 #[.string s] w fun e w' => e = .returned (.bool (wayB s.data.toList)) ∧ Below w.heap.size w w' := by
  have hlen := spl_len s.data.toList
  rw [size_list] at hlen
  have hword : ∀ x ∈ spl s.data.toList, x.length ≤ 1048576 := fun x hx => by have := spl_word _ x hx; rw [size_list] at this; omega
  go_enter Tryd.func14, Tryd.ntmps14
  go_wp2_with fail
  refine (words_of s w hs).mono ?_
  rintro e w1 ⟨v, rfl, own, b1⟩
  have hwv : wayB s.data.toList = (decide ((spl s.data.toList).length ≤ 12) && (spl s.data.toList).all wordB) := rfl
  generalize spl s.data.toList = ls at hlen hword own hwv
  have hml : (ls.map mk).length = ls.length := List.length_map _
  have hst : ∀ i, i < ls.length → st (ls.map mk) i = mk (ls.getD i []) := fun i hi => by
    unfold st
    rw [List.getD_eq_getElem?_getD, List.getElem?_map, List.getElem?_eq_getElem hi, List.getD_eq_getElem?_getD, List.getElem?_eq_getElem hi]; rfl
  obtain ⟨g, c, rfl, hg1, hg2, hc1, hc2⟩ := ownS_at own (by omega)
  rw [hml] at own hc1 ⊢
  have hcell : ∀ i, i < ls.length → w1.cell? ⟨g, i, none⟩ = some (.string (mk (ls.getD i []))) := fun i hi => by
    rw [← hst i hi]; exact ownS_cell (by rw [hml]; exact own) (by rw [hml]; exact hi)
  have Hcell := Lib.hid hcell
  have Hwv := Lib.hid hwv
  have Hword := Lib.hid hword
  have Hb := Lib.hid b1
  clear hcell hwv hword own hst b1
  go_wp2
  go_loopw [4] (fun i wr => ∃ k : Nat, k ≤ ls.length ∧ i = .int .i64 k ∧ (∀ j, j < k → wordB (ls.getD j []) = true) ∧ wr = w1) (fun i _ => ls.length - (intOf i).toNat)
  case atStart => exact ⟨0, Nat.zero_le _, rfl, fun j hj => absurd hj (by omega), rfl⟩
  case round =>
    obtain ⟨k, hk, rfl, hall, rfl⟩ := hrel
    have Hall := Lib.hid hall; clear hall
    by_cases hlt : k < ls.length
    · have c0 := Hcell.out k hlt
      have hsz : (mk (ls.getD k [])).size ≤ maxLen := by
        rw [mk_size, List.getD_eq_getElem?_getD, List.getElem?_eq_getElem hlt]
        have := Hword.out _ (List.getElem_mem hlt)
        simp only [Option.getD_some]
        unfold maxLen; omega
      have hcs := wordB_cases (ls.getD k [])
      have ht : (mk (ls.getD k [])).toList = ls.getD k [] := by rw [Lib.toList_data]; unfold mk; simp
      have ht2 : (mk (ls.getD k [])).data.toList = ls.getD k [] := by unfold mk; simp
      have hgo : wordB (ls.getD k []) = true → ∀ j, j < k + 1 → wordB (ls.getD j []) = true := fun h j hj => by
        by_cases e : j = k
        · subst e; exact h
        · exact Hall.out j (by omega)
      have hno : wordB (ls.getD k []) = false → wayB s.data.toList = false := fun h => by
        rw [Hwv.out]
        have : ls.all wordB = false := by
          rw [List.all_eq_false]
          refine ⟨ls.getD k [], ?_, by rw [h]; exact Bool.false_ne_true⟩
          rw [List.getD_eq_getElem?_getD, List.getElem?_eq_getElem hlt]; exact List.getElem_mem hlt
        rw [this, Bool.and_false]
      have Hgo := Lib.hid hgo; clear hgo
      have Hno := Lib.hid hno; clear hno
      generalize mk (ls.getD k []) = x at c0 hsz ht ht2
      rw [← ht] at hcs
      rw [← ht2] at ht
      have hf : x.toList.isEmpty = decide (x.toList = []) := by cases x.toList <;> simp
      have hf1 : (x.toList == [46]) = decide (x.toList = [46]) := by
        by_cases e : x.toList = [46]
        · rw [decide_eq_true e, e]; rfl
        · rw [decide_eq_false e, beq_eq_false_iff_ne.2 e]
      have hf2 : (x.toList == [46, 46]) = decide (x.toList = [46, 46]) := by
        by_cases e : x.toList = [46, 46]
        · rw [decide_eq_true e, e]; rfl
        · rw [decide_eq_false e, beq_eq_false_iff_ne.2 e]
      rcases hcs with ⟨h0, hv⟩ | ⟨h0, h1, hv⟩ | ⟨h0, h1, h2, hv⟩ | ⟨h0, h1, h2, hv⟩
      rotate_right
      · rw [decide_eq_false h0] at hf
        rw [decide_eq_false h1] at hf1
        rw [decide_eq_false h2] at hf2
        rw [ht] at hv
        cases hnm : nameB x.data.toList
        · rw [hnm, ht2] at hv
          have Hv := Lib.hid hv; clear hv ht ht2
          go_wp2_with (go_at_call 40; refine (nameValidS_any _ _ hsz).mono ?_; rintro e w' ⟨rfl, rfl⟩; simp only [hnm])
          go_ret
          exact ⟨by rw [Hno.out Hv.out]; rfl, Hb.out⟩
        · rw [hnm, ht2] at hv
          have Hv := Lib.hid hv; clear hv ht ht2
          go_wp2_with (go_at_call 40; refine (nameValidS_any _ _ hsz).mono ?_; rintro e w' ⟨rfl, rfl⟩; simp only [hnm])
          go_roundw
          case rel => exact ⟨k + 1, by omega, by go_num, Hgo.out Hv.out, by first | rfl | trivial⟩
          case measure => simp [intOf]; omega
      all_goals
        first | rw [decide_eq_true h0] at hf | rw [decide_eq_false h0] at hf
        first | rw [decide_eq_true h1] at hf1 | rw [decide_eq_false h1] at hf1 | skip
        first | rw [decide_eq_true h2] at hf2 | skip
        rw [ht, ht2] at hv
        have Hv := Lib.hid hv; clear hv ht ht2
        go_wp2
        go_roundw
        case rel => exact ⟨k + 1, by omega, by go_num, Hgo.out Hv.out, by first | rfl | trivial⟩
        case measure => simp [intOf]; omega
    · have hk' : k = ls.length := by omega
      subst hk'
      have hres : wayB s.data.toList = decide (ls.length ≤ 12) := by
        rw [Hwv.out]
        have : ls.all wordB = true := by
          rw [List.all_eq_true]
          intro x hx
          obtain ⟨i, hi, rfl⟩ := List.getElem_of_mem hx
          have := Hall.out i hi
          rw [List.getD_eq_getElem?_getD, List.getElem?_eq_getElem hi] at this
          simpa using this
        rw [this, Bool.and_true]
      have e12 : decide (ls.length ≤ 12) = decide ((ls.length : Int) ≤ 12) := decide_eq_decide.2 (by omega)
      rw [e12] at hres
      have Hres := Lib.hid hres; clear hres
      go_wp2
      go_ret
      exact ⟨by rw [Hres.out]; first | rfl | simp, Hb.out⟩
end Go.Proofs.YtaadobcfijegcaaDoor
