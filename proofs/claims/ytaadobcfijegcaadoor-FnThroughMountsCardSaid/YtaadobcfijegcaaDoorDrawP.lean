/- Paths: what is drawn. -/
import Derived.Test.YtaadobcfijegcaaDoorDrawW
import Derived.Test.YtaadobcfijegcaaDoorPathT
set_option linter.unusedSimpArgs false
set_option linter.unusedVariables false
set_option linter.unusedSectionVars false
namespace Go.Proofs.YtaadobcfijegcaaDoor
open Go.RowKit

theorem selS7l (v : Int) (x0 x1 x2 x3 x4 x5 x6 : ByteArray) (h : v.toNat < [Value.string x0, Value.string x1, Value.string x2, Value.string x3, Value.string x4, Value.string x5, Value.string x6].length) : [Value.string x0, Value.string x1, Value.string x2, Value.string x3, Value.string x4, Value.string x5, Value.string x6][v.toNat]'h = .string (selS v [x0, x1, x2, x3, x4, x5, x6]) := by
  have h' : v.toNat < 7 := h
  have : v.toNat = 0 ∨ v.toNat = 1 ∨ v.toNat = 2 ∨ v.toNat = 3 ∨ v.toNat = 4 ∨ v.toNat = 5 ∨ v.toNat = 6 := by omega
  rcases this with h | h | h | h | h | h | h <;> simp [h, selS]
@[go_sem] theorem selS7g (v : Int) (x0 x1 x2 x3 x4 x5 x6 : ByteArray) (h : v.toNat < [Value.string x0, Value.string x1, Value.string x2, Value.string x3, Value.string x4, Value.string x5, Value.string x6].length) : [Value.string x0, Value.string x1, Value.string x2, Value.string x3, Value.string x4, Value.string x5, Value.string x6][v.toNat]'h = .string (selS v [x0, x1, x2, x3, x4, x5, x6]) := selS7l v x0 x1 x2 x3 x4 x5 x6 h
@[go_sem] theorem selS7 {v : Int} (h0 : 0 ≤ v) (h1 : v < 7) (x0 x1 x2 x3 x4 x5 x6 : ByteArray) : [Value.string x0, Value.string x1, Value.string x2, Value.string x3, Value.string x4, Value.string x5, Value.string x6][v.toNat]? = some (.string (selS v [x0, x1, x2, x3, x4, x5, x6])) := by
  have hl : v.toNat < [Value.string x0, Value.string x1, Value.string x2, Value.string x3, Value.string x4, Value.string x5, Value.string x6].length := by simp; omega
  rw [List.getElem?_eq_getElem hl, selS7l]
@[go_sem] theorem selS7a {v : Int} (h0 : 0 ≤ v) (h1 : v < 7) (x0 x1 x2 x3 x4 x5 x6 : ByteArray) : (#[Value.string x0, Value.string x1, Value.string x2, Value.string x3, Value.string x4, Value.string x5, Value.string x6] : Array Value)[v.toNat]? = some (.string (selS v [x0, x1, x2, x3, x4, x5, x6])) := by
  rw [List.getElem?_toArray]; exact selS7 h0 h1 x0 x1 x2 x3 x4 x5 x6
theorem ownS_re {B R d d' : Nat} {w : World} {u u' v : Value} {os : Array Obj} {ws : List ByteArray} (h : OwnS B (ext (w.setCell ⟨R, 1, none⟩ u) d os) v ws) (hR : R < B) : OwnS B (ext (w.setCell ⟨R, 1, none⟩ u') d' os) v ws := by
  refine ⟨h.1, h.2.imp id fun ⟨g, c, cur, e1, e2, e3, e4⟩ => ⟨g, c, cur, e1, e2, ?_, e4⟩⟩
  rw [← e3]
  simp only [ext, World.setCell, Array.getElem?_append, Array.size_modify, Array.getElem?_modify]
  rw [if_neg (show ¬ R = g from by omega), if_neg (show ¬ R = g from by omega)]
theorem ownS_re2 {B R d d' : Nat} {w : World} {u u' v : Value} {os os' : Array Obj} {ws : List ByteArray} (h : OwnS B (ext (w.setCell ⟨R, 1, none⟩ u) d os) v ws) (hR : R < B) : OwnS B (ext (w.setCell ⟨R, 1, none⟩ u') d' (os ++ os')) v ws := by
  rw [← ext_ext (d := d')]
  exact ownS_ext (ownS_re h hR)
theorem re_drew {R d0 d : Nat} {w : World} {u u' : Value} {os : Array Obj} (hR : R < w.heap.size) : ext ((ext (w.setCell ⟨R, 1, none⟩ u) d0 #[]).setCell ⟨R, 1, none⟩ u') d os = ext (w.setCell ⟨R, 1, none⟩ u') d os := by
  have h : LtA R (w.setCell ⟨R, 1, none⟩ u).heap.size := by unfold LtA; rw [size_setCell]; exact hR
  rw [ext_setCell h, ext_ext, setCell_twice, Array.empty_append]
set_option maxHeartbeats 2000000 in
theorem l20Name_any0 (R : Nat) (p : Int) (w : World) (hr : Rd w R p) (hp : p ≤ 1500000000) : Calls Tryd.prog 81 #[.pointer (some ⟨R, 0, none⟩), .int .i64 0] w (Drew w R p 1 (StrN 3)) := by
  have hR := hr.lt
  have hp0 := hr.pos
  go_enter Tryd.func81, Tryd.ntmps81
  go_wp2_with (go_at_call 65; refine (odd_zero _ _).mono ?_; rintro e w' ⟨rfl, rfl⟩)
  refine (pick_any _ ?_ _ _ ?_ ?_).mono ?_; rotate_left; (focus ((repeat (first | assumption | refine Rd.ext ?_ | refine Rd.drew ?_ | refine Rd.drewN ?_ | refine Rd.set (by assumption) ?_ | refine Rd.lit (by assumption) (by simp) ?_ | refine Rd.alloc ?_ _ | omega)))); (focus omega); rintro e w' ⟨c, dc, rfl, lc, hc, h2, rfl⟩; replace hc := hc (by omega); clear h2
  have hx := selS_size (v := c) (l := [⟨#[97]⟩, ⟨#[98]⟩, ⟨#[99, 49]⟩, ⟨#[116, 109, 112]⟩]) (N := 3) (by decide)
  go_wp2
  simp [bodyPost, results, Tryd.results81, go_sem]
  exact Drew.mk (p + 1) (by (repeat (first | exact Below.refl _ _ | exact Hbl.out | refine Below.ext ?_ (by first | omega | (simp; omega) | simp) | refine Below.setCell ?_ (by first | omega | (simp; omega) | simp) _ | refine Below.alloc ?_ (by first | omega | (simp; omega) | simp) _ | refine Below.drew ?_ | refine below_drewN ?_ _ | refine Below.step (by assumption) (by first | omega | (simp; omega) | simp) ?_))) (by omega) (by omega) ⟨_, rfl, hx⟩

/-- Names are drawn: at most 3, each of at most 3 signs. -/
def NamesGot (w : World) (R : Nat) (p k : Int) (e : Ending) (w' : World) : Prop :=
  ∃ (v : Value) (ls : List (List UInt8)) (q : Int) (d : Nat) (os : Array Obj), e = .returned v ∧ p ≤ q ∧ q ≤ p + k ∧ ls.length ≤ 3 ∧ (∀ x ∈ ls, x.length ≤ 3) ∧ w' = ext (w.setCell ⟨R, 1, none⟩ (.int .i64 q)) d os ∧ OwnS w.heap.size w' v (ls.map mk)
theorem own_emptyM {B g : Nat} (W : World) (hg : g = W.heap.size) (hB : B ≤ W.heap.size) : OwnS B (W.alloc (.cells #[] 9)) (.slice (some ⟨g, 0, none⟩) 0 0) (([] : List (List UInt8)).map mk) := by
  subst hg
  exact own_empty W hB
theorem own_shapeM {B : Nat} {w : World} {v : Value} {ls : List (List UInt8)} (h : OwnS B w v (ls.map mk)) : ∃ A c, v = .slice A ls.length c := by
  rcases h.2 with ⟨rfl, e⟩ | ⟨g, c, cur, rfl, _⟩
  · rw [List.length_map] at e; exact ⟨none, 0, by rw [e]⟩
  · exact ⟨_, c, by rw [List.length_map]⟩
theorem ownS_alloc {B : Nat} {w : World} {v : Value} {ws : List ByteArray} (h : OwnS B w v ws) (o : Obj) : OwnS B (w.alloc o) v ws := World.ownsRow.alloc h o
set_option maxHeartbeats 4000000 in
theorem l20Names_any0 (R : Nat) (p : Int) (w : World) (hr : Rd w R p) (hp : p ≤ 1200000000) : Calls Tryd.prog 70 #[.pointer (some ⟨R, 0, none⟩), .int .i64 0] w (NamesGot w R p 4) := by
  have hR := hr.lt
  have hp0 := hr.pos
  go_enter Tryd.func70, Tryd.ntmps70
  (go_wp2_with fail); refine (pick_any _ ?_ _ _ ?_ ?_).mono ?_; rotate_left; (focus ((repeat (first | assumption | refine Rd.ext ?_ | refine Rd.drew ?_ | refine Rd.drewN ?_ | refine Rd.set (by assumption) ?_ | refine Rd.lit (by assumption) (by simp) ?_ | refine Rd.alloc ?_ _ | omega)))); (focus omega); rintro e w' ⟨m, dm, rfl, lm, hm, h2, rfl⟩; replace hm := hm (by omega); clear h2
  go_wp2
  go_loopw [5, 6] (fun o i wr => ∃ (j : Int) (ls : List (List UInt8)) (q : Int) (d : Nat) (os : Array Obj), i = .int .i64 j ∧ 0 ≤ j ∧ (ls.length : Int) + j ≤ 3 ∧ (∀ x ∈ ls, x.length ≤ 3) ∧ p ≤ q ∧ q ≤ p + 4 - j ∧ wr = ext (w.setCell ⟨R, 1, none⟩ (.int .i64 q)) d os ∧ OwnS w.heap.size wr o (ls.map mk)) (fun _ i _ => (intOf i).toNat)
  case atStart =>
    obtain ⟨d, os, e⟩ := ext_of_below (show Below (w.setCell ⟨R, 1, none⟩ (.int .i64 (p + 1))).heap.size (w.setCell ⟨R, 1, none⟩ (.int .i64 (p + 1))) (ext ((w.setCell ⟨R, 1, none⟩ (.int .i64 (p + 1))).alloc (.cells #[] 9)) dm #[]) from (by (repeat (first | exact Below.refl _ _ | exact Hbl.out | refine Below.ext ?_ (by first | omega | (simp; omega) | simp) | refine Below.setCell ?_ (by first | omega | (simp; omega) | simp) _ | refine Below.alloc ?_ (by first | omega | (simp; omega) | simp) _ | refine Below.drew ?_ | refine below_drewN ?_ _ | refine Below.step (by assumption) (by first | omega | (simp; omega) | simp) ?_))))
    exact ⟨m, [], p + 1, d, os, rfl, lm, by simp; omega, by simp, by omega, by omega, e, ownS_ext (own_emptyM _ (by simp) (by simp))⟩
  case round =>
    obtain ⟨j, ls, q, d, os, rfl, j0, j1, hsz, q1, q2, rfl, hown⟩ := hrel
    obtain ⟨A, cap, rfl⟩ := own_shapeM hown
    have Hown := Lib.hid hown
    have Hsz := Lib.hid hsz
    clear hown hsz
    by_cases hlt : 0 < j
    · have zj : IntKind.i64.wrap (j - 1) = j - 1 := IntWalk.i64_in _ (by omega)
      go_wp2_with fail
      refine (l20Name_any0 R q _ ?_ (by omega)).mono ?_
      · (repeat (first | assumption | refine Rd.ext ?_ | refine Rd.drew ?_ | refine Rd.drewN ?_ | refine Rd.set (by assumption) ?_ | refine Rd.lit (by assumption) (by simp) ?_ | refine Rd.alloc ?_ _ | omega))
      rintro e w' ⟨v, q', d', os', rfl, q3, q4, ⟨x, rfl, hx⟩, rfl⟩
      go_wp2_with (at_builtin; refine wpList_appS1 _ rfl (.tmp 14) (.tmp 17) rfl w.heap.size _ (ls.map mk) rfl ?cO ?cL ?cB _ rfl x ?c0 ?_)
      case cO => repeat (first | exact ownS_re Hown.out (by omega) | exact ownS_re2 Hown.out (by omega) | refine ownS_ext ?_ | refine ownS_alloc ?_ _)
      case cL => rw [List.length_map]; omega
      case cB => simp; try omega
      case c0 => simp [go_sem]
      intro v' w' o' hg'
      have hbl' : Below (w.setCell ⟨R, 1, none⟩ (.int .i64 q')).heap.size (w.setCell ⟨R, 1, none⟩ (.int .i64 q')) w' := Below.grown ((by (repeat (first | exact Below.refl _ _ | exact Hbl.out | refine Below.ext ?_ (by first | omega | (simp; omega) | simp) | refine Below.setCell ?_ (by first | omega | (simp; omega) | simp) _ | refine Below.alloc ?_ (by first | omega | (simp; omega) | simp) _ | refine Below.drew ?_ | refine below_drewN ?_ _ | refine Below.step (by assumption) (by first | omega | (simp; omega) | simp) ?_)))) hg' (by simp; try omega) (fun k hk => by have := (Hown.out.lt k hk).1; simp; omega)
      obtain ⟨d', os', rfl⟩ := ext_of_below hbl'
      have o2 : OwnS w.heap.size (ext (w.setCell ⟨R, 1, none⟩ (.int .i64 q')) d' os') v' ((ls ++ [x.data.toList]).map mk) := by
        rw [List.map_append, List.map_singleton, ← mk_list x]; exact o'
      have hs2 : ∀ y ∈ ls ++ [x.data.toList], y.length ≤ 3 := fun y hy => by
        rcases List.mem_append.1 hy with h | h
        · exact Hsz.out y h
        · rw [List.mem_singleton.1 h, size_list]; exact hx
      clear o' hg'
      have O2 := Lib.hid o2
      have Hs2 := Lib.hid hs2
      obtain ⟨A2, n2, rfl⟩ := own_shapeM o2
      clear o2 hs2
      go_wp2
      go_roundw
      case rel => exact ⟨j - 1, _, q', d', os', by go_num, by omega, by simp; omega, Hs2.out, by omega, by omega, rfl, O2.out⟩
      case measure => simp [intOf]; omega
    · go_wp2_with (go_at_call 65; refine (odd_zero _ _).mono ?_; rintro e w' ⟨rfl, rfl⟩)
      go_ret
      exact ⟨_, ls, q, d, os, rfl, by omega, by omega, by omega, Hsz.out, rfl, Hown.out⟩
theorem joinL_size3 : ∀ {ws : List (List UInt8)}, (∀ x ∈ ws, x.length ≤ 3) → (joinL ws).length ≤ 4 * ws.length
  | [], _ => Nat.le_refl _
  | x :: r, h => by
    have h1 := h x (List.mem_cons_self ..)
    have h2 := joinL_size3 (ws := r) fun y hy => h y (List.mem_cons_of_mem _ hy)
    simp only [joinL, List.length_cons, List.length_append]; omega
theorem joinP_size3 {ws : List (List UInt8)} (h : ∀ x ∈ ws, x.length ≤ 3) (hl : ws.length ≤ 3) : (joinP ws).length ≤ 16 := by
  unfold joinP
  split
  · split
    · decide
    · have := joinL_size3 h; omega
  · exact Nat.zero_le _
set_option maxHeartbeats 2000000 in
/-- A path is drawn, or some other text: at most 16 signs. -/
theorem l20Path_any (R : Nat) (p n : Int) (w : World) (hr : Rd w R p) (hp : p ≤ 1100000000) (hn : n = 0 ∨ (1 ≤ n ∧ n ≤ 1000)) : Calls Tryd.prog 52 #[.pointer (some ⟨R, 0, none⟩), .int .i64 n] w (Drew w R p 6 (StrN 16)) := by
  have hR := hr.lt
  have hp0 := hr.pos
  rcases hn with rfl | ⟨hn, hn'⟩
  · go_enter Tryd.func52, Tryd.ntmps52
    go_wp2_with (go_at_call 65; refine (odd_zero _ _).mono ?_; rintro e w' ⟨rfl, rfl⟩)
    refine (l20Names_any0 R p _ ?_ (by omega)).mono ?_
    · (repeat (first | assumption | refine Rd.ext ?_ | refine Rd.drew ?_ | refine Rd.drewN ?_ | refine Rd.set (by assumption) ?_ | refine Rd.lit (by assumption) (by simp) ?_ | refine Rd.alloc ?_ _ | omega))
    rintro e w' ⟨v, ls, q, d, os, rfl, q1, q2, hl, hsz, rfl, ho⟩
    have hj := joinS_of v ls _ (ownS_sl ho) (by omega) (fun x hx => by have := hsz x hx; omega)
    have hx : (mk (joinP ls)).size ≤ 16 := by rw [mk_size]; exact joinP_size3 hsz hl
    generalize mk (joinP ls) = x at hj hx
    obtain ⟨A, c, rfl⟩ := own_shapeM ho
    clear ho hsz
    go_wp2_with fail
    refine hj.mono ?_
    rintro e w' ⟨rfl, rfl⟩
    go_wp2
    simp [bodyPost, results, Tryd.results52, go_sem]
    exact Drew.mk q (by (repeat (first | exact Below.refl _ _ | exact Hbl.out | refine Below.ext ?_ (by first | omega | (simp; omega) | simp) | refine Below.setCell ?_ (by first | omega | (simp; omega) | simp) _ | refine Below.alloc ?_ (by first | omega | (simp; omega) | simp) _ | refine Below.drew ?_ | refine below_drewN ?_ _ | refine Below.step (by assumption) (by first | omega | (simp; omega) | simp) ?_))) (by omega) (by omega) ⟨_, rfl, hx⟩
  · go_enter Tryd.func52, Tryd.ntmps52
    go_wp2_with (go_at_call 65; refine (odd_any _ ?_ _ _ ?_ ?_ ?_ ?_).mono ?_; rotate_left; (focus ((repeat (first | assumption | refine Rd.ext ?_ | refine Rd.drew ?_ | refine Rd.drewN ?_ | refine Rd.set (by assumption) ?_ | refine Rd.lit (by assumption) (by simp) ?_ | refine Rd.alloc ?_ _ | omega)))); (focus omega); (focus omega); (focus omega); rintro e w' ⟨b, d, rfl, rfl⟩)
    · refine (pick_any _ ?_ _ _ ?_ ?_).mono ?_; rotate_left; (focus ((repeat (first | assumption | refine Rd.ext ?_ | refine Rd.drew ?_ | refine Rd.drewN ?_ | refine Rd.set (by assumption) ?_ | refine Rd.lit (by assumption) (by simp) ?_ | refine Rd.alloc ?_ _ | omega)))); (focus omega); rintro e w' ⟨c, dc, rfl, lc, hc, h2, rfl⟩; replace hc := hc (by omega); clear h2
      have hx := selS_size (v := c) (l := [⟨#[]⟩, ⟨#[97]⟩, ⟨#[47, 47]⟩, ⟨#[47, 97, 47]⟩, ⟨#[47, 65]⟩, ⟨#[47, 97, 47, 97, 47, 97, 47, 97, 47, 97, 47, 97, 47, 97]⟩, ⟨#[47, 97, 47, 47, 98]⟩]) (N := 16) (by decide)
      go_wp2
      simp [bodyPost, results, Tryd.results52, go_sem]
      exact Drew.mk (p + 1 + 1) (by (repeat (first | exact Below.refl _ _ | exact Hbl.out | refine Below.ext ?_ (by first | omega | (simp; omega) | simp) | refine Below.setCell ?_ (by first | omega | (simp; omega) | simp) _ | refine Below.alloc ?_ (by first | omega | (simp; omega) | simp) _ | refine Below.drew ?_ | refine below_drewN ?_ _ | refine Below.step (by assumption) (by first | omega | (simp; omega) | simp) ?_))) (by omega) (by omega) ⟨_, rfl, hx⟩
    · refine (l20Names_any0 R (p + 1) _ ?_ (by omega)).mono ?_
      · (repeat (first | assumption | refine Rd.ext ?_ | refine Rd.drew ?_ | refine Rd.drewN ?_ | refine Rd.set (by assumption) ?_ | refine Rd.lit (by assumption) (by simp) ?_ | refine Rd.alloc ?_ _ | omega))
      rintro e w' ⟨v, ls, q, d, os, rfl, q1, q2, hl, hsz, e1, ho⟩
      rw [re_drew hR] at e1
      subst e1
      have hj := joinS_of v ls _ (ownS_sl ho) (by omega) (fun x hx => by have := hsz x hx; omega)
      have hx : (mk (joinP ls)).size ≤ 16 := by rw [mk_size]; exact joinP_size3 hsz hl
      generalize mk (joinP ls) = x at hj hx
      obtain ⟨A, c, rfl⟩ := own_shapeM ho
      clear ho hsz
      go_wp2_with fail
      refine hj.mono ?_
      rintro e w' ⟨rfl, rfl⟩
      go_wp2
      simp [bodyPost, results, Tryd.results52, go_sem]
      exact Drew.mk q (by (repeat (first | exact Below.refl _ _ | exact Hbl.out | refine Below.ext ?_ (by first | omega | (simp; omega) | simp) | refine Below.setCell ?_ (by first | omega | (simp; omega) | simp) _ | refine Below.alloc ?_ (by first | omega | (simp; omega) | simp) _ | refine Below.drew ?_ | refine below_drewN ?_ _ | refine Below.step (by assumption) (by first | omega | (simp; omega) | simp) ?_))) (by omega) (by omega) ⟨_, rfl, hx⟩
end Go.Proofs.YtaadobcfijegcaaDoor
