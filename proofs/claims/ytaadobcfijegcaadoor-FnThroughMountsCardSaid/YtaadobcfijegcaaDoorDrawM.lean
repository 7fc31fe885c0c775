/- Mounts: what is drawn. -/
import Derived.Test.YtaadobcfijegcaaDoorDrawP2
import Derived.Test.YtaadobcfijegcaaDoorMntS
import Derived.Test.YtaadobcfijegcaaDoorAbove
import Derived.Deep.RegionHeld3
set_option linter.unusedSimpArgs false
set_option linter.unusedVariables false
set_option linter.unusedSectionVars false
namespace Go.Proofs.YtaadobcfijegcaaDoor
open Go.RowKit

/-- Mounts are drawn: at most m, with texts of at most 16 signs. -/
def DrewM (w : World) (R : Nat) (p k : Int) (m : Nat) (e : Ending) (w' : World) : Prop :=
  ∃ (v : Value) (l : List Mt) (q : Int) (d : Nat) (os : Array Obj), e = .returned v ∧ p ≤ q ∧ q ≤ p + k ∧ l.length ≤ m ∧ (∀ i, i < l.length → (mt l i).1.size ≤ 16 ∧ (mt l i).2.size ≤ 16) ∧ w' = ext (w.setCell ⟨R, 1, none⟩ (.int .i64 q)) d os ∧ OwnG EM 44 w.heap.size w' v l
theorem mt_app_lt {l m : List Mt} {i : Nat} (h : i < l.length) : mt (l ++ m) i = mt l i := by
  unfold mt
  rw [List.getD_eq_getElem?_getD, List.getD_eq_getElem?_getD, List.getElem?_append_left h]
theorem mt_app_one {l : List Mt} {x : Mt} {i : Nat} (h : i = l.length) : mt (l ++ [x]) i = x := by
  subst h
  unfold mt
  rw [List.getD_eq_getElem?_getD, List.getElem?_append_right (Nat.le_refl _), Nat.sub_self]; rfl
theorem mtxt_app {N : Nat} {l : List Mt} {x : Mt} (h : ∀ i, i < l.length → (mt l i).1.size ≤ N ∧ (mt l i).2.size ≤ N) (h1 : x.1.size ≤ N) (h2 : x.2.size ≤ N) : ∀ i, i < (l ++ [x]).length → (mt (l ++ [x]) i).1.size ≤ N ∧ (mt (l ++ [x]) i).2.size ≤ N := by
  intro i hi
  by_cases hl : i < l.length
  · rw [mt_app_lt hl]; exact h i hl
  · rw [List.length_append, List.length_singleton] at hi
    rw [mt_app_one (by omega)]; exact ⟨h1, h2⟩
theorem selM0l (v : Int) (x0 x1 x2 x3 x4 x5 : ByteArray) (h1 : v < 3) (h : v.toNat * 2 < [Value.string x0, Value.string x1, Value.string x2, Value.string x3, Value.string x4, Value.string x5].length) : [Value.string x0, Value.string x1, Value.string x2, Value.string x3, Value.string x4, Value.string x5][v.toNat * 2]'h = .string (selS v [x0, x2, x4]) := by
  have : v.toNat = 0 ∨ v.toNat = 1 ∨ v.toNat = 2 := by omega
  rcases this with h | h | h <;> simp [h, selS]
@[go_sem] theorem selM0 {v : Int} (h0 : 0 ≤ v) (h1 : v < 3) (x0 x1 x2 x3 x4 x5 : ByteArray) : [Value.string x0, Value.string x1, Value.string x2, Value.string x3, Value.string x4, Value.string x5][v.toNat * 2]? = some (.string (selS v [x0, x2, x4])) := by
  have hl : v.toNat * 2 < [Value.string x0, Value.string x1, Value.string x2, Value.string x3, Value.string x4, Value.string x5].length := by simp; omega
  rw [List.getElem?_eq_getElem hl, selM0l _ _ _ _ _ _ _ h1]
@[go_sem] theorem selM0a {v : Int} (h0 : 0 ≤ v) (h1 : v < 3) (x0 x1 x2 x3 x4 x5 : ByteArray) : (#[Value.string x0, Value.string x1, Value.string x2, Value.string x3, Value.string x4, Value.string x5] : Array Value)[v.toNat * 2]? = some (.string (selS v [x0, x2, x4])) := by
  rw [List.getElem?_toArray]; exact selM0 h0 h1 x0 x1 x2 x3 x4 x5
theorem selM1l (v : Int) (x0 x1 x2 x3 x4 x5 : ByteArray) (h1 : v < 3) (h : v.toNat * 2 + 1 < [Value.string x0, Value.string x1, Value.string x2, Value.string x3, Value.string x4, Value.string x5].length) : [Value.string x0, Value.string x1, Value.string x2, Value.string x3, Value.string x4, Value.string x5][v.toNat * 2 + 1]'h = .string (selS v [x1, x3, x5]) := by
  have : v.toNat = 0 ∨ v.toNat = 1 ∨ v.toNat = 2 := by omega
  rcases this with h | h | h <;> simp [h, selS]
@[go_sem] theorem selM1 {v : Int} (h0 : 0 ≤ v) (h1 : v < 3) (x0 x1 x2 x3 x4 x5 : ByteArray) : [Value.string x0, Value.string x1, Value.string x2, Value.string x3, Value.string x4, Value.string x5][v.toNat * 2 + 1]? = some (.string (selS v [x1, x3, x5])) := by
  have hl : v.toNat * 2 + 1 < [Value.string x0, Value.string x1, Value.string x2, Value.string x3, Value.string x4, Value.string x5].length := by simp; omega
  rw [List.getElem?_eq_getElem hl, selM1l _ _ _ _ _ _ _ h1]
@[go_sem] theorem selM1a {v : Int} (h0 : 0 ≤ v) (h1 : v < 3) (x0 x1 x2 x3 x4 x5 : ByteArray) : (#[Value.string x0, Value.string x1, Value.string x2, Value.string x3, Value.string x4, Value.string x5] : Array Value)[v.toNat * 2 + 1]? = some (.string (selS v [x1, x3, x5])) := by
  rw [List.getElem?_toArray]; exact selM1 h0 h1 x0 x1 x2 x3 x4 x5
theorem selM2l (v : Int) (x1 x2 x3 x4 x5 : ByteArray) (h1 : v < 3) (h : v.toNat * 2 < [Value.string x1, Value.string x2, Value.string x3, Value.string x4, Value.string x5].length) : [Value.string x1, Value.string x2, Value.string x3, Value.string x4, Value.string x5][v.toNat * 2]'h = .string (selS v [x1, x3, x5]) := by
  have : v.toNat = 0 ∨ v.toNat = 1 ∨ v.toNat = 2 := by omega
  rcases this with h | h | h <;> simp [h, selS]
@[go_sem] theorem selM2 {v : Int} (h0 : 0 ≤ v) (h1 : v < 3) (x1 x2 x3 x4 x5 : ByteArray) : [Value.string x1, Value.string x2, Value.string x3, Value.string x4, Value.string x5][v.toNat * 2]? = some (.string (selS v [x1, x3, x5])) := by
  have hl : v.toNat * 2 < [Value.string x1, Value.string x2, Value.string x3, Value.string x4, Value.string x5].length := by simp; omega
  rw [List.getElem?_eq_getElem hl, selM2l _ _ _ _ _ _ h1]
theorem re_drew2 {R d0 d : Nat} {w : World} {u u' : Value} {os os' : Array Obj} (hR : R < w.heap.size) : ext ((ext (w.setCell ⟨R, 1, none⟩ u) d0 os).setCell ⟨R, 1, none⟩ u') d os' = ext (w.setCell ⟨R, 1, none⟩ u') d (os ++ os') := by
  have h : LtA R (w.setCell ⟨R, 1, none⟩ u).heap.size := by unfold LtA; rw [size_setCell]; exact hR
  rw [ext_setCell h, ext_ext, setCell_twice]
set_option maxRecDepth 100000 in
set_option maxHeartbeats 4000000 in
theorem l20Mounts_any (R : Nat) (p n : Int) (w : World) (hr : Rd w R p) (hp : p ≤ 1000000000) (hn : 1 ≤ n) (hn' : n ≤ 1000) : Calls Tryd.prog 58 #[.pointer (some ⟨R, 0, none⟩), .int .i64 n] w (DrewM w R p 39 4) := by
  have hR := hr.lt
  have hp0 := hr.pos
  go_enter Tryd.func58, Tryd.ntmps58
  (go_wp2_with fail); refine (pick_any _ ?_ _ _ ?_ ?_).mono ?_; rotate_left; (focus ((repeat (first | assumption | refine Rd.ext ?_ | refine Rd.drew ?_ | refine Rd.drewN ?_ | refine Rd.set (by assumption) ?_ | refine Rd.lit (by assumption) (by simp) ?_ | refine Rd.alloc ?_ _ | omega)))); (focus omega); rintro e w' ⟨m, dm, rfl, lm, hm, h2, rfl⟩; replace hm := hm (by omega); clear h2
  go_wp2
  go_loopw [5, 6] (fun o i wr => ∃ (j : Int) (l : List Mt) (q : Int) (d : Nat) (os : Array Obj), i = .int .i64 j ∧ 0 ≤ j ∧ (l.length : Int) + j ≤ 3 ∧ (∀ i, i < l.length → (mt l i).1.size ≤ 16 ∧ (mt l i).2.size ≤ 16) ∧ p ≤ q ∧ q ≤ p + 37 - 12 * j ∧ wr = ext (w.setCell ⟨R, 1, none⟩ (.int .i64 q)) d os ∧ OwnG EM 44 w.heap.size wr o l) (fun _ i _ => (intOf i).toNat)
  case atStart =>
    obtain ⟨d, os, e⟩ := ext_of_below (show Below (w.setCell ⟨R, 1, none⟩ (.int .i64 (p + 1))).heap.size (w.setCell ⟨R, 1, none⟩ (.int .i64 (p + 1))) (ext ((w.setCell ⟨R, 1, none⟩ (.int .i64 (p + 1))).alloc (.cells #[] 44)) dm #[]) from (by (repeat (first | exact Below.refl _ _ | exact Hbl.out | refine Below.ext ?_ (by first | omega | (simp; omega) | simp) | refine Below.setCell ?_ (by first | omega | (simp; omega) | simp) _ | refine Below.alloc ?_ (by first | omega | (simp; omega) | simp) _ | refine Below.drew ?_ | refine below_drewN ?_ _ | refine Below.step (by assumption) (by first | omega | (simp; omega) | simp) ?_))))
    exact ⟨m, [], p + 1, d, os, rfl, lm, by simp; omega, fun i hi => by simp at hi, by omega, by omega, e, ownG_ext (ownG_empty _ (by simp) (by simp))⟩
  case round =>
    obtain ⟨j, l, q, d, os, rfl, j0, j1, hsz, q1, q2, rfl, hown⟩ := hrel
    obtain ⟨A, cap, rfl⟩ := ownG_shape hown
    have Hown := Lib.hid hown
    have Hsz := Lib.hid hsz
    clear hown hsz
    by_cases hlt : 0 < j
    · have zj : IntKind.i64.wrap (j - 1) = j - 1 := IntWalk.i64_in _ (by omega)
      go_wp2_with fail
      refine (l20Path_any R q 0 _ ?_ (by omega) (.inl rfl)).mono ?_
      · (repeat (first | assumption | refine Rd.ext ?_ | refine Rd.drew ?_ | refine Rd.drewN ?_ | refine Rd.set (by assumption) ?_ | refine Rd.lit (by assumption) (by simp) ?_ | refine Rd.alloc ?_ _ | omega))
      rintro e w' ⟨_, q', d', os', rfl, q3, q4, ⟨x, rfl, hx⟩, rfl⟩
      go_wp2_with fail
      refine (l20Path_any R q' 0 _ ?_ (by omega) (.inl rfl)).mono ?_
      · (repeat (first | assumption | refine Rd.ext ?_ | refine Rd.drew ?_ | refine Rd.drewN ?_ | refine Rd.set (by assumption) ?_ | refine Rd.lit (by assumption) (by simp) ?_ | refine Rd.alloc ?_ _ | omega))
      rintro e W5 ⟨_, q5, d5, os5, rfl, q6, q7, ⟨y, rfl, hy⟩, hW5⟩
      have hb5 : Below (w.setCell ⟨R, 1, none⟩ (.int .i64 q5)).heap.size (w.setCell ⟨R, 1, none⟩ (.int .i64 q5)) W5 := by rw [hW5, re_drew2 hR]; exact (by (repeat (first | exact Below.refl _ _ | exact Hbl.out | refine Below.ext ?_ (by first | omega | (simp; omega) | simp) | refine Below.setCell ?_ (by first | omega | (simp; omega) | simp) _ | refine Below.alloc ?_ (by first | omega | (simp; omega) | simp) _ | refine Below.drew ?_ | refine below_drewN ?_ _ | refine Below.step (by assumption) (by first | omega | (simp; omega) | simp) ?_)))
      have ho5 : OwnG EM 44 w.heap.size W5 (.slice A l.length cap) l := by rw [hW5, re_drew2 hR]; exact ownG_re2 (ownG_re2 (u' := .int .i64 q') (d' := d') (os' := os') Hown.out hR) hR
      have hz5 : w.heap.size ≤ W5.heap.size := by have := hb5.size; rw [size_setCell] at this; exact this
      have hsl := ownG_sl ho5
      have htx := mtxt_app (x := (x, y)) Hsz.out hx hy
      have ht2 : MTxt (l ++ [(x, y)]) := fun i hi => by have := htx i hi; omega
      have Ht2 := Lib.hid ht2
      have Htx := Lib.hid htx
      have Hsl := Lib.hid hsl
      have Ho5 := Lib.hid ho5
      have Hb5 := Lib.hid hb5
      clear htx ht2 hsl ho5 hb5 hW5
      go_wp2
      go_region_held3 (fun w' => w'.cell? ⟨W5.heap.size, 0, none⟩ = some (.string x) ∧ w'.cell? ⟨W5.heap.size, 1, none⟩ = some (.string y)) (first | (refine ⟨?_, ?_⟩ <;> first | assumption | (go_simp; done)) | (refine ⟨cx3.trans ?_, cy3.trans ?_⟩ <;> first | assumption | (go_simp; done)) | (refine ⟨cx2.trans ?_, cy2.trans ?_⟩ <;> first | assumption | (go_simp; done)) | (refine ⟨cx1.trans ?_, cy1.trans ?_⟩ <;> first | assumption | (go_simp; done))) (first | (refine step_appG fitM _ rfl (.tmp 20) (.tmp 21) rfl (W5.heap.size + 1) (.slice (some ⟨_, 0, none⟩) 0 0) [] rfl ?_ _ l rfl ?_ ?_ ?_ ?_; (focus (first | (refine ownG_empty _ ?_ ?_ <;> (first | omega | (simp; done) | (simp; omega)); done) | (refine ownG_alloc (ownG_empty _ ?_ ?_) _ <;> (first | omega | (simp; done) | (simp; omega)); done))); (focus (refine Hsl.out.below ?_; (repeat (first | exact Below.refl _ _ | exact Hbl.out | refine Below.ext ?_ (by first | omega | (simp; omega) | simp) | refine Below.setCell ?_ (by first | omega | (simp; omega) | simp) _ | refine Below.alloc ?_ (by first | omega | (simp; omega) | simp) _ | refine Below.drew ?_ | refine below_drewN ?_ _ | refine Below.step (by assumption) (by first | omega | (simp; omega) | simp) ?_)))); (focus (first | omega | (simp; done) | (simp; omega))); (focus (first | omega | (simp; done) | (simp; omega))); rintro v1 w1 ⟨o1, g1, a1⟩ hb1; have cx1 := hb1.cell (p := ⟨W5.heap.size, 0, none⟩) (Nat.lt_succ_self _); have cy1 := hb1.cell (p := ⟨W5.heap.size, 1, none⟩) (Nat.lt_succ_self _); have hz1 := hb1.size; (try simp at hz1)) | (refine step_appG fitM _ rfl (.tmp 22) (.tmp 24) rfl (W5.heap.size + 1) _ l rfl ?_ _ [(x, y)] rfl ?_ ?_ ?_ ?_; (focus (first | exact o1 | exact ownG_alloc o1 _)); (focus (refine slG_one ?_ ?_; (focus (first | omega | (simp; done) | (simp; omega))); (focus (intro j u hu; rcases j with _ | _ | j <;> simp [EM] at hu <;> subst hu <;> first | (go_simp; done) | (refine g1.cell ?_ ?_; (focus (go_simp)); (focus (simp [Value.ownBlock]; try omega))))))); (focus (first | omega | (simp; done) | (simp; omega))); (focus (first | omega | (simp; done) | (simp; omega))); rintro v2 w2 ⟨o2, g2, a2⟩ hb2; have cx2 := hb2.cell (p := ⟨W5.heap.size, 0, none⟩) (Nat.lt_succ_self _); have cy2 := hb2.cell (p := ⟨W5.heap.size, 1, none⟩) (Nat.lt_succ_self _); have hz2 := hb2.size; (try simp at hz2)) | (go_at_call 59; refine (mountsS_of _ _ _ (ownG_sl o2) Ht2.out).mono ?_; rintro e w3 ⟨rfl, hb3⟩; have hk3 : W5.heap.size < w2.heap.size := (by omega); have cx3 := hb3.cell (p := ⟨W5.heap.size, 0, none⟩) hk3; have cy3 := hb3.cell (p := ⟨W5.heap.size, 1, none⟩) hk3; have hz3 := hb3.size; (try simp at hz3)))
      all_goals
        have hq5 : (w.setCell ⟨R, 1, none⟩ (.int .i64 q5)).heap.size ≤ W5.heap.size + 1 := by rw [size_setCell]; omega
        have t1 : Below (w.setCell ⟨R, 1, none⟩ (.int .i64 q5)).heap.size (w.setCell ⟨R, 1, none⟩ (.int .i64 q5)) w1 := Below.step hb1 hq5 (by repeat (first | exact Hb5.out | refine Below.alloc ?_ (by first | omega | (simp; omega)) _ | refine Below.drew ?_))
        have t2 : Below (w.setCell ⟨R, 1, none⟩ (.int .i64 q5)).heap.size (w.setCell ⟨R, 1, none⟩ (.int .i64 q5)) w2 := Below.step hb2 hq5 (by first | exact t1 | exact Below.alloc t1 (by first | omega | (simp; omega)) _)
        have t3 : Below (w.setCell ⟨R, 1, none⟩ (.int .i64 q5)).heap.size (w.setCell ⟨R, 1, none⟩ (.int .i64 q5)) w3 := Below.step hb3 (by rw [size_setCell]; omega) t2
        have u1 : Below W5.heap.size W5 w1 := Below.step hb1 (Nat.le_succ _) (by repeat (first | exact Below.refl _ _ | refine Below.alloc ?_ (by first | omega | (simp; omega) | simp) _ | refine Below.drew ?_))
        have u2 : Below W5.heap.size W5 w2 := Below.step hb2 (Nat.le_succ _) (by first | exact u1 | exact Below.alloc u1 (by first | omega | (simp; omega)) _)
        have u3 : Below W5.heap.size W5 w3 := Below.step hb3 (by omega) u2
        have ho3 := ownG_below Ho5.out u3
        have hz3' : w.heap.size ≤ w3.heap.size := by have := u3.size; omega
        obtain ⟨k1, k2⟩ : w3.cell? ⟨W5.heap.size, 0, none⟩ = some (.string x) ∧ w3.cell? ⟨W5.heap.size, 1, none⟩ = some (.string y) := by assumption
        have T3 := Lib.hid t3
        have Ho3 := Lib.hid ho3
        have hgB : ∀ j, (Value.slice A l.length cap).ownBlock = some j → w.heap.size ≤ j := fun j hj => (Ho3.out.lt j hj).1
        clear t1 t2 t3 u1 u2 u3 ho3 hb1 hb2 hb3 o1 o2 g1 g2 a1 a2 cx1 cx2 cx3 cy1 cy2 cy3
        cases mountsB (l ++ [(x, y)])
        · obtain ⟨d', os', e'⟩ := ext_of_below T3.out
          have ho' := Ho3.out
          rw [e'] at ho'
          have Ho' := Lib.hid ho'
          clear ho'
          go_wp2
          go_roundw
          case rel => exact ⟨j - 1, l, q5, d', os', by go_num, by omega, by omega, Hsz.out, by omega, by omega, rfl, Ho'.out⟩
          case measure => simp [intOf]; omega
        · go_wp2_with (at_builtin; refine wpList_appG fitM _ rfl (.tmp 27) (.tmp 29) rfl w.heap.size _ l rfl ?cO _ [(x, y)] rfl ?cS ?cL ?cB ?_)
          case cO => exact ownG_alloc Ho3.out _
          case cS => exact slG_one (by simp) (by intro j u hu; rcases j with _ | _ | j <;> simp [EM] at hu <;> subst hu <;> go_simp)
          case cL => simp; omega
          case cB => simp; omega
          intro v6 w6 ⟨o6, g6, a6⟩ hb6
          have t6 : Below (w.setCell ⟨R, 1, none⟩ (.int .i64 q5)).heap.size (w.setCell ⟨R, 1, none⟩ (.int .i64 q5)) w6 := Below.step hb6 (by rw [size_setCell]; exact Nat.le_refl _) (Below.alloc T3.out (by rw [size_setCell]; omega) _)
          obtain ⟨d', os', e'⟩ := ext_of_below t6
          rw [e'] at o6
          have O6 := Lib.hid o6
          obtain ⟨A6, c6, rfl⟩ := ownG_shape o6
          clear o6 g6 a6 hb6
          go_wp2
          go_roundw
          case rel => exact ⟨j - 1, l ++ [(x, y)], q5, d', os', by go_num, by omega, by simp; omega, Htx.out, by omega, by omega, rfl, O6.out⟩
          case measure => simp [intOf]; omega
    · go_wp2_with (go_at_call 65; refine (odd_any _ ?_ _ _ ?_ ?_ ?_ ?_).mono ?_; rotate_left; (focus ((repeat (first | assumption | refine Rd.ext ?_ | refine Rd.drew ?_ | refine Rd.drewN ?_ | refine Rd.set (by assumption) ?_ | refine Rd.lit (by assumption) (by simp) ?_ | refine Rd.alloc ?_ _ | omega)))); (focus omega); (focus omega); (focus omega); rintro e w' ⟨b, d, rfl, rfl⟩)
      · refine (pick_any _ ?_ _ _ ?_ ?_).mono ?_; rotate_left; (focus ((repeat (first | assumption | refine Rd.ext ?_ | refine Rd.drew ?_ | refine Rd.drewN ?_ | refine Rd.set (by assumption) ?_ | refine Rd.lit (by assumption) (by simp) ?_ | refine Rd.alloc ?_ _ | omega)))); (focus omega); rintro e w' ⟨c, dc, rfl, lc, hc, h2, rfl⟩; replace hc := hc (by omega); clear h2
        have hx1 := selS_size (v := c) (l := [⟨#[97]⟩, ⟨#[47, 97]⟩, ⟨#[47, 113]⟩]) (N := 16) (by decide)
        have hx2 := selS_size (v := c) (l := [⟨#[47]⟩, ⟨#[]⟩, ⟨#[47, 65]⟩]) (N := 16) (by decide)
        have htx := mtxt_app (x := (selS c [⟨#[97]⟩, ⟨#[47, 97]⟩, ⟨#[47, 113]⟩], selS c [⟨#[47]⟩, ⟨#[]⟩, ⟨#[47, 65]⟩])) Hsz.out hx1 hx2
        have Htx := Lib.hid htx
        clear htx
        go_wp2_with (at_builtin; refine wpList_appG fitM _ rfl (.tmp 34) (.tmp 43) rfl w.heap.size _ l rfl ?cO _ [(selS c [⟨#[97]⟩, ⟨#[47, 97]⟩, ⟨#[47, 113]⟩], selS c [⟨#[47]⟩, ⟨#[]⟩, ⟨#[47, 65]⟩])] rfl ?cS ?cL ?cB ?_)
        case cO => repeat (first | exact ownG_re Hown.out (by omega) | exact ownG_re2 Hown.out (by omega) | refine ownG_ext ?_ | refine ownG_alloc ?_ _)
        case cS => exact slG_one (by simp) (by intro j u hu; rcases j with _ | _ | j <;> simp [EM] at hu <;> subst hu <;> go_simp)
        case cL => simp; omega
        case cB => simp; try omega
        intro v6 w6 ⟨o6, g6, a6⟩ hb6
        have t6 : Below (w.setCell ⟨R, 1, none⟩ (.int .i64 (q + 1 + 1))).heap.size (w.setCell ⟨R, 1, none⟩ (.int .i64 (q + 1 + 1))) w6 := Below.step hb6 (by rw [size_setCell]; exact Nat.le_refl _) (by (repeat (first | exact Below.refl _ _ | exact Hbl.out | refine Below.ext ?_ (by first | omega | (simp; omega) | simp) | refine Below.setCell ?_ (by first | omega | (simp; omega) | simp) _ | refine Below.alloc ?_ (by first | omega | (simp; omega) | simp) _ | refine Below.drew ?_ | refine below_drewN ?_ _ | refine Below.step (by assumption) (by first | omega | (simp; omega) | simp) ?_)))
        obtain ⟨d', os', e'⟩ := ext_of_below t6
        rw [e'] at o6
        have O6 := Lib.hid o6
        obtain ⟨A6, c6, rfl⟩ := ownG_shape o6
        clear o6 g6 a6 hb6
        go_wp2
        go_ret
        exact ⟨_, l ++ [(selS c [⟨#[97]⟩, ⟨#[47, 97]⟩, ⟨#[47, 113]⟩], selS c [⟨#[47]⟩, ⟨#[]⟩, ⟨#[47, 65]⟩])], q + 1 + 1, d', os', rfl, by omega, by omega, by simp; omega, Htx.out, e', by rw [e']; exact O6.out⟩
      · go_ret
        exact ⟨_, l, q + 1, _, _, rfl, by omega, by omega, by omega, Hsz.out, rfl, ownG_re Hown.out (by omega)⟩
theorem ownG_swap {α : Type} {E : Lay α} {T B d d' : Nat} {w1 w2 : World} {os os' : Array Obj} {v : Value} {l : List α} (h : OwnG E T B (ext w1 d os) v l) (hs : w1.heap.size = w2.heap.size) (hb : w1.heap.size ≤ B) : OwnG E T B (ext w2 d' (os ++ os')) v l := by
  refine ⟨h.1, h.2.imp id fun ⟨g, c, cur, e1, e2, e3, e4⟩ => ⟨g, c, cur, e1, e2, ?_, e4⟩⟩
  rw [← e3]
  have hlt : g < (ext w1 d os).heap.size := by
    rcases Nat.lt_or_ge g (ext w1 d os).heap.size with h | h
    · exact h
    · rw [Array.getElem?_eq_none h] at e3; cases e3
  rw [ext_size] at hlt
  have e5 : (ext w1 d os).heap[g]? = os[g - w1.heap.size]? := by
    show (w1.heap ++ os)[g]? = _
    rw [Array.getElem?_append_right (by omega)]
  show (w2.heap ++ (os ++ os'))[g]? = _
  rw [e5, Array.getElem?_append_right (by omega), ← hs, Array.getElem?_append_left (by omega)]
theorem ownG_swap0 {α : Type} {E : Lay α} {T B d d' : Nat} {w1 w2 : World} {os : Array Obj} {v : Value} {l : List α} (h : OwnG E T B (ext w1 d os) v l) (hs : w1.heap.size = w2.heap.size) (hb : w1.heap.size ≤ B) : OwnG E T B (ext w2 d' os) v l := by
  have := ownG_swap (d' := d') (os' := #[]) h hs hb
  rwa [Array.append_empty] at this
/-- Mounts and a path are drawn. -/
def MntPath (w : World) (e : Ending) (w' : World) : Prop := ∃ (v : Value) (l : List Mt) (s : ByteArray), e = .returned (.tuple #[v, .string s]) ∧ l.length ≤ 4 ∧ (∀ i, i < l.length → (mt l i).1.size ≤ 16 ∧ (mt l i).2.size ≤ 16) ∧ s.size ≤ 60 ∧ SlG EM w' v l ∧ Below w.heap.size w w'
set_option maxHeartbeats 2000000 in
theorem drawTM_any (a : Option Addr) (len cap : Nat) (zs : List Int) (w : World) (hrow : IsRow .u8 w a len cap zs) : Calls Tryd.prog 35 #[.slice a len cap] w (MntPath w) := by
  go_enter Tryd.func35, Tryd.ntmps35
  go_wp2_with (go_at_call 45; refine (open_any _ _ _ _ _ (IsRow.below hrow (by repeat (first | exact Below.refl _ _ | refine Below.alloc ?_ (by simp; try omega) _)))).mono ?_; rintro e w' ⟨A, le, ca, rfl, rfl, zs', hby⟩; (try simp only [World.size_alloc] at hby))
  refine (l20Mounts_any _ ?_ 9 _ ?_ ?_ (by decide) (by decide)).mono ?_; rotate_left; (focus ((repeat (first | assumption | refine Rd.ext ?_ | refine Rd.drew ?_ | refine Rd.drewN ?_ | refine Rd.set (by assumption) ?_ | refine Rd.lit (by assumption) (by simp) ?_ | refine Rd.alloc ?_ _ | omega)))); (focus omega); rintro e w' ⟨v, l, q, d, os, rfl, q1, q2, hl, hsz, hw', hown⟩
  have hR : w.heap.size < (w.alloc (.cells #[.slice A le ca, .int .i64 0] 64)).heap.size := by simp
  have hown2 : OwnG EM 44 (w.heap.size + 1) (ext ((w.alloc (.cells #[.slice A le ca, .int .i64 0] 64)).setCell ⟨w.heap.size, 1, none⟩ (.int .i64 q)) d os) v l := by
    rw [← hw', show w.heap.size + 1 = (w.alloc (.cells #[.slice A le ca, .int .i64 0] 64)).heap.size from by simp]; exact hown
  clear hown
  subst hw'
  obtain ⟨B, cB, rfl⟩ := ownG_shape hown2
  have Hown := Lib.hid hown2
  have Hsz := Lib.hid hsz
  clear hown2 hsz
  by_cases h0 : l.length = 0
  · have h0' : ¬ (0 : Int) < (l.length : Int) := by omega
    clear h0
    go_wp2_with fail
    refine (l20Path_any _ ?_ 9 _ ?_ ?_ (by decide)).mono ?_; rotate_left; (focus ((repeat (first | assumption | refine Rd.ext ?_ | refine Rd.drew ?_ | refine Rd.drewN ?_ | refine Rd.set (by assumption) ?_ | refine Rd.lit (by assumption) (by simp) ?_ | refine Rd.alloc ?_ _ | omega)))); (focus omega); rintro e w' ⟨_, q', d', os', rfl, q3, q4, ⟨t, rfl, ht⟩, rfl⟩
    go_wp2
    go_ret2
    exact ⟨_, l, t, rfl, hl, Hsz.out, by omega, (by refine ownG_sl (ownG_swap Hown.out ?_ ?_) <;> simp), (by (repeat (first | exact Below.refl _ _ | exact Hbl.out | refine Below.ext ?_ (by first | omega | (simp; omega) | simp) | refine Below.setCell ?_ (by first | omega | (simp; omega) | simp) _ | refine Below.alloc ?_ (by first | omega | (simp; omega) | simp) _ | refine Below.drew ?_ | refine below_drewN ?_ _ | refine Below.step (by assumption) (by first | omega | (simp; omega) | simp) ?_)))⟩
  · have h0' : (0 : Int) < (l.length : Int) := by omega
    (go_wp2_with fail); refine (pick_any _ ?_ _ _ ?_ ?_).mono ?_; rotate_left; (focus ((repeat (first | assumption | refine Rd.ext ?_ | refine Rd.drew ?_ | refine Rd.drewN ?_ | refine Rd.set (by assumption) ?_ | refine Rd.lit (by assumption) (by simp) ?_ | refine Rd.alloc ?_ _ | omega)))); (focus omega); rintro e w' ⟨x, dx, rfl, lx, hx, h2, rfl⟩; replace hx := hx (by omega); clear h2
    go_wp2_with fail
    · refine (pick_any _ ?_ _ _ ?_ ?_).mono ?_; rotate_left; (focus ((repeat (first | assumption | refine Rd.ext ?_ | refine Rd.drew ?_ | refine Rd.drewN ?_ | refine Rd.set (by assumption) ?_ | refine Rd.lit (by assumption) (by simp) ?_ | refine Rd.alloc ?_ _ | omega)))); (focus omega); rintro e w' ⟨c, dc, rfl, lc, hc, h2, rfl⟩; replace hc := hc (by omega); clear h2
      have hcl : c.toNat < l.length := by omega
      have hsl : SlG EM (ext (w.alloc (.cells #[.slice A le ca, .int .i64 (q + 1 + 1)] 64)) dc os) (.slice B l.length cB) l := by refine ownG_sl (ownG_swap0 Hown.out ?_ ?_) <;> simp
      obtain ⟨b, off, rfl, hb, k0, _⟩ := mnt_cells hsl hcl
      have hsx := (Hsz.out c.toNat hcl).1
      have hf := follow_size (mt l c.toNat).1.data.toList [98]
      have hq := fun w => followS_of (mt l c.toNat).1 ⟨#[98]⟩ w (by omega) (by decide)
      rw [show (ByteArray.mk #[98]).data.toList = [98] from rfl] at hq
      rw [← mk_size] at hf
      generalize mk (followF (mt l c.toNat).1.data.toList [98]) = y at hf hq
      generalize (mt l c.toNat).1 = z at k0 hq hsx
      have Hq := Lib.hid hq
      clear hq hsl
      go_wp2_with fail
      refine (Hq.out _).mono ?_
      rintro e w' ⟨rfl, hb⟩
      obtain ⟨d1, os1, rfl⟩ := ext_of_below hb; clear hb
      go_wp2
      go_ret2
      exact ⟨_, l, y, rfl, hl, Hsz.out, by omega, (by refine ownG_sl (ownG_swap Hown.out ?_ ?_) <;> simp), (by (repeat (first | exact Below.refl _ _ | exact Hbl.out | refine Below.ext ?_ (by first | omega | (simp; omega) | simp) | refine Below.setCell ?_ (by first | omega | (simp; omega) | simp) _ | refine Below.alloc ?_ (by first | omega | (simp; omega) | simp) _ | refine Below.drew ?_ | refine below_drewN ?_ _ | refine Below.step (by assumption) (by first | omega | (simp; omega) | simp) ?_)))⟩
    · refine (l20Path_any _ ?_ 9 _ ?_ ?_ (by decide)).mono ?_; rotate_left; (focus ((repeat (first | assumption | refine Rd.ext ?_ | refine Rd.drew ?_ | refine Rd.drewN ?_ | refine Rd.set (by assumption) ?_ | refine Rd.lit (by assumption) (by simp) ?_ | refine Rd.alloc ?_ _ | omega)))); (focus omega); rintro e w' ⟨_, q', d', os', rfl, q3, q4, ⟨t, rfl, ht⟩, rfl⟩
      go_wp2
      go_ret2
      exact ⟨_, l, t, rfl, hl, Hsz.out, by omega, (by refine ownG_sl (ownG_swap Hown.out ?_ ?_) <;> simp), (by (repeat (first | exact Below.refl _ _ | exact Hbl.out | refine Below.ext ?_ (by first | omega | (simp; omega) | simp) | refine Below.setCell ?_ (by first | omega | (simp; omega) | simp) _ | refine Below.alloc ?_ (by first | omega | (simp; omega) | simp) _ | refine Below.drew ?_ | refine below_drewN ?_ _ | refine Below.step (by assumption) (by first | omega | (simp; omega) | simp) ?_)))⟩
end Go.Proofs.YtaadobcfijegcaaDoor
