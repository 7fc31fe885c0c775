/- Ways: what is drawn. -/
import Derived.Test.YtaadobcfijegcaaDoorDraw
set_option linter.unusedSimpArgs false
set_option linter.unusedVariables false
set_option linter.unusedSectionVars false
namespace Go.Proofs.YtaadobcfijegcaaDoor
open Go.RowKit

/-- The text in place v of a list. -/
def selS (v : Int) (l : List ByteArray) : ByteArray := l.getD v.toNat ByteArray.empty
theorem selS_size {v : Int} {l : List ByteArray} {N : Nat} (h : ∀ x ∈ l, x.size ≤ N) : (selS v l).size ≤ N := by
  unfold selS
  rw [List.getD_eq_getElem?_getD]
  cases e : l[v.toNat]? with
  | none => exact Nat.zero_le _
  | some x => exact h x (List.mem_of_getElem? e)
theorem selS3l (v : Int) (x0 x1 x2 : ByteArray) (h : v.toNat < [Value.string x0, Value.string x1, Value.string x2].length) : [Value.string x0, Value.string x1, Value.string x2][v.toNat]'h = .string (selS v [x0, x1, x2]) := by
  have h' : v.toNat < 3 := h
  have : v.toNat = 0 ∨ v.toNat = 1 ∨ v.toNat = 2 := by omega
  rcases this with h | h | h <;> simp [h, selS]
@[go_sem] theorem selS3g (v : Int) (x0 x1 x2 : ByteArray) (h : v.toNat < [Value.string x0, Value.string x1, Value.string x2].length) : [Value.string x0, Value.string x1, Value.string x2][v.toNat]'h = .string (selS v [x0, x1, x2]) := selS3l v x0 x1 x2 h
@[go_sem] theorem selS3 {v : Int} (h0 : 0 ≤ v) (h1 : v < 3) (x0 x1 x2 : ByteArray) : [Value.string x0, Value.string x1, Value.string x2][v.toNat]? = some (.string (selS v [x0, x1, x2])) := by
  have hl : v.toNat < [Value.string x0, Value.string x1, Value.string x2].length := by simp; omega
  rw [List.getElem?_eq_getElem hl, selS3l]
@[go_sem] theorem selS3a {v : Int} (h0 : 0 ≤ v) (h1 : v < 3) (x0 x1 x2 : ByteArray) : (#[Value.string x0, Value.string x1, Value.string x2] : Array Value)[v.toNat]? = some (.string (selS v [x0, x1, x2])) := by
  rw [List.getElem?_toArray]; exact selS3 h0 h1 x0 x1 x2
theorem selS4l (v : Int) (x0 x1 x2 x3 : ByteArray) (h : v.toNat < [Value.string x0, Value.string x1, Value.string x2, Value.string x3].length) : [Value.string x0, Value.string x1, Value.string x2, Value.string x3][v.toNat]'h = .string (selS v [x0, x1, x2, x3]) := by
  have h' : v.toNat < 4 := h
  have : v.toNat = 0 ∨ v.toNat = 1 ∨ v.toNat = 2 ∨ v.toNat = 3 := by omega
  rcases this with h | h | h | h <;> simp [h, selS]
@[go_sem] theorem selS4g (v : Int) (x0 x1 x2 x3 : ByteArray) (h : v.toNat < [Value.string x0, Value.string x1, Value.string x2, Value.string x3].length) : [Value.string x0, Value.string x1, Value.string x2, Value.string x3][v.toNat]'h = .string (selS v [x0, x1, x2, x3]) := selS4l v x0 x1 x2 x3 h
@[go_sem] theorem selS4 {v : Int} (h0 : 0 ≤ v) (h1 : v < 4) (x0 x1 x2 x3 : ByteArray) : [Value.string x0, Value.string x1, Value.string x2, Value.string x3][v.toNat]? = some (.string (selS v [x0, x1, x2, x3])) := by
  have hl : v.toNat < [Value.string x0, Value.string x1, Value.string x2, Value.string x3].length := by simp; omega
  rw [List.getElem?_eq_getElem hl, selS4l]
@[go_sem] theorem selS4a {v : Int} (h0 : 0 ≤ v) (h1 : v < 4) (x0 x1 x2 x3 : ByteArray) : (#[Value.string x0, Value.string x1, Value.string x2, Value.string x3] : Array Value)[v.toNat]? = some (.string (selS v [x0, x1, x2, x3])) := by
  rw [List.getElem?_toArray]; exact selS4 h0 h1 x0 x1 x2 x3
theorem selS6l (v : Int) (x0 x1 x2 x3 x4 x5 : ByteArray) (h : v.toNat < [Value.string x0, Value.string x1, Value.string x2, Value.string x3, Value.string x4, Value.string x5].length) : [Value.string x0, Value.string x1, Value.string x2, Value.string x3, Value.string x4, Value.string x5][v.toNat]'h = .string (selS v [x0, x1, x2, x3, x4, x5]) := by
  have h' : v.toNat < 6 := h
  have : v.toNat = 0 ∨ v.toNat = 1 ∨ v.toNat = 2 ∨ v.toNat = 3 ∨ v.toNat = 4 ∨ v.toNat = 5 := by omega
  rcases this with h | h | h | h | h | h <;> simp [h, selS]
@[go_sem] theorem selS6g (v : Int) (x0 x1 x2 x3 x4 x5 : ByteArray) (h : v.toNat < [Value.string x0, Value.string x1, Value.string x2, Value.string x3, Value.string x4, Value.string x5].length) : [Value.string x0, Value.string x1, Value.string x2, Value.string x3, Value.string x4, Value.string x5][v.toNat]'h = .string (selS v [x0, x1, x2, x3, x4, x5]) := selS6l v x0 x1 x2 x3 x4 x5 h
@[go_sem] theorem selS6 {v : Int} (h0 : 0 ≤ v) (h1 : v < 6) (x0 x1 x2 x3 x4 x5 : ByteArray) : [Value.string x0, Value.string x1, Value.string x2, Value.string x3, Value.string x4, Value.string x5][v.toNat]? = some (.string (selS v [x0, x1, x2, x3, x4, x5])) := by
  have hl : v.toNat < [Value.string x0, Value.string x1, Value.string x2, Value.string x3, Value.string x4, Value.string x5].length := by simp; omega
  rw [List.getElem?_eq_getElem hl, selS6l]
@[go_sem] theorem selS6a {v : Int} (h0 : 0 ≤ v) (h1 : v < 6) (x0 x1 x2 x3 x4 x5 : ByteArray) : (#[Value.string x0, Value.string x1, Value.string x2, Value.string x3, Value.string x4, Value.string x5] : Array Value)[v.toNat]? = some (.string (selS v [x0, x1, x2, x3, x4, x5])) := by
  rw [List.getElem?_toArray]; exact selS6 h0 h1 x0 x1 x2 x3 x4 x5

theorem with_ext {A w' : World} {G : Prop} (hb : Below A.heap.size A w') (h : ∀ d os, w' = ext A d os → G) : G := by
  obtain ⟨d, os, e⟩ := ext_of_below hb
  exact h d os e
def StrN (N : Nat) (v : Value) : Prop := ∃ s : ByteArray, v = .string s ∧ s.size ≤ N
set_option maxHeartbeats 2000000 in
theorem l20Way_any (R : Nat) (p n : Int) (w : World) (hr : Rd w R p) (hp : p ≤ 1000000000) (hn : 1 ≤ n) (hn' : n ≤ 1000) : Calls Tryd.prog 44 #[.pointer (some ⟨R, 0, none⟩), .int .i64 n] w (Drew w R p 9 (StrN 60)) := by
  have hR := hr.lt
  have hp0 := hr.pos
  go_enter Tryd.func44, Tryd.ntmps44
  (go_wp2_with fail); refine (pick_any _ ?_ _ _ ?_ ?_).mono ?_; rotate_left; (focus ((repeat (first | assumption | refine Rd.ext ?_ | refine Rd.drew ?_ | refine Rd.drewN ?_ | refine Rd.set (by assumption) ?_ | refine Rd.lit (by assumption) (by simp) ?_ | refine Rd.alloc ?_ _ | omega)))); (focus omega); rintro e w' ⟨a, da, rfl, la, ha, h2, rfl⟩; replace ha := ha (by omega); clear h2
  (go_wp2_with fail); refine (pick_any _ ?_ _ _ ?_ ?_).mono ?_; rotate_left; (focus ((repeat (first | assumption | refine Rd.ext ?_ | refine Rd.drew ?_ | refine Rd.drewN ?_ | refine Rd.set (by assumption) ?_ | refine Rd.lit (by assumption) (by simp) ?_ | refine Rd.alloc ?_ _ | omega)))); (focus omega); rintro e w' ⟨b, db, rfl, lb, hb, h2, rfl⟩; replace hb := hb (by omega); clear h2
  have ha := selS_size (v := a) (l := [⟨#[]⟩, ⟨#[47]⟩, ⟨#[]⟩]) (N := 1) (by decide)
  go_wp2
  go_loopw [5, 6] (fun o i wr => ∃ (s : ByteArray) (j q : Int) (d : Nat) (os : Array Obj), o = .string s ∧ i = .int .i64 j ∧ 0 ≤ j ∧ j ≤ 4 ∧ (s.size : Int) ≤ 1 + 3 * (4 - j) ∧ p ≤ q ∧ q ≤ p + 6 - j ∧ wr = ext (w.setCell ⟨R, 1, none⟩ (.int .i64 q)) d os) (fun _ i _ => (intOf i).toNat)
  case atStart =>
    exact with_ext (A := w.setCell ⟨R, 1, none⟩ (.int .i64 (p + 1 + 1))) (by (repeat (first | exact Below.refl _ _ | exact Hbl.out | refine Below.ext ?_ (by first | omega | (simp; omega) | simp) | refine Below.setCell ?_ (by first | omega | (simp; omega) | simp) _ | refine Below.alloc ?_ (by first | omega | (simp; omega) | simp) _ | refine Below.drew ?_ | refine below_drewN ?_ _ | refine Below.step (by assumption) (by first | omega | (simp; omega) | simp) ?_))) fun d os e => ⟨_, b, p + 1 + 1, d, os, rfl, rfl, lb, by omega, by omega, by omega, by omega, e⟩
  case round =>
    obtain ⟨s, j, q, d, os, rfl, rfl, j0, j1, hs, q1, q2, rfl⟩ := hrel
    by_cases hlt : 0 < j
    · have zj : IntKind.i64.wrap (j - 1) = j - 1 := IntWalk.i64_in _ (by omega)
      (go_wp2_with fail); refine (pick_any _ ?_ _ _ ?_ ?_).mono ?_; rotate_left; (focus ((repeat (first | assumption | refine Rd.ext ?_ | refine Rd.drew ?_ | refine Rd.drewN ?_ | refine Rd.set (by assumption) ?_ | refine Rd.lit (by assumption) (by simp) ?_ | refine Rd.alloc ?_ _ | omega)))); (focus omega); rintro e w' ⟨c, dc, rfl, lc, hc, h2, rfl⟩; replace hc := hc (by omega); clear h2
      have hx := selS_size (v := c) (l := [⟨#[97]⟩, ⟨#[98]⟩, ⟨#[46, 46]⟩, ⟨#[46, 46]⟩, ⟨#[46]⟩, ⟨#[]⟩]) (N := 2) (by decide)
      have hsum : s.size + (selS c [⟨#[97]⟩, ⟨#[98]⟩, ⟨#[46, 46]⟩, ⟨#[46, 46]⟩, ⟨#[46]⟩, ⟨#[]⟩]).size ≤ 9223372036854775807 := by omega
      have hsum2 : s.size + (selS c [⟨#[97]⟩, ⟨#[98]⟩, ⟨#[46, 46]⟩, ⟨#[46, 46]⟩, ⟨#[46]⟩, ⟨#[]⟩]).size + 1 ≤ 9223372036854775807 := by omega
      go_wp2
      go_roundw
      case rel =>
        exact with_ext (A := w.setCell ⟨R, 1, none⟩ (.int .i64 (q + 1))) (by (repeat (first | exact Below.refl _ _ | exact Hbl.out | refine Below.ext ?_ (by first | omega | (simp; omega) | simp) | refine Below.setCell ?_ (by first | omega | (simp; omega) | simp) _ | refine Below.alloc ?_ (by first | omega | (simp; omega) | simp) _ | refine Below.drew ?_ | refine below_drewN ?_ _ | refine Below.step (by assumption) (by first | omega | (simp; omega) | simp) ?_))) fun d' os' e => ⟨_, j - 1, q + 1, d', os', rfl, by go_num, by omega, by omega, by simp only [ByteArray.size_append]; push_cast; rw [show (ByteArray.mk #[47]).size = 1 from rfl]; omega, by omega, by omega, e⟩
      case measure => simp [intOf]; omega
    · have hs' : s.size ≤ 13 := by omega
      go_wp2_with (go_at_call 65; refine (odd_any _ ?_ _ _ ?_ ?_ ?_ ?_).mono ?_; rotate_left; (focus ((repeat (first | assumption | refine Rd.ext ?_ | refine Rd.drew ?_ | refine Rd.drewN ?_ | refine Rd.set (by assumption) ?_ | refine Rd.lit (by assumption) (by simp) ?_ | refine Rd.alloc ?_ _ | omega)))); (focus omega); (focus omega); (focus omega); rintro e w' ⟨b, d, rfl, rfl⟩)
      · refine (pick_any _ ?_ _ _ ?_ ?_).mono ?_; rotate_left; (focus ((repeat (first | assumption | refine Rd.ext ?_ | refine Rd.drew ?_ | refine Rd.drewN ?_ | refine Rd.set (by assumption) ?_ | refine Rd.lit (by assumption) (by simp) ?_ | refine Rd.alloc ?_ _ | omega)))); (focus omega); rintro e w' ⟨c, dc, rfl, lc, hc, h2, rfl⟩; replace hc := hc (by omega); clear h2
        have hx := selS_size (v := c) (l := [⟨#[46, 46, 46]⟩, ⟨#[65]⟩, ⟨#[49]⟩, ⟨#[97, 47, 98, 47, 99, 47, 100, 47, 101, 47, 102, 47, 103, 47, 104, 47, 105, 47, 106, 47, 107, 47, 108, 47, 109]⟩]) (N := 25) (by decide)
        have hsum : s.size + (selS c [⟨#[46, 46, 46]⟩, ⟨#[65]⟩, ⟨#[49]⟩, ⟨#[97, 47, 98, 47, 99, 47, 100, 47, 101, 47, 102, 47, 103, 47, 104, 47, 105, 47, 106, 47, 107, 47, 108, 47, 109]⟩]).size ≤ 9223372036854775807 := by omega
        go_wp2
        simp [bodyPost, results, Tryd.results44, go_sem]
        exact Drew.mk (q + 1 + 1) (by (repeat (first | exact Below.refl _ _ | exact Hbl.out | refine Below.ext ?_ (by first | omega | (simp; omega) | simp) | refine Below.setCell ?_ (by first | omega | (simp; omega) | simp) _ | refine Below.alloc ?_ (by first | omega | (simp; omega) | simp) _ | refine Below.drew ?_ | refine below_drewN ?_ _ | refine Below.step (by assumption) (by first | omega | (simp; omega) | simp) ?_))) (by omega) (by omega) ⟨_, rfl, by rw [ByteArray.size_append]; omega⟩
      · refine (pick_any _ ?_ _ _ ?_ ?_).mono ?_; rotate_left; (focus ((repeat (first | assumption | refine Rd.ext ?_ | refine Rd.drew ?_ | refine Rd.drewN ?_ | refine Rd.set (by assumption) ?_ | refine Rd.lit (by assumption) (by simp) ?_ | refine Rd.alloc ?_ _ | omega)))); (focus omega); rintro e w' ⟨c, dc, rfl, lc, hc, h2, rfl⟩; replace hc := hc (by omega); clear h2
        have hx := selS_size (v := c) (l := [⟨#[]⟩, ⟨#[99, 49]⟩, ⟨#[46, 46]⟩]) (N := 2) (by decide)
        have hsum : s.size + (selS c [⟨#[]⟩, ⟨#[99, 49]⟩, ⟨#[46, 46]⟩]).size ≤ 9223372036854775807 := by omega
        go_wp2
        simp [bodyPost, results, Tryd.results44, go_sem]
        exact Drew.mk (q + 1 + 1) (by (repeat (first | exact Below.refl _ _ | exact Hbl.out | refine Below.ext ?_ (by first | omega | (simp; omega) | simp) | refine Below.setCell ?_ (by first | omega | (simp; omega) | simp) _ | refine Below.alloc ?_ (by first | omega | (simp; omega) | simp) _ | refine Below.drew ?_ | refine below_drewN ?_ _ | refine Below.step (by assumption) (by first | omega | (simp; omega) | simp) ?_))) (by omega) (by omega) ⟨_, rfl, by rw [ByteArray.size_append]; omega⟩
/-- A way is drawn: some text of at most 60 bytes. -/
theorem drawWV_any (a : Option Addr) (len cap : Nat) (zs : List Int) (w : World) (hrow : IsRow .u8 w a len cap zs) : Calls Tryd.prog 16 #[.slice a len cap] w fun e w' => ∃ s : ByteArray, e = .returned (.string s) ∧ s.size ≤ 60 ∧ Below w.heap.size w w' := by
  go_enter Tryd.func16, Tryd.ntmps16
  go_wp2_with (go_at_call 45; refine (open_any _ _ _ _ _ (IsRow.below hrow (by repeat (first | exact Below.refl _ _ | refine Below.alloc ?_ (by simp; try omega) _)))).mono ?_; rintro e w' ⟨A, le, ca, rfl, rfl, zs', hby⟩; (try simp only [World.size_alloc] at hby))
  refine (l20Way_any _ ?_ _ _ ?_ ?_ (by decide) (by decide)).mono ?_; rotate_left; (focus ((repeat (first | assumption | refine Rd.ext ?_ | refine Rd.drew ?_ | refine Rd.drewN ?_ | refine Rd.set (by assumption) ?_ | refine Rd.lit (by assumption) (by simp) ?_ | refine Rd.alloc ?_ _ | omega)))); (focus omega); rintro e w' ⟨_, q, d, os, rfl, q1, q2, ⟨s, rfl, hs⟩, rfl⟩
  go_wp2
  go_ret
  exact ⟨s, rfl, hs, (by (repeat (first | exact Below.refl _ _ | exact Hbl.out | refine Below.ext ?_ (by first | omega | (simp; omega) | simp) | refine Below.setCell ?_ (by first | omega | (simp; omega) | simp) _ | refine Below.alloc ?_ (by first | omega | (simp; omega) | simp) _ | refine Below.drew ?_ | refine below_drewN ?_ _ | refine Below.step (by assumption) (by first | omega | (simp; omega) | simp) ?_)))⟩
end Go.Proofs.YtaadobcfijegcaaDoor
