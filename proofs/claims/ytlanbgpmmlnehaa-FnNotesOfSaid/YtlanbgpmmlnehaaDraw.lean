/- The reader of drawn bytes: 'l20Open', 'pick', 'odd'. -/
import Derived.Test.YtlanbgpmmlnehaaBase
import Derived.Deep.RegionHeld3
import Derived.Deep.Draws
set_option linter.unusedSimpArgs false
set_option linter.unusedVariables false
set_option linter.unusedSectionVars false
namespace Go.Proofs.Ytlanbgpmmlnehaa
open Go.RowKit

@[go_sem] theorem setCell_twice {w : World} {b o : Nat} {u v : Value} : (w.setCell ⟨b, o, none⟩ u).setCell ⟨b, o, none⟩ v = w.setCell ⟨b, o, none⟩ v := by
  unfold World.setCell
  simp only
  congr 1
  apply Array.ext_getElem?
  intro k
  simp only [Array.getElem?_modify]
  by_cases hk : b = k
  · cases hh : w.heap[k]? with
    | none => simp [hk, hh]
    | some x => cases x <;> simp [hk, hh]
  · simp [hk]

/-- The bytes of a slice that came in: nil, or a row in a block that is not R. -/
def Bytes (w : World) (R : Nat) (A : Option Addr) (len cap : Nat) (zs : Nat → Int) : Prop :=
  len ≤ cap ∧ cap ≤ maxLen ∧ (∀ i, 0 ≤ zs i ∧ zs i < 256) ∧ (len = 0 ∨ ∃ b off, A = some ⟨b, off, none⟩ ∧ b ≠ R ∧ b < w.heap.size ∧ ∀ i, i < len → w.cell? ⟨b, off + i, none⟩ = some (.int .u8 (zs i)))

/-- A reader lies at block R, its place is p. -/
def Rd (w : World) (R : Nat) (p : Int) : Prop :=
  ∃ A len cap zs, Bytes w R A len cap zs ∧ w.cell? ⟨R, 0, none⟩ = some (.slice A len cap) ∧ w.cell? ⟨R, 1, none⟩ = some (.int .i64 p) ∧ w.frozen? ⟨R, 1, none⟩ = false ∧ R < w.heap.size ∧ 0 ≤ p

section
variable {w : World} {R : Nat} {p q : Int}
theorem Rd.lt (h : Rd w R p) : R < w.heap.size := by obtain ⟨A, len, cap, zs, _, _, _, _, h, _⟩ := h; exact h
theorem Rd.ext {d : Nat} {os : Array Obj} (h : Rd w R p) : Rd (ext w d os) R p := by
  obtain ⟨A, len, cap, zs, ⟨h1, h2, h3, h4⟩, h5, h6, h7, h8, h9⟩ := h
  refine ⟨A, len, cap, zs, ⟨h1, h2, h3, ?_⟩, by rw [ext_cell h8]; exact h5, by rw [ext_cell h8]; exact h6, by rw [ext_frozen h8]; exact h7, by simp; omega, h9⟩
  rcases h4 with h4 | ⟨b, off, e, hb, hs, hc⟩
  · exact .inl h4
  · exact .inr ⟨b, off, e, hb, by simp; omega, fun i hi => by rw [ext_cell hs]; exact hc i hi⟩
theorem Rd.pos (h : Rd w R p) : 0 ≤ p := by obtain ⟨A, len, cap, zs, _, _, _, _, _, h⟩ := h; exact h
theorem Rd.drew (h : Rd w R p) : Rd w.drew R p := h
theorem Rd.drewN {n : Nat} (h : Rd w R p) : Rd (w.drewN n) R p := h
theorem Rd.alloc (h : Rd w R p) (X : Obj) : Rd (w.alloc X) R p := by
  obtain ⟨A, len, cap, zs, ⟨h1, h2, h3, h4⟩, h5, h6, h7, h8, h9⟩ := h
  refine ⟨A, len, cap, zs, ⟨h1, h2, h3, ?_⟩, by rw [alloc_cell_lt h8]; exact h5, by rw [alloc_cell_lt h8]; exact h6, by rw [alloc_frozen_lt h8]; exact h7, by simp; omega, h9⟩
  rcases h4 with h4 | ⟨b, off, e, hb, hs, hc⟩
  · exact .inl h4
  · exact .inr ⟨b, off, e, hb, by simp; omega, fun i hi => by rw [alloc_cell_lt hs]; exact hc i hi⟩
theorem Rd.set (h : Rd w R p) (hq : 0 ≤ q) : Rd (w.setCell ⟨R, 1, none⟩ (.int .i64 q)) R q := by
  obtain ⟨A, len, cap, zs, ⟨h1, h2, h3, h4⟩, h5, h6, h7, h8, h9⟩ := h
  refine ⟨A, len, cap, zs, ⟨h1, h2, h3, ?_⟩, ?_, World.cell?_setCell_same _ _ _ h6, ?_, by simp [World.setCell]; exact h8, hq⟩
  · rcases h4 with h4 | ⟨b, off, e, hb, hs, hc⟩
    · exact .inl h4
    · exact .inr ⟨b, off, e, hb, by simp [World.setCell]; exact hs, fun i hi => by rw [World.cell?_setCell_other _ _ _ _ (by simp; try (intro e; omega))]; exact hc i hi⟩
  · rw [World.cell?_setCell_other _ _ _ _ (by simp)]; exact h5
  · rw [World.frozen?_setCell]; exact h7
end

theorem xor_small (a b : Int) (h1 : 0 ≤ a) (h2 : a < 1099511627776) (h3 : 0 ≤ b) (h4 : b < 1099511627776) : 0 ≤ bits .xor .i64 a b := by
  obtain ⟨a, rfl⟩ := Int.eq_ofNat_of_zero_le h1
  obtain ⟨b, rfl⟩ := Int.eq_ofNat_of_zero_le h3
  have hx : a ^^^ b < 2 ^ 40 := Nat.xor_lt_two_pow (by omega) (by omega)
  have e : ∀ n : Nat, n < 18446744073709551616 → (BitVec.ofInt 64 (n : Int)).toNat = n := fun n hn => by
    rw [BitVec.ofInt_natCast, BitVec.toNat_ofNat]; exact Nat.mod_eq_of_lt (by omega)
  show 0 ≤ IntKind.i64.wrap ((BitVec.ofInt 64 (a : Int) ^^^ BitVec.ofInt 64 (b : Int)).toNat : Int)
  rw [BitVec.toNat_xor, e a (by omega), e b (by omega), IntKind.wrap_i64]
  omega

/-- What 'pick' leaves: a number in 0..n-1, and the place one further. -/
def Picks (w : World) (R : Nat) (p n : Int) (e : Ending) (w' : World) : Prop :=
  ∃ (v : Int) (d : Nat), e = .returned (.int .i64 v) ∧ 0 ≤ v ∧ (1 ≤ n → v < n) ∧ (n < 1 → v = 0) ∧ w' = ext (w.setCell ⟨R, 1, none⟩ (.int .i64 (p + 1))) d #[]
theorem ext_nil_drewN (w : World) (n : Nat) : w.drewN n = ext w (w.drawn + n) #[] := by simp [ext, World.drewN]
theorem ext_nil (w : World) : w = ext w w.drawn #[] := by simp [ext]

set_option maxHeartbeats 1000000 in
theorem pick_any (R : Nat) (p n : Int) (w : World) (hr : Rd w R p) (hp : p ≤ 2000000000) : Calls Try.prog 42 #[.pointer (some ⟨R, 0, none⟩), .int .i64 n] w (Picks w R p n) := by
  obtain ⟨A, len, cap, zs, ⟨h1, h2, h3, h4⟩, h5, h6, h7, h8, h9⟩ := hr
  unfold maxLen at h2
  obtain ⟨P, rfl⟩ := Int.eq_ofNat_of_zero_le h9
  by_cases hn : n < 1
  · go_enter Try.func42, Try.ntmps42
    go_wp2
    go_ret
    exact ⟨0, _, rfl, by omega, by omega, by omega, ext_nil _⟩
  · by_cases hl : len = 0
    · subst hl
      go_enter Try.func42, Try.ntmps42
      go_wp2
      go_ret
      exact ⟨0, _, rfl, by omega, by omega, by omega, ext_nil _⟩
    · rcases h4 with h4 | ⟨b, off, rfl, hb, hs, hc⟩
      · exact absurd h4 hl
      · by_cases hlt : P < len
        · have c0 := hc P hlt
          have z0 := h3 P
          clear hc h3
          go_enter Try.func42, Try.ntmps42
          go_wp2
          go_ret
          exact ⟨_, _, rfl, Int.emod_nonneg _ (by omega), fun _ => Int.emod_lt_of_pos _ (by omega), fun h => by omega, ext_nil _⟩
        · have c0 := hc (P % len) (Nat.mod_lt _ (by omega))
          have c1 := hc ((P * 7 + 3) % len) (Nat.mod_lt _ (by omega))
          obtain ⟨z0, z0'⟩ := h3 (P % len)
          obtain ⟨z1, z1'⟩ := h3 ((P * 7 + 3) % len)
          have q0 : (0 : Int) ≤ (P : Int) / (len : Int) := Int.ediv_nonneg (by omega) (by omega)
          have q1 : (P : Int) / (len : Int) ≤ P := Int.ediv_le_self _ (by omega)
          clear hc h3
          go_enter Try.func42, Try.ntmps42
          go_wp2
          have b0 : (0 : Int) ≤ (P : Int) % (len : Int) := Int.emod_nonneg _ (by omega)
          have b1 : (P : Int) % (len : Int) < (len : Int) := Int.emod_lt_of_pos _ (by omega)
          have b2 : ((P : Int) % (len : Int)).toNat = P % len := by omega
          have b3 : (P : Int).tmod (len : Int) = (P : Int) % (len : Int) := Int.tmod_eq_emod_of_nonneg (by omega)
          have s1 : IntKind.i64.wrap ((P : Int) * 7) = (P : Int) * 7 := IntWalk.i64_in _ (by omega)
          have s2 : IntKind.i64.wrap ((P : Int) * 7 + 3) = (P : Int) * 7 + 3 := IntWalk.i64_in _ (by omega)
          have f0 : (0 : Int) ≤ ((P : Int) * 7 + 3) % (len : Int) := Int.emod_nonneg _ (by omega)
          have f1 : ((P : Int) * 7 + 3) % (len : Int) < (len : Int) := Int.emod_lt_of_pos _ (by omega)
          have f2 : (((P : Int) * 7 + 3) % (len : Int)).toNat = (P * 7 + 3) % len := by
            have e : ((P : Int) * 7 + 3) % (len : Int) = (((P * 7 + 3) % len : Nat) : Int) := by push_cast; rfl
            rw [e]; rfl
          have f3 : ((P : Int) * 7 + 3).tmod (len : Int) = ((P : Int) * 7 + 3) % (len : Int) := Int.tmod_eq_emod_of_nonneg (by omega)
          refine wp_region_quiet_lit (by kernel_rfl) (by kernel_rfl) ?_
          repeat (go_big_quiet_step (fail))
          refine wpQuiet_nil ?_
          intro _ hw'
          obtain ⟨nq, hw''⟩ := hw'
          subst hw''
          go_wp2
          go_ret
          exact ⟨_, _, rfl, Int.tmod_nonneg _ (xor_small _ _ (by omega) (by omega) (by omega) (by omega)), fun _ => Int.tmod_lt_of_pos _ (by omega), fun h => by omega, ext_nil_drewN _ _⟩

/-- 'odd' of 0: false, nothing drawn. -/
theorem odd_zero (R : Nat) (w : World) : Calls Try.prog 64 #[.pointer (some ⟨R, 0, none⟩), .int .i64 0] w fun e w' => e = .returned (.bool false) ∧ w = w' := by
  go_enter Try.func64, Try.ntmps64
  go_wp2
  go_ret
  exact ⟨rfl, rfl⟩
/-- A Bool, and the place one further. -/
def Odds (w : World) (R : Nat) (p : Int) (e : Ending) (w' : World) : Prop :=
  ∃ (b : Bool) (d : Nat), e = .returned (.bool b) ∧ w' = ext (w.setCell ⟨R, 1, none⟩ (.int .i64 (p + 1))) d #[]
theorem odd_any (R : Nat) (p n : Int) (w : World) (hr : Rd w R p) (hp : p ≤ 2000000000) (hn : 1 ≤ n) (hn' : n ≤ 1000) : Calls Try.prog 64 #[.pointer (some ⟨R, 0, none⟩), .int .i64 n] w (Odds w R p) := by
  have hn0 : 0 < n := by omega
  go_enter Try.func64, Try.ntmps64
  go_wp2_with (go_at_call 42; refine (pick_any R p n _ hr hp).mono ?_; rintro e w' ⟨v, d, rfl, h0, h1, h2, rfl⟩)
  go_ret
  exact ⟨_, _, rfl, rfl⟩

/-- What the walk is told of a slice of bytes that came in (as the given statements' frame lays it). -/
def IsRow (k : IntKind) (w : World) (a : Option Addr) (len cap : Nat) (zs : List Int) : Prop :=
  (a = none ∧ len = 0 ∧ cap = 0 ∧ zs = []) ∨
  ∃ x, a = some x ∧ len ≤ cap ∧ cap ≤ maxLen ∧ zs.length = cap ∧ (∀ i, i < zs.length → w.cell? (x.add i) = some (.int k (zs.getD i 0))) ∧ ∀ n ∈ zs, (Lit.int k n).wf = true
theorem IsRow.len_le {k : IntKind} {w : World} {a : Option Addr} {len cap : Nat} {zs : List Int} (h : IsRow k w a len cap zs) : len ≤ cap ∧ cap ≤ maxLen := by
  rcases h with ⟨_, rfl, rfl, _⟩ | ⟨x, _, h1, h2, _⟩
  · exact ⟨Nat.le_refl _, by unfold maxLen; omega⟩
  · exact ⟨h1, h2⟩
theorem IsRow.bytes {w : World} {a : Option Addr} {len cap : Nat} {zs : List Int} (h : IsRow .u8 w a len cap zs) (m : Nat) (hm : m ≤ len) : Bytes w w.heap.size a m cap (fun i => zs.getD i 0) := by
  have hz : ∀ n ∈ zs, 0 ≤ n ∧ n < 256 := by
    rcases h with ⟨_, _, _, rfl⟩ | ⟨x, _, _, _, _, _, hw⟩
    · intro n hn; cases hn
    · intro n hn
      have := hw n hn
      simp only [Lit.wf, IntKind.min, IntKind.max, IntKind.signed, IntKind.bits] at this
      simp at this
      omega
  have hd : ∀ i, 0 ≤ zs.getD i 0 ∧ zs.getD i 0 < 256 := by
    intro i
    by_cases hi : i < zs.length
    · rw [List.getD_eq_getElem?_getD, List.getElem?_eq_getElem hi]; exact hz _ (List.getElem_mem hi)
    · rw [List.getD_eq_getElem?_getD, List.getElem?_eq_none (by omega)]; simp
  have hl := h.len_le
  refine ⟨by omega, hl.2, hd, ?_⟩
  rcases h with ⟨_, h0, _, _⟩ | ⟨x, rfl, h1, h2, h3, hc, _⟩
  · exact .inl (by omega)
  · by_cases h0 : m = 0
    · exact .inl h0
    · have hc0 := hc 0 (by omega)
      obtain ⟨b, off, spot⟩ := x
      have hspot : spot = none := by simpa [Addr.add] using World.cell?_spot hc0
      subst hspot
      have hb : b < w.heap.size := block_lt_of_cell hc0
      refine .inr ⟨b, off, rfl, by omega, hb, fun i hi => ?_⟩
      have := hc i (by omega)
      by_cases hi0 : i = 0
      · subst hi0; simpa [Addr.add] using this
      · simpa [Addr.add, hi0] using this

theorem IsRow.below {k : IntKind} {w w' : World} {a : Option Addr} {len cap : Nat} {zs : List Int} (h : IsRow k w a len cap zs) (hb : Below w.heap.size w w') : IsRow k w' a len cap zs := by
  rcases h with h | ⟨x, rfl, h1, h2, h3, h4, h5⟩
  · exact .inl h
  · exact .inr ⟨x, rfl, h1, h2, h3, fun i hi => by rw [hb.cell (block_lt_of_cell (h4 i hi))]; exact h4 i hi, h5⟩
/-- A new reader lies in the last block. -/
def Opened (w : World) (e : Ending) (w' : World) : Prop :=
  ∃ (A : Option Addr) (len cap : Nat), e = .returned (.pointer (some ⟨w.heap.size, 0, none⟩)) ∧ w' = w.alloc (.cells #[.slice A len cap, .int .i64 0] 84) ∧ ∃ zs, Bytes w w.heap.size A len cap zs
theorem open_any (a : Option Addr) (len cap : Nat) (zs : List Int) (w : World) (h : IsRow .u8 w a len cap zs) : Calls Try.prog 40 #[.slice a len cap] w (Opened w) := by
  have hl := h.len_le
  have hb := fun m hm => h.bytes m hm
  unfold maxLen at hl
  obtain ⟨hl1, hl2⟩ := hl
  by_cases hlt : 2000 < len
  · have hb := hb 2000 (by omega)
    go_enter Try.func40, Try.ntmps40
    go_wp2
    go_ret
    exact ⟨_, _, _, rfl, rfl, _, hb⟩
  · have hb := hb len (by omega)
    go_enter Try.func40, Try.ntmps40
    go_wp2
    go_ret
    exact ⟨_, _, _, rfl, rfl, _, hb⟩
/-- A reader that lies written out in the last block. -/
theorem Rd.lit {w : World} {R : Nat} {p : Int} {A : Option Addr} {len cap : Nat} {zs : Nat → Int} {T : TypeId} (h : Bytes w R A len cap zs) (hR : R = w.heap.size) (hp : 0 ≤ p) : Rd (w.alloc (.cells #[.slice A len cap, .int .i64 p] T)) R p := by
  subst hR
  obtain ⟨h1, h2, h3, h4⟩ := h
  refine ⟨A, len, cap, zs, ⟨h1, h2, h3, ?_⟩, by simp [go_sem], by simp [go_sem], by simp [go_sem], by simp, hp⟩
  rcases h4 with h4 | ⟨b, off, e, hb, hs, hc⟩
  · exact .inl h4
  · exact .inr ⟨b, off, e, hb, by simp; omega, fun i hi => by rw [alloc_cell_lt hs]; exact hc i hi⟩

/-- What a draw leaves: a value, the place at most k further, new blocks. -/
def Drew (w : World) (R : Nat) (p k : Int) (G : Value → Prop) (e : Ending) (w' : World) : Prop :=
  ∃ (v : Value) (q : Int) (d : Nat) (os : Array Obj), e = .returned v ∧ p ≤ q ∧ q ≤ p + k ∧ G v ∧ w' = ext (w.setCell ⟨R, 1, none⟩ (.int .i64 q)) d os

@[simp, go_sem] theorem size_setCell (w : World) (a : Addr) (v : Value) : (w.setCell a v).heap.size = w.heap.size := by simp [World.setCell]
theorem Drew.of {w w' : World} {R : Nat} {p k : Int} {G : Value → Prop} {e : Ending} (q : Int) {v : Value} (he : e = .returned v) (h1 : p ≤ q) (h2 : q ≤ p + k) (hG : G v)
    (hb : Below (w.setCell ⟨R, 1, none⟩ (.int .i64 q)).heap.size (w.setCell ⟨R, 1, none⟩ (.int .i64 q)) w') : Drew w R p k G e w' := by
  obtain ⟨d, os, rfl⟩ := ext_of_below hb
  exact ⟨v, q, d, os, he, h1, h2, hG, rfl⟩
theorem Drew.mk {w w' : World} {R : Nat} {p k : Int} {G : Value → Prop} {v : Value} (q : Int) (hb : Below (w.setCell ⟨R, 1, none⟩ (.int .i64 q)).heap.size (w.setCell ⟨R, 1, none⟩ (.int .i64 q)) w') (h1 : p ≤ q) (h2 : q ≤ p + k) (hG : G v) :
    Drew w R p k G (.returned v) w' := Drew.of q rfl h1 h2 hG hb
/-- The number in place v of a list. -/
def selN (v : Int) (l : List Int) : Int := l.getD v.toNat 0
theorem sel2l (v : Int) (x0 x1 : Int) (h : v.toNat < [Value.int .i64 x0, Value.int .i64 x1].length) : [Value.int .i64 x0, Value.int .i64 x1][v.toNat]'h = .int .i64 (selN v [x0, x1]) := by
  have h' : v.toNat < 2 := h
  have : v.toNat = 0 ∨ v.toNat = 1 := by omega
  rcases this with h | h <;> simp [h, selN]
@[go_sem] theorem sel2g (v : Int) (x0 x1 : Int) (h : v.toNat < [Value.int .i64 x0, Value.int .i64 x1].length) : [Value.int .i64 x0, Value.int .i64 x1][v.toNat]'h = .int .i64 (selN v [x0, x1]) := sel2l v x0 x1 h
@[go_sem] theorem sel2 {v : Int} (h0 : 0 ≤ v) (h1 : v < 2) (x0 x1 : Int) : [Value.int .i64 x0, Value.int .i64 x1][v.toNat]? = some (.int .i64 (selN v [x0, x1])) := by
  have hl : v.toNat < [Value.int .i64 x0, Value.int .i64 x1].length := by simp; omega
  rw [List.getElem?_eq_getElem hl, sel2l]
@[go_sem] theorem sel2a {v : Int} (h0 : 0 ≤ v) (h1 : v < 2) (x0 x1 : Int) : (#[Value.int .i64 x0, Value.int .i64 x1] : Array Value)[v.toNat]? = some (.int .i64 (selN v [x0, x1])) := by
  rw [List.getElem?_toArray]; exact sel2 h0 h1 x0 x1
theorem sel3l (v : Int) (x0 x1 x2 : Int) (h : v.toNat < [Value.int .i64 x0, Value.int .i64 x1, Value.int .i64 x2].length) : [Value.int .i64 x0, Value.int .i64 x1, Value.int .i64 x2][v.toNat]'h = .int .i64 (selN v [x0, x1, x2]) := by
  have h' : v.toNat < 3 := h
  have : v.toNat = 0 ∨ v.toNat = 1 ∨ v.toNat = 2 := by omega
  rcases this with h | h | h <;> simp [h, selN]
@[go_sem] theorem sel3g (v : Int) (x0 x1 x2 : Int) (h : v.toNat < [Value.int .i64 x0, Value.int .i64 x1, Value.int .i64 x2].length) : [Value.int .i64 x0, Value.int .i64 x1, Value.int .i64 x2][v.toNat]'h = .int .i64 (selN v [x0, x1, x2]) := sel3l v x0 x1 x2 h
@[go_sem] theorem sel3 {v : Int} (h0 : 0 ≤ v) (h1 : v < 3) (x0 x1 x2 : Int) : [Value.int .i64 x0, Value.int .i64 x1, Value.int .i64 x2][v.toNat]? = some (.int .i64 (selN v [x0, x1, x2])) := by
  have hl : v.toNat < [Value.int .i64 x0, Value.int .i64 x1, Value.int .i64 x2].length := by simp; omega
  rw [List.getElem?_eq_getElem hl, sel3l]
@[go_sem] theorem sel3a {v : Int} (h0 : 0 ≤ v) (h1 : v < 3) (x0 x1 x2 : Int) : (#[Value.int .i64 x0, Value.int .i64 x1, Value.int .i64 x2] : Array Value)[v.toNat]? = some (.int .i64 (selN v [x0, x1, x2])) := by
  rw [List.getElem?_toArray]; exact sel3 h0 h1 x0 x1 x2
theorem sel4l (v : Int) (x0 x1 x2 x3 : Int) (h : v.toNat < [Value.int .i64 x0, Value.int .i64 x1, Value.int .i64 x2, Value.int .i64 x3].length) : [Value.int .i64 x0, Value.int .i64 x1, Value.int .i64 x2, Value.int .i64 x3][v.toNat]'h = .int .i64 (selN v [x0, x1, x2, x3]) := by
  have h' : v.toNat < 4 := h
  have : v.toNat = 0 ∨ v.toNat = 1 ∨ v.toNat = 2 ∨ v.toNat = 3 := by omega
  rcases this with h | h | h | h <;> simp [h, selN]
@[go_sem] theorem sel4g (v : Int) (x0 x1 x2 x3 : Int) (h : v.toNat < [Value.int .i64 x0, Value.int .i64 x1, Value.int .i64 x2, Value.int .i64 x3].length) : [Value.int .i64 x0, Value.int .i64 x1, Value.int .i64 x2, Value.int .i64 x3][v.toNat]'h = .int .i64 (selN v [x0, x1, x2, x3]) := sel4l v x0 x1 x2 x3 h
@[go_sem] theorem sel4 {v : Int} (h0 : 0 ≤ v) (h1 : v < 4) (x0 x1 x2 x3 : Int) : [Value.int .i64 x0, Value.int .i64 x1, Value.int .i64 x2, Value.int .i64 x3][v.toNat]? = some (.int .i64 (selN v [x0, x1, x2, x3])) := by
  have hl : v.toNat < [Value.int .i64 x0, Value.int .i64 x1, Value.int .i64 x2, Value.int .i64 x3].length := by simp; omega
  rw [List.getElem?_eq_getElem hl, sel4l]
@[go_sem] theorem sel4a {v : Int} (h0 : 0 ≤ v) (h1 : v < 4) (x0 x1 x2 x3 : Int) : (#[Value.int .i64 x0, Value.int .i64 x1, Value.int .i64 x2, Value.int .i64 x3] : Array Value)[v.toNat]? = some (.int .i64 (selN v [x0, x1, x2, x3])) := by
  rw [List.getElem?_toArray]; exact sel4 h0 h1 x0 x1 x2 x3
theorem sel7l (v : Int) (x0 x1 x2 x3 x4 x5 x6 : Int) (h : v.toNat < [Value.int .i64 x0, Value.int .i64 x1, Value.int .i64 x2, Value.int .i64 x3, Value.int .i64 x4, Value.int .i64 x5, Value.int .i64 x6].length) : [Value.int .i64 x0, Value.int .i64 x1, Value.int .i64 x2, Value.int .i64 x3, Value.int .i64 x4, Value.int .i64 x5, Value.int .i64 x6][v.toNat]'h = .int .i64 (selN v [x0, x1, x2, x3, x4, x5, x6]) := by
  have h' : v.toNat < 7 := h
  have : v.toNat = 0 ∨ v.toNat = 1 ∨ v.toNat = 2 ∨ v.toNat = 3 ∨ v.toNat = 4 ∨ v.toNat = 5 ∨ v.toNat = 6 := by omega
  rcases this with h | h | h | h | h | h | h <;> simp [h, selN]
@[go_sem] theorem sel7g (v : Int) (x0 x1 x2 x3 x4 x5 x6 : Int) (h : v.toNat < [Value.int .i64 x0, Value.int .i64 x1, Value.int .i64 x2, Value.int .i64 x3, Value.int .i64 x4, Value.int .i64 x5, Value.int .i64 x6].length) : [Value.int .i64 x0, Value.int .i64 x1, Value.int .i64 x2, Value.int .i64 x3, Value.int .i64 x4, Value.int .i64 x5, Value.int .i64 x6][v.toNat]'h = .int .i64 (selN v [x0, x1, x2, x3, x4, x5, x6]) := sel7l v x0 x1 x2 x3 x4 x5 x6 h
@[go_sem] theorem sel7 {v : Int} (h0 : 0 ≤ v) (h1 : v < 7) (x0 x1 x2 x3 x4 x5 x6 : Int) : [Value.int .i64 x0, Value.int .i64 x1, Value.int .i64 x2, Value.int .i64 x3, Value.int .i64 x4, Value.int .i64 x5, Value.int .i64 x6][v.toNat]? = some (.int .i64 (selN v [x0, x1, x2, x3, x4, x5, x6])) := by
  have hl : v.toNat < [Value.int .i64 x0, Value.int .i64 x1, Value.int .i64 x2, Value.int .i64 x3, Value.int .i64 x4, Value.int .i64 x5, Value.int .i64 x6].length := by simp; omega
  rw [List.getElem?_eq_getElem hl, sel7l]
@[go_sem] theorem sel7a {v : Int} (h0 : 0 ≤ v) (h1 : v < 7) (x0 x1 x2 x3 x4 x5 x6 : Int) : (#[Value.int .i64 x0, Value.int .i64 x1, Value.int .i64 x2, Value.int .i64 x3, Value.int .i64 x4, Value.int .i64 x5, Value.int .i64 x6] : Array Value)[v.toNat]? = some (.int .i64 (selN v [x0, x1, x2, x3, x4, x5, x6])) := by
  rw [List.getElem?_toArray]; exact sel7 h0 h1 x0 x1 x2 x3 x4 x5 x6
end Go.Proofs.Ytlanbgpmmlnehaa
