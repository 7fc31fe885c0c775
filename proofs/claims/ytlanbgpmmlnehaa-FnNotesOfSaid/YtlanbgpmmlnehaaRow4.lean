/- Rows of notes that the call itself made. -/
import Derived.Test.YtlanbgpmmlnehaaNote
import Derived.Laws.AppendOwnNone
import Derived.Laws.OwnMore
import Derived.Lib.LazyBuf
set_option linter.unusedSimpArgs false
set_option linter.unusedVariables false
set_option linter.unusedSectionVars false
namespace Go.Proofs.Ytlanbgpmmlnehaa
open Go.RowKit

def pick4 (x : T4) (r : Nat) : Value := if r = 0 then .int .i64 x.1 else if r = 1 then .int .i64 x.2.1 else if r = 2 then .string x.2.2.1 else .int .i64 x.2.2.2
/-- The cells of n notes. -/
def row4 (n : Nat) (f : Nat → T4) : List Value := (List.range (n * 4)).map fun j => pick4 (f (j / 4)) (j % 4)
theorem row4_at {n : Nat} {f : Nat → T4} {j : Nat} (hj : j < n * 4) : (row4 n f)[j]? = some (pick4 (f (j / 4)) (j % 4)) := by
  unfold row4
  rw [List.getElem?_map, List.getElem?_range hj]; rfl
theorem row4_len {n : Nat} {f : Nat → T4} : (row4 n f).length = n * 4 := by unfold row4; simp
theorem mod4 (j : Nat) : j % 4 = 0 ∨ j % 4 = 1 ∨ j % 4 = 2 ∨ j % 4 = 3 := by omega
theorem row4_made (n : Nat) : (madeCells #[Value.int .i64 0, .int .i64 0, .string ByteArray.empty, .int .i64 0] (n * 4)).toList = row4 n (fun _ => (0, 0, ByteArray.empty, 0)) := by
  unfold madeCells row4
  simp only [Array.toList_map, Array.toList_range]
  apply List.map_congr_left
  intro j _
  rcases mod4 j with h | h | h | h <;> simp [h, pick4]
/-- Element k is set to x. -/
def upd4 (f : Nat → T4) (k : Nat) (x : T4) (i : Nat) : T4 := if i = k then x else f i
theorem row4_set {n k : Nat} {f : Nat → T4} (x : T4) (hk : k < n) :
    ((((row4 n f).set (k * 4) (.int .i64 x.1)).set (k * 4 + 1) (.int .i64 x.2.1)).set (k * 4 + 2) (.string x.2.2.1)).set (k * 4 + 3) (.int .i64 x.2.2.2) = row4 n (upd4 f k x) := by
  apply List.ext_getElem?
  intro j
  by_cases hj : j < n * 4
  · rw [row4_at hj]
    have hl : (row4 n f).length = n * 4 := row4_len
    by_cases h3 : k * 4 + 3 = j
    · subst h3
      rw [List.getElem?_set_self (by simp [hl]; omega), show (k * 4 + 3) / 4 = k from by omega, show (k * 4 + 3) % 4 = 3 from by omega]; simp [upd4, pick4]
    · rw [List.getElem?_set_ne h3]
      by_cases h2 : k * 4 + 2 = j
      · subst h2
        rw [List.getElem?_set_self (by simp [hl]; omega), show (k * 4 + 2) / 4 = k from by omega, show (k * 4 + 2) % 4 = 2 from by omega]; simp [upd4, pick4]
      · rw [List.getElem?_set_ne h2]
        by_cases h1 : k * 4 + 1 = j
        · subst h1
          rw [List.getElem?_set_self (by simp [hl]; omega), show (k * 4 + 1) / 4 = k from by omega, show (k * 4 + 1) % 4 = 1 from by omega]; simp [upd4, pick4]
        · rw [List.getElem?_set_ne h1]
          by_cases h0 : k * 4 = j
          · subst h0
            rw [List.getElem?_set_self (by rw [hl]; omega), show (k * 4) / 4 = k from by omega, show (k * 4) % 4 = 0 from by omega]; simp [upd4, pick4]
          · rw [List.getElem?_set_ne h0, row4_at hj]
            have : j / 4 ≠ k := by omega
            simp [upd4, this]
  · rw [List.getElem?_eq_none (by simp [row4_len]; omega), List.getElem?_eq_none (by rw [row4_len]; omega)]
theorem row4_congr {n : Nat} {f g : Nat → T4} (h : ∀ i, i < n → f i = g i) : row4 n f = row4 n g := by
  unfold row4
  apply List.map_congr_left
  intro j hj
  rw [h (j / 4) (by have := List.mem_range.1 hj; omega)]
theorem row4_one {n : Nat} {f : Nat → T4} : ∀ u ∈ row4 n f, u.oneCell' = true := by
  intro u hu
  unfold row4 at hu
  obtain ⟨j, _, rfl⟩ := List.mem_map.1 hu
  rcases mod4 j with h | h | h | h <;> simp [h, pick4] <;> rfl
theorem own_ext {w : World} {base size n d : Nat} {os : Array Obj} {e : TypeId} {v : Value} {xs : List Value} (h : w.ownsRow base e size v n xs) : (ext w d os).ownsRow base e size v n xs := by
  refine ⟨h.1, ?_⟩
  rcases h.2 with h' | ⟨g, cap, cur, h1, h2, h3, h4⟩
  · exact .inl h'
  · refine .inr ⟨g, cap, cur, h1, h2, ?_, h4⟩
    have hg : g < w.heap.size := by
      rcases Nat.lt_or_ge g w.heap.size with hlt | hge
      · exact hlt
      · rw [Array.getElem?_eq_none hge] at h3; cases h3
    rw [ext_get hg]; exact h3
/-- The call's own slice v reads as l. -/
def Own4 (B : Nat) (w : World) (v : Value) (l : List T4) : Prop := w.ownsRow B 49 4 v l.length (row4 l.length (nt l))
theorem own4_shape {B : Nat} {w : World} {v : Value} {l : List T4} (h : Own4 B w v l) : ∃ A c, v = .slice A l.length c := by
  rcases h.2 with ⟨rfl, h'⟩ | ⟨g, c, cur, rfl, _⟩
  · exact ⟨none, 0, by rw [h']⟩
  · exact ⟨_, _, rfl⟩
theorem own4_at {B : Nat} {w : World} {v : Value} {l : List T4} (h : Own4 B w v l) (hl : 0 < l.length) : ∃ g c, v = .slice (some ⟨g, 0, none⟩) l.length c ∧ B ≤ g ∧ g < w.heap.size := by
  rcases h.2 with ⟨rfl, h'⟩ | ⟨g, c, cur, rfl, hB, hg, _⟩
  · omega
  · refine ⟨g, c, rfl, hB, ?_⟩
    rcases Nat.lt_or_ge g w.heap.size with h | h
    · exact h
    · rw [Array.getElem?_eq_none h] at hg; cases hg
/-- A row of the call's own reads as its list. -/
theorem at4_of_own {w : World} {base n cap g : Nat} {e : TypeId} {l : List T4} (hn : n = l.length) (h : w.ownsRow base e 4 (.slice (some ⟨g, 0, none⟩) n cap) n (row4 n (nt l))) : At4 w g 0 l := by
  subst hn
  intro i hi
  refine ⟨?_, ?_, ?_, ?_⟩
  · rw [Nat.zero_add, h.cellAt _ (by omega), row4_at (by omega), show (i * 4) / 4 = i from by omega, show (i * 4) % 4 = 0 from by omega]; rfl
  · rw [Nat.zero_add, h.cellAt _ (by omega), row4_at (by omega), show (i * 4 + 1) / 4 = i from by omega, show (i * 4 + 1) % 4 = 1 from by omega]; rfl
  · rw [Nat.zero_add, h.cellAt _ (by omega), row4_at (by omega), show (i * 4 + 2) / 4 = i from by omega, show (i * 4 + 2) % 4 = 2 from by omega]; rfl
  · rw [Nat.zero_add, h.cellAt _ (by omega), row4_at (by omega), show (i * 4 + 3) / 4 = i from by omega, show (i * 4 + 3) % 4 = 3 from by omega]; rfl
theorem own4_sl {B : Nat} {w : World} {v : Value} {l : List T4} (h : Own4 B w v l) : Sl4 w v l := by
  have h' := h
  rcases h.2 with ⟨rfl, h0⟩ | ⟨g, c, cur, rfl, _, hg, h1, h2, _⟩
  · exact ⟨none, 0, by rw [h0], by omega, by decide, .inl (List.length_eq_zero_iff.1 h0)⟩
  · refine ⟨_, c, rfl, h1, h2, .inr ⟨g, 0, rfl, ?_, at4_of_own rfl h'⟩⟩
    rcases Nat.lt_or_ge g w.heap.size with h | h
    · exact h
    · rw [Array.getElem?_eq_none h] at hg; cases hg
theorem own4_mono {B B' : Nat} {w : World} {v : Value} {l : List T4} (h : Own4 B w v l) (hB : B' ≤ B) : Own4 B' w v l :=
  ⟨h.1, h.2.imp id fun ⟨g, c, cur, e1, e2, e3⟩ => ⟨g, c, cur, e1, Nat.le_trans hB e2, e3⟩⟩
theorem own4_below {B : Nat} {w w' : World} {v : Value} {l : List T4} (h : Own4 B w v l) (hb : Below w.heap.size w w') : Own4 B w' v l := by
  obtain ⟨d, os, rfl⟩ := ext_of_below hb
  exact own_ext h
theorem own4_alloc {B : Nat} {w : World} {v : Value} {l : List T4} (h : Own4 B w v l) (o : Obj) : Own4 B (w.alloc o) v l := World.ownsRow.alloc h o
theorem own4_ext {B d : Nat} {os : Array Obj} {w : World} {v : Value} {l : List T4} (h : Own4 B w v l) : Own4 B (ext w d os) v l := own_ext h
theorem own4_of {B n : Nat} {w : World} {v : Value} {l : List T4} {f : Nat → T4} (h : w.ownsRow B 49 4 v n (row4 n f)) (hl : l.length = n) (hf : ∀ i, i < n → f i = nt l i) : Own4 B w v l := by
  subst hl
  unfold Own4
  rw [← row4_congr hf]; exact h
theorem row4_news {w : World} {b off : Nat} {l : List T4} (h : At4 w b off l) : ∀ j u, (row4 l.length (nt l))[j]? = some u → w.cell? ((⟨b, off, none⟩ : Addr).add j) = some u := by
  intro j u hj
  have hlt : j < l.length * 4 := by
    have := (List.getElem?_eq_some_iff.1 hj).1
    rw [row4_len] at this; exact this
  rw [row4_at hlt] at hj
  have ea : (⟨b, off, none⟩ : Addr).add j = ⟨b, off + j, none⟩ := by
    unfold Addr.add
    split
    · next e => subst e; rfl
    · rfl
  rw [ea]
  obtain ⟨h0, h1, h2, h3⟩ := h (j / 4) (by omega)
  rcases mod4 j with e | e | e | e
  · rw [e] at hj
    rw [show off + j = off + j / 4 * 4 from by omega, h0, ← hj]; rfl
  · rw [e] at hj
    rw [show off + j = off + j / 4 * 4 + 1 from by omega, h1, ← hj]; rfl
  · rw [e] at hj
    rw [show off + j = off + j / 4 * 4 + 2 from by omega, h2, ← hj]; rfl
  · rw [e] at hj
    rw [show off + j = off + j / 4 * 4 + 3 from by omega, h3, ← hj]; rfl
theorem nt_app_lt {l m : List T4} {i : Nat} (h : i < l.length) : nt (l ++ m) i = nt l i := by
  unfold nt
  rw [List.getD_eq_getElem?_getD, List.getD_eq_getElem?_getD, List.getElem?_append_left h]
theorem nt_app_ge {l m : List T4} {i : Nat} (h : l.length ≤ i) : nt (l ++ m) i = nt m (i - l.length) := by
  unfold nt
  rw [List.getD_eq_getElem?_getD, List.getD_eq_getElem?_getD, List.getElem?_append_right h]
theorem row4_app (l m : List T4) : row4 l.length (nt l) ++ row4 m.length (nt m) = row4 (l ++ m).length (nt (l ++ m)) := by
  apply List.ext_getElem?
  intro j
  have hl : (row4 l.length (nt l)).length = l.length * 4 := row4_len
  have hm : (row4 m.length (nt m)).length = m.length * 4 := row4_len
  have hs : (l ++ m).length = l.length + m.length := List.length_append
  by_cases h : j < l.length * 4
  · rw [List.getElem?_append_left (by omega), row4_at h, row4_at (by omega), nt_app_lt (by omega)]
  · rw [List.getElem?_append_right (by omega), hl]
    by_cases h2 : j < (l ++ m).length * 4
    · rw [row4_at h2, row4_at (by omega), nt_app_ge (by omega), show (j - l.length * 4) / 4 = j / 4 - l.length from by omega, show (j - l.length * 4) % 4 = j % 4 from by omega]
    · rw [List.getElem?_eq_none (by omega), List.getElem?_eq_none (by rw [row4_len]; omega)]
theorem nt_map {m : Nat} {f : Nat → T4} {i : Nat} (h : i < m) : nt ((List.range m).map f) i = f i := by
  unfold nt
  rw [List.getD_eq_getElem?_getD, List.getElem?_map, List.getElem?_range h]; rfl
theorem nt_ext {a b : List T4} (h : a.length = b.length) (h2 : ∀ i, i < a.length → nt a i = nt b i) : a = b := by
  apply List.ext_getElem?
  intro i
  by_cases hi : i < a.length
  · have := h2 i hi
    unfold nt at this
    rw [List.getD_eq_getElem?_getD, List.getD_eq_getElem?_getD, List.getElem?_eq_getElem hi, List.getElem?_eq_getElem (by omega)] at this
    rw [List.getElem?_eq_getElem hi, List.getElem?_eq_getElem (by omega)]
    simpa using this
  · rw [List.getElem?_eq_none (by omega), List.getElem?_eq_none (by omega)]
theorem infoNote : (Try.prog.info? 49).map (fun i => (i.zero, i.size, i.bytes)) = some (some (.agg #[.int .i64 0, .int .i64 0, .string ByteArray.empty, .int .i64 0]), 4, 40) := by kernel_rfl
end Go.Proofs.Ytlanbgpmmlnehaa
