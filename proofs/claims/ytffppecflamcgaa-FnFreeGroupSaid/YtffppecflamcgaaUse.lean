/- Limits: what a group and all above it use is changed by d: the plain side, and clones. -/
import Derived.Test.YtffppecflamcgaaRoom
import Derived.Test.YtffppecflamcgaaClone
set_option linter.unusedSimpArgs false
set_option linter.unusedVariables false
set_option linter.unusedSectionVars false
namespace Go.Proofs.Ytffppecflamcgaa
open Go.RowKit

def addUse (d : Int) (k : Nat) (f : Nat → T3) : Nat → T3 := upd f k ((f k).1, (f k).2.1, (f k).2.2 + d)
def upF (l : List T3) (d : Int) : Nat → Int → (Nat → T3) → (Nat → T3)
  | 0, _, f => f
  | g + 1, n, f => if n < 0 then f else upF l d g (ti l n.toNat).1 (addUse d n.toNat f)
def chgL (l : List T3) (n d : Int) : List T3 := (List.range l.length).map (upF l d l.length n (ti l))
theorem upF_neg (l : List T3) {n : Int} (h : n < 0) (d : Int) (f : Nat → T3) : ∀ g, upF l d g n f = f
  | 0 => rfl
  | g + 1 => by unfold upF; rw [if_pos h]
theorem upF_step (l : List T3) (g k : Nat) (d : Int) (f : Nat → T3) : upF l d (g + 1) (k : Int) f = upF l d g (ti l k).1 (addUse d k f) := by
  show (if (k : Int) < 0 then f else upF l d g (ti l (k : Int).toNat).1 (addUse d (k : Int).toNat f)) = _
  rw [if_neg (by omega)]; rfl
theorem chgL_len (l : List T3) (n d : Int) : (chgL l n d).length = l.length := by unfold chgL; simp
theorem ti_map {m : Nat} {f : Nat → T3} {i : Nat} (h : i < m) : ti ((List.range m).map f) i = f i := by
  unfold ti
  rw [List.getD_eq_getElem?_getD, List.getElem?_map, List.getElem?_range h]; rfl
theorem chgL_at {l : List T3} {n d : Int} {i : Nat} (h : i < l.length) : ti (chgL l n d) i = upF l d l.length n (ti l) i := ti_map h
theorem row3_set1 {n k : Nat} {f : Nat → T3} {c : Int} (hk : k < n) : (row3 n f).set (k * 3 + 2) (.int .i64 c) = row3 n (upd f k ((f k).1, (f k).2.1, c)) := by
  rw [← row3_set hk]
  apply List.ext_getElem?
  intro j
  have hl : (row3 n f).length = n * 3 := row3_len
  by_cases h2 : k * 3 + 2 = j
  · subst h2
    rw [List.getElem?_set_self (by simp [hl]; omega), List.getElem?_set_self (by simp [hl]; omega)]
  · rw [List.getElem?_set_ne h2, List.getElem?_set_ne h2]
    by_cases h1 : k * 3 + 1 = j
    · subst h1
      rw [List.getElem?_set_self (by simp [hl]; omega), row3_at (by omega), show (k * 3 + 1) / 3 = k from by omega, show (k * 3 + 1) % 3 = 1 from by omega]; rfl
    · rw [List.getElem?_set_ne h1]
      by_cases h0 : k * 3 = j
      · subst h0
        rw [List.getElem?_set_self (by rw [hl]; omega), row3_at (by omega), show (k * 3) / 3 = k from by omega, show (k * 3) % 3 = 0 from by omega]; rfl
      · rw [List.getElem?_set_ne h0]

/-- The call's own slice v reads as l. -/
def Own (B : Nat) (w : World) (v : Value) (l : List T3) : Prop := w.ownsRow B 34 3 v l.length (row3 l.length (ti l))
theorem row3_news {w : World} {b off : Nat} {l : List T3} (h : At3 w b off l) : ∀ j u, (row3 l.length (ti l))[j]? = some u → w.cell? ((⟨b, off, none⟩ : Addr).add j) = some u := by
  intro j u hj
  have hlt : j < l.length * 3 := by
    have := (List.getElem?_eq_some_iff.1 hj).1
    rw [row3_len] at this; exact this
  rw [row3_at hlt] at hj
  have ea : (⟨b, off, none⟩ : Addr).add j = ⟨b, off + j, none⟩ := by
    unfold Addr.add
    split
    · next e => subst e; rfl
    · rfl
  rw [ea]
  obtain ⟨h0, h1, h2⟩ := h (j / 3) (by omega)
  have hc : j % 3 = 0 ∨ j % 3 = 1 ∨ j % 3 = 2 := by omega
  rcases hc with e | e | e
  · rw [e] at hj
    rw [show off + j = off + j / 3 * 3 from by omega, h0, ← hj]; rfl
  · rw [e] at hj
    rw [show off + j = off + j / 3 * 3 + 1 from by omega, h1, ← hj]; rfl
  · rw [e] at hj
    rw [show off + j = off + j / 3 * 3 + 2 from by omega, h2, ← hj]; rfl
theorem row3_one {n : Nat} {f : Nat → T3} : ∀ u ∈ row3 n f, u.oneCell' = true := by
  intro u hu
  unfold row3 at hu
  obtain ⟨j, _, rfl⟩ := List.mem_map.1 hu
  rfl
theorem own_shape {B : Nat} {w : World} {v : Value} {l : List T3} (h : Own B w v l) : ∃ A c, v = .slice A l.length c := by
  rcases h.2 with ⟨rfl, h'⟩ | ⟨g, c, cur, rfl, _⟩
  · exact ⟨none, 0, by rw [h']⟩
  · exact ⟨_, _, rfl⟩
theorem own_at {B : Nat} {w : World} {v : Value} {l : List T3} (h : Own B w v l) (hl : 0 < l.length) : ∃ g c, v = .slice (some ⟨g, 0, none⟩) l.length c ∧ B ≤ g ∧ g < w.heap.size := by
  rcases h.2 with ⟨rfl, h'⟩ | ⟨g, c, cur, rfl, hB, hg, _⟩
  · omega
  · refine ⟨g, c, rfl, hB, ?_⟩
    rcases Nat.lt_or_ge g w.heap.size with h | h
    · exact h
    · rw [Array.getElem?_eq_none h] at hg; cases hg
theorem own_sl3 {B : Nat} {w : World} {v : Value} {l : List T3} (h : Own B w v l) : Sl3 w v l := by
  have h' := h
  rcases h.2 with ⟨rfl, h0⟩ | ⟨g, c, cur, rfl, _, hg, h1, h2, _⟩
  · exact ⟨none, 0, by rw [h0], by omega, by decide, .inl (List.length_eq_zero_iff.1 h0)⟩
  · refine ⟨_, c, rfl, h1, h2, .inr ⟨g, 0, rfl, ?_, at3_of_own rfl h'⟩⟩
    rcases Nat.lt_or_ge g w.heap.size with h | h
    · exact h
    · rw [Array.getElem?_eq_none h] at hg; cases hg

theorem clone_of (v : Value) (l : List T3) (w : World) (h0 : Sl3 w v l) (hm : l.length ≤ 1048576) : Calls Try.prog 39 #[v] w fun e w' => ∃ v', e = .returned v' ∧ Own w.heap.size w' v' l ∧ Below w.heap.size w w' := by
  obtain ⟨A, cap, rfl, h1, h2, h3⟩ := h0
  cases A with
  | none =>
    obtain rfl : l = [] := by
      rcases h3 with h3 | ⟨_, _, e, _⟩
      · exact h3
      · cases e
    refine (clone_nil cap w).mono ?_
    rintro e w' ⟨rfl, hb⟩
    exact ⟨_, rfl, World.ownsRow_nil _ _ _ _, hb⟩
  | some ad =>
    refine (clone_some ad l.length cap (row3 l.length (ti l)) w hm ?_ row3_len ?_ row3_one).mono fun e w' h => h
    · rcases h3 with h3 | ⟨b, off, e, hb, _⟩
      · left; rw [h3]; rfl
      · right; cases e; exact hb
    · rcases h3 with h3 | ⟨b, off, e, hb, ha⟩
      · subst h3; intro j u hj; simp [row3] at hj
      · cases e; exact row3_news ha
theorem roomUp_le (l : List T3) : ∀ (f : Nat) (n r : Int), roomUp l f n r ≤ r
  | 0, _, r => Int.le_refl r
  | f + 1, n, r => by
    unfold roomUp
    split
    · exact Int.le_refl r
    · exact Int.le_trans (roomUp_le l f _ _) (Int.min_le_left _ _)
theorem roomF_ok {l : List T3} {n : Int} (h : ¬ roomF l n < 0) : limB l = true ∧ 0 ≤ n ∧ n < (l.length : Int) ∧ roomF l n ≤ 10000 := by
  rcases Bool.eq_false_or_eq_true (roomOk l n) with e | e
  · have h' := roomUp_le l l.length n 10000
    rw [← roomF_yes e] at h'
    unfold roomOk at e
    rw [Bool.and_eq_true] at e
    have := inB_iff.1 e.2
    exact ⟨e.1, by omega, by omega, h'⟩
  · rw [roomF_no e] at h; omega
theorem upF_above {l : List T3} {d : Int} (hall : ∀ k, k < l.length → limOk l k = true) : ∀ (g : Nat) (m : Int) (f : Nat → T3) (i : Nat), m < (l.length : Int) → m < (i : Int) → upF l d g m f i = f i
  | 0, _, _, _, _, _ => rfl
  | g + 1, m, f, i, hl, hm => by
    by_cases h : m < 0
    · rw [upF_neg l h]
    · obtain ⟨k, rfl⟩ := Int.eq_ofNat_of_zero_le (show 0 ≤ m by omega)
      have hk := limOk_iff.1 (hall k (by omega))
      rw [upF_step, upF_above hall g _ _ i (by omega) (by omega)]
      unfold addUse upd
      rw [if_neg (by omega)]
theorem chgL_at_n {l : List T3} {n d : Int} (hall : ∀ k, k < l.length → limOk l k = true) (h0 : 0 ≤ n) (h1 : n < (l.length : Int)) : ti (chgL l n d) n.toNat = ((ti l n.toNat).1, (ti l n.toNat).2.1, (ti l n.toNat).2.2 + d) := by
  obtain ⟨k, rfl⟩ := Int.eq_ofNat_of_zero_le h0
  have hk : k < l.length := by omega
  have ho := limOk_iff.1 (hall k hk)
  show ti (chgL l (k : Int) d) k = ((ti l k).1, (ti l k).2.1, (ti l k).2.2 + d)
  rw [chgL_at hk]
  obtain ⟨g, hg⟩ : ∃ g, l.length = g + 1 := ⟨l.length - 1, by omega⟩
  rw [hg, upF_step, upF_above hall g _ _ k (by omega) (by omega)]
  unfold addUse upd
  rw [if_pos rfl]
theorem limB_low {l : List T3} {n d : Int} (hv : limB l = true) (h0 : 0 ≤ n) (h1 : n < (l.length : Int)) (hd : d < -10000) : limB (chgL l n d) = false := by
  have hall := (limB_all hv).2.1
  have ho := limOk_iff.1 (hall n.toNat (by omega))
  refine limB_bad (k := n.toNat) (by rw [chgL_len]; omega) ?_
  rcases Bool.eq_false_or_eq_true (limOk (chgL l n d) n.toNat) with e | e
  · have := limOk_iff.1 e
    rw [chgL_at_n hall h0 h1] at this
    simp only at this
    omega
  · exact e
def chargeF (l : List T3) (n d : Int) : List T3 × Bool := if roomF l n < 0 ∨ d < 0 then ([], false) else if roomF l n < d then (l, false) else (chgL l n d, true)
theorem chargeF_no {l : List T3} {n d : Int} (h : roomF l n < 0 ∨ d < 0) : chargeF l n d = ([], false) := by unfold chargeF; rw [if_pos h]
theorem chargeF_much {l : List T3} {n d : Int} (h : ¬ roomF l n < 0) (h' : ¬ d < 0) (h2 : roomF l n < d) : chargeF l n d = (l, false) := by unfold chargeF; rw [if_neg (by omega), if_pos h2]
theorem chargeF_yes {l : List T3} {n d : Int} (h : ¬ roomF l n < 0) (h' : ¬ d < 0) (h2 : ¬ roomF l n < d) : chargeF l n d = (chgL l n d, true) := by unfold chargeF; rw [if_neg (by omega), if_neg h2]
def freeF (l : List T3) (n d : Int) : List T3 × Bool := if roomF l n < 0 ∨ d < 0 then ([], false) else if limB (chgL l n (-d)) = true then (chgL l n (-d), true) else (l, false)
theorem freeF_no {l : List T3} {n d : Int} (h : roomF l n < 0 ∨ d < 0) : freeF l n d = ([], false) := by unfold freeF; rw [if_pos h]
theorem freeF_yes {l : List T3} {n d : Int} (h : ¬ roomF l n < 0) (h' : ¬ d < 0) (h2 : limB (chgL l n (-d)) = true) : freeF l n d = (chgL l n (-d), true) := by unfold freeF; rw [if_neg (by omega), if_pos h2]
theorem freeF_bad {l : List T3} {n d : Int} (h : ¬ roomF l n < 0) (h' : ¬ d < 0) (h2 : limB (chgL l n (-d)) = false) : freeF l n d = (l, false) := by unfold freeF; rw [if_neg (by omega), if_neg (by rw [h2]; decide)]
theorem own_mono {B B' : Nat} {w : World} {v : Value} {l : List T3} (h : Own B w v l) (hB : B' ≤ B) : Own B' w v l :=
  ⟨h.1, h.2.imp id fun ⟨g, c, cur, e1, e2, e3⟩ => ⟨g, c, cur, e1, Nat.le_trans hB e2, e3⟩⟩
theorem own_below {B : Nat} {w w' : World} {v : Value} {l : List T3} (h : Own B w v l) (hb : Below w.heap.size w w') : Own B w' v l := by
  obtain ⟨d, os, rfl⟩ := ext_of_below hb
  exact own_ext h
/-- append([]impl.Limit{}, list...), the empty list just made. -/
theorem wpList_app {ops : Array Oper} {rest : List Oper} {o : Oper} {a : Act} {Q : Exit → Act → World → Prop} (W : World) (hgd : o.guard = none) (s x : Operand)
    (ho : o.op = .call { callee := .builtin .append, args := #[s, x], argTypes := #[25, 25] })
    (hs : a.eval s = .slice (some ⟨W.heap.size, 0, none⟩) 0 0) (l : List T3) (v : Value) (hx : a.eval x = v) (h0 : Sl3 W v l) (hl : 0 < l.length) (hm : l.length ≤ 1048576)
    (h : ∀ v' w', Own W.heap.size w' v' l → Below W.heap.size W w' → wpList Try.prog ops Q rest (a.put o.dst v') w') : wpList Try.prog ops Q (o :: rest) a (W.alloc (.cells #[] 34)) := by
  obtain ⟨A, cap, rfl, h1, h2, h3⟩ := h0
  obtain ⟨b, off, rfl, hb, hc⟩ := h3.resolve_left (fun e => by subst e; simp at hl)
  obtain ⟨i0, hi, hz0, hz1, hz2⟩ := info_parts infoLim
  refine wpList_append_own _ hgd s x 25 ho W.heap.size 34 i0 _ 3 24 Try.underlying25 hi hz0 hz1 hz2 rfl (by decide) _ 0 [] hs (World.ownsRow_made W #[] 0 (Nat.le_refl _) (by decide) rfl) ⟨b, off, none⟩ l.length cap (row3 l.length (ti l)) hx row3_len ?c1 row3_one ?c2 ?c3 ?c4 ?_
  case c1 =>
    intro j u hj
    rw [← row3_news hc j u hj]
    exact (Below.alloc (Below.refl W.heap.size W) (Nat.le_refl _) _).cell (p := (⟨b, off, none⟩ : Addr).add j) (by unfold Addr.add; split <;> exact hb)
  case c2 => unfold maxLen; omega
  case c3 => omega
  case c4 => simp
  intro v' w' hown hg _
  rw [Nat.zero_add, List.nil_append] at hown
  exact h v' w' hown ((Below.alloc (Below.refl _ _) (Nat.le_refl _) _).grown hg (by simp) (by intro k hk; cases hk; exact Nat.le_refl _))
theorem own_of {B n : Nat} {w : World} {v : Value} {l : List T3} {f : Nat → T3} (h : w.ownsRow B 34 3 v n (row3 n f)) (hl : l.length = n) (hf : ∀ i, i < n → f i = ti l i) : Own B w v l := by
  subst hl
  unfold Own
  rw [← row3_congr hf]; exact h

end Go.Proofs.Ytffppecflamcgaa
