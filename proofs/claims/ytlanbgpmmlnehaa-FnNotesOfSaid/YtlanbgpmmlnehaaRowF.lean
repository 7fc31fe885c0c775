/- Rows of the call's own that need not begin where their block begins; what append does to them. -/
import Derived.Test.YtlanbgpmmlnehaaGen
import Derived.ArgAppend
import Derived.Laws.IdiomCopy
import Derived.Lib.LazyBuf
import Derived.Deep.MidRow
set_option linter.unusedSimpArgs false
set_option linter.unusedVariables false
set_option linter.unusedSectionVars false
namespace Go.Proofs.Ytlanbgpmmlnehaa
open Go.RowKit

section
variable {α : Type} {E : Lay α}
/-- The slice v reads as l, lies in blocks from B on, and may be written up to its capacity. -/
def RowF (E : Lay α) (B : Nat) (w : World) (v : Value) (l : List α) : Prop :=
  ∃ A cap, v = .slice A l.length cap ∧ l.length ≤ cap ∧ cap ≤ maxLen ∧ ((A = none ∧ l = [] ∧ cap = 0) ∨ ∃ b off, A = some ⟨b, off, none⟩ ∧ B ≤ b ∧ b < w.heap.size ∧ AtG E w b off l ∧ ∀ j, j < cap * E.z → (w.cell? ⟨b, off + j, none⟩).isSome = true ∧ w.frozen? ⟨b, off + j, none⟩ = false)
variable {w w' : World} {v : Value} {l m : List α} {B B' T : Nat}
theorem rowF_sl (h : RowF E B w v l) : SlG E w v l := by
  obtain ⟨A, cap, e, h1, h2, h3⟩ := h
  refine ⟨A, cap, e, h1, h2, ?_⟩
  rcases h3 with ⟨_, h, _⟩ | ⟨b, off, e, _, hb, hat, _⟩
  · exact .inl h
  · exact .inr ⟨b, off, e, hb, hat⟩
theorem rowF_own (h : OwnG E T B w v l) : RowF E B w v l := by
  have hs := ownG_sl h
  rcases h.2 with ⟨rfl, h0⟩ | ⟨g, c, cur, rfl, hB, hg, h1, h2, h3, h4⟩
  · have h0 : l.length = 0 := h0
    exact ⟨none, 0, by rw [h0], by omega, by decide, .inl ⟨rfl, List.length_eq_zero_iff.1 h0, rfl⟩⟩
  · obtain ⟨A', c', e, _, _, h5⟩ := hs
    injection e with e1 _ e3
    subst e1 e3
    have hlt : g < w.heap.size := by
      rcases Nat.lt_or_ge g w.heap.size with h | h
      · exact h
      · rw [Array.getElem?_eq_none h] at hg; cases hg
    refine ⟨_, c, rfl, h1, h2, .inr ⟨g, 0, rfl, hB, hlt, ?_, fun j hj => ?_⟩⟩
    · rcases h5 with h5 | ⟨b, off, e, _, hat⟩
      · subst h5; intro i x hx; simp at hx
      · cases e; exact hat
    · rw [Nat.zero_add]
      refine ⟨?_, h.frozenAt j⟩
      rw [cell_of_row w g j cur T (0, 0) hg, Array.getElem?_eq_getElem (by omega)]; rfl
theorem rowF_below (h : RowF E B w v l) (hb : Below w.heap.size w w') : RowF E B w' v l := by
  obtain ⟨A, cap, e, h1, h2, h3⟩ := h
  refine ⟨A, cap, e, h1, h2, h3.imp id fun ⟨b, off, e, hB, hlt, hat, hw⟩ => ⟨b, off, e, hB, Nat.lt_of_lt_of_le hlt hb.size, hat.below hlt hb, fun j hj => ?_⟩⟩
  obtain ⟨k1, k2⟩ := hw j hj
  exact ⟨by rw [hb.cell (p := ⟨b, _, none⟩) hlt]; exact k1, by rw [hb.frozen (p := ⟨b, _, none⟩) hlt]; exact k2⟩
theorem rowF_mono (h : RowF E B w v l) (hB : B' ≤ B) : RowF E B' w v l := by
  obtain ⟨A, cap, e, h1, h2, h3⟩ := h
  exact ⟨A, cap, e, h1, h2, h3.imp id fun ⟨b, off, e, k, r⟩ => ⟨b, off, e, Nat.le_trans hB k, r⟩⟩
theorem rowF_shape (h : RowF E B w v l) : ∃ A c, v = .slice A l.length c := by
  obtain ⟨A, c, e, _⟩ := h
  exact ⟨A, c, e⟩
theorem rowF_drop {b off n cap k : Nat} (h : RowF E B w (.slice (some ⟨b, off, none⟩) n cap) l) (hk : k ≤ l.length) : RowF E B w (.slice (some ⟨b, off + k * E.z, none⟩) (l.length - k) (cap - k)) (l.drop k) := by
  have hs := (rowF_sl h).drop hk
  obtain ⟨A', cap', e, h1, h2, h3⟩ := h
  injection e with e1 _ e3
  subst e1 e3
  have hl : (l.drop k).length = l.length - k := List.length_drop
  rcases h3 with ⟨e, _⟩ | ⟨b', off', e, hB, hlt, hat, hw⟩
  · cases e
  · cases e
    obtain ⟨A2, c2, e2, _, _, h5⟩ := hs
    injection e2 with k1 _ k3
    subst k1 k3
    refine ⟨_, cap - k, by rw [hl], by omega, by omega, .inr ⟨b, off + k * E.z, rfl, hB, hlt, ?_, fun j hj => ?_⟩⟩
    · rcases h5 with h5 | ⟨b3, off3, e, _, hat⟩
      · rw [h5]; intro i x hx; simp at hx
      · cases e; exact hat
    · rw [Nat.sub_mul] at hj
      have := hw (k * E.z + j) (by omega)
      rw [← Nat.add_assoc] at this
      exact this
theorem run_appF {P : Program} {t e : TypeId} (hf : Fit P E t e) (W : World) (ty : TypeId) (hrow : RowF E B W v l) {ad : Addr} {c : Nat} (h0 : SlG E W (.slice (some ad) m.length c) m) (hl : l.length + m.length ≤ 1048600) (hB : B ≤ W.heap.size) :
    ∃ v' w', (Builtin.append_ #[t, t] ty #[v, .slice (some ad) m.length c]).run P W = .ok v' w' ∧ RowF E B w' v' (l ++ m) ∧ Below B W w' := by
  obtain ⟨i0, z0, bytes, hi, hz0, hz1, hz2, hz3, hz4⟩ := hf.hi
  have hnews : ∀ k y, (m.flatMap E.put)[k]? = some y → W.cell? (ad.add k) = some y := by
    intro k y hk
    obtain ⟨A', c', e1, _, _, h3⟩ := h0
    injection e1 with e1 _ _
    subst e1
    rcases h3 with h3 | ⟨b, off, e2, hb, hat⟩
    · subst h3; simp at hk
    · cases e2
      obtain ⟨i, j, x, rfl, hj, hx, hu⟩ := flat_inv hk
      rw [Addr.add_lit, ← Nat.add_assoc]
      exact hat i x hx j y hu
  have hbytes : (l.length + m.length) * bytes ≤ 140737488355328 := by have : (l.length + m.length) * bytes ≤ 1048600 * 1000 := Nat.mul_le_mul hl hz4; omega
  obtain ⟨A, cap, rfl, h1, h2, h3⟩ := hrow
  rcases h3 with ⟨rfl, rfl, rfl⟩ | ⟨b, off, rfl, hBb, hlt, hat, hw⟩
  · obtain ⟨v', w', hr, ha⟩ := run_appG (B := B) hf W ty (ownG_none B W) h0 hl hB
    exact ⟨v', w', hr, rowF_own ha.1, Below.grown (Below.refl _ _) ha.2.1 hB (fun j hj => by cases hj)⟩
  · have holds : ∀ k y, (l.flatMap E.put)[k]? = some y → W.cell? ((⟨b, off, none⟩ : Addr).add k) = some y := by
      intro k y hk
      obtain ⟨i, j, x, rfl, hj, hx, hu⟩ := flat_inv hk
      rw [Addr.add_lit, ← Nat.add_assoc]
      exact hat i x hx j y hu
    by_cases hroom : l.length + m.length ≤ cap
    · have hcap : (l.length + m.length) * E.z ≤ cap * E.z := Nat.mul_le_mul_right _ hroom
      rw [Nat.add_mul] at hcap
      have hml : (m.flatMap E.put).length = m.length * E.z := flat_len m
      have hin : ∀ j, j < (m.flatMap E.put).length → (W.cell? ⟨b, off + l.length * E.z + j, none⟩).isSome = true := fun j hj => by
        have := (hw (l.length * E.z + j) (by omega)).1
        rw [← Nat.add_assoc] at this; exact this
      have hr := run_append_room_cells (P := P) W t ty e i0 hf.ht hi b off l.length cap ad m.length c (m.flatMap E.put) (by rw [hz1]; exact hml) hnews (flat_one m) hroom
        (by rw [hz1]; exact hin)
        (by rw [hz1]; intro j hj; have := (hw (l.length * E.z + j) (by omega)).2; rw [← Nat.add_assoc] at this; exact this)
      rw [hz1] at hr
      refine ⟨_, _, hr, ⟨_, cap, by rw [List.length_append], by rw [List.length_append]; exact hroom, h2, .inr ⟨b, off, rfl, hBb, ?_, fun i x hx j u hu => ?_, fun j hj => ?_⟩⟩, Go.below_setCells hBb _ _ _ (Below.refl _ _)⟩
      · have hs := (Go.below_setCells (B := 0) (a := W) (Nat.zero_le b) (m.flatMap E.put) (off + l.length * E.z) W (Below.refl _ _)).size
        omega
      · have hj : j < E.z := by rw [← E.len x]; exact (List.getElem?_eq_some_iff.1 hu).1
        by_cases hil : i < l.length
        · rw [List.getElem?_append_left hil] at hx
          rw [World.cell?_setCells_out b _ _ _ _ (fun _ _ => .inl (by
            have : (i + 1) * E.z ≤ l.length * E.z := Nat.mul_le_mul_right _ hil
            rw [Nat.add_mul] at this
            show off + i * E.z + j < off + l.length * E.z
            omega))]
          exact hat i x hx j u hu
        · rw [List.getElem?_append_right (by omega)] at hx
          have hk : (m.flatMap E.put)[(i - l.length) * E.z + j]? = some u := by rw [flat_at m _ j x hx hj]; exact hu
          have hkl := (List.getElem?_eq_some_iff.1 hk).1
          have e : off + i * E.z + j = off + l.length * E.z + ((i - l.length) * E.z + j) := by
            have : i * E.z = l.length * E.z + (i - l.length) * E.z := by rw [← Nat.add_mul]; congr 1; omega
            omega
          rw [e, World.cell?_setCells_in b _ _ _ hin _ hkl]
          exact (List.getElem?_eq_some_iff.1 hk).2 ▸ rfl
      · obtain ⟨k1, k2⟩ := hw j hj
        exact ⟨World.isSome_setCells b _ _ _ _ k1, by rw [World.frozen?_setCells]; exact k2⟩
    · obtain ⟨v', w', hr, ho, hg⟩ := run_append_arg_grows (P := P) W t ty e i0 z0 E.z bytes hf.ht hi hz0 hz1 hz2 hz3 E.pos ⟨b, off, none⟩ l.length cap _ (flat_len l) holds ad m.length c _ (flat_len m) hnews (by omega) (by unfold maxLen; omega) hbytes
      have ho' : OwnG E e W.heap.size w' v' (l ++ m) := by
        unfold OwnG
        rw [List.length_append, List.flatMap_append]
        exact ho
      exact ⟨v', w', hr, rowF_mono (rowF_own ho') hB, Below.grown (Below.refl _ _) hg hB (fun j hj => by cases hj)⟩
variable {P : Program} {t e : TypeId} {ops : Array Oper} {rest : List Oper} {o : Oper} {a : Act} {Q : Exit → Act → World → Prop}
theorem wpList_appF (hf : Fit P E t e) (W : World) (hgd : o.guard = none) (s x : Operand) (ho : o.op = .call { callee := .builtin .append, args := #[s, x], argTypes := #[t, t] })
    (B : Nat) (v : Value) (l : List α) (hs : a.eval s = v) (hrow : RowF E B W v l) (ad : Addr) (c : Nat) (m : List α) (hx : a.eval x = .slice (some ad) m.length c) (h0 : SlG E W (.slice (some ad) m.length c) m) (hl : l.length + m.length ≤ 1048600) (hB : B ≤ W.heap.size)
    (h : ∀ v' w', RowF E B w' v' (l ++ m) → Below B W w' → wpList P ops Q rest (a.put o.dst v') w') : wpList P ops Q (o :: rest) a W := by
  obtain ⟨v', w', hr, h1, h2⟩ := run_appF hf W o.type hrow h0 hl hB
  exact wpList_plain hgd fun _ hK => wp_run_app s x t ho hs hx hr (hK _ _ (h v' w' h1 h2))
end
end Go.Proofs.Ytlanbgpmmlnehaa
