/- Rows: what an append onto itself and a clear leave; slices.Delete of one note. -/
import Derived.Test.YtlanbgpmmlnehaaCloneN
set_option linter.unusedSimpArgs false
set_option linter.unusedVariables false
set_option linter.unusedSectionVars false
namespace Go.Proofs.Ytlanbgpmmlnehaa
open Go.RowKit

section
variable {α : Type} {E : Lay α} {w : World} {l : List α} {B b off n cap : Nat}
/-- Elements j.. are moved down to place i. -/
theorem rowF_shift {i j : Nat} (h : RowF E B w (.slice (some ⟨b, off, none⟩) n cap) l) (hij : i ≤ j) (hj : j ≤ l.length) : RowF E B (w.setCells b (off + i * E.z) ((l.drop j).flatMap E.put)) (.slice (some ⟨b, off, none⟩) (i + (l.length - j)) cap) (l.take i ++ l.drop j) := by
  obtain ⟨A', cap', e, h1, h2, h3⟩ := h
  injection e with e1 _ e3
  subst e1 e3
  rcases h3 with ⟨e, _⟩ | ⟨b', off', e, hB, hlt, hat, hw⟩
  · cases e
  · cases e
    have hlen : (l.take i ++ l.drop j).length = i + (l.length - j) := by rw [List.length_append, List.length_take, List.length_drop]; omega
    have hml : ((l.drop j).flatMap E.put).length = (l.length - j) * E.z := by rw [flat_len, List.length_drop]
    have hle : (i + (l.length - j)) * E.z ≤ cap * E.z := Nat.mul_le_mul_right _ (by omega)
    rw [Nat.add_mul] at hle
    have hin : ∀ k, k < ((l.drop j).flatMap E.put).length → (w.cell? ⟨b, off + i * E.z + k, none⟩).isSome = true := fun k hk => by
      have := (hw (i * E.z + k) (by omega)).1
      rw [← Nat.add_assoc] at this; exact this
    refine ⟨_, cap, by rw [hlen], by rw [hlen]; omega, h2, .inr ⟨b, off, rfl, hB, ?_, fun k x hx c u hu => ?_, fun k hk => ?_⟩⟩
    · have hs := (below_setCells (B := 0) (a := w) (Nat.zero_le b) ((l.drop j).flatMap E.put) (off + i * E.z) w (Below.refl _ _)).size
      omega
    · have hc : c < E.z := by rw [← E.len x]; exact (List.getElem?_eq_some_iff.1 hu).1
      by_cases hk : k < i
      · rw [List.getElem?_append_left (by rw [List.length_take]; omega), List.getElem?_take_of_lt hk] at hx
        rw [World.cell?_setCells_out b _ _ _ _ (fun _ _ => .inl (by
          have : (k + 1) * E.z ≤ i * E.z := Nat.mul_le_mul_right _ hk
          rw [Nat.add_mul] at this
          show off + k * E.z + c < off + i * E.z
          omega))]
        exact hat k x hx c u hu
      · rw [List.getElem?_append_right (by rw [List.length_take]; omega), List.length_take, Nat.min_eq_left (by omega)] at hx
        have hk2 : ((l.drop j).flatMap E.put)[(k - i) * E.z + c]? = some u := by rw [flat_at (l.drop j) _ c x hx hc]; exact hu
        have hkl := (List.getElem?_eq_some_iff.1 hk2).1
        have e : off + k * E.z + c = off + i * E.z + ((k - i) * E.z + c) := by
          have : k * E.z = i * E.z + (k - i) * E.z := by rw [← Nat.add_mul]; congr 1; omega
          omega
        rw [e, World.cell?_setCells_in b _ _ _ hin _ hkl]
        exact (List.getElem?_eq_some_iff.1 hk2).2 ▸ rfl
    · obtain ⟨k1, k2⟩ := hw k hk
      exact ⟨World.isSome_setCells b _ _ _ _ k1, by rw [World.frozen?_setCells]; exact k2⟩
/-- Cells behind the elements are written. -/
theorem rowF_tail {k : Nat} {zs : List Value} (h : RowF E B w (.slice (some ⟨b, off, none⟩) n cap) l) (hk : l.length * E.z ≤ k) : RowF E B (w.setCells b (off + k) zs) (.slice (some ⟨b, off, none⟩) n cap) l := by
  obtain ⟨A', cap', e, h1, h2, h3⟩ := h
  injection e with e1 e2 e3
  subst e1 e2 e3
  rcases h3 with ⟨e, _⟩ | ⟨b', off', e, hB, hlt, hat, hw⟩
  · cases e
  · cases e
    refine ⟨_, cap, rfl, h1, h2, .inr ⟨b, off, rfl, hB, ?_, fun i x hx c u hu => ?_, fun j hj => ?_⟩⟩
    · have hs := (below_setCells (B := 0) (a := w) (Nat.zero_le b) zs (off + k) w (Below.refl _ _)).size
      omega
    · have hi : i < l.length := (List.getElem?_eq_some_iff.1 hx).1
      have hc : c < E.z := by rw [← E.len x]; exact (List.getElem?_eq_some_iff.1 hu).1
      rw [World.cell?_setCells_out b _ _ _ _ (fun _ _ => .inl (by
        have : (i + 1) * E.z ≤ l.length * E.z := Nat.mul_le_mul_right _ hi
        rw [Nat.add_mul] at this
        show off + i * E.z + c < off + k
        omega))]
      exact hat i x hx c u hu
    · obtain ⟨k1, k2⟩ := hw j hj
      exact ⟨World.isSome_setCells b _ _ _ _ k1, by rw [World.frozen?_setCells]; exact k2⟩
end
end Go.Proofs.Ytlanbgpmmlnehaa
