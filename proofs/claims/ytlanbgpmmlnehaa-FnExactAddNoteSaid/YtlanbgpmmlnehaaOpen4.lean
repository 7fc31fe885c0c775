/- An argument that is a slice of notes, opened to its cells. -/
import Derived.Test.YtlanbgpmmlnehaaNote
import Derived.Deep.Slices
import Derived.Deep.Fields
import Derived.ChangeSame
import Derived.ProofKit
set_option linter.unusedSimpArgs false
set_option linter.unusedVariables false
set_option linter.unusedSectionVars false
namespace Go.Proofs.Ytlanbgpmmlnehaa
open Go.RowKit Go.ChangeShapes Go.WideShapes Go.Deep

/-- The number in a cell. -/
def valAt (w : World) (b off j : Nat) : Int := match w.cell? ⟨b, off + j, none⟩ with | some (.int _ z) => z | _ => 0
theorem valAt_eq {w : World} {b off j : Nat} {k : IntKind} {z : Int} (h : w.cell? ⟨b, off + j, none⟩ = some (.int k z)) : valAt w b off j = z := by
  unfold valAt; rw [h]
/-- The text in a cell. -/
def strAt (w : World) (b off j : Nat) : ByteArray := match w.cell? ⟨b, off + j, none⟩ with | some (.string z) => z | _ => ByteArray.empty
theorem strAt_eq {w : World} {b off j : Nat} {z : ByteArray} (h : w.cell? ⟨b, off + j, none⟩ = some (.string z)) : strAt w b off j = z := by
  unfold strAt; rw [h]

section
variable {H : Type} {enc : TypeId × Value → H} {P : Program} {w : World} {base : Nat} {spare : Nat → Bool} {held : Bool}
theorem open_sl4 {t e it st : TypeId} {f0 f1 f2 f3 : Field} {fuel : Nat} {c : Value} {x : DataW H × List MemPlace} (ht : P.underlying t = some (.slice e)) (he : P.underlying e = some (.struct #[f0, f1, f2, f3]))
    (hit : P.underlying it = some (.int .i64)) (hst : P.underlying st = some .string) (g0 : f0.type = it ∧ f0.offset = 0) (g1 : f1.type = it ∧ f1.offset = 1) (g2 : f2.type = st ∧ f2.offset = 2) (g3 : f3.type = it ∧ f3.offset = 3)
    (hC : P.cellsOf e = 4) (hk : P.cellsOf it = 1) (hk' : P.cellsOf st = 1)
    (h : DataW.trod enc P w base spare held fuel t [c] = some x) :
    ∃ (A : Option Addr) (cap : Nat) (l : List T4), c = .slice A l.length cap ∧ Sl4 w c l ∧ Txt l ∧ l.length ≤ cap ∧ cap ≤ maxLen := by
  rcases open_slice ht h with ⟨hcs, _⟩ | ⟨a, len, cap, m, n, D, Pl, hcs, hb, hl, hm, hmm, hx, hi⟩
  · simp at hcs
    subst hcs
    exact ⟨none, 0, [], rfl, ⟨none, 0, rfl, Nat.le_refl _, by unfold maxLen; omega, .inl rfl⟩, fun i hi => absurd hi (by simp), Nat.le_refl _, by unfold maxLen; omega⟩
  · simp at hcs
    subst hcs
    have hlm : len ≤ m := by rw [hmm]; split <;> omega
    rw [hC] at hi
    have key : ∀ i, i < len → (∃ z, w.cell? (a.add (i * 4 + 0)) = some (.int .i64 z)) ∧ (∃ z, w.cell? (a.add (i * 4 + 1)) = some (.int .i64 z)) ∧ (∃ z : ByteArray, w.cell? (a.add (i * 4 + 2)) = some (.string z) ∧ z.size ≤ maxLen) ∧ (∃ z, w.cell? (a.add (i * 4 + 3)) = some (.int .i64 z)) := by
      intro i hil
      obtain ⟨cs', hc, ht'⟩ := hi i (by omega)
      obtain ⟨ys, n', hn', hy, hlen, hyl, hf⟩ := DataW.trod_struct he ht'
      obtain ⟨_, hcl, hat⟩ := World.cells?_some hc
      have hat' : ∀ j, j < 4 → w.cell? (a.add (i * 4 + j)) = cs'[j]? := by
        intro j hj
        have h2 := hat j (by omega)
        rw [Go.Deep.add_add] at h2
        exact h2
      have hone : ∀ j (hj : j < 4), (cs'.drop j).take 1 = [cs'[j]'(by omega)] := by
        intro j hj
        rw [List.drop_eq_getElem_cons (by omega)]
        rfl
      have hys : ∀ j, j < 4 → ∃ y, ys[j]? = some y := fun j hj => ⟨_, List.getElem?_eq_getElem (by simp at hyl; omega)⟩
      have i0 : ∀ j f, j < 4 → (#[f0, f1, f2, f3] : Array Field)[j]? = some f → f.type = it → f.offset = j → ∃ z, w.cell? (a.add (i * 4 + j)) = some (.int .i64 z) := by
        intro j f hj hfj hft hfo
        have h1 := hf j f hfj
        rw [hfo, hft, hk, hone j hj] at h1
        obtain ⟨y, hy'⟩ := hys j hj
        rw [hy'] at h1
        obtain ⟨z, hz, _, _⟩ := DataW.trod_int hit h1
        simp at hz
        exact ⟨z, by rw [hat' j hj, List.getElem?_eq_getElem (by omega), hz]⟩
      refine ⟨i0 0 f0 (by omega) rfl g0.1 g0.2, i0 1 f1 (by omega) rfl g1.1 g1.2, ?_, i0 3 f3 (by omega) rfl g3.1 g3.2⟩
      have h1 := hf 2 f2 rfl
      rw [g2.2, g2.1, hk', hone 2 (by omega)] at h1
      obtain ⟨y, hy'⟩ := hys 2 (by omega)
      rw [hy'] at h1
      obtain ⟨z, hz, _, hzl⟩ := DataW.trod_string hst h1
      simp at hz
      exact ⟨z, by rw [hat' 2 (by omega), List.getElem?_eq_getElem (by omega), hz], hzl⟩
    by_cases h0 : len = 0
    · subst h0
      exact ⟨some a, cap, [], rfl, ⟨some a, cap, rfl, Nat.zero_le _, hm, .inl rfl⟩, fun i hi => absurd hi (by simp), Nat.zero_le _, hm⟩
    · obtain ⟨⟨z0, hz0⟩, _⟩ := key 0 (by omega)
      obtain ⟨b, off, spot⟩ := a
      have hspot : spot = none := by simpa [Addr.add] using World.cell?_spot hz0
      subst hspot
      have hadd : ∀ j, (⟨b, off, none⟩ : Addr).add j = ⟨b, off + j, none⟩ := by
        intro j
        by_cases hj : j = 0
        · subst hj; simp [Addr.add]
        · simp [Addr.add, hj]
      have hbl : b < w.heap.size := block_lt_of_cell hz0
      have hti : ∀ i, i < len → nt ((List.range len).map fun i => (valAt w b off (i * 4 + 0), valAt w b off (i * 4 + 1), strAt w b off (i * 4 + 2), valAt w b off (i * 4 + 3))) i = (valAt w b off (i * 4 + 0), valAt w b off (i * 4 + 1), strAt w b off (i * 4 + 2), valAt w b off (i * 4 + 3)) := by
        intro i hil
        unfold nt
        rw [List.getD_eq_getElem?_getD, List.getElem?_map, List.getElem?_range hil]; rfl
      refine ⟨some ⟨b, off, none⟩, cap, (List.range len).map fun i => (valAt w b off (i * 4 + 0), valAt w b off (i * 4 + 1), strAt w b off (i * 4 + 2), valAt w b off (i * 4 + 3)), by simp, ⟨some ⟨b, off, none⟩, cap, by simp, by simpa using hl, hm, .inr ⟨b, off, rfl, hbl, ?_⟩⟩, ?_, by simpa using hl, hm⟩
      · intro i hi'
        have hil : i < len := by simpa using hi'
        obtain ⟨⟨z0, e0⟩, ⟨z1, e1⟩, ⟨z2, e2, _⟩, ⟨z3, e3⟩⟩ := key i hil
        rw [hadd] at e0 e1 e2 e3
        rw [hti i hil, valAt_eq e0, valAt_eq e1, strAt_eq e2, valAt_eq e3]
        simp only [Nat.add_zero] at e0
        exact ⟨e0, by rw [Nat.add_assoc]; exact e1, by rw [Nat.add_assoc]; exact e2, by rw [Nat.add_assoc]; exact e3⟩
      · intro i hi'
        have hil : i < len := by simpa using hi'
        obtain ⟨_, _, ⟨z2, e2, hz⟩, _⟩ := key i hil
        rw [hadd] at e2
        rw [hti i hil, strAt_eq e2]
        exact hz
end
end Go.Proofs.Ytlanbgpmmlnehaa
