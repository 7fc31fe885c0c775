/- An argument that is a slice of structs of three ints, opened to its cells. -/
import Derived.Test.YtffppecflamcgaaSl
import Derived.Deep.Slices
import Derived.Deep.Fields
import Derived.ChangeSame
import Derived.ProofKit
set_option linter.unusedSimpArgs false
set_option linter.unusedVariables false
set_option linter.unusedSectionVars false
namespace Go.Proofs.Ytffppecflamcgaa
open Go.RowKit Go.ChangeShapes Go.WideShapes Go.Deep

/-- The number in a cell. -/
def valAt (w : World) (b off j : Nat) : Int := match w.cell? ⟨b, off + j, none⟩ with | some (.int _ z) => z | _ => 0
theorem valAt_eq {w : World} {b off j : Nat} {k : IntKind} {z : Int} (h : w.cell? ⟨b, off + j, none⟩ = some (.int k z)) : valAt w b off j = z := by
  unfold valAt; rw [h]

section
variable {H : Type} {enc : TypeId × Value → H} {P : Program} {w : World} {base : Nat} {spare : Nat → Bool} {held : Bool}
theorem open_sl3 {t e it : TypeId} {fs : Array Field} {fuel len cap : Nat} {A : Option Addr} {x : DataW H × List MemPlace} (ht : P.underlying t = some (.slice e)) (he : P.underlying e = some (.struct fs))
    (hit : P.underlying it = some (.int .i64)) (hfs : fs.size = 3) (hf0 : ∀ j, j < 3 → ∃ f, fs[j]? = some f ∧ f.type = it ∧ f.offset = j) (hC : P.cellsOf e = 3) (hk : P.cellsOf it = 1)
    (h : DataW.trod enc P w base spare held fuel t [.slice A len cap] = some x) :
    ∃ l : List (Int × Int × Int), l.length = len ∧ Sl3 w (.slice A len cap) l := by
  rcases open_slice ht h with ⟨hcs, _⟩ | ⟨a, len', cap', m, n, D, Pl, hcs, hb, hl, hm, hmm, hx, hi⟩
  · simp at hcs
    obtain ⟨rfl, rfl, rfl⟩ := hcs
    exact ⟨[], rfl, none, 0, rfl, Nat.le_refl _, by unfold maxLen; omega, .inl rfl⟩
  · simp at hcs
    obtain ⟨rfl, rfl, rfl⟩ := hcs
    have hlm : len ≤ m := by rw [hmm]; split <;> omega
    rw [hC] at hi
    have key : ∀ i, i < len → ∀ j, j < 3 → ∃ z, w.cell? (a.add (i * 3 + j)) = some (.int .i64 z) := by
      intro i hil j hj
      obtain ⟨cs', hc, ht'⟩ := hi i (by omega)
      obtain ⟨ys, n', hn', hy, hlen, hyl, hf⟩ := DataW.trod_struct he ht'
      obtain ⟨_, hcl, hat⟩ := World.cells?_some hc
      obtain ⟨f, hfj, hft, hfo⟩ := hf0 j hj
      have h1 := hf j f hfj
      rw [hfo, hft, hk] at h1
      have hone : (cs'.drop j).take 1 = [cs'[j]'(by omega)] := by
        rw [List.drop_eq_getElem_cons (by omega)]
        rfl
      rw [hone] at h1
      have hys : ∃ y, ys[j]? = some y := ⟨_, List.getElem?_eq_getElem (by omega)⟩
      obtain ⟨y, hy'⟩ := hys
      rw [hy'] at h1
      obtain ⟨z, hz, _, _⟩ := DataW.trod_int hit h1
      simp at hz
      refine ⟨z, ?_⟩
      have h2 := hat j (by omega)
      rw [Go.Deep.add_add] at h2
      rw [h2, List.getElem?_eq_getElem (by omega), hz]
    by_cases h0 : len = 0
    · subst h0
      exact ⟨[], rfl, some a, cap, rfl, Nat.zero_le _, hm, .inl rfl⟩
    · obtain ⟨z0, hz0⟩ := key 0 (by omega) 0 (by omega)
      obtain ⟨b, off, spot⟩ := a
      have hspot : spot = none := by simpa [Addr.add] using World.cell?_spot hz0
      subst hspot
      have hadd : ∀ j, (⟨b, off, none⟩ : Addr).add j = ⟨b, off + j, none⟩ := by
        intro j
        by_cases hj : j = 0
        · subst hj; simp [Addr.add]
        · simp [Addr.add, hj]
      have hbl : b < w.heap.size := block_lt_of_cell hz0
      refine ⟨(List.range len).map fun i => (valAt w b off (i * 3), valAt w b off (i * 3 + 1), valAt w b off (i * 3 + 2)), by simp, some ⟨b, off, none⟩, cap, by simp, by simpa using hl, hm, .inr ⟨b, off, rfl, hbl, ?_⟩⟩
      intro i hi'
      have hil : i < len := by simpa using hi'
      have hti : ti ((List.range len).map fun i => (valAt w b off (i * 3), valAt w b off (i * 3 + 1), valAt w b off (i * 3 + 2))) i = (valAt w b off (i * 3), valAt w b off (i * 3 + 1), valAt w b off (i * 3 + 2)) := by
        unfold ti
        rw [List.getD_eq_getElem?_getD, List.getElem?_map, List.getElem?_range hil]; rfl
      obtain ⟨z0, e0⟩ := key i hil 0 (by omega)
      obtain ⟨z1, e1⟩ := key i hil 1 (by omega)
      obtain ⟨z2, e2⟩ := key i hil 2 (by omega)
      rw [hadd] at e0 e1 e2
      simp only [Nat.add_zero] at e0
      rw [hti, valAt_eq e0, valAt_eq (j := i * 3 + 1) (by rw [← Nat.add_assoc]; exact e1), valAt_eq (j := i * 3 + 2) (by rw [← Nat.add_assoc]; exact e2)]
      exact ⟨e0, by rw [Nat.add_assoc]; exact e1, by rw [Nat.add_assoc]; exact e2⟩
end
end Go.Proofs.Ytffppecflamcgaa
