/- Mounts: the plain side; the closure of 'MountsValid', slices.IndexFunc and ContainsFunc on mounts. -/
import Derived.Test.YtaadobcfijegcaaDoorGen
import Derived.Test.YtaadobcfijegcaaDoorBelow2
set_option linter.unusedSimpArgs false
set_option linter.unusedVariables false
set_option linter.unusedSectionVars false
namespace Go.Proofs.YtaadobcfijegcaaDoor
open Go.RowKit

abbrev Mt := ByteArray × ByteArray
def EM : Lay Mt := ⟨2, by decide, fun x => [.string x.1, .string x.2], fun _ => rfl, fun _ u hu => by
  simp at hu
  rcases hu with h | h <;> rw [h] <;> rfl⟩
theorem fitM : Fit Tryd.prog EM 38 44 :=
  ⟨Tryd.underlying38, by
    have h : (Tryd.prog.info? 44).map (fun i => (i.zero, i.size, i.bytes)) = some (some (.agg #[.string ByteArray.empty, .string ByteArray.empty]), 2, 32) := by kernel_rfl
    obtain ⟨i, h1, h2, h3, h4⟩ := info_parts h
    exact ⟨i, _, _, h1, h2, h3, h4, rfl, by decide⟩⟩
def mt (l : List Mt) (i : Nat) : Mt := l.getD i (ByteArray.empty, ByteArray.empty)
theorem mt_at {l : List Mt} {i : Nat} (h : i < l.length) : l[i]? = some (mt l i) := by
  unfold mt
  rw [List.getD_eq_getElem?_getD, List.getElem?_eq_getElem h]; rfl
/-- The cells of element k. -/
theorem mnt_cells {w : World} {A : Option Addr} {n c k : Nat} {l : List Mt} (h : SlG EM w (.slice A n c) l) (hk : k < l.length) : ∃ b off, A = some ⟨b, off, none⟩ ∧ b < w.heap.size ∧ w.cell? ⟨b, off + k * 2, none⟩ = some (.string (mt l k).1) ∧ w.cell? ⟨b, off + k * 2 + 1, none⟩ = some (.string (mt l k).2) := by
  obtain ⟨b, off, e, hb, hc⟩ := h.at_ (mt_at hk)
  exact ⟨b, off, e, hb, hc 0 _ rfl, hc 1 _ rfl⟩
/-- Some mount has this text in At. -/
def hasAt (l : List Mt) (s : ByteArray) : Bool := l.any fun o => o.1.toList == s.toList
theorem hasAt_no {l : List Mt} {s : ByteArray} (h : ∀ i, i < l.length → ((mt l i).1.toList == s.toList) = false) : hasAt l s = false := by
  unfold hasAt
  rw [List.any_eq_false]
  intro x hx
  obtain ⟨i, hi, rfl⟩ := List.mem_iff_getElem.1 hx
  have := h i hi
  unfold mt at this
  rw [List.getD_eq_getElem?_getD, List.getElem?_eq_getElem hi] at this
  simpa using this
theorem hasAt_yes {l : List Mt} {s : ByteArray} {i : Nat} (hi : i < l.length) (h : ((mt l i).1.toList == s.toList) = true) : hasAt l s = true := by
  unfold hasAt
  rw [List.any_eq_true]
  refine ⟨l[i], List.getElem_mem hi, ?_⟩
  unfold mt at h
  rw [List.getD_eq_getElem?_getD, List.getElem?_eq_getElem hi] at h
  exact h
/-- A mount is right behind those ahead of it. -/
def mtOk (l : List Mt) (k : Nat) : Bool := okP (mt l k).1.data.toList && (okP (mt l k).2.data.toList && !(hasAt (l.take k) (mt l k).1))
def mountsB (l : List Mt) : Bool := (List.range l.length).all (mtOk l) && decide (l.length ≤ 6)
theorem mountsB_bad {l : List Mt} {k : Nat} (hk : k < l.length) (h : mtOk l k = false) : mountsB l = false := by
  unfold mountsB
  have : (List.range l.length).all (mtOk l) = false := by
    rw [List.all_eq_false]
    exact ⟨k, List.mem_range.2 hk, by rw [h]; exact Bool.false_ne_true⟩
  rw [this, Bool.false_and]
theorem mountsB_good {l : List Mt} (h : ∀ k, k < l.length → mtOk l k = true) : mountsB l = decide (l.length ≤ 6) := by
  unfold mountsB
  have : (List.range l.length).all (mtOk l) = true := by
    rw [List.all_eq_true]
    intro k hk
    exact h k (List.mem_range.1 hk)
  rw [this, Bool.true_and]
/-- The texts are no longer than a text can be. -/
def MTxt (l : List Mt) : Prop := ∀ i, i < l.length → (mt l i).1.size ≤ 1048576 ∧ (mt l i).2.size ≤ 1048576
set_option maxRecDepth 100000 in
theorem sameAt_any (x : Mt) (g : Nat) (s u : ByteArray) (w : World) (hg : g < w.heap.size) (c0 : w.cell? ⟨g, 0, none⟩ = some (.string s)) (c1 : w.cell? ⟨g, 1, none⟩ = some (.string u)) :
    Calls Tryd.prog 61 #[.agg #[.string x.1, .string x.2], .pointer (some ⟨g, 0, none⟩)] w fun e w' => e = .returned (.bool (x.1.toList == s.toList)) ∧ Below w.heap.size w w' := by
  go_enter Tryd.func61, Tryd.ntmps61
  go_wp2
  go_ret
  exact ⟨rfl, (by (repeat (first | exact Below.refl _ _ | exact Hbl.out | refine Below.ext ?_ (by first | omega | (simp; omega) | simp) | refine Below.setCell ?_ (by first | omega | (simp; omega) | simp) _ | refine Below.alloc ?_ (by first | omega | (simp; omega) | simp) _ | refine Below.drew ?_ | refine below_drewN ?_ _ | refine Below.step (by assumption) (by first | omega | (simp; omega) | simp) ?_)))⟩
set_option maxRecDepth 100000 in
set_option maxHeartbeats 1000000 in
theorem indexAt (v : Value) (l : List Mt) (w : World) (g : Nat) (s u : ByteArray) (h : SlG EM w v l) (hg : g < w.heap.size) (c0 : w.cell? ⟨g, 0, none⟩ = some (.string s)) (c1 : w.cell? ⟨g, 1, none⟩ = some (.string u)) :
    Calls Tryd.prog 73 #[v, .func (.func 61) #[] #[.pointer (some ⟨g, 0, none⟩)]] w fun e w' => (∃ r, e = .returned (.int .i64 r) ∧ decide (0 ≤ r) = hasAt l s) ∧ Below w.heap.size w w' := by
  have H := Lib.hid h
  obtain ⟨A, cap, rfl⟩ := h.shape
  have hcap := h.caps
  have hc1 := hcap.1
  have hc2 := hcap.2
  clear h hcap
  go_enter Tryd.func73, Tryd.ntmps73
  go_wp2
  go_loopw [8, 5] (fun i _ wr => ∃ k : Nat, k ≤ l.length ∧ i = .int .i64 k ∧ (∀ j, j < k → ((mt l j).1.toList == s.toList) = false) ∧ Below w.heap.size w wr) (fun i _ _ => l.length - (intOf i).toNat)
  case atStart => exact ⟨0, Nat.zero_le _, rfl, fun j hj => absurd hj (by omega), Below.refl _ _⟩
  case round =>
    obtain ⟨k, hk, rfl, hall, hbl⟩ := hrel
    have Hall := Lib.hid hall
    have Hbl := Lib.hid hbl
    have hwr : w.heap.size ≤ wr.heap.size := hbl.size
    clear hall hbl
    by_cases hlt : k < l.length
    · obtain ⟨b, off, rfl, hb, d0, d1⟩ := mnt_cells H.out hlt
      have e0 := (Hbl.out.cell (p := ⟨b, off + k * 2, none⟩) hb).trans d0
      have e1 := (Hbl.out.cell (p := ⟨b, off + k * 2 + 1, none⟩) hb).trans d1
      have k0 := (Hbl.out.cell (p := ⟨g, 0, none⟩) hg).trans c0
      have k1 := (Hbl.out.cell (p := ⟨g, 1, none⟩) hg).trans c1
      have hq := fun w hg c0 c1 => sameAt_any (mt l k) g s u w hg c0 c1
      cases hs : ((mt l k).1.toList == s.toList)
      · rw [hs] at hq
        have Hs := Lib.hid hs
        have Hq := Lib.hid hq
        clear hs hq
        go_wp2_with fail
        refine (Hq.out _ ?_ ?_ ?_).mono ?_
        · first | omega | (simp; omega)
        · first | assumption | go_simp
        · first | assumption | go_simp
        rintro e w2 ⟨rfl, b2⟩
        have b2' : Below w.heap.size w w2 := Below.step b2 (by first | omega | simp | (simp; omega)) (by (repeat (first | exact Below.refl _ _ | exact Hbl.out | refine Below.ext ?_ (by first | omega | (simp; omega) | simp) | refine Below.setCell ?_ (by first | omega | (simp; omega) | simp) _ | refine Below.alloc ?_ (by first | omega | (simp; omega) | simp) _ | refine Below.drew ?_ | refine below_drewN ?_ _ | refine Below.step (by assumption) (by first | omega | (simp; omega) | simp) ?_)))
        clear b2
        go_wp2
        go_roundw
        case rel => exact ⟨k + 1, by omega, by go_num, fun j hj => by
          by_cases e : j = k
          · subst e; exact Hs.out
          · exact Hall.out j (by omega), b2'⟩
        case measure => simp [intOf]; omega
      · have hb' : hasAt l s = true := hasAt_yes hlt hs
        rw [hs] at hq
        have Hb := Lib.hid hb'
        have Hq := Lib.hid hq
        clear hs hq hb'
        go_wp2_with fail
        refine (Hq.out _ ?_ ?_ ?_).mono ?_
        · first | omega | (simp; omega)
        · first | assumption | go_simp
        · first | assumption | go_simp
        rintro e w2 ⟨rfl, b2⟩
        have b2' : Below w.heap.size w w2 := Below.step b2 (by first | omega | simp | (simp; omega)) (by (repeat (first | exact Below.refl _ _ | exact Hbl.out | refine Below.ext ?_ (by first | omega | (simp; omega) | simp) | refine Below.setCell ?_ (by first | omega | (simp; omega) | simp) _ | refine Below.alloc ?_ (by first | omega | (simp; omega) | simp) _ | refine Below.drew ?_ | refine below_drewN ?_ _ | refine Below.step (by assumption) (by first | omega | (simp; omega) | simp) ?_)))
        clear b2
        go_wp2
        go_ret
        exact ⟨⟨_, rfl, by rw [Hb.out]; simp⟩, b2'⟩
    · have hb : hasAt l s = false := hasAt_no (fun i hi => Hall.out i (by omega))
      have Hb := Lib.hid hb; clear hb
      go_wp2
      go_ret
      exact ⟨⟨_, rfl, by rw [Hb.out]; rfl⟩, Hbl.out⟩
theorem containsAt (v : Value) (l : List Mt) (w : World) (g : Nat) (s u : ByteArray) (h : SlG EM w v l) (hg : g < w.heap.size) (c0 : w.cell? ⟨g, 0, none⟩ = some (.string s)) (c1 : w.cell? ⟨g, 1, none⟩ = some (.string u)) :
    Calls Tryd.prog 60 #[v, .func (.func 61) #[] #[.pointer (some ⟨g, 0, none⟩)]] w fun e w' => e = .returned (.bool (hasAt l s)) ∧ Below w.heap.size w w' := by
  have h1 := indexAt v l w g s u h hg c0 c1
  obtain ⟨A, cap, rfl⟩ := h.shape
  clear h
  go_enter Tryd.func60, Tryd.ntmps60
  go_wp2_with fail
  refine h1.mono ?_
  rintro e w1 ⟨⟨r, rfl, hr⟩, b1⟩
  go_wp2
  go_ret
  exact ⟨by rw [← hr]; rfl, b1⟩
end Go.Proofs.YtaadobcfijegcaaDoor
