/- ChangeMode and GiveNode: the plain side, and the trees of the call's own in which they write. -/
import Derived.Test.YthfneaaenlgegaaGreatDoorFindP
import Derived.Test.YthfneaaenlgegaaGreatDoorMG
set_option linter.unusedSimpArgs false
set_option linter.unusedVariables false
set_option linter.unusedSectionVars false
namespace Go.Proofs.YthfneaaenlgegaaGreatDoor
open Go.RowKit

def moN (x : Nd) (m : Int) : Nd := { x with mo := m }
def ogN (x : Nd) (o g : Int) : Nd := { x with ow := o, gr := g }
/-- The mode of the node at a path is another one. -/
def modeF (t : List Nd) (a b c d : Int) (s : List UInt8) (m : Int) : List Nd × Int :=
  if inB m 0 1023 = false then ([], 1) else if ¬ (findF t a b c d s).2 = 0 then ([], (findF t a b c d s).2)
  else if ¬ b = 0 ∧ ¬ b = (kth t (findF t a b c d s).1.toNat).ow then ([], 3) else (t.set (findF t a b c d s).1.toNat (moN (kth t (findF t a b c d s).1.toNat) m), 0)
/-- Who may not give the node x to o and g. -/
def noGive (b d o g : Int) (x : Nd) : Bool := b != 0 && (b != x.ow || (o != x.ow || (g != x.gr && !groupB d g)))
/-- The node at a path has another owner and another group. -/
def giveF (t : List Nd) (a b c d : Int) (s : List UInt8) (o g : Int) : List Nd × Int :=
  if (inB o 0 99 && inB g 0 7) = false then ([], 1) else if ¬ (findF t a b c d s).2 = 0 then ([], (findF t a b c d s).2)
  else if noGive b d o g (kth t (findF t a b c d s).1.toNat) = true then ([], 3) else (t.set (findF t a b c d s).1.toNat (ogN (kth t (findF t a b c d s).1.toNat) o g), 0)
theorem mode_head {x : Nd} {m : Int} (h : headB x = true) (hm : inB m 0 1023 = true) : headB (moN x m) = true := by
  unfold headB at h ⊢
  simp only [Bool.and_eq_true] at h ⊢
  exact ⟨h.1, h.2.1, hm, h.2.2.2⟩
theorem give_head {x : Nd} {o g : Int} (h : headB x = true) (ho : inB o 0 99 = true) (hg : inB g 0 7 = true) : headB (ogN x o g) = true := by
  unfold headB at h ⊢
  simp only [Bool.and_eq_true] at h ⊢
  exact ⟨ho, hg, h.2.2⟩
section
variable {B g n cap k : Nat} {w : World} {cs : List Cn} {t : List Nd}
theorem TreeC.mode {m : Int} (h : TreeC B w (.slice (some ⟨g, 0, none⟩) n cap) cs t) (hk : k < t.length) :
    ∃ cs', TreeC B (w.setCell ⟨g, k * 7 + 3, none⟩ (.int .i64 m)) (.slice (some ⟨g, 0, none⟩) n cap) cs' (t.set k (moN (kth t k) m)) := by
  obtain ⟨c0, _, _, _, _, hc0, hn, _⟩ := h.at_ hk
  refine h.head (y := moN (kth t k) m) hk (by decide) ⟨rfl, rfl, hn.sz⟩ (fun c hc => ?_)
  have hn := h.nds k c _ hc (kth_at hk)
  show EC.put { c with fo := (kth t k).fo, ow := (kth t k).ow, gr := (kth t k).gr, mo := m, tx := (kth t k).tx } = _
  rw [← hn.fo, ← hn.ow, ← hn.gr, ← hn.tx]
  rfl
theorem TreeC.owner {o : Int} (h : TreeC B w (.slice (some ⟨g, 0, none⟩) n cap) cs t) (hk : k < t.length) :
    ∃ cs', TreeC B (w.setCell ⟨g, k * 7 + 1, none⟩ (.int .i64 o)) (.slice (some ⟨g, 0, none⟩) n cap) cs' (t.set k (ogN (kth t k) o (kth t k).gr)) := by
  obtain ⟨c0, _, _, _, _, hc0, hn, _⟩ := h.at_ hk
  refine h.head (y := ogN (kth t k) o (kth t k).gr) hk (by decide) ⟨rfl, rfl, hn.sz⟩ (fun c hc => ?_)
  have hn := h.nds k c _ hc (kth_at hk)
  show EC.put { c with fo := (kth t k).fo, ow := o, gr := (kth t k).gr, mo := (kth t k).mo, tx := (kth t k).tx } = _
  rw [← hn.fo, ← hn.mo, ← hn.gr, ← hn.tx]
  rfl
theorem TreeC.group {o z : Int} (h : TreeC B w (.slice (some ⟨g, 0, none⟩) n cap) cs (t.set k (ogN (kth t k) o (kth t k).gr))) (hk : k < t.length) :
    ∃ cs', TreeC B (w.setCell ⟨g, k * 7 + 2, none⟩ (.int .i64 z)) (.slice (some ⟨g, 0, none⟩) n cap) cs' (t.set k (ogN (kth t k) o z)) := by
  have hk' : k < (t.set k (ogN (kth t k) o (kth t k).gr)).length := by rw [List.length_set]; exact hk
  have he : kth (t.set k (ogN (kth t k) o (kth t k).gr)) k = ogN (kth t k) o (kth t k).gr := by
    have := kth_set (ex := []) (y := ogN (kth t k) o (kth t k).gr) hk hk
    rw [List.append_nil, if_pos rfl] at this
    exact this
  obtain ⟨c0, _, _, _, _, hc0, hn, _⟩ := h.at_ hk'
  have hsz := hn.sz
  rw [he] at hsz
  have := h.head (y := ogN (kth t k) o z) (j := 2) (u := .int .i64 z) hk' (by decide) ⟨by rw [he]; rfl, by rw [he]; rfl, hsz⟩ (fun c hc => by
    have hn := h.nds k c _ hc (kth_at hk')
    rw [he] at hn
    show EC.put { c with fo := (kth t k).fo, ow := o, gr := z, mo := (kth t k).mo, tx := (kth t k).tx } = _
    have e1 : c.fo = (kth t k).fo := hn.fo
    have e2 : c.ow = o := hn.ow
    have e3 : c.mo = (kth t k).mo := hn.mo
    have e4 : c.tx = (kth t k).tx := hn.tx
    rw [← e1, ← e2, ← e3, ← e4]
    rfl)
  rwa [List.set_set] at this
end
end Go.Proofs.YthfneaaenlgegaaGreatDoor
