/- Regions that draw their order, by an invariant that is told which operations have come up: one goal an operation. -/
import Derived.Test.YtlanbgpmmlnehaaDraw
import Derived.Orders
set_option linter.unusedSimpArgs false
set_option linter.unusedVariables false
set_option linter.unusedSectionVars false
namespace Go.Proofs.Ytlanbgpmmlnehaa
open Go.RowKit

section
variable {P : Program} {ops : Array Oper} {Q : Exit → Act → World → Prop} {md : Region.Mode}
/-- i has come up, too. -/
def upd (L : Nat → Bool) (i : Nat) : Nat → Bool := fun j => if j = i then true else L j
@[simp] theorem upd_same (L : Nat → Bool) (i : Nat) : upd L i i = true := by simp [upd]
theorem upd_ne (L : Nat → Bool) {i j : Nat} (h : j ≠ i) : upd L i j = L j := by simp [upd, h]
/-- What an operation waits for stands ahead of it. -/
def backB (md : Region.Mode) (ops : Array Oper) : Bool := (List.range ops.size).all fun i => match ops[i]? with
  | some o => o.after.all fun e => !Region.binds md e || decide (e.on < i)
  | none => true
theorem backB_spec (h : backB md ops = true) {i : Nat} {o : Oper} (ho : ops[i]? = some o) : ∀ e ∈ o.after, Region.binds md e = true → e.on < i := by
  intro e he hb
  have hi : i < ops.size := (Array.getElem?_eq_some_iff.1 ho).1
  have h1 := List.all_eq_true.1 h i (List.mem_range.2 hi)
  simp only [ho] at h1
  have h2 := Array.all_eq_true_iff_forall_mem.1 h1 e he
  simp only [Bool.or_eq_true, Bool.not_eq_true', decide_eq_true_eq] at h2
  rcases h2 with h2 | h2
  · rw [hb] at h2; cases h2
  · exact h2
theorem all_listed {listed : Array Bool} (hB : backB md ops = true) (hs : listed.size = ops.size) (hr : Region.ready md ops listed = []) : ∀ i, i < ops.size → listed.getD i false = true := by
  intro i
  induction i using Nat.strongRecOn with
  | _ i ih =>
    intro hi
    cases hl : listed.getD i true with
    | true =>
      simp only [Array.getD_eq_getD_getElem?] at hl ⊢
      rw [Array.getElem?_eq_getElem (by omega)] at hl ⊢
      exact hl
    | false =>
      have : i ∈ Region.ready md ops listed := mem_ready.2 ⟨hl, ops[i], Array.getElem?_eq_getElem hi, fun e he hb => ih e.on (backB_spec hB (Array.getElem?_eq_getElem hi) e he hb) (Nat.lt_trans (backB_spec hB (Array.getElem?_eq_getElem hi) e he hb) hi)⟩
      rw [hr] at this
      cases this
/-- Operation i, whatever has come up of those that it does not wait for. -/
def Stp (P : Program) (md : Region.Mode) (ops : Array Oper) (Q : Exit → Act → World → Prop) (J : (Nat → Bool) → Act → World → Prop) (i : Nat) (o : Oper) : Prop :=
  ∀ L a w, L i = false → (o.after.all fun e => !Region.binds md e || L e.on) = true → J L a w → ∀ K, RowKit.Hid (∀ a w, J (upd L i) a w → K a w) →
    if Region.wanted o (yielded ops a.tmps) = true then o.wp P a w K Q else K (a.put o.dst undef) w
def Stps (P : Program) (md : Region.Mode) (ops : Array Oper) (Q : Exit → Act → World → Prop) (J : (Nat → Bool) → Act → World → Prop) (k : Nat) (l : List Oper) : Prop := ∀ i o, l[i]? = some o → Stp P md ops Q J (k + i) o
theorem Stps.nil {J : (Nat → Bool) → Act → World → Prop} {k : Nat} : Stps P md ops Q J k [] := fun i o h => by simp at h
theorem Stps.cons {J : (Nat → Bool) → Act → World → Prop} {k : Nat} {o : Oper} {l : List Oper} (h : Stp P md ops Q J k o) (h' : Stps P md ops Q J (k + 1) l) : Stps P md ops Q J k (o :: l) := fun i o' hi => by
  cases i with
  | zero => simp at hi; subst hi; exact h
  | succ i => simp at hi; rw [show k + (i + 1) = k + 1 + i from by omega]; exact h' i o' hi
def falses (l : Array Bool) : Nat := l.toList.countP (· = false)
theorem falses_set {l : Array Bool} {i : Nat} (h : l.getD i true = false) : falses (l.setIfInBounds i true) + 1 = falses l := by
  unfold falses
  obtain ⟨l⟩ := l
  simp only [List.setIfInBounds_toArray]
  simp only [Array.getD_eq_getD_getElem?, List.getElem?_toArray] at h
  induction l generalizing i with
  | nil => simp at h
  | cons b r ih =>
    cases i with
    | zero => simp at h; subst h; simp
    | succ i =>
      simp at h
      have := ih (i := i) (by simpa using h)
      simp only [List.set_cons_succ, List.countP_cons] at *
      omega
theorem falses_zero {l : Array Bool} (h : falses l = 0) {i : Nat} (hi : i < l.size) : l.getD i true = true := by
  have h0 : ∀ x ∈ l.toList, ¬ (decide (x = false) = true) := by
    rw [falses, List.countP_eq_zero] at h; exact h
  have := h0 l[i] (by simp)
  simp only [Array.getD_eq_getD_getElem?, Array.getElem?_eq_getElem hi, Option.getD_some]
  cases hx : l[i]
  · rw [hx] at this; simp at this
  · rfl
theorem wpAny_inv (hB : backB md ops = true) (J : (Nat → Bool) → Act → World → Prop) (hs : Stps P md ops Q J 0 ops.toList) (hd : ∀ L a w, (∀ i, i < ops.size → L i = true) → J L a w → Q .normal a w) :
    ∀ (fuel : Nat) (listed : Array Bool) (a : Act) (w : World), listed.size = ops.size → falses listed ≤ fuel → J (fun i => listed.getD i false) a w → wpAny P md ops Q fuel listed a w := by
  intro fuel
  induction fuel with
  | zero =>
    intro listed a w hz hf hJ
    have hr : Region.ready md ops listed = [] := by
      apply List.eq_nil_iff_forall_not_mem.2
      intro i hi
      obtain ⟨h0, o, ho, _⟩ := mem_ready.1 hi
      have hlt : i < ops.size := (Array.getElem?_eq_some_iff.1 ho).1
      rw [falses_zero (by omega) (by omega)] at h0
      cases h0
    exact ⟨hr, hd _ a w (all_listed hB hz hr) hJ⟩
  | succ fuel ih =>
    intro listed a w hz hf hJ
    refine ⟨fun hr => hd _ a w (all_listed hB hz hr) hJ, fun i hi => ?_⟩
    obtain ⟨h0, o, ho, hall⟩ := mem_ready.1 hi
    have hlt : i < ops.size := (Array.getElem?_eq_some_iff.1 ho).1
    have hlf : listed.getD i false = false := by
      simp only [Array.getD_eq_getD_getElem?] at h0 ⊢
      rw [Array.getElem?_eq_getElem (by omega)] at h0 ⊢
      exact h0
    have hst := hs i o (by rw [Array.getElem?_toList]; exact ho) (fun i => listed.getD i false) a w (by simpa using hlf)
      (Array.all_eq_true_iff_forall_mem.2 fun e he => by
        cases hb : Region.binds md e
        · simp
        · simpa using hall e he hb) hJ (wpAny P md ops Q fuel (listed.setIfInBounds i true))
      (fun a' w' hJ' => ih _ a' w' (by simp [hz]) (by have := falses_set h0; omega) (by
        have e : (fun j => (listed.setIfInBounds i true).getD j false) = upd (fun i => listed.getD i false) (0 + i) := by
          funext j
          rw [Nat.zero_add]
          by_cases hj : j = i
          · subst hj; simp [upd, show j < listed.size by omega]
          · rw [getD_set_ne false (Ne.symm hj), upd_ne _ hj]
        rw [e]; exact hJ'))
    unfold wpOp
    simp only [ho]
    split
    · rename_i hw; rw [if_pos hw] at hst; exact .inl hst
    · rename_i hw; rw [if_neg hw] at hst; exact hst
theorem falses_rep (n : Nat) : falses (Array.replicate n false) ≤ n := by
  unfold falses
  exact Nat.le_trans List.countP_le_length (by simp)
theorem wp_region_inv {id : Nat} {l : List Oper} {a : Act} {w : World} (hm : P.follows .mixedOrders = true) (hB : backB .any l.toArray = true) (J : (Nat → Bool) → Act → World → Prop)
    (h0 : J (fun _ => false) a w.drew) (hs : Stps P .any l.toArray Q J 0 l) (hd : ∀ L a w, (∀ i, i < l.length → L i = true) → J L a w → Q .normal a w) : (Code.region id l.toArray true).wp P Q a w :=
  wp_region_any hm (wpAny_inv hB J (by simpa using hs) (by simpa using hd) _ _ _ _ (by simp) (falses_rep _) (by
    have e : (fun i => (Array.replicate l.toArray.size false).getD i false) = fun _ => false := by
      funext i
      simp only [Array.getD_eq_getD_getElem?, Array.getElem?_replicate]
      split <;> rfl
    rw [e]; exact h0))
end

/-- The frame with other values in some slots. -/
def putsL : List Value → List Nat → List Value → List Value
  | l, s :: ss, u :: us => putsL (l.set s u) ss us
  | l, _, _ => l
def putsA (a : Act) (ss : List Nat) (us : List Value) : Act := { a with tmps := (putsL a.tmps.toList ss us).toArray }
theorem putsL_self : ∀ (ss : List Nat) (l : List Value), putsL l ss (ss.map fun s => l.getD s undef) = l
  | [], l => by cases l <;> rfl
  | s :: ss, l => by
    have e : l.set s (l.getD s undef) = l := by
      apply List.ext_getElem?
      intro k
      rw [List.getElem?_set]
      split
      · rename_i h
        subst h
        split
        · rename_i hk; simp [hk]
        · rename_i hk; rw [List.getElem?_eq_none (by omega)]
      · rfl
    rw [List.map_cons, putsL, e]
    exact putsL_self ss l
theorem puts_self (a : Act) (ss : List Nat) : a = putsA a ss (ss.map fun s => a.tmps.toList.getD s undef) := by
  unfold putsA
  rw [putsL_self]
theorem wp_region_put {P : Program} {Q : Exit → Act → World → Prop} {id : Nat} {l : List Oper} {a : Act} {w : World} (ss : List Nat) (F : (Nat → Bool) → List Value → World → Prop) (hm : P.follows .mixedOrders = true) (hB : backB .any l.toArray = true)
    (h0 : F (fun _ => false) (ss.map fun s => a.tmps.toList.getD s undef) w.drew) (hs : Stps P .any l.toArray Q (fun L a' w' => ∃ us, a' = putsA a ss us ∧ F L us w') 0 l)
    (hd : ∀ L us w, (∀ i, i < l.length → L i = true) → F L us w → Q .normal (putsA a ss us) w) : (Code.region id l.toArray true).wp P Q a w :=
  wp_region_inv hm hB _ ⟨_, puts_self a ss, h0⟩ hs fun L a' w' hL ⟨us, e, hF⟩ => by subst e; exact hd L us w' hL hF
theorem no_last {L : Nat → Bool} {n k : Nat} (hcl : L n = true → L k = true) (hi : L k = false) : L n = false := by
  cases h : L n
  · rfl
  · rw [hcl h] at hi; cases hi
theorem upd_of {L : Nat → Bool} {k i : Nat} (h : L k = true) : upd L i k = true := by
  unfold upd
  split
  · rfl
  · exact h
/-- A yes as a number. -/
def b2n (b : Bool) : Int := if b then 1 else 0

/-- w' is w, but for the reader's place, for draws and for new blocks. -/
structure Ev (R : Nat) (w w' : World) : Prop where
  size : w.heap.size ≤ w'.heap.size
  cell : ∀ b o, b < w.heap.size → b ≠ R → w'.cell? ⟨b, o, none⟩ = w.cell? ⟨b, o, none⟩
  frozen : ∀ b o, b < w.heap.size → w'.frozen? ⟨b, o, none⟩ = w.frozen? ⟨b, o, none⟩
theorem Ev.refl (R : Nat) (w : World) : Ev R w w := ⟨Nat.le_refl _, fun _ _ _ _ => rfl, fun _ _ _ => rfl⟩
theorem Ev.trans {R : Nat} {a b c : World} (h : Ev R a b) (k : Ev R b c) : Ev R a c :=
  ⟨Nat.le_trans h.size k.size, fun x o hx hr => (k.cell x o (Nat.lt_of_lt_of_le hx h.size) hr).trans (h.cell x o hx hr), fun x o hx => (k.frozen x o (Nat.lt_of_lt_of_le hx h.size)).trans (h.frozen x o hx)⟩
theorem Ev.below {R : Nat} {a b : World} (h : Below a.heap.size a b) : Ev R a b :=
  ⟨h.size, fun x o hx _ => h.cell (p := ⟨x, o, none⟩) hx, fun x o hx => h.frozen (p := ⟨x, o, none⟩) hx⟩
theorem Ev.set (R : Nat) (w : World) (v : Value) : Ev R w (w.setCell ⟨R, 1, none⟩ v) :=
  ⟨by simp, fun x o _ hr => World.cell?_setCell_other _ _ _ _ (fun e => hr (by cases e; rfl)), fun _ _ _ => World.frozen?_setCell _ _ _ _⟩
theorem Ev.draw {R d : Nat} {w : World} {v : Value} {os : Array Obj} : Ev R w (ext (w.setCell ⟨R, 1, none⟩ v) d os) := (Ev.set R w v).trans (Ev.below (below_ext _ _ _))
theorem Ev.pick {R d : Nat} {w0 w : World} {x v : Value} {os : Array Obj} (hR : R < w0.heap.size) (h : Below (w0.setCell ⟨R, 1, none⟩ x).heap.size (w0.setCell ⟨R, 1, none⟩ x) w) : Below (w0.setCell ⟨R, 1, none⟩ v).heap.size (w0.setCell ⟨R, 1, none⟩ v) (ext (w.setCell ⟨R, 1, none⟩ v) d os) := by
  obtain ⟨d', os', rfl⟩ := ext_of_below h
  rw [ext_setCell (by rw [size_setCell]; exact hR), setCell_twice, ext_ext]
  exact below_ext _ _ _
theorem Ev.alloc {R : Nat} {w : World} {o : Obj} : Ev R w (w.alloc o) := Ev.below (Below.alloc (Below.refl _ _) (Nat.le_refl _) _)
end Go.Proofs.Ytlanbgpmmlnehaa
