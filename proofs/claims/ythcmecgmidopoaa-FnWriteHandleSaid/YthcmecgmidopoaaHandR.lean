/- Reading through a handle, in the package and in the reference. -/
import Derived.Test.YthcmecgmidopoaaHand
import Derived.Test.YthcmecgmidopoaaTake
set_option linter.unusedSimpArgs false
set_option linter.unusedVariables false
set_option linter.unusedSectionVars false
namespace Go.Proofs.Ythcmecgmidopoaa
open Go.RowKit

def rdRest (tx : ByteArray) (a : Int) : ByteArray := tx.extract a.toNat tx.size
def rdT (tx : ByteArray) (a many : Int) : ByteArray := if many < ((rdRest tx a).size : Int) then (rdRest tx a).extract 0 many.toNat else rdRest tx a
def rdOk (t : List Nd) (f a r many : Int) : Bool := hOk t f a r && (decide (0 ≤ many) && (!(bits .and .i64 r 4 == 0) && decide (a ≤ ((kth t f.toNat).tx.size : Int))))
def rdF (t : List Nd) (f a r many : Int) : ByteArray × Int := if rdOk t f a r many = true then (rdT (kth t f.toNat).tx a many, a + ((rdT (kth t f.toNat).tx a many).size : Int)) else (⟨#[]⟩, a)
theorem hOk_in {t : List Nd} {f a r : Int} (h : hOk t f a r = true) : treeB t = true ∧ 0 ≤ f ∧ f < (t.length : Int) ∧ (kth t f.toNat).fo = false ∧ 0 ≤ a ∧ a ≤ 40 ∧ 0 ≤ r ∧ r ≤ 7 := by
  unfold hOk at h
  simp only [Bool.and_eq_true, Bool.not_eq_true'] at h
  obtain ⟨h1, h2, h3, h4, h5⟩ := h
  have := inB_iffL.1 h2
  have := inB_iffL.1 h4
  have := inB_iffL.1 h5
  exact ⟨h1, by omega, by omega, h3, by omega, by omega, by omega, by omega⟩
theorem rd_no {t : List Nd} {f a r many : Int} (h : rdOk t f a r many = false) : rdF t f a r many = (⟨#[]⟩, a) := by unfold rdF; rw [h]; rfl
theorem rest_size {tx : ByteArray} {a : Int} (h0 : 0 ≤ a) (h1 : a ≤ (tx.size : Int)) : (rdRest tx a).size = tx.size - a.toNat := by
  unfold rdRest
  rw [ByteArray.size_extract]
  omega
theorem rdT_le {tx : ByteArray} {a many : Int} (hm : 0 ≤ many) (h0 : 0 ≤ a) (h1 : a ≤ (tx.size : Int)) (h : many ≤ ((tx.size - a.toNat : Nat) : Int)) : rdT tx a many = (tx.extract a.toNat tx.size).extract 0 many.toNat ∧ ((rdT tx a many).size : Int) = many := by
  have e : rdT tx a many = (tx.extract a.toNat tx.size).extract 0 many.toNat := by
    unfold rdT
    rw [rest_size h0 h1]
    split
    · rfl
    · have : many.toNat = (rdRest tx a).size := by rw [rest_size h0 h1]; omega
      rw [this]
      exact (ByteArray.extract_zero_size).symm
  refine ⟨e, ?_⟩
  rw [e, ByteArray.size_extract]
  have := rest_size h0 h1
  unfold rdRest at this
  omega
theorem set3 {w : World} {g : Nat} {u0 u1 u2 v0 v1 v2 : Value} (z0 : w.cell? ⟨g, 0, none⟩ = some u0) (z1 : w.cell? ⟨g, 1, none⟩ = some u1) (z2 : w.cell? ⟨g, 2, none⟩ = some u2) :
    (((w.setCell ⟨g, 0, none⟩ v0).setCell ⟨g, 1, none⟩ v1).setCell ⟨g, 2, none⟩ v2).drew.cell? ⟨g, 0, none⟩ = some v0 ∧ (((w.setCell ⟨g, 0, none⟩ v0).setCell ⟨g, 1, none⟩ v1).setCell ⟨g, 2, none⟩ v2).drew.cell? ⟨g, 1, none⟩ = some v1 ∧ (((w.setCell ⟨g, 0, none⟩ v0).setCell ⟨g, 1, none⟩ v1).setCell ⟨g, 2, none⟩ v2).drew.cell? ⟨g, 2, none⟩ = some v2 := by
  have n : ∀ i j : Nat, i ≠ j → (⟨g, i, none⟩ : Addr) ≠ ⟨g, j, none⟩ := fun i j h e => h (by cases e; rfl)
  have d : ∀ (u : World) (x : Addr), u.drew.cell? x = u.cell? x := fun _ _ => rfl
  rw [d, d, d]
  refine ⟨?_, ?_, ?_⟩
  · rw [World.cell?_setCell_other _ _ _ _ (n 2 0 (by decide)), World.cell?_setCell_other _ _ _ _ (n 1 0 (by decide))]; exact World.cell?_setCell_same _ _ _ z0
  · rw [World.cell?_setCell_other _ _ _ _ (n 2 1 (by decide))]; exact World.cell?_setCell_same _ _ _ (by rw [World.cell?_setCell_other _ _ _ _ (n 0 1 (by decide))]; exact z1)
  · exact World.cell?_setCell_same _ _ _ (by rw [World.cell?_setCell_other _ _ _ _ (n 1 2 (by decide)), World.cell?_setCell_other _ _ _ _ (n 0 2 (by decide))]; exact z2)
theorem rdT_ge {tx : ByteArray} {a many : Int} (hm : 0 ≤ many) (h0 : 0 ≤ a) (h1 : a ≤ (tx.size : Int)) (h : ((tx.size - a.toNat : Nat) : Int) ≤ many) : rdT tx a many = tx.extract a.toNat tx.size ∧ ((rdT tx a many).size : Int) = ((tx.size - a.toNat : Nat) : Int) := by
  have e : rdT tx a many = tx.extract a.toNat tx.size := by
    unfold rdT
    rw [rest_size h0 h1, if_neg (by omega)]
    rfl
  have e2 := rest_size h0 h1
  unfold rdRest at e2
  exact ⟨e, by rw [e, e2]⟩
theorem rdT_gt {tx : ByteArray} {a many : Int} (hm : 0 ≤ many) (h0 : 0 ≤ a) (h1 : a ≤ (tx.size : Int)) (h : ((tx.size - a.toNat : Nat) : Int) < many) : rdT tx a many = (tx.extract a.toNat tx.size).extract 0 (tx.size - a.toNat) ∧ ((rdT tx a many).size : Int) = ((tx.size - a.toNat : Nat) : Int) := by
  have e : rdT tx a many = tx.extract a.toNat tx.size := by
    unfold rdT
    rw [rest_size h0 h1, if_neg (by omega)]
    rfl
  have e2 := rest_size h0 h1
  unfold rdRest at e2
  refine ⟨?_, ?_⟩
  · rw [e, ← e2]
    exact (ByteArray.extract_zero_size).symm
  · rw [e, e2]
set_option maxRecDepth 100000 in
set_option maxHeartbeats 4000000 in
theorem rdI_of (v : Value) (t : List Nd) (f a r many : Int) (w : World) (h : TreeR w v t) (ht : t.length ≤ 1000) (hkz : (kidsOf t).length ≤ 1000000) :
    Calls Try.prog 26 #[v, .agg #[.int .i64 f, .int .i64 a, .int .i64 r], .int .i64 many] w fun e w' => e = .returned (.tuple #[.string (rdF t f a r many).1, .agg #[.int .i64 f, .int .i64 (rdF t f a r many).2, .int .i64 r]]) ∧ Below w.heap.size w w' := by
  have hV := fun w h => hvI_of v t f a r w h ht hkz
  have H := Lib.hid h
  obtain ⟨A, cap, rfl⟩ := h.shape
  have hcap := h.caps
  clear h
  rcases and4 (hOk t f a r) (decide (0 ≤ many)) (!(bits .and .i64 r 4 == 0)) (decide (a ≤ ((kth t f.toNat).tx.size : Int))) with g1 | ⟨g1, g2⟩ | ⟨g1, g2, g3⟩ | ⟨g1, g2, g3, g4⟩ | ⟨g1, g2, g3, g4⟩
  · rw [rd_no (show rdOk t f a r many = false by unfold rdOk; rw [g1]; rfl)]
    rw [g1] at hV
    have HV := Lib.hid hV
    clear hV g1
    go_enter Try.func26, Try.ntmps26
    go_wp2
    refine wp_region_held_drew (S := (fun w' => w'.cell? ⟨w.heap.size, 0, none⟩ = some (.int .i64 f) ∧ w'.cell? ⟨w.heap.size, 1, none⟩ = some (.int .i64 a) ∧ w'.cell? ⟨w.heap.size, 2, none⟩ = some (.int .i64 r))) (by kernel_rfl) ?_ (fun hHeld => ?_)
    · (try dsimp only)
      go_simp
    refine tkW (i := 0) (v := ?_) rfl (by kernel_rfl) (by kernel_rfl) (fun _ _ _ h => h) ?_ (by assumption) ?_; rotate_left; (focus (intro w hSw; (try dsimp only at hSw); go_simp; try with_reducible rfl))
    try simp only [Act.put, List.getElem_toArray, List.getElem_cons_succ, List.getElem_cons_zero, List.setIfInBounds_toArray, List.set_cons_zero, List.set_cons_succ]
    refine tkW (i := 1) (v := ?_) rfl (by kernel_rfl) (by kernel_rfl) (fun _ _ _ h => h) ?_ (by assumption) ?_; rotate_left; (focus (intro w hSw; (try dsimp only at hSw); go_simp; try with_reducible rfl))
    try simp only [Act.put, List.getElem_toArray, List.getElem_cons_succ, List.getElem_cons_zero, List.setIfInBounds_toArray, List.set_cons_zero, List.set_cons_succ]
    refine wpAnyH_ready (rs := [2]) (by kernel_rfl) (by simp) ?_
    refine AllReadyH.cons rfl (fun K hK => ?_) AllReadyH.nil
    go_simp
    (go_at_call 49; refine (HV.out _ (H.out.below ?_)).mono ?_; (focus ((repeat (first | exact Below.refl _ _ | exact Hbl.out | refine Below.ext ?_ (by first | omega | (simp; omega) | simp) | refine Below.setCell ?_ (by first | omega | (simp; omega) | simp) _ | refine Below.alloc ?_ (by first | omega | (simp; omega) | simp) _ | refine Below.drew ?_ | refine below_drewN ?_ _ | refine Below.step (by assumption) (by first | omega | (simp; omega) | simp) ?_)))); rintro e w2 ⟨rfl, b2⟩; obtain ⟨d2, os2, rfl⟩ := ext_of_below b2; clear b2)
    refine hK.out _ _ ?_ (fun hHeld => ?_)
    · (try dsimp only)
      go_simp
    clear hK K
    try simp only [Act.put, List.getElem_toArray, List.getElem_cons_succ, List.getElem_cons_zero, List.setIfInBounds_toArray, List.set_cons_zero, List.set_cons_succ]
    refine tkW (i := 3) (v := ?_) rfl (by kernel_rfl) (by kernel_rfl) (fun _ _ _ h => h) ?_ (by assumption) ?_; rotate_left; (focus (intro w hSw; (try dsimp only at hSw); go_simp; try with_reducible rfl))
    try simp only [Act.put, List.getElem_toArray, List.getElem_cons_succ, List.getElem_cons_zero, List.setIfInBounds_toArray, List.set_cons_zero, List.set_cons_succ]
    refine tkW (i := 4) (v := ?_) rfl (by kernel_rfl) (by kernel_rfl) (fun _ _ _ h => h) ?_ (by assumption) ?_; rotate_left; (focus (intro w hSw; (try dsimp only at hSw); go_simp; try with_reducible rfl))
    try simp only [Act.put, List.getElem_toArray, List.getElem_cons_succ, List.getElem_cons_zero, List.setIfInBounds_toArray, List.set_cons_zero, List.set_cons_succ]
    refine tkN (i := 5) rfl (by kernel_rfl) (by kernel_rfl) (fun _ _ _ h => h) (by assumption) ?_
    try simp only [Act.put, List.getElem_toArray, List.getElem_cons_succ, List.getElem_cons_zero, List.setIfInBounds_toArray, List.set_cons_zero, List.set_cons_succ]
    refine tkN (i := 6) rfl (by kernel_rfl) (by kernel_rfl) (fun _ _ _ h => h) (by assumption) ?_
    try simp only [Act.put, List.getElem_toArray, List.getElem_cons_succ, List.getElem_cons_zero, List.setIfInBounds_toArray, List.set_cons_zero, List.set_cons_succ]
    refine tkW (i := 7) (v := ?_) rfl (by kernel_rfl) (by kernel_rfl) (fun _ _ _ h => h) ?_ (by assumption) ?_; rotate_left; (focus (intro w hSw; (try dsimp only at hSw); go_simp; try with_reducible rfl))
    try simp only [Act.put, List.getElem_toArray, List.getElem_cons_succ, List.getElem_cons_zero, List.setIfInBounds_toArray, List.set_cons_zero, List.set_cons_succ]
    refine tkW (i := 8) (v := ?_) rfl (by kernel_rfl) (by kernel_rfl) (fun _ _ _ h => h) ?_ (by assumption) ?_; rotate_left; (focus (intro w hSw; (try dsimp only at hSw); go_simp; try with_reducible rfl))
    try simp only [Act.put, List.getElem_toArray, List.getElem_cons_succ, List.getElem_cons_zero, List.setIfInBounds_toArray, List.set_cons_zero, List.set_cons_succ]
    refine tkN (i := 9) rfl (by kernel_rfl) (by kernel_rfl) (fun _ _ _ h => h) (by assumption) ?_
    try simp only [Act.put, List.getElem_toArray, List.getElem_cons_succ, List.getElem_cons_zero, List.setIfInBounds_toArray, List.set_cons_zero, List.set_cons_succ]
    refine tkN (i := 10) rfl (by kernel_rfl) (by kernel_rfl) (fun _ _ _ h => h) (by assumption) ?_
    try simp only [Act.put, List.getElem_toArray, List.getElem_cons_succ, List.getElem_cons_zero, List.setIfInBounds_toArray, List.set_cons_zero, List.set_cons_succ]
    refine tkN (i := 11) rfl (by kernel_rfl) (by kernel_rfl) (fun _ _ _ h => h) (by assumption) ?_
    try simp only [Act.put, List.getElem_toArray, List.getElem_cons_succ, List.getElem_cons_zero, List.setIfInBounds_toArray, List.set_cons_zero, List.set_cons_succ]
    refine tkN (i := 12) rfl (by kernel_rfl) (by kernel_rfl) (fun _ _ _ h => h) (by assumption) ?_
    try simp only [Act.put, List.getElem_toArray, List.getElem_cons_succ, List.getElem_cons_zero, List.setIfInBounds_toArray, List.set_cons_zero, List.set_cons_succ]
    refine tkW (i := 13) (v := ?_) rfl (by kernel_rfl) (by kernel_rfl) (fun _ _ _ h => h) ?_ (by assumption) ?_; rotate_left; (focus (intro w hSw; (try dsimp only at hSw); go_simp; try with_reducible rfl))
    try simp only [Act.put, List.getElem_toArray, List.getElem_cons_succ, List.getElem_cons_zero, List.setIfInBounds_toArray, List.set_cons_zero, List.set_cons_succ]
    refine tkW (i := 14) (v := ?_) rfl (by kernel_rfl) (by kernel_rfl) (fun _ _ _ h => h) ?_ (by assumption) ?_; rotate_left; (focus (intro w hSw; (try dsimp only at hSw); go_simp; try with_reducible rfl))
    try simp only [Act.put, List.getElem_toArray, List.getElem_cons_succ, List.getElem_cons_zero, List.setIfInBounds_toArray, List.set_cons_zero, List.set_cons_succ]
    refine tkN (i := 15) rfl (by kernel_rfl) (by kernel_rfl) (fun _ _ _ h => h) (by assumption) ?_
    try simp only [Act.put, List.getElem_toArray, List.getElem_cons_succ, List.getElem_cons_zero, List.setIfInBounds_toArray, List.set_cons_zero, List.set_cons_succ]
    refine tkN (i := 16) rfl (by kernel_rfl) (by kernel_rfl) (fun _ _ _ h => h) (by assumption) ?_
    try simp only [Act.put, List.getElem_toArray, List.getElem_cons_succ, List.getElem_cons_zero, List.setIfInBounds_toArray, List.set_cons_zero, List.set_cons_succ]
    refine tkN (i := 17) rfl (by kernel_rfl) (by kernel_rfl) (fun _ _ _ h => h) (by assumption) ?_
    try simp only [Act.put, List.getElem_toArray, List.getElem_cons_succ, List.getElem_cons_zero, List.setIfInBounds_toArray, List.set_cons_zero, List.set_cons_succ]
    refine tkN (i := 18) rfl (by kernel_rfl) (by kernel_rfl) (fun _ _ _ h => h) (by assumption) ?_
    try simp only [Act.put, List.getElem_toArray, List.getElem_cons_succ, List.getElem_cons_zero, List.setIfInBounds_toArray, List.set_cons_zero, List.set_cons_succ]
    refine tkN (i := 19) rfl (by kernel_rfl) (by kernel_rfl) (fun _ _ _ h => h) (by assumption) ?_
    try simp only [Act.put, List.getElem_toArray, List.getElem_cons_succ, List.getElem_cons_zero, List.setIfInBounds_toArray, List.set_cons_zero, List.set_cons_succ]
    refine tkN (i := 20) rfl (by kernel_rfl) (by kernel_rfl) (fun _ _ _ h => h) (by assumption) ?_
    try simp only [Act.put, List.getElem_toArray, List.getElem_cons_succ, List.getElem_cons_zero, List.setIfInBounds_toArray, List.set_cons_zero, List.set_cons_succ]
    refine tkN (i := 21) rfl (by kernel_rfl) (by kernel_rfl) (fun _ _ _ h => h) (by assumption) ?_
    try simp only [Act.put, List.getElem_toArray, List.getElem_cons_succ, List.getElem_cons_zero, List.setIfInBounds_toArray, List.set_cons_zero, List.set_cons_succ]
    refine tkN (i := 22) rfl (by kernel_rfl) (by kernel_rfl) (fun _ _ _ h => h) (by assumption) ?_
    try simp only [Act.put, List.getElem_toArray, List.getElem_cons_succ, List.getElem_cons_zero, List.setIfInBounds_toArray, List.set_cons_zero, List.set_cons_succ]
    refine tkN (i := 23) rfl (by kernel_rfl) (by kernel_rfl) (fun _ _ _ h => h) (by assumption) ?_
    try simp only [Act.put, List.getElem_toArray, List.getElem_cons_succ, List.getElem_cons_zero, List.setIfInBounds_toArray, List.set_cons_zero, List.set_cons_succ]
    refine tkN (i := 24) rfl (by kernel_rfl) (by kernel_rfl) (fun _ _ _ h => h) (by assumption) ?_
    try simp only [Act.put, List.getElem_toArray, List.getElem_cons_succ, List.getElem_cons_zero, List.setIfInBounds_toArray, List.set_cons_zero, List.set_cons_succ]
    refine tkW (i := 25) (v := ?_) rfl (by kernel_rfl) (by kernel_rfl) (fun _ _ _ h => h) ?_ (by assumption) ?_; rotate_left; (focus (intro w hSw; (try dsimp only at hSw); go_simp; try with_reducible rfl))
    try simp only [Act.put, List.getElem_toArray, List.getElem_cons_succ, List.getElem_cons_zero, List.setIfInBounds_toArray, List.set_cons_zero, List.set_cons_succ]
    refine wpAnyH_done (by kernel_rfl) ?_ _
    all_goals
      go_wp2
      generalize hw3 : ext _ d2 os2 = W3
      have c0 : W3.cell? ⟨w.heap.size, 0, none⟩ = some (.int .i64 f) := by subst hw3; exact hHeld.1
      have c1 : W3.cell? ⟨w.heap.size, 1, none⟩ = some (.int .i64 a) := by subst hw3; exact hHeld.2.1
      have c2 : W3.cell? ⟨w.heap.size, 2, none⟩ = some (.int .i64 r) := by subst hw3; exact hHeld.2.2
      have z0 : W3.cell? ⟨w.heap.size + 1, 0, none⟩ = some (.int .i64 0) := by subst hw3; go_simp
      have z1 : W3.cell? ⟨w.heap.size + 1, 1, none⟩ = some (.int .i64 0) := by subst hw3; go_simp
      have z2 : W3.cell? ⟨w.heap.size + 1, 2, none⟩ = some (.int .i64 0) := by subst hw3; go_simp
      have f0 : W3.frozen? ⟨w.heap.size + 1, 0, none⟩ = false := by subst hw3; go_simp
      have f1 : W3.frozen? ⟨w.heap.size + 1, 1, none⟩ = false := by subst hw3; go_simp
      have f2 : W3.frozen? ⟨w.heap.size + 1, 2, none⟩ = false := by subst hw3; go_simp
      have B3 : Below w.heap.size w W3 := by subst hw3; (repeat (first | exact Below.refl _ _ | exact Hbl.out | refine Below.ext ?_ (by first | omega | (simp; omega) | simp) | refine Below.setCell ?_ (by first | omega | (simp; omega) | simp) _ | refine Below.alloc ?_ (by first | omega | (simp; omega) | simp) _ | refine Below.drew ?_ | refine below_drewN ?_ _ | refine Below.step (by assumption) (by first | omega | (simp; omega) | simp) ?_))
      clear hHeld hw3
      go_region
      all_goals
        go_wp2
        obtain ⟨p0, p1, p2⟩ := set3 (v0 := .int .i64 f) (v1 := .int .i64 a) (v2 := .int .i64 r) z0 z1 z2
        have B4 : Below w.heap.size w (((W3.setCell ⟨w.heap.size + 1, 0, none⟩ (.int .i64 f)).setCell ⟨w.heap.size + 1, 1, none⟩ (.int .i64 a)).setCell ⟨w.heap.size + 1, 2, none⟩ (.int .i64 r)).drew := by (repeat (first | exact Below.refl _ _ | exact Hbl.out | refine Below.ext ?_ (by first | omega | (simp; omega) | simp) | refine Below.setCell ?_ (by first | omega | (simp; omega) | simp) _ | refine Below.alloc ?_ (by first | omega | (simp; omega) | simp) _ | refine Below.drew ?_ | refine below_drewN ?_ _ | refine Below.step (by assumption) (by first | omega | (simp; omega) | simp) ?_))
        generalize hW4 : World.drew _ = W4 at p0 p1 p2 B4 ⊢
        have HB := Lib.hid B4
        clear B4 B3 z0 z1 z2 c0 c1 c2 f0 f1 f2 hW4
        simp [bodyPost, results, Try.results26, go_sem, p0, p1, p2]
        exact HB.out
  · rw [rd_no (show rdOk t f a r many = false by unfold rdOk; rw [g1, g2]; rfl)]
    rw [g1] at hV
    have HV := Lib.hid hV
    clear hV g1
    have hm : many < 0 := by have := of_decide_eq_false g2; omega
    clear g2
    go_enter Try.func26, Try.ntmps26
    go_wp2
    refine wp_region_held_drew (S := (fun w' => w'.cell? ⟨w.heap.size, 0, none⟩ = some (.int .i64 f) ∧ w'.cell? ⟨w.heap.size, 1, none⟩ = some (.int .i64 a) ∧ w'.cell? ⟨w.heap.size, 2, none⟩ = some (.int .i64 r))) (by kernel_rfl) ?_ (fun hHeld => ?_)
    · (try dsimp only)
      go_simp
    refine tkW (i := 0) (v := ?_) rfl (by kernel_rfl) (by kernel_rfl) (fun _ _ _ h => h) ?_ (by assumption) ?_; rotate_left; (focus (intro w hSw; (try dsimp only at hSw); go_simp; try with_reducible rfl))
    try simp only [Act.put, List.getElem_toArray, List.getElem_cons_succ, List.getElem_cons_zero, List.setIfInBounds_toArray, List.set_cons_zero, List.set_cons_succ]
    refine tkW (i := 1) (v := ?_) rfl (by kernel_rfl) (by kernel_rfl) (fun _ _ _ h => h) ?_ (by assumption) ?_; rotate_left; (focus (intro w hSw; (try dsimp only at hSw); go_simp; try with_reducible rfl))
    try simp only [Act.put, List.getElem_toArray, List.getElem_cons_succ, List.getElem_cons_zero, List.setIfInBounds_toArray, List.set_cons_zero, List.set_cons_succ]
    refine wpAnyH_ready (rs := [2]) (by kernel_rfl) (by simp) ?_
    refine AllReadyH.cons rfl (fun K hK => ?_) AllReadyH.nil
    go_simp
    (go_at_call 49; refine (HV.out _ (H.out.below ?_)).mono ?_; (focus ((repeat (first | exact Below.refl _ _ | exact Hbl.out | refine Below.ext ?_ (by first | omega | (simp; omega) | simp) | refine Below.setCell ?_ (by first | omega | (simp; omega) | simp) _ | refine Below.alloc ?_ (by first | omega | (simp; omega) | simp) _ | refine Below.drew ?_ | refine below_drewN ?_ _ | refine Below.step (by assumption) (by first | omega | (simp; omega) | simp) ?_)))); rintro e w2 ⟨rfl, b2⟩; obtain ⟨d2, os2, rfl⟩ := ext_of_below b2; clear b2)
    refine hK.out _ _ ?_ (fun hHeld => ?_)
    · (try dsimp only)
      go_simp
    clear hK K
    try simp only [Act.put, List.getElem_toArray, List.getElem_cons_succ, List.getElem_cons_zero, List.setIfInBounds_toArray, List.set_cons_zero, List.set_cons_succ]
    refine tkW (i := 3) (v := ?_) rfl (by kernel_rfl) (by kernel_rfl) (fun _ _ _ h => h) ?_ (by assumption) ?_; rotate_left; (focus (intro w hSw; (try dsimp only at hSw); go_simp; try with_reducible rfl))
    try simp only [Act.put, List.getElem_toArray, List.getElem_cons_succ, List.getElem_cons_zero, List.setIfInBounds_toArray, List.set_cons_zero, List.set_cons_succ]
    refine tkW (i := 4) (v := ?_) rfl (by kernel_rfl) (by kernel_rfl) (fun _ _ _ h => h) ?_ (by assumption) ?_; rotate_left; (focus (intro w hSw; (try dsimp only at hSw); go_simp; try with_reducible rfl))
    try simp only [Act.put, List.getElem_toArray, List.getElem_cons_succ, List.getElem_cons_zero, List.setIfInBounds_toArray, List.set_cons_zero, List.set_cons_succ]
    refine tkW (i := 5) (v := ?_) rfl (by kernel_rfl) (by kernel_rfl) (fun _ _ _ h => h) ?_ (by assumption) ?_; rotate_left; (focus (intro w hSw; (try dsimp only at hSw); go_simp; try with_reducible rfl))
    try simp only [Act.put, List.getElem_toArray, List.getElem_cons_succ, List.getElem_cons_zero, List.setIfInBounds_toArray, List.set_cons_zero, List.set_cons_succ]
    refine tkW (i := 6) (v := ?_) rfl (by kernel_rfl) (by kernel_rfl) (fun _ _ _ h => h) ?_ (by assumption) ?_; rotate_left; (focus (intro w hSw; (try dsimp only at hSw); go_simp; try with_reducible rfl))
    try simp only [Act.put, List.getElem_toArray, List.getElem_cons_succ, List.getElem_cons_zero, List.setIfInBounds_toArray, List.set_cons_zero, List.set_cons_succ]
    refine tkW (i := 7) (v := ?_) rfl (by kernel_rfl) (by kernel_rfl) (fun _ _ _ h => h) ?_ (by assumption) ?_; rotate_left; (focus (intro w hSw; (try dsimp only at hSw); go_simp; try with_reducible rfl))
    try simp only [Act.put, List.getElem_toArray, List.getElem_cons_succ, List.getElem_cons_zero, List.setIfInBounds_toArray, List.set_cons_zero, List.set_cons_succ]
    refine tkW (i := 8) (v := ?_) rfl (by kernel_rfl) (by kernel_rfl) (fun _ _ _ h => h) ?_ (by assumption) ?_; rotate_left; (focus (intro w hSw; (try dsimp only at hSw); go_simp; try with_reducible rfl))
    try simp only [Act.put, List.getElem_toArray, List.getElem_cons_succ, List.getElem_cons_zero, List.setIfInBounds_toArray, List.set_cons_zero, List.set_cons_succ]
    refine tkN (i := 9) rfl (by kernel_rfl) (by kernel_rfl) (fun _ _ _ h => h) (by assumption) ?_
    try simp only [Act.put, List.getElem_toArray, List.getElem_cons_succ, List.getElem_cons_zero, List.setIfInBounds_toArray, List.set_cons_zero, List.set_cons_succ]
    refine tkN (i := 10) rfl (by kernel_rfl) (by kernel_rfl) (fun _ _ _ h => h) (by assumption) ?_
    try simp only [Act.put, List.getElem_toArray, List.getElem_cons_succ, List.getElem_cons_zero, List.setIfInBounds_toArray, List.set_cons_zero, List.set_cons_succ]
    refine tkN (i := 11) rfl (by kernel_rfl) (by kernel_rfl) (fun _ _ _ h => h) (by assumption) ?_
    try simp only [Act.put, List.getElem_toArray, List.getElem_cons_succ, List.getElem_cons_zero, List.setIfInBounds_toArray, List.set_cons_zero, List.set_cons_succ]
    refine tkN (i := 12) rfl (by kernel_rfl) (by kernel_rfl) (fun _ _ _ h => h) (by assumption) ?_
    try simp only [Act.put, List.getElem_toArray, List.getElem_cons_succ, List.getElem_cons_zero, List.setIfInBounds_toArray, List.set_cons_zero, List.set_cons_succ]
    refine tkW (i := 13) (v := ?_) rfl (by kernel_rfl) (by kernel_rfl) (fun _ _ _ h => h) ?_ (by assumption) ?_; rotate_left; (focus (intro w hSw; (try dsimp only at hSw); go_simp; try with_reducible rfl))
    try simp only [Act.put, List.getElem_toArray, List.getElem_cons_succ, List.getElem_cons_zero, List.setIfInBounds_toArray, List.set_cons_zero, List.set_cons_succ]
    refine tkW (i := 14) (v := ?_) rfl (by kernel_rfl) (by kernel_rfl) (fun _ _ _ h => h) ?_ (by assumption) ?_; rotate_left; (focus (intro w hSw; (try dsimp only at hSw); go_simp; try with_reducible rfl))
    try simp only [Act.put, List.getElem_toArray, List.getElem_cons_succ, List.getElem_cons_zero, List.setIfInBounds_toArray, List.set_cons_zero, List.set_cons_succ]
    refine tkN (i := 15) rfl (by kernel_rfl) (by kernel_rfl) (fun _ _ _ h => h) (by assumption) ?_
    try simp only [Act.put, List.getElem_toArray, List.getElem_cons_succ, List.getElem_cons_zero, List.setIfInBounds_toArray, List.set_cons_zero, List.set_cons_succ]
    refine tkN (i := 16) rfl (by kernel_rfl) (by kernel_rfl) (fun _ _ _ h => h) (by assumption) ?_
    try simp only [Act.put, List.getElem_toArray, List.getElem_cons_succ, List.getElem_cons_zero, List.setIfInBounds_toArray, List.set_cons_zero, List.set_cons_succ]
    refine tkN (i := 17) rfl (by kernel_rfl) (by kernel_rfl) (fun _ _ _ h => h) (by assumption) ?_
    try simp only [Act.put, List.getElem_toArray, List.getElem_cons_succ, List.getElem_cons_zero, List.setIfInBounds_toArray, List.set_cons_zero, List.set_cons_succ]
    refine tkN (i := 18) rfl (by kernel_rfl) (by kernel_rfl) (fun _ _ _ h => h) (by assumption) ?_
    try simp only [Act.put, List.getElem_toArray, List.getElem_cons_succ, List.getElem_cons_zero, List.setIfInBounds_toArray, List.set_cons_zero, List.set_cons_succ]
    refine tkN (i := 19) rfl (by kernel_rfl) (by kernel_rfl) (fun _ _ _ h => h) (by assumption) ?_
    try simp only [Act.put, List.getElem_toArray, List.getElem_cons_succ, List.getElem_cons_zero, List.setIfInBounds_toArray, List.set_cons_zero, List.set_cons_succ]
    refine tkN (i := 20) rfl (by kernel_rfl) (by kernel_rfl) (fun _ _ _ h => h) (by assumption) ?_
    try simp only [Act.put, List.getElem_toArray, List.getElem_cons_succ, List.getElem_cons_zero, List.setIfInBounds_toArray, List.set_cons_zero, List.set_cons_succ]
    refine tkN (i := 21) rfl (by kernel_rfl) (by kernel_rfl) (fun _ _ _ h => h) (by assumption) ?_
    try simp only [Act.put, List.getElem_toArray, List.getElem_cons_succ, List.getElem_cons_zero, List.setIfInBounds_toArray, List.set_cons_zero, List.set_cons_succ]
    refine tkN (i := 22) rfl (by kernel_rfl) (by kernel_rfl) (fun _ _ _ h => h) (by assumption) ?_
    try simp only [Act.put, List.getElem_toArray, List.getElem_cons_succ, List.getElem_cons_zero, List.setIfInBounds_toArray, List.set_cons_zero, List.set_cons_succ]
    refine tkN (i := 23) rfl (by kernel_rfl) (by kernel_rfl) (fun _ _ _ h => h) (by assumption) ?_
    try simp only [Act.put, List.getElem_toArray, List.getElem_cons_succ, List.getElem_cons_zero, List.setIfInBounds_toArray, List.set_cons_zero, List.set_cons_succ]
    refine tkN (i := 24) rfl (by kernel_rfl) (by kernel_rfl) (fun _ _ _ h => h) (by assumption) ?_
    try simp only [Act.put, List.getElem_toArray, List.getElem_cons_succ, List.getElem_cons_zero, List.setIfInBounds_toArray, List.set_cons_zero, List.set_cons_succ]
    refine tkW (i := 25) (v := ?_) rfl (by kernel_rfl) (by kernel_rfl) (fun _ _ _ h => h) ?_ (by assumption) ?_; rotate_left; (focus (intro w hSw; (try dsimp only at hSw); go_simp; try with_reducible rfl))
    try simp only [Act.put, List.getElem_toArray, List.getElem_cons_succ, List.getElem_cons_zero, List.setIfInBounds_toArray, List.set_cons_zero, List.set_cons_succ]
    refine wpAnyH_done (by kernel_rfl) ?_ _
    all_goals
      go_wp2
      generalize hw3 : ext _ d2 os2 = W3
      have c0 : W3.cell? ⟨w.heap.size, 0, none⟩ = some (.int .i64 f) := by subst hw3; exact hHeld.1
      have c1 : W3.cell? ⟨w.heap.size, 1, none⟩ = some (.int .i64 a) := by subst hw3; exact hHeld.2.1
      have c2 : W3.cell? ⟨w.heap.size, 2, none⟩ = some (.int .i64 r) := by subst hw3; exact hHeld.2.2
      have z0 : W3.cell? ⟨w.heap.size + 1, 0, none⟩ = some (.int .i64 0) := by subst hw3; go_simp
      have z1 : W3.cell? ⟨w.heap.size + 1, 1, none⟩ = some (.int .i64 0) := by subst hw3; go_simp
      have z2 : W3.cell? ⟨w.heap.size + 1, 2, none⟩ = some (.int .i64 0) := by subst hw3; go_simp
      have f0 : W3.frozen? ⟨w.heap.size + 1, 0, none⟩ = false := by subst hw3; go_simp
      have f1 : W3.frozen? ⟨w.heap.size + 1, 1, none⟩ = false := by subst hw3; go_simp
      have f2 : W3.frozen? ⟨w.heap.size + 1, 2, none⟩ = false := by subst hw3; go_simp
      have B3 : Below w.heap.size w W3 := by subst hw3; (repeat (first | exact Below.refl _ _ | exact Hbl.out | refine Below.ext ?_ (by first | omega | (simp; omega) | simp) | refine Below.setCell ?_ (by first | omega | (simp; omega) | simp) _ | refine Below.alloc ?_ (by first | omega | (simp; omega) | simp) _ | refine Below.drew ?_ | refine below_drewN ?_ _ | refine Below.step (by assumption) (by first | omega | (simp; omega) | simp) ?_))
      clear hHeld hw3
      go_region
      all_goals
        go_wp2
        obtain ⟨p0, p1, p2⟩ := set3 (v0 := .int .i64 f) (v1 := .int .i64 a) (v2 := .int .i64 r) z0 z1 z2
        have B4 : Below w.heap.size w (((W3.setCell ⟨w.heap.size + 1, 0, none⟩ (.int .i64 f)).setCell ⟨w.heap.size + 1, 1, none⟩ (.int .i64 a)).setCell ⟨w.heap.size + 1, 2, none⟩ (.int .i64 r)).drew := by (repeat (first | exact Below.refl _ _ | exact Hbl.out | refine Below.ext ?_ (by first | omega | (simp; omega) | simp) | refine Below.setCell ?_ (by first | omega | (simp; omega) | simp) _ | refine Below.alloc ?_ (by first | omega | (simp; omega) | simp) _ | refine Below.drew ?_ | refine below_drewN ?_ _ | refine Below.step (by assumption) (by first | omega | (simp; omega) | simp) ?_))
        generalize hW4 : World.drew _ = W4 at p0 p1 p2 B4 ⊢
        have HB := Lib.hid B4
        clear B4 B3 z0 z1 z2 c0 c1 c2 f0 f1 f2 hW4
        simp [bodyPost, results, Try.results26, go_sem, p0, p1, p2]
        exact HB.out
  · rw [rd_no (show rdOk t f a r many = false by unfold rdOk; rw [g1, g2, g3]; rfl)]
    rw [g1] at hV
    have HV := Lib.hid hV
    clear hV g1
    have hm : ¬ many < 0 := by have := of_decide_eq_true g2; omega
    have hb : (bits .and .i64 r 4 == 0) = true := by simpa using g3
    clear g2 g3
    go_enter Try.func26, Try.ntmps26
    go_wp2
    refine wp_region_held_drew (S := (fun w' => w'.cell? ⟨w.heap.size, 0, none⟩ = some (.int .i64 f) ∧ w'.cell? ⟨w.heap.size, 1, none⟩ = some (.int .i64 a) ∧ w'.cell? ⟨w.heap.size, 2, none⟩ = some (.int .i64 r))) (by kernel_rfl) ?_ (fun hHeld => ?_)
    · (try dsimp only)
      go_simp
    refine tkW (i := 0) (v := ?_) rfl (by kernel_rfl) (by kernel_rfl) (fun _ _ _ h => h) ?_ (by assumption) ?_; rotate_left; (focus (intro w hSw; (try dsimp only at hSw); go_simp; try with_reducible rfl))
    try simp only [Act.put, List.getElem_toArray, List.getElem_cons_succ, List.getElem_cons_zero, List.setIfInBounds_toArray, List.set_cons_zero, List.set_cons_succ]
    refine tkW (i := 1) (v := ?_) rfl (by kernel_rfl) (by kernel_rfl) (fun _ _ _ h => h) ?_ (by assumption) ?_; rotate_left; (focus (intro w hSw; (try dsimp only at hSw); go_simp; try with_reducible rfl))
    try simp only [Act.put, List.getElem_toArray, List.getElem_cons_succ, List.getElem_cons_zero, List.setIfInBounds_toArray, List.set_cons_zero, List.set_cons_succ]
    refine wpAnyH_ready (rs := [2]) (by kernel_rfl) (by simp) ?_
    refine AllReadyH.cons rfl (fun K hK => ?_) AllReadyH.nil
    go_simp
    (go_at_call 49; refine (HV.out _ (H.out.below ?_)).mono ?_; (focus ((repeat (first | exact Below.refl _ _ | exact Hbl.out | refine Below.ext ?_ (by first | omega | (simp; omega) | simp) | refine Below.setCell ?_ (by first | omega | (simp; omega) | simp) _ | refine Below.alloc ?_ (by first | omega | (simp; omega) | simp) _ | refine Below.drew ?_ | refine below_drewN ?_ _ | refine Below.step (by assumption) (by first | omega | (simp; omega) | simp) ?_)))); rintro e w2 ⟨rfl, b2⟩; obtain ⟨d2, os2, rfl⟩ := ext_of_below b2; clear b2)
    refine hK.out _ _ ?_ (fun hHeld => ?_)
    · (try dsimp only)
      go_simp
    clear hK K
    try simp only [Act.put, List.getElem_toArray, List.getElem_cons_succ, List.getElem_cons_zero, List.setIfInBounds_toArray, List.set_cons_zero, List.set_cons_succ]
    refine tkW (i := 3) (v := ?_) rfl (by kernel_rfl) (by kernel_rfl) (fun _ _ _ h => h) ?_ (by assumption) ?_; rotate_left; (focus (intro w hSw; (try dsimp only at hSw); go_simp; try with_reducible rfl))
    try simp only [Act.put, List.getElem_toArray, List.getElem_cons_succ, List.getElem_cons_zero, List.setIfInBounds_toArray, List.set_cons_zero, List.set_cons_succ]
    refine tkW (i := 4) (v := ?_) rfl (by kernel_rfl) (by kernel_rfl) (fun _ _ _ h => h) ?_ (by assumption) ?_; rotate_left; (focus (intro w hSw; (try dsimp only at hSw); go_simp; try with_reducible rfl))
    try simp only [Act.put, List.getElem_toArray, List.getElem_cons_succ, List.getElem_cons_zero, List.setIfInBounds_toArray, List.set_cons_zero, List.set_cons_succ]
    refine tkW (i := 5) (v := ?_) rfl (by kernel_rfl) (by kernel_rfl) (fun _ _ _ h => h) ?_ (by assumption) ?_; rotate_left; (focus (intro w hSw; (try dsimp only at hSw); go_simp; try with_reducible rfl))
    try simp only [Act.put, List.getElem_toArray, List.getElem_cons_succ, List.getElem_cons_zero, List.setIfInBounds_toArray, List.set_cons_zero, List.set_cons_succ]
    refine tkW (i := 6) (v := ?_) rfl (by kernel_rfl) (by kernel_rfl) (fun _ _ _ h => h) ?_ (by assumption) ?_; rotate_left; (focus (intro w hSw; (try dsimp only at hSw); go_simp; try with_reducible rfl))
    try simp only [Act.put, List.getElem_toArray, List.getElem_cons_succ, List.getElem_cons_zero, List.setIfInBounds_toArray, List.set_cons_zero, List.set_cons_succ]
    rw [show decide (many < 0) = false from decide_eq_false (by omega)]
    refine tkW (i := 7) (v := ?_) rfl (by kernel_rfl) (by kernel_rfl) (fun _ _ _ h => h) ?_ (by assumption) ?_; rotate_left; (focus (intro w hSw; (try dsimp only at hSw); go_simp; try with_reducible rfl))
    try simp only [Act.put, List.getElem_toArray, List.getElem_cons_succ, List.getElem_cons_zero, List.setIfInBounds_toArray, List.set_cons_zero, List.set_cons_succ]
    refine tkW (i := 8) (v := ?_) rfl (by kernel_rfl) (by kernel_rfl) (fun _ _ _ h => h) ?_ (by assumption) ?_; rotate_left; (focus (intro w hSw; (try dsimp only at hSw); go_simp; try with_reducible rfl))
    try simp only [Act.put, List.getElem_toArray, List.getElem_cons_succ, List.getElem_cons_zero, List.setIfInBounds_toArray, List.set_cons_zero, List.set_cons_succ]
    refine tkW (i := 9) (v := ?_) rfl (by kernel_rfl) (by kernel_rfl) (fun _ _ _ h => h) ?_ (by assumption) ?_; rotate_left; (focus (intro w hSw; (try dsimp only at hSw); go_simp; try with_reducible rfl))
    try simp only [Act.put, List.getElem_toArray, List.getElem_cons_succ, List.getElem_cons_zero, List.setIfInBounds_toArray, List.set_cons_zero, List.set_cons_succ]
    refine tkW (i := 10) (v := ?_) rfl (by kernel_rfl) (by kernel_rfl) (fun _ _ _ h => h) ?_ (by assumption) ?_; rotate_left; (focus (intro w hSw; (try dsimp only at hSw); go_simp; try with_reducible rfl))
    try simp only [Act.put, List.getElem_toArray, List.getElem_cons_succ, List.getElem_cons_zero, List.setIfInBounds_toArray, List.set_cons_zero, List.set_cons_succ]
    refine tkW (i := 11) (v := ?_) rfl (by kernel_rfl) (by kernel_rfl) (fun _ _ _ h => h) ?_ (by assumption) ?_; rotate_left; (focus (intro w hSw; (try dsimp only at hSw); go_simp; try with_reducible rfl))
    try simp only [Act.put, List.getElem_toArray, List.getElem_cons_succ, List.getElem_cons_zero, List.setIfInBounds_toArray, List.set_cons_zero, List.set_cons_succ]
    refine tkW (i := 12) (v := ?_) rfl (by kernel_rfl) (by kernel_rfl) (fun _ _ _ h => h) ?_ (by assumption) ?_; rotate_left; (focus (intro w hSw; (try dsimp only at hSw); go_simp; try with_reducible rfl))
    try simp only [Act.put, List.getElem_toArray, List.getElem_cons_succ, List.getElem_cons_zero, List.setIfInBounds_toArray, List.set_cons_zero, List.set_cons_succ]
    refine tkW (i := 13) (v := ?_) rfl (by kernel_rfl) (by kernel_rfl) (fun _ _ _ h => h) ?_ (by assumption) ?_; rotate_left; (focus (intro w hSw; (try dsimp only at hSw); go_simp; try with_reducible rfl))
    try simp only [Act.put, List.getElem_toArray, List.getElem_cons_succ, List.getElem_cons_zero, List.setIfInBounds_toArray, List.set_cons_zero, List.set_cons_succ]
    refine tkW (i := 14) (v := ?_) rfl (by kernel_rfl) (by kernel_rfl) (fun _ _ _ h => h) ?_ (by assumption) ?_; rotate_left; (focus (intro w hSw; (try dsimp only at hSw); go_simp; try with_reducible rfl))
    try simp only [Act.put, List.getElem_toArray, List.getElem_cons_succ, List.getElem_cons_zero, List.setIfInBounds_toArray, List.set_cons_zero, List.set_cons_succ]
    refine tkN (i := 15) rfl (by kernel_rfl) (by kernel_rfl) (fun _ _ _ h => h) (by assumption) ?_
    try simp only [Act.put, List.getElem_toArray, List.getElem_cons_succ, List.getElem_cons_zero, List.setIfInBounds_toArray, List.set_cons_zero, List.set_cons_succ]
    refine tkN (i := 16) rfl (by kernel_rfl) (by kernel_rfl) (fun _ _ _ h => h) (by assumption) ?_
    try simp only [Act.put, List.getElem_toArray, List.getElem_cons_succ, List.getElem_cons_zero, List.setIfInBounds_toArray, List.set_cons_zero, List.set_cons_succ]
    refine tkN (i := 17) rfl (by kernel_rfl) (by kernel_rfl) (fun _ _ _ h => h) (by assumption) ?_
    try simp only [Act.put, List.getElem_toArray, List.getElem_cons_succ, List.getElem_cons_zero, List.setIfInBounds_toArray, List.set_cons_zero, List.set_cons_succ]
    refine tkN (i := 18) rfl (by kernel_rfl) (by kernel_rfl) (fun _ _ _ h => h) (by assumption) ?_
    try simp only [Act.put, List.getElem_toArray, List.getElem_cons_succ, List.getElem_cons_zero, List.setIfInBounds_toArray, List.set_cons_zero, List.set_cons_succ]
    refine tkN (i := 19) rfl (by kernel_rfl) (by kernel_rfl) (fun _ _ _ h => h) (by assumption) ?_
    try simp only [Act.put, List.getElem_toArray, List.getElem_cons_succ, List.getElem_cons_zero, List.setIfInBounds_toArray, List.set_cons_zero, List.set_cons_succ]
    refine tkN (i := 20) rfl (by kernel_rfl) (by kernel_rfl) (fun _ _ _ h => h) (by assumption) ?_
    try simp only [Act.put, List.getElem_toArray, List.getElem_cons_succ, List.getElem_cons_zero, List.setIfInBounds_toArray, List.set_cons_zero, List.set_cons_succ]
    refine tkN (i := 21) rfl (by kernel_rfl) (by kernel_rfl) (fun _ _ _ h => h) (by assumption) ?_
    try simp only [Act.put, List.getElem_toArray, List.getElem_cons_succ, List.getElem_cons_zero, List.setIfInBounds_toArray, List.set_cons_zero, List.set_cons_succ]
    refine tkN (i := 22) rfl (by kernel_rfl) (by kernel_rfl) (fun _ _ _ h => h) (by assumption) ?_
    try simp only [Act.put, List.getElem_toArray, List.getElem_cons_succ, List.getElem_cons_zero, List.setIfInBounds_toArray, List.set_cons_zero, List.set_cons_succ]
    refine tkN (i := 23) rfl (by kernel_rfl) (by kernel_rfl) (fun _ _ _ h => h) (by assumption) ?_
    try simp only [Act.put, List.getElem_toArray, List.getElem_cons_succ, List.getElem_cons_zero, List.setIfInBounds_toArray, List.set_cons_zero, List.set_cons_succ]
    refine tkN (i := 24) rfl (by kernel_rfl) (by kernel_rfl) (fun _ _ _ h => h) (by assumption) ?_
    try simp only [Act.put, List.getElem_toArray, List.getElem_cons_succ, List.getElem_cons_zero, List.setIfInBounds_toArray, List.set_cons_zero, List.set_cons_succ]
    refine tkW (i := 25) (v := ?_) rfl (by kernel_rfl) (by kernel_rfl) (fun _ _ _ h => h) ?_ (by assumption) ?_; rotate_left; (focus (intro w hSw; (try dsimp only at hSw); go_simp; try with_reducible rfl))
    try simp only [Act.put, List.getElem_toArray, List.getElem_cons_succ, List.getElem_cons_zero, List.setIfInBounds_toArray, List.set_cons_zero, List.set_cons_succ]
    refine wpAnyH_done (by kernel_rfl) ?_ _
    all_goals
      go_wp2
      generalize hw3 : ext _ d2 os2 = W3
      have c0 : W3.cell? ⟨w.heap.size, 0, none⟩ = some (.int .i64 f) := by subst hw3; exact hHeld.1
      have c1 : W3.cell? ⟨w.heap.size, 1, none⟩ = some (.int .i64 a) := by subst hw3; exact hHeld.2.1
      have c2 : W3.cell? ⟨w.heap.size, 2, none⟩ = some (.int .i64 r) := by subst hw3; exact hHeld.2.2
      have z0 : W3.cell? ⟨w.heap.size + 1, 0, none⟩ = some (.int .i64 0) := by subst hw3; go_simp
      have z1 : W3.cell? ⟨w.heap.size + 1, 1, none⟩ = some (.int .i64 0) := by subst hw3; go_simp
      have z2 : W3.cell? ⟨w.heap.size + 1, 2, none⟩ = some (.int .i64 0) := by subst hw3; go_simp
      have f0 : W3.frozen? ⟨w.heap.size + 1, 0, none⟩ = false := by subst hw3; go_simp
      have f1 : W3.frozen? ⟨w.heap.size + 1, 1, none⟩ = false := by subst hw3; go_simp
      have f2 : W3.frozen? ⟨w.heap.size + 1, 2, none⟩ = false := by subst hw3; go_simp
      have B3 : Below w.heap.size w W3 := by subst hw3; (repeat (first | exact Below.refl _ _ | exact Hbl.out | refine Below.ext ?_ (by first | omega | (simp; omega) | simp) | refine Below.setCell ?_ (by first | omega | (simp; omega) | simp) _ | refine Below.alloc ?_ (by first | omega | (simp; omega) | simp) _ | refine Below.drew ?_ | refine below_drewN ?_ _ | refine Below.step (by assumption) (by first | omega | (simp; omega) | simp) ?_))
      clear hHeld hw3
      go_region
      all_goals
        go_wp2
        obtain ⟨p0, p1, p2⟩ := set3 (v0 := .int .i64 f) (v1 := .int .i64 a) (v2 := .int .i64 r) z0 z1 z2
        have B4 : Below w.heap.size w (((W3.setCell ⟨w.heap.size + 1, 0, none⟩ (.int .i64 f)).setCell ⟨w.heap.size + 1, 1, none⟩ (.int .i64 a)).setCell ⟨w.heap.size + 1, 2, none⟩ (.int .i64 r)).drew := by (repeat (first | exact Below.refl _ _ | exact Hbl.out | refine Below.ext ?_ (by first | omega | (simp; omega) | simp) | refine Below.setCell ?_ (by first | omega | (simp; omega) | simp) _ | refine Below.alloc ?_ (by first | omega | (simp; omega) | simp) _ | refine Below.drew ?_ | refine below_drewN ?_ _ | refine Below.step (by assumption) (by first | omega | (simp; omega) | simp) ?_))
        generalize hW4 : World.drew _ = W4 at p0 p1 p2 B4 ⊢
        have HB := Lib.hid B4
        clear B4 B3 z0 z1 z2 c0 c1 c2 f0 f1 f2 hW4
        simp [bodyPost, results, Try.results26, go_sem, p0, p1, p2]
        exact HB.out
  · rw [rd_no (show rdOk t f a r many = false by unfold rdOk; rw [g1, g2, g3, g4]; rfl)]
    obtain ⟨_, hf1, hf2, _, ha1, ha2, _, _⟩ := hOk_in g1
    obtain ⟨k, rfl⟩ : ∃ k : Nat, f = (k : Int) := ⟨f.toNat, by omega⟩
    have hk : k < t.length := by omega
    rw [Int.toNat_natCast] at g4
    obtain ⟨bt, ot, nA, nC, kA, kC, rfl, hbt, _, y0, y1, y2, y3, y4, y5, y6⟩ := H.out.at_ (kth_at hk)
    clear y0 y1 y2 y3 y5 y6
    rw [g1] at hV
    have HV := Lib.hid hV
    clear hV g1
    have hm : ¬ many < 0 := by have := of_decide_eq_true g2; omega
    have hb : (bits .and .i64 r 4 == 0) = false := by simpa using g3
    have hz : ((kth t k).tx.size : Int) < a := by have := of_decide_eq_false g4; omega
    clear g2 g3 g4
    go_enter Try.func26, Try.ntmps26
    go_wp2
    refine wp_region_held_drew (S := (fun w' => w'.cell? ⟨w.heap.size, 0, none⟩ = some (.int .i64 (k : Int)) ∧ w'.cell? ⟨w.heap.size, 1, none⟩ = some (.int .i64 a) ∧ w'.cell? ⟨w.heap.size, 2, none⟩ = some (.int .i64 r) ∧ w'.cell? ⟨bt, ot + k * 7 + 4, none⟩ = some (.string (kth t k).tx))) (by kernel_rfl) ?_ (fun hHeld => ?_)
    · (try dsimp only)
      go_simp
    refine tkW (i := 0) (v := ?_) rfl (by kernel_rfl) (by kernel_rfl) (fun _ _ _ h => h) ?_ (by assumption) ?_; rotate_left; (focus (intro w hSw; (try dsimp only at hSw); go_simp; try with_reducible rfl))
    try simp only [Act.put, List.getElem_toArray, List.getElem_cons_succ, List.getElem_cons_zero, List.setIfInBounds_toArray, List.set_cons_zero, List.set_cons_succ]
    refine tkW (i := 1) (v := ?_) rfl (by kernel_rfl) (by kernel_rfl) (fun _ _ _ h => h) ?_ (by assumption) ?_; rotate_left; (focus (intro w hSw; (try dsimp only at hSw); go_simp; try with_reducible rfl))
    try simp only [Act.put, List.getElem_toArray, List.getElem_cons_succ, List.getElem_cons_zero, List.setIfInBounds_toArray, List.set_cons_zero, List.set_cons_succ]
    refine wpAnyH_ready (rs := [2]) (by kernel_rfl) (by simp) ?_
    refine AllReadyH.cons rfl (fun K hK => ?_) AllReadyH.nil
    go_simp
    (go_at_call 49; refine (HV.out _ (H.out.below ?_)).mono ?_; (focus ((repeat (first | exact Below.refl _ _ | exact Hbl.out | refine Below.ext ?_ (by first | omega | (simp; omega) | simp) | refine Below.setCell ?_ (by first | omega | (simp; omega) | simp) _ | refine Below.alloc ?_ (by first | omega | (simp; omega) | simp) _ | refine Below.drew ?_ | refine below_drewN ?_ _ | refine Below.step (by assumption) (by first | omega | (simp; omega) | simp) ?_)))); rintro e w2 ⟨rfl, b2⟩; obtain ⟨d2, os2, rfl⟩ := ext_of_below b2; clear b2)
    refine hK.out _ _ ?_ (fun hHeld => ?_)
    · (try dsimp only)
      go_simp
    clear hK K
    try simp only [Act.put, List.getElem_toArray, List.getElem_cons_succ, List.getElem_cons_zero, List.setIfInBounds_toArray, List.set_cons_zero, List.set_cons_succ]
    refine tkW (i := 3) (v := ?_) rfl (by kernel_rfl) (by kernel_rfl) (fun _ _ _ h => h) ?_ (by assumption) ?_; rotate_left; (focus (intro w hSw; (try dsimp only at hSw); go_simp; try with_reducible rfl))
    try simp only [Act.put, List.getElem_toArray, List.getElem_cons_succ, List.getElem_cons_zero, List.setIfInBounds_toArray, List.set_cons_zero, List.set_cons_succ]
    refine tkW (i := 4) (v := ?_) rfl (by kernel_rfl) (by kernel_rfl) (fun _ _ _ h => h) ?_ (by assumption) ?_; rotate_left; (focus (intro w hSw; (try dsimp only at hSw); go_simp; try with_reducible rfl))
    try simp only [Act.put, List.getElem_toArray, List.getElem_cons_succ, List.getElem_cons_zero, List.setIfInBounds_toArray, List.set_cons_zero, List.set_cons_succ]
    refine tkW (i := 5) (v := ?_) rfl (by kernel_rfl) (by kernel_rfl) (fun _ _ _ h => h) ?_ (by assumption) ?_; rotate_left; (focus (intro w hSw; (try dsimp only at hSw); go_simp; try with_reducible rfl))
    try simp only [Act.put, List.getElem_toArray, List.getElem_cons_succ, List.getElem_cons_zero, List.setIfInBounds_toArray, List.set_cons_zero, List.set_cons_succ]
    refine tkW (i := 6) (v := ?_) rfl (by kernel_rfl) (by kernel_rfl) (fun _ _ _ h => h) ?_ (by assumption) ?_; rotate_left; (focus (intro w hSw; (try dsimp only at hSw); go_simp; try with_reducible rfl))
    try simp only [Act.put, List.getElem_toArray, List.getElem_cons_succ, List.getElem_cons_zero, List.setIfInBounds_toArray, List.set_cons_zero, List.set_cons_succ]
    rw [show decide (many < 0) = false from decide_eq_false (by omega)]
    refine tkW (i := 7) (v := ?_) rfl (by kernel_rfl) (by kernel_rfl) (fun _ _ _ h => h) ?_ (by assumption) ?_; rotate_left; (focus (intro w hSw; (try dsimp only at hSw); go_simp; try with_reducible rfl))
    try simp only [Act.put, List.getElem_toArray, List.getElem_cons_succ, List.getElem_cons_zero, List.setIfInBounds_toArray, List.set_cons_zero, List.set_cons_succ]
    refine tkW (i := 8) (v := ?_) rfl (by kernel_rfl) (by kernel_rfl) (fun _ _ _ h => h) ?_ (by assumption) ?_; rotate_left; (focus (intro w hSw; (try dsimp only at hSw); go_simp; try with_reducible rfl))
    try simp only [Act.put, List.getElem_toArray, List.getElem_cons_succ, List.getElem_cons_zero, List.setIfInBounds_toArray, List.set_cons_zero, List.set_cons_succ]
    refine tkW (i := 9) (v := ?_) rfl (by kernel_rfl) (by kernel_rfl) (fun _ _ _ h => h) ?_ (by assumption) ?_; rotate_left; (focus (intro w hSw; (try dsimp only at hSw); go_simp; try with_reducible rfl))
    try simp only [Act.put, List.getElem_toArray, List.getElem_cons_succ, List.getElem_cons_zero, List.setIfInBounds_toArray, List.set_cons_zero, List.set_cons_succ]
    refine tkW (i := 10) (v := ?_) rfl (by kernel_rfl) (by kernel_rfl) (fun _ _ _ h => h) ?_ (by assumption) ?_; rotate_left; (focus (intro w hSw; (try dsimp only at hSw); go_simp; try with_reducible rfl))
    try simp only [Act.put, List.getElem_toArray, List.getElem_cons_succ, List.getElem_cons_zero, List.setIfInBounds_toArray, List.set_cons_zero, List.set_cons_succ]
    refine tkW (i := 11) (v := ?_) rfl (by kernel_rfl) (by kernel_rfl) (fun _ _ _ h => h) ?_ (by assumption) ?_; rotate_left; (focus (intro w hSw; (try dsimp only at hSw); go_simp; try with_reducible rfl))
    try simp only [Act.put, List.getElem_toArray, List.getElem_cons_succ, List.getElem_cons_zero, List.setIfInBounds_toArray, List.set_cons_zero, List.set_cons_succ]
    refine tkW (i := 12) (v := ?_) rfl (by kernel_rfl) (by kernel_rfl) (fun _ _ _ h => h) ?_ (by assumption) ?_; rotate_left; (focus (intro w hSw; (try dsimp only at hSw); go_simp; try with_reducible rfl))
    try simp only [Act.put, List.getElem_toArray, List.getElem_cons_succ, List.getElem_cons_zero, List.setIfInBounds_toArray, List.set_cons_zero, List.set_cons_succ]
    refine tkW (i := 13) (v := ?_) rfl (by kernel_rfl) (by kernel_rfl) (fun _ _ _ h => h) ?_ (by assumption) ?_; rotate_left; (focus (intro w hSw; (try dsimp only at hSw); go_simp; try with_reducible rfl))
    try simp only [Act.put, List.getElem_toArray, List.getElem_cons_succ, List.getElem_cons_zero, List.setIfInBounds_toArray, List.set_cons_zero, List.set_cons_succ]
    refine tkW (i := 14) (v := ?_) rfl (by kernel_rfl) (by kernel_rfl) (fun _ _ _ h => h) ?_ (by assumption) ?_; rotate_left; (focus (intro w hSw; (try dsimp only at hSw); go_simp; try with_reducible rfl))
    try simp only [Act.put, List.getElem_toArray, List.getElem_cons_succ, List.getElem_cons_zero, List.setIfInBounds_toArray, List.set_cons_zero, List.set_cons_succ]
    refine tkW (i := 15) (v := ?_) rfl (by kernel_rfl) (by kernel_rfl) (fun _ _ _ h => h) ?_ (by assumption) ?_; rotate_left; (focus (intro w hSw; (try dsimp only at hSw); go_simp; try with_reducible rfl))
    try simp only [Act.put, List.getElem_toArray, List.getElem_cons_succ, List.getElem_cons_zero, List.setIfInBounds_toArray, List.set_cons_zero, List.set_cons_succ]
    refine tkW (i := 16) (v := ?_) rfl (by kernel_rfl) (by kernel_rfl) (fun _ _ _ h => h) ?_ (by assumption) ?_; rotate_left; (focus (intro w hSw; (try dsimp only at hSw); go_simp; try with_reducible rfl))
    try simp only [Act.put, List.getElem_toArray, List.getElem_cons_succ, List.getElem_cons_zero, List.setIfInBounds_toArray, List.set_cons_zero, List.set_cons_succ]
    refine tkW (i := 17) (v := ?_) rfl (by kernel_rfl) (by kernel_rfl) (fun _ _ _ h => h) ?_ (by assumption) ?_; rotate_left; (focus (intro w hSw; (try dsimp only at hSw); go_simp; try with_reducible rfl))
    try simp only [Act.put, List.getElem_toArray, List.getElem_cons_succ, List.getElem_cons_zero, List.setIfInBounds_toArray, List.set_cons_zero, List.set_cons_succ]
    refine tkW (i := 18) (v := ?_) rfl (by kernel_rfl) (by kernel_rfl) (fun _ _ _ h => h) ?_ (by assumption) ?_; rotate_left; (focus (intro w hSw; (try dsimp only at hSw); go_simp; try with_reducible rfl))
    try simp only [Act.put, List.getElem_toArray, List.getElem_cons_succ, List.getElem_cons_zero, List.setIfInBounds_toArray, List.set_cons_zero, List.set_cons_succ]
    refine tkW (i := 19) (v := ?_) rfl (by kernel_rfl) (by kernel_rfl) (fun _ _ _ h => h) ?_ (by assumption) ?_; rotate_left; (focus (intro w hSw; (try dsimp only at hSw); go_simp; try with_reducible rfl))
    try simp only [Act.put, List.getElem_toArray, List.getElem_cons_succ, List.getElem_cons_zero, List.setIfInBounds_toArray, List.set_cons_zero, List.set_cons_succ]
    refine tkW (i := 20) (v := ?_) rfl (by kernel_rfl) (by kernel_rfl) (fun _ _ _ h => h) ?_ (by assumption) ?_; rotate_left; (focus (intro w hSw; (try dsimp only at hSw); go_simp; try with_reducible rfl))
    try simp only [Act.put, List.getElem_toArray, List.getElem_cons_succ, List.getElem_cons_zero, List.setIfInBounds_toArray, List.set_cons_zero, List.set_cons_succ]
    refine tkW (i := 21) (v := ?_) rfl (by kernel_rfl) (by kernel_rfl) (fun _ _ _ h => h) ?_ (by assumption) ?_; rotate_left; (focus (intro w hSw; (try dsimp only at hSw); go_simp; try with_reducible rfl))
    try simp only [Act.put, List.getElem_toArray, List.getElem_cons_succ, List.getElem_cons_zero, List.setIfInBounds_toArray, List.set_cons_zero, List.set_cons_succ]
    refine tkW (i := 22) (v := ?_) rfl (by kernel_rfl) (by kernel_rfl) (fun _ _ _ h => h) ?_ (by assumption) ?_; rotate_left; (focus (intro w hSw; (try dsimp only at hSw); go_simp; try with_reducible rfl))
    try simp only [Act.put, List.getElem_toArray, List.getElem_cons_succ, List.getElem_cons_zero, List.setIfInBounds_toArray, List.set_cons_zero, List.set_cons_succ]
    refine tkW (i := 23) (v := ?_) rfl (by kernel_rfl) (by kernel_rfl) (fun _ _ _ h => h) ?_ (by assumption) ?_; rotate_left; (focus (intro w hSw; (try dsimp only at hSw); go_simp; try with_reducible rfl))
    try simp only [Act.put, List.getElem_toArray, List.getElem_cons_succ, List.getElem_cons_zero, List.setIfInBounds_toArray, List.set_cons_zero, List.set_cons_succ]
    refine tkW (i := 24) (v := ?_) rfl (by kernel_rfl) (by kernel_rfl) (fun _ _ _ h => h) ?_ (by assumption) ?_; rotate_left; (focus (intro w hSw; (try dsimp only at hSw); go_simp; try with_reducible rfl))
    try simp only [Act.put, List.getElem_toArray, List.getElem_cons_succ, List.getElem_cons_zero, List.setIfInBounds_toArray, List.set_cons_zero, List.set_cons_succ]
    refine tkW (i := 25) (v := ?_) rfl (by kernel_rfl) (by kernel_rfl) (fun _ _ _ h => h) ?_ (by assumption) ?_; rotate_left; (focus (intro w hSw; (try dsimp only at hSw); go_simp; try with_reducible rfl))
    try simp only [Act.put, List.getElem_toArray, List.getElem_cons_succ, List.getElem_cons_zero, List.setIfInBounds_toArray, List.set_cons_zero, List.set_cons_succ]
    refine wpAnyH_done (by kernel_rfl) ?_ _
    all_goals
      go_wp2
      generalize hw3 : ext _ d2 os2 = W3
      have c0 : W3.cell? ⟨w.heap.size, 0, none⟩ = some (.int .i64 (k : Int)) := by subst hw3; exact hHeld.1
      have c1 : W3.cell? ⟨w.heap.size, 1, none⟩ = some (.int .i64 a) := by subst hw3; exact hHeld.2.1
      have c2 : W3.cell? ⟨w.heap.size, 2, none⟩ = some (.int .i64 r) := by subst hw3; exact hHeld.2.2.1
      have z0 : W3.cell? ⟨w.heap.size + 1, 0, none⟩ = some (.int .i64 0) := by subst hw3; go_simp
      have z1 : W3.cell? ⟨w.heap.size + 1, 1, none⟩ = some (.int .i64 0) := by subst hw3; go_simp
      have z2 : W3.cell? ⟨w.heap.size + 1, 2, none⟩ = some (.int .i64 0) := by subst hw3; go_simp
      have f0 : W3.frozen? ⟨w.heap.size + 1, 0, none⟩ = false := by subst hw3; go_simp
      have f1 : W3.frozen? ⟨w.heap.size + 1, 1, none⟩ = false := by subst hw3; go_simp
      have f2 : W3.frozen? ⟨w.heap.size + 1, 2, none⟩ = false := by subst hw3; go_simp
      have B3 : Below w.heap.size w W3 := by subst hw3; (repeat (first | exact Below.refl _ _ | exact Hbl.out | refine Below.ext ?_ (by first | omega | (simp; omega) | simp) | refine Below.setCell ?_ (by first | omega | (simp; omega) | simp) _ | refine Below.alloc ?_ (by first | omega | (simp; omega) | simp) _ | refine Below.drew ?_ | refine below_drewN ?_ _ | refine Below.step (by assumption) (by first | omega | (simp; omega) | simp) ?_))
      clear hHeld hw3
      go_region
      all_goals
        go_wp2
        obtain ⟨p0, p1, p2⟩ := set3 (v0 := .int .i64 (k : Int)) (v1 := .int .i64 a) (v2 := .int .i64 r) z0 z1 z2
        have B4 : Below w.heap.size w (((W3.setCell ⟨w.heap.size + 1, 0, none⟩ (.int .i64 (k : Int))).setCell ⟨w.heap.size + 1, 1, none⟩ (.int .i64 a)).setCell ⟨w.heap.size + 1, 2, none⟩ (.int .i64 r)).drew := by (repeat (first | exact Below.refl _ _ | exact Hbl.out | refine Below.ext ?_ (by first | omega | (simp; omega) | simp) | refine Below.setCell ?_ (by first | omega | (simp; omega) | simp) _ | refine Below.alloc ?_ (by first | omega | (simp; omega) | simp) _ | refine Below.drew ?_ | refine below_drewN ?_ _ | refine Below.step (by assumption) (by first | omega | (simp; omega) | simp) ?_))
        generalize hW4 : World.drew _ = W4 at p0 p1 p2 B4 ⊢
        have HB := Lib.hid B4
        clear B4 B3 z0 z1 z2 c0 c1 c2 f0 f1 f2 hW4
        simp [bodyPost, results, Try.results26, go_sem, p0, p1, p2]
        exact HB.out
  · obtain ⟨_, hf1, hf2, _, ha1, ha2, _, _⟩ := hOk_in g1
    obtain ⟨k, rfl⟩ : ∃ k : Nat, f = (k : Int) := ⟨f.toNat, by omega⟩
    have hk : k < t.length := by omega
    rw [Int.toNat_natCast] at g4
    obtain ⟨bt, ot, nA, nC, kA, kC, rfl, hbt, hns, y0, y1, y2, y3, y4, y5, y6⟩ := H.out.at_ (kth_at hk)
    have hsz : (kth t k).tx.size ≤ maxLen := hns.sz
    unfold maxLen at hsz
    clear y0 y1 y2 y3 y5 y6 hns
    have hR : rdF t (k : Int) a r many = (rdT (kth t k).tx a many, a + ((rdT (kth t k).tx a many).size : Int)) := by
      unfold rdF rdOk
      rw [g1, g2, g3, Int.toNat_natCast, g4]
      rfl
    rw [hR]
    clear hR
    rw [g1] at hV
    have HV := Lib.hid hV
    clear hV g1
    have hm : ¬ many < 0 := by have := of_decide_eq_true g2; omega
    have hb : (bits .and .i64 r 4 == 0) = false := by simpa using g3
    have hz : a ≤ ((kth t k).tx.size : Int) := by have := of_decide_eq_true g4; omega
    clear g2 g3 g4
    go_enter Try.func26, Try.ntmps26
    go_wp2
    refine wp_region_held_drew (S := (fun w' => w'.cell? ⟨w.heap.size, 0, none⟩ = some (.int .i64 (k : Int)) ∧ w'.cell? ⟨w.heap.size, 1, none⟩ = some (.int .i64 a) ∧ w'.cell? ⟨w.heap.size, 2, none⟩ = some (.int .i64 r) ∧ w'.cell? ⟨bt, ot + k * 7 + 4, none⟩ = some (.string (kth t k).tx))) (by kernel_rfl) ?_ (fun hHeld => ?_)
    · (try dsimp only)
      go_simp
    refine tkW (i := 0) (v := ?_) rfl (by kernel_rfl) (by kernel_rfl) (fun _ _ _ h => h) ?_ (by assumption) ?_; rotate_left; (focus (intro w hSw; (try dsimp only at hSw); go_simp; try with_reducible rfl))
    try simp only [Act.put, List.getElem_toArray, List.getElem_cons_succ, List.getElem_cons_zero, List.setIfInBounds_toArray, List.set_cons_zero, List.set_cons_succ]
    refine tkW (i := 1) (v := ?_) rfl (by kernel_rfl) (by kernel_rfl) (fun _ _ _ h => h) ?_ (by assumption) ?_; rotate_left; (focus (intro w hSw; (try dsimp only at hSw); go_simp; try with_reducible rfl))
    try simp only [Act.put, List.getElem_toArray, List.getElem_cons_succ, List.getElem_cons_zero, List.setIfInBounds_toArray, List.set_cons_zero, List.set_cons_succ]
    refine wpAnyH_ready (rs := [2]) (by kernel_rfl) (by simp) ?_
    refine AllReadyH.cons rfl (fun K hK => ?_) AllReadyH.nil
    go_simp
    (go_at_call 49; refine (HV.out _ (H.out.below ?_)).mono ?_; (focus ((repeat (first | exact Below.refl _ _ | exact Hbl.out | refine Below.ext ?_ (by first | omega | (simp; omega) | simp) | refine Below.setCell ?_ (by first | omega | (simp; omega) | simp) _ | refine Below.alloc ?_ (by first | omega | (simp; omega) | simp) _ | refine Below.drew ?_ | refine below_drewN ?_ _ | refine Below.step (by assumption) (by first | omega | (simp; omega) | simp) ?_)))); rintro e w2 ⟨rfl, b2⟩; obtain ⟨d2, os2, rfl⟩ := ext_of_below b2; clear b2)
    refine hK.out _ _ ?_ (fun hHeld => ?_)
    · (try dsimp only)
      go_simp
    clear hK K
    try simp only [Act.put, List.getElem_toArray, List.getElem_cons_succ, List.getElem_cons_zero, List.setIfInBounds_toArray, List.set_cons_zero, List.set_cons_succ]
    refine tkW (i := 3) (v := ?_) rfl (by kernel_rfl) (by kernel_rfl) (fun _ _ _ h => h) ?_ (by assumption) ?_; rotate_left; (focus (intro w hSw; (try dsimp only at hSw); go_simp; try with_reducible rfl))
    try simp only [Act.put, List.getElem_toArray, List.getElem_cons_succ, List.getElem_cons_zero, List.setIfInBounds_toArray, List.set_cons_zero, List.set_cons_succ]
    refine tkW (i := 4) (v := ?_) rfl (by kernel_rfl) (by kernel_rfl) (fun _ _ _ h => h) ?_ (by assumption) ?_; rotate_left; (focus (intro w hSw; (try dsimp only at hSw); go_simp; try with_reducible rfl))
    try simp only [Act.put, List.getElem_toArray, List.getElem_cons_succ, List.getElem_cons_zero, List.setIfInBounds_toArray, List.set_cons_zero, List.set_cons_succ]
    refine tkW (i := 5) (v := ?_) rfl (by kernel_rfl) (by kernel_rfl) (fun _ _ _ h => h) ?_ (by assumption) ?_; rotate_left; (focus (intro w hSw; (try dsimp only at hSw); go_simp; try with_reducible rfl))
    try simp only [Act.put, List.getElem_toArray, List.getElem_cons_succ, List.getElem_cons_zero, List.setIfInBounds_toArray, List.set_cons_zero, List.set_cons_succ]
    refine tkW (i := 6) (v := ?_) rfl (by kernel_rfl) (by kernel_rfl) (fun _ _ _ h => h) ?_ (by assumption) ?_; rotate_left; (focus (intro w hSw; (try dsimp only at hSw); go_simp; try with_reducible rfl))
    try simp only [Act.put, List.getElem_toArray, List.getElem_cons_succ, List.getElem_cons_zero, List.setIfInBounds_toArray, List.set_cons_zero, List.set_cons_succ]
    rw [show decide (many < 0) = false from decide_eq_false (by omega)]
    refine tkW (i := 7) (v := ?_) rfl (by kernel_rfl) (by kernel_rfl) (fun _ _ _ h => h) ?_ (by assumption) ?_; rotate_left; (focus (intro w hSw; (try dsimp only at hSw); go_simp; try with_reducible rfl))
    try simp only [Act.put, List.getElem_toArray, List.getElem_cons_succ, List.getElem_cons_zero, List.setIfInBounds_toArray, List.set_cons_zero, List.set_cons_succ]
    refine tkW (i := 8) (v := ?_) rfl (by kernel_rfl) (by kernel_rfl) (fun _ _ _ h => h) ?_ (by assumption) ?_; rotate_left; (focus (intro w hSw; (try dsimp only at hSw); go_simp; try with_reducible rfl))
    try simp only [Act.put, List.getElem_toArray, List.getElem_cons_succ, List.getElem_cons_zero, List.setIfInBounds_toArray, List.set_cons_zero, List.set_cons_succ]
    refine tkW (i := 9) (v := ?_) rfl (by kernel_rfl) (by kernel_rfl) (fun _ _ _ h => h) ?_ (by assumption) ?_; rotate_left; (focus (intro w hSw; (try dsimp only at hSw); go_simp; try with_reducible rfl))
    try simp only [Act.put, List.getElem_toArray, List.getElem_cons_succ, List.getElem_cons_zero, List.setIfInBounds_toArray, List.set_cons_zero, List.set_cons_succ]
    refine tkW (i := 10) (v := ?_) rfl (by kernel_rfl) (by kernel_rfl) (fun _ _ _ h => h) ?_ (by assumption) ?_; rotate_left; (focus (intro w hSw; (try dsimp only at hSw); go_simp; try with_reducible rfl))
    try simp only [Act.put, List.getElem_toArray, List.getElem_cons_succ, List.getElem_cons_zero, List.setIfInBounds_toArray, List.set_cons_zero, List.set_cons_succ]
    refine tkW (i := 11) (v := ?_) rfl (by kernel_rfl) (by kernel_rfl) (fun _ _ _ h => h) ?_ (by assumption) ?_; rotate_left; (focus (intro w hSw; (try dsimp only at hSw); go_simp; try with_reducible rfl))
    try simp only [Act.put, List.getElem_toArray, List.getElem_cons_succ, List.getElem_cons_zero, List.setIfInBounds_toArray, List.set_cons_zero, List.set_cons_succ]
    refine tkW (i := 12) (v := ?_) rfl (by kernel_rfl) (by kernel_rfl) (fun _ _ _ h => h) ?_ (by assumption) ?_; rotate_left; (focus (intro w hSw; (try dsimp only at hSw); go_simp; try with_reducible rfl))
    try simp only [Act.put, List.getElem_toArray, List.getElem_cons_succ, List.getElem_cons_zero, List.setIfInBounds_toArray, List.set_cons_zero, List.set_cons_succ]
    refine tkW (i := 13) (v := ?_) rfl (by kernel_rfl) (by kernel_rfl) (fun _ _ _ h => h) ?_ (by assumption) ?_; rotate_left; (focus (intro w hSw; (try dsimp only at hSw); go_simp; try with_reducible rfl))
    try simp only [Act.put, List.getElem_toArray, List.getElem_cons_succ, List.getElem_cons_zero, List.setIfInBounds_toArray, List.set_cons_zero, List.set_cons_succ]
    refine tkW (i := 14) (v := ?_) rfl (by kernel_rfl) (by kernel_rfl) (fun _ _ _ h => h) ?_ (by assumption) ?_; rotate_left; (focus (intro w hSw; (try dsimp only at hSw); go_simp; try with_reducible rfl))
    try simp only [Act.put, List.getElem_toArray, List.getElem_cons_succ, List.getElem_cons_zero, List.setIfInBounds_toArray, List.set_cons_zero, List.set_cons_succ]
    refine tkW (i := 15) (v := ?_) rfl (by kernel_rfl) (by kernel_rfl) (fun _ _ _ h => h) ?_ (by assumption) ?_; rotate_left; (focus (intro w hSw; (try dsimp only at hSw); go_simp; try with_reducible rfl))
    try simp only [Act.put, List.getElem_toArray, List.getElem_cons_succ, List.getElem_cons_zero, List.setIfInBounds_toArray, List.set_cons_zero, List.set_cons_succ]
    refine tkW (i := 16) (v := ?_) rfl (by kernel_rfl) (by kernel_rfl) (fun _ _ _ h => h) ?_ (by assumption) ?_; rotate_left; (focus (intro w hSw; (try dsimp only at hSw); go_simp; try with_reducible rfl))
    try simp only [Act.put, List.getElem_toArray, List.getElem_cons_succ, List.getElem_cons_zero, List.setIfInBounds_toArray, List.set_cons_zero, List.set_cons_succ]
    refine tkW (i := 17) (v := ?_) rfl (by kernel_rfl) (by kernel_rfl) (fun _ _ _ h => h) ?_ (by assumption) ?_; rotate_left; (focus (intro w hSw; (try dsimp only at hSw); go_simp; try with_reducible rfl))
    try simp only [Act.put, List.getElem_toArray, List.getElem_cons_succ, List.getElem_cons_zero, List.setIfInBounds_toArray, List.set_cons_zero, List.set_cons_succ]
    refine tkW (i := 18) (v := ?_) rfl (by kernel_rfl) (by kernel_rfl) (fun _ _ _ h => h) ?_ (by assumption) ?_; rotate_left; (focus (intro w hSw; (try dsimp only at hSw); go_simp; try with_reducible rfl))
    try simp only [Act.put, List.getElem_toArray, List.getElem_cons_succ, List.getElem_cons_zero, List.setIfInBounds_toArray, List.set_cons_zero, List.set_cons_succ]
    refine tkW (i := 19) (v := ?_) rfl (by kernel_rfl) (by kernel_rfl) (fun _ _ _ h => h) ?_ (by assumption) ?_; rotate_left; (focus (intro w hSw; (try dsimp only at hSw); go_simp; try with_reducible rfl))
    try simp only [Act.put, List.getElem_toArray, List.getElem_cons_succ, List.getElem_cons_zero, List.setIfInBounds_toArray, List.set_cons_zero, List.set_cons_succ]
    refine tkW (i := 20) (v := ?_) rfl (by kernel_rfl) (by kernel_rfl) (fun _ _ _ h => h) ?_ (by assumption) ?_; rotate_left; (focus (intro w hSw; (try dsimp only at hSw); go_simp; try with_reducible rfl))
    try simp only [Act.put, List.getElem_toArray, List.getElem_cons_succ, List.getElem_cons_zero, List.setIfInBounds_toArray, List.set_cons_zero, List.set_cons_succ]
    refine tkW (i := 21) (v := ?_) rfl (by kernel_rfl) (by kernel_rfl) (fun _ _ _ h => h) ?_ (by assumption) ?_; rotate_left; (focus (intro w hSw; (try dsimp only at hSw); go_simp; try with_reducible rfl))
    try simp only [Act.put, List.getElem_toArray, List.getElem_cons_succ, List.getElem_cons_zero, List.setIfInBounds_toArray, List.set_cons_zero, List.set_cons_succ]
    refine tkW (i := 22) (v := ?_) rfl (by kernel_rfl) (by kernel_rfl) (fun _ _ _ h => h) ?_ (by assumption) ?_; rotate_left; (focus (intro w hSw; (try dsimp only at hSw); go_simp; try with_reducible rfl))
    try simp only [Act.put, List.getElem_toArray, List.getElem_cons_succ, List.getElem_cons_zero, List.setIfInBounds_toArray, List.set_cons_zero, List.set_cons_succ]
    refine tkW (i := 23) (v := ?_) rfl (by kernel_rfl) (by kernel_rfl) (fun _ _ _ h => h) ?_ (by assumption) ?_; rotate_left; (focus (intro w hSw; (try dsimp only at hSw); go_simp; try with_reducible rfl))
    try simp only [Act.put, List.getElem_toArray, List.getElem_cons_succ, List.getElem_cons_zero, List.setIfInBounds_toArray, List.set_cons_zero, List.set_cons_succ]
    refine tkW (i := 24) (v := ?_) rfl (by kernel_rfl) (by kernel_rfl) (fun _ _ _ h => h) ?_ (by assumption) ?_; rotate_left; (focus (intro w hSw; (try dsimp only at hSw); go_simp; try with_reducible rfl))
    try simp only [Act.put, List.getElem_toArray, List.getElem_cons_succ, List.getElem_cons_zero, List.setIfInBounds_toArray, List.set_cons_zero, List.set_cons_succ]
    refine tkW (i := 25) (v := ?_) rfl (by kernel_rfl) (by kernel_rfl) (fun _ _ _ h => h) ?_ (by assumption) ?_; rotate_left; (focus (intro w hSw; (try dsimp only at hSw); go_simp; try with_reducible rfl))
    try simp only [Act.put, List.getElem_toArray, List.getElem_cons_succ, List.getElem_cons_zero, List.setIfInBounds_toArray, List.set_cons_zero, List.set_cons_succ]
    refine wpAnyH_done (by kernel_rfl) ?_ _
    all_goals
      go_wp2
      generalize hw3 : ext _ d2 os2 = W3
      have c0 : W3.cell? ⟨w.heap.size, 0, none⟩ = some (.int .i64 (k : Int)) := by subst hw3; exact hHeld.1
      have c1 : W3.cell? ⟨w.heap.size, 1, none⟩ = some (.int .i64 a) := by subst hw3; exact hHeld.2.1
      have c2 : W3.cell? ⟨w.heap.size, 2, none⟩ = some (.int .i64 r) := by subst hw3; exact hHeld.2.2.1
      have z0 : W3.cell? ⟨w.heap.size + 1, 0, none⟩ = some (.int .i64 0) := by subst hw3; go_simp
      have z1 : W3.cell? ⟨w.heap.size + 1, 1, none⟩ = some (.int .i64 0) := by subst hw3; go_simp
      have z2 : W3.cell? ⟨w.heap.size + 1, 2, none⟩ = some (.int .i64 0) := by subst hw3; go_simp
      have f0 : W3.frozen? ⟨w.heap.size + 1, 0, none⟩ = false := by subst hw3; go_simp
      have f1 : W3.frozen? ⟨w.heap.size + 1, 1, none⟩ = false := by subst hw3; go_simp
      have f2 : W3.frozen? ⟨w.heap.size + 1, 2, none⟩ = false := by subst hw3; go_simp
      have fr1 : W3.frozen? ⟨w.heap.size, 1, none⟩ = false := by subst hw3; go_simp
      have t4 : W3.cell? ⟨bt, ot + k * 7 + 4, none⟩ = some (.string (kth t k).tx) := by subst hw3; exact hHeld.2.2.2
      have B3 : Below w.heap.size w W3 := by subst hw3; (repeat (first | exact Below.refl _ _ | exact Hbl.out | refine Below.ext ?_ (by first | omega | (simp; omega) | simp) | refine Below.setCell ?_ (by first | omega | (simp; omega) | simp) _ | refine Below.alloc ?_ (by first | omega | (simp; omega) | simp) _ | refine Below.drew ?_ | refine below_drewN ?_ _ | refine Below.step (by assumption) (by first | omega | (simp; omega) | simp) ?_))
      clear hHeld hw3
      generalize hTx : (kth t k).tx = tx at *
      have HTx := Lib.hid hTx
      clear hTx
      go_quiet (fail)
      by_cases hq : many ≤ ((tx.size - a.toNat : Nat) : Int)
      · have hmx : max many 0 = many := Int.max_eq_left (by omega)
        have zw : wrap64 (a + max many 0) = a + many := hmx.symm ▸ IntWalk.wrap64_in (a + many) (by omega)
        have HT := Lib.hid (rdT_le (tx := tx) (by omega) ha1 hz hq)
        clear hmx
        go_wp2_with fail
        generalize hw6 : World.setCell _ _ _ = W6
        have c0' : W6.cell? ⟨w.heap.size, 0, none⟩ = some (.int .i64 (k : Int)) := by subst hw6; go_simp
        have c1' : W6.cell? ⟨w.heap.size, 1, none⟩ = some (.int .i64 (a + many)) := by subst hw6; go_simp; try exact Int.max_eq_left (by omega)
        have c2' : W6.cell? ⟨w.heap.size, 2, none⟩ = some (.int .i64 r) := by subst hw6; go_simp
        have y0 : W6.cell? ⟨w.heap.size + 1, 0, none⟩ = some (.int .i64 0) := by subst hw6; go_simp
        have y1 : W6.cell? ⟨w.heap.size + 1, 1, none⟩ = some (.int .i64 0) := by subst hw6; go_simp
        have y2 : W6.cell? ⟨w.heap.size + 1, 2, none⟩ = some (.int .i64 0) := by subst hw6; go_simp
        have e0 : W6.frozen? ⟨w.heap.size + 1, 0, none⟩ = false := by subst hw6; go_simp
        have e1 : W6.frozen? ⟨w.heap.size + 1, 1, none⟩ = false := by subst hw6; go_simp
        have e2 : W6.frozen? ⟨w.heap.size + 1, 2, none⟩ = false := by subst hw6; go_simp
        have B6 : Below w.heap.size w W6 := by subst hw6; (repeat (first | exact Below.refl _ _ | exact Hbl.out | refine Below.ext ?_ (by first | omega | (simp; omega) | simp) | refine Below.setCell ?_ (by first | omega | (simp; omega) | simp) _ | refine Below.alloc ?_ (by first | omega | (simp; omega) | simp) _ | refine Below.drew ?_ | refine below_drewN ?_ _ | refine Below.step (by assumption) (by first | omega | (simp; omega) | simp) ?_))
        clear hw6 c0 c1 c2 z0 z1 z2 f0 f1 f2 fr1 t4 B3 zw
        go_region
        all_goals
          go_wp2
          obtain ⟨p0, p1, p2⟩ := set3 (v0 := .int .i64 (k : Int)) (v1 := .int .i64 (a + many)) (v2 := .int .i64 r) y0 y1 y2
          have B4 : Below w.heap.size w (((W6.setCell ⟨w.heap.size + 1, 0, none⟩ (.int .i64 (k : Int))).setCell ⟨w.heap.size + 1, 1, none⟩ (.int .i64 (a + many))).setCell ⟨w.heap.size + 1, 2, none⟩ (.int .i64 r)).drew := by (repeat (first | exact Below.refl _ _ | exact Hbl.out | refine Below.ext ?_ (by first | omega | (simp; omega) | simp) | refine Below.setCell ?_ (by first | omega | (simp; omega) | simp) _ | refine Below.alloc ?_ (by first | omega | (simp; omega) | simp) _ | refine Below.drew ?_ | refine below_drewN ?_ _ | refine Below.step (by assumption) (by first | omega | (simp; omega) | simp) ?_))
          generalize hW4 : World.drew _ = W4 at p0 p1 p2 B4 ⊢
          have HB := Lib.hid B4
          clear B4 B6 y0 y1 y2 c0' c1' c2' e0 e1 e2 hW4
          simp [bodyPost, results, Try.results26, go_sem, p0, p1, p2]
          obtain ⟨HT1, HT2⟩ := HT.out
          rw [HTx.out]
          refine ⟨⟨?_, ?_⟩, HB.out⟩
          · rw [HT1]
          · omega
      · have HT := Lib.hid (rdT_gt (tx := tx) (by omega) ha1 hz (show ((tx.size - a.toNat : Nat) : Int) < many by omega))
        have zw : wrap64 (a + ((tx.size - a.toNat : Nat) : Int)) = a + ((tx.size - a.toNat : Nat) : Int) := IntWalk.wrap64_in _ (by omega)
        go_wp2_with fail
        generalize hw6 : World.setCell _ _ _ = W6
        have c0' : W6.cell? ⟨w.heap.size, 0, none⟩ = some (.int .i64 (k : Int)) := by subst hw6; go_simp
        have c1' : W6.cell? ⟨w.heap.size, 1, none⟩ = some (.int .i64 (a + ((tx.size - a.toNat : Nat) : Int))) := by subst hw6; go_simp
        have c2' : W6.cell? ⟨w.heap.size, 2, none⟩ = some (.int .i64 r) := by subst hw6; go_simp
        have y0 : W6.cell? ⟨w.heap.size + 1, 0, none⟩ = some (.int .i64 0) := by subst hw6; go_simp
        have y1 : W6.cell? ⟨w.heap.size + 1, 1, none⟩ = some (.int .i64 0) := by subst hw6; go_simp
        have y2 : W6.cell? ⟨w.heap.size + 1, 2, none⟩ = some (.int .i64 0) := by subst hw6; go_simp
        have e0 : W6.frozen? ⟨w.heap.size + 1, 0, none⟩ = false := by subst hw6; go_simp
        have e1 : W6.frozen? ⟨w.heap.size + 1, 1, none⟩ = false := by subst hw6; go_simp
        have e2 : W6.frozen? ⟨w.heap.size + 1, 2, none⟩ = false := by subst hw6; go_simp
        have B6 : Below w.heap.size w W6 := by subst hw6; (repeat (first | exact Below.refl _ _ | exact Hbl.out | refine Below.ext ?_ (by first | omega | (simp; omega) | simp) | refine Below.setCell ?_ (by first | omega | (simp; omega) | simp) _ | refine Below.alloc ?_ (by first | omega | (simp; omega) | simp) _ | refine Below.drew ?_ | refine below_drewN ?_ _ | refine Below.step (by assumption) (by first | omega | (simp; omega) | simp) ?_))
        clear hw6 c0 c1 c2 z0 z1 z2 f0 f1 f2 fr1 t4 B3 zw
        go_region
        all_goals
          go_wp2
          obtain ⟨p0, p1, p2⟩ := set3 (v0 := .int .i64 (k : Int)) (v1 := .int .i64 (a + ((tx.size - a.toNat : Nat) : Int))) (v2 := .int .i64 r) y0 y1 y2
          have B4 : Below w.heap.size w (((W6.setCell ⟨w.heap.size + 1, 0, none⟩ (.int .i64 (k : Int))).setCell ⟨w.heap.size + 1, 1, none⟩ (.int .i64 (a + ((tx.size - a.toNat : Nat) : Int)))).setCell ⟨w.heap.size + 1, 2, none⟩ (.int .i64 r)).drew := by (repeat (first | exact Below.refl _ _ | exact Hbl.out | refine Below.ext ?_ (by first | omega | (simp; omega) | simp) | refine Below.setCell ?_ (by first | omega | (simp; omega) | simp) _ | refine Below.alloc ?_ (by first | omega | (simp; omega) | simp) _ | refine Below.drew ?_ | refine below_drewN ?_ _ | refine Below.step (by assumption) (by first | omega | (simp; omega) | simp) ?_))
          generalize hW4 : World.drew _ = W4 at p0 p1 p2 B4 ⊢
          have HB := Lib.hid B4
          clear B4 B6 y0 y1 y2 c0' c1' c2' e0 e1 e2 hW4
          simp [bodyPost, results, Try.results26, go_sem, p0, p1, p2]
          obtain ⟨HT1, HT2⟩ := HT.out
          rw [HTx.out]
          refine ⟨⟨?_, ?_⟩, HB.out⟩
          · rw [HT1]
          · omega
set_option maxRecDepth 100000 in
set_option maxHeartbeats 4000000 in
theorem rdS_of (v : Value) (t : List Nd) (f a r many : Int) (w : World) (h : TreeR w v t) (ht : t.length ≤ 1000) (hkz : (kidsOf t).length ≤ 1000000) :
    Calls Try.prog 27 #[v, .agg #[.int .i64 f, .int .i64 a, .int .i64 r], .int .i64 many] w fun e w' => e = .returned (.tuple #[.string (rdF t f a r many).1, .agg #[.int .i64 f, .int .i64 (rdF t f a r many).2, .int .i64 r]]) ∧ Below w.heap.size w w' := by
  have hV := fun w h => hvS_of v t f a r w h ht hkz
  have H := Lib.hid h
  obtain ⟨A, cap, rfl⟩ := h.shape
  have hcap := h.caps
  clear h
  rcases and4 (hOk t f a r) (decide (0 ≤ many)) (!(bits .and .i64 r 4 == 0)) (decide (a ≤ ((kth t f.toNat).tx.size : Int))) with g1 | ⟨g1, g2⟩ | ⟨g1, g2, g3⟩ | ⟨g1, g2, g3, g4⟩ | ⟨g1, g2, g3, g4⟩
  · rw [rd_no (show rdOk t f a r many = false by unfold rdOk; rw [g1]; rfl)]
    rw [g1] at hV
    have HV := Lib.hid hV
    clear hV g1
    go_enter Try.func27, Try.ntmps27
    go_wp2
    refine wp_region_held_drew (S := (fun w' => w'.cell? ⟨w.heap.size, 0, none⟩ = some (.int .i64 f) ∧ w'.cell? ⟨w.heap.size, 1, none⟩ = some (.int .i64 a) ∧ w'.cell? ⟨w.heap.size, 2, none⟩ = some (.int .i64 r))) (by kernel_rfl) ?_ (fun hHeld => ?_)
    · (try dsimp only)
      go_simp
    refine tkW (i := 0) (v := ?_) rfl (by kernel_rfl) (by kernel_rfl) (fun _ _ _ h => h) ?_ (by assumption) ?_; rotate_left; (focus (intro w hSw; (try dsimp only at hSw); go_simp; try with_reducible rfl))
    try simp only [Act.put, List.getElem_toArray, List.getElem_cons_succ, List.getElem_cons_zero, List.setIfInBounds_toArray, List.set_cons_zero, List.set_cons_succ]
    refine tkW (i := 1) (v := ?_) rfl (by kernel_rfl) (by kernel_rfl) (fun _ _ _ h => h) ?_ (by assumption) ?_; rotate_left; (focus (intro w hSw; (try dsimp only at hSw); go_simp; try with_reducible rfl))
    try simp only [Act.put, List.getElem_toArray, List.getElem_cons_succ, List.getElem_cons_zero, List.setIfInBounds_toArray, List.set_cons_zero, List.set_cons_succ]
    refine wpAnyH_ready (rs := [2]) (by kernel_rfl) (by simp) ?_
    refine AllReadyH.cons rfl (fun K hK => ?_) AllReadyH.nil
    go_simp
    (go_at_call 50; refine (HV.out _ (H.out.below ?_)).mono ?_; (focus ((repeat (first | exact Below.refl _ _ | exact Hbl.out | refine Below.ext ?_ (by first | omega | (simp; omega) | simp) | refine Below.setCell ?_ (by first | omega | (simp; omega) | simp) _ | refine Below.alloc ?_ (by first | omega | (simp; omega) | simp) _ | refine Below.drew ?_ | refine below_drewN ?_ _ | refine Below.step (by assumption) (by first | omega | (simp; omega) | simp) ?_)))); rintro e w2 ⟨rfl, b2⟩; obtain ⟨d2, os2, rfl⟩ := ext_of_below b2; clear b2)
    refine hK.out _ _ ?_ (fun hHeld => ?_)
    · (try dsimp only)
      go_simp
    clear hK K
    try simp only [Act.put, List.getElem_toArray, List.getElem_cons_succ, List.getElem_cons_zero, List.setIfInBounds_toArray, List.set_cons_zero, List.set_cons_succ]
    refine tkW (i := 3) (v := ?_) rfl (by kernel_rfl) (by kernel_rfl) (fun _ _ _ h => h) ?_ (by assumption) ?_; rotate_left; (focus (intro w hSw; (try dsimp only at hSw); go_simp; try with_reducible rfl))
    try simp only [Act.put, List.getElem_toArray, List.getElem_cons_succ, List.getElem_cons_zero, List.setIfInBounds_toArray, List.set_cons_zero, List.set_cons_succ]
    refine tkW (i := 4) (v := ?_) rfl (by kernel_rfl) (by kernel_rfl) (fun _ _ _ h => h) ?_ (by assumption) ?_; rotate_left; (focus (intro w hSw; (try dsimp only at hSw); go_simp; try with_reducible rfl))
    try simp only [Act.put, List.getElem_toArray, List.getElem_cons_succ, List.getElem_cons_zero, List.setIfInBounds_toArray, List.set_cons_zero, List.set_cons_succ]
    refine tkN (i := 5) rfl (by kernel_rfl) (by kernel_rfl) (fun _ _ _ h => h) (by assumption) ?_
    try simp only [Act.put, List.getElem_toArray, List.getElem_cons_succ, List.getElem_cons_zero, List.setIfInBounds_toArray, List.set_cons_zero, List.set_cons_succ]
    refine tkN (i := 6) rfl (by kernel_rfl) (by kernel_rfl) (fun _ _ _ h => h) (by assumption) ?_
    try simp only [Act.put, List.getElem_toArray, List.getElem_cons_succ, List.getElem_cons_zero, List.setIfInBounds_toArray, List.set_cons_zero, List.set_cons_succ]
    refine tkW (i := 7) (v := ?_) rfl (by kernel_rfl) (by kernel_rfl) (fun _ _ _ h => h) ?_ (by assumption) ?_; rotate_left; (focus (intro w hSw; (try dsimp only at hSw); go_simp; try with_reducible rfl))
    try simp only [Act.put, List.getElem_toArray, List.getElem_cons_succ, List.getElem_cons_zero, List.setIfInBounds_toArray, List.set_cons_zero, List.set_cons_succ]
    refine tkW (i := 8) (v := ?_) rfl (by kernel_rfl) (by kernel_rfl) (fun _ _ _ h => h) ?_ (by assumption) ?_; rotate_left; (focus (intro w hSw; (try dsimp only at hSw); go_simp; try with_reducible rfl))
    try simp only [Act.put, List.getElem_toArray, List.getElem_cons_succ, List.getElem_cons_zero, List.setIfInBounds_toArray, List.set_cons_zero, List.set_cons_succ]
    refine tkN (i := 9) rfl (by kernel_rfl) (by kernel_rfl) (fun _ _ _ h => h) (by assumption) ?_
    try simp only [Act.put, List.getElem_toArray, List.getElem_cons_succ, List.getElem_cons_zero, List.setIfInBounds_toArray, List.set_cons_zero, List.set_cons_succ]
    refine tkN (i := 10) rfl (by kernel_rfl) (by kernel_rfl) (fun _ _ _ h => h) (by assumption) ?_
    try simp only [Act.put, List.getElem_toArray, List.getElem_cons_succ, List.getElem_cons_zero, List.setIfInBounds_toArray, List.set_cons_zero, List.set_cons_succ]
    refine tkN (i := 11) rfl (by kernel_rfl) (by kernel_rfl) (fun _ _ _ h => h) (by assumption) ?_
    try simp only [Act.put, List.getElem_toArray, List.getElem_cons_succ, List.getElem_cons_zero, List.setIfInBounds_toArray, List.set_cons_zero, List.set_cons_succ]
    refine tkN (i := 12) rfl (by kernel_rfl) (by kernel_rfl) (fun _ _ _ h => h) (by assumption) ?_
    try simp only [Act.put, List.getElem_toArray, List.getElem_cons_succ, List.getElem_cons_zero, List.setIfInBounds_toArray, List.set_cons_zero, List.set_cons_succ]
    refine tkW (i := 13) (v := ?_) rfl (by kernel_rfl) (by kernel_rfl) (fun _ _ _ h => h) ?_ (by assumption) ?_; rotate_left; (focus (intro w hSw; (try dsimp only at hSw); go_simp; try with_reducible rfl))
    try simp only [Act.put, List.getElem_toArray, List.getElem_cons_succ, List.getElem_cons_zero, List.setIfInBounds_toArray, List.set_cons_zero, List.set_cons_succ]
    refine tkW (i := 14) (v := ?_) rfl (by kernel_rfl) (by kernel_rfl) (fun _ _ _ h => h) ?_ (by assumption) ?_; rotate_left; (focus (intro w hSw; (try dsimp only at hSw); go_simp; try with_reducible rfl))
    try simp only [Act.put, List.getElem_toArray, List.getElem_cons_succ, List.getElem_cons_zero, List.setIfInBounds_toArray, List.set_cons_zero, List.set_cons_succ]
    refine tkN (i := 15) rfl (by kernel_rfl) (by kernel_rfl) (fun _ _ _ h => h) (by assumption) ?_
    try simp only [Act.put, List.getElem_toArray, List.getElem_cons_succ, List.getElem_cons_zero, List.setIfInBounds_toArray, List.set_cons_zero, List.set_cons_succ]
    refine tkN (i := 16) rfl (by kernel_rfl) (by kernel_rfl) (fun _ _ _ h => h) (by assumption) ?_
    try simp only [Act.put, List.getElem_toArray, List.getElem_cons_succ, List.getElem_cons_zero, List.setIfInBounds_toArray, List.set_cons_zero, List.set_cons_succ]
    refine tkN (i := 17) rfl (by kernel_rfl) (by kernel_rfl) (fun _ _ _ h => h) (by assumption) ?_
    try simp only [Act.put, List.getElem_toArray, List.getElem_cons_succ, List.getElem_cons_zero, List.setIfInBounds_toArray, List.set_cons_zero, List.set_cons_succ]
    refine tkN (i := 18) rfl (by kernel_rfl) (by kernel_rfl) (fun _ _ _ h => h) (by assumption) ?_
    try simp only [Act.put, List.getElem_toArray, List.getElem_cons_succ, List.getElem_cons_zero, List.setIfInBounds_toArray, List.set_cons_zero, List.set_cons_succ]
    refine tkN (i := 19) rfl (by kernel_rfl) (by kernel_rfl) (fun _ _ _ h => h) (by assumption) ?_
    try simp only [Act.put, List.getElem_toArray, List.getElem_cons_succ, List.getElem_cons_zero, List.setIfInBounds_toArray, List.set_cons_zero, List.set_cons_succ]
    refine tkN (i := 20) rfl (by kernel_rfl) (by kernel_rfl) (fun _ _ _ h => h) (by assumption) ?_
    try simp only [Act.put, List.getElem_toArray, List.getElem_cons_succ, List.getElem_cons_zero, List.setIfInBounds_toArray, List.set_cons_zero, List.set_cons_succ]
    refine tkN (i := 21) rfl (by kernel_rfl) (by kernel_rfl) (fun _ _ _ h => h) (by assumption) ?_
    try simp only [Act.put, List.getElem_toArray, List.getElem_cons_succ, List.getElem_cons_zero, List.setIfInBounds_toArray, List.set_cons_zero, List.set_cons_succ]
    refine tkN (i := 22) rfl (by kernel_rfl) (by kernel_rfl) (fun _ _ _ h => h) (by assumption) ?_
    try simp only [Act.put, List.getElem_toArray, List.getElem_cons_succ, List.getElem_cons_zero, List.setIfInBounds_toArray, List.set_cons_zero, List.set_cons_succ]
    refine tkN (i := 23) rfl (by kernel_rfl) (by kernel_rfl) (fun _ _ _ h => h) (by assumption) ?_
    try simp only [Act.put, List.getElem_toArray, List.getElem_cons_succ, List.getElem_cons_zero, List.setIfInBounds_toArray, List.set_cons_zero, List.set_cons_succ]
    refine tkN (i := 24) rfl (by kernel_rfl) (by kernel_rfl) (fun _ _ _ h => h) (by assumption) ?_
    try simp only [Act.put, List.getElem_toArray, List.getElem_cons_succ, List.getElem_cons_zero, List.setIfInBounds_toArray, List.set_cons_zero, List.set_cons_succ]
    refine tkW (i := 25) (v := ?_) rfl (by kernel_rfl) (by kernel_rfl) (fun _ _ _ h => h) ?_ (by assumption) ?_; rotate_left; (focus (intro w hSw; (try dsimp only at hSw); go_simp; try with_reducible rfl))
    try simp only [Act.put, List.getElem_toArray, List.getElem_cons_succ, List.getElem_cons_zero, List.setIfInBounds_toArray, List.set_cons_zero, List.set_cons_succ]
    refine wpAnyH_done (by kernel_rfl) ?_ _
    all_goals
      go_wp2
      generalize hw3 : ext _ d2 os2 = W3
      have c0 : W3.cell? ⟨w.heap.size, 0, none⟩ = some (.int .i64 f) := by subst hw3; exact hHeld.1
      have c1 : W3.cell? ⟨w.heap.size, 1, none⟩ = some (.int .i64 a) := by subst hw3; exact hHeld.2.1
      have c2 : W3.cell? ⟨w.heap.size, 2, none⟩ = some (.int .i64 r) := by subst hw3; exact hHeld.2.2
      have z0 : W3.cell? ⟨w.heap.size + 1, 0, none⟩ = some (.int .i64 0) := by subst hw3; go_simp
      have z1 : W3.cell? ⟨w.heap.size + 1, 1, none⟩ = some (.int .i64 0) := by subst hw3; go_simp
      have z2 : W3.cell? ⟨w.heap.size + 1, 2, none⟩ = some (.int .i64 0) := by subst hw3; go_simp
      have f0 : W3.frozen? ⟨w.heap.size + 1, 0, none⟩ = false := by subst hw3; go_simp
      have f1 : W3.frozen? ⟨w.heap.size + 1, 1, none⟩ = false := by subst hw3; go_simp
      have f2 : W3.frozen? ⟨w.heap.size + 1, 2, none⟩ = false := by subst hw3; go_simp
      have B3 : Below w.heap.size w W3 := by subst hw3; (repeat (first | exact Below.refl _ _ | exact Hbl.out | refine Below.ext ?_ (by first | omega | (simp; omega) | simp) | refine Below.setCell ?_ (by first | omega | (simp; omega) | simp) _ | refine Below.alloc ?_ (by first | omega | (simp; omega) | simp) _ | refine Below.drew ?_ | refine below_drewN ?_ _ | refine Below.step (by assumption) (by first | omega | (simp; omega) | simp) ?_))
      clear hHeld hw3
      go_region
      all_goals
        go_wp2
        obtain ⟨p0, p1, p2⟩ := set3 (v0 := .int .i64 f) (v1 := .int .i64 a) (v2 := .int .i64 r) z0 z1 z2
        have B4 : Below w.heap.size w (((W3.setCell ⟨w.heap.size + 1, 0, none⟩ (.int .i64 f)).setCell ⟨w.heap.size + 1, 1, none⟩ (.int .i64 a)).setCell ⟨w.heap.size + 1, 2, none⟩ (.int .i64 r)).drew := by (repeat (first | exact Below.refl _ _ | exact Hbl.out | refine Below.ext ?_ (by first | omega | (simp; omega) | simp) | refine Below.setCell ?_ (by first | omega | (simp; omega) | simp) _ | refine Below.alloc ?_ (by first | omega | (simp; omega) | simp) _ | refine Below.drew ?_ | refine below_drewN ?_ _ | refine Below.step (by assumption) (by first | omega | (simp; omega) | simp) ?_))
        generalize hW4 : World.drew _ = W4 at p0 p1 p2 B4 ⊢
        have HB := Lib.hid B4
        clear B4 B3 z0 z1 z2 c0 c1 c2 f0 f1 f2 hW4
        simp [bodyPost, results, Try.results27, go_sem, p0, p1, p2]
        exact HB.out
  · rw [rd_no (show rdOk t f a r many = false by unfold rdOk; rw [g1, g2]; rfl)]
    rw [g1] at hV
    have HV := Lib.hid hV
    clear hV g1
    have hm : many < 0 := by have := of_decide_eq_false g2; omega
    clear g2
    go_enter Try.func27, Try.ntmps27
    go_wp2
    refine wp_region_held_drew (S := (fun w' => w'.cell? ⟨w.heap.size, 0, none⟩ = some (.int .i64 f) ∧ w'.cell? ⟨w.heap.size, 1, none⟩ = some (.int .i64 a) ∧ w'.cell? ⟨w.heap.size, 2, none⟩ = some (.int .i64 r))) (by kernel_rfl) ?_ (fun hHeld => ?_)
    · (try dsimp only)
      go_simp
    refine tkW (i := 0) (v := ?_) rfl (by kernel_rfl) (by kernel_rfl) (fun _ _ _ h => h) ?_ (by assumption) ?_; rotate_left; (focus (intro w hSw; (try dsimp only at hSw); go_simp; try with_reducible rfl))
    try simp only [Act.put, List.getElem_toArray, List.getElem_cons_succ, List.getElem_cons_zero, List.setIfInBounds_toArray, List.set_cons_zero, List.set_cons_succ]
    refine tkW (i := 1) (v := ?_) rfl (by kernel_rfl) (by kernel_rfl) (fun _ _ _ h => h) ?_ (by assumption) ?_; rotate_left; (focus (intro w hSw; (try dsimp only at hSw); go_simp; try with_reducible rfl))
    try simp only [Act.put, List.getElem_toArray, List.getElem_cons_succ, List.getElem_cons_zero, List.setIfInBounds_toArray, List.set_cons_zero, List.set_cons_succ]
    refine wpAnyH_ready (rs := [2]) (by kernel_rfl) (by simp) ?_
    refine AllReadyH.cons rfl (fun K hK => ?_) AllReadyH.nil
    go_simp
    (go_at_call 50; refine (HV.out _ (H.out.below ?_)).mono ?_; (focus ((repeat (first | exact Below.refl _ _ | exact Hbl.out | refine Below.ext ?_ (by first | omega | (simp; omega) | simp) | refine Below.setCell ?_ (by first | omega | (simp; omega) | simp) _ | refine Below.alloc ?_ (by first | omega | (simp; omega) | simp) _ | refine Below.drew ?_ | refine below_drewN ?_ _ | refine Below.step (by assumption) (by first | omega | (simp; omega) | simp) ?_)))); rintro e w2 ⟨rfl, b2⟩; obtain ⟨d2, os2, rfl⟩ := ext_of_below b2; clear b2)
    refine hK.out _ _ ?_ (fun hHeld => ?_)
    · (try dsimp only)
      go_simp
    clear hK K
    try simp only [Act.put, List.getElem_toArray, List.getElem_cons_succ, List.getElem_cons_zero, List.setIfInBounds_toArray, List.set_cons_zero, List.set_cons_succ]
    refine tkW (i := 3) (v := ?_) rfl (by kernel_rfl) (by kernel_rfl) (fun _ _ _ h => h) ?_ (by assumption) ?_; rotate_left; (focus (intro w hSw; (try dsimp only at hSw); go_simp; try with_reducible rfl))
    try simp only [Act.put, List.getElem_toArray, List.getElem_cons_succ, List.getElem_cons_zero, List.setIfInBounds_toArray, List.set_cons_zero, List.set_cons_succ]
    refine tkW (i := 4) (v := ?_) rfl (by kernel_rfl) (by kernel_rfl) (fun _ _ _ h => h) ?_ (by assumption) ?_; rotate_left; (focus (intro w hSw; (try dsimp only at hSw); go_simp; try with_reducible rfl))
    try simp only [Act.put, List.getElem_toArray, List.getElem_cons_succ, List.getElem_cons_zero, List.setIfInBounds_toArray, List.set_cons_zero, List.set_cons_succ]
    refine tkW (i := 5) (v := ?_) rfl (by kernel_rfl) (by kernel_rfl) (fun _ _ _ h => h) ?_ (by assumption) ?_; rotate_left; (focus (intro w hSw; (try dsimp only at hSw); go_simp; try with_reducible rfl))
    try simp only [Act.put, List.getElem_toArray, List.getElem_cons_succ, List.getElem_cons_zero, List.setIfInBounds_toArray, List.set_cons_zero, List.set_cons_succ]
    refine tkW (i := 6) (v := ?_) rfl (by kernel_rfl) (by kernel_rfl) (fun _ _ _ h => h) ?_ (by assumption) ?_; rotate_left; (focus (intro w hSw; (try dsimp only at hSw); go_simp; try with_reducible rfl))
    try simp only [Act.put, List.getElem_toArray, List.getElem_cons_succ, List.getElem_cons_zero, List.setIfInBounds_toArray, List.set_cons_zero, List.set_cons_succ]
    refine tkW (i := 7) (v := ?_) rfl (by kernel_rfl) (by kernel_rfl) (fun _ _ _ h => h) ?_ (by assumption) ?_; rotate_left; (focus (intro w hSw; (try dsimp only at hSw); go_simp; try with_reducible rfl))
    try simp only [Act.put, List.getElem_toArray, List.getElem_cons_succ, List.getElem_cons_zero, List.setIfInBounds_toArray, List.set_cons_zero, List.set_cons_succ]
    refine tkW (i := 8) (v := ?_) rfl (by kernel_rfl) (by kernel_rfl) (fun _ _ _ h => h) ?_ (by assumption) ?_; rotate_left; (focus (intro w hSw; (try dsimp only at hSw); go_simp; try with_reducible rfl))
    try simp only [Act.put, List.getElem_toArray, List.getElem_cons_succ, List.getElem_cons_zero, List.setIfInBounds_toArray, List.set_cons_zero, List.set_cons_succ]
    refine tkN (i := 9) rfl (by kernel_rfl) (by kernel_rfl) (fun _ _ _ h => h) (by assumption) ?_
    try simp only [Act.put, List.getElem_toArray, List.getElem_cons_succ, List.getElem_cons_zero, List.setIfInBounds_toArray, List.set_cons_zero, List.set_cons_succ]
    refine tkN (i := 10) rfl (by kernel_rfl) (by kernel_rfl) (fun _ _ _ h => h) (by assumption) ?_
    try simp only [Act.put, List.getElem_toArray, List.getElem_cons_succ, List.getElem_cons_zero, List.setIfInBounds_toArray, List.set_cons_zero, List.set_cons_succ]
    refine tkN (i := 11) rfl (by kernel_rfl) (by kernel_rfl) (fun _ _ _ h => h) (by assumption) ?_
    try simp only [Act.put, List.getElem_toArray, List.getElem_cons_succ, List.getElem_cons_zero, List.setIfInBounds_toArray, List.set_cons_zero, List.set_cons_succ]
    refine tkN (i := 12) rfl (by kernel_rfl) (by kernel_rfl) (fun _ _ _ h => h) (by assumption) ?_
    try simp only [Act.put, List.getElem_toArray, List.getElem_cons_succ, List.getElem_cons_zero, List.setIfInBounds_toArray, List.set_cons_zero, List.set_cons_succ]
    refine tkW (i := 13) (v := ?_) rfl (by kernel_rfl) (by kernel_rfl) (fun _ _ _ h => h) ?_ (by assumption) ?_; rotate_left; (focus (intro w hSw; (try dsimp only at hSw); go_simp; try with_reducible rfl))
    try simp only [Act.put, List.getElem_toArray, List.getElem_cons_succ, List.getElem_cons_zero, List.setIfInBounds_toArray, List.set_cons_zero, List.set_cons_succ]
    refine tkW (i := 14) (v := ?_) rfl (by kernel_rfl) (by kernel_rfl) (fun _ _ _ h => h) ?_ (by assumption) ?_; rotate_left; (focus (intro w hSw; (try dsimp only at hSw); go_simp; try with_reducible rfl))
    try simp only [Act.put, List.getElem_toArray, List.getElem_cons_succ, List.getElem_cons_zero, List.setIfInBounds_toArray, List.set_cons_zero, List.set_cons_succ]
    refine tkN (i := 15) rfl (by kernel_rfl) (by kernel_rfl) (fun _ _ _ h => h) (by assumption) ?_
    try simp only [Act.put, List.getElem_toArray, List.getElem_cons_succ, List.getElem_cons_zero, List.setIfInBounds_toArray, List.set_cons_zero, List.set_cons_succ]
    refine tkN (i := 16) rfl (by kernel_rfl) (by kernel_rfl) (fun _ _ _ h => h) (by assumption) ?_
    try simp only [Act.put, List.getElem_toArray, List.getElem_cons_succ, List.getElem_cons_zero, List.setIfInBounds_toArray, List.set_cons_zero, List.set_cons_succ]
    refine tkN (i := 17) rfl (by kernel_rfl) (by kernel_rfl) (fun _ _ _ h => h) (by assumption) ?_
    try simp only [Act.put, List.getElem_toArray, List.getElem_cons_succ, List.getElem_cons_zero, List.setIfInBounds_toArray, List.set_cons_zero, List.set_cons_succ]
    refine tkN (i := 18) rfl (by kernel_rfl) (by kernel_rfl) (fun _ _ _ h => h) (by assumption) ?_
    try simp only [Act.put, List.getElem_toArray, List.getElem_cons_succ, List.getElem_cons_zero, List.setIfInBounds_toArray, List.set_cons_zero, List.set_cons_succ]
    refine tkN (i := 19) rfl (by kernel_rfl) (by kernel_rfl) (fun _ _ _ h => h) (by assumption) ?_
    try simp only [Act.put, List.getElem_toArray, List.getElem_cons_succ, List.getElem_cons_zero, List.setIfInBounds_toArray, List.set_cons_zero, List.set_cons_succ]
    refine tkN (i := 20) rfl (by kernel_rfl) (by kernel_rfl) (fun _ _ _ h => h) (by assumption) ?_
    try simp only [Act.put, List.getElem_toArray, List.getElem_cons_succ, List.getElem_cons_zero, List.setIfInBounds_toArray, List.set_cons_zero, List.set_cons_succ]
    refine tkN (i := 21) rfl (by kernel_rfl) (by kernel_rfl) (fun _ _ _ h => h) (by assumption) ?_
    try simp only [Act.put, List.getElem_toArray, List.getElem_cons_succ, List.getElem_cons_zero, List.setIfInBounds_toArray, List.set_cons_zero, List.set_cons_succ]
    refine tkN (i := 22) rfl (by kernel_rfl) (by kernel_rfl) (fun _ _ _ h => h) (by assumption) ?_
    try simp only [Act.put, List.getElem_toArray, List.getElem_cons_succ, List.getElem_cons_zero, List.setIfInBounds_toArray, List.set_cons_zero, List.set_cons_succ]
    refine tkN (i := 23) rfl (by kernel_rfl) (by kernel_rfl) (fun _ _ _ h => h) (by assumption) ?_
    try simp only [Act.put, List.getElem_toArray, List.getElem_cons_succ, List.getElem_cons_zero, List.setIfInBounds_toArray, List.set_cons_zero, List.set_cons_succ]
    refine tkN (i := 24) rfl (by kernel_rfl) (by kernel_rfl) (fun _ _ _ h => h) (by assumption) ?_
    try simp only [Act.put, List.getElem_toArray, List.getElem_cons_succ, List.getElem_cons_zero, List.setIfInBounds_toArray, List.set_cons_zero, List.set_cons_succ]
    refine tkW (i := 25) (v := ?_) rfl (by kernel_rfl) (by kernel_rfl) (fun _ _ _ h => h) ?_ (by assumption) ?_; rotate_left; (focus (intro w hSw; (try dsimp only at hSw); go_simp; try with_reducible rfl))
    try simp only [Act.put, List.getElem_toArray, List.getElem_cons_succ, List.getElem_cons_zero, List.setIfInBounds_toArray, List.set_cons_zero, List.set_cons_succ]
    refine wpAnyH_done (by kernel_rfl) ?_ _
    all_goals
      go_wp2
      generalize hw3 : ext _ d2 os2 = W3
      have c0 : W3.cell? ⟨w.heap.size, 0, none⟩ = some (.int .i64 f) := by subst hw3; exact hHeld.1
      have c1 : W3.cell? ⟨w.heap.size, 1, none⟩ = some (.int .i64 a) := by subst hw3; exact hHeld.2.1
      have c2 : W3.cell? ⟨w.heap.size, 2, none⟩ = some (.int .i64 r) := by subst hw3; exact hHeld.2.2
      have z0 : W3.cell? ⟨w.heap.size + 1, 0, none⟩ = some (.int .i64 0) := by subst hw3; go_simp
      have z1 : W3.cell? ⟨w.heap.size + 1, 1, none⟩ = some (.int .i64 0) := by subst hw3; go_simp
      have z2 : W3.cell? ⟨w.heap.size + 1, 2, none⟩ = some (.int .i64 0) := by subst hw3; go_simp
      have f0 : W3.frozen? ⟨w.heap.size + 1, 0, none⟩ = false := by subst hw3; go_simp
      have f1 : W3.frozen? ⟨w.heap.size + 1, 1, none⟩ = false := by subst hw3; go_simp
      have f2 : W3.frozen? ⟨w.heap.size + 1, 2, none⟩ = false := by subst hw3; go_simp
      have B3 : Below w.heap.size w W3 := by subst hw3; (repeat (first | exact Below.refl _ _ | exact Hbl.out | refine Below.ext ?_ (by first | omega | (simp; omega) | simp) | refine Below.setCell ?_ (by first | omega | (simp; omega) | simp) _ | refine Below.alloc ?_ (by first | omega | (simp; omega) | simp) _ | refine Below.drew ?_ | refine below_drewN ?_ _ | refine Below.step (by assumption) (by first | omega | (simp; omega) | simp) ?_))
      clear hHeld hw3
      go_region
      all_goals
        go_wp2
        obtain ⟨p0, p1, p2⟩ := set3 (v0 := .int .i64 f) (v1 := .int .i64 a) (v2 := .int .i64 r) z0 z1 z2
        have B4 : Below w.heap.size w (((W3.setCell ⟨w.heap.size + 1, 0, none⟩ (.int .i64 f)).setCell ⟨w.heap.size + 1, 1, none⟩ (.int .i64 a)).setCell ⟨w.heap.size + 1, 2, none⟩ (.int .i64 r)).drew := by (repeat (first | exact Below.refl _ _ | exact Hbl.out | refine Below.ext ?_ (by first | omega | (simp; omega) | simp) | refine Below.setCell ?_ (by first | omega | (simp; omega) | simp) _ | refine Below.alloc ?_ (by first | omega | (simp; omega) | simp) _ | refine Below.drew ?_ | refine below_drewN ?_ _ | refine Below.step (by assumption) (by first | omega | (simp; omega) | simp) ?_))
        generalize hW4 : World.drew _ = W4 at p0 p1 p2 B4 ⊢
        have HB := Lib.hid B4
        clear B4 B3 z0 z1 z2 c0 c1 c2 f0 f1 f2 hW4
        simp [bodyPost, results, Try.results27, go_sem, p0, p1, p2]
        exact HB.out
  · rw [rd_no (show rdOk t f a r many = false by unfold rdOk; rw [g1, g2, g3]; rfl)]
    rw [g1] at hV
    have HV := Lib.hid hV
    clear hV g1
    have hm : ¬ many < 0 := by have := of_decide_eq_true g2; omega
    have hb : (bits .and .i64 r 4 == 0) = true := by simpa using g3
    clear g2 g3
    go_enter Try.func27, Try.ntmps27
    go_wp2
    refine wp_region_held_drew (S := (fun w' => w'.cell? ⟨w.heap.size, 0, none⟩ = some (.int .i64 f) ∧ w'.cell? ⟨w.heap.size, 1, none⟩ = some (.int .i64 a) ∧ w'.cell? ⟨w.heap.size, 2, none⟩ = some (.int .i64 r))) (by kernel_rfl) ?_ (fun hHeld => ?_)
    · (try dsimp only)
      go_simp
    refine tkW (i := 0) (v := ?_) rfl (by kernel_rfl) (by kernel_rfl) (fun _ _ _ h => h) ?_ (by assumption) ?_; rotate_left; (focus (intro w hSw; (try dsimp only at hSw); go_simp; try with_reducible rfl))
    try simp only [Act.put, List.getElem_toArray, List.getElem_cons_succ, List.getElem_cons_zero, List.setIfInBounds_toArray, List.set_cons_zero, List.set_cons_succ]
    refine tkW (i := 1) (v := ?_) rfl (by kernel_rfl) (by kernel_rfl) (fun _ _ _ h => h) ?_ (by assumption) ?_; rotate_left; (focus (intro w hSw; (try dsimp only at hSw); go_simp; try with_reducible rfl))
    try simp only [Act.put, List.getElem_toArray, List.getElem_cons_succ, List.getElem_cons_zero, List.setIfInBounds_toArray, List.set_cons_zero, List.set_cons_succ]
    refine wpAnyH_ready (rs := [2]) (by kernel_rfl) (by simp) ?_
    refine AllReadyH.cons rfl (fun K hK => ?_) AllReadyH.nil
    go_simp
    (go_at_call 50; refine (HV.out _ (H.out.below ?_)).mono ?_; (focus ((repeat (first | exact Below.refl _ _ | exact Hbl.out | refine Below.ext ?_ (by first | omega | (simp; omega) | simp) | refine Below.setCell ?_ (by first | omega | (simp; omega) | simp) _ | refine Below.alloc ?_ (by first | omega | (simp; omega) | simp) _ | refine Below.drew ?_ | refine below_drewN ?_ _ | refine Below.step (by assumption) (by first | omega | (simp; omega) | simp) ?_)))); rintro e w2 ⟨rfl, b2⟩; obtain ⟨d2, os2, rfl⟩ := ext_of_below b2; clear b2)
    refine hK.out _ _ ?_ (fun hHeld => ?_)
    · (try dsimp only)
      go_simp
    clear hK K
    try simp only [Act.put, List.getElem_toArray, List.getElem_cons_succ, List.getElem_cons_zero, List.setIfInBounds_toArray, List.set_cons_zero, List.set_cons_succ]
    refine tkW (i := 3) (v := ?_) rfl (by kernel_rfl) (by kernel_rfl) (fun _ _ _ h => h) ?_ (by assumption) ?_; rotate_left; (focus (intro w hSw; (try dsimp only at hSw); go_simp; try with_reducible rfl))
    try simp only [Act.put, List.getElem_toArray, List.getElem_cons_succ, List.getElem_cons_zero, List.setIfInBounds_toArray, List.set_cons_zero, List.set_cons_succ]
    refine tkW (i := 4) (v := ?_) rfl (by kernel_rfl) (by kernel_rfl) (fun _ _ _ h => h) ?_ (by assumption) ?_; rotate_left; (focus (intro w hSw; (try dsimp only at hSw); go_simp; try with_reducible rfl))
    try simp only [Act.put, List.getElem_toArray, List.getElem_cons_succ, List.getElem_cons_zero, List.setIfInBounds_toArray, List.set_cons_zero, List.set_cons_succ]
    refine tkW (i := 5) (v := ?_) rfl (by kernel_rfl) (by kernel_rfl) (fun _ _ _ h => h) ?_ (by assumption) ?_; rotate_left; (focus (intro w hSw; (try dsimp only at hSw); go_simp; try with_reducible rfl))
    try simp only [Act.put, List.getElem_toArray, List.getElem_cons_succ, List.getElem_cons_zero, List.setIfInBounds_toArray, List.set_cons_zero, List.set_cons_succ]
    refine tkW (i := 6) (v := ?_) rfl (by kernel_rfl) (by kernel_rfl) (fun _ _ _ h => h) ?_ (by assumption) ?_; rotate_left; (focus (intro w hSw; (try dsimp only at hSw); go_simp; try with_reducible rfl))
    try simp only [Act.put, List.getElem_toArray, List.getElem_cons_succ, List.getElem_cons_zero, List.setIfInBounds_toArray, List.set_cons_zero, List.set_cons_succ]
    rw [show decide (many < 0) = false from decide_eq_false (by omega)]
    refine tkW (i := 7) (v := ?_) rfl (by kernel_rfl) (by kernel_rfl) (fun _ _ _ h => h) ?_ (by assumption) ?_; rotate_left; (focus (intro w hSw; (try dsimp only at hSw); go_simp; try with_reducible rfl))
    try simp only [Act.put, List.getElem_toArray, List.getElem_cons_succ, List.getElem_cons_zero, List.setIfInBounds_toArray, List.set_cons_zero, List.set_cons_succ]
    refine tkW (i := 8) (v := ?_) rfl (by kernel_rfl) (by kernel_rfl) (fun _ _ _ h => h) ?_ (by assumption) ?_; rotate_left; (focus (intro w hSw; (try dsimp only at hSw); go_simp; try with_reducible rfl))
    try simp only [Act.put, List.getElem_toArray, List.getElem_cons_succ, List.getElem_cons_zero, List.setIfInBounds_toArray, List.set_cons_zero, List.set_cons_succ]
    refine tkW (i := 9) (v := ?_) rfl (by kernel_rfl) (by kernel_rfl) (fun _ _ _ h => h) ?_ (by assumption) ?_; rotate_left; (focus (intro w hSw; (try dsimp only at hSw); go_simp; try with_reducible rfl))
    try simp only [Act.put, List.getElem_toArray, List.getElem_cons_succ, List.getElem_cons_zero, List.setIfInBounds_toArray, List.set_cons_zero, List.set_cons_succ]
    refine tkW (i := 10) (v := ?_) rfl (by kernel_rfl) (by kernel_rfl) (fun _ _ _ h => h) ?_ (by assumption) ?_; rotate_left; (focus (intro w hSw; (try dsimp only at hSw); go_simp; try with_reducible rfl))
    try simp only [Act.put, List.getElem_toArray, List.getElem_cons_succ, List.getElem_cons_zero, List.setIfInBounds_toArray, List.set_cons_zero, List.set_cons_succ]
    refine tkW (i := 11) (v := ?_) rfl (by kernel_rfl) (by kernel_rfl) (fun _ _ _ h => h) ?_ (by assumption) ?_; rotate_left; (focus (intro w hSw; (try dsimp only at hSw); go_simp; try with_reducible rfl))
    try simp only [Act.put, List.getElem_toArray, List.getElem_cons_succ, List.getElem_cons_zero, List.setIfInBounds_toArray, List.set_cons_zero, List.set_cons_succ]
    refine tkW (i := 12) (v := ?_) rfl (by kernel_rfl) (by kernel_rfl) (fun _ _ _ h => h) ?_ (by assumption) ?_; rotate_left; (focus (intro w hSw; (try dsimp only at hSw); go_simp; try with_reducible rfl))
    try simp only [Act.put, List.getElem_toArray, List.getElem_cons_succ, List.getElem_cons_zero, List.setIfInBounds_toArray, List.set_cons_zero, List.set_cons_succ]
    refine tkW (i := 13) (v := ?_) rfl (by kernel_rfl) (by kernel_rfl) (fun _ _ _ h => h) ?_ (by assumption) ?_; rotate_left; (focus (intro w hSw; (try dsimp only at hSw); go_simp; try with_reducible rfl))
    try simp only [Act.put, List.getElem_toArray, List.getElem_cons_succ, List.getElem_cons_zero, List.setIfInBounds_toArray, List.set_cons_zero, List.set_cons_succ]
    refine tkW (i := 14) (v := ?_) rfl (by kernel_rfl) (by kernel_rfl) (fun _ _ _ h => h) ?_ (by assumption) ?_; rotate_left; (focus (intro w hSw; (try dsimp only at hSw); go_simp; try with_reducible rfl))
    try simp only [Act.put, List.getElem_toArray, List.getElem_cons_succ, List.getElem_cons_zero, List.setIfInBounds_toArray, List.set_cons_zero, List.set_cons_succ]
    refine tkN (i := 15) rfl (by kernel_rfl) (by kernel_rfl) (fun _ _ _ h => h) (by assumption) ?_
    try simp only [Act.put, List.getElem_toArray, List.getElem_cons_succ, List.getElem_cons_zero, List.setIfInBounds_toArray, List.set_cons_zero, List.set_cons_succ]
    refine tkN (i := 16) rfl (by kernel_rfl) (by kernel_rfl) (fun _ _ _ h => h) (by assumption) ?_
    try simp only [Act.put, List.getElem_toArray, List.getElem_cons_succ, List.getElem_cons_zero, List.setIfInBounds_toArray, List.set_cons_zero, List.set_cons_succ]
    refine tkN (i := 17) rfl (by kernel_rfl) (by kernel_rfl) (fun _ _ _ h => h) (by assumption) ?_
    try simp only [Act.put, List.getElem_toArray, List.getElem_cons_succ, List.getElem_cons_zero, List.setIfInBounds_toArray, List.set_cons_zero, List.set_cons_succ]
    refine tkN (i := 18) rfl (by kernel_rfl) (by kernel_rfl) (fun _ _ _ h => h) (by assumption) ?_
    try simp only [Act.put, List.getElem_toArray, List.getElem_cons_succ, List.getElem_cons_zero, List.setIfInBounds_toArray, List.set_cons_zero, List.set_cons_succ]
    refine tkN (i := 19) rfl (by kernel_rfl) (by kernel_rfl) (fun _ _ _ h => h) (by assumption) ?_
    try simp only [Act.put, List.getElem_toArray, List.getElem_cons_succ, List.getElem_cons_zero, List.setIfInBounds_toArray, List.set_cons_zero, List.set_cons_succ]
    refine tkN (i := 20) rfl (by kernel_rfl) (by kernel_rfl) (fun _ _ _ h => h) (by assumption) ?_
    try simp only [Act.put, List.getElem_toArray, List.getElem_cons_succ, List.getElem_cons_zero, List.setIfInBounds_toArray, List.set_cons_zero, List.set_cons_succ]
    refine tkN (i := 21) rfl (by kernel_rfl) (by kernel_rfl) (fun _ _ _ h => h) (by assumption) ?_
    try simp only [Act.put, List.getElem_toArray, List.getElem_cons_succ, List.getElem_cons_zero, List.setIfInBounds_toArray, List.set_cons_zero, List.set_cons_succ]
    refine tkN (i := 22) rfl (by kernel_rfl) (by kernel_rfl) (fun _ _ _ h => h) (by assumption) ?_
    try simp only [Act.put, List.getElem_toArray, List.getElem_cons_succ, List.getElem_cons_zero, List.setIfInBounds_toArray, List.set_cons_zero, List.set_cons_succ]
    refine tkN (i := 23) rfl (by kernel_rfl) (by kernel_rfl) (fun _ _ _ h => h) (by assumption) ?_
    try simp only [Act.put, List.getElem_toArray, List.getElem_cons_succ, List.getElem_cons_zero, List.setIfInBounds_toArray, List.set_cons_zero, List.set_cons_succ]
    refine tkN (i := 24) rfl (by kernel_rfl) (by kernel_rfl) (fun _ _ _ h => h) (by assumption) ?_
    try simp only [Act.put, List.getElem_toArray, List.getElem_cons_succ, List.getElem_cons_zero, List.setIfInBounds_toArray, List.set_cons_zero, List.set_cons_succ]
    refine tkW (i := 25) (v := ?_) rfl (by kernel_rfl) (by kernel_rfl) (fun _ _ _ h => h) ?_ (by assumption) ?_; rotate_left; (focus (intro w hSw; (try dsimp only at hSw); go_simp; try with_reducible rfl))
    try simp only [Act.put, List.getElem_toArray, List.getElem_cons_succ, List.getElem_cons_zero, List.setIfInBounds_toArray, List.set_cons_zero, List.set_cons_succ]
    refine wpAnyH_done (by kernel_rfl) ?_ _
    all_goals
      go_wp2
      generalize hw3 : ext _ d2 os2 = W3
      have c0 : W3.cell? ⟨w.heap.size, 0, none⟩ = some (.int .i64 f) := by subst hw3; exact hHeld.1
      have c1 : W3.cell? ⟨w.heap.size, 1, none⟩ = some (.int .i64 a) := by subst hw3; exact hHeld.2.1
      have c2 : W3.cell? ⟨w.heap.size, 2, none⟩ = some (.int .i64 r) := by subst hw3; exact hHeld.2.2
      have z0 : W3.cell? ⟨w.heap.size + 1, 0, none⟩ = some (.int .i64 0) := by subst hw3; go_simp
      have z1 : W3.cell? ⟨w.heap.size + 1, 1, none⟩ = some (.int .i64 0) := by subst hw3; go_simp
      have z2 : W3.cell? ⟨w.heap.size + 1, 2, none⟩ = some (.int .i64 0) := by subst hw3; go_simp
      have f0 : W3.frozen? ⟨w.heap.size + 1, 0, none⟩ = false := by subst hw3; go_simp
      have f1 : W3.frozen? ⟨w.heap.size + 1, 1, none⟩ = false := by subst hw3; go_simp
      have f2 : W3.frozen? ⟨w.heap.size + 1, 2, none⟩ = false := by subst hw3; go_simp
      have B3 : Below w.heap.size w W3 := by subst hw3; (repeat (first | exact Below.refl _ _ | exact Hbl.out | refine Below.ext ?_ (by first | omega | (simp; omega) | simp) | refine Below.setCell ?_ (by first | omega | (simp; omega) | simp) _ | refine Below.alloc ?_ (by first | omega | (simp; omega) | simp) _ | refine Below.drew ?_ | refine below_drewN ?_ _ | refine Below.step (by assumption) (by first | omega | (simp; omega) | simp) ?_))
      clear hHeld hw3
      go_region
      all_goals
        go_wp2
        obtain ⟨p0, p1, p2⟩ := set3 (v0 := .int .i64 f) (v1 := .int .i64 a) (v2 := .int .i64 r) z0 z1 z2
        have B4 : Below w.heap.size w (((W3.setCell ⟨w.heap.size + 1, 0, none⟩ (.int .i64 f)).setCell ⟨w.heap.size + 1, 1, none⟩ (.int .i64 a)).setCell ⟨w.heap.size + 1, 2, none⟩ (.int .i64 r)).drew := by (repeat (first | exact Below.refl _ _ | exact Hbl.out | refine Below.ext ?_ (by first | omega | (simp; omega) | simp) | refine Below.setCell ?_ (by first | omega | (simp; omega) | simp) _ | refine Below.alloc ?_ (by first | omega | (simp; omega) | simp) _ | refine Below.drew ?_ | refine below_drewN ?_ _ | refine Below.step (by assumption) (by first | omega | (simp; omega) | simp) ?_))
        generalize hW4 : World.drew _ = W4 at p0 p1 p2 B4 ⊢
        have HB := Lib.hid B4
        clear B4 B3 z0 z1 z2 c0 c1 c2 f0 f1 f2 hW4
        simp [bodyPost, results, Try.results27, go_sem, p0, p1, p2]
        exact HB.out
  · rw [rd_no (show rdOk t f a r many = false by unfold rdOk; rw [g1, g2, g3, g4]; rfl)]
    obtain ⟨_, hf1, hf2, _, ha1, ha2, _, _⟩ := hOk_in g1
    obtain ⟨k, rfl⟩ : ∃ k : Nat, f = (k : Int) := ⟨f.toNat, by omega⟩
    have hk : k < t.length := by omega
    rw [Int.toNat_natCast] at g4
    obtain ⟨bt, ot, nA, nC, kA, kC, rfl, hbt, _, y0, y1, y2, y3, y4, y5, y6⟩ := H.out.at_ (kth_at hk)
    clear y0 y1 y2 y3 y5 y6
    rw [g1] at hV
    have HV := Lib.hid hV
    clear hV g1
    have hm : ¬ many < 0 := by have := of_decide_eq_true g2; omega
    have hb : (bits .and .i64 r 4 == 0) = false := by simpa using g3
    have hz : ((kth t k).tx.size : Int) < a := by have := of_decide_eq_false g4; omega
    clear g2 g3 g4
    go_enter Try.func27, Try.ntmps27
    go_wp2
    refine wp_region_held_drew (S := (fun w' => w'.cell? ⟨w.heap.size, 0, none⟩ = some (.int .i64 (k : Int)) ∧ w'.cell? ⟨w.heap.size, 1, none⟩ = some (.int .i64 a) ∧ w'.cell? ⟨w.heap.size, 2, none⟩ = some (.int .i64 r) ∧ w'.cell? ⟨bt, ot + k * 7 + 4, none⟩ = some (.string (kth t k).tx))) (by kernel_rfl) ?_ (fun hHeld => ?_)
    · (try dsimp only)
      go_simp
    refine tkW (i := 0) (v := ?_) rfl (by kernel_rfl) (by kernel_rfl) (fun _ _ _ h => h) ?_ (by assumption) ?_; rotate_left; (focus (intro w hSw; (try dsimp only at hSw); go_simp; try with_reducible rfl))
    try simp only [Act.put, List.getElem_toArray, List.getElem_cons_succ, List.getElem_cons_zero, List.setIfInBounds_toArray, List.set_cons_zero, List.set_cons_succ]
    refine tkW (i := 1) (v := ?_) rfl (by kernel_rfl) (by kernel_rfl) (fun _ _ _ h => h) ?_ (by assumption) ?_; rotate_left; (focus (intro w hSw; (try dsimp only at hSw); go_simp; try with_reducible rfl))
    try simp only [Act.put, List.getElem_toArray, List.getElem_cons_succ, List.getElem_cons_zero, List.setIfInBounds_toArray, List.set_cons_zero, List.set_cons_succ]
    refine wpAnyH_ready (rs := [2]) (by kernel_rfl) (by simp) ?_
    refine AllReadyH.cons rfl (fun K hK => ?_) AllReadyH.nil
    go_simp
    (go_at_call 50; refine (HV.out _ (H.out.below ?_)).mono ?_; (focus ((repeat (first | exact Below.refl _ _ | exact Hbl.out | refine Below.ext ?_ (by first | omega | (simp; omega) | simp) | refine Below.setCell ?_ (by first | omega | (simp; omega) | simp) _ | refine Below.alloc ?_ (by first | omega | (simp; omega) | simp) _ | refine Below.drew ?_ | refine below_drewN ?_ _ | refine Below.step (by assumption) (by first | omega | (simp; omega) | simp) ?_)))); rintro e w2 ⟨rfl, b2⟩; obtain ⟨d2, os2, rfl⟩ := ext_of_below b2; clear b2)
    refine hK.out _ _ ?_ (fun hHeld => ?_)
    · (try dsimp only)
      go_simp
    clear hK K
    try simp only [Act.put, List.getElem_toArray, List.getElem_cons_succ, List.getElem_cons_zero, List.setIfInBounds_toArray, List.set_cons_zero, List.set_cons_succ]
    refine tkW (i := 3) (v := ?_) rfl (by kernel_rfl) (by kernel_rfl) (fun _ _ _ h => h) ?_ (by assumption) ?_; rotate_left; (focus (intro w hSw; (try dsimp only at hSw); go_simp; try with_reducible rfl))
    try simp only [Act.put, List.getElem_toArray, List.getElem_cons_succ, List.getElem_cons_zero, List.setIfInBounds_toArray, List.set_cons_zero, List.set_cons_succ]
    refine tkW (i := 4) (v := ?_) rfl (by kernel_rfl) (by kernel_rfl) (fun _ _ _ h => h) ?_ (by assumption) ?_; rotate_left; (focus (intro w hSw; (try dsimp only at hSw); go_simp; try with_reducible rfl))
    try simp only [Act.put, List.getElem_toArray, List.getElem_cons_succ, List.getElem_cons_zero, List.setIfInBounds_toArray, List.set_cons_zero, List.set_cons_succ]
    refine tkW (i := 5) (v := ?_) rfl (by kernel_rfl) (by kernel_rfl) (fun _ _ _ h => h) ?_ (by assumption) ?_; rotate_left; (focus (intro w hSw; (try dsimp only at hSw); go_simp; try with_reducible rfl))
    try simp only [Act.put, List.getElem_toArray, List.getElem_cons_succ, List.getElem_cons_zero, List.setIfInBounds_toArray, List.set_cons_zero, List.set_cons_succ]
    refine tkW (i := 6) (v := ?_) rfl (by kernel_rfl) (by kernel_rfl) (fun _ _ _ h => h) ?_ (by assumption) ?_; rotate_left; (focus (intro w hSw; (try dsimp only at hSw); go_simp; try with_reducible rfl))
    try simp only [Act.put, List.getElem_toArray, List.getElem_cons_succ, List.getElem_cons_zero, List.setIfInBounds_toArray, List.set_cons_zero, List.set_cons_succ]
    rw [show decide (many < 0) = false from decide_eq_false (by omega)]
    refine tkW (i := 7) (v := ?_) rfl (by kernel_rfl) (by kernel_rfl) (fun _ _ _ h => h) ?_ (by assumption) ?_; rotate_left; (focus (intro w hSw; (try dsimp only at hSw); go_simp; try with_reducible rfl))
    try simp only [Act.put, List.getElem_toArray, List.getElem_cons_succ, List.getElem_cons_zero, List.setIfInBounds_toArray, List.set_cons_zero, List.set_cons_succ]
    refine tkW (i := 8) (v := ?_) rfl (by kernel_rfl) (by kernel_rfl) (fun _ _ _ h => h) ?_ (by assumption) ?_; rotate_left; (focus (intro w hSw; (try dsimp only at hSw); go_simp; try with_reducible rfl))
    try simp only [Act.put, List.getElem_toArray, List.getElem_cons_succ, List.getElem_cons_zero, List.setIfInBounds_toArray, List.set_cons_zero, List.set_cons_succ]
    refine tkW (i := 9) (v := ?_) rfl (by kernel_rfl) (by kernel_rfl) (fun _ _ _ h => h) ?_ (by assumption) ?_; rotate_left; (focus (intro w hSw; (try dsimp only at hSw); go_simp; try with_reducible rfl))
    try simp only [Act.put, List.getElem_toArray, List.getElem_cons_succ, List.getElem_cons_zero, List.setIfInBounds_toArray, List.set_cons_zero, List.set_cons_succ]
    refine tkW (i := 10) (v := ?_) rfl (by kernel_rfl) (by kernel_rfl) (fun _ _ _ h => h) ?_ (by assumption) ?_; rotate_left; (focus (intro w hSw; (try dsimp only at hSw); go_simp; try with_reducible rfl))
    try simp only [Act.put, List.getElem_toArray, List.getElem_cons_succ, List.getElem_cons_zero, List.setIfInBounds_toArray, List.set_cons_zero, List.set_cons_succ]
    refine tkW (i := 11) (v := ?_) rfl (by kernel_rfl) (by kernel_rfl) (fun _ _ _ h => h) ?_ (by assumption) ?_; rotate_left; (focus (intro w hSw; (try dsimp only at hSw); go_simp; try with_reducible rfl))
    try simp only [Act.put, List.getElem_toArray, List.getElem_cons_succ, List.getElem_cons_zero, List.setIfInBounds_toArray, List.set_cons_zero, List.set_cons_succ]
    refine tkW (i := 12) (v := ?_) rfl (by kernel_rfl) (by kernel_rfl) (fun _ _ _ h => h) ?_ (by assumption) ?_; rotate_left; (focus (intro w hSw; (try dsimp only at hSw); go_simp; try with_reducible rfl))
    try simp only [Act.put, List.getElem_toArray, List.getElem_cons_succ, List.getElem_cons_zero, List.setIfInBounds_toArray, List.set_cons_zero, List.set_cons_succ]
    refine tkW (i := 13) (v := ?_) rfl (by kernel_rfl) (by kernel_rfl) (fun _ _ _ h => h) ?_ (by assumption) ?_; rotate_left; (focus (intro w hSw; (try dsimp only at hSw); go_simp; try with_reducible rfl))
    try simp only [Act.put, List.getElem_toArray, List.getElem_cons_succ, List.getElem_cons_zero, List.setIfInBounds_toArray, List.set_cons_zero, List.set_cons_succ]
    refine tkW (i := 14) (v := ?_) rfl (by kernel_rfl) (by kernel_rfl) (fun _ _ _ h => h) ?_ (by assumption) ?_; rotate_left; (focus (intro w hSw; (try dsimp only at hSw); go_simp; try with_reducible rfl))
    try simp only [Act.put, List.getElem_toArray, List.getElem_cons_succ, List.getElem_cons_zero, List.setIfInBounds_toArray, List.set_cons_zero, List.set_cons_succ]
    refine tkW (i := 15) (v := ?_) rfl (by kernel_rfl) (by kernel_rfl) (fun _ _ _ h => h) ?_ (by assumption) ?_; rotate_left; (focus (intro w hSw; (try dsimp only at hSw); go_simp; try with_reducible rfl))
    try simp only [Act.put, List.getElem_toArray, List.getElem_cons_succ, List.getElem_cons_zero, List.setIfInBounds_toArray, List.set_cons_zero, List.set_cons_succ]
    refine tkW (i := 16) (v := ?_) rfl (by kernel_rfl) (by kernel_rfl) (fun _ _ _ h => h) ?_ (by assumption) ?_; rotate_left; (focus (intro w hSw; (try dsimp only at hSw); go_simp; try with_reducible rfl))
    try simp only [Act.put, List.getElem_toArray, List.getElem_cons_succ, List.getElem_cons_zero, List.setIfInBounds_toArray, List.set_cons_zero, List.set_cons_succ]
    refine tkW (i := 17) (v := ?_) rfl (by kernel_rfl) (by kernel_rfl) (fun _ _ _ h => h) ?_ (by assumption) ?_; rotate_left; (focus (intro w hSw; (try dsimp only at hSw); go_simp; try with_reducible rfl))
    try simp only [Act.put, List.getElem_toArray, List.getElem_cons_succ, List.getElem_cons_zero, List.setIfInBounds_toArray, List.set_cons_zero, List.set_cons_succ]
    refine tkW (i := 18) (v := ?_) rfl (by kernel_rfl) (by kernel_rfl) (fun _ _ _ h => h) ?_ (by assumption) ?_; rotate_left; (focus (intro w hSw; (try dsimp only at hSw); go_simp; try with_reducible rfl))
    try simp only [Act.put, List.getElem_toArray, List.getElem_cons_succ, List.getElem_cons_zero, List.setIfInBounds_toArray, List.set_cons_zero, List.set_cons_succ]
    refine tkW (i := 19) (v := ?_) rfl (by kernel_rfl) (by kernel_rfl) (fun _ _ _ h => h) ?_ (by assumption) ?_; rotate_left; (focus (intro w hSw; (try dsimp only at hSw); go_simp; try with_reducible rfl))
    try simp only [Act.put, List.getElem_toArray, List.getElem_cons_succ, List.getElem_cons_zero, List.setIfInBounds_toArray, List.set_cons_zero, List.set_cons_succ]
    refine tkW (i := 20) (v := ?_) rfl (by kernel_rfl) (by kernel_rfl) (fun _ _ _ h => h) ?_ (by assumption) ?_; rotate_left; (focus (intro w hSw; (try dsimp only at hSw); go_simp; try with_reducible rfl))
    try simp only [Act.put, List.getElem_toArray, List.getElem_cons_succ, List.getElem_cons_zero, List.setIfInBounds_toArray, List.set_cons_zero, List.set_cons_succ]
    refine tkW (i := 21) (v := ?_) rfl (by kernel_rfl) (by kernel_rfl) (fun _ _ _ h => h) ?_ (by assumption) ?_; rotate_left; (focus (intro w hSw; (try dsimp only at hSw); go_simp; try with_reducible rfl))
    try simp only [Act.put, List.getElem_toArray, List.getElem_cons_succ, List.getElem_cons_zero, List.setIfInBounds_toArray, List.set_cons_zero, List.set_cons_succ]
    refine tkW (i := 22) (v := ?_) rfl (by kernel_rfl) (by kernel_rfl) (fun _ _ _ h => h) ?_ (by assumption) ?_; rotate_left; (focus (intro w hSw; (try dsimp only at hSw); go_simp; try with_reducible rfl))
    try simp only [Act.put, List.getElem_toArray, List.getElem_cons_succ, List.getElem_cons_zero, List.setIfInBounds_toArray, List.set_cons_zero, List.set_cons_succ]
    refine tkW (i := 23) (v := ?_) rfl (by kernel_rfl) (by kernel_rfl) (fun _ _ _ h => h) ?_ (by assumption) ?_; rotate_left; (focus (intro w hSw; (try dsimp only at hSw); go_simp; try with_reducible rfl))
    try simp only [Act.put, List.getElem_toArray, List.getElem_cons_succ, List.getElem_cons_zero, List.setIfInBounds_toArray, List.set_cons_zero, List.set_cons_succ]
    refine tkW (i := 24) (v := ?_) rfl (by kernel_rfl) (by kernel_rfl) (fun _ _ _ h => h) ?_ (by assumption) ?_; rotate_left; (focus (intro w hSw; (try dsimp only at hSw); go_simp; try with_reducible rfl))
    try simp only [Act.put, List.getElem_toArray, List.getElem_cons_succ, List.getElem_cons_zero, List.setIfInBounds_toArray, List.set_cons_zero, List.set_cons_succ]
    refine tkW (i := 25) (v := ?_) rfl (by kernel_rfl) (by kernel_rfl) (fun _ _ _ h => h) ?_ (by assumption) ?_; rotate_left; (focus (intro w hSw; (try dsimp only at hSw); go_simp; try with_reducible rfl))
    try simp only [Act.put, List.getElem_toArray, List.getElem_cons_succ, List.getElem_cons_zero, List.setIfInBounds_toArray, List.set_cons_zero, List.set_cons_succ]
    refine wpAnyH_done (by kernel_rfl) ?_ _
    all_goals
      go_wp2
      generalize hw3 : ext _ d2 os2 = W3
      have c0 : W3.cell? ⟨w.heap.size, 0, none⟩ = some (.int .i64 (k : Int)) := by subst hw3; exact hHeld.1
      have c1 : W3.cell? ⟨w.heap.size, 1, none⟩ = some (.int .i64 a) := by subst hw3; exact hHeld.2.1
      have c2 : W3.cell? ⟨w.heap.size, 2, none⟩ = some (.int .i64 r) := by subst hw3; exact hHeld.2.2.1
      have z0 : W3.cell? ⟨w.heap.size + 1, 0, none⟩ = some (.int .i64 0) := by subst hw3; go_simp
      have z1 : W3.cell? ⟨w.heap.size + 1, 1, none⟩ = some (.int .i64 0) := by subst hw3; go_simp
      have z2 : W3.cell? ⟨w.heap.size + 1, 2, none⟩ = some (.int .i64 0) := by subst hw3; go_simp
      have f0 : W3.frozen? ⟨w.heap.size + 1, 0, none⟩ = false := by subst hw3; go_simp
      have f1 : W3.frozen? ⟨w.heap.size + 1, 1, none⟩ = false := by subst hw3; go_simp
      have f2 : W3.frozen? ⟨w.heap.size + 1, 2, none⟩ = false := by subst hw3; go_simp
      have B3 : Below w.heap.size w W3 := by subst hw3; (repeat (first | exact Below.refl _ _ | exact Hbl.out | refine Below.ext ?_ (by first | omega | (simp; omega) | simp) | refine Below.setCell ?_ (by first | omega | (simp; omega) | simp) _ | refine Below.alloc ?_ (by first | omega | (simp; omega) | simp) _ | refine Below.drew ?_ | refine below_drewN ?_ _ | refine Below.step (by assumption) (by first | omega | (simp; omega) | simp) ?_))
      clear hHeld hw3
      go_region
      all_goals
        go_wp2
        obtain ⟨p0, p1, p2⟩ := set3 (v0 := .int .i64 (k : Int)) (v1 := .int .i64 a) (v2 := .int .i64 r) z0 z1 z2
        have B4 : Below w.heap.size w (((W3.setCell ⟨w.heap.size + 1, 0, none⟩ (.int .i64 (k : Int))).setCell ⟨w.heap.size + 1, 1, none⟩ (.int .i64 a)).setCell ⟨w.heap.size + 1, 2, none⟩ (.int .i64 r)).drew := by (repeat (first | exact Below.refl _ _ | exact Hbl.out | refine Below.ext ?_ (by first | omega | (simp; omega) | simp) | refine Below.setCell ?_ (by first | omega | (simp; omega) | simp) _ | refine Below.alloc ?_ (by first | omega | (simp; omega) | simp) _ | refine Below.drew ?_ | refine below_drewN ?_ _ | refine Below.step (by assumption) (by first | omega | (simp; omega) | simp) ?_))
        generalize hW4 : World.drew _ = W4 at p0 p1 p2 B4 ⊢
        have HB := Lib.hid B4
        clear B4 B3 z0 z1 z2 c0 c1 c2 f0 f1 f2 hW4
        simp [bodyPost, results, Try.results27, go_sem, p0, p1, p2]
        exact HB.out
  · obtain ⟨_, hf1, hf2, _, ha1, ha2, _, _⟩ := hOk_in g1
    obtain ⟨k, rfl⟩ : ∃ k : Nat, f = (k : Int) := ⟨f.toNat, by omega⟩
    have hk : k < t.length := by omega
    rw [Int.toNat_natCast] at g4
    obtain ⟨bt, ot, nA, nC, kA, kC, rfl, hbt, hns, y0, y1, y2, y3, y4, y5, y6⟩ := H.out.at_ (kth_at hk)
    have hsz : (kth t k).tx.size ≤ maxLen := hns.sz
    unfold maxLen at hsz
    clear y0 y1 y2 y3 y5 y6 hns
    have hR : rdF t (k : Int) a r many = (rdT (kth t k).tx a many, a + ((rdT (kth t k).tx a many).size : Int)) := by
      unfold rdF rdOk
      rw [g1, g2, g3, Int.toNat_natCast, g4]
      rfl
    rw [hR]
    clear hR
    rw [g1] at hV
    have HV := Lib.hid hV
    clear hV g1
    have hm : ¬ many < 0 := by have := of_decide_eq_true g2; omega
    have hb : (bits .and .i64 r 4 == 0) = false := by simpa using g3
    have hz : a ≤ ((kth t k).tx.size : Int) := by have := of_decide_eq_true g4; omega
    clear g2 g3 g4
    go_enter Try.func27, Try.ntmps27
    go_wp2
    refine wp_region_held_drew (S := (fun w' => w'.cell? ⟨w.heap.size, 0, none⟩ = some (.int .i64 (k : Int)) ∧ w'.cell? ⟨w.heap.size, 1, none⟩ = some (.int .i64 a) ∧ w'.cell? ⟨w.heap.size, 2, none⟩ = some (.int .i64 r) ∧ w'.cell? ⟨bt, ot + k * 7 + 4, none⟩ = some (.string (kth t k).tx))) (by kernel_rfl) ?_ (fun hHeld => ?_)
    · (try dsimp only)
      go_simp
    refine tkW (i := 0) (v := ?_) rfl (by kernel_rfl) (by kernel_rfl) (fun _ _ _ h => h) ?_ (by assumption) ?_; rotate_left; (focus (intro w hSw; (try dsimp only at hSw); go_simp; try with_reducible rfl))
    try simp only [Act.put, List.getElem_toArray, List.getElem_cons_succ, List.getElem_cons_zero, List.setIfInBounds_toArray, List.set_cons_zero, List.set_cons_succ]
    refine tkW (i := 1) (v := ?_) rfl (by kernel_rfl) (by kernel_rfl) (fun _ _ _ h => h) ?_ (by assumption) ?_; rotate_left; (focus (intro w hSw; (try dsimp only at hSw); go_simp; try with_reducible rfl))
    try simp only [Act.put, List.getElem_toArray, List.getElem_cons_succ, List.getElem_cons_zero, List.setIfInBounds_toArray, List.set_cons_zero, List.set_cons_succ]
    refine wpAnyH_ready (rs := [2]) (by kernel_rfl) (by simp) ?_
    refine AllReadyH.cons rfl (fun K hK => ?_) AllReadyH.nil
    go_simp
    (go_at_call 50; refine (HV.out _ (H.out.below ?_)).mono ?_; (focus ((repeat (first | exact Below.refl _ _ | exact Hbl.out | refine Below.ext ?_ (by first | omega | (simp; omega) | simp) | refine Below.setCell ?_ (by first | omega | (simp; omega) | simp) _ | refine Below.alloc ?_ (by first | omega | (simp; omega) | simp) _ | refine Below.drew ?_ | refine below_drewN ?_ _ | refine Below.step (by assumption) (by first | omega | (simp; omega) | simp) ?_)))); rintro e w2 ⟨rfl, b2⟩; obtain ⟨d2, os2, rfl⟩ := ext_of_below b2; clear b2)
    refine hK.out _ _ ?_ (fun hHeld => ?_)
    · (try dsimp only)
      go_simp
    clear hK K
    try simp only [Act.put, List.getElem_toArray, List.getElem_cons_succ, List.getElem_cons_zero, List.setIfInBounds_toArray, List.set_cons_zero, List.set_cons_succ]
    refine tkW (i := 3) (v := ?_) rfl (by kernel_rfl) (by kernel_rfl) (fun _ _ _ h => h) ?_ (by assumption) ?_; rotate_left; (focus (intro w hSw; (try dsimp only at hSw); go_simp; try with_reducible rfl))
    try simp only [Act.put, List.getElem_toArray, List.getElem_cons_succ, List.getElem_cons_zero, List.setIfInBounds_toArray, List.set_cons_zero, List.set_cons_succ]
    refine tkW (i := 4) (v := ?_) rfl (by kernel_rfl) (by kernel_rfl) (fun _ _ _ h => h) ?_ (by assumption) ?_; rotate_left; (focus (intro w hSw; (try dsimp only at hSw); go_simp; try with_reducible rfl))
    try simp only [Act.put, List.getElem_toArray, List.getElem_cons_succ, List.getElem_cons_zero, List.setIfInBounds_toArray, List.set_cons_zero, List.set_cons_succ]
    refine tkW (i := 5) (v := ?_) rfl (by kernel_rfl) (by kernel_rfl) (fun _ _ _ h => h) ?_ (by assumption) ?_; rotate_left; (focus (intro w hSw; (try dsimp only at hSw); go_simp; try with_reducible rfl))
    try simp only [Act.put, List.getElem_toArray, List.getElem_cons_succ, List.getElem_cons_zero, List.setIfInBounds_toArray, List.set_cons_zero, List.set_cons_succ]
    refine tkW (i := 6) (v := ?_) rfl (by kernel_rfl) (by kernel_rfl) (fun _ _ _ h => h) ?_ (by assumption) ?_; rotate_left; (focus (intro w hSw; (try dsimp only at hSw); go_simp; try with_reducible rfl))
    try simp only [Act.put, List.getElem_toArray, List.getElem_cons_succ, List.getElem_cons_zero, List.setIfInBounds_toArray, List.set_cons_zero, List.set_cons_succ]
    rw [show decide (many < 0) = false from decide_eq_false (by omega)]
    refine tkW (i := 7) (v := ?_) rfl (by kernel_rfl) (by kernel_rfl) (fun _ _ _ h => h) ?_ (by assumption) ?_; rotate_left; (focus (intro w hSw; (try dsimp only at hSw); go_simp; try with_reducible rfl))
    try simp only [Act.put, List.getElem_toArray, List.getElem_cons_succ, List.getElem_cons_zero, List.setIfInBounds_toArray, List.set_cons_zero, List.set_cons_succ]
    refine tkW (i := 8) (v := ?_) rfl (by kernel_rfl) (by kernel_rfl) (fun _ _ _ h => h) ?_ (by assumption) ?_; rotate_left; (focus (intro w hSw; (try dsimp only at hSw); go_simp; try with_reducible rfl))
    try simp only [Act.put, List.getElem_toArray, List.getElem_cons_succ, List.getElem_cons_zero, List.setIfInBounds_toArray, List.set_cons_zero, List.set_cons_succ]
    refine tkW (i := 9) (v := ?_) rfl (by kernel_rfl) (by kernel_rfl) (fun _ _ _ h => h) ?_ (by assumption) ?_; rotate_left; (focus (intro w hSw; (try dsimp only at hSw); go_simp; try with_reducible rfl))
    try simp only [Act.put, List.getElem_toArray, List.getElem_cons_succ, List.getElem_cons_zero, List.setIfInBounds_toArray, List.set_cons_zero, List.set_cons_succ]
    refine tkW (i := 10) (v := ?_) rfl (by kernel_rfl) (by kernel_rfl) (fun _ _ _ h => h) ?_ (by assumption) ?_; rotate_left; (focus (intro w hSw; (try dsimp only at hSw); go_simp; try with_reducible rfl))
    try simp only [Act.put, List.getElem_toArray, List.getElem_cons_succ, List.getElem_cons_zero, List.setIfInBounds_toArray, List.set_cons_zero, List.set_cons_succ]
    refine tkW (i := 11) (v := ?_) rfl (by kernel_rfl) (by kernel_rfl) (fun _ _ _ h => h) ?_ (by assumption) ?_; rotate_left; (focus (intro w hSw; (try dsimp only at hSw); go_simp; try with_reducible rfl))
    try simp only [Act.put, List.getElem_toArray, List.getElem_cons_succ, List.getElem_cons_zero, List.setIfInBounds_toArray, List.set_cons_zero, List.set_cons_succ]
    refine tkW (i := 12) (v := ?_) rfl (by kernel_rfl) (by kernel_rfl) (fun _ _ _ h => h) ?_ (by assumption) ?_; rotate_left; (focus (intro w hSw; (try dsimp only at hSw); go_simp; try with_reducible rfl))
    try simp only [Act.put, List.getElem_toArray, List.getElem_cons_succ, List.getElem_cons_zero, List.setIfInBounds_toArray, List.set_cons_zero, List.set_cons_succ]
    refine tkW (i := 13) (v := ?_) rfl (by kernel_rfl) (by kernel_rfl) (fun _ _ _ h => h) ?_ (by assumption) ?_; rotate_left; (focus (intro w hSw; (try dsimp only at hSw); go_simp; try with_reducible rfl))
    try simp only [Act.put, List.getElem_toArray, List.getElem_cons_succ, List.getElem_cons_zero, List.setIfInBounds_toArray, List.set_cons_zero, List.set_cons_succ]
    refine tkW (i := 14) (v := ?_) rfl (by kernel_rfl) (by kernel_rfl) (fun _ _ _ h => h) ?_ (by assumption) ?_; rotate_left; (focus (intro w hSw; (try dsimp only at hSw); go_simp; try with_reducible rfl))
    try simp only [Act.put, List.getElem_toArray, List.getElem_cons_succ, List.getElem_cons_zero, List.setIfInBounds_toArray, List.set_cons_zero, List.set_cons_succ]
    refine tkW (i := 15) (v := ?_) rfl (by kernel_rfl) (by kernel_rfl) (fun _ _ _ h => h) ?_ (by assumption) ?_; rotate_left; (focus (intro w hSw; (try dsimp only at hSw); go_simp; try with_reducible rfl))
    try simp only [Act.put, List.getElem_toArray, List.getElem_cons_succ, List.getElem_cons_zero, List.setIfInBounds_toArray, List.set_cons_zero, List.set_cons_succ]
    refine tkW (i := 16) (v := ?_) rfl (by kernel_rfl) (by kernel_rfl) (fun _ _ _ h => h) ?_ (by assumption) ?_; rotate_left; (focus (intro w hSw; (try dsimp only at hSw); go_simp; try with_reducible rfl))
    try simp only [Act.put, List.getElem_toArray, List.getElem_cons_succ, List.getElem_cons_zero, List.setIfInBounds_toArray, List.set_cons_zero, List.set_cons_succ]
    refine tkW (i := 17) (v := ?_) rfl (by kernel_rfl) (by kernel_rfl) (fun _ _ _ h => h) ?_ (by assumption) ?_; rotate_left; (focus (intro w hSw; (try dsimp only at hSw); go_simp; try with_reducible rfl))
    try simp only [Act.put, List.getElem_toArray, List.getElem_cons_succ, List.getElem_cons_zero, List.setIfInBounds_toArray, List.set_cons_zero, List.set_cons_succ]
    refine tkW (i := 18) (v := ?_) rfl (by kernel_rfl) (by kernel_rfl) (fun _ _ _ h => h) ?_ (by assumption) ?_; rotate_left; (focus (intro w hSw; (try dsimp only at hSw); go_simp; try with_reducible rfl))
    try simp only [Act.put, List.getElem_toArray, List.getElem_cons_succ, List.getElem_cons_zero, List.setIfInBounds_toArray, List.set_cons_zero, List.set_cons_succ]
    refine tkW (i := 19) (v := ?_) rfl (by kernel_rfl) (by kernel_rfl) (fun _ _ _ h => h) ?_ (by assumption) ?_; rotate_left; (focus (intro w hSw; (try dsimp only at hSw); go_simp; try with_reducible rfl))
    try simp only [Act.put, List.getElem_toArray, List.getElem_cons_succ, List.getElem_cons_zero, List.setIfInBounds_toArray, List.set_cons_zero, List.set_cons_succ]
    refine tkW (i := 20) (v := ?_) rfl (by kernel_rfl) (by kernel_rfl) (fun _ _ _ h => h) ?_ (by assumption) ?_; rotate_left; (focus (intro w hSw; (try dsimp only at hSw); go_simp; try with_reducible rfl))
    try simp only [Act.put, List.getElem_toArray, List.getElem_cons_succ, List.getElem_cons_zero, List.setIfInBounds_toArray, List.set_cons_zero, List.set_cons_succ]
    refine tkW (i := 21) (v := ?_) rfl (by kernel_rfl) (by kernel_rfl) (fun _ _ _ h => h) ?_ (by assumption) ?_; rotate_left; (focus (intro w hSw; (try dsimp only at hSw); go_simp; try with_reducible rfl))
    try simp only [Act.put, List.getElem_toArray, List.getElem_cons_succ, List.getElem_cons_zero, List.setIfInBounds_toArray, List.set_cons_zero, List.set_cons_succ]
    refine tkW (i := 22) (v := ?_) rfl (by kernel_rfl) (by kernel_rfl) (fun _ _ _ h => h) ?_ (by assumption) ?_; rotate_left; (focus (intro w hSw; (try dsimp only at hSw); go_simp; try with_reducible rfl))
    try simp only [Act.put, List.getElem_toArray, List.getElem_cons_succ, List.getElem_cons_zero, List.setIfInBounds_toArray, List.set_cons_zero, List.set_cons_succ]
    refine tkW (i := 23) (v := ?_) rfl (by kernel_rfl) (by kernel_rfl) (fun _ _ _ h => h) ?_ (by assumption) ?_; rotate_left; (focus (intro w hSw; (try dsimp only at hSw); go_simp; try with_reducible rfl))
    try simp only [Act.put, List.getElem_toArray, List.getElem_cons_succ, List.getElem_cons_zero, List.setIfInBounds_toArray, List.set_cons_zero, List.set_cons_succ]
    refine tkW (i := 24) (v := ?_) rfl (by kernel_rfl) (by kernel_rfl) (fun _ _ _ h => h) ?_ (by assumption) ?_; rotate_left; (focus (intro w hSw; (try dsimp only at hSw); go_simp; try with_reducible rfl))
    try simp only [Act.put, List.getElem_toArray, List.getElem_cons_succ, List.getElem_cons_zero, List.setIfInBounds_toArray, List.set_cons_zero, List.set_cons_succ]
    refine tkW (i := 25) (v := ?_) rfl (by kernel_rfl) (by kernel_rfl) (fun _ _ _ h => h) ?_ (by assumption) ?_; rotate_left; (focus (intro w hSw; (try dsimp only at hSw); go_simp; try with_reducible rfl))
    try simp only [Act.put, List.getElem_toArray, List.getElem_cons_succ, List.getElem_cons_zero, List.setIfInBounds_toArray, List.set_cons_zero, List.set_cons_succ]
    refine wpAnyH_done (by kernel_rfl) ?_ _
    all_goals
      go_wp2
      generalize hw3 : ext _ d2 os2 = W3
      have c0 : W3.cell? ⟨w.heap.size, 0, none⟩ = some (.int .i64 (k : Int)) := by subst hw3; exact hHeld.1
      have c1 : W3.cell? ⟨w.heap.size, 1, none⟩ = some (.int .i64 a) := by subst hw3; exact hHeld.2.1
      have c2 : W3.cell? ⟨w.heap.size, 2, none⟩ = some (.int .i64 r) := by subst hw3; exact hHeld.2.2.1
      have z0 : W3.cell? ⟨w.heap.size + 1, 0, none⟩ = some (.int .i64 0) := by subst hw3; go_simp
      have z1 : W3.cell? ⟨w.heap.size + 1, 1, none⟩ = some (.int .i64 0) := by subst hw3; go_simp
      have z2 : W3.cell? ⟨w.heap.size + 1, 2, none⟩ = some (.int .i64 0) := by subst hw3; go_simp
      have f0 : W3.frozen? ⟨w.heap.size + 1, 0, none⟩ = false := by subst hw3; go_simp
      have f1 : W3.frozen? ⟨w.heap.size + 1, 1, none⟩ = false := by subst hw3; go_simp
      have f2 : W3.frozen? ⟨w.heap.size + 1, 2, none⟩ = false := by subst hw3; go_simp
      have fr1 : W3.frozen? ⟨w.heap.size, 1, none⟩ = false := by subst hw3; go_simp
      have t4 : W3.cell? ⟨bt, ot + k * 7 + 4, none⟩ = some (.string (kth t k).tx) := by subst hw3; exact hHeld.2.2.2
      have B3 : Below w.heap.size w W3 := by subst hw3; (repeat (first | exact Below.refl _ _ | exact Hbl.out | refine Below.ext ?_ (by first | omega | (simp; omega) | simp) | refine Below.setCell ?_ (by first | omega | (simp; omega) | simp) _ | refine Below.alloc ?_ (by first | omega | (simp; omega) | simp) _ | refine Below.drew ?_ | refine below_drewN ?_ _ | refine Below.step (by assumption) (by first | omega | (simp; omega) | simp) ?_))
      clear hHeld hw3
      generalize hTx : (kth t k).tx = tx at *
      have HTx := Lib.hid hTx
      clear hTx
      go_quiet (fail)
      generalize hW5 : World.drewN W3 _ = W5
      have c0' : W5.cell? ⟨w.heap.size, 0, none⟩ = some (.int .i64 (k : Int)) := by subst hW5; go_simp
      have c1' : W5.cell? ⟨w.heap.size, 1, none⟩ = some (.int .i64 a) := by subst hW5; go_simp
      have c2' : W5.cell? ⟨w.heap.size, 2, none⟩ = some (.int .i64 r) := by subst hW5; go_simp
      have y0 : W5.cell? ⟨w.heap.size + 1, 0, none⟩ = some (.int .i64 0) := by subst hW5; go_simp
      have y1 : W5.cell? ⟨w.heap.size + 1, 1, none⟩ = some (.int .i64 0) := by subst hW5; go_simp
      have y2 : W5.cell? ⟨w.heap.size + 1, 2, none⟩ = some (.int .i64 0) := by subst hW5; go_simp
      have e0 : W5.frozen? ⟨w.heap.size + 1, 0, none⟩ = false := by subst hW5; go_simp
      have e1 : W5.frozen? ⟨w.heap.size + 1, 1, none⟩ = false := by subst hW5; go_simp
      have e2 : W5.frozen? ⟨w.heap.size + 1, 2, none⟩ = false := by subst hW5; go_simp
      have B5 : Below w.heap.size w W5 := by subst hW5; (repeat (first | exact Below.refl _ _ | exact Hbl.out | refine Below.ext ?_ (by first | omega | (simp; omega) | simp) | refine Below.setCell ?_ (by first | omega | (simp; omega) | simp) _ | refine Below.alloc ?_ (by first | omega | (simp; omega) | simp) _ | refine Below.drew ?_ | refine below_drewN ?_ _ | refine Below.step (by assumption) (by first | omega | (simp; omega) | simp) ?_))
      have hlt5 : w.heap.size + 1 < W5.heap.size := World.block_lt_of_cell? W5 _ y0
      clear hW5 c0 c1 c2 z0 z1 z2 f0 f1 f2 fr1 t4 B3
      by_cases hq : many < ((tx.size - a.toNat : Nat) : Int)
      · have zw : wrap64 (a + many) = a + many := IntWalk.wrap64_in (a + many) (by omega)
        have HT := Lib.hid (rdT_le (tx := tx) (by omega) ha1 hz (by omega))
        go_wp2_with fail
        rw [show min many.toNat (tx.size - a.toNat) = many.toNat from by omega, Int.toNat_of_nonneg (show 0 ≤ many from by omega)]
        generalize hw6 : World.alloc _ _ = W6
        have d0 : W6.cell? ⟨W5.heap.size, 0, none⟩ = some (.int .i64 (k : Int)) := by subst hw6; go_simp
        have d1 : W6.cell? ⟨W5.heap.size, 1, none⟩ = some (.int .i64 (a + many)) := by subst hw6; go_simp
        have d2 : W6.cell? ⟨W5.heap.size, 2, none⟩ = some (.int .i64 r) := by subst hw6; go_simp
        have x0 : W6.cell? ⟨w.heap.size + 1, 0, none⟩ = some (.int .i64 0) := by subst hw6; go_simp
        have x1 : W6.cell? ⟨w.heap.size + 1, 1, none⟩ = some (.int .i64 0) := by subst hw6; go_simp
        have x2 : W6.cell? ⟨w.heap.size + 1, 2, none⟩ = some (.int .i64 0) := by subst hw6; go_simp
        have x3 : W6.frozen? ⟨w.heap.size + 1, 0, none⟩ = false := by subst hw6; go_simp
        have x4 : W6.frozen? ⟨w.heap.size + 1, 1, none⟩ = false := by subst hw6; go_simp
        have x5 : W6.frozen? ⟨w.heap.size + 1, 2, none⟩ = false := by subst hw6; go_simp
        have B6 : Below w.heap.size w W6 := by subst hw6; exact Below.alloc B5 (by omega) _
        clear hw6 c0' c1' c2' y0 y1 y2 e0 e1 e2 B5 zw
        go_region
        all_goals
          go_wp2
          obtain ⟨p0, p1, p2⟩ := set3 (v0 := .int .i64 (k : Int)) (v1 := .int .i64 (a + many)) (v2 := .int .i64 r) x0 x1 x2
          have B4 : Below w.heap.size w (((W6.setCell ⟨w.heap.size + 1, 0, none⟩ (.int .i64 (k : Int))).setCell ⟨w.heap.size + 1, 1, none⟩ (.int .i64 (a + many))).setCell ⟨w.heap.size + 1, 2, none⟩ (.int .i64 r)).drew := by (repeat (first | exact Below.refl _ _ | exact Hbl.out | refine Below.ext ?_ (by first | omega | (simp; omega) | simp) | refine Below.setCell ?_ (by first | omega | (simp; omega) | simp) _ | refine Below.alloc ?_ (by first | omega | (simp; omega) | simp) _ | refine Below.drew ?_ | refine below_drewN ?_ _ | refine Below.step (by assumption) (by first | omega | (simp; omega) | simp) ?_))
          generalize hW4 : World.drew _ = W4 at p0 p1 p2 B4 ⊢
          have HB := Lib.hid B4
          clear B4 B6 x0 x1 x2 x3 x4 x5 d0 d1 d2 hW4
          simp [bodyPost, results, Try.results27, go_sem, p0, p1, p2]
          obtain ⟨HT1, HT2⟩ := HT.out
          rw [HTx.out]
          refine ⟨⟨?_, ?_⟩, HB.out⟩
          · rw [HT1]
          · omega
      · have HT := Lib.hid (rdT_ge (tx := tx) (by omega) ha1 hz (show ((tx.size - a.toNat : Nat) : Int) ≤ many by omega))
        have zw : wrap64 (a + ((tx.size - a.toNat : Nat) : Int)) = a + ((tx.size - a.toNat : Nat) : Int) := IntWalk.wrap64_in _ (by omega)
        go_wp2_with fail
        generalize hw6 : World.alloc _ _ = W6
        have d0 : W6.cell? ⟨W5.heap.size, 0, none⟩ = some (.int .i64 (k : Int)) := by subst hw6; go_simp
        have d1 : W6.cell? ⟨W5.heap.size, 1, none⟩ = some (.int .i64 (a + ((tx.size - a.toNat : Nat) : Int))) := by subst hw6; go_simp
        have d2 : W6.cell? ⟨W5.heap.size, 2, none⟩ = some (.int .i64 r) := by subst hw6; go_simp
        have x0 : W6.cell? ⟨w.heap.size + 1, 0, none⟩ = some (.int .i64 0) := by subst hw6; go_simp
        have x1 : W6.cell? ⟨w.heap.size + 1, 1, none⟩ = some (.int .i64 0) := by subst hw6; go_simp
        have x2 : W6.cell? ⟨w.heap.size + 1, 2, none⟩ = some (.int .i64 0) := by subst hw6; go_simp
        have x3 : W6.frozen? ⟨w.heap.size + 1, 0, none⟩ = false := by subst hw6; go_simp
        have x4 : W6.frozen? ⟨w.heap.size + 1, 1, none⟩ = false := by subst hw6; go_simp
        have x5 : W6.frozen? ⟨w.heap.size + 1, 2, none⟩ = false := by subst hw6; go_simp
        have B6 : Below w.heap.size w W6 := by subst hw6; exact Below.alloc B5 (by omega) _
        clear hw6 c0' c1' c2' y0 y1 y2 e0 e1 e2 B5 zw
        go_region
        all_goals
          go_wp2
          obtain ⟨p0, p1, p2⟩ := set3 (v0 := .int .i64 (k : Int)) (v1 := .int .i64 (a + ((tx.size - a.toNat : Nat) : Int))) (v2 := .int .i64 r) x0 x1 x2
          have B4 : Below w.heap.size w (((W6.setCell ⟨w.heap.size + 1, 0, none⟩ (.int .i64 (k : Int))).setCell ⟨w.heap.size + 1, 1, none⟩ (.int .i64 (a + ((tx.size - a.toNat : Nat) : Int)))).setCell ⟨w.heap.size + 1, 2, none⟩ (.int .i64 r)).drew := by (repeat (first | exact Below.refl _ _ | exact Hbl.out | refine Below.ext ?_ (by first | omega | (simp; omega) | simp) | refine Below.setCell ?_ (by first | omega | (simp; omega) | simp) _ | refine Below.alloc ?_ (by first | omega | (simp; omega) | simp) _ | refine Below.drew ?_ | refine below_drewN ?_ _ | refine Below.step (by assumption) (by first | omega | (simp; omega) | simp) ?_))
          generalize hW4 : World.drew _ = W4 at p0 p1 p2 B4 ⊢
          have HB := Lib.hid B4
          clear B4 B6 x0 x1 x2 x3 x4 x5 d0 d1 d2 hW4
          simp [bodyPost, results, Try.results27, go_sem, p0, p1, p2]
          obtain ⟨HT1, HT2⟩ := HT.out
          rw [HTx.out]
          refine ⟨⟨?_, ?_⟩, HB.out⟩
          · rw [HT1]
          · omega
end Go.Proofs.Ythcmecgmidopoaa
