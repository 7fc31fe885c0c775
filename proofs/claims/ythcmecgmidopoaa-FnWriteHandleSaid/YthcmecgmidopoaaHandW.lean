/- Writing through a handle, in the package. -/
import Derived.Test.YthcmecgmidopoaaHandR
import Derived.Test.YthcmecgmidopoaaCopyI
import Derived.Test.YthcmecgmidopoaaWriteS
import Derived.Deep.Cut
import Derived.Deep.CutRange
import Derived.StillTailTactics
set_option linter.unusedSimpArgs false
set_option linter.unusedVariables false
set_option linter.unusedSectionVars false
namespace Go.Proofs.Ythcmecgmidopoaa
open Go.RowKit

/-- The text of a file in which X is written from place a on. -/
def wrT (tx : ByteArray) (a : Nat) (X : ByteArray) : ByteArray := tx.extract 0 a ++ X ++ tx.extract (min (a + X.size) tx.size) tx.size
def whF (t : List Nd) (f a r : Int) (X : ByteArray) : List Nd × Int × Int :=
  if hOk t f a r = false then ([], a, 1) else if (bits .and .i64 r 2 == 0) = true then ([], a, 3)
  else if ((kth t f.toNat).tx.size : Int) < a ∨ 40 < a + (X.size : Int) then ([], a, 6)
  else (t.set f.toNat (txN (kth t f.toNat) (wrT (kth t f.toNat).tx a.toNat X)), a + (X.size : Int), 0)
theorem tx_small2 {t : List Nd} {k : Nat} (h : treeB t = true) (hk : k < t.length) : (kth t k).tx.size ≤ 40 := by
  have hv := (nodeB_iff.1 (tree_node h hk)).1
  unfold headB at hv
  simp only [Bool.and_eq_true, decide_eq_true_eq] at hv
  exact hv.2.2.2.2.2.2
theorem ex_none (P : ByteArray) (n : Nat) : P.extract n n = ByteArray.empty := by
  apply ByteArray.ext
  simp
set_option maxRecDepth 100000 in
set_option maxHeartbeats 8000000 in
theorem whI_of (v : Value) (t : List Nd) (f a r : Int) (X : ByteArray) (w : World) (h : TreeR w v t) (ht : t.length ≤ 1000) (hkz : (kidsOf t).length ≤ 1000000) (hX : X.size ≤ 1048576) :
    Calls Try.prog 33 #[v, .agg #[.int .i64 f, .int .i64 a, .int .i64 r], .string X] w fun e w' => ∃ v' cs, e = .returned (.tuple #[v', .agg #[.int .i64 f, .int .i64 (whF t f a r X).2.1, .int .i64 r], .int .i64 (whF t f a r X).2.2]) ∧ TreeC w.heap.size w' v' cs (whF t f a r X).1 ∧ Below w.heap.size w w' := by
  have hV := fun w h => hvI_of v t f a r w h ht hkz
  obtain ⟨R, hR⟩ : ∃ R, R = whF t f a r X := ⟨_, rfl⟩
  rw [← hR]
  unfold whF at hR
  have H := Lib.hid h
  have hC := fun w h hf => copyI_of v t w h ht hf
  have HC := Lib.hid hC
  obtain ⟨A, cap, rfl⟩ := h.shape
  have hcap := h.caps
  clear h hC
  cases hok : hOk t f a r
  · rw [if_pos hok] at hR
    rw [hok] at hV
    have HV := Lib.hid hV
    have HR := Lib.hid hR
    clear hV hR hok
    go_enter Try.func33, Try.ntmps33
    go_wp2_with fail
    refine (HV.out _ (H.out.below (by (repeat (first | exact Below.refl _ _ | exact Hbl.out | refine Below.ext ?_ (by first | omega | (simp; omega) | simp) | refine Below.setCell ?_ (by first | omega | (simp; omega) | simp) _ | refine Below.alloc ?_ (by first | omega | (simp; omega) | simp) _ | refine Below.drew ?_ | refine below_drewN ?_ _ | refine Below.step (by assumption) (by first | omega | (simp; omega) | simp) ?_))))).mono ?_
    rintro e W3 ⟨rfl, b3⟩
    have c0 : W3.cell? ⟨w.heap.size, 0, none⟩ = some (.int .i64 f) := (b3.cell (p := ⟨w.heap.size, 0, none⟩) (by simp; try omega)).trans (by go_simp)
    have c1 : W3.cell? ⟨w.heap.size, 1, none⟩ = some (.int .i64 a) := (b3.cell (p := ⟨w.heap.size, 1, none⟩) (by simp; try omega)).trans (by go_simp)
    have c2 : W3.cell? ⟨w.heap.size, 2, none⟩ = some (.int .i64 r) := (b3.cell (p := ⟨w.heap.size, 2, none⟩) (by simp; try omega)).trans (by go_simp)
    have z0 : W3.cell? ⟨w.heap.size + 1, 0, none⟩ = some (.int .i64 0) := (b3.cell (p := ⟨w.heap.size + 1, 0, none⟩) (by simp; try omega)).trans (by go_simp)
    have z1 : W3.cell? ⟨w.heap.size + 1, 1, none⟩ = some (.int .i64 0) := (b3.cell (p := ⟨w.heap.size + 1, 1, none⟩) (by simp; try omega)).trans (by go_simp)
    have z2 : W3.cell? ⟨w.heap.size + 1, 2, none⟩ = some (.int .i64 0) := (b3.cell (p := ⟨w.heap.size + 1, 2, none⟩) (by simp; try omega)).trans (by go_simp)
    have fr1 : W3.frozen? ⟨w.heap.size, 1, none⟩ = false := (b3.frozen (p := ⟨w.heap.size, 1, none⟩) (by simp; try omega)).trans (by go_simp)
    have f0 : W3.frozen? ⟨w.heap.size + 1, 0, none⟩ = false := (b3.frozen (p := ⟨w.heap.size + 1, 0, none⟩) (by simp; try omega)).trans (by go_simp)
    have f1 : W3.frozen? ⟨w.heap.size + 1, 1, none⟩ = false := (b3.frozen (p := ⟨w.heap.size + 1, 1, none⟩) (by simp; try omega)).trans (by go_simp)
    have f2 : W3.frozen? ⟨w.heap.size + 1, 2, none⟩ = false := (b3.frozen (p := ⟨w.heap.size + 1, 2, none⟩) (by simp; try omega)).trans (by go_simp)
    have B3 : Below w.heap.size w W3 := Below.step b3 (by simp; omega) (by (repeat (first | exact Below.refl _ _ | exact Hbl.out | refine Below.ext ?_ (by first | omega | (simp; omega) | simp) | refine Below.setCell ?_ (by first | omega | (simp; omega) | simp) _ | refine Below.alloc ?_ (by first | omega | (simp; omega) | simp) _ | refine Below.drew ?_ | refine below_drewN ?_ _ | refine Below.step (by assumption) (by first | omega | (simp; omega) | simp) ?_)))
    have b3' := B3
    clear b3
    go_wp2_with fail
    go_region
    all_goals
      go_wp2
      obtain ⟨p0, p1, p2⟩ := set3 (v0 := .int .i64 f) (v1 := .int .i64 a) (v2 := .int .i64 r) z0 z1 z2
      have B4 : Below w.heap.size w (((W3.setCell ⟨w.heap.size + 1, 0, none⟩ (.int .i64 f)).setCell ⟨w.heap.size + 1, 1, none⟩ (.int .i64 a)).setCell ⟨w.heap.size + 1, 2, none⟩ (.int .i64 r)).drew := by (repeat (first | exact Below.refl _ _ | exact Hbl.out | refine Below.ext ?_ (by first | omega | (simp; omega) | simp) | refine Below.setCell ?_ (by first | omega | (simp; omega) | simp) _ | refine Below.alloc ?_ (by first | omega | (simp; omega) | simp) _ | refine Below.drew ?_ | refine below_drewN ?_ _ | refine Below.step (by assumption) (by first | omega | (simp; omega) | simp) ?_))
      generalize hW4 : World.drew _ = W4 at p0 p1 p2 B4 ⊢
      have HB := Lib.hid B4
      clear B4 B3 z0 z1 z2 c0 c1 c2 f0 f1 f2 hW4
      refine bodyPost_ret (v := .tuple #[.slice none 0 0, .agg #[.int .i64 f, .int .i64 a, .int .i64 r], .int .i64 1]) ?_ rfl ?_
      · simp [results, Try.results33, go_sem, p0, p1, p2]
      · rw [HR.out]
        exact ⟨_, [], rfl, treeC_empty (ownG_none _ _), HB.out⟩
  · rw [if_neg (show ¬ hOk t f a r = false by rw [hok]; simp)] at hR
    rw [hok] at hV
    have HV := Lib.hid hV
    obtain ⟨htb, hf1, hf2, hfo, ha1, ha2, _, _⟩ := hOk_in hok
    obtain ⟨k, rfl⟩ : ∃ k : Nat, f = (k : Int) := ⟨f.toNat, by omega⟩
    have hk : k < t.length := by omega
    have hk' : (k : Int) < (t.length : Int) := by omega
    rw [Int.toNat_natCast] at hR hfo
    have Few1 := Lib.hid (few_of htb hkz)
    have htx := Lib.hid (tx_small2 htb hk)
    clear hV hok htb
    cases hb : (bits .and .i64 r 2 == 0)
    · rw [if_neg (show ¬ (bits .and .i64 r 2 == 0) = true by rw [hb]; simp)] at hR
      by_cases hfull : ((kth t k).tx.size : Int) < a ∨ 40 < a + (X.size : Int)
      · rw [if_pos hfull] at hR
        have HR := Lib.hid hR
        clear hR
        obtain ⟨bt, ot, nA, nC, kA, kC, rfl, hbt, _, _, _, _, _, y4', _⟩ := H.out.at_ (kth_at hk)
        have za : IntKind.i64.wrap (a + (X.size : Int)) = a + (X.size : Int) := IntWalk.i64_in _ (by omega)
        have hd : decide (((kth t k).tx.size : Int) < a) = true ∨ (decide (((kth t k).tx.size : Int) < a) = false ∧ decide (40 < a + (X.size : Int)) = true) := by
          by_cases h1 : ((kth t k).tx.size : Int) < a
          · exact .inl (decide_eq_true h1)
          · exact .inr ⟨decide_eq_false h1, decide_eq_true (by omega)⟩
        clear hfull
        go_enter Try.func33, Try.ntmps33
        go_wp2_with fail
        refine (HV.out _ (H.out.below (by (repeat (first | exact Below.refl _ _ | exact Hbl.out | refine Below.ext ?_ (by first | omega | (simp; omega) | simp) | refine Below.setCell ?_ (by first | omega | (simp; omega) | simp) _ | refine Below.alloc ?_ (by first | omega | (simp; omega) | simp) _ | refine Below.drew ?_ | refine below_drewN ?_ _ | refine Below.step (by assumption) (by first | omega | (simp; omega) | simp) ?_))))).mono ?_
        rintro e W3 ⟨rfl, b3⟩
        have c0 : W3.cell? ⟨w.heap.size, 0, none⟩ = some (.int .i64 (k : Int)) := (b3.cell (p := ⟨w.heap.size, 0, none⟩) (by simp; try omega)).trans (by go_simp)
        have c1 : W3.cell? ⟨w.heap.size, 1, none⟩ = some (.int .i64 a) := (b3.cell (p := ⟨w.heap.size, 1, none⟩) (by simp; try omega)).trans (by go_simp)
        have c2 : W3.cell? ⟨w.heap.size, 2, none⟩ = some (.int .i64 r) := (b3.cell (p := ⟨w.heap.size, 2, none⟩) (by simp; try omega)).trans (by go_simp)
        have z0 : W3.cell? ⟨w.heap.size + 1, 0, none⟩ = some (.int .i64 0) := (b3.cell (p := ⟨w.heap.size + 1, 0, none⟩) (by simp; try omega)).trans (by go_simp)
        have z1 : W3.cell? ⟨w.heap.size + 1, 1, none⟩ = some (.int .i64 0) := (b3.cell (p := ⟨w.heap.size + 1, 1, none⟩) (by simp; try omega)).trans (by go_simp)
        have z2 : W3.cell? ⟨w.heap.size + 1, 2, none⟩ = some (.int .i64 0) := (b3.cell (p := ⟨w.heap.size + 1, 2, none⟩) (by simp; try omega)).trans (by go_simp)
        have fr1 : W3.frozen? ⟨w.heap.size, 1, none⟩ = false := (b3.frozen (p := ⟨w.heap.size, 1, none⟩) (by simp; try omega)).trans (by go_simp)
        have f0 : W3.frozen? ⟨w.heap.size + 1, 0, none⟩ = false := (b3.frozen (p := ⟨w.heap.size + 1, 0, none⟩) (by simp; try omega)).trans (by go_simp)
        have f1 : W3.frozen? ⟨w.heap.size + 1, 1, none⟩ = false := (b3.frozen (p := ⟨w.heap.size + 1, 1, none⟩) (by simp; try omega)).trans (by go_simp)
        have f2 : W3.frozen? ⟨w.heap.size + 1, 2, none⟩ = false := (b3.frozen (p := ⟨w.heap.size + 1, 2, none⟩) (by simp; try omega)).trans (by go_simp)
        have B3 : Below w.heap.size w W3 := Below.step b3 (by simp; omega) (by (repeat (first | exact Below.refl _ _ | exact Hbl.out | refine Below.ext ?_ (by first | omega | (simp; omega) | simp) | refine Below.setCell ?_ (by first | omega | (simp; omega) | simp) _ | refine Below.alloc ?_ (by first | omega | (simp; omega) | simp) _ | refine Below.drew ?_ | refine below_drewN ?_ _ | refine Below.step (by assumption) (by first | omega | (simp; omega) | simp) ?_)))
        have b3' := B3
        clear b3
        have y4 : W3.cell? ⟨bt, ot + k * 7 + 4, none⟩ = some (.string (kth t k).tx) := (b3'.cell (p := ⟨bt, ot + k * 7 + 4, none⟩) hbt).trans y4'
        go_upto_region 5 with fail
        rcases hd with d1 | ⟨d1, d2⟩
        all_goals
          go_quiet (fail)
          have hlt3 : w.heap.size + 1 < W3.heap.size := World.block_lt_of_cell? W3 _ z0
          have b5 : Below W3.heap.size W3 (W3.drewN nq) := below_drewN (Below.refl _ _) _
          obtain ⟨W5, hW5⟩ : ∃ W5, W5 = W3.drewN nq := ⟨_, rfl⟩
          rw [← hW5] at b5 ⊢
          replace c0 := (b5.cell (p := ⟨w.heap.size, 0, none⟩) (Nat.lt_of_succ_lt hlt3)).trans c0
          replace c1 := (b5.cell (p := ⟨w.heap.size, 1, none⟩) (Nat.lt_of_succ_lt hlt3)).trans c1
          replace c2 := (b5.cell (p := ⟨w.heap.size, 2, none⟩) (Nat.lt_of_succ_lt hlt3)).trans c2
          replace z0 := (b5.cell (p := ⟨w.heap.size + 1, 0, none⟩) hlt3).trans z0
          replace z1 := (b5.cell (p := ⟨w.heap.size + 1, 1, none⟩) hlt3).trans z1
          replace z2 := (b5.cell (p := ⟨w.heap.size + 1, 2, none⟩) hlt3).trans z2
          replace f0 := (b5.frozen (p := ⟨w.heap.size + 1, 0, none⟩) hlt3).trans f0
          replace f1 := (b5.frozen (p := ⟨w.heap.size + 1, 1, none⟩) hlt3).trans f1
          replace f2 := (b5.frozen (p := ⟨w.heap.size + 1, 2, none⟩) hlt3).trans f2
          replace fr1 := (b5.frozen (p := ⟨w.heap.size, 1, none⟩) (Nat.lt_of_succ_lt hlt3)).trans fr1
          replace B3 := Below.step b5 B3.size B3
          replace y4 := (b5.cell (p := ⟨bt, ot + k * 7 + 4, none⟩) (Nat.lt_of_lt_of_le hbt b3'.size)).trans y4
          replace hlt3 : w.heap.size + 1 < W5.heap.size := Nat.lt_of_lt_of_le hlt3 b5.size
          have hbt5 : bt < W5.heap.size := Nat.lt_of_lt_of_le (Nat.lt_of_lt_of_le hbt b3'.size) b5.size
          clear b5 hW5
          clear y4 y4' b3'
          go_wp2_with fail
          go_region
          all_goals
            go_wp2
            obtain ⟨p0, p1, p2⟩ := set3 (v0 := .int .i64 (k : Int)) (v1 := .int .i64 a) (v2 := .int .i64 r) z0 z1 z2
            have B4 : Below w.heap.size w (((W5.setCell ⟨w.heap.size + 1, 0, none⟩ (.int .i64 (k : Int))).setCell ⟨w.heap.size + 1, 1, none⟩ (.int .i64 a)).setCell ⟨w.heap.size + 1, 2, none⟩ (.int .i64 r)).drew := by (repeat (first | exact Below.refl _ _ | exact Hbl.out | refine Below.ext ?_ (by first | omega | (simp; omega) | simp) | refine Below.setCell ?_ (by first | omega | (simp; omega) | simp) _ | refine Below.alloc ?_ (by first | omega | (simp; omega) | simp) _ | refine Below.drew ?_ | refine below_drewN ?_ _ | refine Below.step (by assumption) (by first | omega | (simp; omega) | simp) ?_))
            generalize hW4 : World.drew _ = W4 at p0 p1 p2 B4 ⊢
            have HB := Lib.hid B4
            clear B4 B3 z0 z1 z2 c0 c1 c2 f0 f1 f2 hW4
            refine bodyPost_ret (v := .tuple #[.slice none 0 0, .agg #[.int .i64 (k : Int), .int .i64 a, .int .i64 r], .int .i64 6]) ?_ rfl ?_
            · simp [results, Try.results33, go_sem, p0, p1, p2]
            · rw [HR.out]
              exact ⟨_, [], rfl, treeC_empty (ownG_none _ _), HB.out⟩
      · rw [if_neg hfull] at hR
        have HR := Lib.hid hR
        clear hR
        obtain ⟨bt, ot, nA, nC, kA, kC, rfl, hbt, _, _, _, _, _, y4', _⟩ := H.out.at_ (kth_at hk)
        have za : IntKind.i64.wrap (a + (X.size : Int)) = a + (X.size : Int) := IntWalk.i64_in _ (by omega)
        have d1 : decide (((kth t k).tx.size : Int) < a) = false := decide_eq_false (by omega)
        have d2 : decide (40 < a + (X.size : Int)) = false := decide_eq_false (by omega)
        have hA1 : a ≤ ((kth t k).tx.size : Int) := by omega
        have hA2 : a + (X.size : Int) ≤ 40 := by omega
        clear hfull
        go_enter Try.func33, Try.ntmps33
        go_wp2_with fail
        refine (HV.out _ (H.out.below (by (repeat (first | exact Below.refl _ _ | exact Hbl.out | refine Below.ext ?_ (by first | omega | (simp; omega) | simp) | refine Below.setCell ?_ (by first | omega | (simp; omega) | simp) _ | refine Below.alloc ?_ (by first | omega | (simp; omega) | simp) _ | refine Below.drew ?_ | refine below_drewN ?_ _ | refine Below.step (by assumption) (by first | omega | (simp; omega) | simp) ?_))))).mono ?_
        rintro e W3 ⟨rfl, b3⟩
        have c0 : W3.cell? ⟨w.heap.size, 0, none⟩ = some (.int .i64 (k : Int)) := (b3.cell (p := ⟨w.heap.size, 0, none⟩) (by simp; try omega)).trans (by go_simp)
        have c1 : W3.cell? ⟨w.heap.size, 1, none⟩ = some (.int .i64 a) := (b3.cell (p := ⟨w.heap.size, 1, none⟩) (by simp; try omega)).trans (by go_simp)
        have c2 : W3.cell? ⟨w.heap.size, 2, none⟩ = some (.int .i64 r) := (b3.cell (p := ⟨w.heap.size, 2, none⟩) (by simp; try omega)).trans (by go_simp)
        have z0 : W3.cell? ⟨w.heap.size + 1, 0, none⟩ = some (.int .i64 0) := (b3.cell (p := ⟨w.heap.size + 1, 0, none⟩) (by simp; try omega)).trans (by go_simp)
        have z1 : W3.cell? ⟨w.heap.size + 1, 1, none⟩ = some (.int .i64 0) := (b3.cell (p := ⟨w.heap.size + 1, 1, none⟩) (by simp; try omega)).trans (by go_simp)
        have z2 : W3.cell? ⟨w.heap.size + 1, 2, none⟩ = some (.int .i64 0) := (b3.cell (p := ⟨w.heap.size + 1, 2, none⟩) (by simp; try omega)).trans (by go_simp)
        have fr1 : W3.frozen? ⟨w.heap.size, 1, none⟩ = false := (b3.frozen (p := ⟨w.heap.size, 1, none⟩) (by simp; try omega)).trans (by go_simp)
        have f0 : W3.frozen? ⟨w.heap.size + 1, 0, none⟩ = false := (b3.frozen (p := ⟨w.heap.size + 1, 0, none⟩) (by simp; try omega)).trans (by go_simp)
        have f1 : W3.frozen? ⟨w.heap.size + 1, 1, none⟩ = false := (b3.frozen (p := ⟨w.heap.size + 1, 1, none⟩) (by simp; try omega)).trans (by go_simp)
        have f2 : W3.frozen? ⟨w.heap.size + 1, 2, none⟩ = false := (b3.frozen (p := ⟨w.heap.size + 1, 2, none⟩) (by simp; try omega)).trans (by go_simp)
        have B3 : Below w.heap.size w W3 := Below.step b3 (by simp; omega) (by (repeat (first | exact Below.refl _ _ | exact Hbl.out | refine Below.ext ?_ (by first | omega | (simp; omega) | simp) | refine Below.setCell ?_ (by first | omega | (simp; omega) | simp) _ | refine Below.alloc ?_ (by first | omega | (simp; omega) | simp) _ | refine Below.drew ?_ | refine below_drewN ?_ _ | refine Below.step (by assumption) (by first | omega | (simp; omega) | simp) ?_)))
        have b3' := B3
        clear b3
        have y4 : W3.cell? ⟨bt, ot + k * 7 + 4, none⟩ = some (.string (kth t k).tx) := (b3'.cell (p := ⟨bt, ot + k * 7 + 4, none⟩) hbt).trans y4'
        go_upto_region 5 with fail
        go_quiet (fail)
        have hlt3 : w.heap.size + 1 < W3.heap.size := World.block_lt_of_cell? W3 _ z0
        have b5 : Below W3.heap.size W3 (W3.drewN nq) := below_drewN (Below.refl _ _) _
        obtain ⟨W5, hW5⟩ : ∃ W5, W5 = W3.drewN nq := ⟨_, rfl⟩
        rw [← hW5] at b5 ⊢
        replace c0 := (b5.cell (p := ⟨w.heap.size, 0, none⟩) (Nat.lt_of_succ_lt hlt3)).trans c0
        replace c1 := (b5.cell (p := ⟨w.heap.size, 1, none⟩) (Nat.lt_of_succ_lt hlt3)).trans c1
        replace c2 := (b5.cell (p := ⟨w.heap.size, 2, none⟩) (Nat.lt_of_succ_lt hlt3)).trans c2
        replace z0 := (b5.cell (p := ⟨w.heap.size + 1, 0, none⟩) hlt3).trans z0
        replace z1 := (b5.cell (p := ⟨w.heap.size + 1, 1, none⟩) hlt3).trans z1
        replace z2 := (b5.cell (p := ⟨w.heap.size + 1, 2, none⟩) hlt3).trans z2
        replace f0 := (b5.frozen (p := ⟨w.heap.size + 1, 0, none⟩) hlt3).trans f0
        replace f1 := (b5.frozen (p := ⟨w.heap.size + 1, 1, none⟩) hlt3).trans f1
        replace f2 := (b5.frozen (p := ⟨w.heap.size + 1, 2, none⟩) hlt3).trans f2
        replace fr1 := (b5.frozen (p := ⟨w.heap.size, 1, none⟩) (Nat.lt_of_succ_lt hlt3)).trans fr1
        replace B3 := Below.step b5 B3.size B3
        replace y4 := (b5.cell (p := ⟨bt, ot + k * 7 + 4, none⟩) (Nat.lt_of_lt_of_le hbt b3'.size)).trans y4
        replace hlt3 : w.heap.size + 1 < W5.heap.size := Nat.lt_of_lt_of_le hlt3 b5.size
        have hbt5 : bt < W5.heap.size := Nat.lt_of_lt_of_le (Nat.lt_of_lt_of_le hbt b3'.size) b5.size
        clear b5 hW5
        clear y4' b3'
        go_upto_region 7 with fail
        have HB5 := Lib.hid B3
        clear B3
        go_region_held3 (fun w' => w'.cell? ⟨w.heap.size, 0, none⟩ = some (.int .i64 (k : Int)) ∧ w'.cell? ⟨bt, ot + k * 7 + 4, none⟩ = some (.string (kth t k).tx)) (first | assumption | (go_simp; done) | fail) (first | (go_at_call 54; refine (HC.out _ (H.out.below (Below.drew HB5.out)) Few1.out).mono ?_; rintro e w6 ⟨v6, cs, rfl, hT6, b6⟩; have c06 := (b6.cell (p := ⟨w.heap.size, 0, none⟩) (Nat.lt_of_succ_lt hlt3)).trans c0; have c16 := (b6.cell (p := ⟨w.heap.size, 1, none⟩) (Nat.lt_of_succ_lt hlt3)).trans c1; have c26 := (b6.cell (p := ⟨w.heap.size, 2, none⟩) (Nat.lt_of_succ_lt hlt3)).trans c2; have z06 := (b6.cell (p := ⟨w.heap.size + 1, 0, none⟩) hlt3).trans z0; have f06 := (b6.frozen (p := ⟨w.heap.size + 1, 0, none⟩) hlt3).trans f0; have z16 := (b6.cell (p := ⟨w.heap.size + 1, 1, none⟩) hlt3).trans z1; have f16 := (b6.frozen (p := ⟨w.heap.size + 1, 1, none⟩) hlt3).trans f1; have z26 := (b6.cell (p := ⟨w.heap.size + 1, 2, none⟩) hlt3).trans z2; have f26 := (b6.frozen (p := ⟨w.heap.size + 1, 2, none⟩) hlt3).trans f2; have fr6 := (b6.frozen (p := ⟨w.heap.size, 1, none⟩) (Nat.lt_of_succ_lt hlt3)).trans fr1; have hz6 := b6.size; have y46 := (b6.cell (p := ⟨bt, ot + k * 7 + 4, none⟩) hbt5).trans y4; obtain ⟨A6, c6, rfl⟩ := TreeO.shape ⟨cs, hT6⟩))
        all_goals
          obtain ⟨g6, cc, rfl, hg6, hg6', _, _, _, q0, q1, q2, q3, q4, q5, q6, fz⟩ := hT6.at_ hk
          have fz4 := fz (k * 7 + 4)
          have HT6 := Lib.hid hT6
          clear hT6 fz q0 q1 q2 q3 q5 q6
          have ht40 := htx.out
          generalize hTx : (kth t k).tx = tx at *
          go_wp2_with fail
          have hc1 : ¬ 9223372036854775807 < (tx.extract 0 a.toNat).size + X.size := by rw [ByteArray.size_extract]; omega
          have hc2 : ¬ 9223372036854775807 < min a.toNat tx.size + X.size := by omega
          have hc3 : ¬ 9223372036854775807 < a.toNat + X.size := by omega
          obtain ⟨E, hE⟩ : ∃ E : Nat, a + (X.size : Int) = (E : Int) := ⟨(a + (X.size : Int)).toNat, by omega⟩
          rw [hE]
          by_cases hq : E ≤ tx.size
          · have hq' : (E : Int) ≤ (tx.size : Int) := by omega
            have hq2 : ¬ tx.size < E := by omega
            have hq3 : (decide ((E : Int) < 0) || decide ((tx.size : Int) < (E : Int))) = false := by rw [decide_eq_false (by omega), decide_eq_false (by omega)]; rfl
            have hq4 : decide ((E : Int) < 0) = false := decide_eq_false (by omega)
            have hq5 : ¬ (E : Int) < 0 := by omega
            have hc4 : ¬ 9223372036854775807 < (tx.extract 0 a.toNat ++ X).size + (tx.extract E tx.size).size := by rw [ByteArray.size_append, ByteArray.size_extract, ByteArray.size_extract]; omega
            have hc5 : ¬ 9223372036854775807 < min a.toNat tx.size + X.size + (tx.size - E) := by omega
            have HE := Lib.hid hE
            clear hE
            go_region
            all_goals
              obtain ⟨cs', hT7⟩ := (HT6.out.below (Below.drew (Below.refl w6.heap.size w6))).text (X := tx.extract 0 a.toNat ++ X ++ tx.extract E tx.size) hk (by rw [ByteArray.size_append, ByteArray.size_append, ByteArray.size_extract, ByteArray.size_extract]; have := HE.out; omega)
              have hg6w : W5.heap.size ≤ g6 := hg6
              have hg1 : w.heap.size ≠ g6 := by omega
              have hg2 : w.heap.size + 1 ≠ g6 := by omega
              have hT8 := hT7.rset (R := w.heap.size) (i := 1) (u := .int .i64 (E : Int)) (Nat.lt_of_succ_lt hlt3)
              have e7 : ((w6.drew.setCell ⟨g6, k * 7 + 4, none⟩ (.string (tx.extract 0 a.toNat ++ X ++ tx.extract E tx.size))).setCell ⟨w.heap.size, 1, none⟩ (.int .i64 (E : Int))) = ((w6.setCell ⟨g6, k * 7 + 4, none⟩ (.string (tx.extract 0 a.toNat ++ X ++ tx.extract E tx.size))).setCell ⟨w.heap.size, 1, none⟩ (.int .i64 (E : Int))).drew := rfl
              rw [e7] at hT8
              have HT7 := Lib.hid hT8
              have B7 : Below w.heap.size w ((w6.setCell ⟨g6, k * 7 + 4, none⟩ (.string (tx.extract 0 a.toNat ++ X ++ tx.extract E tx.size))).setCell ⟨w.heap.size, 1, none⟩ (.int .i64 (E : Int))).drew := Below.drew (Below.setCell (Below.setCell (Below.step b6 HB5.out.size (Below.drew HB5.out)) (Nat.le_trans HB5.out.size hg6w) _) (Nat.le_refl _) _)
              clear hT7 hT8 e7
              go_upto_region 11 with fail
              obtain ⟨W7, hw7⟩ : ∃ W7, ((w6.setCell ⟨g6, k * 7 + 4, none⟩ (.string (tx.extract 0 a.toNat ++ X ++ tx.extract E tx.size))).setCell ⟨w.heap.size, 1, none⟩ (.int .i64 (E : Int))).drew = W7 := ⟨_, rfl⟩
              rw [hw7] at HT7 B7 ⊢
              have v0 : W7.cell? ⟨w.heap.size, 0, none⟩ = some (.int .i64 (k : Int)) := by subst hw7; go_simp
              have v1 : W7.cell? ⟨w.heap.size, 1, none⟩ = some (.int .i64 (E : Int)) := by subst hw7; exact World.cell?_setCell_same _ _ _ ((World.cell?_setCell_other _ _ _ _ (fun e => hg1 (by injection e with e1; first | exact e1 | exact e1.symm))).trans c16)
              have v2 : W7.cell? ⟨w.heap.size, 2, none⟩ = some (.int .i64 r) := by subst hw7; go_simp
              have x0 : W7.cell? ⟨w.heap.size + 1, 0, none⟩ = some (.int .i64 0) := by subst hw7; go_simp
              have x1 : W7.cell? ⟨w.heap.size + 1, 1, none⟩ = some (.int .i64 0) := by subst hw7; go_simp
              have x2 : W7.cell? ⟨w.heap.size + 1, 2, none⟩ = some (.int .i64 0) := by subst hw7; go_simp
              have x3 : W7.frozen? ⟨w.heap.size + 1, 0, none⟩ = false := by subst hw7; go_simp
              have x4 : W7.frozen? ⟨w.heap.size + 1, 1, none⟩ = false := by subst hw7; go_simp
              have x5 : W7.frozen? ⟨w.heap.size + 1, 2, none⟩ = false := by subst hw7; go_simp
              clear hw7 c0 c1 c2 z0 z1 z2 f0 f1 f2 fr1 c06 c16 c26 z06 z16 z26 f06 f16 f26 fr6 y4 y46 q4 fz4
              go_region
              all_goals
                go_wp2
                obtain ⟨p0, p1, p2⟩ := set3 (v0 := .int .i64 (k : Int)) (v1 := .int .i64 (E : Int)) (v2 := .int .i64 r) x0 x1 x2
                have B8 : Below w.heap.size w (((W7.setCell ⟨w.heap.size + 1, 0, none⟩ (.int .i64 (k : Int))).setCell ⟨w.heap.size + 1, 1, none⟩ (.int .i64 (E : Int))).setCell ⟨w.heap.size + 1, 2, none⟩ (.int .i64 r)).drew := Below.drew (Below.setCell (Below.setCell (Below.setCell B7 (Nat.le_succ _) _) (Nat.le_succ _) _) (Nat.le_succ _) _)
                have hT9 := (((HT7.out.rset (R := w.heap.size + 1) (i := 0) (u := .int .i64 (k : Int)) hlt3).rset (R := w.heap.size + 1) (i := 1) (u := .int .i64 (E : Int)) hlt3).rset (R := w.heap.size + 1) (i := 2) (u := .int .i64 r) hlt3).below (Below.drew (Below.refl _ _))
                generalize hW4 : World.drew _ = W4 at p0 p1 p2 B8 hT9 ⊢
                have HB := Lib.hid B8
                have HT9 := Lib.hid (hT9.mono HB5.out.size)
                clear B8 B7 x0 x1 x2 x3 x4 x5 v0 v1 v2 hW4 hT9
                refine bodyPost_ret (v := .tuple #[.slice (some ⟨g6, 0, none⟩) t.length c6, .agg #[.int .i64 (k : Int), .int .i64 (E : Int), .int .i64 r], .int .i64 0]) ?_ rfl ?_
                · simp [results, Try.results33, go_sem, p0, p1, p2]
                · have e : wrT tx a.toNat X = tx.extract 0 a.toNat ++ X ++ tx.extract E tx.size := by
                    have := HE.out
                    unfold wrT
                    rw [show min (a.toNat + X.size) tx.size = E from by omega]
                  rw [HR.out, e, HE.out]
                  first | exact ⟨_, rfl, ⟨cs', HT9.out⟩, HB.out⟩ | exact ⟨_, cs', rfl, HT9.out, HB.out⟩
          · have hq' : ¬ (E : Int) ≤ (tx.size : Int) := by omega
            have hq2 : tx.size < E := by omega
            have hq6 : (tx.size : Int) < (E : Int) := by omega
            have hq3 : (decide ((tx.size : Int) < 0) || decide ((tx.size : Int) < (tx.size : Int))) = false := by rw [decide_eq_false (by omega), decide_eq_false (by omega)]; rfl
            have hq4 : decide ((tx.size : Int) < 0) = false := decide_eq_false (by omega)
            have hq5 : ¬ (tx.size : Int) < 0 := by omega
            have hc4 : ¬ 9223372036854775807 < (tx.extract 0 a.toNat ++ X).size + (tx.extract tx.size tx.size).size := by rw [ByteArray.size_append, ByteArray.size_extract, ByteArray.size_extract]; omega
            have hc5 : ¬ 9223372036854775807 < min a.toNat tx.size + X.size + (tx.size - tx.size) := by omega
            have HE := Lib.hid hE
            clear hE
            go_region
            all_goals
              obtain ⟨cs', hT7⟩ := (HT6.out.below (Below.drew (Below.refl w6.heap.size w6))).text (X := tx.extract 0 a.toNat ++ X) hk (by rw [ByteArray.size_append, ByteArray.size_extract]; have := HE.out; omega)
              have hg6w : W5.heap.size ≤ g6 := hg6
              have hg1 : w.heap.size ≠ g6 := by omega
              have hg2 : w.heap.size + 1 ≠ g6 := by omega
              have hT8 := hT7.rset (R := w.heap.size) (i := 1) (u := .int .i64 (E : Int)) (Nat.lt_of_succ_lt hlt3)
              have e7 : ((w6.drew.setCell ⟨g6, k * 7 + 4, none⟩ (.string (tx.extract 0 a.toNat ++ X))).setCell ⟨w.heap.size, 1, none⟩ (.int .i64 (E : Int))) = ((w6.setCell ⟨g6, k * 7 + 4, none⟩ (.string (tx.extract 0 a.toNat ++ X))).setCell ⟨w.heap.size, 1, none⟩ (.int .i64 (E : Int))).drew := rfl
              rw [e7] at hT8
              have HT7 := Lib.hid hT8
              have B7 : Below w.heap.size w ((w6.setCell ⟨g6, k * 7 + 4, none⟩ (.string (tx.extract 0 a.toNat ++ X))).setCell ⟨w.heap.size, 1, none⟩ (.int .i64 (E : Int))).drew := Below.drew (Below.setCell (Below.setCell (Below.step b6 HB5.out.size (Below.drew HB5.out)) (Nat.le_trans HB5.out.size hg6w) _) (Nat.le_refl _) _)
              clear hT7 hT8 e7
              go_upto_region 11 with fail
              obtain ⟨W7, hw7⟩ : ∃ W7, ((w6.setCell ⟨g6, k * 7 + 4, none⟩ (.string (tx.extract 0 a.toNat ++ X))).setCell ⟨w.heap.size, 1, none⟩ (.int .i64 (E : Int))).drew = W7 := ⟨_, rfl⟩
              rw [hw7] at HT7 B7 ⊢
              have v0 : W7.cell? ⟨w.heap.size, 0, none⟩ = some (.int .i64 (k : Int)) := by subst hw7; go_simp
              have v1 : W7.cell? ⟨w.heap.size, 1, none⟩ = some (.int .i64 (E : Int)) := by subst hw7; exact World.cell?_setCell_same _ _ _ ((World.cell?_setCell_other _ _ _ _ (fun e => hg1 (by injection e with e1; first | exact e1 | exact e1.symm))).trans c16)
              have v2 : W7.cell? ⟨w.heap.size, 2, none⟩ = some (.int .i64 r) := by subst hw7; go_simp
              have x0 : W7.cell? ⟨w.heap.size + 1, 0, none⟩ = some (.int .i64 0) := by subst hw7; go_simp
              have x1 : W7.cell? ⟨w.heap.size + 1, 1, none⟩ = some (.int .i64 0) := by subst hw7; go_simp
              have x2 : W7.cell? ⟨w.heap.size + 1, 2, none⟩ = some (.int .i64 0) := by subst hw7; go_simp
              have x3 : W7.frozen? ⟨w.heap.size + 1, 0, none⟩ = false := by subst hw7; go_simp
              have x4 : W7.frozen? ⟨w.heap.size + 1, 1, none⟩ = false := by subst hw7; go_simp
              have x5 : W7.frozen? ⟨w.heap.size + 1, 2, none⟩ = false := by subst hw7; go_simp
              clear hw7 c0 c1 c2 z0 z1 z2 f0 f1 f2 fr1 c06 c16 c26 z06 z16 z26 f06 f16 f26 fr6 y4 y46 q4 fz4
              go_region
              all_goals
                go_wp2
                obtain ⟨p0, p1, p2⟩ := set3 (v0 := .int .i64 (k : Int)) (v1 := .int .i64 (E : Int)) (v2 := .int .i64 r) x0 x1 x2
                have B8 : Below w.heap.size w (((W7.setCell ⟨w.heap.size + 1, 0, none⟩ (.int .i64 (k : Int))).setCell ⟨w.heap.size + 1, 1, none⟩ (.int .i64 (E : Int))).setCell ⟨w.heap.size + 1, 2, none⟩ (.int .i64 r)).drew := Below.drew (Below.setCell (Below.setCell (Below.setCell B7 (Nat.le_succ _) _) (Nat.le_succ _) _) (Nat.le_succ _) _)
                have hT9 := (((HT7.out.rset (R := w.heap.size + 1) (i := 0) (u := .int .i64 (k : Int)) hlt3).rset (R := w.heap.size + 1) (i := 1) (u := .int .i64 (E : Int)) hlt3).rset (R := w.heap.size + 1) (i := 2) (u := .int .i64 r) hlt3).below (Below.drew (Below.refl _ _))
                generalize hW4 : World.drew _ = W4 at p0 p1 p2 B8 hT9 ⊢
                have HB := Lib.hid B8
                have HT9 := Lib.hid (hT9.mono HB5.out.size)
                clear B8 B7 x0 x1 x2 x3 x4 x5 v0 v1 v2 hW4 hT9
                refine bodyPost_ret (v := .tuple #[.slice (some ⟨g6, 0, none⟩) t.length c6, .agg #[.int .i64 (k : Int), .int .i64 (E : Int), .int .i64 r], .int .i64 0]) ?_ rfl ?_
                · simp [results, Try.results33, go_sem, p0, p1, p2]
                · have e : wrT tx a.toNat X = tx.extract 0 a.toNat ++ X := by
                    have := HE.out
                    unfold wrT
                    rw [show min (a.toNat + X.size) tx.size = tx.size from by omega, ex_none, ByteArray.append_empty]
                  rw [HR.out, e, HE.out]
                  first | exact ⟨_, rfl, ⟨cs', HT9.out⟩, HB.out⟩ | exact ⟨_, cs', rfl, HT9.out, HB.out⟩
    · rw [if_pos hb] at hR
      have HR := Lib.hid hR
      clear hR
      go_enter Try.func33, Try.ntmps33
      go_wp2_with fail
      refine (HV.out _ (H.out.below (by (repeat (first | exact Below.refl _ _ | exact Hbl.out | refine Below.ext ?_ (by first | omega | (simp; omega) | simp) | refine Below.setCell ?_ (by first | omega | (simp; omega) | simp) _ | refine Below.alloc ?_ (by first | omega | (simp; omega) | simp) _ | refine Below.drew ?_ | refine below_drewN ?_ _ | refine Below.step (by assumption) (by first | omega | (simp; omega) | simp) ?_))))).mono ?_
      rintro e W3 ⟨rfl, b3⟩
      have c0 : W3.cell? ⟨w.heap.size, 0, none⟩ = some (.int .i64 (k : Int)) := (b3.cell (p := ⟨w.heap.size, 0, none⟩) (by simp; try omega)).trans (by go_simp)
      have c1 : W3.cell? ⟨w.heap.size, 1, none⟩ = some (.int .i64 a) := (b3.cell (p := ⟨w.heap.size, 1, none⟩) (by simp; try omega)).trans (by go_simp)
      have c2 : W3.cell? ⟨w.heap.size, 2, none⟩ = some (.int .i64 r) := (b3.cell (p := ⟨w.heap.size, 2, none⟩) (by simp; try omega)).trans (by go_simp)
      have z0 : W3.cell? ⟨w.heap.size + 1, 0, none⟩ = some (.int .i64 0) := (b3.cell (p := ⟨w.heap.size + 1, 0, none⟩) (by simp; try omega)).trans (by go_simp)
      have z1 : W3.cell? ⟨w.heap.size + 1, 1, none⟩ = some (.int .i64 0) := (b3.cell (p := ⟨w.heap.size + 1, 1, none⟩) (by simp; try omega)).trans (by go_simp)
      have z2 : W3.cell? ⟨w.heap.size + 1, 2, none⟩ = some (.int .i64 0) := (b3.cell (p := ⟨w.heap.size + 1, 2, none⟩) (by simp; try omega)).trans (by go_simp)
      have fr1 : W3.frozen? ⟨w.heap.size, 1, none⟩ = false := (b3.frozen (p := ⟨w.heap.size, 1, none⟩) (by simp; try omega)).trans (by go_simp)
      have f0 : W3.frozen? ⟨w.heap.size + 1, 0, none⟩ = false := (b3.frozen (p := ⟨w.heap.size + 1, 0, none⟩) (by simp; try omega)).trans (by go_simp)
      have f1 : W3.frozen? ⟨w.heap.size + 1, 1, none⟩ = false := (b3.frozen (p := ⟨w.heap.size + 1, 1, none⟩) (by simp; try omega)).trans (by go_simp)
      have f2 : W3.frozen? ⟨w.heap.size + 1, 2, none⟩ = false := (b3.frozen (p := ⟨w.heap.size + 1, 2, none⟩) (by simp; try omega)).trans (by go_simp)
      have B3 : Below w.heap.size w W3 := Below.step b3 (by simp; omega) (by (repeat (first | exact Below.refl _ _ | exact Hbl.out | refine Below.ext ?_ (by first | omega | (simp; omega) | simp) | refine Below.setCell ?_ (by first | omega | (simp; omega) | simp) _ | refine Below.alloc ?_ (by first | omega | (simp; omega) | simp) _ | refine Below.drew ?_ | refine below_drewN ?_ _ | refine Below.step (by assumption) (by first | omega | (simp; omega) | simp) ?_)))
      have b3' := B3
      clear b3
      go_wp2_with fail
      go_region
      all_goals
        go_wp2
        obtain ⟨p0, p1, p2⟩ := set3 (v0 := .int .i64 (k : Int)) (v1 := .int .i64 a) (v2 := .int .i64 r) z0 z1 z2
        have B4 : Below w.heap.size w (((W3.setCell ⟨w.heap.size + 1, 0, none⟩ (.int .i64 (k : Int))).setCell ⟨w.heap.size + 1, 1, none⟩ (.int .i64 a)).setCell ⟨w.heap.size + 1, 2, none⟩ (.int .i64 r)).drew := by (repeat (first | exact Below.refl _ _ | exact Hbl.out | refine Below.ext ?_ (by first | omega | (simp; omega) | simp) | refine Below.setCell ?_ (by first | omega | (simp; omega) | simp) _ | refine Below.alloc ?_ (by first | omega | (simp; omega) | simp) _ | refine Below.drew ?_ | refine below_drewN ?_ _ | refine Below.step (by assumption) (by first | omega | (simp; omega) | simp) ?_))
        generalize hW4 : World.drew _ = W4 at p0 p1 p2 B4 ⊢
        have HB := Lib.hid B4
        clear B4 B3 z0 z1 z2 c0 c1 c2 f0 f1 f2 hW4
        refine bodyPost_ret (v := .tuple #[.slice none 0 0, .agg #[.int .i64 (k : Int), .int .i64 a, .int .i64 r], .int .i64 3]) ?_ rfl ?_
        · simp [results, Try.results33, go_sem, p0, p1, p2]
        · rw [HR.out]
          exact ⟨_, [], rfl, treeC_empty (ownG_none _ _), HB.out⟩
end Go.Proofs.Ythcmecgmidopoaa
