/- Writing through a handle, in the reference. -/
import Derived.Test.YthcmecgmidopoaaHandW
import Derived.Test.YthcmecgmidopoaaWriteP
import Derived.BigRegion
set_option linter.unusedSimpArgs false
set_option linter.unusedVariables false
set_option linter.unusedSectionVars false
namespace Go.Proofs.Ythcmecgmidopoaa
open Go.RowKit

set_option maxRecDepth 100000 in
set_option maxHeartbeats 8000000 in
theorem whS_of (v : Value) (t : List Nd) (f a r : Int) (X : ByteArray) (w : World) (h : TreeR w v t) (ht : t.length ≤ 1000) (hkz : (kidsOf t).length ≤ 1000000) (hX : X.size ≤ 1048576) :
    Calls Try.prog 34 #[v, .agg #[.int .i64 f, .int .i64 a, .int .i64 r], .string X] w fun e w' => ∃ v' cs, e = .returned (.tuple #[v', .agg #[.int .i64 f, .int .i64 (whF t f a r X).2.1, .int .i64 r], .int .i64 (whF t f a r X).2.2]) ∧ TreeC w.heap.size w' v' cs (whF t f a r X).1 ∧ Below w.heap.size w w' := by
  have hV := fun w h => hvS_of v t f a r w h ht hkz
  obtain ⟨R, hR⟩ : ∃ R, R = whF t f a r X := ⟨_, rfl⟩
  rw [← hR]
  unfold whF at hR
  have H := Lib.hid h
  have hC := fun w h hf => copyS_of v t w h ht hf
  have HC := Lib.hid hC
  obtain ⟨A, cap, rfl⟩ := h.shape
  have hcap := h.caps
  clear h hC
  cases hok : hOk t f a r
  · rw [if_pos hok] at hR
    rw [hok] at hV
    have HV := Lib.hid hV
    have HR := Lib.hid hR
    clear hV hR hok
    go_enter Try.func34, Try.ntmps34
    go_wp2_with fail
    refine (HV.out _ (H.out.below (by (repeat (first | exact Below.refl _ _ | exact Hbl.out | refine Below.ext ?_ (by first | omega | (simp; omega) | simp) | refine Below.setCell ?_ (by first | omega | (simp; omega) | simp) _ | refine Below.alloc ?_ (by first | omega | (simp; omega) | simp) _ | refine Below.drew ?_ | refine below_drewN ?_ _ | refine Below.step (by assumption) (by first | omega | (simp; omega) | simp) ?_))))).mono ?_
    rintro e W3 ⟨rfl, b3⟩
    have c0 : W3.cell? ⟨w.heap.size, 0, none⟩ = some (.int .i64 f) := (b3.cell (p := ⟨w.heap.size, 0, none⟩) (by simp; try omega)).trans (by go_simp)
    have c1 : W3.cell? ⟨w.heap.size, 1, none⟩ = some (.int .i64 a) := (b3.cell (p := ⟨w.heap.size, 1, none⟩) (by simp; try omega)).trans (by go_simp)
    have c2 : W3.cell? ⟨w.heap.size, 2, none⟩ = some (.int .i64 r) := (b3.cell (p := ⟨w.heap.size, 2, none⟩) (by simp; try omega)).trans (by go_simp)
    have z0 : W3.cell? ⟨w.heap.size + 1, 0, none⟩ = some (.int .i64 0) := (b3.cell (p := ⟨w.heap.size + 1, 0, none⟩) (by simp; try omega)).trans (by go_simp)
    have z1 : W3.cell? ⟨w.heap.size + 1, 1, none⟩ = some (.int .i64 0) := (b3.cell (p := ⟨w.heap.size + 1, 1, none⟩) (by simp; try omega)).trans (by go_simp)
    have z2 : W3.cell? ⟨w.heap.size + 1, 2, none⟩ = some (.int .i64 0) := (b3.cell (p := ⟨w.heap.size + 1, 2, none⟩) (by simp; try omega)).trans (by go_simp)
    have fr1 : W3.frozen? ⟨w.heap.size, 1, none⟩ = false := (b3.frozen (p := ⟨w.heap.size, 1, none⟩) (by simp; try omega)).trans (by go_simp)
    have f0 : W3.frozen? ⟨w.heap.size + 1, 0, none⟩ = false := (b3.frozen (p := ⟨w.heap.size + 1, 0, none⟩) (by simp; try omega)).trans (by go_simp)
    have f1 : W3.frozen? ⟨w.heap.size + 1, 1, none⟩ = false := (b3.frozen (p := ⟨w.heap.size + 1, 1, none⟩) (by simp; try omega)).trans (by go_simp)
    have f2 : W3.frozen? ⟨w.heap.size + 1, 2, none⟩ = false := (b3.frozen (p := ⟨w.heap.size + 1, 2, none⟩) (by simp; try omega)).trans (by go_simp)
    have B3 : Below w.heap.size w W3 := Below.step b3 (by simp; omega) (by (repeat (first | exact Below.refl _ _ | exact Hbl.out | refine Below.ext ?_ (by first | omega | (simp; omega) | simp) | refine Below.setCell ?_ (by first | omega | (simp; omega) | simp) _ | refine Below.alloc ?_ (by first | omega | (simp; omega) | simp) _ | refine Below.drew ?_ | refine below_drewN ?_ _ | refine Below.step (by assumption) (by first | omega | (simp; omega) | simp) ?_)))
    have b3' := B3
    clear b3
    go_wp2_with fail
    have hltz : w.heap.size + 1 < W3.heap.size := World.block_lt_of_cell? W3 _ z0
    go_region
    all_goals
      go_wp2
      have HBz := B3
      obtain ⟨W9, hW9⟩ : ∃ W9, W9 = ((W3.setCell ⟨w.heap.size + 1, 0, none⟩ (.int .i64 f)).setCell ⟨w.heap.size + 1, 1, none⟩ (.int .i64 a)).setCell ⟨w.heap.size + 1, 2, none⟩ (.int .i64 r) := ⟨_, rfl⟩
      have hz9 : W9.heap.size = W3.heap.size := by rw [hW9]; simp
      have B9 : Below w.heap.size w W9 := by rw [hW9]; exact Below.setCell (Below.setCell (Below.setCell B3 (Nat.le_succ _) _) (Nat.le_succ _) _) (Nat.le_succ _) _
      have hs3 := set3 (v0 := .int .i64 f) (v1 := .int .i64 a) (v2 := .int .i64 r) z0 z1 z2
      rw [← hW9] at hs3 ⊢
      obtain ⟨s0, s1, s2⟩ := hs3
      have T1 : TreeC w.heap.size (W9.alloc (.cells #[] 30)).drew (.slice (some ⟨W3.heap.size, 0, none⟩) 0 0) [] [] := ((treeC_empty (ownG_empty W9 hz9.symm (Nat.le_refl _))).mono B9.size).below (Below.drew (Below.refl _ _))
      have B4 : Below w.heap.size w (W9.alloc (.cells #[] 30)).drew := Below.drew (Below.alloc B9 B9.size _)
      have e9 : Below W9.heap.size W9 (W9.alloc (.cells #[] 30)).drew := Below.drew (Below.alloc (Below.refl _ _) (Nat.le_refl _) _)
      have p0 := (e9.cell (p := ⟨w.heap.size + 1, 0, none⟩) (by rw [hz9]; exact hltz)).trans s0
      have p1 := (e9.cell (p := ⟨w.heap.size + 1, 1, none⟩) (by rw [hz9]; exact hltz)).trans s1
      have p2 := (e9.cell (p := ⟨w.heap.size + 1, 2, none⟩) (by rw [hz9]; exact hltz)).trans s2
      generalize hW4 : World.drew _ = W4 at p0 p1 p2 B4 T1 ⊢
      have HB := Lib.hid B4
      have HT := Lib.hid T1
      clear B4 B3 HBz T1 z0 z1 z2 c0 c1 c2 f0 f1 f2 hW4 e9 s0 s1 s2 hW9 B9
      refine bodyPost_ret (v := .tuple #[.slice (some ⟨W3.heap.size, 0, none⟩) 0 0, .agg #[.int .i64 f, .int .i64 a, .int .i64 r], .int .i64 1]) ?_ rfl ?_
      · simp [results, Try.results34, go_sem, p0, p1, p2]
      · rw [HR.out]
        first | exact ⟨_, rfl, ⟨[], HT.out⟩, HB.out⟩ | exact ⟨_, [], rfl, HT.out, HB.out⟩
  · rw [if_neg (show ¬ hOk t f a r = false by rw [hok]; simp)] at hR
    rw [hok] at hV
    have HV := Lib.hid hV
    obtain ⟨htb, hf1, hf2, hfo, ha1, ha2, _, _⟩ := hOk_in hok
    obtain ⟨k, rfl⟩ : ∃ k : Nat, f = (k : Int) := ⟨f.toNat, by omega⟩
    have hk : k < t.length := by omega
    have hk' : (k : Int) < (t.length : Int) := by omega
    rw [Int.toNat_natCast] at hR hfo
    have Few1 := Lib.hid (few_of htb hkz)
    have htx := Lib.hid (tx_small2 htb hk)
    clear hV hok htb
    cases hb : (bits .and .i64 r 2 == 0)
    · rw [if_neg (show ¬ (bits .and .i64 r 2 == 0) = true by rw [hb]; simp)] at hR
      by_cases hfull : ((kth t k).tx.size : Int) < a ∨ 40 < a + (X.size : Int)
      · rw [if_pos hfull] at hR
        have HR := Lib.hid hR
        clear hR
        obtain ⟨bt, ot, nA, nC, kA, kC, rfl, hbt, _, _, _, _, _, y4', _⟩ := H.out.at_ (kth_at hk)
        have za : IntKind.i64.wrap (a + (X.size : Int)) = a + (X.size : Int) := IntWalk.i64_in _ (by omega)
        have hd : decide (((kth t k).tx.size : Int) < a) = true ∨ (decide (((kth t k).tx.size : Int) < a) = false ∧ decide (40 < a + (X.size : Int)) = true) := by
          by_cases h1 : ((kth t k).tx.size : Int) < a
          · exact .inl (decide_eq_true h1)
          · exact .inr ⟨decide_eq_false h1, decide_eq_true (by omega)⟩
        clear hfull
        go_enter Try.func34, Try.ntmps34
        go_wp2_with fail
        refine (HV.out _ (H.out.below (by (repeat (first | exact Below.refl _ _ | exact Hbl.out | refine Below.ext ?_ (by first | omega | (simp; omega) | simp) | refine Below.setCell ?_ (by first | omega | (simp; omega) | simp) _ | refine Below.alloc ?_ (by first | omega | (simp; omega) | simp) _ | refine Below.drew ?_ | refine below_drewN ?_ _ | refine Below.step (by assumption) (by first | omega | (simp; omega) | simp) ?_))))).mono ?_
        rintro e W3 ⟨rfl, b3⟩
        have c0 : W3.cell? ⟨w.heap.size, 0, none⟩ = some (.int .i64 (k : Int)) := (b3.cell (p := ⟨w.heap.size, 0, none⟩) (by simp; try omega)).trans (by go_simp)
        have c1 : W3.cell? ⟨w.heap.size, 1, none⟩ = some (.int .i64 a) := (b3.cell (p := ⟨w.heap.size, 1, none⟩) (by simp; try omega)).trans (by go_simp)
        have c2 : W3.cell? ⟨w.heap.size, 2, none⟩ = some (.int .i64 r) := (b3.cell (p := ⟨w.heap.size, 2, none⟩) (by simp; try omega)).trans (by go_simp)
        have z0 : W3.cell? ⟨w.heap.size + 1, 0, none⟩ = some (.int .i64 0) := (b3.cell (p := ⟨w.heap.size + 1, 0, none⟩) (by simp; try omega)).trans (by go_simp)
        have z1 : W3.cell? ⟨w.heap.size + 1, 1, none⟩ = some (.int .i64 0) := (b3.cell (p := ⟨w.heap.size + 1, 1, none⟩) (by simp; try omega)).trans (by go_simp)
        have z2 : W3.cell? ⟨w.heap.size + 1, 2, none⟩ = some (.int .i64 0) := (b3.cell (p := ⟨w.heap.size + 1, 2, none⟩) (by simp; try omega)).trans (by go_simp)
        have fr1 : W3.frozen? ⟨w.heap.size, 1, none⟩ = false := (b3.frozen (p := ⟨w.heap.size, 1, none⟩) (by simp; try omega)).trans (by go_simp)
        have f0 : W3.frozen? ⟨w.heap.size + 1, 0, none⟩ = false := (b3.frozen (p := ⟨w.heap.size + 1, 0, none⟩) (by simp; try omega)).trans (by go_simp)
        have f1 : W3.frozen? ⟨w.heap.size + 1, 1, none⟩ = false := (b3.frozen (p := ⟨w.heap.size + 1, 1, none⟩) (by simp; try omega)).trans (by go_simp)
        have f2 : W3.frozen? ⟨w.heap.size + 1, 2, none⟩ = false := (b3.frozen (p := ⟨w.heap.size + 1, 2, none⟩) (by simp; try omega)).trans (by go_simp)
        have B3 : Below w.heap.size w W3 := Below.step b3 (by simp; omega) (by (repeat (first | exact Below.refl _ _ | exact Hbl.out | refine Below.ext ?_ (by first | omega | (simp; omega) | simp) | refine Below.setCell ?_ (by first | omega | (simp; omega) | simp) _ | refine Below.alloc ?_ (by first | omega | (simp; omega) | simp) _ | refine Below.drew ?_ | refine below_drewN ?_ _ | refine Below.step (by assumption) (by first | omega | (simp; omega) | simp) ?_)))
        have b3' := B3
        clear b3
        have y4 : W3.cell? ⟨bt, ot + k * 7 + 4, none⟩ = some (.string (kth t k).tx) := (b3'.cell (p := ⟨bt, ot + k * 7 + 4, none⟩) hbt).trans y4'
        go_upto_region 5 with fail
        rcases hd with d1 | ⟨d1, d2⟩
        all_goals
          go_quiet (fail)
          have hlt3 : w.heap.size + 1 < W3.heap.size := World.block_lt_of_cell? W3 _ z0
          have b5 : Below W3.heap.size W3 (W3.drewN nq) := below_drewN (Below.refl _ _) _
          obtain ⟨W5, hW5⟩ : ∃ W5, W5 = W3.drewN nq := ⟨_, rfl⟩
          rw [← hW5] at b5 ⊢
          replace c0 := (b5.cell (p := ⟨w.heap.size, 0, none⟩) (Nat.lt_of_succ_lt hlt3)).trans c0
          replace c1 := (b5.cell (p := ⟨w.heap.size, 1, none⟩) (Nat.lt_of_succ_lt hlt3)).trans c1
          replace c2 := (b5.cell (p := ⟨w.heap.size, 2, none⟩) (Nat.lt_of_succ_lt hlt3)).trans c2
          replace z0 := (b5.cell (p := ⟨w.heap.size + 1, 0, none⟩) hlt3).trans z0
          replace z1 := (b5.cell (p := ⟨w.heap.size + 1, 1, none⟩) hlt3).trans z1
          replace z2 := (b5.cell (p := ⟨w.heap.size + 1, 2, none⟩) hlt3).trans z2
          replace f0 := (b5.frozen (p := ⟨w.heap.size + 1, 0, none⟩) hlt3).trans f0
          replace f1 := (b5.frozen (p := ⟨w.heap.size + 1, 1, none⟩) hlt3).trans f1
          replace f2 := (b5.frozen (p := ⟨w.heap.size + 1, 2, none⟩) hlt3).trans f2
          replace fr1 := (b5.frozen (p := ⟨w.heap.size, 1, none⟩) (Nat.lt_of_succ_lt hlt3)).trans fr1
          replace B3 := Below.step b5 B3.size B3
          replace y4 := (b5.cell (p := ⟨bt, ot + k * 7 + 4, none⟩) (Nat.lt_of_lt_of_le hbt b3'.size)).trans y4
          replace hlt3 : w.heap.size + 1 < W5.heap.size := Nat.lt_of_lt_of_le hlt3 b5.size
          have hbt5 : bt < W5.heap.size := Nat.lt_of_lt_of_le (Nat.lt_of_lt_of_le hbt b3'.size) b5.size
          clear b5 hW5
          clear y4 y4' b3'
          go_wp2_with fail
          have hltz : w.heap.size + 1 < W5.heap.size := World.block_lt_of_cell? W5 _ z0
          go_region
          all_goals
            go_wp2
            have HBz := B3
            obtain ⟨W9, hW9⟩ : ∃ W9, W9 = ((W5.setCell ⟨w.heap.size + 1, 0, none⟩ (.int .i64 (k : Int))).setCell ⟨w.heap.size + 1, 1, none⟩ (.int .i64 a)).setCell ⟨w.heap.size + 1, 2, none⟩ (.int .i64 r) := ⟨_, rfl⟩
            have hz9 : W9.heap.size = W5.heap.size := by rw [hW9]; simp
            have B9 : Below w.heap.size w W9 := by rw [hW9]; exact Below.setCell (Below.setCell (Below.setCell B3 (Nat.le_succ _) _) (Nat.le_succ _) _) (Nat.le_succ _) _
            have hs3 := set3 (v0 := .int .i64 (k : Int)) (v1 := .int .i64 a) (v2 := .int .i64 r) z0 z1 z2
            rw [← hW9] at hs3 ⊢
            obtain ⟨s0, s1, s2⟩ := hs3
            have T1 : TreeC w.heap.size (W9.alloc (.cells #[] 30)).drew (.slice (some ⟨W5.heap.size, 0, none⟩) 0 0) [] [] := ((treeC_empty (ownG_empty W9 hz9.symm (Nat.le_refl _))).mono B9.size).below (Below.drew (Below.refl _ _))
            have B4 : Below w.heap.size w (W9.alloc (.cells #[] 30)).drew := Below.drew (Below.alloc B9 B9.size _)
            have e9 : Below W9.heap.size W9 (W9.alloc (.cells #[] 30)).drew := Below.drew (Below.alloc (Below.refl _ _) (Nat.le_refl _) _)
            have p0 := (e9.cell (p := ⟨w.heap.size + 1, 0, none⟩) (by rw [hz9]; exact hltz)).trans s0
            have p1 := (e9.cell (p := ⟨w.heap.size + 1, 1, none⟩) (by rw [hz9]; exact hltz)).trans s1
            have p2 := (e9.cell (p := ⟨w.heap.size + 1, 2, none⟩) (by rw [hz9]; exact hltz)).trans s2
            generalize hW4 : World.drew _ = W4 at p0 p1 p2 B4 T1 ⊢
            have HB := Lib.hid B4
            have HT := Lib.hid T1
            clear B4 B3 HBz T1 z0 z1 z2 c0 c1 c2 f0 f1 f2 hW4 e9 s0 s1 s2 hW9 B9
            refine bodyPost_ret (v := .tuple #[.slice (some ⟨W5.heap.size, 0, none⟩) 0 0, .agg #[.int .i64 (k : Int), .int .i64 a, .int .i64 r], .int .i64 6]) ?_ rfl ?_
            · simp [results, Try.results34, go_sem, p0, p1, p2]
            · rw [HR.out]
              first | exact ⟨_, rfl, ⟨[], HT.out⟩, HB.out⟩ | exact ⟨_, [], rfl, HT.out, HB.out⟩
      · rw [if_neg hfull] at hR
        have HR := Lib.hid hR
        clear hR
        obtain ⟨bt, ot, nA, nC, kA, kC, rfl, hbt, _, _, _, _, _, y4', _⟩ := H.out.at_ (kth_at hk)
        have za : IntKind.i64.wrap (a + (X.size : Int)) = a + (X.size : Int) := IntWalk.i64_in _ (by omega)
        have d1 : decide (((kth t k).tx.size : Int) < a) = false := decide_eq_false (by omega)
        have d2 : decide (40 < a + (X.size : Int)) = false := decide_eq_false (by omega)
        have hA1 : a ≤ ((kth t k).tx.size : Int) := by omega
        have hA2 : a + (X.size : Int) ≤ 40 := by omega
        clear hfull
        go_enter Try.func34, Try.ntmps34
        go_wp2_with fail
        refine (HV.out _ (H.out.below (by (repeat (first | exact Below.refl _ _ | exact Hbl.out | refine Below.ext ?_ (by first | omega | (simp; omega) | simp) | refine Below.setCell ?_ (by first | omega | (simp; omega) | simp) _ | refine Below.alloc ?_ (by first | omega | (simp; omega) | simp) _ | refine Below.drew ?_ | refine below_drewN ?_ _ | refine Below.step (by assumption) (by first | omega | (simp; omega) | simp) ?_))))).mono ?_
        rintro e W3 ⟨rfl, b3⟩
        have c0 : W3.cell? ⟨w.heap.size, 0, none⟩ = some (.int .i64 (k : Int)) := (b3.cell (p := ⟨w.heap.size, 0, none⟩) (by simp; try omega)).trans (by go_simp)
        have c1 : W3.cell? ⟨w.heap.size, 1, none⟩ = some (.int .i64 a) := (b3.cell (p := ⟨w.heap.size, 1, none⟩) (by simp; try omega)).trans (by go_simp)
        have c2 : W3.cell? ⟨w.heap.size, 2, none⟩ = some (.int .i64 r) := (b3.cell (p := ⟨w.heap.size, 2, none⟩) (by simp; try omega)).trans (by go_simp)
        have z0 : W3.cell? ⟨w.heap.size + 1, 0, none⟩ = some (.int .i64 0) := (b3.cell (p := ⟨w.heap.size + 1, 0, none⟩) (by simp; try omega)).trans (by go_simp)
        have z1 : W3.cell? ⟨w.heap.size + 1, 1, none⟩ = some (.int .i64 0) := (b3.cell (p := ⟨w.heap.size + 1, 1, none⟩) (by simp; try omega)).trans (by go_simp)
        have z2 : W3.cell? ⟨w.heap.size + 1, 2, none⟩ = some (.int .i64 0) := (b3.cell (p := ⟨w.heap.size + 1, 2, none⟩) (by simp; try omega)).trans (by go_simp)
        have fr1 : W3.frozen? ⟨w.heap.size, 1, none⟩ = false := (b3.frozen (p := ⟨w.heap.size, 1, none⟩) (by simp; try omega)).trans (by go_simp)
        have f0 : W3.frozen? ⟨w.heap.size + 1, 0, none⟩ = false := (b3.frozen (p := ⟨w.heap.size + 1, 0, none⟩) (by simp; try omega)).trans (by go_simp)
        have f1 : W3.frozen? ⟨w.heap.size + 1, 1, none⟩ = false := (b3.frozen (p := ⟨w.heap.size + 1, 1, none⟩) (by simp; try omega)).trans (by go_simp)
        have f2 : W3.frozen? ⟨w.heap.size + 1, 2, none⟩ = false := (b3.frozen (p := ⟨w.heap.size + 1, 2, none⟩) (by simp; try omega)).trans (by go_simp)
        have B3 : Below w.heap.size w W3 := Below.step b3 (by simp; omega) (by (repeat (first | exact Below.refl _ _ | exact Hbl.out | refine Below.ext ?_ (by first | omega | (simp; omega) | simp) | refine Below.setCell ?_ (by first | omega | (simp; omega) | simp) _ | refine Below.alloc ?_ (by first | omega | (simp; omega) | simp) _ | refine Below.drew ?_ | refine below_drewN ?_ _ | refine Below.step (by assumption) (by first | omega | (simp; omega) | simp) ?_)))
        have b3' := B3
        clear b3
        have y4 : W3.cell? ⟨bt, ot + k * 7 + 4, none⟩ = some (.string (kth t k).tx) := (b3'.cell (p := ⟨bt, ot + k * 7 + 4, none⟩) hbt).trans y4'
        go_upto_region 5 with fail
        go_quiet (fail)
        have hlt3 : w.heap.size + 1 < W3.heap.size := World.block_lt_of_cell? W3 _ z0
        have b5 : Below W3.heap.size W3 (W3.drewN nq) := below_drewN (Below.refl _ _) _
        obtain ⟨W5, hW5⟩ : ∃ W5, W5 = W3.drewN nq := ⟨_, rfl⟩
        rw [← hW5] at b5 ⊢
        replace c0 := (b5.cell (p := ⟨w.heap.size, 0, none⟩) (Nat.lt_of_succ_lt hlt3)).trans c0
        replace c1 := (b5.cell (p := ⟨w.heap.size, 1, none⟩) (Nat.lt_of_succ_lt hlt3)).trans c1
        replace c2 := (b5.cell (p := ⟨w.heap.size, 2, none⟩) (Nat.lt_of_succ_lt hlt3)).trans c2
        replace z0 := (b5.cell (p := ⟨w.heap.size + 1, 0, none⟩) hlt3).trans z0
        replace z1 := (b5.cell (p := ⟨w.heap.size + 1, 1, none⟩) hlt3).trans z1
        replace z2 := (b5.cell (p := ⟨w.heap.size + 1, 2, none⟩) hlt3).trans z2
        replace f0 := (b5.frozen (p := ⟨w.heap.size + 1, 0, none⟩) hlt3).trans f0
        replace f1 := (b5.frozen (p := ⟨w.heap.size + 1, 1, none⟩) hlt3).trans f1
        replace f2 := (b5.frozen (p := ⟨w.heap.size + 1, 2, none⟩) hlt3).trans f2
        replace fr1 := (b5.frozen (p := ⟨w.heap.size, 1, none⟩) (Nat.lt_of_succ_lt hlt3)).trans fr1
        replace B3 := Below.step b5 B3.size B3
        replace y4 := (b5.cell (p := ⟨bt, ot + k * 7 + 4, none⟩) (Nat.lt_of_lt_of_le hbt b3'.size)).trans y4
        replace hlt3 : w.heap.size + 1 < W5.heap.size := Nat.lt_of_lt_of_le hlt3 b5.size
        have hbt5 : bt < W5.heap.size := Nat.lt_of_lt_of_le (Nat.lt_of_lt_of_le hbt b3'.size) b5.size
        clear b5 hW5
        clear y4' b3'
        go_wp2_with fail
        have HB5 := Lib.hid B3
        clear B3
        refine (HC.out _ (H.out.below HB5.out) Few1.out).mono ?_
        rintro e w6 ⟨v6, cs, rfl, hT6, _, b6⟩
        have c06 := (b6.cell (p := ⟨w.heap.size, 0, none⟩) (Nat.lt_of_succ_lt hlt3)).trans c0
        have c16 := (b6.cell (p := ⟨w.heap.size, 1, none⟩) (Nat.lt_of_succ_lt hlt3)).trans c1
        have c26 := (b6.cell (p := ⟨w.heap.size, 2, none⟩) (Nat.lt_of_succ_lt hlt3)).trans c2
        have z06 := (b6.cell (p := ⟨w.heap.size + 1, 0, none⟩) hlt3).trans z0
        have f06 := (b6.frozen (p := ⟨w.heap.size + 1, 0, none⟩) hlt3).trans f0
        have z16 := (b6.cell (p := ⟨w.heap.size + 1, 1, none⟩) hlt3).trans z1
        have f16 := (b6.frozen (p := ⟨w.heap.size + 1, 1, none⟩) hlt3).trans f1
        have z26 := (b6.cell (p := ⟨w.heap.size + 1, 2, none⟩) hlt3).trans z2
        have f26 := (b6.frozen (p := ⟨w.heap.size + 1, 2, none⟩) hlt3).trans f2
        have hz6 := b6.size
        have y46 := (b6.cell (p := ⟨bt, ot + k * 7 + 4, none⟩) hbt5).trans y4
        obtain ⟨A6, c6, rfl⟩ := TreeO.shape ⟨cs, hT6⟩
        obtain ⟨g6, cc, rfl, hg6, hg6', _, _, _, q0, q1, q2, q3, q4, q5, q6, fz⟩ := hT6.at_ hk
        have fz4 := fz (k * 7 + 4)
        have B6 := Lib.hid (Below.step b6 HB5.out.size HB5.out)
        have HT6 := Lib.hid (hT6.mono (show w.heap.size + 2 ≤ W5.heap.size from hlt3))
        have hg6w : w.heap.size + 1 < g6 := Nat.lt_of_lt_of_le hlt3 hg6
        have ht40 := htx.out
        clear hT6 fz q0 q1 q2 q3 q5 q6 b6 c0 c1 c2 z0 z1 z2 f0 f1 f2 fr1 y4
        generalize hTx : (kth t k).tx = tx at *
        have hc1 : ¬ 9223372036854775807 < (tx.extract 0 a.toNat).size + X.size := by rw [ByteArray.size_extract]; omega
        have hc2 : ¬ 9223372036854775807 < min a.toNat tx.size + X.size := by omega
        go_upto_region 9 with fail
        go_region
        all_goals
          obtain ⟨E, hE⟩ : ∃ E : Nat, a + (X.size : Int) = (E : Int) := ⟨(a + (X.size : Int)).toNat, by omega⟩
          replace za : IntKind.i64.wrap (a + (X.size : Int)) = (E : Int) := by rw [za]; exact hE
          have hx1 : (tx.extract 0 a.toNat ++ X).size ≤ 40 := by rw [ByteArray.size_append, ByteArray.size_extract]; omega
          obtain ⟨cs7, hT7⟩ := HT6.out.text (X := tx.extract 0 a.toNat ++ X) hk hx1
          replace hT7 := hT7.below (Below.drew (Below.refl _ _))
          have hg1 : w.heap.size ≠ g6 := by omega
          have hg2 : w.heap.size + 1 ≠ g6 := by omega
          have B7 : Below w.heap.size w (w6.setCell ⟨g6, k * 7 + 4, none⟩ (.string (tx.extract 0 a.toNat ++ X))).drew := Below.drew (Below.setCell B6.out (Nat.le_of_lt (Nat.lt_of_succ_lt hg6w)) _)
          have hz7 : (w6.setCell ⟨g6, k * 7 + 4, none⟩ (.string (tx.extract 0 a.toNat ++ X))).drew.heap.size = w6.heap.size := by simp
          obtain ⟨W7, hW7⟩ : ∃ W7, W7 = (w6.setCell ⟨g6, k * 7 + 4, none⟩ (.string (tx.extract 0 a.toNat ++ X))).drew := ⟨_, rfl⟩
          rw [← hW7] at hT7 B7 hz7 ⊢
          have ee : ∀ b o, b ≠ g6 → W7.cell? ⟨b, o, none⟩ = w6.cell? ⟨b, o, none⟩ := fun b o hb => by rw [hW7]; exact World.cell?_setCell_other _ _ _ _ (fun e => hb (by cases e; rfl))
          have ef : ∀ b o, W7.frozen? ⟨b, o, none⟩ = w6.frozen? ⟨b, o, none⟩ := fun b o => by rw [hW7]; exact World.frozen?_setCell _ _ _ _
          have fz7 : W7.frozen? ⟨g6, k * 7 + 4, none⟩ = false := by rw [ef]; exact fz4
          have v7 : W7.cell? ⟨g6, k * 7 + 4, none⟩ = some (.string (tx.extract 0 a.toNat ++ X)) := by rw [hW7]; exact World.cell?_setCell_same _ _ _ q4
          have d0 := (ee _ 0 hg1).trans c06
          have d1 := (ee _ 1 hg1).trans c16
          have d2 := (ee _ 2 hg1).trans c26
          have x0 := (ee _ 0 hg2).trans z06
          have x1 := (ee _ 1 hg2).trans z16
          have x2 := (ee _ 2 hg2).trans z26
          have x3 := (ef _ 0).trans f06
          have x4 := (ef _ 1).trans f16
          have x5 := (ef _ 2).trans f26
          have hlt7 : w.heap.size + 1 < W7.heap.size := by omega
          have hg7 : g6 < W7.heap.size := by omega
          have HT7 := Lib.hid hT7
          have HB7 := Lib.hid B7
          clear hT7 B7 hW7 q4 ee ef c06 c16 c26 z06 z16 z26 f06 f16 f26 y46 fz4 hz7 HT6 B6
          by_cases hq : E < tx.size
          · have hq1 : (E : Int) < (tx.size : Int) := by omega
            have hq3 : (decide ((E : Int) < 0) || decide ((tx.size : Int) < (E : Int))) = false := by rw [decide_eq_false (by omega), decide_eq_false (by omega)]; rfl
            have hq4 : decide ((E : Int) < 0) = false := decide_eq_false (by omega)
            have hq5 : ¬ (E : Int) < 0 := by omega
            have hq6 : ¬ tx.size < E := by omega
            have hc4 : ¬ 9223372036854775807 < (tx.extract 0 a.toNat ++ X).size + (tx.extract E tx.size).size := by rw [ByteArray.size_append, ByteArray.size_extract, ByteArray.size_extract]; omega
            have hc5 : ¬ 9223372036854775807 < min a.toNat tx.size + X.size + (tx.size - E) := by omega
            have hx2 : (tx.extract 0 a.toNat ++ X ++ tx.extract E tx.size).size ≤ 40 := by rw [ByteArray.size_append, ByteArray.size_append, ByteArray.size_extract, ByteArray.size_extract]; omega
            have eX : wrT tx a.toNat X = tx.extract 0 a.toNat ++ X ++ tx.extract E tx.size := by
              unfold wrT
              rw [show min (a.toNat + X.size) tx.size = E from by omega]
            have HE := Lib.hid hE
            clear hE
            go_upto_region 11 with fail
            go_region
            all_goals
              obtain ⟨cs8, hT8⟩ := HT7.out.text (X := tx.extract 0 a.toNat ++ X ++ tx.extract E tx.size) (by rw [List.length_set]; exact hk) hx2
              rw [kth_text hk, if_pos rfl, List.set_set] at hT8
              replace hT8 : TreeC (w.heap.size + 2) _ _ cs8 (t.set k (txN (kth t k) (tx.extract 0 a.toNat ++ X ++ tx.extract E tx.size))) := hT8.below (Below.drew (Below.refl _ _))
              have B8 : Below w.heap.size w (W7.setCell ⟨g6, k * 7 + 4, none⟩ (.string (tx.extract 0 a.toNat ++ X ++ tx.extract E tx.size))).drew := Below.drew (Below.setCell HB7.out (Nat.le_of_lt (Nat.lt_of_succ_lt hg6w)) _)
              obtain ⟨W8, hW8⟩ : ∃ W8, W8 = (W7.setCell ⟨g6, k * 7 + 4, none⟩ (.string (tx.extract 0 a.toNat ++ X ++ tx.extract E tx.size))).drew := ⟨_, rfl⟩
              have hz8 : W8.heap.size = W7.heap.size := by rw [hW8]; simp
              rw [← hW8] at hT8 B8 ⊢
              have ee : ∀ b o, b ≠ g6 → W8.cell? ⟨b, o, none⟩ = W7.cell? ⟨b, o, none⟩ := fun b o hb => by rw [hW8]; exact World.cell?_setCell_other _ _ _ _ (fun e => hb (by cases e; rfl))
              have ef : ∀ b o, W8.frozen? ⟨b, o, none⟩ = W7.frozen? ⟨b, o, none⟩ := fun b o => by rw [hW8]; exact World.frozen?_setCell _ _ _ _
              replace d0 := (ee _ 0 hg1).trans d0
              replace d1 := (ee _ 1 hg1).trans d1
              replace d2 := (ee _ 2 hg1).trans d2
              replace x0 := (ee _ 0 hg2).trans x0
              replace x1 := (ee _ 1 hg2).trans x1
              replace x2 := (ee _ 2 hg2).trans x2
              replace x3 := (ef _ 0).trans x3
              replace x4 := (ef _ 1).trans x4
              replace x5 := (ef _ 2).trans x5
              replace hlt7 : w.heap.size + 1 < W8.heap.size := by omega
              have HT8 := Lib.hid hT8
              have HB8 := Lib.hid B8
              have HeX := Lib.hid eX
              clear hT8 B8 hW8 ee ef fz7 v7 HT7 HB7 hz8 hq hq1 hq3 hq4 hq5 hq6 hc4 hc5 hx2 eX
              go_upto_region 14 with fail
              obtain ⟨W9, hW9⟩ : ∃ W9, W9 = W8.alloc (.cells #[.int .i64 (k : Int), .int .i64 (E : Int), .int .i64 r] 40) := ⟨_, rfl⟩
              have b9 : Below W8.heap.size W8 W9 := by rw [hW9]; exact Below.alloc (Below.refl _ _) (Nat.le_refl _) _
              have n0 : W9.cell? ⟨W8.heap.size, 0, none⟩ = some (.int .i64 (k : Int)) := by rw [hW9]; go_simp
              have n1 : W9.cell? ⟨W8.heap.size, 1, none⟩ = some (.int .i64 (E : Int)) := by rw [hW9]; go_simp
              have n2 : W9.cell? ⟨W8.heap.size, 2, none⟩ = some (.int .i64 r) := by rw [hW9]; go_simp
              rw [← hW9]
              replace x0 := (b9.cell (p := ⟨w.heap.size + 1, 0, none⟩) hlt7).trans x0
              replace x1 := (b9.cell (p := ⟨w.heap.size + 1, 1, none⟩) hlt7).trans x1
              replace x2 := (b9.cell (p := ⟨w.heap.size + 1, 2, none⟩) hlt7).trans x2
              replace x3 := (b9.frozen (p := ⟨w.heap.size + 1, 0, none⟩) hlt7).trans x3
              replace x4 := (b9.frozen (p := ⟨w.heap.size + 1, 1, none⟩) hlt7).trans x4
              replace x5 := (b9.frozen (p := ⟨w.heap.size + 1, 2, none⟩) hlt7).trans x5
              have HB9 := Lib.hid (Below.step b9 HB8.out.size HB8.out)
              have HT9 := Lib.hid (HT8.out.below b9)
              obtain ⟨N, hN⟩ : ∃ N, N = W8.heap.size := ⟨_, rfl⟩
              rw [← hN] at n0 n1 n2 hlt7
              simp only [← hN]
              clear b9 hW9 HB8 HT8 hN d0 d1 d2
              go_region
              all_goals
                go_wp2
                have B10 : Below w.heap.size w (((W9.setCell ⟨w.heap.size + 1, 0, none⟩ (.int .i64 (k : Int))).setCell ⟨w.heap.size + 1, 1, none⟩ (.int .i64 (E : Int))).setCell ⟨w.heap.size + 1, 2, none⟩ (.int .i64 r)).drew := Below.drew (Below.setCell (Below.setCell (Below.setCell HB9.out (Nat.le_succ _) _) (Nat.le_succ _) _) (Nat.le_succ _) _)
                have T10 := (((HT9.out.rset (R := w.heap.size + 1) (i := 0) (u := .int .i64 (k : Int)) (Nat.lt_succ_self _)).rset (R := w.heap.size + 1) (i := 1) (u := .int .i64 (E : Int)) (Nat.lt_succ_self _)).rset (R := w.heap.size + 1) (i := 2) (u := .int .i64 r) (Nat.lt_succ_self _)).below (Below.drew (Below.refl _ _))
                obtain ⟨p0, p1, p2⟩ := set3 (v0 := .int .i64 (k : Int)) (v1 := .int .i64 (E : Int)) (v2 := .int .i64 r) x0 x1 x2
                generalize hW10 : World.drew _ = W10 at p0 p1 p2 B10 T10 ⊢
                have HB := Lib.hid B10
                have HT := Lib.hid (T10.mono (Nat.le_succ_of_le (Nat.le_succ _)))
                clear B10 T10 x0 x1 x2 x3 x4 x5 n0 n1 n2 hW10
                refine bodyPost_ret (v := .tuple #[.slice (some ⟨g6, 0, none⟩) t.length c6, .agg #[.int .i64 (k : Int), .int .i64 (E : Int), .int .i64 r], .int .i64 0]) ?_ rfl ?_
                · simp [results, Try.results34, go_sem, p0, p1, p2]
                · rw [HR.out, HeX.out, HE.out]
                  first | exact ⟨_, rfl, ⟨_, HT.out⟩, HB.out⟩ | exact ⟨_, _, rfl, HT.out, HB.out⟩
          · have hq1 : ¬ (E : Int) < (tx.size : Int) := by omega
            have eX : wrT tx a.toNat X = tx.extract 0 a.toNat ++ X := by
              unfold wrT
              rw [show min (a.toNat + X.size) tx.size = tx.size from by omega, ex_none, ByteArray.append_empty]
            have HE := Lib.hid hE
            have HT8 := HT7
            have HB8 := HB7
            have HeX := Lib.hid eX
            clear hE fz7 v7 eX hq
            obtain ⟨W8, hW8⟩ : ∃ W8, W8 = W7 := ⟨_, rfl⟩
            rw [← hW8] at HT8 HB8 d0 d1 d2 x0 x1 x2 x3 x4 x5 hlt7 ⊢
            clear hW8
            go_upto_region 14 with fail
            obtain ⟨W9, hW9⟩ : ∃ W9, W9 = W8.alloc (.cells #[.int .i64 (k : Int), .int .i64 (E : Int), .int .i64 r] 40) := ⟨_, rfl⟩
            have b9 : Below W8.heap.size W8 W9 := by rw [hW9]; exact Below.alloc (Below.refl _ _) (Nat.le_refl _) _
            have n0 : W9.cell? ⟨W8.heap.size, 0, none⟩ = some (.int .i64 (k : Int)) := by rw [hW9]; go_simp
            have n1 : W9.cell? ⟨W8.heap.size, 1, none⟩ = some (.int .i64 (E : Int)) := by rw [hW9]; go_simp
            have n2 : W9.cell? ⟨W8.heap.size, 2, none⟩ = some (.int .i64 r) := by rw [hW9]; go_simp
            rw [← hW9]
            replace x0 := (b9.cell (p := ⟨w.heap.size + 1, 0, none⟩) hlt7).trans x0
            replace x1 := (b9.cell (p := ⟨w.heap.size + 1, 1, none⟩) hlt7).trans x1
            replace x2 := (b9.cell (p := ⟨w.heap.size + 1, 2, none⟩) hlt7).trans x2
            replace x3 := (b9.frozen (p := ⟨w.heap.size + 1, 0, none⟩) hlt7).trans x3
            replace x4 := (b9.frozen (p := ⟨w.heap.size + 1, 1, none⟩) hlt7).trans x4
            replace x5 := (b9.frozen (p := ⟨w.heap.size + 1, 2, none⟩) hlt7).trans x5
            have HB9 := Lib.hid (Below.step b9 HB8.out.size HB8.out)
            have HT9 := Lib.hid (HT8.out.below b9)
            obtain ⟨N, hN⟩ : ∃ N, N = W8.heap.size := ⟨_, rfl⟩
            rw [← hN] at n0 n1 n2 hlt7
            simp only [← hN]
            clear b9 hW9 HB8 HT8 hN d0 d1 d2
            go_region
            all_goals
              go_wp2
              have B10 : Below w.heap.size w (((W9.setCell ⟨w.heap.size + 1, 0, none⟩ (.int .i64 (k : Int))).setCell ⟨w.heap.size + 1, 1, none⟩ (.int .i64 (E : Int))).setCell ⟨w.heap.size + 1, 2, none⟩ (.int .i64 r)).drew := Below.drew (Below.setCell (Below.setCell (Below.setCell HB9.out (Nat.le_succ _) _) (Nat.le_succ _) _) (Nat.le_succ _) _)
              have T10 := (((HT9.out.rset (R := w.heap.size + 1) (i := 0) (u := .int .i64 (k : Int)) (Nat.lt_succ_self _)).rset (R := w.heap.size + 1) (i := 1) (u := .int .i64 (E : Int)) (Nat.lt_succ_self _)).rset (R := w.heap.size + 1) (i := 2) (u := .int .i64 r) (Nat.lt_succ_self _)).below (Below.drew (Below.refl _ _))
              obtain ⟨p0, p1, p2⟩ := set3 (v0 := .int .i64 (k : Int)) (v1 := .int .i64 (E : Int)) (v2 := .int .i64 r) x0 x1 x2
              generalize hW10 : World.drew _ = W10 at p0 p1 p2 B10 T10 ⊢
              have HB := Lib.hid B10
              have HT := Lib.hid (T10.mono (Nat.le_succ_of_le (Nat.le_succ _)))
              clear B10 T10 x0 x1 x2 x3 x4 x5 n0 n1 n2 hW10
              refine bodyPost_ret (v := .tuple #[.slice (some ⟨g6, 0, none⟩) t.length c6, .agg #[.int .i64 (k : Int), .int .i64 (E : Int), .int .i64 r], .int .i64 0]) ?_ rfl ?_
              · simp [results, Try.results34, go_sem, p0, p1, p2]
              · rw [HR.out, HeX.out, HE.out]
                first | exact ⟨_, rfl, ⟨_, HT.out⟩, HB.out⟩ | exact ⟨_, _, rfl, HT.out, HB.out⟩
    · rw [if_pos hb] at hR
      have HR := Lib.hid hR
      clear hR
      go_enter Try.func34, Try.ntmps34
      go_wp2_with fail
      refine (HV.out _ (H.out.below (by (repeat (first | exact Below.refl _ _ | exact Hbl.out | refine Below.ext ?_ (by first | omega | (simp; omega) | simp) | refine Below.setCell ?_ (by first | omega | (simp; omega) | simp) _ | refine Below.alloc ?_ (by first | omega | (simp; omega) | simp) _ | refine Below.drew ?_ | refine below_drewN ?_ _ | refine Below.step (by assumption) (by first | omega | (simp; omega) | simp) ?_))))).mono ?_
      rintro e W3 ⟨rfl, b3⟩
      have c0 : W3.cell? ⟨w.heap.size, 0, none⟩ = some (.int .i64 (k : Int)) := (b3.cell (p := ⟨w.heap.size, 0, none⟩) (by simp; try omega)).trans (by go_simp)
      have c1 : W3.cell? ⟨w.heap.size, 1, none⟩ = some (.int .i64 a) := (b3.cell (p := ⟨w.heap.size, 1, none⟩) (by simp; try omega)).trans (by go_simp)
      have c2 : W3.cell? ⟨w.heap.size, 2, none⟩ = some (.int .i64 r) := (b3.cell (p := ⟨w.heap.size, 2, none⟩) (by simp; try omega)).trans (by go_simp)
      have z0 : W3.cell? ⟨w.heap.size + 1, 0, none⟩ = some (.int .i64 0) := (b3.cell (p := ⟨w.heap.size + 1, 0, none⟩) (by simp; try omega)).trans (by go_simp)
      have z1 : W3.cell? ⟨w.heap.size + 1, 1, none⟩ = some (.int .i64 0) := (b3.cell (p := ⟨w.heap.size + 1, 1, none⟩) (by simp; try omega)).trans (by go_simp)
      have z2 : W3.cell? ⟨w.heap.size + 1, 2, none⟩ = some (.int .i64 0) := (b3.cell (p := ⟨w.heap.size + 1, 2, none⟩) (by simp; try omega)).trans (by go_simp)
      have fr1 : W3.frozen? ⟨w.heap.size, 1, none⟩ = false := (b3.frozen (p := ⟨w.heap.size, 1, none⟩) (by simp; try omega)).trans (by go_simp)
      have f0 : W3.frozen? ⟨w.heap.size + 1, 0, none⟩ = false := (b3.frozen (p := ⟨w.heap.size + 1, 0, none⟩) (by simp; try omega)).trans (by go_simp)
      have f1 : W3.frozen? ⟨w.heap.size + 1, 1, none⟩ = false := (b3.frozen (p := ⟨w.heap.size + 1, 1, none⟩) (by simp; try omega)).trans (by go_simp)
      have f2 : W3.frozen? ⟨w.heap.size + 1, 2, none⟩ = false := (b3.frozen (p := ⟨w.heap.size + 1, 2, none⟩) (by simp; try omega)).trans (by go_simp)
      have B3 : Below w.heap.size w W3 := Below.step b3 (by simp; omega) (by (repeat (first | exact Below.refl _ _ | exact Hbl.out | refine Below.ext ?_ (by first | omega | (simp; omega) | simp) | refine Below.setCell ?_ (by first | omega | (simp; omega) | simp) _ | refine Below.alloc ?_ (by first | omega | (simp; omega) | simp) _ | refine Below.drew ?_ | refine below_drewN ?_ _ | refine Below.step (by assumption) (by first | omega | (simp; omega) | simp) ?_)))
      have b3' := B3
      clear b3
      go_wp2_with fail
      have hltz : w.heap.size + 1 < W3.heap.size := World.block_lt_of_cell? W3 _ z0
      go_region
      all_goals
        go_wp2
        have HBz := B3
        obtain ⟨W9, hW9⟩ : ∃ W9, W9 = ((W3.setCell ⟨w.heap.size + 1, 0, none⟩ (.int .i64 (k : Int))).setCell ⟨w.heap.size + 1, 1, none⟩ (.int .i64 a)).setCell ⟨w.heap.size + 1, 2, none⟩ (.int .i64 r) := ⟨_, rfl⟩
        have hz9 : W9.heap.size = W3.heap.size := by rw [hW9]; simp
        have B9 : Below w.heap.size w W9 := by rw [hW9]; exact Below.setCell (Below.setCell (Below.setCell B3 (Nat.le_succ _) _) (Nat.le_succ _) _) (Nat.le_succ _) _
        have hs3 := set3 (v0 := .int .i64 (k : Int)) (v1 := .int .i64 a) (v2 := .int .i64 r) z0 z1 z2
        rw [← hW9] at hs3 ⊢
        obtain ⟨s0, s1, s2⟩ := hs3
        have T1 : TreeC w.heap.size (W9.alloc (.cells #[] 30)).drew (.slice (some ⟨W3.heap.size, 0, none⟩) 0 0) [] [] := ((treeC_empty (ownG_empty W9 hz9.symm (Nat.le_refl _))).mono B9.size).below (Below.drew (Below.refl _ _))
        have B4 : Below w.heap.size w (W9.alloc (.cells #[] 30)).drew := Below.drew (Below.alloc B9 B9.size _)
        have e9 : Below W9.heap.size W9 (W9.alloc (.cells #[] 30)).drew := Below.drew (Below.alloc (Below.refl _ _) (Nat.le_refl _) _)
        have p0 := (e9.cell (p := ⟨w.heap.size + 1, 0, none⟩) (by rw [hz9]; exact hltz)).trans s0
        have p1 := (e9.cell (p := ⟨w.heap.size + 1, 1, none⟩) (by rw [hz9]; exact hltz)).trans s1
        have p2 := (e9.cell (p := ⟨w.heap.size + 1, 2, none⟩) (by rw [hz9]; exact hltz)).trans s2
        generalize hW4 : World.drew _ = W4 at p0 p1 p2 B4 T1 ⊢
        have HB := Lib.hid B4
        have HT := Lib.hid T1
        clear B4 B3 HBz T1 z0 z1 z2 c0 c1 c2 f0 f1 f2 hW4 e9 s0 s1 s2 hW9 B9
        refine bodyPost_ret (v := .tuple #[.slice (some ⟨W3.heap.size, 0, none⟩) 0 0, .agg #[.int .i64 (k : Int), .int .i64 a, .int .i64 r], .int .i64 3]) ?_ rfl ?_
        · simp [results, Try.results34, go_sem, p0, p1, p2]
        · rw [HR.out]
          first | exact ⟨_, rfl, ⟨[], HT.out⟩, HB.out⟩ | exact ⟨_, [], rfl, HT.out, HB.out⟩
end Go.Proofs.Ythcmecgmidopoaa
