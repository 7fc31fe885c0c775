/- Draws that are other draws. -/
import Derived.Test.YtkennmpbmbacpaaGreatDoorDrawF
set_option linter.unusedSimpArgs false
set_option linter.unusedVariables false
set_option linter.unusedSectionVars false
namespace Go.Proofs.YtkennmpbmbacpaaGreatDoor
open Go.RowKit

set_option maxHeartbeats 1000000 in
theorem drawDN_any (a : Option Addr) (len cap : Nat) (zs : List Int) (w : World) (hrow : IsRow .u8 w a len cap zs) : Calls Tryz.prog 10 #[.slice a len cap] w (GotF w) := by
  have hrow2 := hrow.below (Below.alloc (Below.refl w.heap.size w) (Nat.le_refl _) (.cells #[.int .i64 0, .int .i64 0, .int .i64 0, .int .i64 0] 25))
  go_enter Tryz.func10, Tryz.ntmps10
  go_wp2_with fail
  refine (drawFN_any a len cap zs _ hrow2).mono ?_
  rintro e w1 ⟨v, t, a0, b0, c0, d0, s, rfl, hR, h1, h2, hs, hB⟩
  have y0 : w1.cell? ⟨w.heap.size, 0, none⟩ = some (.int .i64 0) := (hB.cell (p := ⟨w.heap.size, 0, none⟩) (by simp)).trans (by go_simp)
  have y1 : w1.cell? ⟨w.heap.size, 1, none⟩ = some (.int .i64 0) := (hB.cell (p := ⟨w.heap.size, 1, none⟩) (by simp)).trans (by go_simp)
  have y2 : w1.cell? ⟨w.heap.size, 2, none⟩ = some (.int .i64 0) := (hB.cell (p := ⟨w.heap.size, 2, none⟩) (by simp)).trans (by go_simp)
  have y3 : w1.cell? ⟨w.heap.size, 3, none⟩ = some (.int .i64 0) := (hB.cell (p := ⟨w.heap.size, 3, none⟩) (by simp)).trans (by go_simp)
  have f0 : w1.frozen? ⟨w.heap.size, 0, none⟩ = false := (hB.frozen (p := ⟨w.heap.size, 0, none⟩) (by simp)).trans (by go_simp)
  have f1 : w1.frozen? ⟨w.heap.size, 1, none⟩ = false := (hB.frozen (p := ⟨w.heap.size, 1, none⟩) (by simp)).trans (by go_simp)
  have f2 : w1.frozen? ⟨w.heap.size, 2, none⟩ = false := (hB.frozen (p := ⟨w.heap.size, 2, none⟩) (by simp)).trans (by go_simp)
  have f3 : w1.frozen? ⟨w.heap.size, 3, none⟩ = false := (hB.frozen (p := ⟨w.heap.size, 3, none⟩) (by simp)).trans (by go_simp)
  obtain ⟨cs, hC⟩ := hR
  obtain ⟨A1, cap1, rfl⟩ := (TreeO.r ⟨cs, hC⟩).shape
  have HC := Lib.hid hC
  have HB := Lib.hid (Below.trans (Below.alloc (Below.refl w.heap.size w) (Nat.le_refl _) (.cells #[.int .i64 0, .int .i64 0, .int .i64 0, .int .i64 0] 25)) (Below.mono hB (by simp)))
  have hzs : (w.alloc (.cells #[.int .i64 0, .int .i64 0, .int .i64 0, .int .i64 0] 25)).heap.size = w.heap.size + 1 := by simp
  have Hzs := Lib.hid hzs
  have hz1 : w.heap.size < w1.heap.size := by have := hB.size; omega
  clear hC hB hzs hrow hrow2
  go_wp2
  refine bodyPost_ret (v := .tuple #[.slice A1 t.length cap1, .agg #[.int .i64 a0, .int .i64 b0, .int .i64 c0, .int .i64 d0], .string s]) ?_ rfl ?_
  · simp only [results, Tryz.results10]
    go_simp
  · refine ⟨_, t, _, _, _, _, _, rfl, ⟨cs, TreeC.mono (B := (w.alloc (.cells #[.int .i64 0, .int .i64 0, .int .i64 0, .int .i64 0] 25)).heap.size) ?_ (by rw [Hzs.out]; omega)⟩, h1, h2, hs, ?_⟩
    · have hlt : w.heap.size < (w.alloc (.cells #[.int .i64 0, .int .i64 0, .int .i64 0, .int .i64 0] 25)).heap.size := by rw [Hzs.out]; omega
      exact (((HC.out.rset hlt).rset hlt).rset hlt).rset hlt
    · exact Below.setCell (Below.setCell (Below.setCell (Below.setCell HB.out (Nat.le_refl _) _) (Nat.le_refl _) _) (Nat.le_refl _) _) (Nat.le_refl _) _
set_option maxHeartbeats 1000000 in
theorem drawDA_any (a : Option Addr) (len cap : Nat) (zs : List Int) (w : World) (hrow : IsRow .u8 w a len cap zs) : Calls Tryz.prog 26 #[.slice a len cap] w (GotF w) := by
  have hrow2 := hrow.below (Below.alloc (Below.refl w.heap.size w) (Nat.le_refl _) (.cells #[.int .i64 0, .int .i64 0, .int .i64 0, .int .i64 0] 25))
  go_enter Tryz.func26, Tryz.ntmps26
  go_wp2_with fail
  refine (drawFN_any a len cap zs _ hrow2).mono ?_
  rintro e w1 ⟨v, t, a0, b0, c0, d0, s, rfl, hR, h1, h2, hs, hB⟩
  have y0 : w1.cell? ⟨w.heap.size, 0, none⟩ = some (.int .i64 0) := (hB.cell (p := ⟨w.heap.size, 0, none⟩) (by simp)).trans (by go_simp)
  have y1 : w1.cell? ⟨w.heap.size, 1, none⟩ = some (.int .i64 0) := (hB.cell (p := ⟨w.heap.size, 1, none⟩) (by simp)).trans (by go_simp)
  have y2 : w1.cell? ⟨w.heap.size, 2, none⟩ = some (.int .i64 0) := (hB.cell (p := ⟨w.heap.size, 2, none⟩) (by simp)).trans (by go_simp)
  have y3 : w1.cell? ⟨w.heap.size, 3, none⟩ = some (.int .i64 0) := (hB.cell (p := ⟨w.heap.size, 3, none⟩) (by simp)).trans (by go_simp)
  have f0 : w1.frozen? ⟨w.heap.size, 0, none⟩ = false := (hB.frozen (p := ⟨w.heap.size, 0, none⟩) (by simp)).trans (by go_simp)
  have f1 : w1.frozen? ⟨w.heap.size, 1, none⟩ = false := (hB.frozen (p := ⟨w.heap.size, 1, none⟩) (by simp)).trans (by go_simp)
  have f2 : w1.frozen? ⟨w.heap.size, 2, none⟩ = false := (hB.frozen (p := ⟨w.heap.size, 2, none⟩) (by simp)).trans (by go_simp)
  have f3 : w1.frozen? ⟨w.heap.size, 3, none⟩ = false := (hB.frozen (p := ⟨w.heap.size, 3, none⟩) (by simp)).trans (by go_simp)
  obtain ⟨cs, hC⟩ := hR
  obtain ⟨A1, cap1, rfl⟩ := (TreeO.r ⟨cs, hC⟩).shape
  have HC := Lib.hid hC
  have HB := Lib.hid (Below.trans (Below.alloc (Below.refl w.heap.size w) (Nat.le_refl _) (.cells #[.int .i64 0, .int .i64 0, .int .i64 0, .int .i64 0] 25)) (Below.mono hB (by simp)))
  have hzs : (w.alloc (.cells #[.int .i64 0, .int .i64 0, .int .i64 0, .int .i64 0] 25)).heap.size = w.heap.size + 1 := by simp
  have Hzs := Lib.hid hzs
  have hz1 : w.heap.size < w1.heap.size := by have := hB.size; omega
  clear hC hB hzs hrow hrow2
  go_wp2
  refine bodyPost_ret (v := .tuple #[.slice A1 t.length cap1, .agg #[.int .i64 a0, .int .i64 b0, .int .i64 c0, .int .i64 d0], .string s]) ?_ rfl ?_
  · simp only [results, Tryz.results26]
    go_simp
  · refine ⟨_, t, _, _, _, _, _, rfl, ⟨cs, TreeC.mono (B := (w.alloc (.cells #[.int .i64 0, .int .i64 0, .int .i64 0, .int .i64 0] 25)).heap.size) ?_ (by rw [Hzs.out]; omega)⟩, h1, h2, hs, ?_⟩
    · have hlt : w.heap.size < (w.alloc (.cells #[.int .i64 0, .int .i64 0, .int .i64 0, .int .i64 0] 25)).heap.size := by rw [Hzs.out]; omega
      exact (((HC.out.rset hlt).rset hlt).rset hlt).rset hlt
    · exact Below.setCell (Below.setCell (Below.setCell (Below.setCell HB.out (Nat.le_refl _) _) (Nat.le_refl _) _) (Nat.le_refl _) _) (Nat.le_refl _) _
end Go.Proofs.YtkennmpbmbacpaaGreatDoor
